/- MostPresent: the program's, which counts in a map. No condition. -/
import Derived.Test.YtbboihodikhhkaaShQ
import Derived.Maps.OwnOps
import Derived.Maps.RangeWalk
import Derived.Maps.Views
namespace Go.Proofs.Ytbboihodikhhkaa
open Go.RowKit Go.Maps
attribute [local go_sem ↓] Go.wp_at_zero Go.wp_at_succ

theorem lawI : Keyed Try.prog 2 := int_keyed Try.underlying2
theorem zeroI (w : World) : (zeroValue 2).run Try.prog w = .ok (.int .i64 0) w := by kernel_rfl
/-- A map holds how often each number stands on a list. -/
def MapOf (D : DataW Unit) (zs : List Int) : Prop := Maps.IsMap D ∧ ∀ x : Int, D.atKey (.int .i64 x) (.lit (.int .i64 0)) = .lit (.int .i64 (cntL zs x)) ∧ Maps.has D (.int .i64 x) = decide (0 < cntL zs x)
theorem MapOf.start : MapOf (.map []) [] := ⟨Maps.isMap_empty, fun x => ⟨rfl, rfl⟩⟩
theorem MapOf.val {D : DataW Unit} {zs : List Int} {x c : Int} (h : MapOf D zs) (hat : D.atKey (.int .i64 x) (.lit (.int .i64 0)) = .lit (.int .i64 c)) : c = (cntL zs x : Int) := by
  rw [(h.2 x).1] at hat
  injection hat with hat
  injection hat with _ hat
  exact hat.symm
theorem MapOf.step {D : DataW Unit} {zs : List Int} (h : MapOf D zs) (y : Int) : MapOf (D.put (.int .i64 y) (.lit (.int .i64 ((cntL zs y : Int) + 1)))) (zs ++ [y]) := by
  refine ⟨h.1.put _ _, fun x => ?_⟩
  by_cases e : x = y
  · subst e
    rw [Maps.atKey_put_same h.1 (show WideAt.IsKeyLit (Lit.int .i64 x) from trivial), Maps.has_put_same h.1 (show WideAt.IsKeyLit (Lit.int .i64 x) from trivial), cntL_app, cntL_one, if_pos rfl]
    exact ⟨rfl, by simp⟩
  · have hne : (Lit.int .i64 x) ≠ (Lit.int .i64 y) := by intro q; injection q with _ q; exact e q
    rw [Maps.atKey_put_other hne, Maps.has_put_other hne, cntL_app, cntL_one, if_neg (fun q => e q.symm)]
    exact h.2 x

def BestOf (left : Lit → Bool) (zs : List Int) (b : Int) : Prop := (b = 0 ∧ ∀ x : Int, 0 < cntL zs x → left (.int .i64 x) = true) ∨ (1 ≤ b ∧ 0 < cntL zs b ∧ ∀ x : Int, 0 < cntL zs x → left (.int .i64 x) = false → cntL zs x < cntL zs b ∨ (cntL zs x = cntL zs b ∧ b ≤ x))
theorem gone {left : Lit → Bool} {x y : Int} (h : (left (.int .i64 y) && !(Lit.int .i64 y).sameKey (.int .i64 x)) = false) : left (.int .i64 y) = false ∨ y = x := by
  cases hl : left (.int .i64 y)
  · exact .inl rfl
  · rw [hl] at h
    right
    have h2 : (Lit.int .i64 y).sameKey (.int .i64 x) = true := by simpa using h
    have := WideAt.sameKey_eq h2
    injection this
theorem BestOf.take {left : Lit → Bool} {zs : List Int} {b x : Int} (h : BestOf left zs b) (hx : 1 ≤ x) (hc : 0 < cntL zs x) (hw : b = 0 ∨ cntL zs b < cntL zs x ∨ (cntL zs x = cntL zs b ∧ x < b)) : BestOf (fun z => left z && !z.sameKey (.int .i64 x)) zs x := by
  refine .inr ⟨hx, hc, fun y hy hl => ?_⟩
  rcases gone hl with hl | hl
  · rcases h with ⟨hb, h⟩ | ⟨hb, h1, h2⟩
    · rw [h y hy] at hl; cases hl
    · have := h2 y hy hl
      omega
  · rw [hl]; exact .inr ⟨rfl, Int.le_refl _⟩
theorem BestOf.pass {left : Lit → Bool} {zs : List Int} {b x : Int} (h : BestOf left zs b) (hb : b ≠ 0) (hw : ¬ (cntL zs b < cntL zs x ∨ (cntL zs x = cntL zs b ∧ x < b))) : BestOf (fun z => left z && !z.sameKey (.int .i64 x)) zs b := by
  rcases h with ⟨hb', h⟩ | ⟨hb', h1, h2⟩
  · exact absurd hb' hb
  · refine .inr ⟨hb', h1, fun y hy hl => ?_⟩
    rcases gone hl with hl | hl
    · exact h2 y hy hl
    · rw [hl]; omega

set_option maxRecDepth 100000 in
set_option maxHeartbeats 8000000 in
theorem implMostPresent_any (v : Value) (z : List (Int × List Int)) (w : World) (lo : Nat) (h : RdH w lo w.heap.size v z) :
    Calls Try.prog 10 #[v] w fun e w' => e = .returned (.tuple #[.int .i64 (mostF z).1, .int .i64 (mostF z).2.1, .int .i64 (mostF z).2.2]) ∧ Below w.heap.size w w' := by
  have hz := h
  obtain ⟨xs, h, rfl⟩ := h
  obtain ⟨A, c, rfl, hc1, hc2⟩ := h.form
  have hmm := @run_makeMap Try.prog
  go_enter Try.func10, Try.ntmps10
  go_wp2_with fail
  refine (implAreSheets_z _ _ w lo hz).mono ?_
  clear hz
  rintro e w1 ⟨rfl, hb1⟩
  cases h1 : sheetsOk (xs.map H2.ct)
  · have hF : mostF (xs.map H2.ct) = (0, 0, 1) := by simp [mostF, h1]
    have HF := Lib.hid hF
    clear hF
    go_wp2_with fail
    go_ret3
    exact ⟨by rw [HF.out]; rfl, hb1⟩
  have hlen := sheetsOk_len h1
  rw [List.length_map] at hlen
  have hrows := sheetsOk_rows h1
  have Hrows := Lib.hid hrows
  have H1 := Lib.hid h1
  clear hrows h1
  have h' : SlH w1 lo w1.heap.size (.slice A xs.length c) xs := (h.below hb1 (Nat.le_refl _)).more (Nat.le_refl _) hb1.size
  go_wp2_with fail
  go_loopw [19] (fun i wr => ∃ (k n : Nat) (D : DataW Unit), i = .int .i64 k ∧ k ≤ xs.length ∧ n ≤ 60 * k ∧ wr.ownsMap Try.prog 2 (plainElem Try.prog 2) w1.heap.size n D ∧ Hid (MapOf D (((xs.map H2.ct).take k).flatMap (·.2)) ∧ (((xs.map H2.ct).take k).flatMap (·.2)).length ≤ 60 * k) ∧ Below w1.heap.size w1 wr) (fun i wr => xs.length - (intOf i).toNat)
  case atStart => exact ⟨0, 0, _, rfl, Nat.zero_le _, Nat.zero_le _, World.ownsMap_made _ _ _ _, Lib.hid ⟨MapOf.start, Nat.zero_le _⟩, (Below.refl _ _).alloc (Nat.le_refl _) _⟩
  case round =>
    obtain ⟨k, n, D, rfl, hk, hn, hown, HM, hbr⟩ := hrel
    have hsz := hbr.size
    by_cases hlt : k < xs.length
    · obtain ⟨x, hx⟩ := some_at hlt
      obtain ⟨b, off, rfl, _, hb, c0, c1, _⟩ := ((h'.below hbr (Nat.le_refl _)).more (Nat.le_refl _) hbr.size).at_ hx
      have hin : SlI w1 lo w1.heap.size (.slice x.A x.pres.length x.c) x.pres := by
        obtain ⟨_, _, _, _, _, _, _, hin⟩ := h'.at_ hx
        exact hin
      have hzx : (xs.map H2.ct)[k]? = some (x.day, x.pres) := by rw [List.getElem?_map, hx]; rfl
      have hrow := Hrows.out _ (List.mem_of_getElem? hzx)
      have hup := incGo_up _ _ hrow.1
      have hrl : x.pres.length ≤ 60 := hrow.2
      have Hup := Lib.hid hup.1
      have Htk := Lib.hid (take_snoc hzx)
      clear hx hzx hrow hup
      have hbr1 := hbr.alloc hsz (.cells #[.int .i64 x.day, .slice x.A x.pres.length x.c] 56)
      have hown1 := hown.alloc (.cells #[.int .i64 x.day, .slice x.A x.pres.length x.c] 56)
      obtain ⟨day, AA, cc, pres⟩ := x
      dsimp only at *
      obtain ⟨hcc1, hcc2⟩ := hin.caps
      go_wp2_with fail
      generalize (wr.alloc (.cells #[.int .i64 day, .slice AA pres.length cc] 56)) = wa at *
      clear c0 c1 hown hbr
      have hlw := hbr1.size
      go_loopw [26] (fun i wr2 => ∃ (j m : Nat) (D2 : DataW Unit), i = .int .i64 j ∧ j ≤ pres.length ∧ m ≤ 60 * k + j ∧ wr2.ownsMap Try.prog 2 (plainElem Try.prog 2) w1.heap.size m D2 ∧ Hid (MapOf D2 (((xs.map H2.ct).take k).flatMap (·.2) ++ pres.take j)) ∧ Below w1.heap.size w1 wr2) (fun i wr2 => pres.length - (intOf i).toNat)
      case atStart => exact ⟨0, n, D, rfl, Nat.zero_le _, by omega, hown1, Lib.hid (by simpa using HM.out.1), hbr1⟩
      case round =>
        obtain ⟨j, m, D2, rfl, hj, hm, hown2, HM2, hbr2⟩ := hrel
        have hsz2 := hbr2.size
        by_cases hlt2 : j < pres.length
        · obtain ⟨y, hy⟩ := some_at hlt2
          have hy2 := Hup.out y (List.mem_of_getElem? hy)
          obtain ⟨b2, off2, rfl, _, hb2, c3⟩ := ((hin.below hbr2 (Nat.le_refl _)).more (Nat.le_refl _) hbr2.size).int_at hy
          have Hy := Lib.hid (take_snoc hy)
          have hcl : cntL (((xs.map H2.ct).take k).flatMap (·.2) ++ pres.take j) y ≤ 10000000 := by
            have h1 := cntL_le (((xs.map H2.ct).take k).flatMap (·.2) ++ pres.take j) y
            rw [List.length_append, List.length_take] at h1
            have := HM.out.2
            omega
          have hmx : m < maxLen := by show m < 9223372036854775807; omega
          have hwf : (Lit.int .i64 y).wf = true := WalkArith.wf_i64 (by omega)
          clear hy
          go_wp2_with first
            | (at_lookup
               refine wpList_lookup_own_int _ rfl _ _ 59 rfl 2 2 .i64 lawI Try.underlying59 Try.underlying2 (zeroI _) _ m D2 rfl hown2 _ _ rfl (keyOf_int_mk Try.underlying2 hwf) ?_
               intro c hat hwc
               obtain rfl := MapOf.val HM2.out hat
               clear hat hwc)
            | (at_mapUpdate; refine Hid.out ?_)
          refine Lib.hid ?_
          refine wpList_mapUpdate_own _ rfl _ _ _ 59 rfl 2 2 lawI Try.underlying59 _ _ m D2 rfl hown2 hmx _ _ _ rfl rfl (keyOf_int_mk Try.underlying2 hwf) _ _ (plainElem_int Try.underlying2 (WalkArith.wf_i64 (by omega))) ?_
          intro w3 hown3 hg3
          go_wp2_with fail
          go_roundw
          case rel => exact ⟨j + 1, m + 1, _, by go_num, hlt2, by omega, hown3, Lib.hid (by rw [Hy.out, ← List.append_assoc]; exact HM2.out.step y), below_put hbr2 hg3 hsz2 (Nat.le_refl _)⟩
          case measure => simp [intOf]; omega
        · have hjn : j = pres.length := by omega
          subst hjn
          have hfl : (((xs.map H2.ct).take (k + 1)).flatMap (·.2)) = ((xs.map H2.ct).take k).flatMap (·.2) ++ pres := by rw [Htk.out, List.flatMap_append]; simp
          have HM3 : Hid (MapOf D2 (((xs.map H2.ct).take (k + 1)).flatMap (·.2)) ∧ (((xs.map H2.ct).take (k + 1)).flatMap (·.2)).length ≤ 60 * (k + 1)) := Lib.hid (by
            rw [hfl, List.length_append]
            have := HM2.out
            rw [List.take_length] at this
            exact ⟨this, by have := HM.out.2; omega⟩)
          clear HM2 HM hfl
          go_wp2_with fail
          go_roundw
          case rel => exact ⟨k + 1, m, D2, by go_num, hlt, by omega, hown2, HM3, hbr2⟩
          case measure => simp [intOf]; omega
    · have hkn : k = xs.length := by omega
      subst hkn
      have HM1 : Hid (MapOf D ((xs.map H2.ct).flatMap (·.2))) := Lib.hid (by
        have := HM.out.1
        rwa [List.take_of_length_le (by simp)] at this)
      have HL := Lib.hid HM.out.2
      rw [List.take_of_length_le (by simp)] at HL
      clear HM
      go_wp2_with (first | (at_range; refine Hid.out ?_))
      refine Lib.hid ?_
      refine wpList_range_own _ rfl _ _ rfl 2 2 lawI Try.underlying59 _ _ n D rfl hown ?_
      intro w2 hrg hg2 hs2
      have hbr2 : Below w1.heap.size w1 w2 := (hbr.grown hg2 hsz (by simp))
      go_wp2_with fail
      go_frame
      go_loopw [6] (fun q w3 => ∃ (left : Lit → Bool) (cnt : Nat) (b : Int), q = .int .i64 b ∧ w3.ranges Try.prog 2 (plainElem Try.prog 2) w1.heap.size wr.heap.size n D left cnt ∧ Hid (BestOf left ((xs.map H2.ct).flatMap (·.2)) b) ∧ Below w1.heap.size w1 w3) (fun q w3 => w3.rangeLeft w1.heap.size wr.heap.size)
      case atStart => exact ⟨_, _, 0, rfl, hrg, Lib.hid (.inl ⟨rfl, fun x hx => by rw [(HM1.out.2 x).2]; exact decide_eq_true hx⟩), hbr2⟩
      case round =>
        obtain ⟨left, cnt, b, rfl, hrg3, HB, hbr3⟩ := hrel
        have hsz3 := hbr3.size
        have hpos : ∀ x, 0 < cntL ((xs.map H2.ct).flatMap (·.2)) x → 1 ≤ x ∧ x ≤ 1000000 := fun x hx => by
          obtain ⟨s, hs, hx⟩ := List.mem_flatMap.1 (cntL_pos.1 hx)
          exact (incGo_up _ _ (Hrows.out s hs).1).1 x hx
        have hcmax : ∀ x, cntL ((xs.map H2.ct).flatMap (·.2)) x ≤ 10000000 := fun x => by
          have h1 := cntL_le ((xs.map H2.ct).flatMap (·.2)) x
          have := HL.out
          omega
        go_wp2_with (first | (at_next; refine Hid.out ?_))
        refine Lib.hid ?_
        refine wpList_next_ranges_ii _ rfl _ rfl 2 2 .i64 .i64 lawI Try.underlying2 Try.underlying2 _ _ n D left cnt rfl hrg3 ?_ ?_
        · intro hc0 hl0
          by_cases hb0 : b = 0
          · subst hb0
            have HF := Lib.hid (most_none H1.out (fun x => by
              rcases HB.out with ⟨_, h⟩ | ⟨h, _⟩
              · by_cases e : cntL ((xs.map H2.ct).flatMap (·.2)) x = 0
                · exact e
                · have := h x (by omega)
                  rw [hl0] at this; cases this
              · omega))
            go_wp2_with fail
            go_ret3
            exact ⟨by rw [HF.out]; rfl, hb1.trans (hbr3.mono hb1.size)⟩
          · obtain ⟨hbp, hbc, HA⟩ : 1 ≤ b ∧ 0 < cntL ((xs.map H2.ct).flatMap (·.2)) b ∧ Hid (∀ x : Int, 0 < cntL ((xs.map H2.ct).flatMap (·.2)) x → cntL ((xs.map H2.ct).flatMap (·.2)) x < cntL ((xs.map H2.ct).flatMap (·.2)) b ∨ (cntL ((xs.map H2.ct).flatMap (·.2)) x = cntL ((xs.map H2.ct).flatMap (·.2)) b ∧ b ≤ x)) := by
              rcases HB.out with ⟨h, _⟩ | ⟨h1, h2, h3⟩
              · exact absurd h hb0
              · exact ⟨h1, h2, Lib.hid fun x hx => h3 x hx (hl0 _)⟩
            have HF := Lib.hid (most_eq H1.out hbc HA.out)
            have hwf : (Lit.int .i64 b).wf = true := WalkArith.wf_i64 (by have := hpos b hbc; omega)
            have hrun : ∀ w9 : World, w9.ownsMap Try.prog 2 (plainElem Try.prog 2) w1.heap.size n D → (Instr.lookup 59 (.map (some w1.heap.size)) (.int .i64 b) false).run Try.prog w9 = .ok (.int .i64 (cntL ((xs.map H2.ct).flatMap (·.2)) b : Int)) w9 := fun w9 h9 => by
              obtain ⟨c, hr, hat, _⟩ := h9.lookup_int lawI Try.underlying59 Try.underlying2 (zeroI _) (keyOf_int_mk Try.underlying2 hwf)
              obtain rfl := MapOf.val HM1.out hat
              exact hr
            have r1 := hrun _ hrg3.owns
            have r2 := hrun _ hrg3.owns.drew
            go_wp2_with fail
            go_region
            go_wp2_with fail
            go_ret3
            exact ⟨by rw [HF.out]; rfl, hb1.trans ((hbr3.drew).mono hb1.size)⟩
        · intro x cx w4 cnt4 hwx hwc hlx hat hrg4 hlt4 hg4 hs4 hen
          have hhas := Maps.has_true_of_atKey hat
          rw [(HM1.out.2 x).2] at hhas
          have hcx : 0 < cntL ((xs.map H2.ct).flatMap (·.2)) x := of_decide_eq_true hhas
          obtain rfl := MapOf.val HM1.out (hat _)
          clear hat hhas hwc
          have hx1 := hpos x hcx
          have hown4 := hrg4.owns
          have hbr4 : Below w1.heap.size w1 w4 := below_put hbr3 hg4 hsz3 (by omega)
          by_cases hb0 : b = 0
          · subst hb0
            have HB' := Lib.hid (HB.out.take hx1.1 hcx (.inl rfl))
            clear HB
            go_wp2_with fail
            exact ⟨⟨_, _, x, rfl, hrg4, HB', hbr4⟩, by rw [hrg4.left_eq, hrg3.left_eq]; exact hlt4⟩
          · have hbr := HB.out
            obtain ⟨hbp, hbc⟩ : 1 ≤ b ∧ 0 < cntL ((xs.map H2.ct).flatMap (·.2)) b := by
              rcases HB.out with ⟨h, _⟩ | ⟨h1, h2, h3⟩
              · exact absurd h hb0
              · exact ⟨h1, h2⟩
            have hwb : (Lit.int .i64 b).wf = true := WalkArith.wf_i64 (by have := hpos b hbc; omega)
            by_cases hw : cntL ((xs.map H2.ct).flatMap (·.2)) b < cntL ((xs.map H2.ct).flatMap (·.2)) x ∨ (cntL ((xs.map H2.ct).flatMap (·.2)) x = cntL ((xs.map H2.ct).flatMap (·.2)) b ∧ x < b)
            · have HB' := Lib.hid (HB.out.take hx1.1 hcx (.inr hw))
              clear HB
              obtain ⟨c, r4, hat, _⟩ := hown4.lookup_int lawI Try.underlying59 Try.underlying2 (zeroI _) (keyOf_int_mk Try.underlying2 hwb)
              obtain rfl := MapOf.val HM1.out hat
              clear hat
              rcases hw with hw | ⟨hw, hw2⟩
              · go_wp2_with fail
                exact ⟨⟨_, _, x, rfl, hrg4, HB', hbr4⟩, by rw [hrg4.left_eq, hrg3.left_eq]; exact hlt4⟩
              · go_wp2_with fail
                exact ⟨⟨_, _, x, rfl, hrg4, HB', hbr4⟩, by rw [hrg4.left_eq, hrg3.left_eq]; exact hlt4⟩
            · have HB' := Lib.hid (HB.out.pass hb0 hw)
              clear HB
              obtain ⟨c, r4, hat, _⟩ := hown4.lookup_int lawI Try.underlying59 Try.underlying2 (zeroI _) (keyOf_int_mk Try.underlying2 hwb)
              obtain rfl := MapOf.val HM1.out hat
              clear hat
              by_cases hw2 : cntL ((xs.map H2.ct).flatMap (·.2)) x = cntL ((xs.map H2.ct).flatMap (·.2)) b
              · have hw3 : ¬ x < b := fun e => hw (.inr ⟨hw2, e⟩)
                go_wp2_with fail
                exact ⟨⟨_, _, b, rfl, hrg4, HB', hbr4⟩, by rw [hrg4.left_eq, hrg3.left_eq]; exact hlt4⟩
              · have hw4 : ¬ cntL ((xs.map H2.ct).flatMap (·.2)) b < cntL ((xs.map H2.ct).flatMap (·.2)) x := fun e => hw (.inl e)
                go_wp2_with fail
                exact ⟨⟨_, _, b, rfl, hrg4, HB', hbr4⟩, by rw [hrg4.left_eq, hrg3.left_eq]; exact hlt4⟩
end Go.Proofs.Ytbboihodikhhkaa
