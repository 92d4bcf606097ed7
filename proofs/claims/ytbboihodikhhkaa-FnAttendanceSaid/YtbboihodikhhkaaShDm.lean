/- What the law of attendance draws; sheets that are alike. No condition. -/
import Derived.Test.YtbboihodikhhkaaShDl
import Derived.Test.YtbboihodikhhkaaShM
import Derived.Test.YtbboihodikhhkaaDrawH
import Derived.Test.YtbboihodikhhkaaDrawKA
import Derived.Test.YtbboihodikhhkaaMkB
namespace Go.Proofs.Ytbboihodikhhkaa
open Go.RowKit
attribute [local go_sem ↓] Go.wp_at_zero Go.wp_at_succ

set_option maxHeartbeats 4000000 in
theorem likeSheets_raw (u v : Value) (xs ys : List H2) (w : World) (lo lo' : Nat) (ha : SlH w lo w.heap.size u xs) (hb : SlH w lo' w.heap.size v ys) (he : xs.map H2.ct = ys.map H2.ct) :
    Calls Try.prog 30 #[u, v] w fun e w' => e = .returned (.bool true) ∧ Below w.heap.size w w' := by
  obtain ⟨A, c, rfl, hc1, hc2⟩ := ha.form
  obtain ⟨A', c', rfl, hc1', hc2'⟩ := hb.form
  have hl : xs.length = ys.length := by have := congrArg List.length he; simpa using this
  have hne : ((xs.length : Int) != (ys.length : Int)) = false := by simp [hl]
  have Hl := Lib.hid hl
  have He := Lib.hid he
  clear hl he
  go_enter Try.func30, Try.ntmps30
  go_wp2_with fail
  go_loopw [5] (fun i wr => ∃ (k : Nat), i = .int .i64 k ∧ k ≤ xs.length ∧ Below w.heap.size w wr) (fun i wr => xs.length - (intOf i).toNat)
  case atStart => exact ⟨0, rfl, Nat.zero_le _, Below.refl _ _⟩
  case round =>
    obtain ⟨k, rfl, hk, hbr⟩ := hrel
    by_cases hlt : k < xs.length
    · have hlt' : k < ys.length := by have := Hl.out; omega
      obtain ⟨x, hx⟩ := some_at hlt
      obtain ⟨y, hy⟩ := some_at hlt'
      have hxy : x.ct = y.ct := by
        have h1 := congrArg (fun l => l[k]?) He.out
        simp only [List.getElem?_map, hx, hy, Option.map_some] at h1
        exact Option.some.inj h1
      obtain ⟨b, off, rfl, _, hbb, c0, c1, hin⟩ := ((ha.below hbr (Nat.le_refl _)).more (Nat.le_refl _) hbr.size).at_ hx
      obtain ⟨b', off', rfl, _, hbb', d0, d1, hin'⟩ := ((hb.below hbr (Nat.le_refl _)).more (Nat.le_refl _) hbr.size).at_ hy
      clear hx hy
      obtain ⟨d, XA, xc, p⟩ := x
      obtain ⟨d2, YA, yc, p2⟩ := y
      have e1 : d = d2 := congrArg Prod.fst hxy
      have e2 : p = p2 := congrArg Prod.snd hxy
      clear hxy
      subst e1 e2
      dsimp only at c0 c1 hin d0 d1 hin'
      go_wp2_with fail
      refine wp_region_ext (by kernel_rfl) (by kernel_rfl) ?_
      repeat (go_big_quiet_step ((go_at_call 23; with_reducible exact calls_ext (likeInts_same _ _ p _ _ _ (SlR.ext hin (Nat.le_refl _) _) (SlR.ext hin' (Nat.le_refl _) _)))))
      refine wpQuiet_nil ?_
      intro w2 hb2
      go_wp2_with fail
      go_roundw
      case rel => exact ⟨k + 1, by go_num, hlt, hbr.trans (hb2.mono hbr.size)⟩
      case measure => simp [intOf]; omega
    · go_wp2_with fail
      go_ret
      exact ⟨rfl, hbr⟩
theorem likeSheets_same (u v : Value) (z : List (Int × List Int)) (w : World) (lo lo' : Nat) (ha : RdH w lo w.heap.size u z) (hb : RdH w lo' w.heap.size v z) :
    Calls Try.prog 30 #[u, v] w fun e w' => e = .returned (.bool true) ∧ Below w.heap.size w w' := by
  obtain ⟨xs, ha, h1⟩ := ha
  obtain ⟨ys, hb, h2⟩ := hb
  exact likeSheets_raw u v xs ys w lo lo' ha hb (h1.trans h2.symm)

set_option maxRecDepth 100000 in
set_option maxHeartbeats 4000000 in
theorem DrawMarkPresent_any (v : Value) (bs : List Int) (w : World) (hv : SlR u8s 1 w 0 w.heap.size v bs) (hb : ∀ b ∈ bs, 0 ≤ b ∧ b ≤ 255) :
    Calls Try.prog 29 #[v] w fun e w' => ∃ (y : Value) (z : List (Int × List Int)) (d n : Int), e = .returned (.tuple #[y, .int .i64 d, .int .i64 n]) ∧ RdH w' w.heap.size w'.heap.size y z ∧ z.length ≤ 30 ∧ Below w.heap.size w w' := by
  go_enter Try.func29, Try.ntmps29
  go_wp2_with fail
  refine (l01From_any v bs w hv hb).mono ?_
  rintro e w1 ⟨rfl, h, B⟩
  have lg := h.lt
  go_wp2_with fail
  refine (l11List_any w.heap.size w1 h).mono ?_
  clear h
  rintro e w2 ⟨vl, z, rfl, sl, lsl, h, g2⟩
  have z2 := g2.size
  replace B := gr_to_below B g2 (by omega) (by omega)
  clear g2
  have losl : w.heap.size < w1.heap.size := by omega
  obtain ⟨A, c, rfl, _, _⟩ := sl.len_form
  go_wp2_with fail
  refine (l01Next_any w.heap.size 20 w2 h).mono ?_
  clear h
  rintro e w3 ⟨r3, rfl, a3, b3, _, h, g3⟩
  replace b3 := b3 (by omega)
  have z3 := g3.size
  replace sl := sl.gr g3 (by omega)
  replace B := gr_to_below B g3 (by omega) (by omega)
  clear g3
  go_wp2_with fail
  refine (l01Next_any w.heap.size 20 w3 h).mono ?_
  clear h
  rintro e w4 ⟨r4, rfl, a4, b4, _, h, g4⟩
  replace b4 := b4 (by omega)
  have z4 := g4.size
  replace sl := sl.gr g4 (by omega)
  replace B := gr_to_below B g4 (by omega) (by omega)
  clear g4
  go_wp2_with fail
  refine (l01Next_any w.heap.size 20 w4 h).mono ?_
  clear h
  rintro e w5 ⟨r5, rfl, a5, b5, _, h, g5⟩
  replace b5 := b5 (by omega)
  have z5 := g5.size
  replace sl := sl.gr g5 (by omega)
  replace B := gr_to_below B g5 (by omega) (by omega)
  clear g5
  go_wp2_with fail
  refine (l01Next_any w.heap.size 20 w5 h).mono ?_
  clear h
  rintro e w6 ⟨r6, rfl, a6, b6, _, h, g6⟩
  replace b6 := b6 (by omega)
  have z6 := g6.size
  replace sl := sl.gr g6 (by omega)
  replace B := gr_to_below B g6 (by omega) (by omega)
  clear g6
  go_wp2_with fail
  refine (pick_any w.heap.size 6 [_, _, _, _, _, _] _ w6 h rfl (by decide) (by decide) (by rfl)).mono ?_
  clear h
  rintro e w7 ⟨r7, rfl, _, h, g7⟩
  have z7 := g7.size
  replace sl := sl.gr g7 (by omega)
  replace B := gr_to_below B g7 (by omega) (by omega)
  clear g7
  go_wp2_with fail
  go_ret3
  obtain ⟨xs, sl, rfl⟩ := sl
  exact ⟨_, _, _, r7, by rw [List.length_map]; rfl, ⟨xs, sl.more (by omega) (Nat.le_refl _), rfl⟩, lsl, B⟩

theorem day_cells {w : World} {lo hi b off n c : Nat} {xs : List H2} (h : SlH w lo hi (.slice (some ⟨b, off, none⟩) n c) xs) : ∀ q : Nat, q < xs.length → w.cell? ⟨b, off + q * 2, none⟩ = some (.int .i64 ((xs.getD q ⟨0, none, 0, []⟩).day)) := by
  intro q hq
  obtain ⟨x, hx⟩ := some_at hq
  obtain ⟨b', off', e, _, _, c0, _⟩ := h.at_ hx
  injection e with e
  injection e with e1 e2
  subst e1 e2
  rw [c0, List.getD_eq_getElem?_getD, hx]; rfl
set_option maxRecDepth 100000 in
set_option maxHeartbeats 4000000 in
theorem DrawAbsentOn_any (v : Value) (bs : List Int) (w : World) (hv : SlR u8s 1 w 0 w.heap.size v bs) (hb : ∀ b ∈ bs, 0 ≤ b ∧ b ≤ 255) :
    Calls Try.prog 24 #[v] w fun e w' => ∃ (y : Value) (z : List (Int × List Int)) (u : Value) (cs : List C4) (d : Int), e = .returned (.tuple #[y, u, .int .i64 d]) ∧ RdH w' w.heap.size w'.heap.size y z ∧ z.length ≤ 30 ∧ SlC4 w' w.heap.size w'.heap.size u cs ∧ cs.length ≤ 30 ∧ Below w.heap.size w w' := by
  go_enter Try.func24, Try.ntmps24
  go_wp2_with fail
  refine (l01From_any v bs w hv hb).mono ?_
  rintro e w1 ⟨rfl, h, B⟩
  have lg := h.lt
  go_wp2_with fail
  refine (l11List_any w.heap.size w1 h).mono ?_
  clear h
  rintro e w2 ⟨vl, z, rfl, sl, lsl, h, g2⟩
  have z2 := g2.size
  replace B := gr_to_below B g2 (by omega) (by omega)
  clear g2
  have losl : w.heap.size < w1.heap.size := by omega
  go_wp2_with fail
  refine (l10List_any w.heap.size w2 h).mono ?_
  clear h
  rintro e w3 ⟨vc, cs, rfl, sc, lsc, h, g3⟩
  have z3 := g3.size
  replace sl := sl.gr g3 (by omega)
  replace B := gr_to_below B g3 (by omega) (by omega)
  clear g3
  have losc : w.heap.size < w2.heap.size := by omega
  obtain ⟨xs, sl, rfl⟩ := sl
  rw [List.length_map] at lsl
  obtain ⟨Al, cl, rfl, _, _⟩ := sl.form
  obtain ⟨Ac, cc, rfl, _, _⟩ := sc.form
  by_cases h0 : 0 < xs.length
  · have h1 : (0 : Int) < (xs.length : Int) := by omega
    go_wp2_with fail
    refine (l01Next_any w.heap.size 6 w3 h).mono ?_
    clear h
    rintro e w4 ⟨r4, rfl, a4, b4, _, h, g4⟩
    replace b4 := b4 (by omega)
    have z4 := g4.size
    replace sl := (sl.grown g4 (Nat.le_refl _) (fun g hg => Or.inl (by have := Option.some.inj hg; omega))).more (Nat.le_refl _) z4
    replace sc := sc.gr g4 (by omega)
    replace B := gr_to_below B g4 (by omega) (by omega)
    clear g4
    by_cases e0 : 0 < r4
    · go_wp2_with fail
      have C1 := l01Next_any w.heap.size (xs.length : Int) w4.drew h.drew
      obtain ⟨x0, hx0⟩ := some_at h0
      obtain ⟨b, off, rfl, _⟩ := sl.at_ hx0
      clear hx0
      have AT : Hid (∀ (w5 : World) (r5 : Int), 0 ≤ r5 → (1 < (xs.length : Int) → r5 < (xs.length : Int)) → ((xs.length : Int) ≤ 1 → r5 = 0) → w4.drew.grownBy w5 (some w.heap.size) → ∃ (k : Nat), r5 = (k : Int) ∧ k < xs.length ∧ (∀ q : Nat, q < xs.length → w5.cell? ⟨b, off + q * 2, none⟩ = some (.int .i64 ((xs.getD q ⟨0, none, 0, []⟩).day))) ∧ SlH w5 w1.heap.size w5.heap.size (.slice (some ⟨b, off, none⟩) xs.length cl) xs ∧ SlC4 w5 w2.heap.size w5.heap.size (.slice Ac cs.length cc) cs ∧ Below w.heap.size w w5) := Lib.hid (by
        intro w5 r5 a5 b5 d5 g5
        obtain ⟨k, rfl⟩ : ∃ k : Nat, r5 = (k : Int) := ⟨r5.toNat, by omega⟩
        have hk : k < xs.length := nxt_lt b5 d5 h0
        have sl5 := (sl.grown (grownBy_trans (gr_refl_drew w4) g5) (Nat.le_refl _) (fun g hg => Or.inl (by have := Option.some.inj hg; omega))).more (Nat.le_refl _) (grownBy_trans (gr_refl_drew w4) g5).size
        exact ⟨k, rfl, hk, day_cells sl5, sl5, sc.gr (grownBy_trans (gr_refl_drew w4) g5) (by omega), gr_to_below B (grownBy_trans (gr_refl_drew w4) g5) (by omega) (by omega)⟩)
      have i0 := day_cells sl
      have i1 : ∀ q : Nat, q < xs.length → w4.drew.cell? ⟨b, off + q * 2, none⟩ = some (.int .i64 ((xs.getD q ⟨0, none, 0, []⟩).day)) := i0
      clear sl sc B h
      go_region_held3 (fun w' => ∀ q : Nat, q < xs.length → w'.cell? ⟨b, off + q * 2, none⟩ = some (.int .i64 ((xs.getD q ⟨0, none, 0, []⟩).day))) (first | exact i0 | exact i1 | exact c0) (first
        | (go_at_call 59; (with_reducible refine C1.mono ?_); rintro e w5 ⟨r5, rfl, a5, b5, d5, h5, g5⟩; obtain ⟨k, rfl, hk, c0, sl5, sc5, B5⟩ := AT.out w5 r5 a5 b5 d5 g5; have hk0 : (0 : Int) ≤ (k : Int) := Int.natCast_nonneg k))
      go_wp2_with fail
      go_ret3
      exact ⟨_, _, _, cs, _, rfl, ⟨xs, sl5.more (by omega) (Nat.le_refl _), rfl⟩, by rw [List.length_map]; exact lsl, sc5.more (by omega) (Nat.le_refl _), lsc, B5⟩
    · go_wp2_with fail
      refine (l02Day_any w.heap.size w4 h).mono ?_
      clear h
      rintro e w5 ⟨n, rfl, h, g5⟩
      have z5 := g5.size
      replace sl := (sl.grown g5 (Nat.le_refl _) (fun g hg => Or.inl (by have := Option.some.inj hg; omega))).more (Nat.le_refl _) z5
      replace sc := sc.gr g5 (by omega)
      replace B := gr_to_below B g5 (by omega) (by omega)
      clear g5
      go_wp2_with fail
      go_ret3
      exact ⟨_, _, _, cs, n, rfl, ⟨xs, sl.more (by omega) (Nat.le_refl _), rfl⟩, by rw [List.length_map]; exact lsl, sc.more (by omega) (Nat.le_refl _), lsc, B⟩
  · have h1 : ¬ (0 : Int) < (xs.length : Int) := by omega
    go_wp2_with fail
    refine (l02Day_any w.heap.size w3 h).mono ?_
    clear h
    rintro e w5 ⟨n, rfl, h, g5⟩
    have z5 := g5.size
    replace sl := (sl.grown g5 (Nat.le_refl _) (fun g hg => Or.inl (by have := Option.some.inj hg; omega))).more (Nat.le_refl _) z5
    replace sc := sc.gr g5 (by omega)
    replace B := gr_to_below B g5 (by omega) (by omega)
    clear g5
    go_wp2_with fail
    go_ret3
    exact ⟨_, _, _, cs, n, rfl, ⟨xs, sl.more (by omega) (Nat.le_refl _), rfl⟩, by rw [List.length_map]; exact lsl, sc.more (by omega) (Nat.le_refl _), lsc, B⟩
end Go.Proofs.Ytbboihodikhhkaa
