/- Sheets: the marks that the laws lay over a result, and the reading of them. No condition but the sizes that the law itself asks. -/
import Derived.Test.YtbboihodikhhkaaShC
namespace Go.Proofs.Ytbboihodikhhkaa
open Go.RowKit

def cntH : List (Int × List Int) → Nat
  | [] => 0
  | x :: t => 1 + x.2.length + cntH t
def marksH : Int → List (Int × List Int) → List (Int × List Int)
  | _, [] => []
  | k, x :: t => (k, marks id 1 (k + 1) x.2.length) :: marksH (k + 1 + x.2.length) t
theorem marksH_len : ∀ (z : List (Int × List Int)) (k : Int), (marksH k z).length = z.length
  | [], _ => rfl
  | x :: t, k => by rw [marksH, List.length_cons, List.length_cons, marksH_len t]
theorem cntH_bound : ∀ (z : List (Int × List Int)), (∀ x ∈ z, x.2.length ≤ 1048576) → cntH z ≤ z.length * 1048577
  | [], _ => Nat.zero_le _
  | x :: t, h => by
    have h1 := h x (by simp)
    have h2 := cntH_bound t (fun y hy => h y (by simp [hy]))
    rw [cntH, List.length_cons, Nat.add_mul]
    omega
theorem cntH_le {z : List (Int × List Int)} (h : z.length ≤ 1048576 ∧ ∀ x ∈ z, x.2.length ≤ 1048576) : cntH z ≤ 1099512676352 := by
  have h1 := cntH_bound z h.2
  have h2 : z.length * 1048577 ≤ 1048576 * 1048577 := Nat.mul_le_mul_right _ h.1
  omega
theorem cntH_snoc : ∀ (z : List (Int × List Int)) (k : Nat) (x : Int × List Int), z[k]? = some x → cntH (z.take (k + 1)) = cntH (z.take k) + 1 + x.2.length
  | [], _, _, h => by simp at h
  | y :: t, 0, x, h => by
    simp at h; subst h
    simp [cntH]
  | y :: t, k + 1, x, h => by
    have := cntH_snoc t k x (by simpa using h)
    rw [List.take_succ_cons, List.take_succ_cons, cntH, cntH, this]
    omega
theorem cntH_take : ∀ (z : List (Int × List Int)) (k : Nat), cntH (z.take k) ≤ cntH z
  | [], _ => by simp [cntH]
  | y :: t, 0 => by simp [cntH]
  | y :: t, k + 1 => by
    have := cntH_take t k
    rw [List.take_succ_cons, cntH, cntH]; omega
theorem marksH_at : ∀ (z : List (Int × List Int)) (k : Nat) (x : Int × List Int) (k0 : Int), z[k]? = some x → (marksH k0 z)[k]? = some (k0 + cntH (z.take k), marks id 1 (k0 + cntH (z.take k) + 1) x.2.length)
  | [], _, _, _, h => by simp at h
  | y :: t, 0, x, k0, h => by
    simp at h; subst h
    simp [marksH, cntH]
  | y :: t, k + 1, x, k0, h => by
    have := marksH_at t k x (k0 + 1 + y.2.length) (by simpa using h)
    rw [marksH, List.getElem?_cons_succ, this, List.take_succ_cons, cntH]
    have e : k0 + 1 + (y.2.length : Int) + (cntH (t.take k) : Int) = k0 + ((1 + y.2.length + cntH (t.take k) : Nat) : Int) := by omega
    rw [e]

def H2.sl (x : H2) : Value := .slice x.A x.pres.length x.c
theorem OwnH.sep {w : World} {base : Nat} {v : Value} {xs : List H2} (h : OwnH w base v xs) {j k : Nat} {x y : H2} (hj : xs[j]? = some y) (hk : xs[k]? = some x) (hne : j ≠ k) : ∀ g, y.sl.ownBlock = some g → x.sl.ownBlock ≠ some g := by
  obtain ⟨lj, ej⟩ := List.getElem?_eq_some_iff.1 hj
  obtain ⟨lk, ek⟩ := List.getElem?_eq_some_iff.1 hk
  have hp := List.pairwise_iff_getElem.1 h.apart
  intro g hy hx
  rcases Nat.lt_or_gt_of_ne hne with hlt | hgt
  · have := hp j k lj lk hlt
    rw [ej, ek] at this
    exact this g hy hx
  · have := hp k j lk lj hgt
    rw [ej, ek] at this
    exact this g hx hy
/-- One sheet's contents are turned; it lies where it lay. -/
theorem OwnH.turn {w W : World} {base : Nat} {v : Value} {xs : List H2} (h : OwnH w base v xs) {k : Nat} {x x' : H2} (hk : xs[k]? = some x) (hs : x'.sl = x.sl)
    (ho : OwnR H2.vals 2 W base 56 v (xs.set k x')) (hx : OwnR i64s 1 W base 2 x'.sl x'.pres)
    (hoth : ∀ j y, xs[j]? = some y → j ≠ k → OwnR i64s 1 W base 2 y.sl y.pres) : OwnH W base v (xs.set k x') := by
  obtain ⟨lk, ek⟩ := List.getElem?_eq_some_iff.1 hk
  have hm : (xs.set k x').map H2.sl = xs.map H2.sl := by
    rw [List.map_set, hs]
    have : (xs.map H2.sl)[k]? = some x.sl := by rw [List.getElem?_map, hk]; rfl
    obtain ⟨l2, e2⟩ := List.getElem?_eq_some_iff.1 this
    rw [← e2, List.set_getElem_self]
  refine ⟨ho, fun y hy => ?_, ?_, fun y hy g hg => ?_⟩
  · obtain ⟨j, hj⟩ := List.mem_iff_getElem?.1 hy
    rw [List.getElem?_set] at hj
    by_cases e : k = j
    · rw [if_pos e, if_pos lk] at hj
      have := Option.some.inj hj; subst this
      exact hx
    · rw [if_neg e] at hj
      exact hoth j y hj (fun e2 => e e2.symm)
  · have hp : (xs.map H2.sl).Pairwise (fun a b => ∀ g, a.ownBlock = some g → b.ownBlock ≠ some g) := List.pairwise_map.2 h.apart
    rw [← hm] at hp
    exact List.pairwise_map.1 hp
  · have : y.sl ∈ (xs.set k x').map H2.sl := List.mem_map_of_mem hy
    rw [hm] at this
    obtain ⟨y', hy', e⟩ := List.mem_map.1 this
    have := h.off y' hy' g hg
    have e : (Value.slice y'.A y'.pres.length y'.c) = (Value.slice y.A y.pres.length y.c) := e
    rw [← e]; exact this

theorem Chg.setCell {lo hi : Nat} {w w' : World} (h : Chg lo hi w w') {a : Addr} (ha : lo ≤ a.block ∧ a.block < hi) (u : Value) : Chg lo hi w (w'.setCell a u) :=
  h.trans (Chg.of_grown (grownBy_setCell w' a u) fun g hg => by have := Option.some.inj hg; omega)
theorem own_setDay {w : World} {base : Nat} {e : TypeId} {g cap n : Nat} {cs : List H2} {k : Nat} {x : H2} (h : OwnR H2.vals 2 w base e (.slice (some ⟨g, 0, none⟩) n cap) cs) (hk : cs[k]? = some x) (d : Int) :
    OwnR H2.vals 2 (w.setCell ⟨g, k * 2, none⟩ (.int .i64 d)) base e (.slice (some ⟨g, 0, none⟩) n cap) (cs.set k ⟨d, x.A, x.c, x.pres⟩) :=
  own_setField (f := H2.vals) (s := 2) (fun _ => rfl) h hk (j := 0) (u := .int .i64 d) (x' := ⟨d, x.A, x.c, x.pres⟩) (by omega) rfl

set_option maxRecDepth 100000 in
set_option maxHeartbeats 1000000 in
theorem markSheetS_z (v : Value) (z : List (Int × List Int)) (k0 : Int) (w : World) (lo hi : Nat) (h : OwH w lo hi v z) (hh : hi ≤ w.heap.size) (hk0 : 0 ≤ k0) (hk1 : k0 + cntH z ≤ 1152921504606846976) :
    Calls Try.prog 14 #[v, .int .i64 k0] w fun e w' => e = .returned (.int .i64 (k0 + cntH z)) ∧ OwH w' lo hi v (marksH k0 z) ∧ Chg lo hi w w' := by
  obtain ⟨A, c, rfl, hc1, hc2⟩ := h.rd.form
  go_enter Try.func14, Try.ntmps14
  go_wp2_with fail
  go_loopw [1, 5] (fun q i wr => ∃ (k : Nat) (K : Int), i = .int .i64 k ∧ q = .int .i64 K ∧ k ≤ z.length ∧ Hid (K = k0 + cntH (z.take k)) ∧ Hid (OwH wr lo hi (.slice A z.length c) ((marksH k0 z).take k ++ z.drop k)) ∧ Chg lo hi w wr) (fun q i wr => z.length - (intOf i).toNat)
  case atStart => exact ⟨0, k0, rfl, rfl, Nat.zero_le _, Lib.hid (by simp [cntH]), Lib.hid (by simpa using h), Chg.refl _ _ _⟩
  case round =>
    obtain ⟨k, K, rfl, rfl, hk, HK, Hown, hch⟩ := hrel
    have hs := hch.size
    by_cases hlt : k < z.length
    · obtain ⟨x, hx⟩ := some_at hlt
      obtain ⟨ys, hN, hct, hb1, hb2⟩ := Hown.out
      have hml := marksH_len z k0
      have hyz : (ys.map H2.ct)[k]? = some x := by
        rw [hct, List.getElem?_append_right (by rw [List.length_take]; omega), List.length_take, hml, Nat.min_eq_left (by omega), Nat.sub_self, List.getElem?_drop, Nat.add_zero]; exact hx
      obtain ⟨y, hy, hyx⟩ : ∃ y, ys[k]? = some y ∧ y.ct = x := by
        rw [List.getElem?_map] at hyz
        cases e : ys[k]? with
        | none => rw [e] at hyz; cases hyz
        | some y => rw [e] at hyz; exact ⟨y, rfl, Option.some.inj hyz⟩
      have hyl : ys.length = z.length := by
        have := congrArg List.length hct
        rw [List.length_map, List.length_append, List.length_take, List.length_drop, hml] at this; omega
      have hcs := cntH_snoc z k x hx
      have hct2 := cntH_take z (k + 1)
      have Hma := Lib.hid (marksH_at z k x k0 hx)
      have Hz := Lib.hid hx
      have Hct := Lib.hid hct
      have Hy := Lib.hid hy
      have Hyx := Lib.hid hyx
      have hpl : y.pres.length = x.2.length := by rw [← hyx]; rfl
      have HK2 : K = k0 + cntH (z.take k) := HK.out
      have hKb : 0 ≤ K ∧ K + 1 + (y.pres.length : Int) ≤ 1152921504606846976 := by omega
      have Hcs := Lib.hid hcs
      have Hpl := Lib.hid hpl
      have Hml := Lib.hid hml
      have Hyl := Lib.hid hyl
      have hky : k < ys.length := by omega
      have HK3 := Lib.hid HK2
      clear hx hct hy hyx hyz Hown hcs hct2 HK2
      have hoN : OwnR H2.vals 2 wr lo 56 (.slice A z.length c) ys := hN.outer
      obtain ⟨_, _, e1, _, _, hA⟩ := own_form (OwnR.own hoN)
      injection e1 with e1 e2 e3
      subst e1
      obtain ⟨g, rfl, hg1, hg2⟩ := hA (by omega)
      clear e2 e3
      have hrow : wr.ownsRow lo 56 2 (.slice (some ⟨g, 0, none⟩) z.length c) z.length (ys.flatMap H2.vals) := by have := OwnR.own hoN; rw [hyl] at this; exact this
      obtain ⟨_, _, f0, f1⟩ := own_rowH2 hrow hlt
      obtain ⟨_, _, ee, _, _, c0, c1, _⟩ := hN.sl.at_ Hy.out
      injection ee with ee
      injection ee with ee1 ee2
      subst ee1 ee2
      rw [Nat.zero_add] at c0 c1
      have hgb : g < hi := hb1 g rfl
      have hset := own_setDay hoN Hy.out K
      have c1' : (wr.setCell ⟨g, k * 2, none⟩ (.int .i64 K)).cell? ⟨g, k * 2 + 1, none⟩ = some (.slice y.A y.pres.length y.c) := by
        have h1 : (ys.set k ⟨K, y.A, y.c, y.pres⟩)[k]? = some ⟨K, y.A, y.c, y.pres⟩ := by rw [List.getElem?_set, if_pos rfl, if_pos hky]
        obtain ⟨b, off, ee, _, _, h3⟩ := (own_slR (f := H2.vals) (s := 2) (fun _ => rfl) hset).at_ h1
        injection ee with ee
        injection ee with ee1 ee2
        subst ee1 ee2
        have := h3 1 _ rfl
        rw [Nat.zero_add] at this
        exact this
      have hyo : OwnR i64s 1 wr lo 2 (.slice y.A y.pres.length y.c) y.pres := hN.inner y (List.mem_of_getElem? Hy.out)
      have hoff : ∀ y' ∈ ys, ∀ b, (Value.slice y'.A y'.pres.length y'.c).ownBlock = some b → b ≠ g := fun y' hy' b hb e => hN.off y' hy' g rfl (e ▸ hb)
      have hyo1 : OwnR i64s 1 (wr.setCell ⟨g, k * 2, none⟩ (.int .i64 K)) lo 2 (.slice y.A y.pres.length y.c) y.pres := hyo.setCell _ _ (fun b hb => hoff y (List.mem_of_getElem? Hy.out) b hb)
      clear hpl hml hyl
      go_wp2_with fail
      refine (markInt64S_any (.slice y.A y.pres.length y.c) y.pres.length _ (K + 1) _ lo (OwnR.own hyo1) (by omega) (by omega) (by omega)).mono ?_
      rintro e w2 ⟨rfl, om, hg⟩
      go_wp2_with fail
      have hin : ∀ b, (Value.slice y.A y.pres.length y.c).ownBlock = some b → lo ≤ b ∧ b < hi := fun b hb => ⟨(World.ownsRow.lt (OwnR.own hyo) b hb).1, hb2 y (List.mem_of_getElem? Hy.out) b hb⟩
      have hC2 : Chg lo hi w w2 := (hch.setCell (a := ⟨g, k * 2, none⟩) ⟨hg1, hgb⟩ _).trans (Chg.of_grown hg hin)
      have ho2 : OwnR H2.vals 2 w2 lo 56 (.slice (some ⟨g, 0, none⟩) z.length c) (ys.set k ⟨K, y.A, y.c, y.pres⟩) := hset.grown' hg (fun a b ha hb => by have := hoff y (List.mem_of_getElem? Hy.out) a ha; have hb : g = b := Option.some.inj hb; omega)
      have hml := Hml.out
      have hyl := Hyl.out
      have hpl := Hpl.out
      have hcs := Hcs.out
      have HK2 := HK3.out
      have hml2 : (marks id 1 (K + 1) y.pres.length).length = y.pres.length := marks_len _ _ _ _
      have ho3 : OwnR H2.vals 2 w2 lo 56 (.slice (some ⟨g, 0, none⟩) z.length c) (ys.set k ⟨K, y.A, y.c, marks id 1 (K + 1) y.pres.length⟩) := by
        have e : (ys.set k ⟨K, y.A, y.c, y.pres⟩).flatMap H2.vals = (ys.set k ⟨K, y.A, y.c, marks id 1 (K + 1) y.pres.length⟩).flatMap H2.vals := by
          simp only [List.flatMap, List.map_set, H2.vals, hml2]
        have := OwnR.own ho2
        rw [e, List.length_set] at this
        refine OwnR.mk ?_
        rw [List.length_set]; exact this
      have hN2 : OwnH w2 lo (.slice (some ⟨g, 0, none⟩) z.length c) (ys.set k ⟨K, y.A, y.c, marks id 1 (K + 1) y.pres.length⟩) := by
        refine hN.turn Hy.out (by simp [H2.sl, hml2]) ho3 (by simp only [H2.sl, hml2]; exact om) fun j y' hj hne => ?_
        have hy' := List.mem_of_getElem? hj
        refine ((hN.inner y' hy').setCell _ _ (fun b hb => hoff y' hy' b hb)).grown' hg (fun a b ha hb => ?_)
        intro e
        exact hN.sep hj Hy.out hne b hb (e ▸ ha)
      have hcont : (ys.set k ⟨K, y.A, y.c, marks id 1 (K + 1) y.pres.length⟩).map H2.ct = (marksH k0 z).take (k + 1) ++ z.drop (k + 1) := by
        rw [List.map_set, Hct.out, List.set_append_right _ _ (by rw [List.length_take]; omega), List.length_take, hml, Nat.min_eq_left (by omega), Nat.sub_self, drop_cons Hz.out, List.set_cons_zero, take_snoc Hma.out, List.append_assoc, ← HK2, ← hpl]
        rfl
      go_roundw
      case rel =>
        refine ⟨k + 1, K + 1 + y.pres.length, by go_num, rfl, hlt, Lib.hid (by rw [hcs, HK2, hpl]; omega), Lib.hid ⟨_, hN2, hcont, fun a ha => hb1 a ha, fun y' hy' a ha => ?_⟩, hC2⟩
        obtain ⟨j, hj⟩ := List.mem_iff_getElem?.1 hy'
        rw [List.getElem?_set] at hj
        by_cases e : k = j
        · rw [if_pos e, if_pos (by omega)] at hj
          have := Option.some.inj hj; subst this
          dsimp only at ha
          rw [hml2] at ha
          exact (hin a ha).2
        · rw [if_neg e] at hj
          exact hb2 y' (List.mem_of_getElem? hj) a ha
      case measure => simp [intOf]; omega
    · have hkn : k = z.length := by omega
      subst hkn
      have ho := Hown.out
      rw [List.drop_length, List.append_nil, List.take_of_length_le (by rw [marksH_len]; exact Nat.le_refl _)] at ho
      have hK := HK.out
      rw [List.take_length] at hK
      have Hx := Lib.hid hK
      clear hK
      go_wp2_with fail
      go_ret
      exact ⟨ret_int Hx.out, ho, hch⟩

set_option maxRecDepth 100000 in
set_option maxHeartbeats 2000000 in
theorem heldSheetS_z (v : Value) (z : List (Int × List Int)) (k0 : Int) (w : World) (lo hi : Nat) (h : RdH w lo hi v (marksH k0 z)) (hh : hi ≤ w.heap.size) (hk0 : 0 ≤ k0) (hk1 : k0 + cntH z ≤ 1152921504606846976) :
    Calls Try.prog 15 #[v, .int .i64 k0] w fun e w' => e = .returned (.int .i64 (k0 + cntH z)) ∧ w = w' := by
  obtain ⟨xs, hx, hct⟩ := h
  have hxl : xs.length = z.length := by have := congrArg List.length hct; rwa [List.length_map, marksH_len] at this
  obtain ⟨A, c, rfl, hc1, hc2⟩ := hx.form
  have Hxl := Lib.hid hxl
  clear hxl
  go_enter Try.func15, Try.ntmps15
  go_wp2_with fail
  go_loopw [1, 5] (fun q i wr => ∃ (k : Nat) (K : Int), i = .int .i64 k ∧ q = .int .i64 K ∧ k ≤ xs.length ∧ Hid (K = k0 + cntH (z.take k)) ∧ wr = w) (fun q i wr => xs.length - (intOf i).toNat)
  case atStart => exact ⟨0, k0, rfl, rfl, Nat.zero_le _, Lib.hid (by simp [cntH]), rfl⟩
  case round =>
    obtain ⟨k, K, rfl, rfl, hk, HK, rfl⟩ := hrel
    by_cases hlt : k < xs.length
    · obtain ⟨y, hy⟩ := some_at hlt
      obtain ⟨x, hz⟩ := some_at (l := z) (k := k) (by have := Hxl.out; omega)
      obtain ⟨b, off, rfl, _, hb, c0, c1, hin⟩ := hx.at_ hy
      have hyc : y.ct = (k0 + cntH (z.take k), marks id 1 (k0 + cntH (z.take k) + 1) x.2.length) := by
        have h1 : (xs.map H2.ct)[k]? = some y.ct := by rw [List.getElem?_map, hy]; rfl
        rw [hct, marksH_at z k x k0 hz] at h1
        exact (Option.some.inj h1).symm
      have hcs := cntH_snoc z k x hz
      have hct2 := cntH_take z (k + 1)
      have hK := HK.out
      have hd : y.day = K := by rw [hK]; exact congrArg Prod.fst hyc
      have hp : y.pres = marks id 1 (K + 1) x.2.length := by rw [hK]; exact congrArg Prod.snd hyc
      have hpl : y.pres.length = x.2.length := by rw [hp, marks_len]
      have Hpl := Lib.hid hpl
      rw [hd] at c0
      rw [hp] at hin
      rw [hpl] at c1
      rw [marks_len] at hin
      have Hin := Lib.hid hin
      have HK2 := Lib.hid hK
      have Hcs := Lib.hid hcs
      have hb1 : K + 1 + x.2.length ≤ 1152921504606846976 := by omega
      have hb0 : 0 ≤ K := by omega
      clear hy hz hyc hcs hK hd hp hpl hin hct2
      go_wp2_with fail
      refine (heldInt64S_any _ x.2.length (K + 1) _ _ _ Hin.out (by omega) (by omega) (by omega)).mono ?_
      rintro e w2 ⟨rfl, rfl⟩
      go_wp2_with fail
      go_roundw
      case rel => exact ⟨k + 1, K + 1 + x.2.length, by go_num, rfl, hlt, Lib.hid (by rw [Hcs.out, HK2.out]; omega), by first | rfl | trivial⟩
      case measure => simp [intOf]; omega
    · have hkn : k = xs.length := by omega
      subst hkn
      have hK := HK.out
      rw [Hxl.out, List.take_length] at hK
      have Hx := Lib.hid hK
      clear hK
      go_wp2_with fail
      go_ret
      exact ⟨ret_int Hx.out, rfl⟩
end Go.Proofs.Ytbboihodikhhkaa
