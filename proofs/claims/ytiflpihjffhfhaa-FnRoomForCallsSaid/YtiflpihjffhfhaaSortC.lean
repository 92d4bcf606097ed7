/- slices.Sort, slices.Compact and the two sorted sets of the program and its reference: contracts. No condition but the sizes that the law itself asks. -/
import Derived.Test.YtiflpihjffhfhaaShelf
import Derived.Test.YtiflpihjffhfhaaSetP
import Derived.Test.YtiflpihjffhfhaaReg
namespace Go.Proofs.Ytiflpihjffhfhaa
open Go.RowKit
attribute [local go_sem ↓] Go.wp_at_zero Go.wp_at_succ

theorem i64s_at (ys : List Int) : ∀ j : Nat, (ys.flatMap i64s)[j]? = (ys[j]?).map (Value.int .i64) := by
  induction ys with
  | nil => intro j; simp
  | cons y t ih =>
    intro j
    cases j with
    | zero => rfl
    | succ j =>
      have e : (y :: t).flatMap i64s = Value.int .i64 y :: t.flatMap i64s := rfl
      rw [e, List.getElem?_cons_succ, List.getElem?_cons_succ]; exact ih j
theorem own_holds {w : World} {base : Nat} {e : TypeId} {g n cap : Nat} {zs : List Int} (h : OwnR i64s 1 w base e (.slice (some ⟨g, 0, none⟩) n cap) zs) : Sort.Holds (Value.int .i64) w g 0 zs.toArray ∧ g < w.heap.size ∧ base ≤ g ∧ zs.length ≤ cap ∧ n = zs.length := by
  have hn : n = zs.length := by
    obtain ⟨A', c', e1, _⟩ := own_form (OwnR.own h)
    injection e1
  subst hn
  have h0 := OwnR.own h
  have hlt := World.ownsRow.lt h0 g rfl
  obtain ⟨_, _, e1, hnc, _⟩ := own_form h0
  injection e1 with _ _ e3
  subst e3
  refine ⟨fun j hj => ?_, hlt.2, hlt.1, hnc, rfl⟩
  have hj' : j < zs.length := by simpa using hj
  have hc := h0.cellAt j (by omega)
  rw [i64s_at, List.getElem?_eq_getElem hj'] at hc
  rw [Nat.zero_add, getI hj']
  exact ⟨hc, h0.frozenAt j⟩
/-- The row's cells set anew by the library. -/
theorem own_putRow {w : World} {base : Nat} {e : TypeId} {g n cap : Nat} {zs : List Int} (h : OwnR i64s 1 w base e (.slice (some ⟨g, 0, none⟩) n cap) zs) (ys : List Int) (hy : ys.length = zs.length) (q : Nat) (os : Array Obj) :
    OwnR i64s 1 (Sort.grow (Sort.putRow (Value.int .i64) (Sort.ahead w q) g 0 ys.toArray) os) base e (.slice (some ⟨g, 0, none⟩) n cap) ys ∧ w.grownBy (Sort.grow (Sort.putRow (Value.int .i64) (Sort.ahead w q) g 0 ys.toArray) os) (some g) := by
  have hn : n = zs.length := by
    obtain ⟨A', c', e1, _⟩ := own_form (OwnR.own h)
    injection e1
  rcases (show _ ∨ _ from And.right h) with ⟨h2, _⟩ | ⟨g', cap', cur, e1, hb, hg, h5, h6, h7, h8⟩
  · cases h2
  injection e1 with e1 e2 e3
  injection e1 with e1; injection e1 with e1
  subst e1 e3
  have hlt : g < w.heap.size := (Array.getElem?_eq_some_iff.1 hg).1
  have hnew : (Sort.grow (Sort.putRow (Value.int .i64) (Sort.ahead w q) g 0 ys.toArray) os).heap[g]? = some (.cells (Sort.putCells (Value.int .i64) 0 ys.toArray cur) e (0, 0)) := by
    rw [Sort.heap_grow_old _ _ (by rw [Sort.size_putRow]; exact hlt)]
    unfold Sort.putRow Sort.mapBlock
    show (w.heap.modify g _)[g]? = _
    rw [Array.getElem?_modify, if_pos rfl, hg]; rfl
  refine ⟨?_, ⟨rfl, rfl, rfl, by rw [Sort.size_grow, Sort.size_putRow]; exact Nat.le_add_right _ _, fun k hk hne => ?_⟩⟩
  · unfold OwnR
    rw [hy]
    refine ⟨by rw [flatMap_len (s := 1) (fun _ => rfl), hy], .inr ⟨g, cap, _, by rw [hn], hb, hnew, h5, h6, by simp [Sort.putCells, h7], ?_⟩⟩
    apply List.ext_getElem?
    intro j
    rw [List.getElem?_take, i64s_at]
    have hcs : cur.size = cap := by rw [h7, Nat.mul_one]
    split
    · rename_i hj
      have hj : j < ys.length := by omega
      have hjc : j < cur.size := by omega
      rw [List.getElem?_eq_getElem hj, Array.getElem?_toList]
      simp only [Sort.putCells, Array.getElem?_mapIdx, Array.getElem?_eq_getElem hjc, Option.map_some]
      rw [if_pos ⟨Nat.zero_le _, by simpa using hj⟩, Nat.sub_zero, getI hj]
    · rename_i hj
      rw [List.getElem?_eq_none (by omega)]; rfl
  · rw [Sort.heap_grow_old _ _ (by rw [Sort.size_putRow]; exact hk)]
    unfold Sort.putRow Sort.mapBlock
    show (w.heap.modify g _)[k]? = _
    rw [Array.getElem?_modify, if_neg (by intro e; exact hne (by rw [e]))]

theorem compact_len (zs : List Int) : (Lib.compact zs).length ≤ zs.length := by
  unfold Lib.compact Lib.compactUpTo
  rw [List.length_map]
  have := List.length_filter_le (Lib.keeps zs.toArray) (List.range zs.length)
  simpa using this
theorem sort_any (v : Value) (zs : List Int) (w : World) (base : Nat) (h : OwnR i64s 1 w base 2 v zs) (hl : zs.length ≤ 1000000) :
    Calls Try.prog 157 #[v] w fun e w' => e = .returned (.tuple #[]) ∧ OwnR i64s 1 w' base 2 v (zs.mergeSort fun x y => decide (x ≤ y)) ∧ w.grownBy w' v.ownBlock := by
  obtain ⟨A, c, rfl, hc1, hc2, hA⟩ := own_form (OwnR.own h)
  rcases Nat.eq_zero_or_pos zs.length with h0 | h0
  · have hz : zs = [] := List.eq_nil_of_length_eq_zero h0
    subst hz
    have := AnyM.slices_Sort_int_none Try.lSort A c w
    refine Calls.mono this fun e w' ⟨he, hw⟩ => ?_
    subst hw
    exact ⟨he, by simpa using h, World.grownBy.refl _ _⟩
  · obtain ⟨g, rfl, hg1, hg2⟩ := hA h0
    obtain ⟨hH, hlt, _, _, _⟩ := own_holds h
    have := AnyM.slices_Sort_int Try.lSort g 0 c zs w hH hlt (by omega)
    refine Calls.mono this fun e w' ⟨he, q, os, hw⟩ => ?_
    subst hw
    obtain ⟨h1, h2⟩ := own_putRow h (zs.mergeSort fun x y => decide (x ≤ y)) (List.length_mergeSort _) q os
    exact ⟨he, h1, h2⟩
theorem compact_any (v : Value) (zs : List Int) (w : World) (base : Nat) (h : OwnR i64s 1 w base 2 v zs) :
    Calls Try.prog 158 #[v] w fun e w' => ∃ v', e = .returned v' ∧ OwnR i64s 1 w' base 2 v' (Lib.compact zs) ∧ w.grownBy w' v.ownBlock := by
  obtain ⟨A, c, rfl, hc1, hc2, hA⟩ := own_form (OwnR.own h)
  rcases Nat.eq_zero_or_pos zs.length with h0 | h0
  · have hz : zs = [] := List.eq_nil_of_length_eq_zero h0
    subst hz
    have := AnyG.slices_Compact_int_empty Try.lCompact A c w
    refine Calls.mono this fun e w' ⟨he, hw⟩ => ?_
    subst hw
    exact ⟨_, he, h, World.grownBy.refl _ _⟩
  · obtain ⟨g, rfl, hg1, hg2⟩ := hA h0
    obtain ⟨hH, hlt, _, _, _⟩ := own_holds h
    have := AnyG.slices_Compact_int Try.lCompact g 0 c zs w hH (by omega) hc1
    refine Calls.mono this fun e w' ⟨he, q, hw⟩ => ?_
    subst hw
    have hle := compact_len zs
    obtain ⟨h1, h2⟩ := own_putRow h (Lib.compact zs ++ List.replicate (zs.length - (Lib.compact zs).length) 0) (by simp; omega) q #[]
    rw [Sort.grow_empty] at h1 h2
    have h3 := own_cut (f := i64s) (s := 1) (fun _ => rfl) h1 (k := (Lib.compact zs).length) (by simp)
    rw [List.take_left] at h3
    exact ⟨_, he, h3, h2⟩

set_option maxHeartbeats 1000000 in
theorem sortedSet_any (v : Value) (zs : List Int) (w : World) (base : Nat) (h : OwnR i64s 1 w base 2 v zs) (hl : zs.length ≤ 1000000) :
    Calls Try.prog 113 #[v] w fun e w' => ∃ v', e = .returned v' ∧ OwnR i64s 1 w' base 2 v' (setL zs) ∧ w.grownBy w' v.ownBlock := by
  go_enter Try.func113, Try.ntmps113
  go_wp2_with fail
  refine (sort_any v zs w base h hl).mono ?_
  rintro e w1 ⟨rfl, o1, hg1⟩
  go_wp2_with fail
  refine (compact_any v _ w1 base o1).mono ?_
  rintro e w2 ⟨v', rfl, o2, hg2⟩
  go_wp2_with fail
  go_ret
  exact ⟨v', rfl, o2, grownBy_trans hg1 hg2⟩

/-! insertion one by one -/
def placeI (n : Int) : List Int → Nat
  | [] => 0
  | x :: t => if x < n then placeI n t + 1 else 0
theorem placeI_le (n : Int) : ∀ l : List Int, placeI n l ≤ l.length
  | [] => Nat.le_refl _
  | x :: t => by
    have := placeI_le n t
    rw [placeI]; split <;> simp <;> omega
theorem placeI_head {n x : Int} {t : List Int} (h : x < n) : placeI n (x :: t) = placeI n t + 1 := by rw [placeI, if_pos h]
theorem placeI_stop {n x : Int} {t : List Int} (h : ¬ x < n) : placeI n (x :: t) = 0 := by rw [placeI, if_neg h]
theorem insU_there (n : Int) : ∀ (l : List Int) (k : Nat), placeI n l = k → l[k]? = some n → insU n l = l
  | [], _, _, h => by simp at h
  | x :: t, k, hk, h => by
    by_cases h1 : x < n
    · rw [placeI_head h1] at hk
      subst hk
      rw [insU, if_pos h1, insU_there n t _ rfl (by simpa using h)]
    · rw [placeI_stop h1] at hk
      subst hk
      have : x = n := by simpa using h
      rw [insU, if_neg h1, if_pos this]
theorem insU_new (n : Int) : ∀ (l : List Int) (k : Nat), placeI n l = k → l[k]? ≠ some n → insU n l = l.take k ++ [n] ++ l.drop k
  | [], k, _, _ => by simp [insU]
  | x :: t, k, hk, h => by
    by_cases h1 : x < n
    · rw [placeI_head h1] at hk
      subst hk
      rw [insU, if_pos h1, insU_new n t _ rfl (by simpa using h)]
      simp
    · rw [placeI_stop h1] at hk
      subst hk
      have : ¬ x = n := by simpa using h
      rw [insU, if_neg h1, if_neg this]
      simp
end Go.Proofs.Ytiflpihjffhfhaa
