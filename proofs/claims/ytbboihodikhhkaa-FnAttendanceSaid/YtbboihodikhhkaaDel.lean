/- slices.DeleteFunc on an owned list of numbers: contract. No condition. -/
import Derived.Test.YtbboihodikhhkaaShelfD
import Derived.Test.YtbboihodikhhkaaReg
namespace Go.Proofs.Ytbboihodikhhkaa
open Go.RowKit
attribute [local go_sem ↓] Go.wp_at_zero Go.wp_at_succ

theorem getI {zs : List Int} {j : Nat} (h : j < zs.length) : zs.toArray[j]! = zs[j] := by
  rw [getElem!_pos zs.toArray j (by simpa using h)]; simp
theorem i64s_at (ys : List Int) : ∀ j : Nat, (ys.flatMap i64s)[j]? = (ys[j]?).map (Value.int .i64) := by
  induction ys with
  | nil => intro j; simp
  | cons y t ih =>
    intro j
    cases j with
    | zero => rfl
    | succ j =>
      have e : (y :: t).flatMap i64s = Value.int .i64 y :: t.flatMap i64s := rfl
      rw [e, List.getElem?_cons_succ, List.getElem?_cons_succ]; exact ih j
theorem own_holds {w : World} {base : Nat} {e : TypeId} {g n cap : Nat} {zs : List Int} (h : OwnR i64s 1 w base e (.slice (some ⟨g, 0, none⟩) n cap) zs) : Sort.Holds (Value.int .i64) w g 0 zs.toArray ∧ g < w.heap.size ∧ base ≤ g ∧ zs.length ≤ cap ∧ n = zs.length := by
  have hn : n = zs.length := by
    obtain ⟨A', c', e1, _⟩ := own_form (OwnR.own h)
    injection e1
  subst hn
  have h0 := OwnR.own h
  have hlt := World.ownsRow.lt h0 g rfl
  obtain ⟨_, _, e1, hnc, _⟩ := own_form h0
  injection e1 with _ _ e3
  subst e3
  refine ⟨fun j hj => ?_, hlt.2, hlt.1, hnc, rfl⟩
  have hj' : j < zs.length := by simpa using hj
  have hc := h0.cellAt j (by omega)
  rw [i64s_at, List.getElem?_eq_getElem hj'] at hc
  rw [Nat.zero_add, getI hj']
  exact ⟨hc, h0.frozenAt j⟩
/-- The row's cells set anew by the library. -/
theorem own_putRow {w : World} {base : Nat} {e : TypeId} {g n cap : Nat} {zs : List Int} (h : OwnR i64s 1 w base e (.slice (some ⟨g, 0, none⟩) n cap) zs) (ys : List Int) (hy : ys.length = zs.length) (q : Nat) (os : Array Obj) :
    OwnR i64s 1 (Sort.grow (Sort.putRow (Value.int .i64) (Sort.ahead w q) g 0 ys.toArray) os) base e (.slice (some ⟨g, 0, none⟩) n cap) ys ∧ w.grownBy (Sort.grow (Sort.putRow (Value.int .i64) (Sort.ahead w q) g 0 ys.toArray) os) (some g) := by
  have hn : n = zs.length := by
    obtain ⟨A', c', e1, _⟩ := own_form (OwnR.own h)
    injection e1
  rcases (show _ ∨ _ from And.right h) with ⟨h2, _⟩ | ⟨g', cap', cur, e1, hb, hg, h5, h6, h7, h8⟩
  · cases h2
  injection e1 with e1 e2 e3
  injection e1 with e1; injection e1 with e1
  subst e1 e3
  have hlt : g < w.heap.size := (Array.getElem?_eq_some_iff.1 hg).1
  have hnew : (Sort.grow (Sort.putRow (Value.int .i64) (Sort.ahead w q) g 0 ys.toArray) os).heap[g]? = some (.cells (Sort.putCells (Value.int .i64) 0 ys.toArray cur) e (0, 0)) := by
    rw [Sort.heap_grow_old _ _ (by rw [Sort.size_putRow]; exact hlt)]
    unfold Sort.putRow Sort.mapBlock
    show (w.heap.modify g _)[g]? = _
    rw [Array.getElem?_modify, if_pos rfl, hg]; rfl
  refine ⟨?_, ⟨rfl, rfl, rfl, by rw [Sort.size_grow, Sort.size_putRow]; exact Nat.le_add_right _ _, fun k hk hne => ?_⟩⟩
  · unfold OwnR
    rw [hy]
    refine ⟨by rw [flatMap_len (s := 1) (fun _ => rfl), hy], .inr ⟨g, cap, _, by rw [hn], hb, hnew, h5, h6, by simp [Sort.putCells, h7], ?_⟩⟩
    apply List.ext_getElem?
    intro j
    rw [List.getElem?_take, i64s_at]
    have hcs : cur.size = cap := by rw [h7, Nat.mul_one]
    split
    · rename_i hj
      have hj : j < ys.length := by omega
      have hjc : j < cur.size := by omega
      rw [List.getElem?_eq_getElem hj, Array.getElem?_toList]
      simp only [Sort.putCells, Array.getElem?_mapIdx, Array.getElem?_eq_getElem hjc, Option.map_some]
      rw [if_pos ⟨Nat.zero_le _, by simpa using hj⟩, Nat.sub_zero, getI hj]
    · rename_i hj
      rw [List.getElem?_eq_none (by omega)]; rfl
  · rw [Sort.heap_grow_old _ _ (by rw [Sort.size_putRow]; exact hk)]
    unfold Sort.putRow Sort.mapBlock
    show (w.heap.modify g _)[k]? = _
    rw [Array.getElem?_modify, if_neg (by intro e; exact hne (by rw [e]))]


theorem grownBy_put (w : World) (g : Nat) (ys : Array Int) (q : Nat) (os : Array Obj) : w.grownBy (Sort.grow (Sort.putRow (Value.int .i64) (Sort.ahead w q) g 0 ys) os) (some g) := by
  refine ⟨rfl, rfl, rfl, by rw [Sort.size_grow, Sort.size_putRow]; exact Nat.le_add_right _ _, fun k hk hne => ?_⟩
  rw [Sort.heap_grow_old _ _ (by rw [Sort.size_putRow]; exact hk)]
  unfold Sort.putRow Sort.mapBlock
  show (w.heap.modify g _)[k]? = _
  rw [Array.getElem?_modify, if_neg (by intro e; exact hne (by rw [e]))]

theorem deleteFunc_any (g : Nat) (lb : Array Value) (p : Int → Bool) (b n c : Nat) (zs : List Int) (w : World) (base : Nat) (h : OwnR i64s 1 w base 2 (.slice (some ⟨b, 0, none⟩) n c) zs)
    (eg : ∀ args w, (callFunc g args).run Try.prog w = .ok (.enter g args) w) (hW : ∀ W x, w.grownBy W (some b) → FnGives Try.prog g lb #[.int .i64 x] (.bool (p x)) W) :
    Calls Try.prog 87 #[.slice (some ⟨b, 0, none⟩) n c, .func (.func g) #[] lb] w fun e w' => ∃ m, e = .returned (.slice (some ⟨b, 0, none⟩) m c) ∧ OwnR i64s 1 w' base 2 (.slice (some ⟨b, 0, none⟩) m c) (zs.filter fun x => !p x) ∧ w.grownBy w' (some b) := by
  obtain ⟨hH, hlt, hb, hnc, rfl⟩ := own_holds h
  obtain ⟨A, c', e1, _, hc2⟩ := own_form (OwnR.own h)
  injection e1 with _ _ e3
  subst e3
  have hzs : zs.toArray.size = zs.length := by simp
  have := AnyE.slices_DeleteFunc Try.lDeleteFunc (Value.int .i64) (fun _ => rfl) p g lb eg 0 Try.zeroValue2 b 0 c zs.toArray w (fun W x hb => hW W x (grownBy_of_below hb)) (fun q os dk x _ => hW _ x (grownBy_put w b dk q os)) hH (by rw [hzs]; exact Nat.le_trans hnc hc2.1) (by rw [hzs]; exact hnc)
  rw [hzs] at this
  refine Calls.mono this fun e w' ⟨he, q, hw⟩ => ?_
  subst hw
  have hle : (zs.filter fun x => !p x).length ≤ zs.length := List.length_filter_le _ _
  obtain ⟨h1, h2⟩ := own_putRow h ((zs.filter fun x => !p x) ++ List.replicate (zs.length - (zs.filter fun x => !p x).length) 0) (by simp; omega) q #[]
  rw [Sort.grow_empty] at h1 h2
  have h3 := own_cut (f := i64s) (s := 1) (fun _ => rfl) h1 (k := (zs.filter fun x => !p x).length) (by simp)
  rw [List.take_left] at h3
  exact ⟨_, he, h3, h2⟩
end Go.Proofs.Ytbboihodikhhkaa
