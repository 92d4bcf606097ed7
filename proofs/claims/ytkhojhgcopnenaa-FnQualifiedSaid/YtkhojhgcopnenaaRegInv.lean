/- A region that draws its order, met by an invariant that each of its operations keeps whenever it comes up. No condition; nothing of the program is named. -/
import Derived.Test.YtkhojhgcopnenaaReg
import Derived.Orders
namespace Go.Proofs.Ytkhojhgcopnenaa
section
variable {P : Program} {ops : Array Oper} {Q : Exit → Act → World → Prop}

theorem cnt_set : ∀ (l : List Bool) (i : Nat), l[i]? = some false → (l.set i true).count false + 1 = l.count false
  | [], _, h => by simp at h
  | b :: t, 0, h => by
    have : b = false := by simpa using h
    subst this
    simp
  | b :: t, i + 1, h => by
    have := cnt_set t i (by simpa using h)
    cases b <;> simp <;> omega
theorem un_at {L : Array Bool} {i : Nat} (h : L.getD i true = false) : L.toList[i]? = some false := by
  rw [Array.getD_eq_getD_getElem?] at h
  cases hl : L[i]? with
  | none => rw [hl] at h; cases h
  | some b =>
    rw [hl] at h
    have : b = false := h
    subst this
    rw [← hl, Array.getElem?_toList]
theorem getD_setOther {L : Array Bool} {i j : Nat} (h : i ≠ j) (b : Bool) : (L.setIfInBounds i true).getD j b = L.getD j b := by
  rw [Array.getD_eq_getD_getElem?, Array.getD_eq_getD_getElem?, Array.getElem?_setIfInBounds_ne h]
theorem val_setOther {L : Array Value} {i j : Nat} (h : i ≠ j) (u b : Value) : (L.setIfInBounds i u).getD j b = L.getD j b := by
  rw [Array.getD_eq_getD_getElem?, Array.getD_eq_getD_getElem?, Array.getElem?_setIfInBounds_ne h]
theorem val_setSame {L : Array Value} {i : Nat} (h : i < L.size) (u b : Value) : (L.setIfInBounds i u).getD i b = u := by
  rw [Array.getD_eq_getD_getElem?, Array.getElem?_setIfInBounds_self_of_lt h]; rfl
/-- Each operation keeps the invariant, whenever it comes up. -/
theorem wpAny_inv (I : Array Bool → Act → World → Prop)
    (step : ∀ L a w i (K : Act → World → Prop), I L a w → i ∈ Region.ready .any ops L → (∀ a' w', I (L.setIfInBounds i true) a' w' → K a' w') → wpOp P ops Q i K a w)
    (fin : ∀ L a w, I L a w → Region.ready .any ops L = [] → Q .normal a w) :
    ∀ (fuel : Nat) (L : Array Bool) (a : Act) (w : World), I L a w → L.toList.count false ≤ fuel → wpAny P .any ops Q fuel L a w
  | 0, L, a, w, hI, hc => by
    have hr : Region.ready .any ops L = [] := by
      cases hr : Region.ready .any ops L with
      | nil => rfl
      | cons i r =>
        have h1 := (mem_ready.1 (show i ∈ Region.ready .any ops L by rw [hr]; exact List.mem_cons_self ..)).1
        have h2 := cnt_set _ _ (un_at h1)
        omega
    exact ⟨hr, fin L a w hI hr⟩
  | fuel + 1, L, a, w, hI, hc => by
    refine ⟨fin L a w hI, fun i hi => step L a w i _ hI hi (fun a' w' h' => wpAny_inv I step fin fuel _ a' w' h' ?_)⟩
    have h2 := cnt_set _ _ (un_at (mem_ready.1 hi).1)
    rw [Array.toList_setIfInBounds]
    omega
theorem ready_dep {L : Array Bool} {i : Nat} (j : Nat) (h : i ∈ Region.ready .any ops L) (hc : ((ops[i]?).map (·.after.any fun e => Region.binds .any e && e.on == j)).getD false = true) : L.getD j false = true := by
  obtain ⟨_, o, ho, hall⟩ := mem_ready.1 h
  rw [ho] at hc
  simp only [Option.map_some, Option.getD_some, Array.any_eq_true] at hc
  obtain ⟨k, hk, he⟩ := hc
  rw [Bool.and_eq_true, beq_iff_eq] at he
  rw [← he.2]
  exact hall _ (Array.getElem_mem hk) he.1
theorem ready_lt {L : Array Bool} {i : Nat} (h : i ∈ Region.ready .any ops L) : i < ops.size := by
  obtain ⟨_, o, ho, _⟩ := mem_ready.1 h
  exact (Array.getElem?_eq_some_iff.1 ho).1
theorem wpOp_of {i : Nat} {o : Oper} {K : Act → World → Prop} {a : Act} {w : World} (ho : ops[i]? = some o) (hg : o.guard = none) (h : o.wp P a w K Q) : wpOp P ops Q i K a w := by
  unfold wpOp
  rw [ho]
  have : Region.wanted o (yielded ops a.tmps) = true := by unfold Region.wanted; rw [hg]
  simp only [this, if_true]
  exact .inl h
/-- Nothing may come up any more: all have. -/
theorem all_listed {L : Array Bool} (hs : L.size = ops.size) (hord : ((List.range ops.size).all fun i => ((ops[i]?).map (·.after.all fun e => decide (e.on < i))).getD true) = true) (h : Region.ready .any ops L = []) : ∀ i, i < ops.size → L.getD i false = true := by
  intro i
  induction i using Nat.strongRecOn with
  | _ i ih =>
    intro hi
    cases hb : L.getD i false with
    | true => rfl
    | false =>
      exfalso
      have hlt : i < L.size := by omega
      have h1 : L.getD i true = false := by
        rw [Array.getD_eq_getD_getElem?, Array.getElem?_eq_getElem hlt] at hb ⊢
        exact hb
      have ho : ops[i]? = some ops[i] := Array.getElem?_eq_getElem hi
      have h2 := List.all_eq_true.1 hord i (List.mem_range.2 hi)
      rw [ho] at h2
      simp only [Option.map_some, Option.getD_some, Array.all_eq_true] at h2
      have : i ∈ Region.ready .any ops L := mem_ready.2 ⟨h1, _, ho, fun e he _ => by
        obtain ⟨k, hk, hke⟩ := Array.mem_iff_getElem.1 he
        have h3 := of_decide_eq_true (h2 k hk)
        rw [hke] at h3
        exact ih e.on h3 (by omega)⟩
      rw [h] at this
      cases this
theorem cnt_start (n : Nat) : (Array.replicate n false).toList.count false ≤ n := by simp
end
end Go.Proofs.Ytkhojhgcopnenaa
