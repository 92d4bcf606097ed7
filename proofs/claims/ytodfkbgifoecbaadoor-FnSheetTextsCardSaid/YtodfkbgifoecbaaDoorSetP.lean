/- Plain laws on lists of numbers: sorting and dropping repeats, and insertion one by one, give the same list. No condition; nothing of the program is named. -/
import Derived.Test.YtodfkbgifoecbaaDoorIntA
import Derived.Lib.SlicesCompact
namespace Go.Proofs.YtodfkbgifoecbaaDoor
open Go.RowKit

/-- One more number at its place, each once. -/
def insU (x : Int) : List Int → List Int
  | [] => [x]
  | y :: t => if y < x then y :: insU x t else if y = x then y :: t else x :: y :: t
theorem insU_mem (x z : Int) : ∀ l : List Int, z ∈ insU x l ↔ z = x ∨ z ∈ l
  | [] => by simp [insU]
  | y :: t => by
    rw [insU]
    split
    · rw [List.mem_cons, insU_mem x z t, List.mem_cons]
      constructor
      · rintro (h | h | h) <;> simp [h]
      · rintro (h | h | h) <;> simp [h]
    · split
      · rename_i h; subst h; simp
      · simp
theorem insU_up (x : Int) : ∀ l : List Int, l.Pairwise (· < ·) → (insU x l).Pairwise (· < ·)
  | [], _ => by simp [insU]
  | y :: t, h => by
    have ht := List.pairwise_cons.1 h
    rw [insU]
    split
    · rename_i hy
      refine List.pairwise_cons.2 ⟨fun z hz => ?_, insU_up x t ht.2⟩
      rcases (insU_mem x z t).1 hz with rfl | hz
      · exact hy
      · exact ht.1 z hz
    · split
      · exact h
      · refine List.pairwise_cons.2 ⟨fun z hz => ?_, h⟩
        rcases List.mem_cons.1 hz with rfl | hz
        · omega
        · have := ht.1 z hz; omega
theorem insU_len (x : Int) : ∀ l : List Int, (insU x l).length ≤ l.length + 1
  | [] => by simp [insU]
  | y :: t => by
    rw [insU]
    have := insU_len x t
    split
    · simp only [List.length_cons]; omega
    · split <;> simp
/-- Two lists that rise and hold the same are one. -/
theorem up_eq : ∀ (a b : List Int), a.Pairwise (· < ·) → b.Pairwise (· < ·) → (∀ z, z ∈ a ↔ z ∈ b) → a = b
  | [], [], _, _, _ => rfl
  | [], y :: t, _, _, h => by have := (h y).2 (by simp); simp at this
  | x :: s, [], _, _, h => by have := (h x).1 (by simp); simp at this
  | x :: s, y :: t, ha, hb, h => by
    have h1 := List.pairwise_cons.1 ha
    have h2 := List.pairwise_cons.1 hb
    have hxy : x = y := by
      have hx := (h x).1 (by simp)
      have hy := (h y).2 (by simp)
      rcases List.mem_cons.1 hx with e | hx
      · exact e
      rcases List.mem_cons.1 hy with e | hy
      · exact e.symm
      have := h1.1 y hy
      have := h2.1 x hx
      omega
    subst hxy
    rw [up_eq s t h1.2 h2.2 (fun z => ?_)]
    constructor
    · intro hz
      have hlt := h1.1 z hz
      rcases List.mem_cons.1 ((h z).1 (by simp [hz])) with e | e
      · omega
      · exact e
    · intro hz
      have hlt := h2.1 z hz
      rcases List.mem_cons.1 ((h z).2 (by simp [hz])) with e | e
      · omega
      · exact e

theorem compact_upTo (d : Array Int) (hs : ∀ i j, i ≤ j → j < d.size → d[i]! ≤ d[j]!) : ∀ m, m ≤ d.size →
    (Lib.compactUpTo d m).Pairwise (· < ·) ∧ (∀ x, x ∈ Lib.compactUpTo d m ↔ ∃ j, j < m ∧ d[j]! = x)
  | 0, _ => ⟨by simp [Lib.compactUpTo], by simp [Lib.compactUpTo]⟩
  | m + 1, hm => by
    obtain ⟨h1, h2⟩ := compact_upTo d hs m (by omega)
    rw [Lib.compactUpTo_succ]
    by_cases hk : Lib.keeps d m = true
    · rw [if_pos hk]
      refine ⟨?_, fun x => ?_⟩
      · rw [List.pairwise_append]
        refine ⟨h1, by simp, fun a ha b hb => ?_⟩
        simp at hb; subst hb
        obtain ⟨j, hj, rfl⟩ := (h2 a).1 ha
        have hle := hs j m (by omega) (by omega)
        have hne : d[m]! ≠ d[m - 1]! := by
          simp [Lib.keeps] at hk
          rcases hk with hk | hk
          · omega
          · exact hk
        have h3 := hs j (m - 1) (by omega) (by omega)
        have h4 := hs (m - 1) m (by omega) (by omega)
        omega
      · rw [List.mem_append, h2]
        constructor
        · rintro (⟨j, hj, e⟩ | h)
          · exact ⟨j, by omega, e⟩
          · simp at h; exact ⟨m, by omega, h.symm⟩
        · rintro ⟨j, hj, e⟩
          rcases (by omega : j < m ∨ j = m) with h | rfl
          · exact .inl ⟨j, h, e⟩
          · exact .inr (by simp [e])
    · rw [if_neg hk, List.append_nil]
      refine ⟨h1, fun x => ?_⟩
      rw [h2]
      constructor
      · rintro ⟨j, hj, e⟩; exact ⟨j, by omega, e⟩
      · rintro ⟨j, hj, e⟩
        rcases (by omega : j < m ∨ j = m) with h | rfl
        · exact ⟨j, h, e⟩
        · simp [Lib.keeps] at hk
          exact ⟨j - 1, by omega, by rw [← hk.2]; exact e⟩
/-- A list without repeats, in order. -/
def setL (zs : List Int) : List Int := Lib.compact (zs.mergeSort fun x y => decide (x ≤ y))
theorem getI {zs : List Int} {j : Nat} (h : j < zs.length) : zs.toArray[j]! = zs[j] := by
  rw [getElem!_pos zs.toArray j (by simpa using h)]; simp
theorem setL_spec (zs : List Int) : (setL zs).Pairwise (· < ·) ∧ ∀ x, x ∈ setL zs ↔ x ∈ zs := by
  have hp := List.mergeSort_perm zs fun x y => decide (x ≤ y)
  have hsrt := List.pairwise_mergeSort (le := fun x y : Int => decide (x ≤ y)) (by intro a b c; simp; omega) (by intro a b; simp; omega) zs
  obtain ⟨ss, hss⟩ : ∃ ss, ss = zs.mergeSort fun x y => decide (x ≤ y) := ⟨_, rfl⟩
  rw [← hss] at hp hsrt
  unfold setL Lib.compact
  rw [← hss]
  have hs : ∀ i j, i ≤ j → j < ss.toArray.size → ss.toArray[i]! ≤ ss.toArray[j]! := by
    intro i j hij hj
    have hj' : j < ss.length := by simpa using hj
    rw [getI (by omega), getI hj']
    rcases (by omega : i < j ∨ i = j) with h | rfl
    · have := List.pairwise_iff_getElem.1 hsrt i j (by omega) hj' h
      simpa using this
    · exact Int.le_refl _
  obtain ⟨h1, h2⟩ := compact_upTo ss.toArray hs ss.length (by simp)
  refine ⟨h1, fun x => ?_⟩
  rw [h2, ← hp.mem_iff]
  constructor
  · rintro ⟨j, hj, e⟩
    rw [getI hj] at e
    exact e ▸ List.getElem_mem hj
  · intro hx
    obtain ⟨j, hj, e⟩ := List.getElem_of_mem hx
    exact ⟨j, hj, by rw [getI hj]; exact e⟩
/-- The numbers inserted one by one. -/
def insAll : List Int → List Int → List Int
  | acc, [] => acc
  | acc, x :: t => insAll (insU x acc) t
theorem insAll_spec : ∀ (xs acc : List Int), acc.Pairwise (· < ·) → (insAll acc xs).Pairwise (· < ·) ∧ ∀ z, z ∈ insAll acc xs ↔ z ∈ acc ∨ z ∈ xs
  | [], acc, h => ⟨h, by simp [insAll]⟩
  | x :: t, acc, h => by
    obtain ⟨h1, h2⟩ := insAll_spec t (insU x acc) (insU_up x acc h)
    refine ⟨h1, fun z => ?_⟩
    rw [insAll, h2, insU_mem, List.mem_cons]
    constructor
    · rintro ((h | h) | h) <;> simp [h]
    · rintro (h | h | h) <;> simp [h]
theorem insAll_snoc : ∀ (xs acc : List Int) (x : Int), insAll acc (xs ++ [x]) = insU x (insAll acc xs)
  | [], acc, x => rfl
  | y :: t, acc, x => by rw [List.cons_append, insAll, insAll, insAll_snoc t]
theorem insAll_len : ∀ (xs acc : List Int), (insAll acc xs).length ≤ acc.length + xs.length
  | [], acc => by simp [insAll]
  | x :: t, acc => by
    have h1 := insAll_len t (insU x acc)
    have h2 := insU_len x acc
    rw [insAll]; simp only [List.length_cons]; omega
theorem setL_eq (zs : List Int) : setL zs = insAll [] zs := by
  obtain ⟨h1, h2⟩ := setL_spec zs
  obtain ⟨h3, h4⟩ := insAll_spec zs [] List.Pairwise.nil
  exact up_eq _ _ h1 h3 fun z => by rw [h2, h4]; simp
theorem setL_len (zs : List Int) : (setL zs).length ≤ zs.length := by
  rw [setL_eq]
  have := insAll_len zs []
  simpa using this
end Go.Proofs.YtodfkbgifoecbaaDoor
