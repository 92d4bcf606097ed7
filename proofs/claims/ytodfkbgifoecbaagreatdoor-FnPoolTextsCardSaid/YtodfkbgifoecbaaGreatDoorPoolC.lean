/- LeftOf, ChanceOf: the program's and the reference's answer the same functions of the pool. No condition but the sizes that the law itself asks. -/
import Derived.Test.YtodfkbgifoecbaaGreatDoorPoolB
namespace Go.Proofs.YtodfkbgifoecbaaGreatDoor
open Go.RowKit

/-! plain laws -/
theorem mem_hasB {x : Int} {zs : List Int} : hasB x zs = true ↔ x ∈ zs := hasB_iff x zs
theorem incGo_nodup {lo hi : Int} : ∀ (zs : List Int) (p : Option Int), incGo lo hi p zs = true → zs.Pairwise (· < ·) ∧ ∀ q, p = some q → ∀ z ∈ zs, q < z
  | [], _, _ => by simp
  | z :: t, p, h => by
    rw [incGo] at h
    simp only [Bool.and_eq_true] at h
    obtain ⟨h1, h2⟩ := incGo_nodup t _ h.2
    refine ⟨List.pairwise_cons.2 ⟨fun y hy => h2 z rfl y hy, h1⟩, fun q hq y hy => ?_⟩
    subst hq
    have h3 : q < z := by simpa [afterB] using h.1.2
    rcases List.mem_cons.1 hy with rfl | hy
    · exact h3
    · have := h2 z rfl y hy; omega
theorem drawnGo_spec (nums : List Int) : ∀ (d seen : List Int), drawnGo nums seen d = true → d.Nodup ∧ (∀ x ∈ d, x ∈ nums) ∧ ∀ x ∈ d, x ∉ seen
  | [], _, _ => by simp
  | x :: t, seen, h => by
    rw [drawnGo] at h
    simp only [Bool.and_eq_true, Bool.not_eq_true'] at h
    obtain ⟨⟨h1, h2⟩, h3⟩ := h
    obtain ⟨a1, a2, a3⟩ := drawnGo_spec nums t _ h3
    have hx : x ∉ seen := fun e => by rw [mem_hasB.2 e] at h2; cases h2
    refine ⟨List.nodup_cons.2 ⟨fun e => a3 x e (by simp), a1⟩, fun y hy => ?_, fun y hy => ?_⟩
    · rcases List.mem_cons.1 hy with rfl | hy
      · exact mem_hasB.1 h1
      · exact a2 y hy
    · rcases List.mem_cons.1 hy with rfl | hy
      · exact hx
      · exact fun e => a3 y hy (by simp [e])
theorem filter_ne_len {d : Int} : ∀ {l : List Int}, l.Nodup → d ∈ l → (l.filter fun x => x != d).length + 1 = l.length
  | [], _, h => by simp at h
  | y :: t, hn, h => by
    have hn := List.nodup_cons.1 hn
    by_cases e : y = d
    · subst e
      have : t.filter (fun x => x != y) = t := List.filter_eq_self.2 fun a ha => by
        have : a ≠ y := fun e => hn.1 (e ▸ ha)
        simpa using this
      simp [this]
    · have h' : d ∈ t := by
        rcases List.mem_cons.1 h with rfl | h
        · exact absurd rfl e
        · exact h
      have := filter_ne_len hn.2 h'
      have e' : (y != d) = true := by simpa using e
      simp [e', this]
theorem left_len : ∀ (d l : List Int), l.Nodup → d.Nodup → (∀ x ∈ d, x ∈ l) → (l.filter fun x => !hasB x d).length + d.length = l.length
  | [], l, _, _, _ => by
    have : l.filter (fun x => !hasB x []) = l := List.filter_eq_self.2 fun a _ => rfl
    rw [this]; rfl
  | d :: ds, l, hl, hd, hs => by
    have hd := List.nodup_cons.1 hd
    have e : l.filter (fun x => !hasB x (d :: ds)) = (l.filter fun x => x != d).filter fun x => !hasB x ds := by
      rw [List.filter_filter]
      refine List.filter_congr fun x _ => ?_
      by_cases h : x = d
      · subst h
        have := mem_hasB.2 (List.mem_cons_self (a := x) (l := ds))
        simp [this]
      · have h1 : (x != d) = true := by simpa using h
        have h2 : hasB x (d :: ds) = hasB x ds := by
          rw [Bool.eq_iff_iff, mem_hasB, mem_hasB, List.mem_cons]
          simp [h]
        rw [h1, h2]; simp
    rw [e]
    have h1 := filter_ne_len hl (hs d (by simp))
    have h2 := left_len ds (l.filter fun x => x != d) (hl.filter _) hd.2 (fun x hx => List.mem_filter.2 ⟨hs x (by simp [hx]), by
      have : x ≠ d := fun e => hd.1 (e ▸ hx)
      simpa using this⟩)
    simp only [List.length_cons]; omega
theorem poolOk_parts {p : P3} (h : poolOk p = true) : p.nums.Pairwise (· < ·) ∧ p.drawn.Nodup ∧ (∀ x ∈ p.drawn, x ∈ p.nums) ∧ p.nums.length ≤ 60 ∧ 1 ≤ p.st ∧ p.st ≤ 2147483646 := by
  simp only [poolOk, Bool.and_eq_true, decide_eq_true_eq] at h
  obtain ⟨⟨⟨h1, h2⟩, h3⟩, h4⟩ := h
  obtain ⟨a1, a2, _⟩ := drawnGo_spec _ _ _ h2
  have := inB_iff.1 h4
  exact ⟨(incGo_nodup _ _ h1).1, a1, a2, h3, this.1, this.2⟩
theorem up_nodup {l : List Int} (h : l.Pairwise (· < ·)) : l.Nodup := h.imp fun h => by omega
theorem leftF_length {p : P3} (h : poolOk p = true) : (leftF p).length + p.drawn.length = p.nums.length :=
  left_len _ _ (up_nodup (poolOk_parts h).1) (poolOk_parts h).2.1 (poolOk_parts h).2.2.1

def leftOfF (p : P3) : List Int × Int := if poolOk p = true then (leftF p, 0) else ([], 1)
theorem leftOfF_len (p : P3) : (leftOfF p).1.length ≤ p.nums.length := by
  unfold leftOfF; split
  · exact leftF_len p
  · simp

end Go.Proofs.YtodfkbgifoecbaaGreatDoor
