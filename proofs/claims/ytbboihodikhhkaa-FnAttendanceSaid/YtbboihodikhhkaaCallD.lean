/- Searches by number in calls; holidays and calls together. No condition. -/
import Derived.Test.YtbboihodikhhkaaCallB
import Derived.Test.YtbboihodikhhkaaIntC
namespace Go.Proofs.Ytbboihodikhhkaa
open Go.RowKit

theorem callsGo_all : ∀ (xs : List C4) (p : Option C4), callsGo p xs = true → (∀ t ∈ xs, t.ok = true) ∧ xs.Pairwise (fun a b => a.num < b.num) ∧ ∀ q, p = some q → ∀ t ∈ xs, q.num < t.num
  | [], _, _ => by simp
  | t :: r, p, h => by
    rw [callsGo] at h
    simp only [Bool.and_eq_true] at h
    obtain ⟨h1, h2, h3⟩ := callsGo_all r _ h.2
    refine ⟨fun u hu => ?_, List.pairwise_cons.2 ⟨h3 t rfl, h2⟩, fun q hq u hu => ?_⟩
    · rcases List.mem_cons.1 hu with rfl | hu
      · exact h.1.1
      · exact h1 u hu
    · subst hq
      have h4 : q.num < t.num := by simpa [C4.behind] using h.1.2
      rcases List.mem_cons.1 hu with rfl | hu
      · exact h4
      · have := h3 t rfl u hu; omega
theorem callsOk_all {xs : List C4} (h : callsOk xs = true) : (∀ t ∈ xs, t.ok = true) ∧ xs.Pairwise (fun a b => a.num < b.num) ∧ xs.length ≤ 20 := by
  simp only [callsOk, Bool.and_eq_true, decide_eq_true_eq] at h
  obtain ⟨h1, h2, _⟩ := callsGo_all xs none h.1
  exact ⟨h1, h2, h.2⟩
theorem C4.bounds {x : C4} (h : x.ok = true) : (0 ≤ x.day ∧ x.day ≤ 20000) ∧ (0 ≤ x.first ∧ x.first ≤ x.day) ∧ (0 ≤ x.moves ∧ x.moves ≤ 2) := by
  simp only [C4.ok, Bool.and_eq_true, inB_iff] at h
  omega

/-- Where the element with number n is, or -1; where it would be in a list that rises. -/
def C4.atGo (n : Int) : Nat → List C4 → Int
  | _, [] => -1
  | k, x :: t => if x.num = n then (k : Int) else C4.atGo n (k + 1) t
def C4.place (n : Int) : List C4 → Nat
  | [] => 0
  | x :: t => if x.num < n then C4.place n t + 1 else 0
def C4.foundB (n : Int) (cs : List C4) : Bool := match cs[C4.place n cs]? with
  | some x => x.num == n
  | none => false
theorem C4.place_le (n : Int) : ∀ cs : List C4, C4.place n cs ≤ cs.length
  | [] => Nat.le_refl _
  | x :: t => by
    have := C4.place_le n t
    rw [C4.place]; split <;> simp <;> omega
theorem C4.atGo_none {n : Int} : ∀ {cs : List C4} {k : Nat}, (∀ x ∈ cs, x.num ≠ n) → C4.atGo n k cs = -1
  | [], _, _ => rfl
  | x :: t, k, h => by
    rw [C4.atGo, if_neg (h x (by simp))]
    exact C4.atGo_none fun y hy => h y (by simp [hy])
theorem C4.atGo_cases (n : Int) : ∀ (cs : List C4) (k : Nat), C4.atGo n k cs = -1 ∧ (∀ x ∈ cs, x.num ≠ n) ∨ ∃ i x, C4.atGo n k cs = ((k + i : Nat) : Int) ∧ cs[i]? = some x ∧ x.num = n
  | [], _ => .inl ⟨rfl, by simp⟩
  | x :: t, k => by
    rw [C4.atGo]
    by_cases h : x.num = n
    · rw [if_pos h]; exact .inr ⟨0, x, by simp, rfl, h⟩
    · rw [if_neg h]
      rcases C4.atGo_cases n t (k + 1) with ⟨h1, h2⟩ | ⟨i, y, h1, h2, h3⟩
      · exact .inl ⟨h1, fun y hy => by rcases List.mem_cons.1 hy with rfl | hy; exact h; exact h2 y hy⟩
      · exact .inr ⟨i + 1, y, by rw [h1]; congr 1; omega, by simpa using h2, h3⟩
theorem C4.place_head {n : Int} {x : C4} {t : List C4} (h : x.num < n) : C4.place n (x :: t) = C4.place n t + 1 := by rw [C4.place, if_pos h]
theorem C4.place_stop {n : Int} {x : C4} {t : List C4} (h : ¬ x.num < n) : C4.place n (x :: t) = 0 := by rw [C4.place, if_neg h]
theorem C4.foundB_eq {n : Int} {cs : List C4} {k : Nat} {x : C4} (hk : C4.place n cs = k) (hx : cs[k]? = some x) : C4.foundB n cs = (x.num == n) := by unfold C4.foundB; rw [hk, hx]
theorem C4.foundB_end {n : Int} {cs : List C4} (hk : C4.place n cs = cs.length) : C4.foundB n cs = false := by unfold C4.foundB; rw [hk, List.getElem?_eq_none (Nat.le_refl _)]
/-- In a list that rises the two searches agree. -/
theorem C4.find_agree (n : Int) : ∀ (cs : List C4) (k : Nat), cs.Pairwise (fun a b => a.num < b.num) → C4.atGo n k cs = if C4.foundB n cs = true then ((k + C4.place n cs : Nat) : Int) else -1
  | [], k, _ => rfl
  | x :: t, k, h => by
    have ht := (List.pairwise_cons.1 h)
    by_cases h1 : x.num < n
    · have ih := C4.find_agree n t (k + 1) ht.2
      have e : C4.foundB n (x :: t) = C4.foundB n t := by unfold C4.foundB; rw [C4.place_head h1]; simp
      rw [C4.atGo, if_neg (by omega), ih, e, C4.place_head h1]
      split
      · congr 1; omega
      · rfl
    · have e : C4.foundB n (x :: t) = (x.num == n) := C4.foundB_eq (C4.place_stop h1) rfl
      rw [e, C4.place_stop h1, C4.atGo]
      by_cases h2 : x.num = n
      · simp [h2]
      · rw [if_neg h2, if_neg (by simpa using h2)]
        exact C4.atGo_none fun y hy => by have := ht.1 y hy; omega

end Go.Proofs.Ytbboihodikhhkaa
