/- Plain lemmas: whoever was called is present or absent; a marked person is present. No condition; nothing of the program is named but the functions that its walks compute. -/
import Derived.Test.YtbboihodikhhkaaMkH
namespace Go.Proofs.Ytbboihodikhhkaa
theorem day_there {z : List (Int × List Int)} {day x : Int} : z.Pairwise (fun a b => a.1 < b.1) → (day ∈ daysOf z x ↔ foundB day z = true ∧ x ∈ presAt day z) := by
  intro hp
  induction z with
  | nil => simp [daysOf, foundB]
  | cons y t ih =>
    obtain ⟨h1, h2⟩ := List.pairwise_cons.1 hp
    have ih := ih h2
    have hd : day ∈ daysOf (y :: t) x ↔ (x ∈ y.2 ∧ y.1 = day) ∨ day ∈ daysOf t x := by
      unfold daysOf
      rw [List.mem_map, List.mem_map]
      constructor
      · rintro ⟨q, hq, e⟩
        rw [List.mem_filter] at hq
        rcases List.mem_cons.1 hq.1 with rfl | hm
        · exact Or.inl ⟨(hasB_iff _ _).1 hq.2, e⟩
        · exact Or.inr ⟨q, List.mem_filter.2 ⟨hm, hq.2⟩, e⟩
      · rintro (⟨hx, e⟩ | ⟨q, hq, e⟩)
        · exact ⟨y, List.mem_filter.2 ⟨List.mem_cons_self .., (hasB_iff _ _).2 hx⟩, e⟩
        · rw [List.mem_filter] at hq
          exact ⟨q, List.mem_filter.2 ⟨List.mem_cons_of_mem _ hq.1, hq.2⟩, e⟩
    rw [hd, ih, foundB, presAt]
    by_cases e : y.1 < day
    · rw [if_pos e, if_pos e]
      constructor
      · rintro (⟨_, e2⟩ | h)
        · omega
        · exact h
      · exact Or.inr
    · rw [if_neg e, if_neg e]
      constructor
      · rintro (⟨hx, e2⟩ | ⟨hf, hx⟩)
        · exact ⟨by simpa using e2, hx⟩
        · obtain ⟨q, hq, hq1, _⟩ := found_at day t hf
          have := h1 q (List.mem_of_getElem? hq)
          omega
      · rintro ⟨hf, hx⟩
        exact Or.inl ⟨hx, by simpa using hf⟩

theorem att_law (z : List (Int × List Int)) (cs : List C4) (day : Int) : ∃ (a u : List Int) (c : Int), absF z cs day = (a, c) ∧ uncF z cs day = (u, c) ∧ (c ≠ 0 ∨ (c = 0 ∧ ∃ q, calledOnF cs day = (q, 0) ∧ q.length ≤ 30 ∧ ∀ x ∈ q, ∃ ds, daysF z x = (ds, 0) ∧ hasB day ds = !hasB x a)) := by
  refine ⟨_, _, attCode z cs day, rfl, rfl, ?_⟩
  by_cases h0 : attCode z cs day = 0
  · obtain ⟨h1, h2, h3, h4⟩ := attCode_parts h0
    refine Or.inr ⟨h0, onDay cs day, by simp [calledOnF, h2, h3], Nat.le_trans (onDay_len cs day) (Nat.le_trans (callsOk_len h2) (by decide)), fun x hx => ⟨daysOf z x, by simp [daysF, h1], ?_⟩⟩
    have hz := h1
    simp only [sheetsOk, Bool.and_eq_true] at hz
    have hp := (sheetsGo_rises z none hz.1).1
    have hd : dayL z cs day = (onDay cs day, presAt day z) := by simp [dayL, h0]
    rw [hd]
    have hm : x ∈ lessOut (onDay cs day) (presAt day z) ↔ ¬ x ∈ presAt day z := by
      unfold lessOut
      rw [List.mem_filter, Bool.not_eq_true', ← Bool.not_eq_true, hasB_iff]
      exact ⟨fun h => h.2, fun h => ⟨hx, h⟩⟩
    rw [Bool.eq_iff_iff, hasB_iff, Bool.not_eq_true', ← Bool.not_eq_true, hasB_iff, day_there hp, hm]
    simp [h4]
  · exact Or.inl h0

theorem lt_pairwise_put {z : List (Int × List Int)} {day : Int} {p : List Int} : (day, p) ∈ putDay day p z := by
  unfold putDay
  simp
theorem mark_law (z : List (Int × List Int)) (d n : Int) : ∃ (m : List (Int × List Int)) (c : Int), markF z d n = (m, c) ∧ (c ≠ 0 ∨ (c = 0 ∧ ∃ ds, daysF m n = (ds, 0) ∧ hasB d ds = true ∧ sheetsOk m = true)) := by
  refine ⟨(markF z d n).1, (markF z d n).2, rfl, ?_⟩
  by_cases h0 : (markF z d n).2 = 0
  · refine Or.inr ⟨h0, ?_⟩
    unfold markF at h0 ⊢
    split at h0
    · next h1 =>
      rw [if_pos h1]
      split at h0
      · next h2 =>
        rw [if_pos h2]
        split at h0
        · exact absurd h0 (by decide)
        · next h3 =>
          rw [if_neg h3]
          split at h0
          · next h4 =>
            rw [if_pos h4]
            refine ⟨daysOf (marked d n z) n, by simp [daysF, h4], ?_, h4⟩
            rw [hasB_iff]
            unfold daysOf
            exact List.mem_map.2 ⟨_, List.mem_filter.2 ⟨lt_pairwise_put, (hasB_iff _ _).2 ((insU_mem n n _).2 (Or.inl rfl))⟩, rfl⟩
          · exact absurd h0 (by decide)
      · exact absurd h0 (by decide)
    · exact absurd h0 (by decide)
  · exact Or.inl h0
end Go.Proofs.Ytbboihodikhhkaa
