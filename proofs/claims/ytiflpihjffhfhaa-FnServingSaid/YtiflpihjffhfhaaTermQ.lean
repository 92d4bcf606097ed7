/- Plain laws of terms: the busiest day has the most who serve. No condition; nothing of the program is named but the functions that its walks compute. -/
import Derived.Test.YtiflpihjffhfhaaTermG
import Derived.Test.YtiflpihjffhfhaaTermH
namespace Go.Proofs.Ytiflpihjffhfhaa

theorem up_sub_len : ∀ (a b : List Int), a.Pairwise (· < ·) → (∀ z ∈ a, z ∈ b) → a.length ≤ b.length
  | [], b, _, _ => Nat.zero_le _
  | x :: t, b, h, hs => by
    have hx := hs x (by simp)
    have h1 := List.pairwise_cons.1 h
    have h2 := up_sub_len t (b.erase x) h1.2 (fun z hz => (List.mem_erase_of_ne (by have := h1.1 z hz; omega)).2 (hs z (by simp [hz])))
    rw [List.length_erase_of_mem hx] at h2
    have h3 := List.length_pos_of_mem hx
    simp only [List.length_cons]; omega
theorem setOf_spec (p : T3 → Bool) (cs : List T3) : (setOf p cs).Pairwise (· < ·) ∧ ∀ z, z ∈ setOf p cs ↔ ∃ t, t ∈ cs ∧ p t = true ∧ t.num = z := by
  obtain ⟨h1, h2⟩ := insAll_spec (pickT p cs) [] List.Pairwise.nil
  refine ⟨h1, fun z => ?_⟩
  unfold setOf; rw [h2]; simp [pickT, and_assoc]
theorem busyGo_spec (all : List T3) : ∀ (r : List T3) (p : Int × Nat), p.2 ≤ (busyGo all r p).2 ∧ (∀ t ∈ r, (setOf (onP t.beg) all).length ≤ (busyGo all r p).2) ∧ (busyGo all r p = p ∨ ∃ t ∈ r, busyGo all r p = (t.beg, (setOf (onP t.beg) all).length))
  | [], p => ⟨Nat.le_refl _, by simp, .inl rfl⟩
  | t :: r, p => by
    rw [busyGo]
    split
    · rename_i h
      obtain ⟨h1, h2, h3⟩ := busyGo_spec all r (t.beg, (setOf (onP t.beg) all).length)
      refine ⟨by dsimp only at h1; omega, fun u hu => ?_, .inr ?_⟩
      · rcases List.mem_cons.1 hu with rfl | hu
        · exact h1
        · exact h2 u hu
      · rcases h3 with h3 | ⟨u, hu, h3⟩
        · exact ⟨t, by simp, h3⟩
        · exact ⟨u, by simp [hu], h3⟩
    · rename_i h
      obtain ⟨h1, h2, h3⟩ := busyGo_spec all r p
      refine ⟨h1, fun u hu => ?_, ?_⟩
      · rcases List.mem_cons.1 hu with rfl | hu
        · have : ¬ p.2 < (setOf (onP u.beg) all).length := fun e => h (.inl e)
          omega
        · exact h2 u hu
      · rcases h3 with h3 | ⟨u, hu, h3⟩
        · exact .inl h3
        · exact .inr ⟨u, by simp [hu], h3⟩
theorem last_beg (z : Int) : ∀ cs : List T3, (∀ t ∈ cs, onP z t = false) ∨ ∃ u, u ∈ cs ∧ onP z u = true ∧ ∀ t ∈ cs, onP z t = true → t.beg ≤ u.beg
  | [] => .inl (by simp)
  | x :: r => by
    rcases last_beg z r with h | ⟨u, hu, h1, h2⟩
    · cases e : onP z x
      · refine .inl fun t ht => ?_
        rcases List.mem_cons.1 ht with rfl | ht
        · exact e
        · exact h t ht
      · refine .inr ⟨x, by simp, e, fun t ht ht2 => ?_⟩
        rcases List.mem_cons.1 ht with rfl | ht
        · exact Int.le_refl _
        · rw [h t ht] at ht2; cases ht2
    · by_cases e : onP z x = true ∧ u.beg < x.beg
      · refine .inr ⟨x, by simp, e.1, fun t ht ht2 => ?_⟩
        rcases List.mem_cons.1 ht with rfl | ht
        · exact Int.le_refl _
        · have := h2 t ht ht2; omega
      · refine .inr ⟨u, by simp [hu], h1, fun t ht ht2 => ?_⟩
        rcases List.mem_cons.1 ht with rfl | ht
        · by_cases e3 : u.beg < t.beg
          · exact absurd ⟨ht2, e3⟩ e
          · omega
        · exact h2 t ht ht2
theorem serve_le (z : Int) (cs : List T3) : (setOf (onP z) cs).length = 0 ∨ ∃ u, u ∈ cs ∧ (setOf (onP z) cs).length ≤ (setOf (onP u.beg) cs).length := by
  rcases last_beg z cs with h | ⟨u, hu, h1, h2⟩
  · left
    have := up_sub_len (setOf (onP z) cs) [] (setOf_spec _ _).1 (fun y hy => by
      obtain ⟨t, ht, h3, _⟩ := ((setOf_spec _ _).2 y).1 hy
      rw [h t ht] at h3; cases h3)
    simpa using this
  · right
    refine ⟨u, hu, up_sub_len _ _ (setOf_spec _ _).1 (fun y hy => ?_)⟩
    obtain ⟨t, ht, h3, h4⟩ := ((setOf_spec _ _).2 y).1 hy
    refine ((setOf_spec _ _).2 y).2 ⟨t, ht, ?_, h4⟩
    have h5 := h2 t ht h3
    simp only [onP, inB_iff] at h1 h3 ⊢
    omega
theorem code1 {cs : List T3} {z : Int} (h : termsOk cs = true) (h1 : 0 ≤ z) (h2 : z ≤ 20000) : servingOnF cs z = (setOf (onP z) cs, 0) := by
  have e : termsCode cs 1 z = 0 := by
    have : inB z 0 20000 = true := inB_iff.2 ⟨h1, h2⟩
    have h3 : inB 1 1 1000000 = true := by decide
    simp [termsCode, h, h3, this]
  rw [servingOnF, if_pos e]
theorem serving_law {cs : List T3} (h : (busiestF cs).2.2 = 0) : (servingOnF cs (busiestF cs).1).2 = 0 ∧ ((servingOnF cs (busiestF cs).1).1.length : Int) = (busiestF cs).2.1 ∧ ∀ t ∈ cs, (servingOnF cs t.fin).2 = 0 ∧ ((servingOnF cs t.fin).1.length : Int) ≤ (busiestF cs).2.1 := by
  unfold busiestF at h ⊢
  split at h
  · rename_i h1
    rw [if_pos h1]
    split at h
    · cases h
    · rename_i h2
      rw [if_neg h2]
      dsimp only
      obtain ⟨b1, b2, b3⟩ := busyGo_spec cs cs (0, 0)
      have hok := (termsOk_all h1).1
      have hbig : ∃ t, t ∈ cs ∧ busyGo cs cs (0, 0) = (t.beg, (setOf (onP t.beg) cs).length) := by
        rcases b3 with b3 | ⟨t, ht, b3⟩
        · cases cs with
          | nil => simp at h2
          | cons t r =>
            have ht := T3.ok_iff.1 (hok t (by simp))
            have h4 : t.num ∈ setOf (onP t.beg) (t :: r) := ((setOf_spec _ _).2 _).2 ⟨t, by simp, by simp only [onP, inB_iff]; omega, rfl⟩
            have h5 := List.length_pos_of_mem h4
            have h6 := b2 t (by simp)
            rw [b3] at h6
            simp at h6
            rw [h6] at h5; simp at h5
        · exact ⟨t, ht, b3⟩
      obtain ⟨t, ht, e⟩ := hbig
      have ht' := T3.ok_iff.1 (hok t ht)
      rw [e] at b2 ⊢
      dsimp only at b2 ⊢
      rw [code1 h1 (by omega) (by omega)]
      refine ⟨rfl, rfl, fun x hx => ?_⟩
      have hx' := T3.ok_iff.1 (hok x hx)
      rw [code1 h1 (by omega) (by omega)]
      refine ⟨rfl, ?_⟩
      dsimp only
      rcases serve_le x.fin cs with h4 | ⟨y, hy, h4⟩
      · omega
      · have := b2 y hy
        omega
  · cases h
theorem over_law {cs : List T3} (h : (overF cs).2 = 0) : ∀ o ∈ (overF cs).1, ∃ p : Int, daysServedF cs o = (p, 0) ∧ 60 < p := by
  unfold overF at h ⊢
  split at h
  · rename_i h1
    rw [if_pos h1]
    intro o ho
    obtain ⟨t, ht, h2, h3⟩ := ((setOf_spec _ _).2 o).1 ho
    have ht' := T3.ok_iff.1 ((termsOk_all h1).1 t ht)
    have e : termsCode cs o 0 = 0 := by
      have a1 : inB 0 0 20000 = true := by decide
      have a2 : inB o 1 1000000 = true := inB_iff.2 (by omega)
      simp [termsCode, h1, a1, a2]
    refine ⟨daysOf o cs, by rw [daysServedF, if_pos e], ?_⟩
    rw [overT, h3] at h2
    simpa using h2
  · cases h
end Go.Proofs.Ytiflpihjffhfhaa
