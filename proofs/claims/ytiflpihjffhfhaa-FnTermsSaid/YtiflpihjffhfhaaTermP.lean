/- Plain laws of terms: a person rested stays so, days add up. No condition; nothing of the program is named but the functions that its walks compute. -/
import Derived.Test.YtiflpihjffhfhaaTermD
import Derived.Test.YtiflpihjffhfhaaTermE
namespace Go.Proofs.Ytiflpihjffhfhaa

theorem firstRest_spec {n : Int} {cs : List T3} : ∀ (f : Nat) (d : Int), f = (20001 - d).toNat → (firstRest n cs f d).2 = 0 → d ≤ (firstRest n cs f d).1 ∧ (firstRest n cs f d).1 ≤ 20000 ∧ restGo n (firstRest n cs f d).1 cs = true ∧ (d < (firstRest n cs f d).1 → restGo n ((firstRest n cs f d).1 - 1) cs = false)
  | 0, d, _, h => by simp [firstRest] at h
  | f + 1, d, hf, h => by
    rw [firstRest] at h ⊢
    by_cases e : restGo n d cs = true
    · rw [if_pos e]; exact ⟨Int.le_refl _, by show d ≤ 20000; omega, e, fun h => absurd h (Int.lt_irrefl _)⟩
    · rw [if_neg e] at h ⊢
      obtain ⟨h1, h2, h3, h4⟩ := firstRest_spec f (d + 1) (by omega) h
      refine ⟨by omega, h2, h3, fun _ => ?_⟩
      by_cases e2 : d + 1 < (firstRest n cs f (d + 1)).1
      · exact h4 e2
      · have : (firstRest n cs f (d + 1)).1 - 1 = d := by omega
        rw [this]; simpa using e
theorem terms_rest {cs : List T3} {n d : Int} (h : (restedFromF cs n d).2 = 0) : 0 ≤ d ∧ d ≤ (restedFromF cs n d).1 ∧ (restedFromF cs n d).1 ≤ 20000 ∧ isRestedF cs n (restedFromF cs n d).1 = (true, 0) ∧ ((restedFromF cs n d).1 ≠ d → isRestedF cs n ((restedFromF cs n d).1 - 1) = (false, 0)) := by
  by_cases hc : termsCode cs n d = 0
  · have e : restedFromF cs n d = firstRest n cs (20001 - d).toNat d := by rw [restedFromF, if_pos hc]
    rw [e] at h ⊢
    obtain ⟨a1, a2, a3⟩ := termsCode_zero hc
    have a4 := inB_iff.1 a3
    obtain ⟨h1, h2, h3, h4⟩ := firstRest_spec _ d rfl h
    generalize (firstRest n cs (20001 - d).toNat d).1 = f at *
    have code : ∀ z, 0 ≤ z → z ≤ 20000 → termsCode cs n z = 0 := by
      intro z z1 z2
      have : inB z 0 20000 = true := inB_iff.2 ⟨z1, z2⟩
      simp [termsCode, a1, a2, this]
    refine ⟨a4.1, h1, h2, ?_, fun hne => ?_⟩
    · rw [isRestedF, if_pos (code f (by omega) h2), h3]
    · rw [isRestedF, if_pos (code (f - 1) (by omega) (by omega)), h4 (by omega)]
  · rw [restedFromF, if_neg hc] at h
    exact absurd h hc
theorem served_ok {cs : List T3} {n : Int} (h : termsOk cs = true) (hn : inB n 1 1000000 = true) : daysServedF cs n = (daysOf n cs, 0) := by
  have e : termsCode cs n 0 = 0 := by
    have : inB 0 0 20000 = true := by decide
    simp [termsCode, h, hn, this]
  rw [daysServedF, if_pos e]
theorem terms_add {cs : List T3} {t : T3} (h : (addTermF cs t).2 = 0) : ∃ p : Int, 0 ≤ p ∧ p ≤ 1000000 ∧ (0 ≤ t.beg ∧ t.beg ≤ 20000) ∧ (0 ≤ t.fin ∧ t.fin ≤ 20000) ∧ daysServedF cs t.num = (p, 0) ∧ daysServedF (addTermF cs t).1 t.num = (p + t.fin - t.beg + 1, 0) := by
  unfold addTermF at h ⊢
  split at h
  · rename_i h1
    split at h
    · rename_i h2
      rw [if_pos h1, if_pos h2]
      have b1 := termsOk_all h1
      have ht := (termsOk_all h2).1 t (by simp)
      have ht' := T3.ok_iff.1 ht
      have hn : inB t.num 1 1000000 = true := inB_iff.2 ht'.1
      have d1 := daysOf_bound t.num cs b1.1
      refine ⟨daysOf t.num cs, d1.1, by omega, ht'.2.1, by omega, served_ok h1 hn, ?_⟩
      rw [served_ok h2 hn, daysOf_app]
      have : daysOf t.num [t] = t.fin - t.beg + 1 := by simp [daysOf]
      rw [this]; congr 1; omega
    · cases h
  · cases h
end Go.Proofs.Ytiflpihjffhfhaa
