/- Plain lemmas on who was present most. No condition; nothing of the program is named but the functions that its walks compute. -/
import Derived.Test.YtbboihodikhhkaaShH
namespace Go.Proofs.Ytbboihodikhhkaa

theorem incGo_up {lo hi : Int} : ∀ (zs : List Int) (p : Option Int), incGo lo hi p zs = true → (∀ z ∈ zs, lo ≤ z ∧ z ≤ hi) ∧ zs.Pairwise (· < ·) ∧ ∀ q, p = some q → ∀ z ∈ zs, q < z
  | [], _, _ => by simp
  | y :: t, p, h => by
    rw [incGo] at h
    simp only [Bool.and_eq_true, inB_iff] at h
    obtain ⟨h1, h2, h3⟩ := incGo_up t _ h.2
    refine ⟨fun z hz => ?_, List.pairwise_cons.2 ⟨h3 y rfl, h2⟩, fun q hq z hz => ?_⟩
    · rcases List.mem_cons.1 hz with hz' | hz'
      · rw [hz']; exact h.1.1
      · exact h1 z hz'
    · subst hq
      have h4 : q < y := by simpa [afterB] using h.1.2
      rcases List.mem_cons.1 hz with hz' | hz'
      · rw [hz']; exact h4
      · have := h3 y rfl z hz'; omega
theorem sheetsGo_rows : ∀ (z : List (Int × List Int)) (p : Option Int), sheetsGo p z = true → ∀ s ∈ z, incGo 1 1000000 none s.2 = true ∧ s.2.length ≤ 60
  | [], _, _ => by simp
  | x :: t, p, h => by
    rw [sheetsGo] at h
    simp only [Bool.and_eq_true] at h
    intro s hs
    rcases List.mem_cons.1 hs with hs' | hs'
    · rw [hs']
      have h1 := h.1.1
      simp only [okH, Bool.and_eq_true, decide_eq_true_eq] at h1
      exact ⟨h1.1.1, h1.2⟩
    · exact sheetsGo_rows t _ h.2 s hs'
theorem sheetsOk_rows {z : List (Int × List Int)} (h : sheetsOk z = true) : ∀ s ∈ z, incGo 1 1000000 none s.2 = true ∧ s.2.length ≤ 60 := by
  simp only [sheetsOk, Bool.and_eq_true] at h
  exact sheetsGo_rows z none h.1

def cntL (zs : List Int) (x : Int) : Nat := (zs.filter (fun y => y == x)).length
theorem cntL_app (xs ys : List Int) (x : Int) : cntL (xs ++ ys) x = cntL xs x + cntL ys x := by simp [cntL, List.filter_append]
theorem cntL_one (y x : Int) : cntL [y] x = if y = x then 1 else 0 := by
  by_cases h : y = x
  · simp [cntL, h]
  · simp [cntL, h]
theorem cntL_le (zs : List Int) (x : Int) : cntL zs x ≤ zs.length := List.length_filter_le _ _
theorem cntL_pos {zs : List Int} {x : Int} : 0 < cntL zs x ↔ x ∈ zs := by
  rw [cntL, List.length_pos_iff_exists_mem]
  simp
theorem cntL_up {p : List Int} (h : p.Pairwise (· < ·)) (x : Int) : cntL p x = if hasB x p = true then 1 else 0 := by
  induction p with
  | nil => simp [cntL, hasB]
  | cons y t ih =>
    have h1 := List.pairwise_cons.1 h
    have e : cntL (y :: t) x = cntL [y] x + cntL t x := cntL_app [y] t x
    rw [e, cntL_one, ih h1.2, hasB]
    by_cases hy : y = x
    · have hn : hasB x t = false := by
        cases hh : hasB x t
        · rfl
        · have := h1.1 x ((hasB_iff x t).1 hh); omega
      simp [hy, hn]
    · have hy' : (x == y) = false := by simp; omega
      simp [hy, hy']
theorem cntOf_cons (s : Int × List Int) (z : List (Int × List Int)) (x : Int) : cntOf (s :: z) x = (if hasB x s.2 = true then 1 else 0) + cntOf z x := by
  unfold cntOf daysOf
  by_cases h : hasB x s.2 = true
  · simp [h]; omega
  · simp [h]
theorem cnt_flat : ∀ (z : List (Int × List Int)), (∀ s ∈ z, s.2.Pairwise (· < ·)) → ∀ x, cntL (z.flatMap (·.2)) x = cntOf z x
  | [], _, x => by simp [cntL, cntOf, daysOf]
  | s :: t, h, x => by
    rw [List.flatMap_cons, cntL_app, cntL_up (h s (by simp)), cnt_flat t (fun u hu => h u (by simp [hu])), cntOf_cons]
theorem cnt_ok {z : List (Int × List Int)} (h : sheetsOk z = true) (x : Int) : cntL (z.flatMap (·.2)) x = cntOf z x :=
  cnt_flat z (fun s hs => (incGo_up _ _ (sheetsOk_rows h s hs).1).2.1) x

theorem most_fold (z : List (Int × List Int)) : ∀ (zs : List Int) (s : Int × Nat),
    ((zs.foldl (mostStep z) s) = s ∨ ∃ x, x ∈ zs ∧ zs.foldl (mostStep z) s = (x, cntOf z x)) ∧ (∀ x ∈ zs, cntOf z x < (zs.foldl (mostStep z) s).2 ∨ (cntOf z x = (zs.foldl (mostStep z) s).2 ∧ (zs.foldl (mostStep z) s).1 ≤ x)) ∧ (s.2 < (zs.foldl (mostStep z) s).2 ∨ (s.2 = (zs.foldl (mostStep z) s).2 ∧ (zs.foldl (mostStep z) s).1 ≤ s.1))
  | [], s => ⟨.inl rfl, by simp, .inr ⟨rfl, Int.le_refl _⟩⟩
  | y :: t, s => by
    obtain ⟨h1, h2, h3⟩ := most_fold z t (mostStep z s y)
    rw [List.foldl_cons]
    generalize t.foldl (mostStep z) (mostStep z s y) = r at *
    by_cases hc : s.2 < cntOf z y ∨ (cntOf z y = s.2 ∧ y < s.1)
    · have e : mostStep z s y = (y, cntOf z y) := by rw [mostStep, if_pos hc]
      rw [e] at h1 h3
      dsimp only at h3
      refine ⟨?_, fun x hx => ?_, by omega⟩
      · rcases h1 with h1 | ⟨x, hx, h1⟩
        · exact .inr ⟨y, by simp, h1⟩
        · exact .inr ⟨x, by simp [hx], h1⟩
      · rcases List.mem_cons.1 hx with hx' | hx'
        · rw [hx']; omega
        · exact h2 x hx'
    · have e : mostStep z s y = s := by rw [mostStep, if_neg hc]
      rw [e] at h1 h3
      refine ⟨?_, fun x hx => ?_, h3⟩
      · rcases h1 with h1 | ⟨x, hx, h1⟩
        · exact .inl h1
        · exact .inr ⟨x, by simp [hx], h1⟩
      · rcases List.mem_cons.1 hx with hx' | hx'
        · rw [hx']; omega
        · exact h2 x hx'
/-- What is handed back: the least among those with the greatest count. -/
theorem most_none {z : List (Int × List Int)} (h : sheetsOk z = true) (he : ∀ x, cntL (z.flatMap (·.2)) x = 0) : mostF z = (0, 0, 4) := by
  have e : z.flatMap (·.2) = [] := by
    cases hz : z.flatMap (·.2) with
    | nil => rfl
    | cons y t =>
      have : 0 < cntL (z.flatMap (·.2)) y := cntL_pos.2 (by rw [hz]; simp)
      rw [he] at this; omega
  have : mostGo z = (0, 0) := by rw [mostGo, e]; rfl
  rw [mostF, if_pos h, this]; rfl
theorem most_spec {z : List (Int × List Int)} (h : sheetsOk z = true) {y : Int} (hy : 0 < cntOf z y) : mostF z = ((mostGo z).1, ((mostGo z).2 : Int), 0) ∧ (mostGo z).2 = cntOf z (mostGo z).1 ∧ (∀ x, cntOf z x < (mostGo z).2 ∨ (cntOf z x = (mostGo z).2 ∧ (mostGo z).1 ≤ x)) := by
  obtain ⟨h1, h2, h3⟩ := most_fold z (z.flatMap (·.2)) (0, 0)
  have hm : ∀ x, 0 < cntOf z x → x ∈ z.flatMap (·.2) := fun x hx => cntL_pos.1 (by rw [cnt_ok h]; exact hx)
  rw [show (z.flatMap (·.2)).foldl (mostStep z) (0, 0) = mostGo z from rfl] at h1 h2 h3
  have hpos : (mostGo z).2 ≠ 0 := by rcases h2 y (hm y hy) with h4 | h4 <;> omega
  refine ⟨?_, ?_, fun x => ?_⟩
  · rw [mostF, if_pos h, if_neg hpos]
  · rcases h1 with h1 | ⟨x, _, h1⟩
    · rw [h1] at hpos; exact absurd rfl hpos
    · rw [h1]
  · by_cases hx : 0 < cntOf z x
    · exact h2 x (hm x hx)
    · omega
theorem most_eq {z : List (Int × List Int)} (h : sheetsOk z = true) {b : Int} (hb : 0 < cntL (z.flatMap (·.2)) b) (hall : ∀ x, 0 < cntL (z.flatMap (·.2)) x → cntL (z.flatMap (·.2)) x < cntL (z.flatMap (·.2)) b ∨ (cntL (z.flatMap (·.2)) x = cntL (z.flatMap (·.2)) b ∧ b ≤ x)) : mostF z = (b, (cntL (z.flatMap (·.2)) b : Int), 0) := by
  rw [cnt_ok h] at hb ⊢
  obtain ⟨e, e1, e2⟩ := most_spec h hb
  rw [e]
  have h3 := e2 b
  have h4 := hall (mostGo z).1 (by rw [cnt_ok h, ← e1]; omega)
  rw [cnt_ok h, cnt_ok h, ← e1] at h4
  have h5 : (mostGo z).1 = b := by omega
  have h6 : (mostGo z).2 = cntOf z b := by omega
  rw [h5, h6]
end Go.Proofs.Ytbboihodikhhkaa
