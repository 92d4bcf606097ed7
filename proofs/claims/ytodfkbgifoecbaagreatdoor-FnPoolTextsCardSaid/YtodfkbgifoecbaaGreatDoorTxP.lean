/- Pools as texts: what is written is read again; the two ways of reading agree. No condition; nothing of the program is run. -/
import Derived.Test.YtodfkbgifoecbaaGreatDoorTxJ
import Derived.Test.YtodfkbgifoecbaaGreatDoorPoolA
namespace Go.Proofs.YtodfkbgifoecbaaGreatDoor
open Go.Lib

theorem tp_le : ∀ (d l : List Int), d.Nodup → (∀ x ∈ d, x ∈ l) → d.length ≤ l.length
  | [], _, _, _ => Nat.zero_le _
  | x :: t, l, hn, hs => by
    have hn' := List.nodup_cons.1 hn
    have hx := hs x (by simp)
    have h1 := tp_le t (l.erase x) hn'.2 (fun y hy => (List.mem_erase_of_ne (by rintro rfl; exact hn'.1 hy)).2 (hs y (by simp [hy])))
    rw [List.length_erase_of_mem hx] at h1
    have h2 := List.length_pos_of_mem hx
    rw [List.length_cons]; omega
theorem tp_drawn (nums : List Int) : ∀ (d seen : List Int), drawnGo nums seen d = true → d.Nodup ∧ (∀ x ∈ d, x ∈ nums) ∧ ∀ x ∈ d, x ∉ seen
  | [], _, _ => by simp
  | x :: t, seen, h => by
    rw [drawnGo] at h
    simp only [Bool.and_eq_true, Bool.not_eq_true'] at h
    obtain ⟨⟨h1, h2⟩, h3⟩ := h
    obtain ⟨a1, a2, a3⟩ := tp_drawn nums t _ h3
    have hx : x ∉ seen := fun e => by rw [(hasB_iff x seen).2 e] at h2; cases h2
    refine ⟨List.nodup_cons.2 ⟨fun e => a3 x e (by simp), a1⟩, fun y hy => ?_, fun y hy => ?_⟩
    · rcases List.mem_cons.1 hy with rfl | hy
      · exact (hasB_iff y nums).1 h1
      · exact a2 y hy
    · rcases List.mem_cons.1 hy with rfl | hy
      · exact hx
      · exact fun e => a3 y hy (by simp [e])
theorem tp_parts {p : P3} (h : poolOk p = true) : (∀ z ∈ p.nums, 1 ≤ z ∧ z ≤ 1000000) ∧ p.nums.length ≤ 60 ∧ (∀ z ∈ p.drawn, 1 ≤ z ∧ z ≤ 1000000) ∧ p.drawn.length ≤ 60 ∧ 1 ≤ p.st ∧ p.st ≤ 2147483646 := by
  simp only [poolOk, Bool.and_eq_true, decide_eq_true_eq] at h
  obtain ⟨⟨⟨h1, h2⟩, h3⟩, h4⟩ := h
  obtain ⟨a1, a2, _⟩ := tp_drawn _ _ _ h2
  have h5 := inB_iff.1 h4
  have h6 := incGo_in p.nums none h1
  have h7 := tp_le _ _ a1 a2
  exact ⟨h6, h3, fun z hz => h6 z (a2 z hz), by omega, h5.1, h5.2⟩
def textP (p : P3) : List UInt8 := numT p.nums ++ 47 :: (numT p.drawn ++ 47 :: itoa p.st)
def textPF (p : P3) : List UInt8 × Int := if poolOk p = true then (textP p, 0) else ([], 1)
def RPg (f g : List UInt8 → Int × Bool) (l : List UInt8) : P3 × Int := match splitL 47 l with
  | [a, b, c] => if (rlF f a).2 = 0 ∧ (rlF f b).2 = 0 ∧ (g c).2 = true ∧ poolOk ⟨(rlF f a).1, (rlF f b).1, (g c).1⟩ = true then (⟨(rlF f a).1, (rlF f b).1, (g c).1⟩, 0) else (⟨[], [], 0⟩, 6)
  | _ => (⟨[], [], 0⟩, 6)
theorem RPg_len {f g : List UInt8 → Int × Bool} {l : List UInt8} (h : (splitL 47 l).length ≠ 3) : RPg f g l = (⟨[], [], 0⟩, 6) := by
  rw [RPg]
  split
  · next e => rw [e] at h; exact absurd rfl h
  · rfl
theorem RPg_parts {f g : List UInt8 → Int × Bool} {l a b c : List UInt8} (h : splitL 47 l = [a, b, c]) :
    RPg f g l = if (rlF f a).2 = 0 ∧ (rlF f b).2 = 0 ∧ (g c).2 = true ∧ poolOk ⟨(rlF f a).1, (rlF f b).1, (g c).1⟩ = true then (⟨(rlF f a).1, (rlF f b).1, (g c).1⟩, 0) else (⟨[], [], 0⟩, 6) := by
  rw [RPg, h]
theorem rlF_eq (l : List UInt8) : rlF sgF l = rlF rdF l := by unfold rlF; rw [readL_eq]
theorem three {l : List (List UInt8)} (h : l.length = 3) : ∃ a b c, l = [a, b, c] := by
  match l, h with
  | [a, b, c], _ => exact ⟨a, b, c, rfl⟩
/-- The two ways of reading a pool agree. -/
theorem rp_eq (l : List UInt8) : RPg sgF valF l = RPg rdF rdF l := by
  by_cases hl : (splitL 47 l).length = 3
  · obtain ⟨a, b, c, hs⟩ := three hl
    rw [RPg_parts hs, RPg_parts hs, rlF_eq a, rlF_eq b]
    by_cases h : (rdF c).2 = true ∧ 1 ≤ (rdF c).1 ∧ (rdF c).1 ≤ 2147483646
    · have e := (rdF_ok h.1).1
      obtain ⟨n, hn⟩ : ∃ n : Nat, (rdF c).1 = (n : Int) := ⟨(rdF c).1.toNat, by omega⟩
      have hv : valF c = ((n : Int), true) := by rw [e, hn, itoa_nat]; exact valF_dec (by omega)
      have hr : rdF c = ((n : Int), true) := Prod.ext hn h.1
      rw [hv, hr]
    · rw [if_neg, if_neg]
      · rintro ⟨_, _, h1, h2⟩
        have := tp_parts h2
        exact h ⟨h1, this.2.2.2.2.1, this.2.2.2.2.2⟩
      · rintro ⟨_, _, h1, h2⟩
        obtain ⟨n, e1, e2, e3⟩ := valF_ok h1
        have hr : rdF c = ((n : Int), true) := by rw [e2, ← itoa_nat]; exact rdF_itoa (by omega) (by omega)
        have hp := (tp_parts h2).2.2.2.2
        dsimp only at hp
        rw [e1] at hp
        exact h (by rw [hr]; exact ⟨rfl, hp⟩)
  · rw [RPg_len hl, RPg_len hl]
theorem rlF_numT {zs : List Int} (h : ∀ z ∈ zs, 1 ≤ z ∧ z ≤ 1000000) (hl : zs.length ≤ 60) : rlF rdF (numT zs) = (zs, 0) := by
  have hk : okL zs = true := by
    simp only [okL, Bool.and_eq_true, decide_eq_true_eq, List.all_eq_true]
    exact ⟨fun z hz => inV_iff.2 (by have := h z hz; omega), hl⟩
  rw [rlF, readL_numT hk]
theorem textP_split (p : P3) : splitL 47 (textP p) = [numT p.nums, numT p.drawn, itoa p.st] := by
  have h1 : (47 : UInt8) ∉ numT p.nums := numT_no _ (by decide) (by decide) (by decide)
  have h2 : (47 : UInt8) ∉ numT p.drawn := numT_no _ (by decide) (by decide) (by decide)
  have h3 : (47 : UInt8) ∉ itoa p.st := itoa_no _ (by decide) (by decide)
  rw [textP, splitL_some _ h1, splitL_some _ h2, splitL_none h3]
theorem RP_textP {p : P3} (h : poolOk p = true) : RPg rdF rdF (textP p) = (p, 0) := by
  obtain ⟨h1, h2, h3, h4, h5, h6⟩ := tp_parts h
  rw [RPg_parts (textP_split p), rlF_numT h1 h2, rlF_numT h3 h4, rdF_itoa (by omega) (by omega), if_pos ⟨rfl, rfl, rfl, h⟩]
theorem rlF_ok {l : List UInt8} (h : (rlF rdF l).2 = 0) : numT (rlF rdF l).1 = l := by
  cases hr : readL rdF l with
  | none => rw [rlF, hr] at h; exact absurd h (by decide)
  | some zs =>
    rw [rlF, hr]
    exact (readL_ok hr).1
theorem RP_ok {l : List UInt8} (h : (RPg rdF rdF l).2 = 0) : poolOk (RPg rdF rdF l).1 = true ∧ l = textP (RPg rdF rdF l).1 := by
  by_cases hl : (splitL 47 l).length = 3
  · obtain ⟨a, b, c, hs⟩ := three hl
    have hj := joinL_split 47 l
    rw [hs] at hj
    rw [RPg_parts hs] at h ⊢
    split at h
    · next hc =>
      rw [if_pos hc]
      obtain ⟨c1, c2, c3, c4⟩ := hc
      refine ⟨c4, ?_⟩
      rw [textP]
      dsimp only
      rw [rlF_ok c1, rlF_ok c2, ← (rdF_ok c3).1, ← hj]
      rfl
    · exact absurd h (by decide)
  · rw [RPg_len hl] at h; exact absurd h (by decide)
theorem RP_code (l : List UInt8) : (RPg rdF rdF l).2 = 0 ∨ RPg rdF rdF l = (⟨[], [], 0⟩, 6) := by
  by_cases hl : (splitL 47 l).length = 3
  · obtain ⟨a, b, c, hs⟩ := three hl
    rw [RPg_parts hs]
    split
    · exact .inl rfl
    · exact .inr rfl
  · exact .inr (RPg_len hl)
theorem textP_str (p : P3) : str (numT p.nums) ++ (⟨#[47]⟩ : ByteArray) ++ str (numT p.drawn) ++ (⟨#[47]⟩ : ByteArray) ++ str (itoa p.st) = str (textP p) := by
  have e : (⟨#[47]⟩ : ByteArray) = str [47] := rfl
  rw [e, str_append, str_append, str_append, str_append, textP]; simp
end Go.Proofs.YtodfkbgifoecbaaGreatDoor
