/- Numerals as texts: what is written is read again, and nothing else is read. No condition; nothing of the program is named. -/
import Derived.Test.YtodfkbgifoecbaaDoorLeaf
import Derived.Lib.ParseIntBCases
import Derived.Lib.ParseIntBTie
import Derived.Lib.ItoaMem
import Derived.Lib.ItoaLen
import Derived.Lib.Join
import Derived.Lib.SplitLaws
namespace Go.Proofs.YtodfkbgifoecbaaDoor
open Go.Lib

def dig (c : UInt8) : Bool := decide (48 ≤ c.toNat) && decide (c.toNat ≤ 57)
def valGo : Nat → List UInt8 → Option Nat
  | acc, [] => some acc
  | acc, c :: t => if dig c = true then valGo (acc * 10 + (c.toNat - 48)) t else none
theorem dig_dec {d : Nat} (h : d < 10) : dig (UInt8.ofNat (48 + d)) = true ∧ (UInt8.ofNat (48 + d)).toNat = 48 + d := by
  have : (UInt8.ofNat (48 + d)).toNat = 48 + d := by
    have e : (UInt8.ofNat (48 + d)).toNat = (48 + d) % 2 ^ 8 := UInt8.toNat_ofNat' ..
    rw [e]; omega
  refine ⟨?_, this⟩
  simp only [dig, this, Bool.and_eq_true, decide_eq_true_eq]; omega
theorem dec_small {u : Nat} (h : u < 10) : decDigits u = [UInt8.ofNat (48 + u)] := by rw [decDigits, dif_pos h]
theorem dec_big {u : Nat} (h : ¬ u < 10) : decDigits u = decDigits (u / 10) ++ [UInt8.ofNat (48 + u % 10)] := by rw [decDigits, dif_neg h]
theorem dec_dig : ∀ u, ∀ c ∈ decDigits u, dig c = true := by
  intro u
  induction u using Nat.strongRecOn with
  | _ u ih =>
    intro c hc
    by_cases h : u < 10
    · rw [dec_small h] at hc
      rw [List.mem_singleton.1 hc]; exact (dig_dec h).1
    · rw [dec_big h] at hc
      rcases List.mem_append.1 hc with hc | hc
      · exact ih (u / 10) (by omega) c hc
      · rw [List.mem_singleton.1 hc]; exact (dig_dec (Nat.mod_lt _ (by decide))).1
theorem dec_ne (u : Nat) : decDigits u ≠ [] := by
  by_cases h : u < 10
  · rw [dec_small h]; simp
  · rw [dec_big h]; simp
theorem valGo_append : ∀ (l m : List UInt8) (acc : Nat), valGo acc (l ++ m) = (valGo acc l).bind fun a => valGo a m
  | [], m, acc => rfl
  | c :: t, m, acc => by
    rw [List.cons_append, valGo, valGo]
    split
    · exact valGo_append t m _
    · rfl
theorem valGo_dec (u : Nat) : valGo 0 (decDigits u) = some u := by
  induction u using Nat.strongRecOn with
  | _ u ih =>
    by_cases h : u < 10
    · rw [dec_small h, valGo, if_pos (dig_dec h).1, (dig_dec h).2, valGo]; congr 1; omega
    · have hd := dig_dec (Nat.mod_lt u (show 10 > 0 by decide))
      rw [dec_big h, valGo_append, ih (u / 10) (by omega), Option.bind_some, valGo, if_pos hd.1, hd.2, valGo]; congr 1; omega
theorem valGo_ge : ∀ (l : List UInt8) (acc n : Nat), valGo acc l = some n → acc ≤ n
  | [], acc, n, h => by rw [valGo] at h; have := Option.some.inj h; omega
  | c :: t, acc, n, h => by
    rw [valGo] at h
    split at h
    · have := valGo_ge t _ n h; omega
    · cases h
theorem parseUintM_val : ∀ (l : List UInt8) (acc n : Nat), valGo acc l = some n → n ≤ 18446744073709551615 → parseUintM 18446744073709551615 acc l = .ok n
  | [], acc, n, h, _ => by rw [valGo] at h; rw [parseUintM, Option.some.inj h]
  | c :: t, acc, n, h, hn => by
    rw [valGo] at h
    split at h
    · next hd =>
      have hge := valGo_ge t _ n h
      simp only [dig, Bool.and_eq_true, decide_eq_true_eq] at hd
      rw [parseUintM, if_pos hd, if_neg (by omega), if_neg (by omega)]
      exact parseUintM_val t _ n h hn
    · cases h
theorem parseUintB_dec (u : Nat) (h : u ≤ 18446744073709551615) : parseUintB 64 (decDigits u) = .ok u := by
  rw [parseUintB, if_neg (dec_ne u)]
  exact parseUintM_val _ 0 u (valGo_dec u) h
theorem dec_cons (u : Nat) : ∃ c r, decDigits u = c :: r ∧ dig c = true := by
  cases h : decDigits u with
  | nil => exact absurd h (dec_ne u)
  | cons c r => exact ⟨c, r, rfl, dec_dig u c (by rw [h]; exact List.mem_cons_self ..)⟩
theorem dig_ne {c : UInt8} (h : dig c = true) : c.toNat ≠ 43 ∧ c.toNat ≠ 45 := by
  simp only [dig, Bool.and_eq_true, decide_eq_true_eq] at h; omega
theorem parse_itoa (v : Int) (h0 : -9223372036854775808 ≤ v) (h1 : v ≤ 9223372036854775807) : parseIntB 64 (itoa v) = .ok v := by
  by_cases hv : v < 0
  · rw [itoa, if_pos hv, parseIntB_minus, parseUintB_dec _ (by omega), signedC, if_neg (by simp; omega)]
    congr 1; omega
  · obtain ⟨c, r, e, hc⟩ := dec_cons v.toNat
    have hne := dig_ne hc
    rw [itoa, if_neg hv, e, parseIntB_plain _ _ _ hne.1 hne.2, ← e, parseUintB_dec _ (by omega), signlessC, if_neg (by simp; omega)]
    congr 1; omega

/-- A number that is read: canonical, and of 64 bits. -/
def rdF (l : List UInt8) : Int × Bool := match parseIntB 64 l with
  | .ok v => if itoa v = l then (v, true) else (0, false)
  | _ => (0, false)
theorem rdF_itoa {v : Int} (h0 : -9223372036854775808 ≤ v) (h1 : v ≤ 9223372036854775807) : rdF (itoa v) = (v, true) := by rw [rdF, parse_itoa v h0 h1]; simp
theorem parseIntB_in {l : List UInt8} {v : Int} (h : parseIntB 64 l = .ok v) : -9223372036854775808 ≤ v ∧ v ≤ 9223372036854775807 := by
  have := parseIntB_bounds h
  have e : ((2 ^ (64 - 1) : Nat) : Int) = 9223372036854775808 := by decide
  rw [e] at this
  omega
theorem rdF_ok {l : List UInt8} (h : (rdF l).2 = true) : l = itoa (rdF l).1 ∧ -9223372036854775808 ≤ (rdF l).1 ∧ (rdF l).1 ≤ 9223372036854775807 := by
  unfold rdF at h ⊢
  cases hp : parseIntB 64 l with
  | ok v =>
    rw [hp] at h
    dsimp only at h ⊢
    split at h
    · next e =>
      rw [if_pos e]
      exact ⟨e.symm, parseIntB_in hp⟩
    · cases h
  | _ => rw [hp] at h; cases h
theorem rdF_no {l : List UInt8} (h : (rdF l).2 = false) : rdF l = (0, false) := by
  unfold rdF at h ⊢
  cases hp : parseIntB 64 l with
  | ok v =>
    rw [hp] at h
    dsimp only at h ⊢
    split at h
    · cases h
    · next e => rw [if_neg e]
  | _ => rfl

/-- A number of at least 0, of at most thirteen digits. -/
def valF (l : List UInt8) : Int × Bool := if l.length < 1 ∨ 13 < l.length then (0, false) else match valGo 0 l with
  | some n => ((n : Int), decide (decDigits n = l))
  | none => (0, false)
theorem nDigits_le : ∀ (k u : Nat), u < 10 ^ (k + 1) → nDigits u ≤ k + 1
  | 0, u, h => by rw [nDigits_small (by simpa using h)]; exact Nat.le_refl _
  | k + 1, u, h => by
    by_cases h1 : u < 10
    · rw [nDigits_small h1]; omega
    · rw [nDigits_big h1]
      have := nDigits_le k (u / 10) (by rw [Nat.pow_succ] at h; omega)
      omega
theorem valF_dec {n : Nat} (h : n < 10000000000000) : valF (decDigits n) = ((n : Int), true) := by
  have hl : (decDigits n).length ≤ 13 := by rw [decDigits_length]; exact nDigits_le 12 n (by simpa using h)
  have hp := nDigits_pos n
  rw [valF, if_neg (by rw [decDigits_length] at hl ⊢; omega), valGo_dec]
  simp
theorem valF_ok {l : List UInt8} (h : (valF l).2 = true) : ∃ n : Nat, (valF l).1 = (n : Int) ∧ l = decDigits n ∧ n < 10000000000000 := by
  unfold valF at h ⊢
  split at h
  · cases h
  · next hl =>
    rw [if_neg hl]
    cases hv : valGo 0 l with
    | none => rw [hv] at h; cases h
    | some n =>
      rw [hv] at h
      have e : decDigits n = l := of_decide_eq_true h
      refine ⟨n, rfl, e.symm, ?_⟩
      have h2 := lt_pow_nDigits n
      have h3 : nDigits n ≤ 13 := by rw [← decDigits_length, e]; omega
      exact Nat.lt_of_lt_of_le h2 (Nat.le_trans (Nat.pow_le_pow_right (by decide) h3) (by decide))
/-- The same with a minus sign ahead. -/
def sgF (l : List UInt8) : Int × Bool := match l with
  | [] => valF []
  | c :: t => if c = 45 then (-(valF t).1, (valF t).2 && decide (0 < (valF t).1)) else valF (c :: t)
theorem itoa_nat (n : Nat) : itoa (n : Int) = decDigits n := itoa_nonneg n
theorem sgF_ok {l : List UInt8} (h : (sgF l).2 = true) : l = itoa (sgF l).1 ∧ -10000000000000 < (sgF l).1 ∧ (sgF l).1 < 10000000000000 := by
  cases l with
  | nil => cases h
  | cons c t =>
    unfold sgF at h ⊢
    dsimp only at h ⊢
    split at h
    · next e =>
      rw [if_pos e]
      rw [Bool.and_eq_true, decide_eq_true_eq] at h
      obtain ⟨n, e1, e2, e3⟩ := valF_ok h.1
      rw [e1] at h ⊢
      refine ⟨?_, by omega, by dsimp only; omega⟩
      rw [itoa_neg n (by omega), e, e2]
    · next e =>
      rw [if_neg e]
      obtain ⟨n, e1, e2, e3⟩ := valF_ok h
      rw [e1]
      exact ⟨by rw [itoa_nat, e2], by omega, by omega⟩
theorem sgF_itoa {v : Int} (h0 : -10000000000000 < v) (h1 : v < 10000000000000) : sgF (itoa v) = (v, true) := by
  by_cases hv : v < 0
  · obtain ⟨n, rfl⟩ : ∃ n : Nat, v = -(n : Int) := ⟨v.natAbs, by omega⟩
    rw [itoa_neg n (by omega), sgF, if_pos rfl, valF_dec (by omega)]
    simp; omega
  · obtain ⟨n, rfl⟩ : ∃ n : Nat, v = (n : Int) := ⟨v.toNat, by omega⟩
    obtain ⟨c, r, e, hc⟩ := dec_cons n
    have hne := dig_ne hc
    have h45 : ¬ c = 45 := fun e => hne.2 (by rw [e]; rfl)
    rw [itoa_nat]
    have hv2 := valF_dec (n := n) (by omega)
    rw [e] at hv2 ⊢
    rw [sgF, if_neg h45, hv2]
theorem itoa_inj {a b : Int} (ha : -9223372036854775808 ≤ a ∧ a ≤ 9223372036854775807) (hb : -9223372036854775808 ≤ b ∧ b ≤ 9223372036854775807) (h : itoa a = itoa b) : a = b := by
  have h1 := parse_itoa a ha.1 ha.2
  rw [h, parse_itoa b hb.1 hb.2] at h1
  injection h1 with h1
  exact h1.symm
end Go.Proofs.YtodfkbgifoecbaaDoor
