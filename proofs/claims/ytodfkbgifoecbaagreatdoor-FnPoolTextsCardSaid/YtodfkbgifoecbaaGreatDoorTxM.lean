/- Numbers, lists and sheets read from texts: the reference's functions. What they ask: a text of bounded size. -/
import Derived.Test.YtodfkbgifoecbaaGreatDoorTxK
import Derived.Test.YtodfkbgifoecbaaGreatDoorTxG
namespace Go.Proofs.YtodfkbgifoecbaaGreatDoor
open Go.RowKit
open Go.Lib hiding intOf
attribute [local go_sem ↓] Go.wp_at_zero Go.wp_at_succ

theorem byte_at {s : ByteArray} {k : Nat} {b : UInt8} (h : s.data.toList[k]? = some b) (P : Program) (W : World) (t : TypeId) (ht : P.underlying t = some .string) :
    (Instr.index t (.string s) (.int .i64 (k : Int))).run P W = .ok (.int .u8 (b.toNat : Int)) W := by
  have hk : k < s.size := by have := (List.getElem?_eq_some_iff.1 h).1; rw [size_data] at this; exact this
  rw [run_index_string _ _ _ _ _ ht, dif_pos (by omega)]
  have e : s[((k : Int)).toNat]'(by simpa using hk) = b := by
    have h1 := (List.getElem?_eq_some_iff.1 h).2
    rw [← h1]
    simp [Array.getElem_toList]
    rfl
  rw [e]
set_option maxRecDepth 100000 in
set_option maxHeartbeats 4000000 in
theorem l01Value_any (s : ByteArray) (w : World) (hs : s.size ≤ 1048576) :
    Calls Tryz.prog 27 #[.string s] w fun e w' => e = .returned (.tuple #[.int .i64 (valF s.data.toList).1, .bool (valF s.data.toList).2]) ∧ Below w.heap.size w w' := by
  by_cases h1 : s.size < 1
  · have HF := Lib.hid (show valF s.data.toList = (0, false) by rw [valF, if_pos (by rw [size_data]; exact .inl h1)])
    have hd : decide ((s.size : Int) < 1) = true := by simp; omega
    go_enter Tryz.func27, Tryz.ntmps27
    go_wp2_with fail
    go_ret2
    exact ⟨by rw [HF.out]; rfl, Below.refl _ _⟩
  by_cases h13 : 13 < s.size
  · have HF := Lib.hid (show valF s.data.toList = (0, false) by rw [valF, if_pos (by rw [size_data]; exact .inr h13)])
    have hd : decide ((s.size : Int) < 1) = false := by simp; omega
    have hd2 : decide ((13 : Int) < (s.size : Int)) = true := by simp; omega
    go_enter Tryz.func27, Tryz.ntmps27
    go_wp2_with fail
    go_ret2
    exact ⟨by rw [HF.out]; rfl, Below.refl _ _⟩
  have HV := Lib.hid (show valF s.data.toList = match valGo 0 s.data.toList with
    | some n => ((n : Int), decide (decDigits n = s.data.toList))
    | none => (0, false) by rw [valF, if_neg (by rw [size_data]; omega)]; rfl)
  have hd : decide ((s.size : Int) < 1) = false := by simp; omega
  have hd2 : decide ((13 : Int) < (s.size : Int)) = false := by simp; omega
  go_enter Tryz.func27, Tryz.ntmps27
  go_wp2_with fail
  go_loopw [4, 5] (fun q i wr => ∃ (k m : Nat), q = .int .i64 m ∧ i = .int .i64 k ∧ k ≤ s.size ∧ Hid (m < 10 ^ k) ∧ Hid (valGo 0 s.data.toList = valGo m (s.data.toList.drop k)) ∧ wr = w) (fun q i wr => s.size - (RowKit.intOf i).toNat)
  case atStart => exact ⟨0, 0, rfl, rfl, Nat.zero_le _, Lib.hid (by decide), Lib.hid rfl, rfl⟩
  case round =>
    obtain ⟨k, m, rfl, rfl, hk, HM, HZ, rfl⟩ := hrel
    by_cases hlt : k < s.size
    · obtain ⟨b, hb⟩ := some_at (l := s.data.toList) (k := k) (by rw [size_data]; exact hlt)
      have HD := Lib.hid (drop_cons hb)
      have hx := byte_at hb Tryz.prog wr 9 Tryz.underlying9
      clear hb
      have HT := Lib.hid (Nat.lt_of_lt_of_le HM.out (Nat.pow_le_pow_right (by decide) (show k ≤ 13 by omega)))
      by_cases hb1 : b.toNat < 48
      · have d1 : decide ((b.toNat : Int) < 48) = true := by simp; omega
        have HF := Lib.hid (show valF s.data.toList = (0, false) by
          rw [HV.out, HZ.out, HD.out, valGo, if_neg (by simp [dig]; omega)])
        clear HV
        go_wp2_with (simp only [hx])
        go_ret2
        exact ⟨by rw [HF.out]; rfl, Below.refl _ _⟩
      by_cases hb2 : 57 < b.toNat
      · have d1 : decide ((b.toNat : Int) < 48) = false := by simp; omega
        have d2 : decide ((57 : Int) < (b.toNat : Int)) = true := by simp; omega
        have HF := Lib.hid (show valF s.data.toList = (0, false) by
          rw [HV.out, HZ.out, HD.out, valGo, if_neg (by simp [dig]; omega)])
        clear HV
        go_wp2_with (simp only [hx])
        go_ret2
        exact ⟨by rw [HF.out]; rfl, Below.refl _ _⟩
      have d1 : decide ((b.toNat : Int) < 48) = false := by simp; omega
      have d2 : decide ((57 : Int) < (b.toNat : Int)) = false := by simp; omega
      have HZ2 := Lib.hid (show valGo 0 s.data.toList = valGo (m * 10 + (b.toNat - 48)) (s.data.toList.drop (k + 1)) by
        rw [HZ.out, HD.out, valGo, if_pos (by simp [dig]; omega)])
      have HM2 := Lib.hid (show m * 10 + (b.toNat - 48) < 10 ^ (k + 1) by have := HM.out; rw [Nat.pow_succ]; omega)
      have HW := Lib.hid (show wrap64 (wrap64 (10 * (m : Int)) + ((b.toNat : Int) - 48)) = ((m * 10 + (b.toNat - 48) : Nat) : Int) by
        have := HT.out
        rw [IntWalk.wrap64_in (10 * (m : Int)) (by omega), IntWalk.wrap64_in _ (by omega)]
        omega)
      clear HV HZ HM
      go_wp2_with (simp only [hx])
      go_roundw
      case rel => exact ⟨k + 1, m * 10 + (b.toNat - 48), congrArg (Value.int .i64) HW.out, by go_num, hlt, HM2, HZ2, trivial⟩
      case measure => simp [RowKit.intOf]; omega
    · have hkn : k = s.size := by omega
      subst hkn
      have HA := Lib.hid (show valF s.data.toList = ((m : Int), decide (decDigits m = s.data.toList)) by
        rw [HV.out, HZ.out, List.drop_of_length_le (by rw [size_data]; exact Nat.le_refl _)]; rfl)
      have HT := Nat.lt_of_lt_of_le HM.out (Nat.pow_le_pow_right (by decide) (show s.size ≤ 13 by omega))
      have C := l01Dec_nat m wr (by omega)
      clear HV HZ HM
      by_cases heq : decDigits m = s.data.toList
      · have h2 : ((str (decDigits m)).toList == s.toList) = true := by rw [(str_eq _ _).2 heq]; exact bl_eq _
        have HF := Lib.hid (show valF s.data.toList = ((m : Int), true) by rw [HA.out, decide_eq_true heq])
        generalize str (decDigits m) = sd at *
        clear heq HA
        go_wp2_with fail
        refine C.mono ?_
        clear C
        rintro e w2 ⟨rfl, hb2⟩
        go_wp2_with fail
        go_ret2
        exact ⟨by rw [HF.out]; rfl, hb2⟩
      · have h2 : ((str (decDigits m)).toList == s.toList) = false := bl_ne fun e => heq ((str_eq _ _).1 e)
        have HF := Lib.hid (show valF s.data.toList = ((m : Int), false) by rw [HA.out, decide_eq_false heq])
        generalize str (decDigits m) = sd at *
        clear heq HA
        go_wp2_with fail
        refine C.mono ?_
        clear C
        rintro e w2 ⟨rfl, hb2⟩
        go_wp2_with fail
        go_ret2
        exact ⟨by rw [HF.out]; rfl, hb2⟩
theorem valGo_lt : ∀ (l : List UInt8) (acc n : Nat), valGo acc l = some n → n < (acc + 1) * 10 ^ l.length
  | [], acc, n, h => by rw [valGo] at h; have := Option.some.inj h; simp; omega
  | c :: t, acc, n, h => by
    rw [valGo] at h
    split at h
    · next hc =>
      have hc' : 48 ≤ c.toNat ∧ c.toNat ≤ 57 := by simpa [dig] using hc
      have := valGo_lt t _ n h
      rw [List.length_cons, Nat.pow_succ, Nat.mul_comm (10 ^ t.length) 10, ← Nat.mul_assoc]
      exact Nat.lt_of_lt_of_le this (Nat.mul_le_mul_right _ (by omega))
    · cases h
theorem valF_in (l : List UInt8) : 0 ≤ (valF l).1 ∧ (valF l).1 < 10000000000000 := by
  rw [valF]
  split
  · simp
  · next hl =>
    cases hv : valGo 0 l with
    | none => simp
    | some n =>
      have h1 := valGo_lt l 0 n hv
      have h2 : 10 ^ l.length ≤ 10 ^ 13 := Nat.pow_le_pow_right (by decide) (by omega)
      simp
      omega
theorem l01Value_as {s : ByteArray} {r : Int} {b : Bool} (h : valF s.data.toList = (r, b)) (w : World) (hs : s.size ≤ 1048576) :
    Calls Tryz.prog 27 #[.string s] w fun e w' => e = .returned (.tuple #[.int .i64 r, .bool b]) ∧ Below w.heap.size w w' := by
  have := l01Value_any s w hs
  rw [h] at this
  exact this
end Go.Proofs.YtodfkbgifoecbaaGreatDoor
