/- Lists and sheets read from texts: the program's own functions. What they ask: the package-level variables as the program lays them, and a text of bounded size. -/
import Derived.Test.YtodfkbgifoecbaaGreatDoorTxF
namespace Go.Proofs.YtodfkbgifoecbaaGreatDoor
open Go.RowKit
open Go.Lib hiding intOf
attribute [local go_sem ↓] Go.wp_at_zero Go.wp_at_succ

def codeL (zs : List Int) : Int := if zs.all inV = true then (if zs.length ≤ 60 then 0 else 3) else 2
theorem codeL_ok {zs : List Int} (h : okL zs = true) : codeL zs = 0 := by
  simp only [okL, Bool.and_eq_true, decide_eq_true_eq] at h
  rw [codeL, if_pos h.1, if_pos h.2]
theorem codeL_no {zs : List Int} (h : okL zs = false) : codeL zs ≠ 0 := by
  rw [codeL]
  by_cases h1 : zs.all inV = true
  · by_cases h2 : zs.length ≤ 60
    · simp [okL, h1, h2] at h
    · rw [if_pos h1, if_neg h2]; decide
  · rw [if_neg h1]; decide
theorem isValue_as {a : Int} {r : Bool} (h : inV a = r) (w : World) :
    Calls Tryz.prog 59 #[.int .i64 a] w fun e w' => e = .returned (.bool r) ∧ w = w' := by
  subst h
  go_enter Tryz.func59, Tryz.ntmps59
  go_wp2_with (go_at_call 49; refine (within_any _ _ _ _).mono ?_; rintro e w' ⟨rfl, rfl⟩)
  go_ret
  exact ⟨rfl, rfl⟩
theorem l01Is_as {a : Int} {r : Bool} (h : inV a = r) (w : World) :
    Calls Tryz.prog 63 #[.int .i64 a] w fun e w' => e = .returned (.bool r) ∧ w = w' := by
  subst h
  go_enter Tryz.func63, Tryz.ntmps63
  go_wp2_with (go_at_call 36; refine (l01In_any _ _ _ _).mono ?_; rintro e w' ⟨rfl, rfl⟩)
  go_ret
  exact ⟨rfl, rfl⟩
set_option maxHeartbeats 1000000 in
theorem listCode_any (v : Value) (zs : List Int) (w : World) (lo hi : Nat) (hz : SlI w lo hi v zs) :
    Calls Tryz.prog 43 #[v] w fun e w' => e = .returned (.int .i64 (codeL zs)) ∧ w = w' := by
  obtain ⟨A, c, rfl, hc1, hc2⟩ := hz.form
  go_enter Tryz.func43, Tryz.ntmps43
  go_wp2_with fail
  go_loop [7] (fun i => ∃ (k : Nat), i = .int .i64 k ∧ k ≤ zs.length ∧ Hid (zs.all inV = (zs.drop k).all inV)) (fun i => zs.length - (RowKit.intOf i).toNat)
  case atStart => exact ⟨0, rfl, Nat.zero_le _, Lib.hid rfl⟩
  case round =>
    obtain ⟨k, rfl, hk, HG⟩ := hrel
    by_cases hlt : k < zs.length
    · obtain ⟨x, hx⟩ := some_at hlt
      obtain ⟨b, off, rfl, _, _, c0⟩ := hz.int_at hx
      have HX := Lib.hid (drop_cons hx)
      clear hx
      cases hv : inV x
      · have HF := Lib.hid (show codeL zs = 2 by rw [codeL, HG.out, HX.out, List.all_cons, hv]; rfl)
        go_wp2_with (go_at_call 59; refine (isValue_as hv _).mono ?_; rintro e w' ⟨rfl, rfl⟩)
        go_ret
        exact ⟨by rw [HF.out]; rfl, rfl⟩
      · have HF := Lib.hid (show zs.all inV = (zs.drop (k + 1)).all inV by rw [HG.out, HX.out, List.all_cons, hv]; rfl)
        go_wp2_with (go_at_call 59; refine (isValue_as hv _).mono ?_; rintro e w' ⟨rfl, rfl⟩)
        go_round
        case rel => exact ⟨k + 1, by go_num, hlt, HF⟩
        case measure => simp [RowKit.intOf]; omega
    · have hkn : k = zs.length := by omega
      subst hkn
      have HA := Lib.hid (show zs.all inV = true by rw [HG.out, List.drop_length]; rfl)
      by_cases h1 : zs.length ≤ 60
      · have hd : decide ((zs.length : Int) ≤ 60) = true := by simp; omega
        have HC := Lib.hid (show codeL zs = 0 by rw [codeL, if_pos HA.out, if_pos h1])
        go_wp2_with (go_at_call 47; refine (few_any _ _ _).mono ?_; rintro e w' ⟨rfl, rfl⟩)
        go_ret
        exact ⟨by rw [HC.out]; rfl, rfl⟩
      · have hd : decide ((zs.length : Int) ≤ 60) = false := by simp; omega
        have HC := Lib.hid (show codeL zs = 3 by rw [codeL, if_pos HA.out, if_neg h1])
        go_wp2_with (go_at_call 47; refine (few_any _ _ _).mono ?_; rintro e w' ⟨rfl, rfl⟩)
        go_ret
        exact ⟨by rw [HC.out]; rfl, rfl⟩
set_option maxHeartbeats 1000000 in
theorem l01Values_any (v : Value) (zs : List Int) (w : World) (lo hi : Nat) (hz : SlI w lo hi v zs) :
    Calls Tryz.prog 46 #[v] w fun e w' => e = .returned (.int .i64 (codeL zs)) ∧ w = w' := by
  obtain ⟨A, c, rfl, hc1, hc2⟩ := hz.form
  go_enter Tryz.func46, Tryz.ntmps46
  go_wp2_with fail
  go_loop [3] (fun i => ∃ (k : Nat), i = .int .i64 k ∧ k ≤ zs.length ∧ Hid (zs.all inV = (zs.drop k).all inV)) (fun i => zs.length - (RowKit.intOf i).toNat)
  case atStart => exact ⟨0, rfl, Nat.zero_le _, Lib.hid rfl⟩
  case round =>
    obtain ⟨k, rfl, hk, HG⟩ := hrel
    by_cases hlt : k < zs.length
    · obtain ⟨x, hx⟩ := some_at hlt
      obtain ⟨b, off, rfl, _, _, c0⟩ := hz.int_at hx
      have HX := Lib.hid (drop_cons hx)
      clear hx
      cases hv : inV x
      · have HF := Lib.hid (show codeL zs = 2 by rw [codeL, HG.out, HX.out, List.all_cons, hv]; rfl)
        go_wp2_with (go_at_call 63; refine (l01Is_as hv _).mono ?_; rintro e w' ⟨rfl, rfl⟩)
        go_ret
        exact ⟨by rw [HF.out]; rfl, rfl⟩
      · have HF := Lib.hid (show zs.all inV = (zs.drop (k + 1)).all inV by rw [HG.out, HX.out, List.all_cons, hv]; rfl)
        go_wp2_with (go_at_call 63; refine (l01Is_as hv _).mono ?_; rintro e w' ⟨rfl, rfl⟩)
        go_round
        case rel => exact ⟨k + 1, by go_num, hlt, HF⟩
        case measure => simp [RowKit.intOf]; omega
    · have hkn : k = zs.length := by omega
      subst hkn
      have HA := Lib.hid (show zs.all inV = true by rw [HG.out, List.drop_length]; rfl)
      by_cases h1 : zs.length ≤ 60
      · have hd : decide ((60 : Int) < (zs.length : Int)) = false := by simp; omega
        have HC := Lib.hid (show codeL zs = 0 by rw [codeL, if_pos HA.out, if_pos h1])
        go_wp2_with fail
        go_ret
        exact ⟨by rw [HC.out]; rfl, rfl⟩
      · have hd : decide ((60 : Int) < (zs.length : Int)) = true := by simp; omega
        have HC := Lib.hid (show codeL zs = 3 by rw [codeL, if_pos HA.out, if_neg h1])
        go_wp2_with fail
        go_ret
        exact ⟨by rw [HC.out]; rfl, rfl⟩
end Go.Proofs.YtodfkbgifoecbaaGreatDoor
