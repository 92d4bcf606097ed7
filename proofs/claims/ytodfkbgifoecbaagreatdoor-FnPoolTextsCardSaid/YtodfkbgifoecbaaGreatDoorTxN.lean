/- Signed numbers read from texts. -/
import Derived.Test.YtodfkbgifoecbaaGreatDoorTxM
namespace Go.Proofs.YtodfkbgifoecbaaGreatDoor
open Go.RowKit
open Go.Lib hiding intOf
attribute [local go_sem ↓] Go.wp_at_zero Go.wp_at_succ

set_option maxRecDepth 100000 in
set_option maxHeartbeats 400000 in
theorem l01Signed_any (s : ByteArray) (w : World) (hs : s.size ≤ 1048576) :
    Calls Tryz.prog 62 #[.string s] w fun e w' => e = .returned (.tuple #[.int .i64 (sgF s.data.toList).1, .bool (sgF s.data.toList).2]) ∧ Below w.heap.size w w' := by
  have C := l01Value_any s w hs
  cases hl : s.data.toList with
  | nil =>
    have h0 : s.size = 0 := by rw [← size_data, hl]; rfl
    have hd : decide ((0 : Int) < (s.size : Int)) = false := decide_eq_false (by omega)
    rw [hl] at C
    rw [show sgF [] = valF [] from rfl]
    generalize (valF []).1 = r at *
    generalize (valF []).2 = b at *
    clear hl
    go_enter Tryz.func62, Tryz.ntmps62
    go_wp2_with (go_at_call 27; refine C.mono ?_; rintro e w2 ⟨rfl, hb2⟩)
    go_ret2
    exact ⟨rfl, hb2⟩
  | cons c t =>
    have h0 : 0 < s.size := by rw [← size_data, hl]; simp
    have hd : decide ((0 : Int) < (s.size : Int)) = true := by simp; omega
    have hs0 : s[0]'h0 = c := by
      have h1 : s.data.toList[0]? = some c := by rw [hl]; rfl
      have h2 := (List.getElem?_eq_some_iff.1 h1).2
      rw [← h2]
      simp [Array.getElem_toList]
      rfl
    by_cases hc : c = 45
    · subst hc
      have hE : (s.extract 1 s.size).data.toList = t := by rw [extract_to_end, hl]; rfl
      have hes : (s.extract 1 s.size).size ≤ 1048576 := by rw [ByteArray.size_extract]; omega
      have C2 := l01Value_any (s.extract 1 s.size) w hes
      rw [hE] at C2
      obtain ⟨v0, v1⟩ := valF_in t
      rw [show sgF (45 :: t) = (-(valF t).1, (valF t).2 && decide (0 < (valF t).1)) from by rw [sgF, if_pos rfl]]
      have hcy : (((s[0]'h0).toNat : Int) == 45) = true := by rw [hs0]; rfl
      clear hl hE hes C hs0
      generalize (valF t).1 = r at *
      have hW : wrap64 (-r) = -r := IntWalk.wrap64_in _ (by omega)
      go_enter Tryz.func62, Tryz.ntmps62
      cases hb : (valF t).2
      · rw [hb] at C2
        go_wp2_with (first | (go_at_call 27; refine C2.mono ?_; rintro e w2 ⟨rfl, hb2⟩))
        go_ret2
        exact ⟨by first | rfl | (simp; rfl), hb2⟩
      · rw [hb] at C2
        go_wp2_with (first | (go_at_call 27; refine C2.mono ?_; rintro e w2 ⟨rfl, hb2⟩))
        go_ret2
        exact ⟨by first | rfl | (simp; rfl), hb2⟩
    · rw [hl] at C
      rw [show sgF (c :: t) = valF (c :: t) from by rw [sgF, if_neg hc]]
      have hcn : (((s[0]'h0).toNat : Int) == 45) = false := by
        rw [hs0, beq_eq_false_iff_ne]
        intro e
        exact hc (UInt8.toNat_inj.1 (by have : c.toNat = 45 := by omega
                                        rw [this]; rfl))
      generalize (valF (c :: t)).1 = r at *
      generalize (valF (c :: t)).2 = b at *
      clear hl hs0
      go_enter Tryz.func62, Tryz.ntmps62
      go_wp2_with (go_at_call 27; refine C.mono ?_; rintro e w2 ⟨rfl, hb2⟩)
      go_ret2
      exact ⟨rfl, hb2⟩
end Go.Proofs.YtodfkbgifoecbaaGreatDoor
