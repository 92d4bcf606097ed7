/- Sheets read from texts: the program's own function. What it asks: the package-level variables as the program lays them, and a text of bounded size. -/
import Derived.Test.YtodfkbgifoecbaaGreatDoorTxJ
namespace Go.Proofs.YtodfkbgifoecbaaGreatDoor
open Go.RowKit
open Go.Lib hiding intOf
attribute [local go_sem ↓] Go.wp_at_zero Go.wp_at_succ

theorem implRH_no1 {l : List UInt8} (h : (rdF (cutL 61 l).1).2 = false) : implRH l = ((0, []), 6) := by
  rw [implRH, if_neg (by rw [h]; decide)]
theorem implRH_no2 {l : List UInt8} (h : (rlF rdF (cutL 61 l).2).2 ≠ 0) : implRH l = ((0, []), 6) := by
  rw [implRH]
  split
  · cases hr : readL rdF (cutL 61 l).2 with
    | none => rfl
    | some zs => rw [rlF, hr] at h; exact absurd rfl h
  · rfl
theorem implRH_yes {l : List UInt8} (h : (rdF (cutL 61 l).1).2 = true) (h2 : (rlF rdF (cutL 61 l).2).2 = 0) : implRH l = if okH (rdF (cutL 61 l).1).1 (rlF rdF (cutL 61 l).2).1 = true ∧ textH (rdF (cutL 61 l).1).1 (rlF rdF (cutL 61 l).2).1 = l then (((rdF (cutL 61 l).1).1, (rlF rdF (cutL 61 l).2).1), 0) else ((0, []), 6) := by
  rw [implRH, if_pos h]
  cases hr : readL rdF (cutL 61 l).2 with
  | none => rw [rlF, hr] at h2; exact absurd h2 (by decide)
  | some zs => simp [rlF, hr]
theorem rlF_code (f : List UInt8 → Int × Bool) (l : List UInt8) : (rlF f l).2 = 0 ∨ (rlF f l).2 = 6 := by
  rw [rlF]; split <;> simp
end Go.Proofs.YtodfkbgifoecbaaGreatDoor
