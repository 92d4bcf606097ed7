/- IsCourtDay of the program, at good arguments. No condition. -/
import Derived.Test.YtiflpihjffhfhaaIntC
import Derived.Test.YtiflpihjffhfhaaReg
namespace Go.Proofs.Ytiflpihjffhfhaa
open Go.RowKit
attribute [local go_sem ↓] Go.wp_at_zero Go.wp_at_succ
set_option maxHeartbeats 1000000 in
theorem dayCode_one (u v : Value) (hs : List Int) (d : Int) (w : World) (lo lo' hi' : Nat) (hh : SlI w lo w.heap.size u hs) (hd : SlI w lo' hi' v [d]) (h1 : holB hs = true) (h2 : inB d 0 20000 = true) :
    Calls Try.prog 110 #[u, v] w fun e w' => e = .returned (.int .i64 0) ∧ w = w' := by
  obtain ⟨A, c, rfl, hc1, hc2⟩ := hd.form
  obtain ⟨b, off, rfl, _, hb, c0⟩ := hd.int_at (k := 0) rfl
  simp only [Nat.add_zero] at c0
  go_enter Try.func110, Try.ntmps110
  go_wp2_with fail
  refine (implAreHolidays_any u hs w _ _ hh).mono ?_
  rintro e w' ⟨rfl, rfl⟩
  go_wp2_with fail
  go_loop [12] (fun i => ∃ k : Nat, k ≤ 1 ∧ i = .int .i64 k) (fun i => 1 - (intOf i).toNat)
  case atStart => exact ⟨0, by omega, rfl⟩
  case round =>
    obtain ⟨k, hk, rfl⟩ := hrel
    rcases (by omega : k = 0 ∨ k = 1) with rfl | rfl
    · go_wp2_with fail
      refine (isDay_any d w).mono ?_
      rintro e w' ⟨rfl, rfl⟩
      go_wp2_with fail
      go_round
      case rel => exact ⟨1, by omega, rfl⟩
      case measure => simp [intOf]
    · go_wp2_with fail
      go_ret
      exact ⟨rfl, rfl⟩
set_option maxHeartbeats 1000000 in
theorem implIsCourtDay_ok (u : Value) (hs : List Int) (d : Int) (w : World) (lo : Nat) (hh : SlI w lo w.heap.size u hs) (h1 : holB hs = true) (h2 : inB d 0 20000 = true) :
    Calls Try.prog 26 #[u, .int .i64 d] w fun e w' => e = .returned (.tuple #[.bool (courtB hs d), .int .i64 0]) ∧ Below w.heap.size w w' := by
  obtain ⟨A, c, rfl, hc1, hc2⟩ := hh.form
  have hB : Below w.heap.size w (w.alloc (.cells #[.int .i64 d] 2)) := (Below.refl _ _).alloc (Nat.le_refl _) _
  have hs1 := rec_sl (f := i64s) (s := 1) (fun _ => rfl) w 2 (cx := #[.int .i64 d]) (x := d) rfl
  have hh1 := (hh.below hB (Nat.le_refl _)).more (Nat.le_refl _) hB.size
  go_enter Try.func26, Try.ntmps26
  go_wp2_with fail
  refine (dayCode_one _ _ hs d _ _ _ _ hh1 hs1 h1 h2).mono ?_
  rintro e w' ⟨rfl, rfl⟩
  go_wp2_with fail
  refine (isCourtDay_any _ hs d _ _ _ hh1).mono ?_
  rintro e w' ⟨rfl, rfl⟩
  go_wp2_with fail
  go_ret2
  exact ⟨rfl, hB⟩
end Go.Proofs.Ytiflpihjffhfhaa
