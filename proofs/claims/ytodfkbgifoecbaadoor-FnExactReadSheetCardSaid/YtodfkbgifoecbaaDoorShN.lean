/- One sheet: marks, and whether they hold. No condition but the sizes that the law itself asks. -/
import Derived.Test.YtodfkbgifoecbaaDoorShA
namespace Go.Proofs.YtodfkbgifoecbaaDoor
open Go.RowKit

set_option maxHeartbeats 1000000 in
theorem markSheet_z (d : Int) (v : Value) (zs : List Int) (k0 : Int) (w : World) (lo hi : Nat) (o : OwI i64s 1 2 w lo hi v zs) (hh : hi ≤ w.heap.size) (hk0 : 0 ≤ k0) (hk1 : k0 ≤ 1000000000) (hn : zs.length ≤ 4000000) :
    Calls Tryd.prog 15 #[.agg #[.int .i64 d, v], .int .i64 k0] w fun e w' => e = .returned (.int .i64 (k0 + zs.length)) ∧ OwI i64s 1 2 w' lo hi v (marks id 1 k0 zs.length) ∧ Chg lo hi w w' := by
  go_enter Tryd.func15, Tryd.ntmps15
  go_wp2_with fail
  have hB : Below w.heap.size w (w.alloc (.cells #[.int .i64 d, v] 28)) := (Below.refl _ _).alloc (Nat.le_refl _) _
  generalize (w.alloc (.cells #[.int .i64 d, v] 28)) = w1 at *
  have z1 := hB.size
  have o1 := o.below hB
  have in1 := Lib.hid o1.in_
  refine (markInt64S_any v _ _ k0 _ _ (OwnR.own o1.own) (by omega) (by omega) (by omega)).mono ?_
  rintro e w2 ⟨rfl, m2, hg2⟩
  have hc2 := Chg.of_grown hg2 in1.out
  have m2 : OwI _ _ _ _ _ _ _ _ := ⟨m2, fun g hg => (in1.out g hg).2⟩
  go_wp2_with fail
  go_ret
  exact ⟨rfl, m2, (Chg.of_below hB).trans hc2⟩

set_option maxHeartbeats 1000000 in
theorem heldSheet_z (d : Int) (v : Value) (n : Nat) (k0 : Int) (w : World) (lo : Nat) (o : SlI w lo w.heap.size v (marks id 1 k0 n)) (hk0 : 0 ≤ k0) (hk1 : k0 ≤ 1000000000) (hn : n ≤ 4000000) :
    Calls Tryd.prog 16 #[.agg #[.int .i64 d, v], .int .i64 k0] w fun e w' => e = .returned (.int .i64 (k0 + n)) ∧ Below w.heap.size w w' := by
  go_enter Tryd.func16, Tryd.ntmps16
  go_wp2_with fail
  have hB : Below w.heap.size w (w.alloc (.cells #[.int .i64 d, v] 28)) := (Below.refl _ _).alloc (Nat.le_refl _) _
  generalize (w.alloc (.cells #[.int .i64 d, v] 28)) = w1 at *
  have o1 := o.below hB (Nat.le_refl _)
  refine (heldInt64S_any v n k0 _ _ _ o1 (by omega) (by omega) (by omega)).mono ?_
  rintro e w2 ⟨rfl, rfl⟩
  have q1 : ¬ (k0 + (n : Int) < 0) := by omega
  go_wp2_with fail
  go_ret
  exact ⟨rfl, hB⟩
end Go.Proofs.YtodfkbgifoecbaaDoor
