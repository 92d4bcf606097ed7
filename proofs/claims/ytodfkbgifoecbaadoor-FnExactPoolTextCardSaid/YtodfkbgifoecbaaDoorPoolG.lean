/- Pools: marks, and whether they hold. No condition but the sizes that the law itself asks. -/
import Derived.Test.YtodfkbgifoecbaaDoorPoolF
namespace Go.Proofs.YtodfkbgifoecbaaDoor
open Go.RowKit

set_option maxHeartbeats 1000000 in
theorem markPool_any (xn xd : Value) (nums drawn : List Int) (st k0 : Int) (w : World) (lo Q hi : Nat) (on : OwI i64s 1 2 w lo Q xn nums) (od : OwI i64s 1 2 w Q hi xd drawn) (hh : hi ≤ w.heap.size) (hQ : lo ≤ Q) (hQ2 : Q ≤ hi) (hk0 : 0 ≤ k0) (hk1 : k0 ≤ 1000000000) (hn : nums.length ≤ 4000000) (hd : drawn.length ≤ 4000000) :
    Calls Tryd.prog 28 #[.agg #[xn, xd, .int .i64 st], .int .i64 k0] w fun e w' => e = .returned (.int .i64 (k0 + nums.length + drawn.length)) ∧ OwI i64s 1 2 w' lo Q xn (marks id 1 k0 nums.length) ∧ OwI i64s 1 2 w' Q hi xd (marks id 1 (k0 + nums.length) drawn.length) ∧ Chg lo hi w w' := by
  go_enter Tryd.func28, Tryd.ntmps28
  go_wp2_with fail
  have b1 := Blk.new w 45 #[xn, xd, .int .i64 st]
  have hB : Below w.heap.size w (w.alloc (.cells #[xn, xd, .int .i64 st] 45)) := (Below.refl _ _).alloc (Nat.le_refl _) _
  generalize (w.alloc (.cells #[xn, xd, .int .i64 st] 45)) = w1 at *
  have z1 := hB.size
  have on1 := on.below hB
  have od1 := od.below hB
  have in1 := Lib.hid on1.in_
  refine (markInt64S_any xn _ _ k0 _ _ (OwnR.own on1.own) (by omega) (by omega) (by omega)).mono ?_
  rintro e w2 ⟨rfl, m2, hg2⟩
  have hc2 := Chg.of_grown hg2 in1.out
  have m2 : OwI _ _ _ _ _ _ _ _ := ⟨m2, fun g hg => (in1.out g hg).2⟩
  have od2 := od1.chg hc2 (by omega)
  have b2 := hc2.blk b1 (by omega)
  have z2 := hc2.size
  have c0 : w2.cell? ⟨w.heap.size, 1, none⟩ = some xd := b2.cell 1
  have in2 := Lib.hid od2.in_
  go_wp2_with fail
  refine (markInt64S_any xd _ _ (k0 + nums.length) _ _ (OwnR.own od2.own) (by omega) (by omega) (by omega)).mono ?_
  rintro e w3 ⟨rfl, m3, hg3⟩
  have hc3 := Chg.of_grown hg3 in2.out
  have m2' := m2.chg hc3 (by omega)
  go_wp2_with fail
  go_ret
  exact ⟨rfl, m2', ⟨m3, fun g hg => (in2.out g hg).2⟩, (Chg.of_below hB).trans ((hc2.mono (Nat.le_refl _) hQ2).trans (hc3.mono hQ (Nat.le_refl _)))⟩

set_option maxHeartbeats 1000000 in
theorem heldPool_any (xn xd : Value) (n d : Nat) (st k0 : Int) (w : World) (lo lo' : Nat) (on : SlI w lo w.heap.size xn (marks id 1 k0 n)) (od : SlI w lo' w.heap.size xd (marks id 1 (k0 + n) d)) (hk0 : 0 ≤ k0) (hk1 : k0 ≤ 1000000000) (hn : n ≤ 4000000) (hd : d ≤ 4000000) :
    Calls Tryd.prog 29 #[.agg #[xn, xd, .int .i64 st], .int .i64 k0] w fun e w' => e = .returned (.int .i64 (k0 + n + d)) ∧ Below w.heap.size w w' := by
  go_enter Tryd.func29, Tryd.ntmps29
  go_wp2_with fail
  have b1 := Blk.new w 45 #[xn, xd, .int .i64 st]
  have hB : Below w.heap.size w (w.alloc (.cells #[xn, xd, .int .i64 st] 45)) := (Below.refl _ _).alloc (Nat.le_refl _) _
  generalize (w.alloc (.cells #[xn, xd, .int .i64 st] 45)) = w1 at *
  have on1 := on.below hB (Nat.le_refl _)
  have od1 := od.below hB (Nat.le_refl _)
  refine (heldInt64S_any xn n k0 _ _ _ on1 (by omega) (by omega) (by omega)).mono ?_
  rintro e w2 ⟨rfl, rfl⟩
  have c0 : w1.cell? ⟨w.heap.size, 1, none⟩ = some xd := b1.cell 1
  have q1 : ¬ (k0 + (n : Int) < 0) := by omega
  go_wp2_with fail
  refine (heldInt64S_any xd d (k0 + n) _ _ _ od1 (by omega) (by omega) (by omega)).mono ?_
  rintro e w2 ⟨rfl, rfl⟩
  have q2 : ¬ (k0 + (n : Int) + (d : Int) < 0) := by omega
  go_wp2_with fail
  go_ret
  exact ⟨rfl, hB⟩

theorem toPool_z (vn vd : Value) (p : P3) (w : World) (lo lo' : Nat) (hn : SlI w lo w.heap.size vn p.nums) (hd : SlI w lo' w.heap.size vd p.drawn) (hl : p.nums.length ≤ 1048576) (hl' : p.drawn.length ≤ 1048576) :
    Calls Tryd.prog 23 #[.agg #[vn, vd, .int .i64 p.st]] w fun e w' => ∃ xn xd Q, e = .returned (.agg #[xn, xd, .int .i64 p.st]) ∧ OwI i64s 1 2 w' w.heap.size Q xn p.nums ∧ OwI i64s 1 2 w' Q w'.heap.size xd p.drawn ∧ w.heap.size ≤ Q ∧ Q ≤ w'.heap.size ∧ Below w.heap.size w w' := by
  refine (toPool_any vn vd p.nums p.drawn p.st w lo lo' hn hd hl hl').mono ?_
  rintro e w' ⟨xn, xd, B, rfl, o1, o2, hB, hx, hb⟩
  have hz := hb.size
  refine ⟨xn, xd, min B w'.heap.size, rfl, ⟨o1, fun g hg => ?_⟩, ⟨o2.more (Nat.min_le_left _ _), fun g hg => (o2.own.lt g hg).2⟩, by omega, by omega, hb⟩
  have := hx g hg
  have := (o1.own.lt g hg).2
  omega
end Go.Proofs.YtodfkbgifoecbaaDoor
