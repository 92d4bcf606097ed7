/- FnExactLeftOf: for every input the law returns true, and each argument reads as it did. No condition. -/
import Derived.Test.YtfenedoalnieaaaPoolC
import Derived.Test.YtfenedoalnieaaaPoolG
import Derived.Test.YtfenedoalnieaaaReg
namespace Go.Proofs.Ytfenedoalnieaaa.lawFnExactLeftOf
open Go.ChangeShapes Go.WideShapes Go.ChangeAt Go.RowKit

set_option maxRecDepth 100000 in
set_option maxHeartbeats 4000000 in
theorem walkL (vn0 vd0 : Value) (p0 : P3) (w : World) (hn0 : SlI w 0 w.heap.size vn0 p0.nums) (hd0 : SlI w 0 w.heap.size vd0 p0.drawn) :
    Calls Try.prog 5 #[.agg #[vn0, vd0, .int .i64 p0.st]] w fun e w' => e = .returned (.bool true) ∧ Below w.heap.size w w' := by
  have hL : (leftOfF p0).1.length ≤ p0.nums.length := leftOfF_len p0
  have hB0 : Below w.heap.size w w := Below.refl _ _
  have hq : (0:Int) ≤ 1048576 ∧ (1048576:Int) ≤ 1048576 := by omega
  go_enter Try.func5, Try.ntmps5
  go_wp2_with fail
  have hz1 : (w.alloc (.cells #[vn0, vd0, .int .i64 p0.st] 24)).heap.size = w.heap.size + 1 := by simp
  have hb1 : Below w.heap.size w (w.alloc (.cells #[vn0, vd0, .int .i64 p0.st] 24)) := (Below.refl _ _).alloc (Nat.le_refl _) _
  have bx := Blk.new w 24 #[vn0, vd0, .int .i64 p0.st]
  generalize (w.alloc (.cells #[vn0, vd0, .int .i64 p0.st] 24)) = w1 at *
  have z1 := hb1.size
  have hn0 := hn0.below hb1 (by omega)
  have hd0 := hd0.below hb1 (by omega)
  have B1 := Below.trans hB0 (Below.mono hb1 (by omega))
  clear hb1
  have bA0 := bx
  clear bx
  rcases Nat.lt_or_ge 1048576 (p0.nums.length + p0.drawn.length) with hbig | hs0
  · refine (szPool_big vn0 vd0 p0.nums p0.drawn p0.st _ (hn0.more (Nat.le_refl _) (by omega)) (hd0.more (Nat.le_refl _) (by omega)) (Nat.le_refl _) (Nat.le_refl _) hbig).mono ?_
    rintro e wz ⟨rfl, hbz⟩
    go_wp2_with fail
    go_ret
    exact ⟨rfl, B1.trans (hbz.mono (by omega))⟩
  have hk0 : (0 : Int) ≤ 1048576 - (p0.nums.length : Int) - (p0.drawn.length : Int) := by omega
  refine (szPool_small vn0 vd0 p0.nums p0.drawn p0.st _ (hn0.more (Nat.le_refl _) (by omega)) (hd0.more (Nat.le_refl _) (by omega)) (Nat.le_refl _) (Nat.le_refl _) hs0).mono ?_
  rintro e w2 ⟨rfl, hb2⟩
  have z2 := hb2.size
  have hn0 := hn0.below hb2 (by omega)
  have hd0 := hd0.below hb2 (by omega)
  have bA0 := bA0.below' hb2
  have B2 := Below.trans B1 (Below.mono hb2 (by omega))
  clear hb2
  clear B1
  have q_bA0_0 : w2.cell? ⟨w.heap.size, 0, none⟩ = some (vn0) := bA0.cell 0
  have q_bA0_1 : w2.cell? ⟨w.heap.size, 1, none⟩ = some (vd0) := bA0.cell 1
  have q_bA0_2 : w2.cell? ⟨w.heap.size, 2, none⟩ = some (.int .i64 p0.st) := bA0.cell 2
  go_wp2_with fail
  clear q_bA0_0 q_bA0_1 q_bA0_2
  refine (toPool_z vn0 vd0 p0 _ _ _ (hn0.more (Nat.le_refl _) (by omega)) (hd0.more (Nat.le_refl _) (by omega)) (by omega) (by omega)).mono ?_
  rintro e w3 ⟨xn3, xd3, Q3, rfl, o3n, o3d, hQ3, hq3, hb3⟩
  have z3 := hb3.size
  have hn0 := hn0.below hb3 (by omega)
  have hd0 := hd0.below hb3 (by omega)
  have bA0 := bA0.below' hb3
  have B3 := Below.trans B2 (Below.mono hb3 (by omega))
  clear hb3
  clear B2
  obtain ⟨Xn3, kn3, rfl, _, _⟩ := o3n.form
  obtain ⟨Xd3, kd3, rfl, _, _⟩ := o3d.form
  have q_bA0_0 : w3.cell? ⟨w.heap.size, 0, none⟩ = some (vn0) := bA0.cell 0
  have q_bA0_1 : w3.cell? ⟨w.heap.size, 1, none⟩ = some (vd0) := bA0.cell 1
  have q_bA0_2 : w3.cell? ⟨w.heap.size, 2, none⟩ = some (.int .i64 p0.st) := bA0.cell 2
  go_wp2_with fail
  clear q_bA0_0 q_bA0_1 q_bA0_2
  refine (specLeftOf_any (.slice Xn3 p0.nums.length kn3) (.slice Xd3 p0.drawn.length kd3) p0 _ _ _ (OwI.rd (fun _ => rfl) o3n) (OwI.rd (fun _ => rfl) o3d) (by omega)).mono ?_
  rintro e w4 ⟨x4, rfl, o4, hb4⟩
  have z4 := hb4.size
  have hn0 := hn0.below hb4 (by omega)
  have hd0 := hd0.below hb4 (by omega)
  have o3n := o3n.below hb4
  have o3d := o3d.below hb4
  have bA0 := bA0.below' hb4
  have B4 := Below.trans B3 (Below.mono hb4 (by omega))
  clear hb4
  clear B3
  have o4 := OwI.of o4
  clear o3n
  clear o3d
  have q_bA0_0 : w4.cell? ⟨w.heap.size, 0, none⟩ = some (vn0) := bA0.cell 0
  have q_bA0_1 : w4.cell? ⟨w.heap.size, 1, none⟩ = some (vd0) := bA0.cell 1
  have q_bA0_2 : w4.cell? ⟨w.heap.size, 2, none⟩ = some (.int .i64 p0.st) := bA0.cell 2
  go_wp2_with fail
  clear q_bA0_0 q_bA0_1 q_bA0_2
  refine (toPool_z vn0 vd0 p0 _ _ _ (hn0.more (Nat.le_refl _) (by omega)) (hd0.more (Nat.le_refl _) (by omega)) (by omega) (by omega)).mono ?_
  rintro e w5 ⟨xn5, xd5, Q5, rfl, o5n, o5d, hQ5, hq5, hb5⟩
  have z5 := hb5.size
  have hn0 := hn0.below hb5 (by omega)
  have hd0 := hd0.below hb5 (by omega)
  have o4 := o4.below hb5
  have bA0 := bA0.below' hb5
  have B5 := Below.trans B4 (Below.mono hb5 (by omega))
  clear hb5
  clear B4
  obtain ⟨Xn5, kn5, rfl, _, _⟩ := o5n.form
  obtain ⟨Xd5, kd5, rfl, _, _⟩ := o5d.form
  have q_bA0_0 : w5.cell? ⟨w.heap.size, 0, none⟩ = some (vn0) := bA0.cell 0
  have q_bA0_1 : w5.cell? ⟨w.heap.size, 1, none⟩ = some (vd0) := bA0.cell 1
  have q_bA0_2 : w5.cell? ⟨w.heap.size, 2, none⟩ = some (.int .i64 p0.st) := bA0.cell 2
  go_wp2_with fail
  clear q_bA0_0 q_bA0_1 q_bA0_2
  have hz6 : (w5.alloc (.cells #[(.slice Xn5 p0.nums.length kn5), (.slice Xd5 p0.drawn.length kd5), .int .i64 p0.st] 27)).heap.size = w5.heap.size + 1 := by simp
  have hb6 : Below w5.heap.size w5 (w5.alloc (.cells #[(.slice Xn5 p0.nums.length kn5), (.slice Xd5 p0.drawn.length kd5), .int .i64 p0.st] 27)) := (Below.refl _ _).alloc (Nat.le_refl _) _
  have bx := Blk.new w5 27 #[(.slice Xn5 p0.nums.length kn5), (.slice Xd5 p0.drawn.length kd5), .int .i64 p0.st]
  generalize (w5.alloc (.cells #[(.slice Xn5 p0.nums.length kn5), (.slice Xd5 p0.drawn.length kd5), .int .i64 p0.st] 27)) = w6 at *
  have z6 := hb6.size
  have hn0 := hn0.below hb6 (by omega)
  have hd0 := hd0.below hb6 (by omega)
  have o4 := o4.below hb6
  have o5n := o5n.below hb6
  have o5d := o5d.below hb6
  have bA0 := bA0.below' hb6
  have B6 := Below.trans B5 (Below.mono hb6 (by omega))
  clear hb6
  clear B5
  have bX0 := bx
  clear bx
  refine (implLeftOf_any (.slice Xn5 p0.nums.length kn5) (.slice Xd5 p0.drawn.length kd5) p0 _ _ _ (OwI.rd (fun _ => rfl) o5n) (OwI.rd (fun _ => rfl) o5d) (by omega)).mono ?_
  rintro e w7 ⟨x7, rfl, o7, hb7⟩
  have z7 := hb7.size
  have hn0 := hn0.below hb7 (by omega)
  have hd0 := hd0.below hb7 (by omega)
  have o4 := o4.below hb7
  have o5n := o5n.below hb7
  have o5d := o5d.below hb7
  have bA0 := bA0.below' hb7
  have bX0 := bX0.below' hb7
  have B7 := Below.trans B6 (Below.mono hb7 (by omega))
  clear hb7
  clear B6
  have o7 := OwI.of o7
  have q_bA0_0 : w7.cell? ⟨w.heap.size, 0, none⟩ = some (vn0) := bA0.cell 0
  have q_bA0_1 : w7.cell? ⟨w.heap.size, 1, none⟩ = some (vd0) := bA0.cell 1
  have q_bA0_2 : w7.cell? ⟨w.heap.size, 2, none⟩ = some (.int .i64 p0.st) := bA0.cell 2
  have q_bX0_0 : w7.cell? ⟨w5.heap.size, 0, none⟩ = some ((.slice Xn5 p0.nums.length kn5)) := bX0.cell 0
  have q_bX0_1 : w7.cell? ⟨w5.heap.size, 1, none⟩ = some ((.slice Xd5 p0.drawn.length kd5)) := bX0.cell 1
  have q_bX0_2 : w7.cell? ⟨w5.heap.size, 2, none⟩ = some (.int .i64 p0.st) := bX0.cell 2
  go_wp2_with fail
  clear q_bA0_0 q_bA0_1 q_bA0_2 q_bX0_0 q_bX0_1 q_bX0_2
  refine (eqInt64S_any x7 x4 (leftOfF p0).1 (leftOfF p0).1 _ _ _ (OwI.rd (fun _ => rfl) o7) (OwI.rd (fun _ => rfl) o4)).mono ?_
  rintro e w8 ⟨rfl, hb8⟩
  have z8 := hb8.size
  have hn0 := hn0.below hb8 (by omega)
  have hd0 := hd0.below hb8 (by omega)
  have o4 := o4.below hb8
  have o5n := o5n.below hb8
  have o5d := o5d.below hb8
  have o7 := o7.below hb8
  have bA0 := bA0.below' hb8
  have bX0 := bX0.below' hb8
  have B8 := Below.trans B7 (Below.mono hb8 (by omega))
  clear hb8
  clear B7
  have q_bA0_0 : w8.cell? ⟨w.heap.size, 0, none⟩ = some (vn0) := bA0.cell 0
  have q_bA0_1 : w8.cell? ⟨w.heap.size, 1, none⟩ = some (vd0) := bA0.cell 1
  have q_bA0_2 : w8.cell? ⟨w.heap.size, 2, none⟩ = some (.int .i64 p0.st) := bA0.cell 2
  have q_bX0_0 : w8.cell? ⟨w5.heap.size, 0, none⟩ = some ((.slice Xn5 p0.nums.length kn5)) := bX0.cell 0
  have q_bX0_1 : w8.cell? ⟨w5.heap.size, 1, none⟩ = some ((.slice Xd5 p0.drawn.length kd5)) := bX0.cell 1
  have q_bX0_2 : w8.cell? ⟨w5.heap.size, 2, none⟩ = some (.int .i64 p0.st) := bX0.cell 2
  go_wp2_with fail
  have hb9 : Below w8.heap.size w8 w8.drew := (Below.refl _ _).drew
  have z9 := hb9.size
  have hn0 := hn0.below hb9 (by omega)
  have hd0 := hd0.below hb9 (by omega)
  have o4 := o4.below hb9
  have o5n := o5n.below hb9
  have o5d := o5d.below hb9
  have o7 := o7.below hb9
  have bA0 := bA0.below' hb9
  have bX0 := bX0.below' hb9
  have B9 := Below.trans B8 (Below.mono hb9 (by omega))
  clear hb9
  clear B8
  go_region_held3 (fun w' => w'.cell? ⟨w.heap.size, 0, none⟩ = some (vn0) ∧ w'.cell? ⟨w.heap.size, 1, none⟩ = some (vd0) ∧ w'.cell? ⟨w.heap.size, 2, none⟩ = some (.int .i64 p0.st) ∧ w'.cell? ⟨w5.heap.size, 0, none⟩ = some ((.slice Xn5 p0.nums.length kn5)) ∧ w'.cell? ⟨w5.heap.size, 1, none⟩ = some ((.slice Xd5 p0.drawn.length kd5)) ∧ w'.cell? ⟨w5.heap.size, 2, none⟩ = some (.int .i64 p0.st)) (first | exact ⟨q_bA0_0, q_bA0_1, q_bA0_2, q_bX0_0, q_bX0_1, q_bX0_2⟩ | exact ⟨e0, e1, e2, e3, e4, e5⟩ | exact ⟨g0, g1, g2, g3, g4, g5⟩) (first | (go_at_call 14; refine (toPool_z vn0 vd0 p0 _ _ _ (hn0.more (Nat.le_refl _) (by omega)) (hd0.more (Nat.le_refl _) (by omega)) (by omega) (by omega)).mono ?_; rintro e w10 ⟨xn10, xd10, Q10, rfl, o10n, o10d, hQ10, hq10, hb10⟩; have e0 := (bA0.below' hb10).cell 0; have e1 := (bA0.below' hb10).cell 1; have e2 := (bA0.below' hb10).cell 2; have e3 := (bX0.below' hb10).cell 0; have e4 := (bX0.below' hb10).cell 1; have e5 := (bX0.below' hb10).cell 2) | (go_at_call 16; refine (eqPool_any _ _ _ _ p0.nums p0.drawn p0.nums p0.drawn p0.st p0.st _ _ _ _ _ (OwI.rd (fun _ => rfl) (o5n.below hb10)) (OwI.rd (fun _ => rfl) (o5d.below hb10)) (OwI.rd (fun _ => rfl) o10n) (OwI.rd (fun _ => rfl) o10d)).mono ?_; rintro e w11 ⟨rfl, hb11⟩; have g0 := ((bA0.below' hb10).below' hb11).cell 0; have g1 := ((bA0.below' hb10).below' hb11).cell 1; have g2 := ((bA0.below' hb10).below' hb11).cell 2; have g3 := ((bX0.below' hb10).below' hb11).cell 0; have g4 := ((bX0.below' hb10).below' hb11).cell 1; have g5 := ((bX0.below' hb10).below' hb11).cell 2))
  clear q_bA0_0 q_bA0_1 q_bA0_2 q_bX0_0 q_bX0_1 q_bX0_2
  have z10 := hb10.size
  have hn0 := hn0.below hb10 (by omega)
  have hd0 := hd0.below hb10 (by omega)
  have o4 := o4.below hb10
  have o5n := o5n.below hb10
  have o5d := o5d.below hb10
  have o7 := o7.below hb10
  have bA0 := bA0.below' hb10
  have bX0 := bX0.below' hb10
  have B10 := Below.trans B9 (Below.mono hb10 (by omega))
  clear hb10
  clear B9
  have z11 := hb11.size
  have hn0 := hn0.below hb11 (by omega)
  have hd0 := hd0.below hb11 (by omega)
  have o4 := o4.below hb11
  have o5n := o5n.below hb11
  have o5d := o5d.below hb11
  have o7 := o7.below hb11
  have bA0 := bA0.below' hb11
  have bX0 := bX0.below' hb11
  have B11 := Below.trans B10 (Below.mono hb11 (by omega))
  clear hb11
  clear B10
  have q_bA0_0 : w11.cell? ⟨w.heap.size, 0, none⟩ = some (vn0) := bA0.cell 0
  have q_bA0_1 : w11.cell? ⟨w.heap.size, 1, none⟩ = some (vd0) := bA0.cell 1
  have q_bA0_2 : w11.cell? ⟨w.heap.size, 2, none⟩ = some (.int .i64 p0.st) := bA0.cell 2
  have q_bX0_0 : w11.cell? ⟨w5.heap.size, 0, none⟩ = some ((.slice Xn5 p0.nums.length kn5)) := bX0.cell 0
  have q_bX0_1 : w11.cell? ⟨w5.heap.size, 1, none⟩ = some ((.slice Xd5 p0.drawn.length kd5)) := bX0.cell 1
  have q_bX0_2 : w11.cell? ⟨w5.heap.size, 2, none⟩ = some (.int .i64 p0.st) := bX0.cell 2
  go_wp2_with fail
  clear q_bA0_0 q_bA0_1 q_bA0_2 q_bX0_0 q_bX0_1 q_bX0_2
  refine (markPool_any (.slice Xn5 p0.nums.length kn5) (.slice Xd5 p0.drawn.length kd5) p0.nums p0.drawn (p0.st) 1 _ _ _ _ o5n o5d (by omega) (by omega) (by omega) (by omega) (by omega) (by omega) (by omega)).mono ?_
  rintro e w12 ⟨rfl, m12n, m12d, hc12⟩
  clear o5n o5d
  have z12 := hc12.size
  have hn0 := hn0.chg hc12 (by omega) (by omega)
  have hd0 := hd0.chg hc12 (by omega) (by omega)
  have o4 := o4.chg hc12 (by omega)
  have o7 := o7.chg hc12 (by omega)
  have bA0 := hc12.blk bA0 (by omega)
  have bX0 := hc12.blk bX0 (by omega)
  have B12 := Chg.below B11 hc12 (by omega) (by omega)
  clear hc12
  clear B11
  clear m12n
  clear m12d
  clear bX0
  have q_bA0_0 : w12.cell? ⟨w.heap.size, 0, none⟩ = some (vn0) := bA0.cell 0
  have q_bA0_1 : w12.cell? ⟨w.heap.size, 1, none⟩ = some (vd0) := bA0.cell 1
  have q_bA0_2 : w12.cell? ⟨w.heap.size, 2, none⟩ = some (.int .i64 p0.st) := bA0.cell 2
  go_wp2_with fail
  clear q_bA0_0 q_bA0_1 q_bA0_2
  refine (eqInt64S_any x7 x4 (leftOfF p0).1 (leftOfF p0).1 _ _ _ (OwI.rd (fun _ => rfl) o7) (OwI.rd (fun _ => rfl) o4)).mono ?_
  rintro e w13 ⟨rfl, hb13⟩
  have z13 := hb13.size
  have hn0 := hn0.below hb13 (by omega)
  have hd0 := hd0.below hb13 (by omega)
  have o4 := o4.below hb13
  have o7 := o7.below hb13
  have bA0 := bA0.below' hb13
  have B13 := Below.trans B12 (Below.mono hb13 (by omega))
  clear hb13
  clear B12
  have q_bA0_0 : w13.cell? ⟨w.heap.size, 0, none⟩ = some (vn0) := bA0.cell 0
  have q_bA0_1 : w13.cell? ⟨w.heap.size, 1, none⟩ = some (vd0) := bA0.cell 1
  have q_bA0_2 : w13.cell? ⟨w.heap.size, 2, none⟩ = some (.int .i64 p0.st) := bA0.cell 2
  go_wp2_with fail
  clear q_bA0_0 q_bA0_1 q_bA0_2
  have in14 := Lib.hid o7.in_
  refine (markInt64S_any x7 _ _ 1 _ _ (OwnR.own o7.own) (by omega) (by omega) (by omega)).mono ?_
  rintro e w14 ⟨rfl, m14, hg14⟩
  have hc14 := Chg.of_grown hg14 in14.out
  clear hg14 o7
  have z14 := hc14.size
  have hn0 := hn0.chg hc14 (by omega) (by omega)
  have hd0 := hd0.chg hc14 (by omega) (by omega)
  have o4 := o4.chg hc14 (by omega)
  have bA0 := hc14.blk bA0 (by omega)
  have B14 := Chg.below B13 hc14 (by omega) (by omega)
  clear hc14
  clear B13
  have m14 : OwI _ _ _ _ _ _ _ _ := ⟨m14, fun g hg => (in14.out g hg).2⟩
  have q_bA0_0 : w14.cell? ⟨w.heap.size, 0, none⟩ = some (vn0) := bA0.cell 0
  have q_bA0_1 : w14.cell? ⟨w.heap.size, 1, none⟩ = some (vd0) := bA0.cell 1
  have q_bA0_2 : w14.cell? ⟨w.heap.size, 2, none⟩ = some (.int .i64 p0.st) := bA0.cell 2
  go_wp2_with fail
  clear q_bA0_0 q_bA0_1 q_bA0_2
  refine (heldInt64S_any x7 _ 1 _ _ _ (OwI.rd (fun _ => rfl) m14) (by omega) (by omega) (by omega)).mono ?_
  rintro e w1015 ⟨rfl, rfl⟩
  have q_bA0_0 : w14.cell? ⟨w.heap.size, 0, none⟩ = some (vn0) := bA0.cell 0
  have q_bA0_1 : w14.cell? ⟨w.heap.size, 1, none⟩ = some (vd0) := bA0.cell 1
  have q_bA0_2 : w14.cell? ⟨w.heap.size, 2, none⟩ = some (.int .i64 p0.st) := bA0.cell 2
  go_wp2_with fail
  clear q_bA0_0 q_bA0_1 q_bA0_2
  refine (toPool_z vn0 vd0 p0 _ _ _ (hn0.more (Nat.le_refl _) (by omega)) (hd0.more (Nat.le_refl _) (by omega)) (by omega) (by omega)).mono ?_
  rintro e w16 ⟨xn16, xd16, Q16, rfl, o16n, o16d, hQ16, hq16, hb16⟩
  have z16 := hb16.size
  have hn0 := hn0.below hb16 (by omega)
  have hd0 := hd0.below hb16 (by omega)
  have o4 := o4.below hb16
  have m14 := m14.below hb16
  have bA0 := bA0.below' hb16
  have B16 := Below.trans B14 (Below.mono hb16 (by omega))
  clear hb16
  clear B14
  obtain ⟨Xn16, kn16, rfl, _, _⟩ := o16n.form
  obtain ⟨Xd16, kd16, rfl, _, _⟩ := o16d.form
  have q_bA0_0 : w16.cell? ⟨w.heap.size, 0, none⟩ = some (vn0) := bA0.cell 0
  have q_bA0_1 : w16.cell? ⟨w.heap.size, 1, none⟩ = some (vd0) := bA0.cell 1
  have q_bA0_2 : w16.cell? ⟨w.heap.size, 2, none⟩ = some (.int .i64 p0.st) := bA0.cell 2
  go_wp2_with fail
  clear q_bA0_0 q_bA0_1 q_bA0_2
  refine (implLeftOf_any (.slice Xn16 p0.nums.length kn16) (.slice Xd16 p0.drawn.length kd16) p0 _ _ _ (OwI.rd (fun _ => rfl) o16n) (OwI.rd (fun _ => rfl) o16d) (by omega)).mono ?_
  rintro e w17 ⟨x17, rfl, o17, hb17⟩
  have z17 := hb17.size
  have hn0 := hn0.below hb17 (by omega)
  have hd0 := hd0.below hb17 (by omega)
  have o4 := o4.below hb17
  have m14 := m14.below hb17
  have o16n := o16n.below hb17
  have o16d := o16d.below hb17
  have bA0 := bA0.below' hb17
  have B17 := Below.trans B16 (Below.mono hb17 (by omega))
  clear hb17
  clear B16
  have o17 := OwI.of o17
  have q_bA0_0 : w17.cell? ⟨w.heap.size, 0, none⟩ = some (vn0) := bA0.cell 0
  have q_bA0_1 : w17.cell? ⟨w.heap.size, 1, none⟩ = some (vd0) := bA0.cell 1
  have q_bA0_2 : w17.cell? ⟨w.heap.size, 2, none⟩ = some (.int .i64 p0.st) := bA0.cell 2
  go_wp2_with fail
  clear q_bA0_0 q_bA0_1 q_bA0_2
  refine (eqInt64S_any x17 x4 (leftOfF p0).1 (leftOfF p0).1 _ _ _ (OwI.rd (fun _ => rfl) o17) (OwI.rd (fun _ => rfl) o4)).mono ?_
  rintro e w18 ⟨rfl, hb18⟩
  have z18 := hb18.size
  have hn0 := hn0.below hb18 (by omega)
  have hd0 := hd0.below hb18 (by omega)
  have o4 := o4.below hb18
  have m14 := m14.below hb18
  have o16n := o16n.below hb18
  have o16d := o16d.below hb18
  have o17 := o17.below hb18
  have bA0 := bA0.below' hb18
  have B18 := Below.trans B17 (Below.mono hb18 (by omega))
  clear hb18
  clear B17
  have q_bA0_0 : w18.cell? ⟨w.heap.size, 0, none⟩ = some (vn0) := bA0.cell 0
  have q_bA0_1 : w18.cell? ⟨w.heap.size, 1, none⟩ = some (vd0) := bA0.cell 1
  have q_bA0_2 : w18.cell? ⟨w.heap.size, 2, none⟩ = some (.int .i64 p0.st) := bA0.cell 2
  go_wp2_with fail
  clear q_bA0_0 q_bA0_1 q_bA0_2
  refine (heldInt64S_any x7 _ 1 _ _ _ (OwI.rd (fun _ => rfl) m14) (by omega) (by omega) (by omega)).mono ?_
  rintro e w1019 ⟨rfl, rfl⟩
  have q_bA0_0 : w18.cell? ⟨w.heap.size, 0, none⟩ = some (vn0) := bA0.cell 0
  have q_bA0_1 : w18.cell? ⟨w.heap.size, 1, none⟩ = some (vd0) := bA0.cell 1
  have q_bA0_2 : w18.cell? ⟨w.heap.size, 2, none⟩ = some (.int .i64 p0.st) := bA0.cell 2
  go_wp2_with fail
  clear q_bA0_0 q_bA0_1 q_bA0_2
  go_ret
  exact ⟨rfl, B18⟩

theorem walk (v0 : Value) (w : World) (g0 : ∃ (vn vd : Value) (q : P3), v0 = .agg #[vn, vd, .int .i64 q.st] ∧ SlI w 0 w.heap.size vn q.nums ∧ SlI w 0 w.heap.size vd q.drawn) :
    Calls Try.prog 5 #[v0] w fun e w' => e = .returned (.bool true) ∧ Below w.heap.size w w' := by
  obtain ⟨vn0, vd0, p0, rfl, hn0, hd0⟩ := g0
  exact walkL vn0 vd0 p0 w hn0 hd0

theorem own : ownKnob Try.prog.godebug = none := by kernel_rfl
theorem laidOut : laidOutB Try.prog = true := by kernel_rfl

set_option maxRecDepth 100000 in
theorem lifted (os : Os) (started : os.Started) (H : Type) (enc : TypeId × Value → H) :
    ReturnsInHanded {} Try.checked os 5 .any (Rows.fnExactLeftOfSpec.pre6 enc Try.prog Try.f5 Rows.fnExactLeftOfRow.domain false) (Rows.fnExactLeftOfSpec.post enc Try.prog Try.f5 false true false false) := by
  refine returnsInHanded_of_change (C := Try.checked) own started (by kernel_rfl) Try.func5
    (ChangeSpec.witness6 (enc := enc) (C := Try.checked) false ⟨#[], #[.agg #[.slice none 0 0, .slice none 0 0, .int .i64 0]], []⟩ 8 (by kernel_rfl) (by kernel_rfl) (by kernel_rfl) (by kernel_rfl)) ?_
  intro W base args ds gs before hval0 hW hcnd _
  have hval : ∀ (j : Nat) t v, Try.f5.params[j]? = some t → args[j]? = some v → Value.okWide Try.prog W .any base t v := hval0
  have hW' := hW
  obtain ⟨p, q, hA0, hV, rfl, hfz, hnd⟩ := hW
  have hA : DataW.TrodAll enc Try.prog W 0 (fun _ => true) true Try.f5.params.toList args.toList ds p := hA0
  rw [Try.params5] at hA hval
  obtain ⟨v0, vs0, d0, ds0, p0, q0, hargs, rfl, rfl, h0, r0⟩ := trodAll_cons hA
  obtain ⟨rfl, rfl, rfl⟩ := trodAll_nil r0
  obtain rfl : args = #[v0] := by cases args; simp_all
  obtain ⟨rfl, rfl⟩ := trodVars_none hV
  have lt0 : ∀ x ∈ p0, x.block < W.heap.size := by obtain ⟨m, hm⟩ := h0; exact DataW.trod_lt m _ _ _ hm
  have g0 := open_PoolV (hval 0 24 v0 rfl rfl) h0
  clear hA0 hval0
  refine (walk v0 W g0).mono fun e W' ⟨he, bel⟩ => ?_
  subst he
  exact ⟨_, rfl, _, _, _, [], _, [], hW', trodAll_mk1 (shut_bool Try.underlying4 _), (trodAll_cons_mk (Below.trod laidOut (by kernel_rfl) (of_decide_eq_true (by kernel_rfl)) h0 bel lt0) trodAll_mk0), rfl, bel.frame _, fun h => by cases h⟩

theorem over : Rows.fnExactLeftOfRow.holds Try.pinned (OpenSpec.ofChange Rows.fnExactLeftOfSpec) :=
  OpenClaim.holds_of_wide 5 Try.f5 rfl rfl rfl rfl rfl rfl rfl ⟨rfl, rfl, rfl, rfl, rfl⟩ rfl rfl rfl rfl rfl (by kernel_rfl) Try.func5 (by kernel_rfl)
    (of_decide_eq_true (by kernel_rfl)) (by unfold Func.isWrapper; first | (rw [if_pos (by decide +kernel)]; kernel_rfl) | (rw [if_neg (by decide +kernel)]; exact ⟨rfl, rfl⟩))
    (fun os started H enc _ => lifted os started H enc)

theorem proved : Rows.FnExactLeftOfSaid := over
#print axioms proved
end Go.Proofs.Ytfenedoalnieaaa.lawFnExactLeftOf

