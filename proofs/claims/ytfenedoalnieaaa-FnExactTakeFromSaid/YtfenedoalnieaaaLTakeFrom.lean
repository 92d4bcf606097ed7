/- FnExactTakeFrom: for every input the law returns true, and each argument reads as it did. No condition. -/
import Derived.Test.YtfenedoalnieaaaPoolP
import Derived.Test.YtfenedoalnieaaaPoolG
import Derived.Test.YtfenedoalnieaaaReg
namespace Go.Proofs.Ytfenedoalnieaaa.lawFnExactTakeFrom
open Go.ChangeShapes Go.WideShapes Go.ChangeAt Go.RowKit

set_option maxRecDepth 100000 in
set_option maxHeartbeats 4000000 in
theorem walkL (vn0 vd0 : Value) (p0 : P3) (n1 : Int) (w : World) (hn0 : SlI w 0 w.heap.size vn0 p0.nums) (hd0 : SlI w 0 w.heap.size vd0 p0.drawn) :
    Calls Try.prog 9 #[.agg #[vn0, vd0, .int .i64 p0.st], .int .i64 n1] w fun e w' => e = .returned (.bool true) ∧ Below w.heap.size w w' := by
  have hL : (takeF p0 n1).1.nums.length ≤ 60 ∧ (takeF p0 n1).1.drawn.length ≤ 60 ∧ (takeF p0 n1).2.1.length ≤ 60 := takeF_len p0 n1
  have hB0 : Below w.heap.size w w := Below.refl _ _
  have hq : (0:Int) ≤ 1048576 ∧ (1048576:Int) ≤ 1048576 := by omega
  go_enter Try.func9, Try.ntmps9
  go_wp2_with fail
  have hz1 : (w.alloc (.cells #[vn0, vd0, .int .i64 p0.st] 24)).heap.size = w.heap.size + 1 := by simp
  have hb1 : Below w.heap.size w (w.alloc (.cells #[vn0, vd0, .int .i64 p0.st] 24)) := (Below.refl _ _).alloc (Nat.le_refl _) _
  have bx := Blk.new w 24 #[vn0, vd0, .int .i64 p0.st]
  generalize (w.alloc (.cells #[vn0, vd0, .int .i64 p0.st] 24)) = w1 at *
  have z1 := hb1.size
  have hn0 := hn0.below hb1 (by omega)
  have hd0 := hd0.below hb1 (by omega)
  have B1 := Below.trans hB0 (Below.mono hb1 (by omega))
  clear hb1
  have bA0 := bx
  clear bx
  rcases Nat.lt_or_ge 1048576 (p0.nums.length + p0.drawn.length) with hbig | hs0
  · refine (szPool_big vn0 vd0 p0.nums p0.drawn p0.st _ (hn0.more (Nat.le_refl _) (by omega)) (hd0.more (Nat.le_refl _) (by omega)) (Nat.le_refl _) (Nat.le_refl _) hbig).mono ?_
    rintro e wz ⟨rfl, hbz⟩
    go_wp2_with fail
    go_ret
    exact ⟨rfl, B1.trans (hbz.mono (by omega))⟩
  have hk0 : (0 : Int) ≤ 1048576 - (p0.nums.length : Int) - (p0.drawn.length : Int) := by omega
  refine (szPool_small vn0 vd0 p0.nums p0.drawn p0.st _ (hn0.more (Nat.le_refl _) (by omega)) (hd0.more (Nat.le_refl _) (by omega)) (Nat.le_refl _) (Nat.le_refl _) hs0).mono ?_
  rintro e w2 ⟨rfl, hb2⟩
  have z2 := hb2.size
  have hn0 := hn0.below hb2 (by omega)
  have hd0 := hd0.below hb2 (by omega)
  have bA0 := bA0.below' hb2
  have B2 := Below.trans B1 (Below.mono hb2 (by omega))
  clear hb2
  clear B1
  have q_bA0_0 : w2.cell? ⟨w.heap.size, 0, none⟩ = some (vn0) := bA0.cell 0
  have q_bA0_1 : w2.cell? ⟨w.heap.size, 1, none⟩ = some (vd0) := bA0.cell 1
  have q_bA0_2 : w2.cell? ⟨w.heap.size, 2, none⟩ = some (.int .i64 p0.st) := bA0.cell 2
  go_wp2_with fail
  clear q_bA0_0 q_bA0_1 q_bA0_2
  refine (toPool_z vn0 vd0 p0 _ _ _ (hn0.more (Nat.le_refl _) (by omega)) (hd0.more (Nat.le_refl _) (by omega)) (by omega) (by omega)).mono ?_
  rintro e w3 ⟨xn3, xd3, Q3, rfl, o3n, o3d, hQ3, hq3, hb3⟩
  have z3 := hb3.size
  have hn0 := hn0.below hb3 (by omega)
  have hd0 := hd0.below hb3 (by omega)
  have bA0 := bA0.below' hb3
  have B3 := Below.trans B2 (Below.mono hb3 (by omega))
  clear hb3
  clear B2
  obtain ⟨Xn3, kn3, rfl, _, _⟩ := o3n.form
  obtain ⟨Xd3, kd3, rfl, _, _⟩ := o3d.form
  have q_bA0_0 : w3.cell? ⟨w.heap.size, 0, none⟩ = some (vn0) := bA0.cell 0
  have q_bA0_1 : w3.cell? ⟨w.heap.size, 1, none⟩ = some (vd0) := bA0.cell 1
  have q_bA0_2 : w3.cell? ⟨w.heap.size, 2, none⟩ = some (.int .i64 p0.st) := bA0.cell 2
  go_wp2_with fail
  clear q_bA0_0 q_bA0_1 q_bA0_2
  refine (specTakeFrom_any (.slice Xn3 p0.nums.length kn3) (.slice Xd3 p0.drawn.length kd3) p0 n1 _ _ _ (OwI.rd (fun _ => rfl) o3n) (OwI.rd (fun _ => rfl) o3d) (by omega) (by omega)).mono ?_
  rintro e w4 ⟨xn4, xd4, x4, rfl, o4n, o4d, o4l, hb4⟩
  have z4 := hb4.size
  have hn0 := hn0.below hb4 (by omega)
  have hd0 := hd0.below hb4 (by omega)
  have o3n := o3n.below hb4
  have o3d := o3d.below hb4
  have bA0 := bA0.below' hb4
  have B4 := Below.trans B3 (Below.mono hb4 (by omega))
  clear hb4
  clear B3
  obtain ⟨Xn4, kn4, rfl, _, _⟩ := o4n.form
  obtain ⟨Xd4, kd4, rfl, _, _⟩ := o4d.form
  clear o3n
  clear o3d
  have q_bA0_0 : w4.cell? ⟨w.heap.size, 0, none⟩ = some (vn0) := bA0.cell 0
  have q_bA0_1 : w4.cell? ⟨w.heap.size, 1, none⟩ = some (vd0) := bA0.cell 1
  have q_bA0_2 : w4.cell? ⟨w.heap.size, 2, none⟩ = some (.int .i64 p0.st) := bA0.cell 2
  have qa_bA0_0 : (w4.alloc (.cells #[(.slice Xn4 (takeF p0 n1).1.nums.length kn4), (.slice Xd4 (takeF p0 n1).1.drawn.length kd4), .int .i64 (takeF p0 n1).1.st] 27)).cell? ⟨w.heap.size, 0, none⟩ = some (vn0) := (bA0.alloc _).cell 0
  have qa_bA0_1 : (w4.alloc (.cells #[(.slice Xn4 (takeF p0 n1).1.nums.length kn4), (.slice Xd4 (takeF p0 n1).1.drawn.length kd4), .int .i64 (takeF p0 n1).1.st] 27)).cell? ⟨w.heap.size, 1, none⟩ = some (vd0) := (bA0.alloc _).cell 1
  have qa_bA0_2 : (w4.alloc (.cells #[(.slice Xn4 (takeF p0 n1).1.nums.length kn4), (.slice Xd4 (takeF p0 n1).1.drawn.length kd4), .int .i64 (takeF p0 n1).1.st] 27)).cell? ⟨w.heap.size, 2, none⟩ = some (.int .i64 p0.st) := (bA0.alloc _).cell 2
  go_wp2_with fail
  clear q_bA0_0 q_bA0_1 q_bA0_2 qa_bA0_0 qa_bA0_1 qa_bA0_2
  have hz5 : (w4.alloc (.cells #[(.slice Xn4 (takeF p0 n1).1.nums.length kn4), (.slice Xd4 (takeF p0 n1).1.drawn.length kd4), .int .i64 (takeF p0 n1).1.st] 27)).heap.size = w4.heap.size + 1 := by simp
  have hb5 : Below w4.heap.size w4 (w4.alloc (.cells #[(.slice Xn4 (takeF p0 n1).1.nums.length kn4), (.slice Xd4 (takeF p0 n1).1.drawn.length kd4), .int .i64 (takeF p0 n1).1.st] 27)) := (Below.refl _ _).alloc (Nat.le_refl _) _
  have bx := Blk.new w4 27 #[(.slice Xn4 (takeF p0 n1).1.nums.length kn4), (.slice Xd4 (takeF p0 n1).1.drawn.length kd4), .int .i64 (takeF p0 n1).1.st]
  generalize (w4.alloc (.cells #[(.slice Xn4 (takeF p0 n1).1.nums.length kn4), (.slice Xd4 (takeF p0 n1).1.drawn.length kd4), .int .i64 (takeF p0 n1).1.st] 27)) = w5 at *
  have z5 := hb5.size
  have hn0 := hn0.below hb5 (by omega)
  have hd0 := hd0.below hb5 (by omega)
  have o4n := o4n.below hb5 (by omega)
  have o4d := o4d.below hb5 (by omega)
  have o4l := o4l.below hb5 (by omega)
  have bA0 := bA0.below' hb5
  have B5 := Below.trans B4 (Below.mono hb5 (by omega))
  clear hb5
  clear B4
  have bW := bx
  clear bx
  refine (toPool_z vn0 vd0 p0 _ _ _ (hn0.more (Nat.le_refl _) (by omega)) (hd0.more (Nat.le_refl _) (by omega)) (by omega) (by omega)).mono ?_
  rintro e w6 ⟨xn6, xd6, Q6, rfl, o6n, o6d, hQ6, hq6, hb6⟩
  have z6 := hb6.size
  have hn0 := hn0.below hb6 (by omega)
  have hd0 := hd0.below hb6 (by omega)
  have o4n := o4n.below hb6 (by omega)
  have o4d := o4d.below hb6 (by omega)
  have o4l := o4l.below hb6 (by omega)
  have bA0 := bA0.below' hb6
  have bW := bW.below' hb6
  have B6 := Below.trans B5 (Below.mono hb6 (by omega))
  clear hb6
  clear B5
  obtain ⟨Xn6, kn6, rfl, _, _⟩ := o6n.form
  obtain ⟨Xd6, kd6, rfl, _, _⟩ := o6d.form
  have q_bA0_0 : w6.cell? ⟨w.heap.size, 0, none⟩ = some (vn0) := bA0.cell 0
  have q_bA0_1 : w6.cell? ⟨w.heap.size, 1, none⟩ = some (vd0) := bA0.cell 1
  have q_bA0_2 : w6.cell? ⟨w.heap.size, 2, none⟩ = some (.int .i64 p0.st) := bA0.cell 2
  have q_bW_0 : w6.cell? ⟨w4.heap.size, 0, none⟩ = some ((.slice Xn4 (takeF p0 n1).1.nums.length kn4)) := bW.cell 0
  have q_bW_1 : w6.cell? ⟨w4.heap.size, 1, none⟩ = some ((.slice Xd4 (takeF p0 n1).1.drawn.length kd4)) := bW.cell 1
  have q_bW_2 : w6.cell? ⟨w4.heap.size, 2, none⟩ = some (.int .i64 (takeF p0 n1).1.st) := bW.cell 2
  have qa_bA0_0 : (w6.alloc (.cells #[(.slice Xn6 p0.nums.length kn6), (.slice Xd6 p0.drawn.length kd6), .int .i64 p0.st] 27)).cell? ⟨w.heap.size, 0, none⟩ = some (vn0) := (bA0.alloc _).cell 0
  have qa_bA0_1 : (w6.alloc (.cells #[(.slice Xn6 p0.nums.length kn6), (.slice Xd6 p0.drawn.length kd6), .int .i64 p0.st] 27)).cell? ⟨w.heap.size, 1, none⟩ = some (vd0) := (bA0.alloc _).cell 1
  have qa_bA0_2 : (w6.alloc (.cells #[(.slice Xn6 p0.nums.length kn6), (.slice Xd6 p0.drawn.length kd6), .int .i64 p0.st] 27)).cell? ⟨w.heap.size, 2, none⟩ = some (.int .i64 p0.st) := (bA0.alloc _).cell 2
  have qa_bW_0 : (w6.alloc (.cells #[(.slice Xn6 p0.nums.length kn6), (.slice Xd6 p0.drawn.length kd6), .int .i64 p0.st] 27)).cell? ⟨w4.heap.size, 0, none⟩ = some ((.slice Xn4 (takeF p0 n1).1.nums.length kn4)) := (bW.alloc _).cell 0
  have qa_bW_1 : (w6.alloc (.cells #[(.slice Xn6 p0.nums.length kn6), (.slice Xd6 p0.drawn.length kd6), .int .i64 p0.st] 27)).cell? ⟨w4.heap.size, 1, none⟩ = some ((.slice Xd4 (takeF p0 n1).1.drawn.length kd4)) := (bW.alloc _).cell 1
  have qa_bW_2 : (w6.alloc (.cells #[(.slice Xn6 p0.nums.length kn6), (.slice Xd6 p0.drawn.length kd6), .int .i64 p0.st] 27)).cell? ⟨w4.heap.size, 2, none⟩ = some (.int .i64 (takeF p0 n1).1.st) := (bW.alloc _).cell 2
  go_wp2_with fail
  clear q_bA0_0 q_bA0_1 q_bA0_2 q_bW_0 q_bW_1 q_bW_2 qa_bA0_0 qa_bA0_1 qa_bA0_2 qa_bW_0 qa_bW_1 qa_bW_2
  have hz7 : (w6.alloc (.cells #[(.slice Xn6 p0.nums.length kn6), (.slice Xd6 p0.drawn.length kd6), .int .i64 p0.st] 27)).heap.size = w6.heap.size + 1 := by simp
  have hb7 : Below w6.heap.size w6 (w6.alloc (.cells #[(.slice Xn6 p0.nums.length kn6), (.slice Xd6 p0.drawn.length kd6), .int .i64 p0.st] 27)) := (Below.refl _ _).alloc (Nat.le_refl _) _
  have bx := Blk.new w6 27 #[(.slice Xn6 p0.nums.length kn6), (.slice Xd6 p0.drawn.length kd6), .int .i64 p0.st]
  generalize (w6.alloc (.cells #[(.slice Xn6 p0.nums.length kn6), (.slice Xd6 p0.drawn.length kd6), .int .i64 p0.st] 27)) = w7 at *
  have z7 := hb7.size
  have hn0 := hn0.below hb7 (by omega)
  have hd0 := hd0.below hb7 (by omega)
  have o4n := o4n.below hb7 (by omega)
  have o4d := o4d.below hb7 (by omega)
  have o4l := o4l.below hb7 (by omega)
  have o6n := o6n.below hb7
  have o6d := o6d.below hb7
  have bA0 := bA0.below' hb7
  have bW := bW.below' hb7
  have B7 := Below.trans B6 (Below.mono hb7 (by omega))
  clear hb7
  clear B6
  have bX0 := bx
  clear bx
  refine (implTakeFrom_any (.slice Xn6 p0.nums.length kn6) (.slice Xd6 p0.drawn.length kd6) p0 n1 _ _ _ (OwI.rd (fun _ => rfl) o6n) (OwI.rd (fun _ => rfl) o6d) ).mono ?_
  rintro e w8 ⟨xn8, xd8, x8, Q8, R8, rfl, o8n, o8d, o8l, hQ8, hq8, hr8, hb8⟩
  have z8 := hb8.size
  have hn0 := hn0.below hb8 (by omega)
  have hd0 := hd0.below hb8 (by omega)
  have o4n := o4n.below hb8 (by omega)
  have o4d := o4d.below hb8 (by omega)
  have o4l := o4l.below hb8 (by omega)
  have o6n := o6n.below hb8
  have o6d := o6d.below hb8
  have bA0 := bA0.below' hb8
  have bW := bW.below' hb8
  have bX0 := bX0.below' hb8
  have B8 := Below.trans B7 (Below.mono hb8 (by omega))
  clear hb8
  clear B7
  obtain ⟨Xn8, kn8, rfl, _, _⟩ := o8n.form
  obtain ⟨Xd8, kd8, rfl, _, _⟩ := o8d.form
  have q_bA0_0 : w8.cell? ⟨w.heap.size, 0, none⟩ = some (vn0) := bA0.cell 0
  have q_bA0_1 : w8.cell? ⟨w.heap.size, 1, none⟩ = some (vd0) := bA0.cell 1
  have q_bA0_2 : w8.cell? ⟨w.heap.size, 2, none⟩ = some (.int .i64 p0.st) := bA0.cell 2
  have q_bW_0 : w8.cell? ⟨w4.heap.size, 0, none⟩ = some ((.slice Xn4 (takeF p0 n1).1.nums.length kn4)) := bW.cell 0
  have q_bW_1 : w8.cell? ⟨w4.heap.size, 1, none⟩ = some ((.slice Xd4 (takeF p0 n1).1.drawn.length kd4)) := bW.cell 1
  have q_bW_2 : w8.cell? ⟨w4.heap.size, 2, none⟩ = some (.int .i64 (takeF p0 n1).1.st) := bW.cell 2
  have q_bX0_0 : w8.cell? ⟨w6.heap.size, 0, none⟩ = some ((.slice Xn6 p0.nums.length kn6)) := bX0.cell 0
  have q_bX0_1 : w8.cell? ⟨w6.heap.size, 1, none⟩ = some ((.slice Xd6 p0.drawn.length kd6)) := bX0.cell 1
  have q_bX0_2 : w8.cell? ⟨w6.heap.size, 2, none⟩ = some (.int .i64 p0.st) := bX0.cell 2
  have qa_bA0_0 : (w8.alloc (.cells #[(.slice Xn8 (takeF p0 n1).1.nums.length kn8), (.slice Xd8 (takeF p0 n1).1.drawn.length kd8), .int .i64 (takeF p0 n1).1.st] 27)).cell? ⟨w.heap.size, 0, none⟩ = some (vn0) := (bA0.alloc _).cell 0
  have qa_bA0_1 : (w8.alloc (.cells #[(.slice Xn8 (takeF p0 n1).1.nums.length kn8), (.slice Xd8 (takeF p0 n1).1.drawn.length kd8), .int .i64 (takeF p0 n1).1.st] 27)).cell? ⟨w.heap.size, 1, none⟩ = some (vd0) := (bA0.alloc _).cell 1
  have qa_bA0_2 : (w8.alloc (.cells #[(.slice Xn8 (takeF p0 n1).1.nums.length kn8), (.slice Xd8 (takeF p0 n1).1.drawn.length kd8), .int .i64 (takeF p0 n1).1.st] 27)).cell? ⟨w.heap.size, 2, none⟩ = some (.int .i64 p0.st) := (bA0.alloc _).cell 2
  have qa_bW_0 : (w8.alloc (.cells #[(.slice Xn8 (takeF p0 n1).1.nums.length kn8), (.slice Xd8 (takeF p0 n1).1.drawn.length kd8), .int .i64 (takeF p0 n1).1.st] 27)).cell? ⟨w4.heap.size, 0, none⟩ = some ((.slice Xn4 (takeF p0 n1).1.nums.length kn4)) := (bW.alloc _).cell 0
  have qa_bW_1 : (w8.alloc (.cells #[(.slice Xn8 (takeF p0 n1).1.nums.length kn8), (.slice Xd8 (takeF p0 n1).1.drawn.length kd8), .int .i64 (takeF p0 n1).1.st] 27)).cell? ⟨w4.heap.size, 1, none⟩ = some ((.slice Xd4 (takeF p0 n1).1.drawn.length kd4)) := (bW.alloc _).cell 1
  have qa_bW_2 : (w8.alloc (.cells #[(.slice Xn8 (takeF p0 n1).1.nums.length kn8), (.slice Xd8 (takeF p0 n1).1.drawn.length kd8), .int .i64 (takeF p0 n1).1.st] 27)).cell? ⟨w4.heap.size, 2, none⟩ = some (.int .i64 (takeF p0 n1).1.st) := (bW.alloc _).cell 2
  have qa_bX0_0 : (w8.alloc (.cells #[(.slice Xn8 (takeF p0 n1).1.nums.length kn8), (.slice Xd8 (takeF p0 n1).1.drawn.length kd8), .int .i64 (takeF p0 n1).1.st] 27)).cell? ⟨w6.heap.size, 0, none⟩ = some ((.slice Xn6 p0.nums.length kn6)) := (bX0.alloc _).cell 0
  have qa_bX0_1 : (w8.alloc (.cells #[(.slice Xn8 (takeF p0 n1).1.nums.length kn8), (.slice Xd8 (takeF p0 n1).1.drawn.length kd8), .int .i64 (takeF p0 n1).1.st] 27)).cell? ⟨w6.heap.size, 1, none⟩ = some ((.slice Xd6 p0.drawn.length kd6)) := (bX0.alloc _).cell 1
  have qa_bX0_2 : (w8.alloc (.cells #[(.slice Xn8 (takeF p0 n1).1.nums.length kn8), (.slice Xd8 (takeF p0 n1).1.drawn.length kd8), .int .i64 (takeF p0 n1).1.st] 27)).cell? ⟨w6.heap.size, 2, none⟩ = some (.int .i64 p0.st) := (bX0.alloc _).cell 2
  go_wp2_with fail
  clear q_bA0_0 q_bA0_1 q_bA0_2 q_bW_0 q_bW_1 q_bW_2 q_bX0_0 q_bX0_1 q_bX0_2 qa_bA0_0 qa_bA0_1 qa_bA0_2 qa_bW_0 qa_bW_1 qa_bW_2 qa_bX0_0 qa_bX0_1 qa_bX0_2
  have hz9 : (w8.alloc (.cells #[(.slice Xn8 (takeF p0 n1).1.nums.length kn8), (.slice Xd8 (takeF p0 n1).1.drawn.length kd8), .int .i64 (takeF p0 n1).1.st] 27)).heap.size = w8.heap.size + 1 := by simp
  have hb9 : Below w8.heap.size w8 (w8.alloc (.cells #[(.slice Xn8 (takeF p0 n1).1.nums.length kn8), (.slice Xd8 (takeF p0 n1).1.drawn.length kd8), .int .i64 (takeF p0 n1).1.st] 27)) := (Below.refl _ _).alloc (Nat.le_refl _) _
  have bx := Blk.new w8 27 #[(.slice Xn8 (takeF p0 n1).1.nums.length kn8), (.slice Xd8 (takeF p0 n1).1.drawn.length kd8), .int .i64 (takeF p0 n1).1.st]
  generalize (w8.alloc (.cells #[(.slice Xn8 (takeF p0 n1).1.nums.length kn8), (.slice Xd8 (takeF p0 n1).1.drawn.length kd8), .int .i64 (takeF p0 n1).1.st] 27)) = w9 at *
  have z9 := hb9.size
  have hn0 := hn0.below hb9 (by omega)
  have hd0 := hd0.below hb9 (by omega)
  have o4n := o4n.below hb9 (by omega)
  have o4d := o4d.below hb9 (by omega)
  have o4l := o4l.below hb9 (by omega)
  have o6n := o6n.below hb9
  have o6d := o6d.below hb9
  have o8n := o8n.below hb9
  have o8d := o8d.below hb9
  have o8l := o8l.below hb9
  have bA0 := bA0.below' hb9
  have bW := bW.below' hb9
  have bX0 := bX0.below' hb9
  have B9 := Below.trans B8 (Below.mono hb9 (by omega))
  clear hb9
  clear B8
  have bG := bx
  clear bx
  refine (eqPool_any (.slice Xn8 (takeF p0 n1).1.nums.length kn8) (.slice Xd8 (takeF p0 n1).1.drawn.length kd8) (.slice Xn4 (takeF p0 n1).1.nums.length kn4) (.slice Xd4 (takeF p0 n1).1.drawn.length kd4) (takeF p0 n1).1.nums (takeF p0 n1).1.drawn (takeF p0 n1).1.nums (takeF p0 n1).1.drawn ((takeF p0 n1).1.st) ((takeF p0 n1).1.st) _ _ _ _ _ (OwI.rd (fun _ => rfl) o8n) (OwI.rd (fun _ => rfl) o8d) (o4n.more (Nat.le_refl _) (by omega)) (o4d.more (Nat.le_refl _) (by omega))).mono ?_
  rintro e w10 ⟨rfl, hb10⟩
  have z10 := hb10.size
  have hn0 := hn0.below hb10 (by omega)
  have hd0 := hd0.below hb10 (by omega)
  have o4n := o4n.below hb10 (by omega)
  have o4d := o4d.below hb10 (by omega)
  have o4l := o4l.below hb10 (by omega)
  have o6n := o6n.below hb10
  have o6d := o6d.below hb10
  have o8n := o8n.below hb10
  have o8d := o8d.below hb10
  have o8l := o8l.below hb10
  have bA0 := bA0.below' hb10
  have bW := bW.below' hb10
  have bX0 := bX0.below' hb10
  have bG := bG.below' hb10
  have B10 := Below.trans B9 (Below.mono hb10 (by omega))
  clear hb10
  clear B9
  have q_bA0_0 : w10.cell? ⟨w.heap.size, 0, none⟩ = some (vn0) := bA0.cell 0
  have q_bA0_1 : w10.cell? ⟨w.heap.size, 1, none⟩ = some (vd0) := bA0.cell 1
  have q_bA0_2 : w10.cell? ⟨w.heap.size, 2, none⟩ = some (.int .i64 p0.st) := bA0.cell 2
  have q_bW_0 : w10.cell? ⟨w4.heap.size, 0, none⟩ = some ((.slice Xn4 (takeF p0 n1).1.nums.length kn4)) := bW.cell 0
  have q_bW_1 : w10.cell? ⟨w4.heap.size, 1, none⟩ = some ((.slice Xd4 (takeF p0 n1).1.drawn.length kd4)) := bW.cell 1
  have q_bW_2 : w10.cell? ⟨w4.heap.size, 2, none⟩ = some (.int .i64 (takeF p0 n1).1.st) := bW.cell 2
  have q_bX0_0 : w10.cell? ⟨w6.heap.size, 0, none⟩ = some ((.slice Xn6 p0.nums.length kn6)) := bX0.cell 0
  have q_bX0_1 : w10.cell? ⟨w6.heap.size, 1, none⟩ = some ((.slice Xd6 p0.drawn.length kd6)) := bX0.cell 1
  have q_bX0_2 : w10.cell? ⟨w6.heap.size, 2, none⟩ = some (.int .i64 p0.st) := bX0.cell 2
  have q_bG_0 : w10.cell? ⟨w8.heap.size, 0, none⟩ = some ((.slice Xn8 (takeF p0 n1).1.nums.length kn8)) := bG.cell 0
  have q_bG_1 : w10.cell? ⟨w8.heap.size, 1, none⟩ = some ((.slice Xd8 (takeF p0 n1).1.drawn.length kd8)) := bG.cell 1
  have q_bG_2 : w10.cell? ⟨w8.heap.size, 2, none⟩ = some (.int .i64 (takeF p0 n1).1.st) := bG.cell 2
  go_wp2_with fail
  clear q_bA0_0 q_bA0_1 q_bA0_2 q_bW_0 q_bW_1 q_bW_2 q_bX0_0 q_bX0_1 q_bX0_2 q_bG_0 q_bG_1 q_bG_2
  refine (eqInt64S_any x8 x4 (takeF p0 n1).2.1 (takeF p0 n1).2.1 _ _ _ (OwI.rd (fun _ => rfl) o8l) (o4l.more (Nat.le_refl _) (by omega))).mono ?_
  rintro e w11 ⟨rfl, hb11⟩
  have z11 := hb11.size
  have hn0 := hn0.below hb11 (by omega)
  have hd0 := hd0.below hb11 (by omega)
  have o4n := o4n.below hb11 (by omega)
  have o4d := o4d.below hb11 (by omega)
  have o4l := o4l.below hb11 (by omega)
  have o6n := o6n.below hb11
  have o6d := o6d.below hb11
  have o8n := o8n.below hb11
  have o8d := o8d.below hb11
  have o8l := o8l.below hb11
  have bA0 := bA0.below' hb11
  have bW := bW.below' hb11
  have bX0 := bX0.below' hb11
  have bG := bG.below' hb11
  have B11 := Below.trans B10 (Below.mono hb11 (by omega))
  clear hb11
  clear B10
  have q_bA0_0 : w11.cell? ⟨w.heap.size, 0, none⟩ = some (vn0) := bA0.cell 0
  have q_bA0_1 : w11.cell? ⟨w.heap.size, 1, none⟩ = some (vd0) := bA0.cell 1
  have q_bA0_2 : w11.cell? ⟨w.heap.size, 2, none⟩ = some (.int .i64 p0.st) := bA0.cell 2
  have q_bW_0 : w11.cell? ⟨w4.heap.size, 0, none⟩ = some ((.slice Xn4 (takeF p0 n1).1.nums.length kn4)) := bW.cell 0
  have q_bW_1 : w11.cell? ⟨w4.heap.size, 1, none⟩ = some ((.slice Xd4 (takeF p0 n1).1.drawn.length kd4)) := bW.cell 1
  have q_bW_2 : w11.cell? ⟨w4.heap.size, 2, none⟩ = some (.int .i64 (takeF p0 n1).1.st) := bW.cell 2
  have q_bX0_0 : w11.cell? ⟨w6.heap.size, 0, none⟩ = some ((.slice Xn6 p0.nums.length kn6)) := bX0.cell 0
  have q_bX0_1 : w11.cell? ⟨w6.heap.size, 1, none⟩ = some ((.slice Xd6 p0.drawn.length kd6)) := bX0.cell 1
  have q_bX0_2 : w11.cell? ⟨w6.heap.size, 2, none⟩ = some (.int .i64 p0.st) := bX0.cell 2
  have q_bG_0 : w11.cell? ⟨w8.heap.size, 0, none⟩ = some ((.slice Xn8 (takeF p0 n1).1.nums.length kn8)) := bG.cell 0
  have q_bG_1 : w11.cell? ⟨w8.heap.size, 1, none⟩ = some ((.slice Xd8 (takeF p0 n1).1.drawn.length kd8)) := bG.cell 1
  have q_bG_2 : w11.cell? ⟨w8.heap.size, 2, none⟩ = some (.int .i64 (takeF p0 n1).1.st) := bG.cell 2
  go_wp2_with fail
  have hb12 : Below w11.heap.size w11 w11.drew := (Below.refl _ _).drew
  have z12 := hb12.size
  have hn0 := hn0.below hb12 (by omega)
  have hd0 := hd0.below hb12 (by omega)
  have o4n := o4n.below hb12 (by omega)
  have o4d := o4d.below hb12 (by omega)
  have o4l := o4l.below hb12 (by omega)
  have o6n := o6n.below hb12
  have o6d := o6d.below hb12
  have o8n := o8n.below hb12
  have o8d := o8d.below hb12
  have o8l := o8l.below hb12
  have bA0 := bA0.below' hb12
  have bW := bW.below' hb12
  have bX0 := bX0.below' hb12
  have bG := bG.below' hb12
  have B12 := Below.trans B11 (Below.mono hb12 (by omega))
  clear hb12
  clear B11
  go_region_held3 (fun w' => w'.cell? ⟨w.heap.size, 0, none⟩ = some (vn0) ∧ w'.cell? ⟨w.heap.size, 1, none⟩ = some (vd0) ∧ w'.cell? ⟨w.heap.size, 2, none⟩ = some (.int .i64 p0.st) ∧ w'.cell? ⟨w6.heap.size, 0, none⟩ = some ((.slice Xn6 p0.nums.length kn6)) ∧ w'.cell? ⟨w6.heap.size, 1, none⟩ = some ((.slice Xd6 p0.drawn.length kd6)) ∧ w'.cell? ⟨w6.heap.size, 2, none⟩ = some (.int .i64 p0.st)) (first | exact ⟨q_bA0_0, q_bA0_1, q_bA0_2, q_bX0_0, q_bX0_1, q_bX0_2⟩ | exact ⟨e0, e1, e2, e3, e4, e5⟩ | exact ⟨g0, g1, g2, g3, g4, g5⟩) (first | (go_at_call 14; refine (toPool_z vn0 vd0 p0 _ _ _ (hn0.more (Nat.le_refl _) (by omega)) (hd0.more (Nat.le_refl _) (by omega)) (by omega) (by omega)).mono ?_; rintro e w13 ⟨xn13, xd13, Q13, rfl, o13n, o13d, hQ13, hq13, hb13⟩; have e0 := (bA0.below' hb13).cell 0; have e1 := (bA0.below' hb13).cell 1; have e2 := (bA0.below' hb13).cell 2; have e3 := (bX0.below' hb13).cell 0; have e4 := (bX0.below' hb13).cell 1; have e5 := (bX0.below' hb13).cell 2) | (go_at_call 16; refine (eqPool_any _ _ _ _ p0.nums p0.drawn p0.nums p0.drawn p0.st p0.st _ _ _ _ _ (OwI.rd (fun _ => rfl) (o6n.below hb13)) (OwI.rd (fun _ => rfl) (o6d.below hb13)) (OwI.rd (fun _ => rfl) o13n) (OwI.rd (fun _ => rfl) o13d)).mono ?_; rintro e w14 ⟨rfl, hb14⟩; have g0 := ((bA0.below' hb13).below' hb14).cell 0; have g1 := ((bA0.below' hb13).below' hb14).cell 1; have g2 := ((bA0.below' hb13).below' hb14).cell 2; have g3 := ((bX0.below' hb13).below' hb14).cell 0; have g4 := ((bX0.below' hb13).below' hb14).cell 1; have g5 := ((bX0.below' hb13).below' hb14).cell 2))
  clear q_bA0_0 q_bA0_1 q_bA0_2 q_bW_0 q_bW_1 q_bW_2 q_bX0_0 q_bX0_1 q_bX0_2 q_bG_0 q_bG_1 q_bG_2
  have z13 := hb13.size
  have hn0 := hn0.below hb13 (by omega)
  have hd0 := hd0.below hb13 (by omega)
  have o4n := o4n.below hb13 (by omega)
  have o4d := o4d.below hb13 (by omega)
  have o4l := o4l.below hb13 (by omega)
  have o6n := o6n.below hb13
  have o6d := o6d.below hb13
  have o8n := o8n.below hb13
  have o8d := o8d.below hb13
  have o8l := o8l.below hb13
  have bA0 := bA0.below' hb13
  have bW := bW.below' hb13
  have bX0 := bX0.below' hb13
  have bG := bG.below' hb13
  have B13 := Below.trans B12 (Below.mono hb13 (by omega))
  clear hb13
  clear B12
  have z14 := hb14.size
  have hn0 := hn0.below hb14 (by omega)
  have hd0 := hd0.below hb14 (by omega)
  have o4n := o4n.below hb14 (by omega)
  have o4d := o4d.below hb14 (by omega)
  have o4l := o4l.below hb14 (by omega)
  have o6n := o6n.below hb14
  have o6d := o6d.below hb14
  have o8n := o8n.below hb14
  have o8d := o8d.below hb14
  have o8l := o8l.below hb14
  have bA0 := bA0.below' hb14
  have bW := bW.below' hb14
  have bX0 := bX0.below' hb14
  have bG := bG.below' hb14
  have B14 := Below.trans B13 (Below.mono hb14 (by omega))
  clear hb14
  clear B13
  have q_bA0_0 : w14.cell? ⟨w.heap.size, 0, none⟩ = some (vn0) := bA0.cell 0
  have q_bA0_1 : w14.cell? ⟨w.heap.size, 1, none⟩ = some (vd0) := bA0.cell 1
  have q_bA0_2 : w14.cell? ⟨w.heap.size, 2, none⟩ = some (.int .i64 p0.st) := bA0.cell 2
  have q_bW_0 : w14.cell? ⟨w4.heap.size, 0, none⟩ = some ((.slice Xn4 (takeF p0 n1).1.nums.length kn4)) := bW.cell 0
  have q_bW_1 : w14.cell? ⟨w4.heap.size, 1, none⟩ = some ((.slice Xd4 (takeF p0 n1).1.drawn.length kd4)) := bW.cell 1
  have q_bW_2 : w14.cell? ⟨w4.heap.size, 2, none⟩ = some (.int .i64 (takeF p0 n1).1.st) := bW.cell 2
  have q_bX0_0 : w14.cell? ⟨w6.heap.size, 0, none⟩ = some ((.slice Xn6 p0.nums.length kn6)) := bX0.cell 0
  have q_bX0_1 : w14.cell? ⟨w6.heap.size, 1, none⟩ = some ((.slice Xd6 p0.drawn.length kd6)) := bX0.cell 1
  have q_bX0_2 : w14.cell? ⟨w6.heap.size, 2, none⟩ = some (.int .i64 p0.st) := bX0.cell 2
  have q_bG_0 : w14.cell? ⟨w8.heap.size, 0, none⟩ = some ((.slice Xn8 (takeF p0 n1).1.nums.length kn8)) := bG.cell 0
  have q_bG_1 : w14.cell? ⟨w8.heap.size, 1, none⟩ = some ((.slice Xd8 (takeF p0 n1).1.drawn.length kd8)) := bG.cell 1
  have q_bG_2 : w14.cell? ⟨w8.heap.size, 2, none⟩ = some (.int .i64 (takeF p0 n1).1.st) := bG.cell 2
  go_wp2_with fail
  clear q_bA0_0 q_bA0_1 q_bA0_2 q_bW_0 q_bW_1 q_bW_2 q_bX0_0 q_bX0_1 q_bX0_2 q_bG_0 q_bG_1 q_bG_2
  refine (markPool_any (.slice Xn6 p0.nums.length kn6) (.slice Xd6 p0.drawn.length kd6) p0.nums p0.drawn (p0.st) 1 _ _ _ _ o6n o6d (by omega) (by omega) (by omega) (by omega) (by omega) (by omega) (by omega)).mono ?_
  rintro e w15 ⟨rfl, m15n, m15d, hc15⟩
  clear o6n o6d
  have z15 := hc15.size
  have hn0 := hn0.chg hc15 (by omega) (by omega)
  have hd0 := hd0.chg hc15 (by omega) (by omega)
  have o4n := o4n.chg hc15 (by omega) (by omega)
  have o4d := o4d.chg hc15 (by omega) (by omega)
  have o4l := o4l.chg hc15 (by omega) (by omega)
  have o8n := o8n.chg hc15 (by omega)
  have o8d := o8d.chg hc15 (by omega)
  have o8l := o8l.chg hc15 (by omega)
  have bA0 := hc15.blk bA0 (by omega)
  have bW := hc15.blk bW (by omega)
  have bX0 := hc15.blk bX0 (by omega)
  have bG := hc15.blk bG (by omega)
  have B15 := Chg.below B14 hc15 (by omega) (by omega)
  clear hc15
  clear B14
  clear m15n
  clear m15d
  clear bX0
  have q_bA0_0 : w15.cell? ⟨w.heap.size, 0, none⟩ = some (vn0) := bA0.cell 0
  have q_bA0_1 : w15.cell? ⟨w.heap.size, 1, none⟩ = some (vd0) := bA0.cell 1
  have q_bA0_2 : w15.cell? ⟨w.heap.size, 2, none⟩ = some (.int .i64 p0.st) := bA0.cell 2
  have q_bW_0 : w15.cell? ⟨w4.heap.size, 0, none⟩ = some ((.slice Xn4 (takeF p0 n1).1.nums.length kn4)) := bW.cell 0
  have q_bW_1 : w15.cell? ⟨w4.heap.size, 1, none⟩ = some ((.slice Xd4 (takeF p0 n1).1.drawn.length kd4)) := bW.cell 1
  have q_bW_2 : w15.cell? ⟨w4.heap.size, 2, none⟩ = some (.int .i64 (takeF p0 n1).1.st) := bW.cell 2
  have q_bG_0 : w15.cell? ⟨w8.heap.size, 0, none⟩ = some ((.slice Xn8 (takeF p0 n1).1.nums.length kn8)) := bG.cell 0
  have q_bG_1 : w15.cell? ⟨w8.heap.size, 1, none⟩ = some ((.slice Xd8 (takeF p0 n1).1.drawn.length kd8)) := bG.cell 1
  have q_bG_2 : w15.cell? ⟨w8.heap.size, 2, none⟩ = some (.int .i64 (takeF p0 n1).1.st) := bG.cell 2
  go_wp2_with fail
  clear q_bA0_0 q_bA0_1 q_bA0_2 q_bW_0 q_bW_1 q_bW_2 q_bG_0 q_bG_1 q_bG_2
  refine (eqPool_any (.slice Xn8 (takeF p0 n1).1.nums.length kn8) (.slice Xd8 (takeF p0 n1).1.drawn.length kd8) (.slice Xn4 (takeF p0 n1).1.nums.length kn4) (.slice Xd4 (takeF p0 n1).1.drawn.length kd4) (takeF p0 n1).1.nums (takeF p0 n1).1.drawn (takeF p0 n1).1.nums (takeF p0 n1).1.drawn ((takeF p0 n1).1.st) ((takeF p0 n1).1.st) _ _ _ _ _ (OwI.rd (fun _ => rfl) o8n) (OwI.rd (fun _ => rfl) o8d) (o4n.more (Nat.le_refl _) (by omega)) (o4d.more (Nat.le_refl _) (by omega))).mono ?_
  rintro e w16 ⟨rfl, hb16⟩
  have z16 := hb16.size
  have hn0 := hn0.below hb16 (by omega)
  have hd0 := hd0.below hb16 (by omega)
  have o4n := o4n.below hb16 (by omega)
  have o4d := o4d.below hb16 (by omega)
  have o4l := o4l.below hb16 (by omega)
  have o8n := o8n.below hb16
  have o8d := o8d.below hb16
  have o8l := o8l.below hb16
  have bA0 := bA0.below' hb16
  have bW := bW.below' hb16
  have bG := bG.below' hb16
  have B16 := Below.trans B15 (Below.mono hb16 (by omega))
  clear hb16
  clear B15
  have q_bA0_0 : w16.cell? ⟨w.heap.size, 0, none⟩ = some (vn0) := bA0.cell 0
  have q_bA0_1 : w16.cell? ⟨w.heap.size, 1, none⟩ = some (vd0) := bA0.cell 1
  have q_bA0_2 : w16.cell? ⟨w.heap.size, 2, none⟩ = some (.int .i64 p0.st) := bA0.cell 2
  have q_bW_0 : w16.cell? ⟨w4.heap.size, 0, none⟩ = some ((.slice Xn4 (takeF p0 n1).1.nums.length kn4)) := bW.cell 0
  have q_bW_1 : w16.cell? ⟨w4.heap.size, 1, none⟩ = some ((.slice Xd4 (takeF p0 n1).1.drawn.length kd4)) := bW.cell 1
  have q_bW_2 : w16.cell? ⟨w4.heap.size, 2, none⟩ = some (.int .i64 (takeF p0 n1).1.st) := bW.cell 2
  have q_bG_0 : w16.cell? ⟨w8.heap.size, 0, none⟩ = some ((.slice Xn8 (takeF p0 n1).1.nums.length kn8)) := bG.cell 0
  have q_bG_1 : w16.cell? ⟨w8.heap.size, 1, none⟩ = some ((.slice Xd8 (takeF p0 n1).1.drawn.length kd8)) := bG.cell 1
  have q_bG_2 : w16.cell? ⟨w8.heap.size, 2, none⟩ = some (.int .i64 (takeF p0 n1).1.st) := bG.cell 2
  go_wp2_with fail
  clear q_bA0_0 q_bA0_1 q_bA0_2 q_bW_0 q_bW_1 q_bW_2 q_bG_0 q_bG_1 q_bG_2
  refine (eqInt64S_any x8 x4 (takeF p0 n1).2.1 (takeF p0 n1).2.1 _ _ _ (OwI.rd (fun _ => rfl) o8l) (o4l.more (Nat.le_refl _) (by omega))).mono ?_
  rintro e w17 ⟨rfl, hb17⟩
  have z17 := hb17.size
  have hn0 := hn0.below hb17 (by omega)
  have hd0 := hd0.below hb17 (by omega)
  have o4n := o4n.below hb17 (by omega)
  have o4d := o4d.below hb17 (by omega)
  have o4l := o4l.below hb17 (by omega)
  have o8n := o8n.below hb17
  have o8d := o8d.below hb17
  have o8l := o8l.below hb17
  have bA0 := bA0.below' hb17
  have bW := bW.below' hb17
  have bG := bG.below' hb17
  have B17 := Below.trans B16 (Below.mono hb17 (by omega))
  clear hb17
  clear B16
  have q_bA0_0 : w17.cell? ⟨w.heap.size, 0, none⟩ = some (vn0) := bA0.cell 0
  have q_bA0_1 : w17.cell? ⟨w.heap.size, 1, none⟩ = some (vd0) := bA0.cell 1
  have q_bA0_2 : w17.cell? ⟨w.heap.size, 2, none⟩ = some (.int .i64 p0.st) := bA0.cell 2
  have q_bW_0 : w17.cell? ⟨w4.heap.size, 0, none⟩ = some ((.slice Xn4 (takeF p0 n1).1.nums.length kn4)) := bW.cell 0
  have q_bW_1 : w17.cell? ⟨w4.heap.size, 1, none⟩ = some ((.slice Xd4 (takeF p0 n1).1.drawn.length kd4)) := bW.cell 1
  have q_bW_2 : w17.cell? ⟨w4.heap.size, 2, none⟩ = some (.int .i64 (takeF p0 n1).1.st) := bW.cell 2
  have q_bG_0 : w17.cell? ⟨w8.heap.size, 0, none⟩ = some ((.slice Xn8 (takeF p0 n1).1.nums.length kn8)) := bG.cell 0
  have q_bG_1 : w17.cell? ⟨w8.heap.size, 1, none⟩ = some ((.slice Xd8 (takeF p0 n1).1.drawn.length kd8)) := bG.cell 1
  have q_bG_2 : w17.cell? ⟨w8.heap.size, 2, none⟩ = some (.int .i64 (takeF p0 n1).1.st) := bG.cell 2
  go_wp2_with fail
  clear q_bA0_0 q_bA0_1 q_bA0_2 q_bW_0 q_bW_1 q_bW_2 q_bG_0 q_bG_1 q_bG_2
  refine (markPool_any (.slice Xn8 (takeF p0 n1).1.nums.length kn8) (.slice Xd8 (takeF p0 n1).1.drawn.length kd8) (takeF p0 n1).1.nums (takeF p0 n1).1.drawn ((takeF p0 n1).1.st) 1 _ _ _ _ o8n o8d (by omega) (by omega) (by omega) (by omega) (by omega) (by omega) (by omega)).mono ?_
  rintro e w18 ⟨rfl, m18n, m18d, hc18⟩
  clear o8n o8d
  have z18 := hc18.size
  have hn0 := hn0.chg hc18 (by omega) (by omega)
  have hd0 := hd0.chg hc18 (by omega) (by omega)
  have o4n := o4n.chg hc18 (by omega) (by omega)
  have o4d := o4d.chg hc18 (by omega) (by omega)
  have o4l := o4l.chg hc18 (by omega) (by omega)
  have o8l := o8l.chg hc18 (by omega)
  have bA0 := hc18.blk bA0 (by omega)
  have bW := hc18.blk bW (by omega)
  have bG := hc18.blk bG (by omega)
  have B18 := Chg.below B17 hc18 (by omega) (by omega)
  clear hc18
  clear B17
  have q_bA0_0 : w18.cell? ⟨w.heap.size, 0, none⟩ = some (vn0) := bA0.cell 0
  have q_bA0_1 : w18.cell? ⟨w.heap.size, 1, none⟩ = some (vd0) := bA0.cell 1
  have q_bA0_2 : w18.cell? ⟨w.heap.size, 2, none⟩ = some (.int .i64 p0.st) := bA0.cell 2
  have q_bW_0 : w18.cell? ⟨w4.heap.size, 0, none⟩ = some ((.slice Xn4 (takeF p0 n1).1.nums.length kn4)) := bW.cell 0
  have q_bW_1 : w18.cell? ⟨w4.heap.size, 1, none⟩ = some ((.slice Xd4 (takeF p0 n1).1.drawn.length kd4)) := bW.cell 1
  have q_bW_2 : w18.cell? ⟨w4.heap.size, 2, none⟩ = some (.int .i64 (takeF p0 n1).1.st) := bW.cell 2
  have q_bG_0 : w18.cell? ⟨w8.heap.size, 0, none⟩ = some ((.slice Xn8 (takeF p0 n1).1.nums.length kn8)) := bG.cell 0
  have q_bG_1 : w18.cell? ⟨w8.heap.size, 1, none⟩ = some ((.slice Xd8 (takeF p0 n1).1.drawn.length kd8)) := bG.cell 1
  have q_bG_2 : w18.cell? ⟨w8.heap.size, 2, none⟩ = some (.int .i64 (takeF p0 n1).1.st) := bG.cell 2
  go_wp2_with fail
  clear q_bA0_0 q_bA0_1 q_bA0_2 q_bW_0 q_bW_1 q_bW_2 q_bG_0 q_bG_1 q_bG_2
  have in19 := Lib.hid o8l.in_
  refine (markInt64S_any x8 _ _ (1 + ((takeF p0 n1).1.nums.length : Int) + ((takeF p0 n1).1.drawn.length : Int)) _ _ (OwnR.own o8l.own) (by omega) (by omega) (by omega)).mono ?_
  rintro e w19 ⟨rfl, m19, hg19⟩
  have hc19 := Chg.of_grown hg19 in19.out
  clear hg19 o8l
  have z19 := hc19.size
  have hn0 := hn0.chg hc19 (by omega) (by omega)
  have hd0 := hd0.chg hc19 (by omega) (by omega)
  have o4n := o4n.chg hc19 (by omega) (by omega)
  have o4d := o4d.chg hc19 (by omega) (by omega)
  have o4l := o4l.chg hc19 (by omega) (by omega)
  have m18n := m18n.chg hc19 (by omega)
  have m18d := m18d.chg hc19 (by omega)
  have bA0 := hc19.blk bA0 (by omega)
  have bW := hc19.blk bW (by omega)
  have bG := hc19.blk bG (by omega)
  have B19 := Chg.below B18 hc19 (by omega) (by omega)
  clear hc19
  clear B18
  have m19 : OwI _ _ _ _ _ _ _ _ := ⟨m19, fun g hg => (in19.out g hg).2⟩
  have q_bA0_0 : w19.cell? ⟨w.heap.size, 0, none⟩ = some (vn0) := bA0.cell 0
  have q_bA0_1 : w19.cell? ⟨w.heap.size, 1, none⟩ = some (vd0) := bA0.cell 1
  have q_bA0_2 : w19.cell? ⟨w.heap.size, 2, none⟩ = some (.int .i64 p0.st) := bA0.cell 2
  have q_bW_0 : w19.cell? ⟨w4.heap.size, 0, none⟩ = some ((.slice Xn4 (takeF p0 n1).1.nums.length kn4)) := bW.cell 0
  have q_bW_1 : w19.cell? ⟨w4.heap.size, 1, none⟩ = some ((.slice Xd4 (takeF p0 n1).1.drawn.length kd4)) := bW.cell 1
  have q_bW_2 : w19.cell? ⟨w4.heap.size, 2, none⟩ = some (.int .i64 (takeF p0 n1).1.st) := bW.cell 2
  have q_bG_0 : w19.cell? ⟨w8.heap.size, 0, none⟩ = some ((.slice Xn8 (takeF p0 n1).1.nums.length kn8)) := bG.cell 0
  have q_bG_1 : w19.cell? ⟨w8.heap.size, 1, none⟩ = some ((.slice Xd8 (takeF p0 n1).1.drawn.length kd8)) := bG.cell 1
  have q_bG_2 : w19.cell? ⟨w8.heap.size, 2, none⟩ = some (.int .i64 (takeF p0 n1).1.st) := bG.cell 2
  go_wp2_with fail
  clear q_bA0_0 q_bA0_1 q_bA0_2 q_bW_0 q_bW_1 q_bW_2 q_bG_0 q_bG_1 q_bG_2
  refine (heldPool_any (.slice Xn8 (takeF p0 n1).1.nums.length kn8) (.slice Xd8 (takeF p0 n1).1.drawn.length kd8) (takeF p0 n1).1.nums.length (takeF p0 n1).1.drawn.length ((takeF p0 n1).1.st) 1 _ _ _ (OwI.rd (fun _ => rfl) m18n) (OwI.rd (fun _ => rfl) m18d) (by omega) (by omega) (by omega) (by omega)).mono ?_
  rintro e w20 ⟨rfl, hb20⟩
  have z20 := hb20.size
  have hn0 := hn0.below hb20 (by omega)
  have hd0 := hd0.below hb20 (by omega)
  have o4n := o4n.below hb20 (by omega)
  have o4d := o4d.below hb20 (by omega)
  have o4l := o4l.below hb20 (by omega)
  have m18n := m18n.below hb20
  have m18d := m18d.below hb20
  have m19 := m19.below hb20
  have bA0 := bA0.below' hb20
  have bW := bW.below' hb20
  have bG := bG.below' hb20
  have B20 := Below.trans B19 (Below.mono hb20 (by omega))
  clear hb20
  clear B19
  have q_bA0_0 : w20.cell? ⟨w.heap.size, 0, none⟩ = some (vn0) := bA0.cell 0
  have q_bA0_1 : w20.cell? ⟨w.heap.size, 1, none⟩ = some (vd0) := bA0.cell 1
  have q_bA0_2 : w20.cell? ⟨w.heap.size, 2, none⟩ = some (.int .i64 p0.st) := bA0.cell 2
  have q_bW_0 : w20.cell? ⟨w4.heap.size, 0, none⟩ = some ((.slice Xn4 (takeF p0 n1).1.nums.length kn4)) := bW.cell 0
  have q_bW_1 : w20.cell? ⟨w4.heap.size, 1, none⟩ = some ((.slice Xd4 (takeF p0 n1).1.drawn.length kd4)) := bW.cell 1
  have q_bW_2 : w20.cell? ⟨w4.heap.size, 2, none⟩ = some (.int .i64 (takeF p0 n1).1.st) := bW.cell 2
  have q_bG_0 : w20.cell? ⟨w8.heap.size, 0, none⟩ = some ((.slice Xn8 (takeF p0 n1).1.nums.length kn8)) := bG.cell 0
  have q_bG_1 : w20.cell? ⟨w8.heap.size, 1, none⟩ = some ((.slice Xd8 (takeF p0 n1).1.drawn.length kd8)) := bG.cell 1
  have q_bG_2 : w20.cell? ⟨w8.heap.size, 2, none⟩ = some (.int .i64 (takeF p0 n1).1.st) := bG.cell 2
  go_wp2_with fail
  clear q_bA0_0 q_bA0_1 q_bA0_2 q_bW_0 q_bW_1 q_bW_2 q_bG_0 q_bG_1 q_bG_2
  refine (heldInt64S_any x8 _ (1 + ((takeF p0 n1).1.nums.length : Int) + ((takeF p0 n1).1.drawn.length : Int)) _ _ _ (OwI.rd (fun _ => rfl) m19) (by omega) (by omega) (by omega)).mono ?_
  rintro e w1021 ⟨rfl, rfl⟩
  have q_bA0_0 : w20.cell? ⟨w.heap.size, 0, none⟩ = some (vn0) := bA0.cell 0
  have q_bA0_1 : w20.cell? ⟨w.heap.size, 1, none⟩ = some (vd0) := bA0.cell 1
  have q_bA0_2 : w20.cell? ⟨w.heap.size, 2, none⟩ = some (.int .i64 p0.st) := bA0.cell 2
  have q_bW_0 : w20.cell? ⟨w4.heap.size, 0, none⟩ = some ((.slice Xn4 (takeF p0 n1).1.nums.length kn4)) := bW.cell 0
  have q_bW_1 : w20.cell? ⟨w4.heap.size, 1, none⟩ = some ((.slice Xd4 (takeF p0 n1).1.drawn.length kd4)) := bW.cell 1
  have q_bW_2 : w20.cell? ⟨w4.heap.size, 2, none⟩ = some (.int .i64 (takeF p0 n1).1.st) := bW.cell 2
  have q_bG_0 : w20.cell? ⟨w8.heap.size, 0, none⟩ = some ((.slice Xn8 (takeF p0 n1).1.nums.length kn8)) := bG.cell 0
  have q_bG_1 : w20.cell? ⟨w8.heap.size, 1, none⟩ = some ((.slice Xd8 (takeF p0 n1).1.drawn.length kd8)) := bG.cell 1
  have q_bG_2 : w20.cell? ⟨w8.heap.size, 2, none⟩ = some (.int .i64 (takeF p0 n1).1.st) := bG.cell 2
  go_wp2_with fail
  clear q_bA0_0 q_bA0_1 q_bA0_2 q_bW_0 q_bW_1 q_bW_2 q_bG_0 q_bG_1 q_bG_2
  refine (toPool_z vn0 vd0 p0 _ _ _ (hn0.more (Nat.le_refl _) (by omega)) (hd0.more (Nat.le_refl _) (by omega)) (by omega) (by omega)).mono ?_
  rintro e w22 ⟨xn22, xd22, Q22, rfl, o22n, o22d, hQ22, hq22, hb22⟩
  have z22 := hb22.size
  have hn0 := hn0.below hb22 (by omega)
  have hd0 := hd0.below hb22 (by omega)
  have o4n := o4n.below hb22 (by omega)
  have o4d := o4d.below hb22 (by omega)
  have o4l := o4l.below hb22 (by omega)
  have m18n := m18n.below hb22
  have m18d := m18d.below hb22
  have m19 := m19.below hb22
  have bA0 := bA0.below' hb22
  have bW := bW.below' hb22
  have bG := bG.below' hb22
  have B22 := Below.trans B20 (Below.mono hb22 (by omega))
  clear hb22
  clear B20
  obtain ⟨Xn22, kn22, rfl, _, _⟩ := o22n.form
  obtain ⟨Xd22, kd22, rfl, _, _⟩ := o22d.form
  have q_bA0_0 : w22.cell? ⟨w.heap.size, 0, none⟩ = some (vn0) := bA0.cell 0
  have q_bA0_1 : w22.cell? ⟨w.heap.size, 1, none⟩ = some (vd0) := bA0.cell 1
  have q_bA0_2 : w22.cell? ⟨w.heap.size, 2, none⟩ = some (.int .i64 p0.st) := bA0.cell 2
  have q_bW_0 : w22.cell? ⟨w4.heap.size, 0, none⟩ = some ((.slice Xn4 (takeF p0 n1).1.nums.length kn4)) := bW.cell 0
  have q_bW_1 : w22.cell? ⟨w4.heap.size, 1, none⟩ = some ((.slice Xd4 (takeF p0 n1).1.drawn.length kd4)) := bW.cell 1
  have q_bW_2 : w22.cell? ⟨w4.heap.size, 2, none⟩ = some (.int .i64 (takeF p0 n1).1.st) := bW.cell 2
  have q_bG_0 : w22.cell? ⟨w8.heap.size, 0, none⟩ = some ((.slice Xn8 (takeF p0 n1).1.nums.length kn8)) := bG.cell 0
  have q_bG_1 : w22.cell? ⟨w8.heap.size, 1, none⟩ = some ((.slice Xd8 (takeF p0 n1).1.drawn.length kd8)) := bG.cell 1
  have q_bG_2 : w22.cell? ⟨w8.heap.size, 2, none⟩ = some (.int .i64 (takeF p0 n1).1.st) := bG.cell 2
  go_wp2_with fail
  clear q_bA0_0 q_bA0_1 q_bA0_2 q_bW_0 q_bW_1 q_bW_2 q_bG_0 q_bG_1 q_bG_2
  refine (implTakeFrom_any (.slice Xn22 p0.nums.length kn22) (.slice Xd22 p0.drawn.length kd22) p0 n1 _ _ _ (OwI.rd (fun _ => rfl) o22n) (OwI.rd (fun _ => rfl) o22d) ).mono ?_
  rintro e w23 ⟨xn23, xd23, x23, Q23, R23, rfl, o23n, o23d, o23l, hQ23, hq23, hr23, hb23⟩
  have z23 := hb23.size
  have hn0 := hn0.below hb23 (by omega)
  have hd0 := hd0.below hb23 (by omega)
  have o4n := o4n.below hb23 (by omega)
  have o4d := o4d.below hb23 (by omega)
  have o4l := o4l.below hb23 (by omega)
  have m18n := m18n.below hb23
  have m18d := m18d.below hb23
  have m19 := m19.below hb23
  have o22n := o22n.below hb23
  have o22d := o22d.below hb23
  have bA0 := bA0.below' hb23
  have bW := bW.below' hb23
  have bG := bG.below' hb23
  have B23 := Below.trans B22 (Below.mono hb23 (by omega))
  clear hb23
  clear B22
  obtain ⟨Xn23, kn23, rfl, _, _⟩ := o23n.form
  obtain ⟨Xd23, kd23, rfl, _, _⟩ := o23d.form
  have q_bA0_0 : w23.cell? ⟨w.heap.size, 0, none⟩ = some (vn0) := bA0.cell 0
  have q_bA0_1 : w23.cell? ⟨w.heap.size, 1, none⟩ = some (vd0) := bA0.cell 1
  have q_bA0_2 : w23.cell? ⟨w.heap.size, 2, none⟩ = some (.int .i64 p0.st) := bA0.cell 2
  have q_bW_0 : w23.cell? ⟨w4.heap.size, 0, none⟩ = some ((.slice Xn4 (takeF p0 n1).1.nums.length kn4)) := bW.cell 0
  have q_bW_1 : w23.cell? ⟨w4.heap.size, 1, none⟩ = some ((.slice Xd4 (takeF p0 n1).1.drawn.length kd4)) := bW.cell 1
  have q_bW_2 : w23.cell? ⟨w4.heap.size, 2, none⟩ = some (.int .i64 (takeF p0 n1).1.st) := bW.cell 2
  have q_bG_0 : w23.cell? ⟨w8.heap.size, 0, none⟩ = some ((.slice Xn8 (takeF p0 n1).1.nums.length kn8)) := bG.cell 0
  have q_bG_1 : w23.cell? ⟨w8.heap.size, 1, none⟩ = some ((.slice Xd8 (takeF p0 n1).1.drawn.length kd8)) := bG.cell 1
  have q_bG_2 : w23.cell? ⟨w8.heap.size, 2, none⟩ = some (.int .i64 (takeF p0 n1).1.st) := bG.cell 2
  have qa_bA0_0 : (w23.alloc (.cells #[(.slice Xn23 (takeF p0 n1).1.nums.length kn23), (.slice Xd23 (takeF p0 n1).1.drawn.length kd23), .int .i64 (takeF p0 n1).1.st] 27)).cell? ⟨w.heap.size, 0, none⟩ = some (vn0) := (bA0.alloc _).cell 0
  have qa_bA0_1 : (w23.alloc (.cells #[(.slice Xn23 (takeF p0 n1).1.nums.length kn23), (.slice Xd23 (takeF p0 n1).1.drawn.length kd23), .int .i64 (takeF p0 n1).1.st] 27)).cell? ⟨w.heap.size, 1, none⟩ = some (vd0) := (bA0.alloc _).cell 1
  have qa_bA0_2 : (w23.alloc (.cells #[(.slice Xn23 (takeF p0 n1).1.nums.length kn23), (.slice Xd23 (takeF p0 n1).1.drawn.length kd23), .int .i64 (takeF p0 n1).1.st] 27)).cell? ⟨w.heap.size, 2, none⟩ = some (.int .i64 p0.st) := (bA0.alloc _).cell 2
  have qa_bW_0 : (w23.alloc (.cells #[(.slice Xn23 (takeF p0 n1).1.nums.length kn23), (.slice Xd23 (takeF p0 n1).1.drawn.length kd23), .int .i64 (takeF p0 n1).1.st] 27)).cell? ⟨w4.heap.size, 0, none⟩ = some ((.slice Xn4 (takeF p0 n1).1.nums.length kn4)) := (bW.alloc _).cell 0
  have qa_bW_1 : (w23.alloc (.cells #[(.slice Xn23 (takeF p0 n1).1.nums.length kn23), (.slice Xd23 (takeF p0 n1).1.drawn.length kd23), .int .i64 (takeF p0 n1).1.st] 27)).cell? ⟨w4.heap.size, 1, none⟩ = some ((.slice Xd4 (takeF p0 n1).1.drawn.length kd4)) := (bW.alloc _).cell 1
  have qa_bW_2 : (w23.alloc (.cells #[(.slice Xn23 (takeF p0 n1).1.nums.length kn23), (.slice Xd23 (takeF p0 n1).1.drawn.length kd23), .int .i64 (takeF p0 n1).1.st] 27)).cell? ⟨w4.heap.size, 2, none⟩ = some (.int .i64 (takeF p0 n1).1.st) := (bW.alloc _).cell 2
  have qa_bG_0 : (w23.alloc (.cells #[(.slice Xn23 (takeF p0 n1).1.nums.length kn23), (.slice Xd23 (takeF p0 n1).1.drawn.length kd23), .int .i64 (takeF p0 n1).1.st] 27)).cell? ⟨w8.heap.size, 0, none⟩ = some ((.slice Xn8 (takeF p0 n1).1.nums.length kn8)) := (bG.alloc _).cell 0
  have qa_bG_1 : (w23.alloc (.cells #[(.slice Xn23 (takeF p0 n1).1.nums.length kn23), (.slice Xd23 (takeF p0 n1).1.drawn.length kd23), .int .i64 (takeF p0 n1).1.st] 27)).cell? ⟨w8.heap.size, 1, none⟩ = some ((.slice Xd8 (takeF p0 n1).1.drawn.length kd8)) := (bG.alloc _).cell 1
  have qa_bG_2 : (w23.alloc (.cells #[(.slice Xn23 (takeF p0 n1).1.nums.length kn23), (.slice Xd23 (takeF p0 n1).1.drawn.length kd23), .int .i64 (takeF p0 n1).1.st] 27)).cell? ⟨w8.heap.size, 2, none⟩ = some (.int .i64 (takeF p0 n1).1.st) := (bG.alloc _).cell 2
  go_wp2_with fail
  clear q_bA0_0 q_bA0_1 q_bA0_2 q_bW_0 q_bW_1 q_bW_2 q_bG_0 q_bG_1 q_bG_2 qa_bA0_0 qa_bA0_1 qa_bA0_2 qa_bW_0 qa_bW_1 qa_bW_2 qa_bG_0 qa_bG_1 qa_bG_2
  have hz24 : (w23.alloc (.cells #[(.slice Xn23 (takeF p0 n1).1.nums.length kn23), (.slice Xd23 (takeF p0 n1).1.drawn.length kd23), .int .i64 (takeF p0 n1).1.st] 27)).heap.size = w23.heap.size + 1 := by simp
  have hb24 : Below w23.heap.size w23 (w23.alloc (.cells #[(.slice Xn23 (takeF p0 n1).1.nums.length kn23), (.slice Xd23 (takeF p0 n1).1.drawn.length kd23), .int .i64 (takeF p0 n1).1.st] 27)) := (Below.refl _ _).alloc (Nat.le_refl _) _
  have bx := Blk.new w23 27 #[(.slice Xn23 (takeF p0 n1).1.nums.length kn23), (.slice Xd23 (takeF p0 n1).1.drawn.length kd23), .int .i64 (takeF p0 n1).1.st]
  generalize (w23.alloc (.cells #[(.slice Xn23 (takeF p0 n1).1.nums.length kn23), (.slice Xd23 (takeF p0 n1).1.drawn.length kd23), .int .i64 (takeF p0 n1).1.st] 27)) = w24 at *
  have z24 := hb24.size
  have hn0 := hn0.below hb24 (by omega)
  have hd0 := hd0.below hb24 (by omega)
  have o4n := o4n.below hb24 (by omega)
  have o4d := o4d.below hb24 (by omega)
  have o4l := o4l.below hb24 (by omega)
  have m18n := m18n.below hb24
  have m18d := m18d.below hb24
  have m19 := m19.below hb24
  have o22n := o22n.below hb24
  have o22d := o22d.below hb24
  have o23n := o23n.below hb24
  have o23d := o23d.below hb24
  have o23l := o23l.below hb24
  have bA0 := bA0.below' hb24
  have bW := bW.below' hb24
  have bG := bG.below' hb24
  have B24 := Below.trans B23 (Below.mono hb24 (by omega))
  clear hb24
  clear B23
  have bH := bx
  clear bx
  refine (eqPool_any (.slice Xn23 (takeF p0 n1).1.nums.length kn23) (.slice Xd23 (takeF p0 n1).1.drawn.length kd23) (.slice Xn4 (takeF p0 n1).1.nums.length kn4) (.slice Xd4 (takeF p0 n1).1.drawn.length kd4) (takeF p0 n1).1.nums (takeF p0 n1).1.drawn (takeF p0 n1).1.nums (takeF p0 n1).1.drawn ((takeF p0 n1).1.st) ((takeF p0 n1).1.st) _ _ _ _ _ (OwI.rd (fun _ => rfl) o23n) (OwI.rd (fun _ => rfl) o23d) (o4n.more (Nat.le_refl _) (by omega)) (o4d.more (Nat.le_refl _) (by omega))).mono ?_
  rintro e w25 ⟨rfl, hb25⟩
  have z25 := hb25.size
  have hn0 := hn0.below hb25 (by omega)
  have hd0 := hd0.below hb25 (by omega)
  have o4n := o4n.below hb25 (by omega)
  have o4d := o4d.below hb25 (by omega)
  have o4l := o4l.below hb25 (by omega)
  have m18n := m18n.below hb25
  have m18d := m18d.below hb25
  have m19 := m19.below hb25
  have o22n := o22n.below hb25
  have o22d := o22d.below hb25
  have o23n := o23n.below hb25
  have o23d := o23d.below hb25
  have o23l := o23l.below hb25
  have bA0 := bA0.below' hb25
  have bW := bW.below' hb25
  have bG := bG.below' hb25
  have bH := bH.below' hb25
  have B25 := Below.trans B24 (Below.mono hb25 (by omega))
  clear hb25
  clear B24
  have q_bA0_0 : w25.cell? ⟨w.heap.size, 0, none⟩ = some (vn0) := bA0.cell 0
  have q_bA0_1 : w25.cell? ⟨w.heap.size, 1, none⟩ = some (vd0) := bA0.cell 1
  have q_bA0_2 : w25.cell? ⟨w.heap.size, 2, none⟩ = some (.int .i64 p0.st) := bA0.cell 2
  have q_bW_0 : w25.cell? ⟨w4.heap.size, 0, none⟩ = some ((.slice Xn4 (takeF p0 n1).1.nums.length kn4)) := bW.cell 0
  have q_bW_1 : w25.cell? ⟨w4.heap.size, 1, none⟩ = some ((.slice Xd4 (takeF p0 n1).1.drawn.length kd4)) := bW.cell 1
  have q_bW_2 : w25.cell? ⟨w4.heap.size, 2, none⟩ = some (.int .i64 (takeF p0 n1).1.st) := bW.cell 2
  have q_bG_0 : w25.cell? ⟨w8.heap.size, 0, none⟩ = some ((.slice Xn8 (takeF p0 n1).1.nums.length kn8)) := bG.cell 0
  have q_bG_1 : w25.cell? ⟨w8.heap.size, 1, none⟩ = some ((.slice Xd8 (takeF p0 n1).1.drawn.length kd8)) := bG.cell 1
  have q_bG_2 : w25.cell? ⟨w8.heap.size, 2, none⟩ = some (.int .i64 (takeF p0 n1).1.st) := bG.cell 2
  have q_bH_0 : w25.cell? ⟨w23.heap.size, 0, none⟩ = some ((.slice Xn23 (takeF p0 n1).1.nums.length kn23)) := bH.cell 0
  have q_bH_1 : w25.cell? ⟨w23.heap.size, 1, none⟩ = some ((.slice Xd23 (takeF p0 n1).1.drawn.length kd23)) := bH.cell 1
  have q_bH_2 : w25.cell? ⟨w23.heap.size, 2, none⟩ = some (.int .i64 (takeF p0 n1).1.st) := bH.cell 2
  go_wp2_with fail
  clear q_bA0_0 q_bA0_1 q_bA0_2 q_bW_0 q_bW_1 q_bW_2 q_bG_0 q_bG_1 q_bG_2 q_bH_0 q_bH_1 q_bH_2
  refine (eqInt64S_any x23 x4 (takeF p0 n1).2.1 (takeF p0 n1).2.1 _ _ _ (OwI.rd (fun _ => rfl) o23l) (o4l.more (Nat.le_refl _) (by omega))).mono ?_
  rintro e w26 ⟨rfl, hb26⟩
  have z26 := hb26.size
  have hn0 := hn0.below hb26 (by omega)
  have hd0 := hd0.below hb26 (by omega)
  have o4n := o4n.below hb26 (by omega)
  have o4d := o4d.below hb26 (by omega)
  have o4l := o4l.below hb26 (by omega)
  have m18n := m18n.below hb26
  have m18d := m18d.below hb26
  have m19 := m19.below hb26
  have o22n := o22n.below hb26
  have o22d := o22d.below hb26
  have o23n := o23n.below hb26
  have o23d := o23d.below hb26
  have o23l := o23l.below hb26
  have bA0 := bA0.below' hb26
  have bW := bW.below' hb26
  have bG := bG.below' hb26
  have bH := bH.below' hb26
  have B26 := Below.trans B25 (Below.mono hb26 (by omega))
  clear hb26
  clear B25
  have q_bA0_0 : w26.cell? ⟨w.heap.size, 0, none⟩ = some (vn0) := bA0.cell 0
  have q_bA0_1 : w26.cell? ⟨w.heap.size, 1, none⟩ = some (vd0) := bA0.cell 1
  have q_bA0_2 : w26.cell? ⟨w.heap.size, 2, none⟩ = some (.int .i64 p0.st) := bA0.cell 2
  have q_bW_0 : w26.cell? ⟨w4.heap.size, 0, none⟩ = some ((.slice Xn4 (takeF p0 n1).1.nums.length kn4)) := bW.cell 0
  have q_bW_1 : w26.cell? ⟨w4.heap.size, 1, none⟩ = some ((.slice Xd4 (takeF p0 n1).1.drawn.length kd4)) := bW.cell 1
  have q_bW_2 : w26.cell? ⟨w4.heap.size, 2, none⟩ = some (.int .i64 (takeF p0 n1).1.st) := bW.cell 2
  have q_bG_0 : w26.cell? ⟨w8.heap.size, 0, none⟩ = some ((.slice Xn8 (takeF p0 n1).1.nums.length kn8)) := bG.cell 0
  have q_bG_1 : w26.cell? ⟨w8.heap.size, 1, none⟩ = some ((.slice Xd8 (takeF p0 n1).1.drawn.length kd8)) := bG.cell 1
  have q_bG_2 : w26.cell? ⟨w8.heap.size, 2, none⟩ = some (.int .i64 (takeF p0 n1).1.st) := bG.cell 2
  have q_bH_0 : w26.cell? ⟨w23.heap.size, 0, none⟩ = some ((.slice Xn23 (takeF p0 n1).1.nums.length kn23)) := bH.cell 0
  have q_bH_1 : w26.cell? ⟨w23.heap.size, 1, none⟩ = some ((.slice Xd23 (takeF p0 n1).1.drawn.length kd23)) := bH.cell 1
  have q_bH_2 : w26.cell? ⟨w23.heap.size, 2, none⟩ = some (.int .i64 (takeF p0 n1).1.st) := bH.cell 2
  go_wp2_with fail
  clear q_bA0_0 q_bA0_1 q_bA0_2 q_bW_0 q_bW_1 q_bW_2 q_bG_0 q_bG_1 q_bG_2 q_bH_0 q_bH_1 q_bH_2
  refine (heldPool_any (.slice Xn8 (takeF p0 n1).1.nums.length kn8) (.slice Xd8 (takeF p0 n1).1.drawn.length kd8) (takeF p0 n1).1.nums.length (takeF p0 n1).1.drawn.length ((takeF p0 n1).1.st) 1 _ _ _ (OwI.rd (fun _ => rfl) m18n) (OwI.rd (fun _ => rfl) m18d) (by omega) (by omega) (by omega) (by omega)).mono ?_
  rintro e w27 ⟨rfl, hb27⟩
  have z27 := hb27.size
  have hn0 := hn0.below hb27 (by omega)
  have hd0 := hd0.below hb27 (by omega)
  have o4n := o4n.below hb27 (by omega)
  have o4d := o4d.below hb27 (by omega)
  have o4l := o4l.below hb27 (by omega)
  have m18n := m18n.below hb27
  have m18d := m18d.below hb27
  have m19 := m19.below hb27
  have o22n := o22n.below hb27
  have o22d := o22d.below hb27
  have o23n := o23n.below hb27
  have o23d := o23d.below hb27
  have o23l := o23l.below hb27
  have bA0 := bA0.below' hb27
  have bW := bW.below' hb27
  have bG := bG.below' hb27
  have bH := bH.below' hb27
  have B27 := Below.trans B26 (Below.mono hb27 (by omega))
  clear hb27
  clear B26
  have q_bA0_0 : w27.cell? ⟨w.heap.size, 0, none⟩ = some (vn0) := bA0.cell 0
  have q_bA0_1 : w27.cell? ⟨w.heap.size, 1, none⟩ = some (vd0) := bA0.cell 1
  have q_bA0_2 : w27.cell? ⟨w.heap.size, 2, none⟩ = some (.int .i64 p0.st) := bA0.cell 2
  have q_bW_0 : w27.cell? ⟨w4.heap.size, 0, none⟩ = some ((.slice Xn4 (takeF p0 n1).1.nums.length kn4)) := bW.cell 0
  have q_bW_1 : w27.cell? ⟨w4.heap.size, 1, none⟩ = some ((.slice Xd4 (takeF p0 n1).1.drawn.length kd4)) := bW.cell 1
  have q_bW_2 : w27.cell? ⟨w4.heap.size, 2, none⟩ = some (.int .i64 (takeF p0 n1).1.st) := bW.cell 2
  have q_bG_0 : w27.cell? ⟨w8.heap.size, 0, none⟩ = some ((.slice Xn8 (takeF p0 n1).1.nums.length kn8)) := bG.cell 0
  have q_bG_1 : w27.cell? ⟨w8.heap.size, 1, none⟩ = some ((.slice Xd8 (takeF p0 n1).1.drawn.length kd8)) := bG.cell 1
  have q_bG_2 : w27.cell? ⟨w8.heap.size, 2, none⟩ = some (.int .i64 (takeF p0 n1).1.st) := bG.cell 2
  have q_bH_0 : w27.cell? ⟨w23.heap.size, 0, none⟩ = some ((.slice Xn23 (takeF p0 n1).1.nums.length kn23)) := bH.cell 0
  have q_bH_1 : w27.cell? ⟨w23.heap.size, 1, none⟩ = some ((.slice Xd23 (takeF p0 n1).1.drawn.length kd23)) := bH.cell 1
  have q_bH_2 : w27.cell? ⟨w23.heap.size, 2, none⟩ = some (.int .i64 (takeF p0 n1).1.st) := bH.cell 2
  go_wp2_with fail
  clear q_bA0_0 q_bA0_1 q_bA0_2 q_bW_0 q_bW_1 q_bW_2 q_bG_0 q_bG_1 q_bG_2 q_bH_0 q_bH_1 q_bH_2
  refine (heldInt64S_any x8 _ (1 + ((takeF p0 n1).1.nums.length : Int) + ((takeF p0 n1).1.drawn.length : Int)) _ _ _ (OwI.rd (fun _ => rfl) m19) (by omega) (by omega) (by omega)).mono ?_
  rintro e w1028 ⟨rfl, rfl⟩
  have q_bA0_0 : w27.cell? ⟨w.heap.size, 0, none⟩ = some (vn0) := bA0.cell 0
  have q_bA0_1 : w27.cell? ⟨w.heap.size, 1, none⟩ = some (vd0) := bA0.cell 1
  have q_bA0_2 : w27.cell? ⟨w.heap.size, 2, none⟩ = some (.int .i64 p0.st) := bA0.cell 2
  have q_bW_0 : w27.cell? ⟨w4.heap.size, 0, none⟩ = some ((.slice Xn4 (takeF p0 n1).1.nums.length kn4)) := bW.cell 0
  have q_bW_1 : w27.cell? ⟨w4.heap.size, 1, none⟩ = some ((.slice Xd4 (takeF p0 n1).1.drawn.length kd4)) := bW.cell 1
  have q_bW_2 : w27.cell? ⟨w4.heap.size, 2, none⟩ = some (.int .i64 (takeF p0 n1).1.st) := bW.cell 2
  have q_bG_0 : w27.cell? ⟨w8.heap.size, 0, none⟩ = some ((.slice Xn8 (takeF p0 n1).1.nums.length kn8)) := bG.cell 0
  have q_bG_1 : w27.cell? ⟨w8.heap.size, 1, none⟩ = some ((.slice Xd8 (takeF p0 n1).1.drawn.length kd8)) := bG.cell 1
  have q_bG_2 : w27.cell? ⟨w8.heap.size, 2, none⟩ = some (.int .i64 (takeF p0 n1).1.st) := bG.cell 2
  have q_bH_0 : w27.cell? ⟨w23.heap.size, 0, none⟩ = some ((.slice Xn23 (takeF p0 n1).1.nums.length kn23)) := bH.cell 0
  have q_bH_1 : w27.cell? ⟨w23.heap.size, 1, none⟩ = some ((.slice Xd23 (takeF p0 n1).1.drawn.length kd23)) := bH.cell 1
  have q_bH_2 : w27.cell? ⟨w23.heap.size, 2, none⟩ = some (.int .i64 (takeF p0 n1).1.st) := bH.cell 2
  go_wp2_with fail
  clear q_bA0_0 q_bA0_1 q_bA0_2 q_bW_0 q_bW_1 q_bW_2 q_bG_0 q_bG_1 q_bG_2 q_bH_0 q_bH_1 q_bH_2
  go_ret
  exact ⟨rfl, B27⟩

theorem walk (v0 : Value) (v1 : Value) (w : World) (g0 : ∃ (vn vd : Value) (q : P3), v0 = .agg #[vn, vd, .int .i64 q.st] ∧ SlI w 0 w.heap.size vn q.nums ∧ SlI w 0 w.heap.size vd q.drawn) (g1 : ∃ n : Int, v1 = .int .i64 n) :
    Calls Try.prog 9 #[v0, v1] w fun e w' => e = .returned (.bool true) ∧ Below w.heap.size w w' := by
  obtain ⟨vn0, vd0, p0, rfl, hn0, hd0⟩ := g0
  obtain ⟨n1, rfl⟩ := g1
  exact walkL vn0 vd0 p0 n1 w hn0 hd0

theorem own : ownKnob Try.prog.godebug = none := by kernel_rfl
theorem laidOut : laidOutB Try.prog = true := by kernel_rfl

set_option maxRecDepth 100000 in
theorem lifted (os : Os) (started : os.Started) (H : Type) (enc : TypeId × Value → H) :
    ReturnsInHanded {} Try.checked os 9 .any (Rows.fnExactTakeFromSpec.pre6 enc Try.prog Try.f9 Rows.fnExactTakeFromRow.domain false) (Rows.fnExactTakeFromSpec.post enc Try.prog Try.f9 false true false false) := by
  refine returnsInHanded_of_change (C := Try.checked) own started (by kernel_rfl) Try.func9
    (ChangeSpec.witness6 (enc := enc) (C := Try.checked) false ⟨#[], #[.agg #[.slice none 0 0, .slice none 0 0, .int .i64 0], .int .i64 0], []⟩ 8 (by kernel_rfl) (by kernel_rfl) (by kernel_rfl) (by kernel_rfl)) ?_
  intro W base args ds gs before hval0 hW hcnd _
  have hval : ∀ (j : Nat) t v, Try.f9.params[j]? = some t → args[j]? = some v → Value.okWide Try.prog W .any base t v := hval0
  have hW' := hW
  obtain ⟨p, q, hA0, hV, rfl, hfz, hnd⟩ := hW
  have hA : DataW.TrodAll enc Try.prog W 0 (fun _ => true) true Try.f9.params.toList args.toList ds p := hA0
  rw [Try.params9] at hA hval
  obtain ⟨v0, vs0, d0, ds0, p0, q0, hargs, rfl, rfl, h0, r0⟩ := trodAll_cons hA
  obtain ⟨v1, vs1, d1, ds1, p1, q1, rfl, rfl, rfl, h1, r1⟩ := trodAll_cons r0
  obtain ⟨rfl, rfl, rfl⟩ := trodAll_nil r1
  obtain rfl : args = #[v0, v1] := by cases args; simp_all
  obtain ⟨rfl, rfl⟩ := trodVars_none hV
  have lt0 : ∀ x ∈ p0, x.block < W.heap.size := by obtain ⟨m, hm⟩ := h0; exact DataW.trod_lt m _ _ _ hm
  have lt1 : ∀ x ∈ p1, x.block < W.heap.size := by obtain ⟨m, hm⟩ := h1; exact DataW.trod_lt m _ _ _ hm
  have g0 := open_PoolV (hval 0 24 v0 rfl rfl) h0
  have g1 := open_int64 (hval 1 2 v1 rfl rfl) h1
  clear hA0 hval0
  refine (walk v0 v1 W g0 g1).mono fun e W' ⟨he, bel⟩ => ?_
  subst he
  exact ⟨_, rfl, _, _, _, [], _, [], hW', trodAll_mk1 (shut_bool Try.underlying4 _), (trodAll_cons_mk (Below.trod laidOut (by kernel_rfl) (of_decide_eq_true (by kernel_rfl)) h0 bel lt0) (trodAll_cons_mk (Below.trod laidOut (by kernel_rfl) (of_decide_eq_true (by kernel_rfl)) h1 bel lt1) trodAll_mk0)), rfl, bel.frame _, fun h => by cases h⟩

theorem over : Rows.fnExactTakeFromRow.holds Try.pinned (OpenSpec.ofChange Rows.fnExactTakeFromSpec) :=
  OpenClaim.holds_of_wide 9 Try.f9 rfl rfl rfl rfl rfl rfl rfl ⟨rfl, rfl, rfl, rfl, rfl⟩ rfl rfl rfl rfl rfl (by kernel_rfl) Try.func9 (by kernel_rfl)
    (of_decide_eq_true (by kernel_rfl)) (by unfold Func.isWrapper; first | (rw [if_pos (by decide +kernel)]; kernel_rfl) | (rw [if_neg (by decide +kernel)]; exact ⟨rfl, rfl⟩))
    (fun os started H enc _ => lifted os started H enc)

theorem proved : Rows.FnExactTakeFromSaid := over
#print axioms proved
end Go.Proofs.Ytfenedoalnieaaa.lawFnExactTakeFrom

