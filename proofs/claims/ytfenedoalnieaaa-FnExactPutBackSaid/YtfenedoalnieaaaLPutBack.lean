/- FnExactPutBack: for every input the law returns true, and each argument reads as it did. No condition. -/
import Derived.Test.YtfenedoalnieaaaPoolI
import Derived.Test.YtfenedoalnieaaaPoolG
import Derived.Test.YtfenedoalnieaaaReg
namespace Go.Proofs.Ytfenedoalnieaaa.lawFnExactPutBack
open Go.ChangeShapes Go.WideShapes Go.ChangeAt Go.RowKit

set_option maxRecDepth 100000 in
set_option maxHeartbeats 4000000 in
theorem walkL (vn0 vd0 : Value) (p0 : P3) (v1 : Value) (cs1 : List Int) (w : World) (hn0 : SlI w 0 w.heap.size vn0 p0.nums) (hd0 : SlI w 0 w.heap.size vd0 p0.drawn) (h1 : SlI w 0 w.heap.size v1 cs1) :
    Calls Try.prog 7 #[.agg #[vn0, vd0, .int .i64 p0.st], v1] w fun e w' => e = .returned (.bool true) ∧ Below w.heap.size w w' := by
  have hL : (putF p0 cs1).1.nums.length ≤ p0.nums.length ∧ (putF p0 cs1).1.drawn.length ≤ p0.drawn.length := putF_len p0 cs1
  obtain ⟨A1, c1, rfl, b1, b1'⟩ := h1.form
  have hB0 : Below w.heap.size w w := Below.refl _ _
  have hq : (0:Int) ≤ 1048576 ∧ (1048576:Int) ≤ 1048576 := by omega
  rcases Nat.lt_or_ge 1048576 cs1.length with hs1 | hs1
  · have hg : decide ((1048576 : Int) < (cs1.length : Int)) = true := by simp; omega
    go_enter Try.func7, Try.ntmps7
    go_wp2_with fail
    go_ret
    exact ⟨rfl, (Below.refl _ _).alloc (Nat.le_refl _) _⟩
  have hg1 : decide ((1048576 : Int) < (cs1.length : Int)) = false := by simp; omega
  go_enter Try.func7, Try.ntmps7
  go_wp2_with fail
  have hz1 : (w.alloc (.cells #[vn0, vd0, .int .i64 p0.st] 24)).heap.size = w.heap.size + 1 := by simp
  have hb1 : Below w.heap.size w (w.alloc (.cells #[vn0, vd0, .int .i64 p0.st] 24)) := (Below.refl _ _).alloc (Nat.le_refl _) _
  have bx := Blk.new w 24 #[vn0, vd0, .int .i64 p0.st]
  generalize (w.alloc (.cells #[vn0, vd0, .int .i64 p0.st] 24)) = w1 at *
  have z1 := hb1.size
  have hn0 := hn0.below hb1 (by omega)
  have hd0 := hd0.below hb1 (by omega)
  have h1 := h1.below hb1 (by omega)
  have B1 := Below.trans hB0 (Below.mono hb1 (by omega))
  clear hb1
  have bA0 := bx
  clear bx
  rcases Nat.lt_or_ge 1048576 (p0.nums.length + p0.drawn.length) with hbig | hs0
  · refine (szPool_big vn0 vd0 p0.nums p0.drawn p0.st _ (hn0.more (Nat.le_refl _) (by omega)) (hd0.more (Nat.le_refl _) (by omega)) (Nat.le_refl _) (Nat.le_refl _) hbig).mono ?_
    rintro e wz ⟨rfl, hbz⟩
    go_wp2_with fail
    go_ret
    exact ⟨rfl, B1.trans (hbz.mono (by omega))⟩
  have hk0 : (0 : Int) ≤ 1048576 - (p0.nums.length : Int) - (p0.drawn.length : Int) := by omega
  refine (szPool_small vn0 vd0 p0.nums p0.drawn p0.st _ (hn0.more (Nat.le_refl _) (by omega)) (hd0.more (Nat.le_refl _) (by omega)) (Nat.le_refl _) (Nat.le_refl _) hs0).mono ?_
  rintro e w2 ⟨rfl, hb2⟩
  have z2 := hb2.size
  have hn0 := hn0.below hb2 (by omega)
  have hd0 := hd0.below hb2 (by omega)
  have h1 := h1.below hb2 (by omega)
  have bA0 := bA0.below' hb2
  have B2 := Below.trans B1 (Below.mono hb2 (by omega))
  clear hb2
  clear B1
  have q_bA0_0 : w2.cell? ⟨w.heap.size, 0, none⟩ = some (vn0) := bA0.cell 0
  have q_bA0_1 : w2.cell? ⟨w.heap.size, 1, none⟩ = some (vd0) := bA0.cell 1
  have q_bA0_2 : w2.cell? ⟨w.heap.size, 2, none⟩ = some (.int .i64 p0.st) := bA0.cell 2
  go_wp2_with fail
  clear q_bA0_0 q_bA0_1 q_bA0_2
  refine (toPool_z vn0 vd0 p0 _ _ _ (hn0.more (Nat.le_refl _) (by omega)) (hd0.more (Nat.le_refl _) (by omega)) (by omega) (by omega)).mono ?_
  rintro e w3 ⟨xn3, xd3, Q3, rfl, o3n, o3d, hQ3, hq3, hb3⟩
  have z3 := hb3.size
  have hn0 := hn0.below hb3 (by omega)
  have hd0 := hd0.below hb3 (by omega)
  have h1 := h1.below hb3 (by omega)
  have bA0 := bA0.below' hb3
  have B3 := Below.trans B2 (Below.mono hb3 (by omega))
  clear hb3
  clear B2
  obtain ⟨Xn3, kn3, rfl, _, _⟩ := o3n.form
  obtain ⟨Xd3, kd3, rfl, _, _⟩ := o3d.form
  have q_bA0_0 : w3.cell? ⟨w.heap.size, 0, none⟩ = some (vn0) := bA0.cell 0
  have q_bA0_1 : w3.cell? ⟨w.heap.size, 1, none⟩ = some (vd0) := bA0.cell 1
  have q_bA0_2 : w3.cell? ⟨w.heap.size, 2, none⟩ = some (.int .i64 p0.st) := bA0.cell 2
  go_wp2_with fail
  clear q_bA0_0 q_bA0_1 q_bA0_2
  refine (toInt64S_any (.slice A1 cs1.length c1) cs1 _ 0 (h1.more (Nat.le_refl _) (by omega)) hs1).mono ?_
  rintro e w4 ⟨x4, rfl, o4, hb4⟩
  have z4 := hb4.size
  have hn0 := hn0.below hb4 (by omega)
  have hd0 := hd0.below hb4 (by omega)
  have h1 := h1.below hb4 (by omega)
  have o3n := o3n.below hb4
  have o3d := o3d.below hb4
  have bA0 := bA0.below' hb4
  have B4 := Below.trans B3 (Below.mono hb4 (by omega))
  clear hb4
  clear B3
  have o4 := OwI.of o4
  have q_bA0_0 : w4.cell? ⟨w.heap.size, 0, none⟩ = some (vn0) := bA0.cell 0
  have q_bA0_1 : w4.cell? ⟨w.heap.size, 1, none⟩ = some (vd0) := bA0.cell 1
  have q_bA0_2 : w4.cell? ⟨w.heap.size, 2, none⟩ = some (.int .i64 p0.st) := bA0.cell 2
  go_wp2_with fail
  clear q_bA0_0 q_bA0_1 q_bA0_2
  refine (specPutBack_any (.slice Xn3 p0.nums.length kn3) (.slice Xd3 p0.drawn.length kd3) p0 x4 cs1 _ _ _ _ (OwI.rd (fun _ => rfl) o3n) (OwI.rd (fun _ => rfl) o3d) (OwI.rd (fun _ => rfl) o4) (by omega) (by omega)).mono ?_
  rintro e w5 ⟨xn5, xd5, rfl, o5n, o5d, hb5⟩
  have z5 := hb5.size
  have hn0 := hn0.below hb5 (by omega)
  have hd0 := hd0.below hb5 (by omega)
  have h1 := h1.below hb5 (by omega)
  have o3n := o3n.below hb5
  have o3d := o3d.below hb5
  have o4 := o4.below hb5
  have bA0 := bA0.below' hb5
  have B5 := Below.trans B4 (Below.mono hb5 (by omega))
  clear hb5
  clear B4
  obtain ⟨Xn5, kn5, rfl, _, _⟩ := o5n.form
  obtain ⟨Xd5, kd5, rfl, _, _⟩ := o5d.form
  clear o3n
  clear o3d
  clear o4
  have q_bA0_0 : w5.cell? ⟨w.heap.size, 0, none⟩ = some (vn0) := bA0.cell 0
  have q_bA0_1 : w5.cell? ⟨w.heap.size, 1, none⟩ = some (vd0) := bA0.cell 1
  have q_bA0_2 : w5.cell? ⟨w.heap.size, 2, none⟩ = some (.int .i64 p0.st) := bA0.cell 2
  have qa_bA0_0 : (w5.alloc (.cells #[(.slice Xn5 (putF p0 cs1).1.nums.length kn5), (.slice Xd5 (putF p0 cs1).1.drawn.length kd5), .int .i64 (putF p0 cs1).1.st] 27)).cell? ⟨w.heap.size, 0, none⟩ = some (vn0) := (bA0.alloc _).cell 0
  have qa_bA0_1 : (w5.alloc (.cells #[(.slice Xn5 (putF p0 cs1).1.nums.length kn5), (.slice Xd5 (putF p0 cs1).1.drawn.length kd5), .int .i64 (putF p0 cs1).1.st] 27)).cell? ⟨w.heap.size, 1, none⟩ = some (vd0) := (bA0.alloc _).cell 1
  have qa_bA0_2 : (w5.alloc (.cells #[(.slice Xn5 (putF p0 cs1).1.nums.length kn5), (.slice Xd5 (putF p0 cs1).1.drawn.length kd5), .int .i64 (putF p0 cs1).1.st] 27)).cell? ⟨w.heap.size, 2, none⟩ = some (.int .i64 p0.st) := (bA0.alloc _).cell 2
  go_wp2_with fail
  clear q_bA0_0 q_bA0_1 q_bA0_2 qa_bA0_0 qa_bA0_1 qa_bA0_2
  have hz6 : (w5.alloc (.cells #[(.slice Xn5 (putF p0 cs1).1.nums.length kn5), (.slice Xd5 (putF p0 cs1).1.drawn.length kd5), .int .i64 (putF p0 cs1).1.st] 27)).heap.size = w5.heap.size + 1 := by simp
  have hb6 : Below w5.heap.size w5 (w5.alloc (.cells #[(.slice Xn5 (putF p0 cs1).1.nums.length kn5), (.slice Xd5 (putF p0 cs1).1.drawn.length kd5), .int .i64 (putF p0 cs1).1.st] 27)) := (Below.refl _ _).alloc (Nat.le_refl _) _
  have bx := Blk.new w5 27 #[(.slice Xn5 (putF p0 cs1).1.nums.length kn5), (.slice Xd5 (putF p0 cs1).1.drawn.length kd5), .int .i64 (putF p0 cs1).1.st]
  generalize (w5.alloc (.cells #[(.slice Xn5 (putF p0 cs1).1.nums.length kn5), (.slice Xd5 (putF p0 cs1).1.drawn.length kd5), .int .i64 (putF p0 cs1).1.st] 27)) = w6 at *
  have z6 := hb6.size
  have hn0 := hn0.below hb6 (by omega)
  have hd0 := hd0.below hb6 (by omega)
  have h1 := h1.below hb6 (by omega)
  have o5n := o5n.below hb6 (by omega)
  have o5d := o5d.below hb6 (by omega)
  have bA0 := bA0.below' hb6
  have B6 := Below.trans B5 (Below.mono hb6 (by omega))
  clear hb6
  clear B5
  have bW := bx
  clear bx
  refine (toPool_z vn0 vd0 p0 _ _ _ (hn0.more (Nat.le_refl _) (by omega)) (hd0.more (Nat.le_refl _) (by omega)) (by omega) (by omega)).mono ?_
  rintro e w7 ⟨xn7, xd7, Q7, rfl, o7n, o7d, hQ7, hq7, hb7⟩
  have z7 := hb7.size
  have hn0 := hn0.below hb7 (by omega)
  have hd0 := hd0.below hb7 (by omega)
  have h1 := h1.below hb7 (by omega)
  have o5n := o5n.below hb7 (by omega)
  have o5d := o5d.below hb7 (by omega)
  have bA0 := bA0.below' hb7
  have bW := bW.below' hb7
  have B7 := Below.trans B6 (Below.mono hb7 (by omega))
  clear hb7
  clear B6
  obtain ⟨Xn7, kn7, rfl, _, _⟩ := o7n.form
  obtain ⟨Xd7, kd7, rfl, _, _⟩ := o7d.form
  have q_bA0_0 : w7.cell? ⟨w.heap.size, 0, none⟩ = some (vn0) := bA0.cell 0
  have q_bA0_1 : w7.cell? ⟨w.heap.size, 1, none⟩ = some (vd0) := bA0.cell 1
  have q_bA0_2 : w7.cell? ⟨w.heap.size, 2, none⟩ = some (.int .i64 p0.st) := bA0.cell 2
  have q_bW_0 : w7.cell? ⟨w5.heap.size, 0, none⟩ = some ((.slice Xn5 (putF p0 cs1).1.nums.length kn5)) := bW.cell 0
  have q_bW_1 : w7.cell? ⟨w5.heap.size, 1, none⟩ = some ((.slice Xd5 (putF p0 cs1).1.drawn.length kd5)) := bW.cell 1
  have q_bW_2 : w7.cell? ⟨w5.heap.size, 2, none⟩ = some (.int .i64 (putF p0 cs1).1.st) := bW.cell 2
  have qa_bA0_0 : (w7.alloc (.cells #[(.slice Xn7 p0.nums.length kn7), (.slice Xd7 p0.drawn.length kd7), .int .i64 p0.st] 27)).cell? ⟨w.heap.size, 0, none⟩ = some (vn0) := (bA0.alloc _).cell 0
  have qa_bA0_1 : (w7.alloc (.cells #[(.slice Xn7 p0.nums.length kn7), (.slice Xd7 p0.drawn.length kd7), .int .i64 p0.st] 27)).cell? ⟨w.heap.size, 1, none⟩ = some (vd0) := (bA0.alloc _).cell 1
  have qa_bA0_2 : (w7.alloc (.cells #[(.slice Xn7 p0.nums.length kn7), (.slice Xd7 p0.drawn.length kd7), .int .i64 p0.st] 27)).cell? ⟨w.heap.size, 2, none⟩ = some (.int .i64 p0.st) := (bA0.alloc _).cell 2
  have qa_bW_0 : (w7.alloc (.cells #[(.slice Xn7 p0.nums.length kn7), (.slice Xd7 p0.drawn.length kd7), .int .i64 p0.st] 27)).cell? ⟨w5.heap.size, 0, none⟩ = some ((.slice Xn5 (putF p0 cs1).1.nums.length kn5)) := (bW.alloc _).cell 0
  have qa_bW_1 : (w7.alloc (.cells #[(.slice Xn7 p0.nums.length kn7), (.slice Xd7 p0.drawn.length kd7), .int .i64 p0.st] 27)).cell? ⟨w5.heap.size, 1, none⟩ = some ((.slice Xd5 (putF p0 cs1).1.drawn.length kd5)) := (bW.alloc _).cell 1
  have qa_bW_2 : (w7.alloc (.cells #[(.slice Xn7 p0.nums.length kn7), (.slice Xd7 p0.drawn.length kd7), .int .i64 p0.st] 27)).cell? ⟨w5.heap.size, 2, none⟩ = some (.int .i64 (putF p0 cs1).1.st) := (bW.alloc _).cell 2
  go_wp2_with fail
  clear q_bA0_0 q_bA0_1 q_bA0_2 q_bW_0 q_bW_1 q_bW_2 qa_bA0_0 qa_bA0_1 qa_bA0_2 qa_bW_0 qa_bW_1 qa_bW_2
  have hz8 : (w7.alloc (.cells #[(.slice Xn7 p0.nums.length kn7), (.slice Xd7 p0.drawn.length kd7), .int .i64 p0.st] 27)).heap.size = w7.heap.size + 1 := by simp
  have hb8 : Below w7.heap.size w7 (w7.alloc (.cells #[(.slice Xn7 p0.nums.length kn7), (.slice Xd7 p0.drawn.length kd7), .int .i64 p0.st] 27)) := (Below.refl _ _).alloc (Nat.le_refl _) _
  have bx := Blk.new w7 27 #[(.slice Xn7 p0.nums.length kn7), (.slice Xd7 p0.drawn.length kd7), .int .i64 p0.st]
  generalize (w7.alloc (.cells #[(.slice Xn7 p0.nums.length kn7), (.slice Xd7 p0.drawn.length kd7), .int .i64 p0.st] 27)) = w8 at *
  have z8 := hb8.size
  have hn0 := hn0.below hb8 (by omega)
  have hd0 := hd0.below hb8 (by omega)
  have h1 := h1.below hb8 (by omega)
  have o5n := o5n.below hb8 (by omega)
  have o5d := o5d.below hb8 (by omega)
  have o7n := o7n.below hb8
  have o7d := o7d.below hb8
  have bA0 := bA0.below' hb8
  have bW := bW.below' hb8
  have B8 := Below.trans B7 (Below.mono hb8 (by omega))
  clear hb8
  clear B7
  have bX0 := bx
  clear bx
  refine (toInt64S_any (.slice A1 cs1.length c1) cs1 _ 0 (h1.more (Nat.le_refl _) (by omega)) hs1).mono ?_
  rintro e w9 ⟨x9, rfl, o9, hb9⟩
  have z9 := hb9.size
  have hn0 := hn0.below hb9 (by omega)
  have hd0 := hd0.below hb9 (by omega)
  have h1 := h1.below hb9 (by omega)
  have o5n := o5n.below hb9 (by omega)
  have o5d := o5d.below hb9 (by omega)
  have o7n := o7n.below hb9
  have o7d := o7d.below hb9
  have bA0 := bA0.below' hb9
  have bW := bW.below' hb9
  have bX0 := bX0.below' hb9
  have B9 := Below.trans B8 (Below.mono hb9 (by omega))
  clear hb9
  clear B8
  have o9 := OwI.of o9
  have q_bA0_0 : w9.cell? ⟨w.heap.size, 0, none⟩ = some (vn0) := bA0.cell 0
  have q_bA0_1 : w9.cell? ⟨w.heap.size, 1, none⟩ = some (vd0) := bA0.cell 1
  have q_bA0_2 : w9.cell? ⟨w.heap.size, 2, none⟩ = some (.int .i64 p0.st) := bA0.cell 2
  have q_bW_0 : w9.cell? ⟨w5.heap.size, 0, none⟩ = some ((.slice Xn5 (putF p0 cs1).1.nums.length kn5)) := bW.cell 0
  have q_bW_1 : w9.cell? ⟨w5.heap.size, 1, none⟩ = some ((.slice Xd5 (putF p0 cs1).1.drawn.length kd5)) := bW.cell 1
  have q_bW_2 : w9.cell? ⟨w5.heap.size, 2, none⟩ = some (.int .i64 (putF p0 cs1).1.st) := bW.cell 2
  have q_bX0_0 : w9.cell? ⟨w7.heap.size, 0, none⟩ = some ((.slice Xn7 p0.nums.length kn7)) := bX0.cell 0
  have q_bX0_1 : w9.cell? ⟨w7.heap.size, 1, none⟩ = some ((.slice Xd7 p0.drawn.length kd7)) := bX0.cell 1
  have q_bX0_2 : w9.cell? ⟨w7.heap.size, 2, none⟩ = some (.int .i64 p0.st) := bX0.cell 2
  go_wp2_with fail
  clear q_bA0_0 q_bA0_1 q_bA0_2 q_bW_0 q_bW_1 q_bW_2 q_bX0_0 q_bX0_1 q_bX0_2
  refine (implPutBack_any (.slice Xn7 p0.nums.length kn7) (.slice Xd7 p0.drawn.length kd7) p0 x9 cs1 _ _ _ _ (OwI.rd (fun _ => rfl) o7n) (OwI.rd (fun _ => rfl) o7d) (OwI.rd (fun _ => rfl) o9) (by omega) (by omega)).mono ?_
  rintro e w10 ⟨xn10, xd10, Q10, rfl, o10n, o10d, hQ10, hq10, hb10⟩
  have z10 := hb10.size
  have hn0 := hn0.below hb10 (by omega)
  have hd0 := hd0.below hb10 (by omega)
  have h1 := h1.below hb10 (by omega)
  have o5n := o5n.below hb10 (by omega)
  have o5d := o5d.below hb10 (by omega)
  have o7n := o7n.below hb10
  have o7d := o7d.below hb10
  have o9 := o9.below hb10
  have bA0 := bA0.below' hb10
  have bW := bW.below' hb10
  have bX0 := bX0.below' hb10
  have B10 := Below.trans B9 (Below.mono hb10 (by omega))
  clear hb10
  clear B9
  obtain ⟨Xn10, kn10, rfl, _, _⟩ := o10n.form
  obtain ⟨Xd10, kd10, rfl, _, _⟩ := o10d.form
  have q_bA0_0 : w10.cell? ⟨w.heap.size, 0, none⟩ = some (vn0) := bA0.cell 0
  have q_bA0_1 : w10.cell? ⟨w.heap.size, 1, none⟩ = some (vd0) := bA0.cell 1
  have q_bA0_2 : w10.cell? ⟨w.heap.size, 2, none⟩ = some (.int .i64 p0.st) := bA0.cell 2
  have q_bW_0 : w10.cell? ⟨w5.heap.size, 0, none⟩ = some ((.slice Xn5 (putF p0 cs1).1.nums.length kn5)) := bW.cell 0
  have q_bW_1 : w10.cell? ⟨w5.heap.size, 1, none⟩ = some ((.slice Xd5 (putF p0 cs1).1.drawn.length kd5)) := bW.cell 1
  have q_bW_2 : w10.cell? ⟨w5.heap.size, 2, none⟩ = some (.int .i64 (putF p0 cs1).1.st) := bW.cell 2
  have q_bX0_0 : w10.cell? ⟨w7.heap.size, 0, none⟩ = some ((.slice Xn7 p0.nums.length kn7)) := bX0.cell 0
  have q_bX0_1 : w10.cell? ⟨w7.heap.size, 1, none⟩ = some ((.slice Xd7 p0.drawn.length kd7)) := bX0.cell 1
  have q_bX0_2 : w10.cell? ⟨w7.heap.size, 2, none⟩ = some (.int .i64 p0.st) := bX0.cell 2
  have qa_bA0_0 : (w10.alloc (.cells #[(.slice Xn10 (putF p0 cs1).1.nums.length kn10), (.slice Xd10 (putF p0 cs1).1.drawn.length kd10), .int .i64 (putF p0 cs1).1.st] 27)).cell? ⟨w.heap.size, 0, none⟩ = some (vn0) := (bA0.alloc _).cell 0
  have qa_bA0_1 : (w10.alloc (.cells #[(.slice Xn10 (putF p0 cs1).1.nums.length kn10), (.slice Xd10 (putF p0 cs1).1.drawn.length kd10), .int .i64 (putF p0 cs1).1.st] 27)).cell? ⟨w.heap.size, 1, none⟩ = some (vd0) := (bA0.alloc _).cell 1
  have qa_bA0_2 : (w10.alloc (.cells #[(.slice Xn10 (putF p0 cs1).1.nums.length kn10), (.slice Xd10 (putF p0 cs1).1.drawn.length kd10), .int .i64 (putF p0 cs1).1.st] 27)).cell? ⟨w.heap.size, 2, none⟩ = some (.int .i64 p0.st) := (bA0.alloc _).cell 2
  have qa_bW_0 : (w10.alloc (.cells #[(.slice Xn10 (putF p0 cs1).1.nums.length kn10), (.slice Xd10 (putF p0 cs1).1.drawn.length kd10), .int .i64 (putF p0 cs1).1.st] 27)).cell? ⟨w5.heap.size, 0, none⟩ = some ((.slice Xn5 (putF p0 cs1).1.nums.length kn5)) := (bW.alloc _).cell 0
  have qa_bW_1 : (w10.alloc (.cells #[(.slice Xn10 (putF p0 cs1).1.nums.length kn10), (.slice Xd10 (putF p0 cs1).1.drawn.length kd10), .int .i64 (putF p0 cs1).1.st] 27)).cell? ⟨w5.heap.size, 1, none⟩ = some ((.slice Xd5 (putF p0 cs1).1.drawn.length kd5)) := (bW.alloc _).cell 1
  have qa_bW_2 : (w10.alloc (.cells #[(.slice Xn10 (putF p0 cs1).1.nums.length kn10), (.slice Xd10 (putF p0 cs1).1.drawn.length kd10), .int .i64 (putF p0 cs1).1.st] 27)).cell? ⟨w5.heap.size, 2, none⟩ = some (.int .i64 (putF p0 cs1).1.st) := (bW.alloc _).cell 2
  have qa_bX0_0 : (w10.alloc (.cells #[(.slice Xn10 (putF p0 cs1).1.nums.length kn10), (.slice Xd10 (putF p0 cs1).1.drawn.length kd10), .int .i64 (putF p0 cs1).1.st] 27)).cell? ⟨w7.heap.size, 0, none⟩ = some ((.slice Xn7 p0.nums.length kn7)) := (bX0.alloc _).cell 0
  have qa_bX0_1 : (w10.alloc (.cells #[(.slice Xn10 (putF p0 cs1).1.nums.length kn10), (.slice Xd10 (putF p0 cs1).1.drawn.length kd10), .int .i64 (putF p0 cs1).1.st] 27)).cell? ⟨w7.heap.size, 1, none⟩ = some ((.slice Xd7 p0.drawn.length kd7)) := (bX0.alloc _).cell 1
  have qa_bX0_2 : (w10.alloc (.cells #[(.slice Xn10 (putF p0 cs1).1.nums.length kn10), (.slice Xd10 (putF p0 cs1).1.drawn.length kd10), .int .i64 (putF p0 cs1).1.st] 27)).cell? ⟨w7.heap.size, 2, none⟩ = some (.int .i64 p0.st) := (bX0.alloc _).cell 2
  go_wp2_with fail
  clear q_bA0_0 q_bA0_1 q_bA0_2 q_bW_0 q_bW_1 q_bW_2 q_bX0_0 q_bX0_1 q_bX0_2 qa_bA0_0 qa_bA0_1 qa_bA0_2 qa_bW_0 qa_bW_1 qa_bW_2 qa_bX0_0 qa_bX0_1 qa_bX0_2
  have hz11 : (w10.alloc (.cells #[(.slice Xn10 (putF p0 cs1).1.nums.length kn10), (.slice Xd10 (putF p0 cs1).1.drawn.length kd10), .int .i64 (putF p0 cs1).1.st] 27)).heap.size = w10.heap.size + 1 := by simp
  have hb11 : Below w10.heap.size w10 (w10.alloc (.cells #[(.slice Xn10 (putF p0 cs1).1.nums.length kn10), (.slice Xd10 (putF p0 cs1).1.drawn.length kd10), .int .i64 (putF p0 cs1).1.st] 27)) := (Below.refl _ _).alloc (Nat.le_refl _) _
  have bx := Blk.new w10 27 #[(.slice Xn10 (putF p0 cs1).1.nums.length kn10), (.slice Xd10 (putF p0 cs1).1.drawn.length kd10), .int .i64 (putF p0 cs1).1.st]
  generalize (w10.alloc (.cells #[(.slice Xn10 (putF p0 cs1).1.nums.length kn10), (.slice Xd10 (putF p0 cs1).1.drawn.length kd10), .int .i64 (putF p0 cs1).1.st] 27)) = w11 at *
  have z11 := hb11.size
  have hn0 := hn0.below hb11 (by omega)
  have hd0 := hd0.below hb11 (by omega)
  have h1 := h1.below hb11 (by omega)
  have o5n := o5n.below hb11 (by omega)
  have o5d := o5d.below hb11 (by omega)
  have o7n := o7n.below hb11
  have o7d := o7d.below hb11
  have o9 := o9.below hb11
  have o10n := o10n.below hb11
  have o10d := o10d.below hb11
  have bA0 := bA0.below' hb11
  have bW := bW.below' hb11
  have bX0 := bX0.below' hb11
  have B11 := Below.trans B10 (Below.mono hb11 (by omega))
  clear hb11
  clear B10
  have bG := bx
  clear bx
  refine (eqPool_any (.slice Xn10 (putF p0 cs1).1.nums.length kn10) (.slice Xd10 (putF p0 cs1).1.drawn.length kd10) (.slice Xn5 (putF p0 cs1).1.nums.length kn5) (.slice Xd5 (putF p0 cs1).1.drawn.length kd5) (putF p0 cs1).1.nums (putF p0 cs1).1.drawn (putF p0 cs1).1.nums (putF p0 cs1).1.drawn ((putF p0 cs1).1.st) ((putF p0 cs1).1.st) _ _ _ _ _ (OwI.rd (fun _ => rfl) o10n) (OwI.rd (fun _ => rfl) o10d) (o5n.more (Nat.le_refl _) (by omega)) (o5d.more (Nat.le_refl _) (by omega))).mono ?_
  rintro e w12 ⟨rfl, hb12⟩
  have z12 := hb12.size
  have hn0 := hn0.below hb12 (by omega)
  have hd0 := hd0.below hb12 (by omega)
  have h1 := h1.below hb12 (by omega)
  have o5n := o5n.below hb12 (by omega)
  have o5d := o5d.below hb12 (by omega)
  have o7n := o7n.below hb12
  have o7d := o7d.below hb12
  have o9 := o9.below hb12
  have o10n := o10n.below hb12
  have o10d := o10d.below hb12
  have bA0 := bA0.below' hb12
  have bW := bW.below' hb12
  have bX0 := bX0.below' hb12
  have bG := bG.below' hb12
  have B12 := Below.trans B11 (Below.mono hb12 (by omega))
  clear hb12
  clear B11
  have q_bA0_0 : w12.cell? ⟨w.heap.size, 0, none⟩ = some (vn0) := bA0.cell 0
  have q_bA0_1 : w12.cell? ⟨w.heap.size, 1, none⟩ = some (vd0) := bA0.cell 1
  have q_bA0_2 : w12.cell? ⟨w.heap.size, 2, none⟩ = some (.int .i64 p0.st) := bA0.cell 2
  have q_bW_0 : w12.cell? ⟨w5.heap.size, 0, none⟩ = some ((.slice Xn5 (putF p0 cs1).1.nums.length kn5)) := bW.cell 0
  have q_bW_1 : w12.cell? ⟨w5.heap.size, 1, none⟩ = some ((.slice Xd5 (putF p0 cs1).1.drawn.length kd5)) := bW.cell 1
  have q_bW_2 : w12.cell? ⟨w5.heap.size, 2, none⟩ = some (.int .i64 (putF p0 cs1).1.st) := bW.cell 2
  have q_bX0_0 : w12.cell? ⟨w7.heap.size, 0, none⟩ = some ((.slice Xn7 p0.nums.length kn7)) := bX0.cell 0
  have q_bX0_1 : w12.cell? ⟨w7.heap.size, 1, none⟩ = some ((.slice Xd7 p0.drawn.length kd7)) := bX0.cell 1
  have q_bX0_2 : w12.cell? ⟨w7.heap.size, 2, none⟩ = some (.int .i64 p0.st) := bX0.cell 2
  have q_bG_0 : w12.cell? ⟨w10.heap.size, 0, none⟩ = some ((.slice Xn10 (putF p0 cs1).1.nums.length kn10)) := bG.cell 0
  have q_bG_1 : w12.cell? ⟨w10.heap.size, 1, none⟩ = some ((.slice Xd10 (putF p0 cs1).1.drawn.length kd10)) := bG.cell 1
  have q_bG_2 : w12.cell? ⟨w10.heap.size, 2, none⟩ = some (.int .i64 (putF p0 cs1).1.st) := bG.cell 2
  go_wp2_with fail
  have hb13 : Below w12.heap.size w12 w12.drew := (Below.refl _ _).drew
  have z13 := hb13.size
  have hn0 := hn0.below hb13 (by omega)
  have hd0 := hd0.below hb13 (by omega)
  have h1 := h1.below hb13 (by omega)
  have o5n := o5n.below hb13 (by omega)
  have o5d := o5d.below hb13 (by omega)
  have o7n := o7n.below hb13
  have o7d := o7d.below hb13
  have o9 := o9.below hb13
  have o10n := o10n.below hb13
  have o10d := o10d.below hb13
  have bA0 := bA0.below' hb13
  have bW := bW.below' hb13
  have bX0 := bX0.below' hb13
  have bG := bG.below' hb13
  have B13 := Below.trans B12 (Below.mono hb13 (by omega))
  clear hb13
  clear B12
  go_region_held3 (fun w' => w'.cell? ⟨w.heap.size, 0, none⟩ = some (vn0) ∧ w'.cell? ⟨w.heap.size, 1, none⟩ = some (vd0) ∧ w'.cell? ⟨w.heap.size, 2, none⟩ = some (.int .i64 p0.st) ∧ w'.cell? ⟨w7.heap.size, 0, none⟩ = some ((.slice Xn7 p0.nums.length kn7)) ∧ w'.cell? ⟨w7.heap.size, 1, none⟩ = some ((.slice Xd7 p0.drawn.length kd7)) ∧ w'.cell? ⟨w7.heap.size, 2, none⟩ = some (.int .i64 p0.st)) (first | exact ⟨q_bA0_0, q_bA0_1, q_bA0_2, q_bX0_0, q_bX0_1, q_bX0_2⟩ | exact ⟨e0, e1, e2, e3, e4, e5⟩ | exact ⟨g0, g1, g2, g3, g4, g5⟩) (first | (go_at_call 14; refine (toPool_z vn0 vd0 p0 _ _ _ (hn0.more (Nat.le_refl _) (by omega)) (hd0.more (Nat.le_refl _) (by omega)) (by omega) (by omega)).mono ?_; rintro e w14 ⟨xn14, xd14, Q14, rfl, o14n, o14d, hQ14, hq14, hb14⟩; have e0 := (bA0.below' hb14).cell 0; have e1 := (bA0.below' hb14).cell 1; have e2 := (bA0.below' hb14).cell 2; have e3 := (bX0.below' hb14).cell 0; have e4 := (bX0.below' hb14).cell 1; have e5 := (bX0.below' hb14).cell 2) | (go_at_call 16; refine (eqPool_any _ _ _ _ p0.nums p0.drawn p0.nums p0.drawn p0.st p0.st _ _ _ _ _ (OwI.rd (fun _ => rfl) (o7n.below hb14)) (OwI.rd (fun _ => rfl) (o7d.below hb14)) (OwI.rd (fun _ => rfl) o14n) (OwI.rd (fun _ => rfl) o14d)).mono ?_; rintro e w15 ⟨rfl, hb15⟩; have g0 := ((bA0.below' hb14).below' hb15).cell 0; have g1 := ((bA0.below' hb14).below' hb15).cell 1; have g2 := ((bA0.below' hb14).below' hb15).cell 2; have g3 := ((bX0.below' hb14).below' hb15).cell 0; have g4 := ((bX0.below' hb14).below' hb15).cell 1; have g5 := ((bX0.below' hb14).below' hb15).cell 2))
  clear q_bA0_0 q_bA0_1 q_bA0_2 q_bW_0 q_bW_1 q_bW_2 q_bX0_0 q_bX0_1 q_bX0_2 q_bG_0 q_bG_1 q_bG_2
  have z14 := hb14.size
  have hn0 := hn0.below hb14 (by omega)
  have hd0 := hd0.below hb14 (by omega)
  have h1 := h1.below hb14 (by omega)
  have o5n := o5n.below hb14 (by omega)
  have o5d := o5d.below hb14 (by omega)
  have o7n := o7n.below hb14
  have o7d := o7d.below hb14
  have o9 := o9.below hb14
  have o10n := o10n.below hb14
  have o10d := o10d.below hb14
  have bA0 := bA0.below' hb14
  have bW := bW.below' hb14
  have bX0 := bX0.below' hb14
  have bG := bG.below' hb14
  have B14 := Below.trans B13 (Below.mono hb14 (by omega))
  clear hb14
  clear B13
  have z15 := hb15.size
  have hn0 := hn0.below hb15 (by omega)
  have hd0 := hd0.below hb15 (by omega)
  have h1 := h1.below hb15 (by omega)
  have o5n := o5n.below hb15 (by omega)
  have o5d := o5d.below hb15 (by omega)
  have o7n := o7n.below hb15
  have o7d := o7d.below hb15
  have o9 := o9.below hb15
  have o10n := o10n.below hb15
  have o10d := o10d.below hb15
  have bA0 := bA0.below' hb15
  have bW := bW.below' hb15
  have bX0 := bX0.below' hb15
  have bG := bG.below' hb15
  have B15 := Below.trans B14 (Below.mono hb15 (by omega))
  clear hb15
  clear B14
  have q_bA0_0 : w15.cell? ⟨w.heap.size, 0, none⟩ = some (vn0) := bA0.cell 0
  have q_bA0_1 : w15.cell? ⟨w.heap.size, 1, none⟩ = some (vd0) := bA0.cell 1
  have q_bA0_2 : w15.cell? ⟨w.heap.size, 2, none⟩ = some (.int .i64 p0.st) := bA0.cell 2
  have q_bW_0 : w15.cell? ⟨w5.heap.size, 0, none⟩ = some ((.slice Xn5 (putF p0 cs1).1.nums.length kn5)) := bW.cell 0
  have q_bW_1 : w15.cell? ⟨w5.heap.size, 1, none⟩ = some ((.slice Xd5 (putF p0 cs1).1.drawn.length kd5)) := bW.cell 1
  have q_bW_2 : w15.cell? ⟨w5.heap.size, 2, none⟩ = some (.int .i64 (putF p0 cs1).1.st) := bW.cell 2
  have q_bX0_0 : w15.cell? ⟨w7.heap.size, 0, none⟩ = some ((.slice Xn7 p0.nums.length kn7)) := bX0.cell 0
  have q_bX0_1 : w15.cell? ⟨w7.heap.size, 1, none⟩ = some ((.slice Xd7 p0.drawn.length kd7)) := bX0.cell 1
  have q_bX0_2 : w15.cell? ⟨w7.heap.size, 2, none⟩ = some (.int .i64 p0.st) := bX0.cell 2
  have q_bG_0 : w15.cell? ⟨w10.heap.size, 0, none⟩ = some ((.slice Xn10 (putF p0 cs1).1.nums.length kn10)) := bG.cell 0
  have q_bG_1 : w15.cell? ⟨w10.heap.size, 1, none⟩ = some ((.slice Xd10 (putF p0 cs1).1.drawn.length kd10)) := bG.cell 1
  have q_bG_2 : w15.cell? ⟨w10.heap.size, 2, none⟩ = some (.int .i64 (putF p0 cs1).1.st) := bG.cell 2
  go_wp2_with fail
  clear q_bA0_0 q_bA0_1 q_bA0_2 q_bW_0 q_bW_1 q_bW_2 q_bX0_0 q_bX0_1 q_bX0_2 q_bG_0 q_bG_1 q_bG_2
  refine (toInt64S_any (.slice A1 cs1.length c1) cs1 _ 0 (h1.more (Nat.le_refl _) (by omega)) hs1).mono ?_
  rintro e w16 ⟨x16, rfl, o16, hb16⟩
  have z16 := hb16.size
  have hn0 := hn0.below hb16 (by omega)
  have hd0 := hd0.below hb16 (by omega)
  have h1 := h1.below hb16 (by omega)
  have o5n := o5n.below hb16 (by omega)
  have o5d := o5d.below hb16 (by omega)
  have o7n := o7n.below hb16
  have o7d := o7d.below hb16
  have o9 := o9.below hb16
  have o10n := o10n.below hb16
  have o10d := o10d.below hb16
  have bA0 := bA0.below' hb16
  have bW := bW.below' hb16
  have bX0 := bX0.below' hb16
  have bG := bG.below' hb16
  have B16 := Below.trans B15 (Below.mono hb16 (by omega))
  clear hb16
  clear B15
  have o16 := OwI.of o16
  have q_bA0_0 : w16.cell? ⟨w.heap.size, 0, none⟩ = some (vn0) := bA0.cell 0
  have q_bA0_1 : w16.cell? ⟨w.heap.size, 1, none⟩ = some (vd0) := bA0.cell 1
  have q_bA0_2 : w16.cell? ⟨w.heap.size, 2, none⟩ = some (.int .i64 p0.st) := bA0.cell 2
  have q_bW_0 : w16.cell? ⟨w5.heap.size, 0, none⟩ = some ((.slice Xn5 (putF p0 cs1).1.nums.length kn5)) := bW.cell 0
  have q_bW_1 : w16.cell? ⟨w5.heap.size, 1, none⟩ = some ((.slice Xd5 (putF p0 cs1).1.drawn.length kd5)) := bW.cell 1
  have q_bW_2 : w16.cell? ⟨w5.heap.size, 2, none⟩ = some (.int .i64 (putF p0 cs1).1.st) := bW.cell 2
  have q_bX0_0 : w16.cell? ⟨w7.heap.size, 0, none⟩ = some ((.slice Xn7 p0.nums.length kn7)) := bX0.cell 0
  have q_bX0_1 : w16.cell? ⟨w7.heap.size, 1, none⟩ = some ((.slice Xd7 p0.drawn.length kd7)) := bX0.cell 1
  have q_bX0_2 : w16.cell? ⟨w7.heap.size, 2, none⟩ = some (.int .i64 p0.st) := bX0.cell 2
  have q_bG_0 : w16.cell? ⟨w10.heap.size, 0, none⟩ = some ((.slice Xn10 (putF p0 cs1).1.nums.length kn10)) := bG.cell 0
  have q_bG_1 : w16.cell? ⟨w10.heap.size, 1, none⟩ = some ((.slice Xd10 (putF p0 cs1).1.drawn.length kd10)) := bG.cell 1
  have q_bG_2 : w16.cell? ⟨w10.heap.size, 2, none⟩ = some (.int .i64 (putF p0 cs1).1.st) := bG.cell 2
  go_wp2_with fail
  clear q_bA0_0 q_bA0_1 q_bA0_2 q_bW_0 q_bW_1 q_bW_2 q_bX0_0 q_bX0_1 q_bX0_2 q_bG_0 q_bG_1 q_bG_2
  refine (eqInt64S_any x9 x16 cs1 cs1 _ _ _ (OwI.rd (fun _ => rfl) o9) (OwI.rd (fun _ => rfl) o16)).mono ?_
  rintro e w17 ⟨rfl, hb17⟩
  have z17 := hb17.size
  have hn0 := hn0.below hb17 (by omega)
  have hd0 := hd0.below hb17 (by omega)
  have h1 := h1.below hb17 (by omega)
  have o5n := o5n.below hb17 (by omega)
  have o5d := o5d.below hb17 (by omega)
  have o7n := o7n.below hb17
  have o7d := o7d.below hb17
  have o9 := o9.below hb17
  have o10n := o10n.below hb17
  have o10d := o10d.below hb17
  have o16 := o16.below hb17
  have bA0 := bA0.below' hb17
  have bW := bW.below' hb17
  have bX0 := bX0.below' hb17
  have bG := bG.below' hb17
  have B17 := Below.trans B16 (Below.mono hb17 (by omega))
  clear hb17
  clear B16
  clear o16
  have q_bA0_0 : w17.cell? ⟨w.heap.size, 0, none⟩ = some (vn0) := bA0.cell 0
  have q_bA0_1 : w17.cell? ⟨w.heap.size, 1, none⟩ = some (vd0) := bA0.cell 1
  have q_bA0_2 : w17.cell? ⟨w.heap.size, 2, none⟩ = some (.int .i64 p0.st) := bA0.cell 2
  have q_bW_0 : w17.cell? ⟨w5.heap.size, 0, none⟩ = some ((.slice Xn5 (putF p0 cs1).1.nums.length kn5)) := bW.cell 0
  have q_bW_1 : w17.cell? ⟨w5.heap.size, 1, none⟩ = some ((.slice Xd5 (putF p0 cs1).1.drawn.length kd5)) := bW.cell 1
  have q_bW_2 : w17.cell? ⟨w5.heap.size, 2, none⟩ = some (.int .i64 (putF p0 cs1).1.st) := bW.cell 2
  have q_bX0_0 : w17.cell? ⟨w7.heap.size, 0, none⟩ = some ((.slice Xn7 p0.nums.length kn7)) := bX0.cell 0
  have q_bX0_1 : w17.cell? ⟨w7.heap.size, 1, none⟩ = some ((.slice Xd7 p0.drawn.length kd7)) := bX0.cell 1
  have q_bX0_2 : w17.cell? ⟨w7.heap.size, 2, none⟩ = some (.int .i64 p0.st) := bX0.cell 2
  have q_bG_0 : w17.cell? ⟨w10.heap.size, 0, none⟩ = some ((.slice Xn10 (putF p0 cs1).1.nums.length kn10)) := bG.cell 0
  have q_bG_1 : w17.cell? ⟨w10.heap.size, 1, none⟩ = some ((.slice Xd10 (putF p0 cs1).1.drawn.length kd10)) := bG.cell 1
  have q_bG_2 : w17.cell? ⟨w10.heap.size, 2, none⟩ = some (.int .i64 (putF p0 cs1).1.st) := bG.cell 2
  go_wp2_with fail
  clear q_bA0_0 q_bA0_1 q_bA0_2 q_bW_0 q_bW_1 q_bW_2 q_bX0_0 q_bX0_1 q_bX0_2 q_bG_0 q_bG_1 q_bG_2
  refine (markPool_any (.slice Xn7 p0.nums.length kn7) (.slice Xd7 p0.drawn.length kd7) p0.nums p0.drawn (p0.st) 1 _ _ _ _ o7n o7d (by omega) (by omega) (by omega) (by omega) (by omega) (by omega) (by omega)).mono ?_
  rintro e w18 ⟨rfl, m18n, m18d, hc18⟩
  clear o7n o7d
  have z18 := hc18.size
  have hn0 := hn0.chg hc18 (by omega) (by omega)
  have hd0 := hd0.chg hc18 (by omega) (by omega)
  have h1 := h1.chg hc18 (by omega) (by omega)
  have o5n := o5n.chg hc18 (by omega) (by omega)
  have o5d := o5d.chg hc18 (by omega) (by omega)
  have o9 := o9.chg hc18 (by omega)
  have o10n := o10n.chg hc18 (by omega)
  have o10d := o10d.chg hc18 (by omega)
  have bA0 := hc18.blk bA0 (by omega)
  have bW := hc18.blk bW (by omega)
  have bX0 := hc18.blk bX0 (by omega)
  have bG := hc18.blk bG (by omega)
  have B18 := Chg.below B17 hc18 (by omega) (by omega)
  clear hc18
  clear B17
  have q_bA0_0 : w18.cell? ⟨w.heap.size, 0, none⟩ = some (vn0) := bA0.cell 0
  have q_bA0_1 : w18.cell? ⟨w.heap.size, 1, none⟩ = some (vd0) := bA0.cell 1
  have q_bA0_2 : w18.cell? ⟨w.heap.size, 2, none⟩ = some (.int .i64 p0.st) := bA0.cell 2
  have q_bW_0 : w18.cell? ⟨w5.heap.size, 0, none⟩ = some ((.slice Xn5 (putF p0 cs1).1.nums.length kn5)) := bW.cell 0
  have q_bW_1 : w18.cell? ⟨w5.heap.size, 1, none⟩ = some ((.slice Xd5 (putF p0 cs1).1.drawn.length kd5)) := bW.cell 1
  have q_bW_2 : w18.cell? ⟨w5.heap.size, 2, none⟩ = some (.int .i64 (putF p0 cs1).1.st) := bW.cell 2
  have q_bX0_0 : w18.cell? ⟨w7.heap.size, 0, none⟩ = some ((.slice Xn7 p0.nums.length kn7)) := bX0.cell 0
  have q_bX0_1 : w18.cell? ⟨w7.heap.size, 1, none⟩ = some ((.slice Xd7 p0.drawn.length kd7)) := bX0.cell 1
  have q_bX0_2 : w18.cell? ⟨w7.heap.size, 2, none⟩ = some (.int .i64 p0.st) := bX0.cell 2
  have q_bG_0 : w18.cell? ⟨w10.heap.size, 0, none⟩ = some ((.slice Xn10 (putF p0 cs1).1.nums.length kn10)) := bG.cell 0
  have q_bG_1 : w18.cell? ⟨w10.heap.size, 1, none⟩ = some ((.slice Xd10 (putF p0 cs1).1.drawn.length kd10)) := bG.cell 1
  have q_bG_2 : w18.cell? ⟨w10.heap.size, 2, none⟩ = some (.int .i64 (putF p0 cs1).1.st) := bG.cell 2
  go_wp2_with fail
  clear q_bA0_0 q_bA0_1 q_bA0_2 q_bW_0 q_bW_1 q_bW_2 q_bX0_0 q_bX0_1 q_bX0_2 q_bG_0 q_bG_1 q_bG_2
  have in19 := Lib.hid o9.in_
  refine (markInt64S_any x9 _ _ (1 + (p0.nums.length : Int) + (p0.drawn.length : Int)) _ _ (OwnR.own o9.own) (by omega) (by omega) (by omega)).mono ?_
  rintro e w19 ⟨rfl, m19, hg19⟩
  have hc19 := Chg.of_grown hg19 in19.out
  clear hg19 o9
  have z19 := hc19.size
  have hn0 := hn0.chg hc19 (by omega) (by omega)
  have hd0 := hd0.chg hc19 (by omega) (by omega)
  have h1 := h1.chg hc19 (by omega) (by omega)
  have o5n := o5n.chg hc19 (by omega) (by omega)
  have o5d := o5d.chg hc19 (by omega) (by omega)
  have o10n := o10n.chg hc19 (by omega)
  have o10d := o10d.chg hc19 (by omega)
  have m18n := m18n.chg hc19 (by omega)
  have m18d := m18d.chg hc19 (by omega)
  have bA0 := hc19.blk bA0 (by omega)
  have bW := hc19.blk bW (by omega)
  have bX0 := hc19.blk bX0 (by omega)
  have bG := hc19.blk bG (by omega)
  have B19 := Chg.below B18 hc19 (by omega) (by omega)
  clear hc19
  clear B18
  have m19 : OwI _ _ _ _ _ _ _ _ := ⟨m19, fun g hg => (in19.out g hg).2⟩
  clear m18n
  clear m18d
  clear bX0
  clear m19
  have q_bA0_0 : w19.cell? ⟨w.heap.size, 0, none⟩ = some (vn0) := bA0.cell 0
  have q_bA0_1 : w19.cell? ⟨w.heap.size, 1, none⟩ = some (vd0) := bA0.cell 1
  have q_bA0_2 : w19.cell? ⟨w.heap.size, 2, none⟩ = some (.int .i64 p0.st) := bA0.cell 2
  have q_bW_0 : w19.cell? ⟨w5.heap.size, 0, none⟩ = some ((.slice Xn5 (putF p0 cs1).1.nums.length kn5)) := bW.cell 0
  have q_bW_1 : w19.cell? ⟨w5.heap.size, 1, none⟩ = some ((.slice Xd5 (putF p0 cs1).1.drawn.length kd5)) := bW.cell 1
  have q_bW_2 : w19.cell? ⟨w5.heap.size, 2, none⟩ = some (.int .i64 (putF p0 cs1).1.st) := bW.cell 2
  have q_bG_0 : w19.cell? ⟨w10.heap.size, 0, none⟩ = some ((.slice Xn10 (putF p0 cs1).1.nums.length kn10)) := bG.cell 0
  have q_bG_1 : w19.cell? ⟨w10.heap.size, 1, none⟩ = some ((.slice Xd10 (putF p0 cs1).1.drawn.length kd10)) := bG.cell 1
  have q_bG_2 : w19.cell? ⟨w10.heap.size, 2, none⟩ = some (.int .i64 (putF p0 cs1).1.st) := bG.cell 2
  go_wp2_with fail
  clear q_bA0_0 q_bA0_1 q_bA0_2 q_bW_0 q_bW_1 q_bW_2 q_bG_0 q_bG_1 q_bG_2
  refine (eqPool_any (.slice Xn10 (putF p0 cs1).1.nums.length kn10) (.slice Xd10 (putF p0 cs1).1.drawn.length kd10) (.slice Xn5 (putF p0 cs1).1.nums.length kn5) (.slice Xd5 (putF p0 cs1).1.drawn.length kd5) (putF p0 cs1).1.nums (putF p0 cs1).1.drawn (putF p0 cs1).1.nums (putF p0 cs1).1.drawn ((putF p0 cs1).1.st) ((putF p0 cs1).1.st) _ _ _ _ _ (OwI.rd (fun _ => rfl) o10n) (OwI.rd (fun _ => rfl) o10d) (o5n.more (Nat.le_refl _) (by omega)) (o5d.more (Nat.le_refl _) (by omega))).mono ?_
  rintro e w20 ⟨rfl, hb20⟩
  have z20 := hb20.size
  have hn0 := hn0.below hb20 (by omega)
  have hd0 := hd0.below hb20 (by omega)
  have h1 := h1.below hb20 (by omega)
  have o5n := o5n.below hb20 (by omega)
  have o5d := o5d.below hb20 (by omega)
  have o10n := o10n.below hb20
  have o10d := o10d.below hb20
  have bA0 := bA0.below' hb20
  have bW := bW.below' hb20
  have bG := bG.below' hb20
  have B20 := Below.trans B19 (Below.mono hb20 (by omega))
  clear hb20
  clear B19
  have q_bA0_0 : w20.cell? ⟨w.heap.size, 0, none⟩ = some (vn0) := bA0.cell 0
  have q_bA0_1 : w20.cell? ⟨w.heap.size, 1, none⟩ = some (vd0) := bA0.cell 1
  have q_bA0_2 : w20.cell? ⟨w.heap.size, 2, none⟩ = some (.int .i64 p0.st) := bA0.cell 2
  have q_bW_0 : w20.cell? ⟨w5.heap.size, 0, none⟩ = some ((.slice Xn5 (putF p0 cs1).1.nums.length kn5)) := bW.cell 0
  have q_bW_1 : w20.cell? ⟨w5.heap.size, 1, none⟩ = some ((.slice Xd5 (putF p0 cs1).1.drawn.length kd5)) := bW.cell 1
  have q_bW_2 : w20.cell? ⟨w5.heap.size, 2, none⟩ = some (.int .i64 (putF p0 cs1).1.st) := bW.cell 2
  have q_bG_0 : w20.cell? ⟨w10.heap.size, 0, none⟩ = some ((.slice Xn10 (putF p0 cs1).1.nums.length kn10)) := bG.cell 0
  have q_bG_1 : w20.cell? ⟨w10.heap.size, 1, none⟩ = some ((.slice Xd10 (putF p0 cs1).1.drawn.length kd10)) := bG.cell 1
  have q_bG_2 : w20.cell? ⟨w10.heap.size, 2, none⟩ = some (.int .i64 (putF p0 cs1).1.st) := bG.cell 2
  go_wp2_with fail
  clear q_bA0_0 q_bA0_1 q_bA0_2 q_bW_0 q_bW_1 q_bW_2 q_bG_0 q_bG_1 q_bG_2
  refine (markPool_any (.slice Xn10 (putF p0 cs1).1.nums.length kn10) (.slice Xd10 (putF p0 cs1).1.drawn.length kd10) (putF p0 cs1).1.nums (putF p0 cs1).1.drawn ((putF p0 cs1).1.st) 1 _ _ _ _ o10n o10d (by omega) (by omega) (by omega) (by omega) (by omega) (by omega) (by omega)).mono ?_
  rintro e w21 ⟨rfl, m21n, m21d, hc21⟩
  clear o10n o10d
  have z21 := hc21.size
  have hn0 := hn0.chg hc21 (by omega) (by omega)
  have hd0 := hd0.chg hc21 (by omega) (by omega)
  have h1 := h1.chg hc21 (by omega) (by omega)
  have o5n := o5n.chg hc21 (by omega) (by omega)
  have o5d := o5d.chg hc21 (by omega) (by omega)
  have bA0 := hc21.blk bA0 (by omega)
  have bW := hc21.blk bW (by omega)
  have bG := hc21.blk bG (by omega)
  have B21 := Chg.below B20 hc21 (by omega) (by omega)
  clear hc21
  clear B20
  have q_bA0_0 : w21.cell? ⟨w.heap.size, 0, none⟩ = some (vn0) := bA0.cell 0
  have q_bA0_1 : w21.cell? ⟨w.heap.size, 1, none⟩ = some (vd0) := bA0.cell 1
  have q_bA0_2 : w21.cell? ⟨w.heap.size, 2, none⟩ = some (.int .i64 p0.st) := bA0.cell 2
  have q_bW_0 : w21.cell? ⟨w5.heap.size, 0, none⟩ = some ((.slice Xn5 (putF p0 cs1).1.nums.length kn5)) := bW.cell 0
  have q_bW_1 : w21.cell? ⟨w5.heap.size, 1, none⟩ = some ((.slice Xd5 (putF p0 cs1).1.drawn.length kd5)) := bW.cell 1
  have q_bW_2 : w21.cell? ⟨w5.heap.size, 2, none⟩ = some (.int .i64 (putF p0 cs1).1.st) := bW.cell 2
  have q_bG_0 : w21.cell? ⟨w10.heap.size, 0, none⟩ = some ((.slice Xn10 (putF p0 cs1).1.nums.length kn10)) := bG.cell 0
  have q_bG_1 : w21.cell? ⟨w10.heap.size, 1, none⟩ = some ((.slice Xd10 (putF p0 cs1).1.drawn.length kd10)) := bG.cell 1
  have q_bG_2 : w21.cell? ⟨w10.heap.size, 2, none⟩ = some (.int .i64 (putF p0 cs1).1.st) := bG.cell 2
  go_wp2_with fail
  clear q_bA0_0 q_bA0_1 q_bA0_2 q_bW_0 q_bW_1 q_bW_2 q_bG_0 q_bG_1 q_bG_2
  refine (heldPool_any (.slice Xn10 (putF p0 cs1).1.nums.length kn10) (.slice Xd10 (putF p0 cs1).1.drawn.length kd10) (putF p0 cs1).1.nums.length (putF p0 cs1).1.drawn.length ((putF p0 cs1).1.st) 1 _ _ _ (OwI.rd (fun _ => rfl) m21n) (OwI.rd (fun _ => rfl) m21d) (by omega) (by omega) (by omega) (by omega)).mono ?_
  rintro e w22 ⟨rfl, hb22⟩
  have z22 := hb22.size
  have hn0 := hn0.below hb22 (by omega)
  have hd0 := hd0.below hb22 (by omega)
  have h1 := h1.below hb22 (by omega)
  have o5n := o5n.below hb22 (by omega)
  have o5d := o5d.below hb22 (by omega)
  have m21n := m21n.below hb22
  have m21d := m21d.below hb22
  have bA0 := bA0.below' hb22
  have bW := bW.below' hb22
  have bG := bG.below' hb22
  have B22 := Below.trans B21 (Below.mono hb22 (by omega))
  clear hb22
  clear B21
  have q_bA0_0 : w22.cell? ⟨w.heap.size, 0, none⟩ = some (vn0) := bA0.cell 0
  have q_bA0_1 : w22.cell? ⟨w.heap.size, 1, none⟩ = some (vd0) := bA0.cell 1
  have q_bA0_2 : w22.cell? ⟨w.heap.size, 2, none⟩ = some (.int .i64 p0.st) := bA0.cell 2
  have q_bW_0 : w22.cell? ⟨w5.heap.size, 0, none⟩ = some ((.slice Xn5 (putF p0 cs1).1.nums.length kn5)) := bW.cell 0
  have q_bW_1 : w22.cell? ⟨w5.heap.size, 1, none⟩ = some ((.slice Xd5 (putF p0 cs1).1.drawn.length kd5)) := bW.cell 1
  have q_bW_2 : w22.cell? ⟨w5.heap.size, 2, none⟩ = some (.int .i64 (putF p0 cs1).1.st) := bW.cell 2
  have q_bG_0 : w22.cell? ⟨w10.heap.size, 0, none⟩ = some ((.slice Xn10 (putF p0 cs1).1.nums.length kn10)) := bG.cell 0
  have q_bG_1 : w22.cell? ⟨w10.heap.size, 1, none⟩ = some ((.slice Xd10 (putF p0 cs1).1.drawn.length kd10)) := bG.cell 1
  have q_bG_2 : w22.cell? ⟨w10.heap.size, 2, none⟩ = some (.int .i64 (putF p0 cs1).1.st) := bG.cell 2
  go_wp2_with fail
  clear q_bA0_0 q_bA0_1 q_bA0_2 q_bW_0 q_bW_1 q_bW_2 q_bG_0 q_bG_1 q_bG_2
  refine (toPool_z vn0 vd0 p0 _ _ _ (hn0.more (Nat.le_refl _) (by omega)) (hd0.more (Nat.le_refl _) (by omega)) (by omega) (by omega)).mono ?_
  rintro e w23 ⟨xn23, xd23, Q23, rfl, o23n, o23d, hQ23, hq23, hb23⟩
  have z23 := hb23.size
  have hn0 := hn0.below hb23 (by omega)
  have hd0 := hd0.below hb23 (by omega)
  have h1 := h1.below hb23 (by omega)
  have o5n := o5n.below hb23 (by omega)
  have o5d := o5d.below hb23 (by omega)
  have m21n := m21n.below hb23
  have m21d := m21d.below hb23
  have bA0 := bA0.below' hb23
  have bW := bW.below' hb23
  have bG := bG.below' hb23
  have B23 := Below.trans B22 (Below.mono hb23 (by omega))
  clear hb23
  clear B22
  obtain ⟨Xn23, kn23, rfl, _, _⟩ := o23n.form
  obtain ⟨Xd23, kd23, rfl, _, _⟩ := o23d.form
  have q_bA0_0 : w23.cell? ⟨w.heap.size, 0, none⟩ = some (vn0) := bA0.cell 0
  have q_bA0_1 : w23.cell? ⟨w.heap.size, 1, none⟩ = some (vd0) := bA0.cell 1
  have q_bA0_2 : w23.cell? ⟨w.heap.size, 2, none⟩ = some (.int .i64 p0.st) := bA0.cell 2
  have q_bW_0 : w23.cell? ⟨w5.heap.size, 0, none⟩ = some ((.slice Xn5 (putF p0 cs1).1.nums.length kn5)) := bW.cell 0
  have q_bW_1 : w23.cell? ⟨w5.heap.size, 1, none⟩ = some ((.slice Xd5 (putF p0 cs1).1.drawn.length kd5)) := bW.cell 1
  have q_bW_2 : w23.cell? ⟨w5.heap.size, 2, none⟩ = some (.int .i64 (putF p0 cs1).1.st) := bW.cell 2
  have q_bG_0 : w23.cell? ⟨w10.heap.size, 0, none⟩ = some ((.slice Xn10 (putF p0 cs1).1.nums.length kn10)) := bG.cell 0
  have q_bG_1 : w23.cell? ⟨w10.heap.size, 1, none⟩ = some ((.slice Xd10 (putF p0 cs1).1.drawn.length kd10)) := bG.cell 1
  have q_bG_2 : w23.cell? ⟨w10.heap.size, 2, none⟩ = some (.int .i64 (putF p0 cs1).1.st) := bG.cell 2
  go_wp2_with fail
  clear q_bA0_0 q_bA0_1 q_bA0_2 q_bW_0 q_bW_1 q_bW_2 q_bG_0 q_bG_1 q_bG_2
  refine (toInt64S_any (.slice A1 cs1.length c1) cs1 _ 0 (h1.more (Nat.le_refl _) (by omega)) hs1).mono ?_
  rintro e w24 ⟨x24, rfl, o24, hb24⟩
  have z24 := hb24.size
  have hn0 := hn0.below hb24 (by omega)
  have hd0 := hd0.below hb24 (by omega)
  have h1 := h1.below hb24 (by omega)
  have o5n := o5n.below hb24 (by omega)
  have o5d := o5d.below hb24 (by omega)
  have m21n := m21n.below hb24
  have m21d := m21d.below hb24
  have o23n := o23n.below hb24
  have o23d := o23d.below hb24
  have bA0 := bA0.below' hb24
  have bW := bW.below' hb24
  have bG := bG.below' hb24
  have B24 := Below.trans B23 (Below.mono hb24 (by omega))
  clear hb24
  clear B23
  have o24 := OwI.of o24
  have q_bA0_0 : w24.cell? ⟨w.heap.size, 0, none⟩ = some (vn0) := bA0.cell 0
  have q_bA0_1 : w24.cell? ⟨w.heap.size, 1, none⟩ = some (vd0) := bA0.cell 1
  have q_bA0_2 : w24.cell? ⟨w.heap.size, 2, none⟩ = some (.int .i64 p0.st) := bA0.cell 2
  have q_bW_0 : w24.cell? ⟨w5.heap.size, 0, none⟩ = some ((.slice Xn5 (putF p0 cs1).1.nums.length kn5)) := bW.cell 0
  have q_bW_1 : w24.cell? ⟨w5.heap.size, 1, none⟩ = some ((.slice Xd5 (putF p0 cs1).1.drawn.length kd5)) := bW.cell 1
  have q_bW_2 : w24.cell? ⟨w5.heap.size, 2, none⟩ = some (.int .i64 (putF p0 cs1).1.st) := bW.cell 2
  have q_bG_0 : w24.cell? ⟨w10.heap.size, 0, none⟩ = some ((.slice Xn10 (putF p0 cs1).1.nums.length kn10)) := bG.cell 0
  have q_bG_1 : w24.cell? ⟨w10.heap.size, 1, none⟩ = some ((.slice Xd10 (putF p0 cs1).1.drawn.length kd10)) := bG.cell 1
  have q_bG_2 : w24.cell? ⟨w10.heap.size, 2, none⟩ = some (.int .i64 (putF p0 cs1).1.st) := bG.cell 2
  go_wp2_with fail
  clear q_bA0_0 q_bA0_1 q_bA0_2 q_bW_0 q_bW_1 q_bW_2 q_bG_0 q_bG_1 q_bG_2
  refine (implPutBack_any (.slice Xn23 p0.nums.length kn23) (.slice Xd23 p0.drawn.length kd23) p0 x24 cs1 _ _ _ _ (OwI.rd (fun _ => rfl) o23n) (OwI.rd (fun _ => rfl) o23d) (OwI.rd (fun _ => rfl) o24) (by omega) (by omega)).mono ?_
  rintro e w25 ⟨xn25, xd25, Q25, rfl, o25n, o25d, hQ25, hq25, hb25⟩
  have z25 := hb25.size
  have hn0 := hn0.below hb25 (by omega)
  have hd0 := hd0.below hb25 (by omega)
  have h1 := h1.below hb25 (by omega)
  have o5n := o5n.below hb25 (by omega)
  have o5d := o5d.below hb25 (by omega)
  have m21n := m21n.below hb25
  have m21d := m21d.below hb25
  have o23n := o23n.below hb25
  have o23d := o23d.below hb25
  have o24 := o24.below hb25
  have bA0 := bA0.below' hb25
  have bW := bW.below' hb25
  have bG := bG.below' hb25
  have B25 := Below.trans B24 (Below.mono hb25 (by omega))
  clear hb25
  clear B24
  obtain ⟨Xn25, kn25, rfl, _, _⟩ := o25n.form
  obtain ⟨Xd25, kd25, rfl, _, _⟩ := o25d.form
  have q_bA0_0 : w25.cell? ⟨w.heap.size, 0, none⟩ = some (vn0) := bA0.cell 0
  have q_bA0_1 : w25.cell? ⟨w.heap.size, 1, none⟩ = some (vd0) := bA0.cell 1
  have q_bA0_2 : w25.cell? ⟨w.heap.size, 2, none⟩ = some (.int .i64 p0.st) := bA0.cell 2
  have q_bW_0 : w25.cell? ⟨w5.heap.size, 0, none⟩ = some ((.slice Xn5 (putF p0 cs1).1.nums.length kn5)) := bW.cell 0
  have q_bW_1 : w25.cell? ⟨w5.heap.size, 1, none⟩ = some ((.slice Xd5 (putF p0 cs1).1.drawn.length kd5)) := bW.cell 1
  have q_bW_2 : w25.cell? ⟨w5.heap.size, 2, none⟩ = some (.int .i64 (putF p0 cs1).1.st) := bW.cell 2
  have q_bG_0 : w25.cell? ⟨w10.heap.size, 0, none⟩ = some ((.slice Xn10 (putF p0 cs1).1.nums.length kn10)) := bG.cell 0
  have q_bG_1 : w25.cell? ⟨w10.heap.size, 1, none⟩ = some ((.slice Xd10 (putF p0 cs1).1.drawn.length kd10)) := bG.cell 1
  have q_bG_2 : w25.cell? ⟨w10.heap.size, 2, none⟩ = some (.int .i64 (putF p0 cs1).1.st) := bG.cell 2
  have qa_bA0_0 : (w25.alloc (.cells #[(.slice Xn25 (putF p0 cs1).1.nums.length kn25), (.slice Xd25 (putF p0 cs1).1.drawn.length kd25), .int .i64 (putF p0 cs1).1.st] 27)).cell? ⟨w.heap.size, 0, none⟩ = some (vn0) := (bA0.alloc _).cell 0
  have qa_bA0_1 : (w25.alloc (.cells #[(.slice Xn25 (putF p0 cs1).1.nums.length kn25), (.slice Xd25 (putF p0 cs1).1.drawn.length kd25), .int .i64 (putF p0 cs1).1.st] 27)).cell? ⟨w.heap.size, 1, none⟩ = some (vd0) := (bA0.alloc _).cell 1
  have qa_bA0_2 : (w25.alloc (.cells #[(.slice Xn25 (putF p0 cs1).1.nums.length kn25), (.slice Xd25 (putF p0 cs1).1.drawn.length kd25), .int .i64 (putF p0 cs1).1.st] 27)).cell? ⟨w.heap.size, 2, none⟩ = some (.int .i64 p0.st) := (bA0.alloc _).cell 2
  have qa_bW_0 : (w25.alloc (.cells #[(.slice Xn25 (putF p0 cs1).1.nums.length kn25), (.slice Xd25 (putF p0 cs1).1.drawn.length kd25), .int .i64 (putF p0 cs1).1.st] 27)).cell? ⟨w5.heap.size, 0, none⟩ = some ((.slice Xn5 (putF p0 cs1).1.nums.length kn5)) := (bW.alloc _).cell 0
  have qa_bW_1 : (w25.alloc (.cells #[(.slice Xn25 (putF p0 cs1).1.nums.length kn25), (.slice Xd25 (putF p0 cs1).1.drawn.length kd25), .int .i64 (putF p0 cs1).1.st] 27)).cell? ⟨w5.heap.size, 1, none⟩ = some ((.slice Xd5 (putF p0 cs1).1.drawn.length kd5)) := (bW.alloc _).cell 1
  have qa_bW_2 : (w25.alloc (.cells #[(.slice Xn25 (putF p0 cs1).1.nums.length kn25), (.slice Xd25 (putF p0 cs1).1.drawn.length kd25), .int .i64 (putF p0 cs1).1.st] 27)).cell? ⟨w5.heap.size, 2, none⟩ = some (.int .i64 (putF p0 cs1).1.st) := (bW.alloc _).cell 2
  have qa_bG_0 : (w25.alloc (.cells #[(.slice Xn25 (putF p0 cs1).1.nums.length kn25), (.slice Xd25 (putF p0 cs1).1.drawn.length kd25), .int .i64 (putF p0 cs1).1.st] 27)).cell? ⟨w10.heap.size, 0, none⟩ = some ((.slice Xn10 (putF p0 cs1).1.nums.length kn10)) := (bG.alloc _).cell 0
  have qa_bG_1 : (w25.alloc (.cells #[(.slice Xn25 (putF p0 cs1).1.nums.length kn25), (.slice Xd25 (putF p0 cs1).1.drawn.length kd25), .int .i64 (putF p0 cs1).1.st] 27)).cell? ⟨w10.heap.size, 1, none⟩ = some ((.slice Xd10 (putF p0 cs1).1.drawn.length kd10)) := (bG.alloc _).cell 1
  have qa_bG_2 : (w25.alloc (.cells #[(.slice Xn25 (putF p0 cs1).1.nums.length kn25), (.slice Xd25 (putF p0 cs1).1.drawn.length kd25), .int .i64 (putF p0 cs1).1.st] 27)).cell? ⟨w10.heap.size, 2, none⟩ = some (.int .i64 (putF p0 cs1).1.st) := (bG.alloc _).cell 2
  go_wp2_with fail
  clear q_bA0_0 q_bA0_1 q_bA0_2 q_bW_0 q_bW_1 q_bW_2 q_bG_0 q_bG_1 q_bG_2 qa_bA0_0 qa_bA0_1 qa_bA0_2 qa_bW_0 qa_bW_1 qa_bW_2 qa_bG_0 qa_bG_1 qa_bG_2
  have hz26 : (w25.alloc (.cells #[(.slice Xn25 (putF p0 cs1).1.nums.length kn25), (.slice Xd25 (putF p0 cs1).1.drawn.length kd25), .int .i64 (putF p0 cs1).1.st] 27)).heap.size = w25.heap.size + 1 := by simp
  have hb26 : Below w25.heap.size w25 (w25.alloc (.cells #[(.slice Xn25 (putF p0 cs1).1.nums.length kn25), (.slice Xd25 (putF p0 cs1).1.drawn.length kd25), .int .i64 (putF p0 cs1).1.st] 27)) := (Below.refl _ _).alloc (Nat.le_refl _) _
  have bx := Blk.new w25 27 #[(.slice Xn25 (putF p0 cs1).1.nums.length kn25), (.slice Xd25 (putF p0 cs1).1.drawn.length kd25), .int .i64 (putF p0 cs1).1.st]
  generalize (w25.alloc (.cells #[(.slice Xn25 (putF p0 cs1).1.nums.length kn25), (.slice Xd25 (putF p0 cs1).1.drawn.length kd25), .int .i64 (putF p0 cs1).1.st] 27)) = w26 at *
  have z26 := hb26.size
  have hn0 := hn0.below hb26 (by omega)
  have hd0 := hd0.below hb26 (by omega)
  have h1 := h1.below hb26 (by omega)
  have o5n := o5n.below hb26 (by omega)
  have o5d := o5d.below hb26 (by omega)
  have m21n := m21n.below hb26
  have m21d := m21d.below hb26
  have o23n := o23n.below hb26
  have o23d := o23d.below hb26
  have o24 := o24.below hb26
  have o25n := o25n.below hb26
  have o25d := o25d.below hb26
  have bA0 := bA0.below' hb26
  have bW := bW.below' hb26
  have bG := bG.below' hb26
  have B26 := Below.trans B25 (Below.mono hb26 (by omega))
  clear hb26
  clear B25
  have bH := bx
  clear bx
  refine (eqPool_any (.slice Xn25 (putF p0 cs1).1.nums.length kn25) (.slice Xd25 (putF p0 cs1).1.drawn.length kd25) (.slice Xn5 (putF p0 cs1).1.nums.length kn5) (.slice Xd5 (putF p0 cs1).1.drawn.length kd5) (putF p0 cs1).1.nums (putF p0 cs1).1.drawn (putF p0 cs1).1.nums (putF p0 cs1).1.drawn ((putF p0 cs1).1.st) ((putF p0 cs1).1.st) _ _ _ _ _ (OwI.rd (fun _ => rfl) o25n) (OwI.rd (fun _ => rfl) o25d) (o5n.more (Nat.le_refl _) (by omega)) (o5d.more (Nat.le_refl _) (by omega))).mono ?_
  rintro e w27 ⟨rfl, hb27⟩
  have z27 := hb27.size
  have hn0 := hn0.below hb27 (by omega)
  have hd0 := hd0.below hb27 (by omega)
  have h1 := h1.below hb27 (by omega)
  have o5n := o5n.below hb27 (by omega)
  have o5d := o5d.below hb27 (by omega)
  have m21n := m21n.below hb27
  have m21d := m21d.below hb27
  have o23n := o23n.below hb27
  have o23d := o23d.below hb27
  have o24 := o24.below hb27
  have o25n := o25n.below hb27
  have o25d := o25d.below hb27
  have bA0 := bA0.below' hb27
  have bW := bW.below' hb27
  have bG := bG.below' hb27
  have bH := bH.below' hb27
  have B27 := Below.trans B26 (Below.mono hb27 (by omega))
  clear hb27
  clear B26
  have q_bA0_0 : w27.cell? ⟨w.heap.size, 0, none⟩ = some (vn0) := bA0.cell 0
  have q_bA0_1 : w27.cell? ⟨w.heap.size, 1, none⟩ = some (vd0) := bA0.cell 1
  have q_bA0_2 : w27.cell? ⟨w.heap.size, 2, none⟩ = some (.int .i64 p0.st) := bA0.cell 2
  have q_bW_0 : w27.cell? ⟨w5.heap.size, 0, none⟩ = some ((.slice Xn5 (putF p0 cs1).1.nums.length kn5)) := bW.cell 0
  have q_bW_1 : w27.cell? ⟨w5.heap.size, 1, none⟩ = some ((.slice Xd5 (putF p0 cs1).1.drawn.length kd5)) := bW.cell 1
  have q_bW_2 : w27.cell? ⟨w5.heap.size, 2, none⟩ = some (.int .i64 (putF p0 cs1).1.st) := bW.cell 2
  have q_bG_0 : w27.cell? ⟨w10.heap.size, 0, none⟩ = some ((.slice Xn10 (putF p0 cs1).1.nums.length kn10)) := bG.cell 0
  have q_bG_1 : w27.cell? ⟨w10.heap.size, 1, none⟩ = some ((.slice Xd10 (putF p0 cs1).1.drawn.length kd10)) := bG.cell 1
  have q_bG_2 : w27.cell? ⟨w10.heap.size, 2, none⟩ = some (.int .i64 (putF p0 cs1).1.st) := bG.cell 2
  have q_bH_0 : w27.cell? ⟨w25.heap.size, 0, none⟩ = some ((.slice Xn25 (putF p0 cs1).1.nums.length kn25)) := bH.cell 0
  have q_bH_1 : w27.cell? ⟨w25.heap.size, 1, none⟩ = some ((.slice Xd25 (putF p0 cs1).1.drawn.length kd25)) := bH.cell 1
  have q_bH_2 : w27.cell? ⟨w25.heap.size, 2, none⟩ = some (.int .i64 (putF p0 cs1).1.st) := bH.cell 2
  go_wp2_with fail
  clear q_bA0_0 q_bA0_1 q_bA0_2 q_bW_0 q_bW_1 q_bW_2 q_bG_0 q_bG_1 q_bG_2 q_bH_0 q_bH_1 q_bH_2
  refine (heldPool_any (.slice Xn10 (putF p0 cs1).1.nums.length kn10) (.slice Xd10 (putF p0 cs1).1.drawn.length kd10) (putF p0 cs1).1.nums.length (putF p0 cs1).1.drawn.length ((putF p0 cs1).1.st) 1 _ _ _ (OwI.rd (fun _ => rfl) m21n) (OwI.rd (fun _ => rfl) m21d) (by omega) (by omega) (by omega) (by omega)).mono ?_
  rintro e w28 ⟨rfl, hb28⟩
  have z28 := hb28.size
  have hn0 := hn0.below hb28 (by omega)
  have hd0 := hd0.below hb28 (by omega)
  have h1 := h1.below hb28 (by omega)
  have o5n := o5n.below hb28 (by omega)
  have o5d := o5d.below hb28 (by omega)
  have m21n := m21n.below hb28
  have m21d := m21d.below hb28
  have o23n := o23n.below hb28
  have o23d := o23d.below hb28
  have o24 := o24.below hb28
  have o25n := o25n.below hb28
  have o25d := o25d.below hb28
  have bA0 := bA0.below' hb28
  have bW := bW.below' hb28
  have bG := bG.below' hb28
  have bH := bH.below' hb28
  have B28 := Below.trans B27 (Below.mono hb28 (by omega))
  clear hb28
  clear B27
  have q_bA0_0 : w28.cell? ⟨w.heap.size, 0, none⟩ = some (vn0) := bA0.cell 0
  have q_bA0_1 : w28.cell? ⟨w.heap.size, 1, none⟩ = some (vd0) := bA0.cell 1
  have q_bA0_2 : w28.cell? ⟨w.heap.size, 2, none⟩ = some (.int .i64 p0.st) := bA0.cell 2
  have q_bW_0 : w28.cell? ⟨w5.heap.size, 0, none⟩ = some ((.slice Xn5 (putF p0 cs1).1.nums.length kn5)) := bW.cell 0
  have q_bW_1 : w28.cell? ⟨w5.heap.size, 1, none⟩ = some ((.slice Xd5 (putF p0 cs1).1.drawn.length kd5)) := bW.cell 1
  have q_bW_2 : w28.cell? ⟨w5.heap.size, 2, none⟩ = some (.int .i64 (putF p0 cs1).1.st) := bW.cell 2
  have q_bG_0 : w28.cell? ⟨w10.heap.size, 0, none⟩ = some ((.slice Xn10 (putF p0 cs1).1.nums.length kn10)) := bG.cell 0
  have q_bG_1 : w28.cell? ⟨w10.heap.size, 1, none⟩ = some ((.slice Xd10 (putF p0 cs1).1.drawn.length kd10)) := bG.cell 1
  have q_bG_2 : w28.cell? ⟨w10.heap.size, 2, none⟩ = some (.int .i64 (putF p0 cs1).1.st) := bG.cell 2
  have q_bH_0 : w28.cell? ⟨w25.heap.size, 0, none⟩ = some ((.slice Xn25 (putF p0 cs1).1.nums.length kn25)) := bH.cell 0
  have q_bH_1 : w28.cell? ⟨w25.heap.size, 1, none⟩ = some ((.slice Xd25 (putF p0 cs1).1.drawn.length kd25)) := bH.cell 1
  have q_bH_2 : w28.cell? ⟨w25.heap.size, 2, none⟩ = some (.int .i64 (putF p0 cs1).1.st) := bH.cell 2
  go_wp2_with fail
  clear q_bA0_0 q_bA0_1 q_bA0_2 q_bW_0 q_bW_1 q_bW_2 q_bG_0 q_bG_1 q_bG_2 q_bH_0 q_bH_1 q_bH_2
  go_ret
  exact ⟨rfl, B28⟩

theorem walk (v0 : Value) (v1 : Value) (w : World) (g0 : ∃ (vn vd : Value) (q : P3), v0 = .agg #[vn, vd, .int .i64 q.st] ∧ SlI w 0 w.heap.size vn q.nums ∧ SlI w 0 w.heap.size vd q.drawn) (g1 : ∃ cs, SlI w 0 w.heap.size v1 cs) :
    Calls Try.prog 7 #[v0, v1] w fun e w' => e = .returned (.bool true) ∧ Below w.heap.size w w' := by
  obtain ⟨vn0, vd0, p0, rfl, hn0, hd0⟩ := g0
  obtain ⟨cs1, h1⟩ := g1
  exact walkL vn0 vd0 p0 v1 cs1 w hn0 hd0 h1

theorem own : ownKnob Try.prog.godebug = none := by kernel_rfl
theorem laidOut : laidOutB Try.prog = true := by kernel_rfl

set_option maxRecDepth 100000 in
theorem lifted (os : Os) (started : os.Started) (H : Type) (enc : TypeId × Value → H) :
    ReturnsInHanded {} Try.checked os 7 .any (Rows.fnExactPutBackSpec.pre6 enc Try.prog Try.f7 Rows.fnExactPutBackRow.domain false) (Rows.fnExactPutBackSpec.post enc Try.prog Try.f7 false true false false) := by
  refine returnsInHanded_of_change (C := Try.checked) own started (by kernel_rfl) Try.func7
    (ChangeSpec.witness6 (enc := enc) (C := Try.checked) false ⟨#[], #[.agg #[.slice none 0 0, .slice none 0 0, .int .i64 0], .slice none 0 0], []⟩ 8 (by kernel_rfl) (by kernel_rfl) (by kernel_rfl) (by kernel_rfl)) ?_
  intro W base args ds gs before hval0 hW hcnd _
  have hval : ∀ (j : Nat) t v, Try.f7.params[j]? = some t → args[j]? = some v → Value.okWide Try.prog W .any base t v := hval0
  have hW' := hW
  obtain ⟨p, q, hA0, hV, rfl, hfz, hnd⟩ := hW
  have hA : DataW.TrodAll enc Try.prog W 0 (fun _ => true) true Try.f7.params.toList args.toList ds p := hA0
  rw [Try.params7] at hA hval
  obtain ⟨v0, vs0, d0, ds0, p0, q0, hargs, rfl, rfl, h0, r0⟩ := trodAll_cons hA
  obtain ⟨v1, vs1, d1, ds1, p1, q1, rfl, rfl, rfl, h1, r1⟩ := trodAll_cons r0
  obtain ⟨rfl, rfl, rfl⟩ := trodAll_nil r1
  obtain rfl : args = #[v0, v1] := by cases args; simp_all
  obtain ⟨rfl, rfl⟩ := trodVars_none hV
  have lt0 : ∀ x ∈ p0, x.block < W.heap.size := by obtain ⟨m, hm⟩ := h0; exact DataW.trod_lt m _ _ _ hm
  have lt1 : ∀ x ∈ p1, x.block < W.heap.size := by obtain ⟨m, hm⟩ := h1; exact DataW.trod_lt m _ _ _ hm
  have g0 := open_PoolV (hval 0 24 v0 rfl rfl) h0
  have g1 := open_Int64S (hval 1 22 v1 rfl rfl) h1
  clear hA0 hval0
  refine (walk v0 v1 W g0 g1).mono fun e W' ⟨he, bel⟩ => ?_
  subst he
  exact ⟨_, rfl, _, _, _, [], _, [], hW', trodAll_mk1 (shut_bool Try.underlying4 _), (trodAll_cons_mk (Below.trod laidOut (by kernel_rfl) (of_decide_eq_true (by kernel_rfl)) h0 bel lt0) (trodAll_cons_mk (Below.trod laidOut (by kernel_rfl) (of_decide_eq_true (by kernel_rfl)) h1 bel lt1) trodAll_mk0)), rfl, bel.frame _, fun h => by cases h⟩

theorem over : Rows.fnExactPutBackRow.holds Try.pinned (OpenSpec.ofChange Rows.fnExactPutBackSpec) :=
  OpenClaim.holds_of_wide 7 Try.f7 rfl rfl rfl rfl rfl rfl rfl ⟨rfl, rfl, rfl, rfl, rfl⟩ rfl rfl rfl rfl rfl (by kernel_rfl) Try.func7 (by kernel_rfl)
    (of_decide_eq_true (by kernel_rfl)) (by unfold Func.isWrapper; first | (rw [if_pos (by decide +kernel)]; kernel_rfl) | (rw [if_neg (by decide +kernel)]; exact ⟨rfl, rfl⟩))
    (fun os started H enc _ => lifted os started H enc)

theorem proved : Rows.FnExactPutBackSaid := over
#print axioms proved
end Go.Proofs.Ytfenedoalnieaaa.lawFnExactPutBack

