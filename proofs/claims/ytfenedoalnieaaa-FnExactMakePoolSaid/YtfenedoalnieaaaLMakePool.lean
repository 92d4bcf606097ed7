/- FnExactMakePool: for every input the law returns true, and each argument reads as it did. No condition. -/
import Derived.Test.YtfenedoalnieaaaPoolE
import Derived.Test.YtfenedoalnieaaaPoolG
import Derived.Test.YtfenedoalnieaaaReg
namespace Go.Proofs.Ytfenedoalnieaaa.lawFnExactMakePool
open Go.ChangeShapes Go.WideShapes Go.ChangeAt Go.RowKit

set_option maxRecDepth 100000 in
set_option maxHeartbeats 4000000 in
theorem walkL (v0 : Value) (cs0 : List Int) (n1 : Int) (w : World) (h0 : SlI w 0 w.heap.size v0 cs0) :
    Calls Try.prog 4 #[v0, .int .i64 n1] w fun e w' => e = .returned (.bool true) ∧ Below w.heap.size w w' := by
  have hL : (makeF cs0 n1).1.nums.length ≤ cs0.length ∧ (makeF cs0 n1).1.drawn.length ≤ 1 := by have := makeF_len cs0 n1; omega
  obtain ⟨A0, c0, rfl, b0, b0'⟩ := h0.form
  have hB0 : Below w.heap.size w w := Below.refl _ _
  have hq : (0:Int) ≤ 1048576 ∧ (1048576:Int) ≤ 1048576 := by omega
  rcases Nat.lt_or_ge 1048576 cs0.length with hs0 | hs0
  · have hg : decide ((1048576 : Int) < (cs0.length : Int)) = true := by simp; omega
    go_enter Try.func4, Try.ntmps4
    go_wp2_with fail
    go_ret
    exact ⟨rfl, hB0⟩
  have hg0 : decide ((1048576 : Int) < (cs0.length : Int)) = false := by simp; omega
  go_enter Try.func4, Try.ntmps4
  go_wp2_with fail
  refine (toInt64S_any (.slice A0 cs0.length c0) cs0 _ 0 (h0.more (Nat.le_refl _) (by omega)) hs0).mono ?_
  rintro e w1 ⟨x1, rfl, o1, hb1⟩
  have z1 := hb1.size
  have h0 := h0.below hb1 (by omega)
  have B1 := Below.trans hB0 (Below.mono hb1 (by omega))
  clear hb1
  have o1 := OwI.of o1
  go_wp2_with fail
  refine (specMakePool_any x1 cs0 n1 _ _ (OwI.rd (fun _ => rfl) o1) (by omega)).mono ?_
  rintro e w2 ⟨xn2, xd2, rfl, o2n, o2d, hb2⟩
  have z2 := hb2.size
  have h0 := h0.below hb2 (by omega)
  have o1 := o1.below hb2
  have B2 := Below.trans B1 (Below.mono hb2 (by omega))
  clear hb2
  clear B1
  obtain ⟨Xn2, kn2, rfl, _, _⟩ := o2n.form
  obtain ⟨Xd2, kd2, rfl, _, _⟩ := o2d.form
  clear o1
  go_wp2_with fail
  have hz3 : (w2.alloc (.cells #[(.slice Xn2 (makeF cs0 n1).1.nums.length kn2), (.slice Xd2 (makeF cs0 n1).1.drawn.length kd2), .int .i64 (makeF cs0 n1).1.st] 27)).heap.size = w2.heap.size + 1 := by simp
  have hb3 : Below w2.heap.size w2 (w2.alloc (.cells #[(.slice Xn2 (makeF cs0 n1).1.nums.length kn2), (.slice Xd2 (makeF cs0 n1).1.drawn.length kd2), .int .i64 (makeF cs0 n1).1.st] 27)) := (Below.refl _ _).alloc (Nat.le_refl _) _
  have bx := Blk.new w2 27 #[(.slice Xn2 (makeF cs0 n1).1.nums.length kn2), (.slice Xd2 (makeF cs0 n1).1.drawn.length kd2), .int .i64 (makeF cs0 n1).1.st]
  generalize (w2.alloc (.cells #[(.slice Xn2 (makeF cs0 n1).1.nums.length kn2), (.slice Xd2 (makeF cs0 n1).1.drawn.length kd2), .int .i64 (makeF cs0 n1).1.st] 27)) = w3 at *
  have z3 := hb3.size
  have h0 := h0.below hb3 (by omega)
  have o2n := o2n.below hb3 (by omega)
  have o2d := o2d.below hb3 (by omega)
  have B3 := Below.trans B2 (Below.mono hb3 (by omega))
  clear hb3
  clear B2
  have bW := bx
  clear bx
  refine (toInt64S_any (.slice A0 cs0.length c0) cs0 _ 0 (h0.more (Nat.le_refl _) (by omega)) hs0).mono ?_
  rintro e w4 ⟨x4, rfl, o4, hb4⟩
  have z4 := hb4.size
  have h0 := h0.below hb4 (by omega)
  have o2n := o2n.below hb4 (by omega)
  have o2d := o2d.below hb4 (by omega)
  have bW := bW.below' hb4
  have B4 := Below.trans B3 (Below.mono hb4 (by omega))
  clear hb4
  clear B3
  have o4 := OwI.of o4
  have q_bW_0 : w4.cell? ⟨w2.heap.size, 0, none⟩ = some ((.slice Xn2 (makeF cs0 n1).1.nums.length kn2)) := bW.cell 0
  have q_bW_1 : w4.cell? ⟨w2.heap.size, 1, none⟩ = some ((.slice Xd2 (makeF cs0 n1).1.drawn.length kd2)) := bW.cell 1
  have q_bW_2 : w4.cell? ⟨w2.heap.size, 2, none⟩ = some (.int .i64 (makeF cs0 n1).1.st) := bW.cell 2
  go_wp2_with fail
  clear q_bW_0 q_bW_1 q_bW_2
  refine (implMakePool_any x4 cs0 n1 _ _ (OwI.rd (fun _ => rfl) o4) (by omega)).mono ?_
  rintro e w5 ⟨xn5, xd5, Q5, rfl, o5n, o5d, hQ5, hq5, hb5⟩
  have z5 := hb5.size
  have h0 := h0.below hb5 (by omega)
  have o2n := o2n.below hb5 (by omega)
  have o2d := o2d.below hb5 (by omega)
  have o4 := o4.below hb5
  have bW := bW.below' hb5
  have B5 := Below.trans B4 (Below.mono hb5 (by omega))
  clear hb5
  clear B4
  obtain ⟨Xn5, kn5, rfl, _, _⟩ := o5n.form
  obtain ⟨Xd5, kd5, rfl, _, _⟩ := o5d.form
  have q_bW_0 : w5.cell? ⟨w2.heap.size, 0, none⟩ = some ((.slice Xn2 (makeF cs0 n1).1.nums.length kn2)) := bW.cell 0
  have q_bW_1 : w5.cell? ⟨w2.heap.size, 1, none⟩ = some ((.slice Xd2 (makeF cs0 n1).1.drawn.length kd2)) := bW.cell 1
  have q_bW_2 : w5.cell? ⟨w2.heap.size, 2, none⟩ = some (.int .i64 (makeF cs0 n1).1.st) := bW.cell 2
  have qa_bW_0 : (w5.alloc (.cells #[(.slice Xn5 (makeF cs0 n1).1.nums.length kn5), (.slice Xd5 (makeF cs0 n1).1.drawn.length kd5), .int .i64 (makeF cs0 n1).1.st] 27)).cell? ⟨w2.heap.size, 0, none⟩ = some ((.slice Xn2 (makeF cs0 n1).1.nums.length kn2)) := (bW.alloc _).cell 0
  have qa_bW_1 : (w5.alloc (.cells #[(.slice Xn5 (makeF cs0 n1).1.nums.length kn5), (.slice Xd5 (makeF cs0 n1).1.drawn.length kd5), .int .i64 (makeF cs0 n1).1.st] 27)).cell? ⟨w2.heap.size, 1, none⟩ = some ((.slice Xd2 (makeF cs0 n1).1.drawn.length kd2)) := (bW.alloc _).cell 1
  have qa_bW_2 : (w5.alloc (.cells #[(.slice Xn5 (makeF cs0 n1).1.nums.length kn5), (.slice Xd5 (makeF cs0 n1).1.drawn.length kd5), .int .i64 (makeF cs0 n1).1.st] 27)).cell? ⟨w2.heap.size, 2, none⟩ = some (.int .i64 (makeF cs0 n1).1.st) := (bW.alloc _).cell 2
  go_wp2_with fail
  clear q_bW_0 q_bW_1 q_bW_2 qa_bW_0 qa_bW_1 qa_bW_2
  have hz6 : (w5.alloc (.cells #[(.slice Xn5 (makeF cs0 n1).1.nums.length kn5), (.slice Xd5 (makeF cs0 n1).1.drawn.length kd5), .int .i64 (makeF cs0 n1).1.st] 27)).heap.size = w5.heap.size + 1 := by simp
  have hb6 : Below w5.heap.size w5 (w5.alloc (.cells #[(.slice Xn5 (makeF cs0 n1).1.nums.length kn5), (.slice Xd5 (makeF cs0 n1).1.drawn.length kd5), .int .i64 (makeF cs0 n1).1.st] 27)) := (Below.refl _ _).alloc (Nat.le_refl _) _
  have bx := Blk.new w5 27 #[(.slice Xn5 (makeF cs0 n1).1.nums.length kn5), (.slice Xd5 (makeF cs0 n1).1.drawn.length kd5), .int .i64 (makeF cs0 n1).1.st]
  generalize (w5.alloc (.cells #[(.slice Xn5 (makeF cs0 n1).1.nums.length kn5), (.slice Xd5 (makeF cs0 n1).1.drawn.length kd5), .int .i64 (makeF cs0 n1).1.st] 27)) = w6 at *
  have z6 := hb6.size
  have h0 := h0.below hb6 (by omega)
  have o2n := o2n.below hb6 (by omega)
  have o2d := o2d.below hb6 (by omega)
  have o4 := o4.below hb6
  have o5n := o5n.below hb6
  have o5d := o5d.below hb6
  have bW := bW.below' hb6
  have B6 := Below.trans B5 (Below.mono hb6 (by omega))
  clear hb6
  clear B5
  have bG := bx
  clear bx
  refine (eqPool_any (.slice Xn5 (makeF cs0 n1).1.nums.length kn5) (.slice Xd5 (makeF cs0 n1).1.drawn.length kd5) (.slice Xn2 (makeF cs0 n1).1.nums.length kn2) (.slice Xd2 (makeF cs0 n1).1.drawn.length kd2) (makeF cs0 n1).1.nums (makeF cs0 n1).1.drawn (makeF cs0 n1).1.nums (makeF cs0 n1).1.drawn ((makeF cs0 n1).1.st) ((makeF cs0 n1).1.st) _ _ _ _ _ (OwI.rd (fun _ => rfl) o5n) (OwI.rd (fun _ => rfl) o5d) (o2n.more (Nat.le_refl _) (by omega)) (o2d.more (Nat.le_refl _) (by omega))).mono ?_
  rintro e w7 ⟨rfl, hb7⟩
  have z7 := hb7.size
  have h0 := h0.below hb7 (by omega)
  have o2n := o2n.below hb7 (by omega)
  have o2d := o2d.below hb7 (by omega)
  have o4 := o4.below hb7
  have o5n := o5n.below hb7
  have o5d := o5d.below hb7
  have bW := bW.below' hb7
  have bG := bG.below' hb7
  have B7 := Below.trans B6 (Below.mono hb7 (by omega))
  clear hb7
  clear B6
  have q_bW_0 : w7.cell? ⟨w2.heap.size, 0, none⟩ = some ((.slice Xn2 (makeF cs0 n1).1.nums.length kn2)) := bW.cell 0
  have q_bW_1 : w7.cell? ⟨w2.heap.size, 1, none⟩ = some ((.slice Xd2 (makeF cs0 n1).1.drawn.length kd2)) := bW.cell 1
  have q_bW_2 : w7.cell? ⟨w2.heap.size, 2, none⟩ = some (.int .i64 (makeF cs0 n1).1.st) := bW.cell 2
  have q_bG_0 : w7.cell? ⟨w5.heap.size, 0, none⟩ = some ((.slice Xn5 (makeF cs0 n1).1.nums.length kn5)) := bG.cell 0
  have q_bG_1 : w7.cell? ⟨w5.heap.size, 1, none⟩ = some ((.slice Xd5 (makeF cs0 n1).1.drawn.length kd5)) := bG.cell 1
  have q_bG_2 : w7.cell? ⟨w5.heap.size, 2, none⟩ = some (.int .i64 (makeF cs0 n1).1.st) := bG.cell 2
  go_wp2_with fail
  clear q_bW_0 q_bW_1 q_bW_2 q_bG_0 q_bG_1 q_bG_2
  refine (toInt64S_any (.slice A0 cs0.length c0) cs0 _ 0 (h0.more (Nat.le_refl _) (by omega)) hs0).mono ?_
  rintro e w8 ⟨x8, rfl, o8, hb8⟩
  have z8 := hb8.size
  have h0 := h0.below hb8 (by omega)
  have o2n := o2n.below hb8 (by omega)
  have o2d := o2d.below hb8 (by omega)
  have o4 := o4.below hb8
  have o5n := o5n.below hb8
  have o5d := o5d.below hb8
  have bW := bW.below' hb8
  have bG := bG.below' hb8
  have B8 := Below.trans B7 (Below.mono hb8 (by omega))
  clear hb8
  clear B7
  have o8 := OwI.of o8
  have q_bW_0 : w8.cell? ⟨w2.heap.size, 0, none⟩ = some ((.slice Xn2 (makeF cs0 n1).1.nums.length kn2)) := bW.cell 0
  have q_bW_1 : w8.cell? ⟨w2.heap.size, 1, none⟩ = some ((.slice Xd2 (makeF cs0 n1).1.drawn.length kd2)) := bW.cell 1
  have q_bW_2 : w8.cell? ⟨w2.heap.size, 2, none⟩ = some (.int .i64 (makeF cs0 n1).1.st) := bW.cell 2
  have q_bG_0 : w8.cell? ⟨w5.heap.size, 0, none⟩ = some ((.slice Xn5 (makeF cs0 n1).1.nums.length kn5)) := bG.cell 0
  have q_bG_1 : w8.cell? ⟨w5.heap.size, 1, none⟩ = some ((.slice Xd5 (makeF cs0 n1).1.drawn.length kd5)) := bG.cell 1
  have q_bG_2 : w8.cell? ⟨w5.heap.size, 2, none⟩ = some (.int .i64 (makeF cs0 n1).1.st) := bG.cell 2
  go_wp2_with fail
  clear q_bW_0 q_bW_1 q_bW_2 q_bG_0 q_bG_1 q_bG_2
  refine (eqInt64S_any x4 x8 cs0 cs0 _ _ _ (OwI.rd (fun _ => rfl) o4) (OwI.rd (fun _ => rfl) o8)).mono ?_
  rintro e w9 ⟨rfl, hb9⟩
  have z9 := hb9.size
  have h0 := h0.below hb9 (by omega)
  have o2n := o2n.below hb9 (by omega)
  have o2d := o2d.below hb9 (by omega)
  have o4 := o4.below hb9
  have o5n := o5n.below hb9
  have o5d := o5d.below hb9
  have o8 := o8.below hb9
  have bW := bW.below' hb9
  have bG := bG.below' hb9
  have B9 := Below.trans B8 (Below.mono hb9 (by omega))
  clear hb9
  clear B8
  clear o8
  have q_bW_0 : w9.cell? ⟨w2.heap.size, 0, none⟩ = some ((.slice Xn2 (makeF cs0 n1).1.nums.length kn2)) := bW.cell 0
  have q_bW_1 : w9.cell? ⟨w2.heap.size, 1, none⟩ = some ((.slice Xd2 (makeF cs0 n1).1.drawn.length kd2)) := bW.cell 1
  have q_bW_2 : w9.cell? ⟨w2.heap.size, 2, none⟩ = some (.int .i64 (makeF cs0 n1).1.st) := bW.cell 2
  have q_bG_0 : w9.cell? ⟨w5.heap.size, 0, none⟩ = some ((.slice Xn5 (makeF cs0 n1).1.nums.length kn5)) := bG.cell 0
  have q_bG_1 : w9.cell? ⟨w5.heap.size, 1, none⟩ = some ((.slice Xd5 (makeF cs0 n1).1.drawn.length kd5)) := bG.cell 1
  have q_bG_2 : w9.cell? ⟨w5.heap.size, 2, none⟩ = some (.int .i64 (makeF cs0 n1).1.st) := bG.cell 2
  go_wp2_with fail
  clear q_bW_0 q_bW_1 q_bW_2 q_bG_0 q_bG_1 q_bG_2
  have in10 := Lib.hid o4.in_
  refine (markInt64S_any x4 _ _ 1 _ _ (OwnR.own o4.own) (by omega) (by omega) (by omega)).mono ?_
  rintro e w10 ⟨rfl, m10, hg10⟩
  have hc10 := Chg.of_grown hg10 in10.out
  clear hg10 o4
  have z10 := hc10.size
  have h0 := h0.chg hc10 (by omega) (by omega)
  have o2n := o2n.chg hc10 (by omega) (by omega)
  have o2d := o2d.chg hc10 (by omega) (by omega)
  have o5n := o5n.chg hc10 (by omega)
  have o5d := o5d.chg hc10 (by omega)
  have bW := hc10.blk bW (by omega)
  have bG := hc10.blk bG (by omega)
  have B10 := Chg.below B9 hc10 (by omega) (by omega)
  clear hc10
  clear B9
  have m10 : OwI _ _ _ _ _ _ _ _ := ⟨m10, fun g hg => (in10.out g hg).2⟩
  clear m10
  have q_bW_0 : w10.cell? ⟨w2.heap.size, 0, none⟩ = some ((.slice Xn2 (makeF cs0 n1).1.nums.length kn2)) := bW.cell 0
  have q_bW_1 : w10.cell? ⟨w2.heap.size, 1, none⟩ = some ((.slice Xd2 (makeF cs0 n1).1.drawn.length kd2)) := bW.cell 1
  have q_bW_2 : w10.cell? ⟨w2.heap.size, 2, none⟩ = some (.int .i64 (makeF cs0 n1).1.st) := bW.cell 2
  have q_bG_0 : w10.cell? ⟨w5.heap.size, 0, none⟩ = some ((.slice Xn5 (makeF cs0 n1).1.nums.length kn5)) := bG.cell 0
  have q_bG_1 : w10.cell? ⟨w5.heap.size, 1, none⟩ = some ((.slice Xd5 (makeF cs0 n1).1.drawn.length kd5)) := bG.cell 1
  have q_bG_2 : w10.cell? ⟨w5.heap.size, 2, none⟩ = some (.int .i64 (makeF cs0 n1).1.st) := bG.cell 2
  go_wp2_with fail
  clear q_bW_0 q_bW_1 q_bW_2 q_bG_0 q_bG_1 q_bG_2
  refine (eqPool_any (.slice Xn5 (makeF cs0 n1).1.nums.length kn5) (.slice Xd5 (makeF cs0 n1).1.drawn.length kd5) (.slice Xn2 (makeF cs0 n1).1.nums.length kn2) (.slice Xd2 (makeF cs0 n1).1.drawn.length kd2) (makeF cs0 n1).1.nums (makeF cs0 n1).1.drawn (makeF cs0 n1).1.nums (makeF cs0 n1).1.drawn ((makeF cs0 n1).1.st) ((makeF cs0 n1).1.st) _ _ _ _ _ (OwI.rd (fun _ => rfl) o5n) (OwI.rd (fun _ => rfl) o5d) (o2n.more (Nat.le_refl _) (by omega)) (o2d.more (Nat.le_refl _) (by omega))).mono ?_
  rintro e w11 ⟨rfl, hb11⟩
  have z11 := hb11.size
  have h0 := h0.below hb11 (by omega)
  have o2n := o2n.below hb11 (by omega)
  have o2d := o2d.below hb11 (by omega)
  have o5n := o5n.below hb11
  have o5d := o5d.below hb11
  have bW := bW.below' hb11
  have bG := bG.below' hb11
  have B11 := Below.trans B10 (Below.mono hb11 (by omega))
  clear hb11
  clear B10
  have q_bW_0 : w11.cell? ⟨w2.heap.size, 0, none⟩ = some ((.slice Xn2 (makeF cs0 n1).1.nums.length kn2)) := bW.cell 0
  have q_bW_1 : w11.cell? ⟨w2.heap.size, 1, none⟩ = some ((.slice Xd2 (makeF cs0 n1).1.drawn.length kd2)) := bW.cell 1
  have q_bW_2 : w11.cell? ⟨w2.heap.size, 2, none⟩ = some (.int .i64 (makeF cs0 n1).1.st) := bW.cell 2
  have q_bG_0 : w11.cell? ⟨w5.heap.size, 0, none⟩ = some ((.slice Xn5 (makeF cs0 n1).1.nums.length kn5)) := bG.cell 0
  have q_bG_1 : w11.cell? ⟨w5.heap.size, 1, none⟩ = some ((.slice Xd5 (makeF cs0 n1).1.drawn.length kd5)) := bG.cell 1
  have q_bG_2 : w11.cell? ⟨w5.heap.size, 2, none⟩ = some (.int .i64 (makeF cs0 n1).1.st) := bG.cell 2
  go_wp2_with fail
  clear q_bW_0 q_bW_1 q_bW_2 q_bG_0 q_bG_1 q_bG_2
  refine (markPool_any (.slice Xn5 (makeF cs0 n1).1.nums.length kn5) (.slice Xd5 (makeF cs0 n1).1.drawn.length kd5) (makeF cs0 n1).1.nums (makeF cs0 n1).1.drawn ((makeF cs0 n1).1.st) 1 _ _ _ _ o5n o5d (by omega) (by omega) (by omega) (by omega) (by omega) (by omega) (by omega)).mono ?_
  rintro e w12 ⟨rfl, m12n, m12d, hc12⟩
  clear o5n o5d
  have z12 := hc12.size
  have h0 := h0.chg hc12 (by omega) (by omega)
  have o2n := o2n.chg hc12 (by omega) (by omega)
  have o2d := o2d.chg hc12 (by omega) (by omega)
  have bW := hc12.blk bW (by omega)
  have bG := hc12.blk bG (by omega)
  have B12 := Chg.below B11 hc12 (by omega) (by omega)
  clear hc12
  clear B11
  have q_bW_0 : w12.cell? ⟨w2.heap.size, 0, none⟩ = some ((.slice Xn2 (makeF cs0 n1).1.nums.length kn2)) := bW.cell 0
  have q_bW_1 : w12.cell? ⟨w2.heap.size, 1, none⟩ = some ((.slice Xd2 (makeF cs0 n1).1.drawn.length kd2)) := bW.cell 1
  have q_bW_2 : w12.cell? ⟨w2.heap.size, 2, none⟩ = some (.int .i64 (makeF cs0 n1).1.st) := bW.cell 2
  have q_bG_0 : w12.cell? ⟨w5.heap.size, 0, none⟩ = some ((.slice Xn5 (makeF cs0 n1).1.nums.length kn5)) := bG.cell 0
  have q_bG_1 : w12.cell? ⟨w5.heap.size, 1, none⟩ = some ((.slice Xd5 (makeF cs0 n1).1.drawn.length kd5)) := bG.cell 1
  have q_bG_2 : w12.cell? ⟨w5.heap.size, 2, none⟩ = some (.int .i64 (makeF cs0 n1).1.st) := bG.cell 2
  go_wp2_with fail
  clear q_bW_0 q_bW_1 q_bW_2 q_bG_0 q_bG_1 q_bG_2
  refine (heldPool_any (.slice Xn5 (makeF cs0 n1).1.nums.length kn5) (.slice Xd5 (makeF cs0 n1).1.drawn.length kd5) (makeF cs0 n1).1.nums.length (makeF cs0 n1).1.drawn.length ((makeF cs0 n1).1.st) 1 _ _ _ (OwI.rd (fun _ => rfl) m12n) (OwI.rd (fun _ => rfl) m12d) (by omega) (by omega) (by omega) (by omega)).mono ?_
  rintro e w13 ⟨rfl, hb13⟩
  have z13 := hb13.size
  have h0 := h0.below hb13 (by omega)
  have o2n := o2n.below hb13 (by omega)
  have o2d := o2d.below hb13 (by omega)
  have m12n := m12n.below hb13
  have m12d := m12d.below hb13
  have bW := bW.below' hb13
  have bG := bG.below' hb13
  have B13 := Below.trans B12 (Below.mono hb13 (by omega))
  clear hb13
  clear B12
  have q_bW_0 : w13.cell? ⟨w2.heap.size, 0, none⟩ = some ((.slice Xn2 (makeF cs0 n1).1.nums.length kn2)) := bW.cell 0
  have q_bW_1 : w13.cell? ⟨w2.heap.size, 1, none⟩ = some ((.slice Xd2 (makeF cs0 n1).1.drawn.length kd2)) := bW.cell 1
  have q_bW_2 : w13.cell? ⟨w2.heap.size, 2, none⟩ = some (.int .i64 (makeF cs0 n1).1.st) := bW.cell 2
  have q_bG_0 : w13.cell? ⟨w5.heap.size, 0, none⟩ = some ((.slice Xn5 (makeF cs0 n1).1.nums.length kn5)) := bG.cell 0
  have q_bG_1 : w13.cell? ⟨w5.heap.size, 1, none⟩ = some ((.slice Xd5 (makeF cs0 n1).1.drawn.length kd5)) := bG.cell 1
  have q_bG_2 : w13.cell? ⟨w5.heap.size, 2, none⟩ = some (.int .i64 (makeF cs0 n1).1.st) := bG.cell 2
  go_wp2_with fail
  clear q_bW_0 q_bW_1 q_bW_2 q_bG_0 q_bG_1 q_bG_2
  refine (toInt64S_any (.slice A0 cs0.length c0) cs0 _ 0 (h0.more (Nat.le_refl _) (by omega)) hs0).mono ?_
  rintro e w14 ⟨x14, rfl, o14, hb14⟩
  have z14 := hb14.size
  have h0 := h0.below hb14 (by omega)
  have o2n := o2n.below hb14 (by omega)
  have o2d := o2d.below hb14 (by omega)
  have m12n := m12n.below hb14
  have m12d := m12d.below hb14
  have bW := bW.below' hb14
  have bG := bG.below' hb14
  have B14 := Below.trans B13 (Below.mono hb14 (by omega))
  clear hb14
  clear B13
  have o14 := OwI.of o14
  have q_bW_0 : w14.cell? ⟨w2.heap.size, 0, none⟩ = some ((.slice Xn2 (makeF cs0 n1).1.nums.length kn2)) := bW.cell 0
  have q_bW_1 : w14.cell? ⟨w2.heap.size, 1, none⟩ = some ((.slice Xd2 (makeF cs0 n1).1.drawn.length kd2)) := bW.cell 1
  have q_bW_2 : w14.cell? ⟨w2.heap.size, 2, none⟩ = some (.int .i64 (makeF cs0 n1).1.st) := bW.cell 2
  have q_bG_0 : w14.cell? ⟨w5.heap.size, 0, none⟩ = some ((.slice Xn5 (makeF cs0 n1).1.nums.length kn5)) := bG.cell 0
  have q_bG_1 : w14.cell? ⟨w5.heap.size, 1, none⟩ = some ((.slice Xd5 (makeF cs0 n1).1.drawn.length kd5)) := bG.cell 1
  have q_bG_2 : w14.cell? ⟨w5.heap.size, 2, none⟩ = some (.int .i64 (makeF cs0 n1).1.st) := bG.cell 2
  go_wp2_with fail
  clear q_bW_0 q_bW_1 q_bW_2 q_bG_0 q_bG_1 q_bG_2
  refine (implMakePool_any x14 cs0 n1 _ _ (OwI.rd (fun _ => rfl) o14) (by omega)).mono ?_
  rintro e w15 ⟨xn15, xd15, Q15, rfl, o15n, o15d, hQ15, hq15, hb15⟩
  have z15 := hb15.size
  have h0 := h0.below hb15 (by omega)
  have o2n := o2n.below hb15 (by omega)
  have o2d := o2d.below hb15 (by omega)
  have m12n := m12n.below hb15
  have m12d := m12d.below hb15
  have o14 := o14.below hb15
  have bW := bW.below' hb15
  have bG := bG.below' hb15
  have B15 := Below.trans B14 (Below.mono hb15 (by omega))
  clear hb15
  clear B14
  obtain ⟨Xn15, kn15, rfl, _, _⟩ := o15n.form
  obtain ⟨Xd15, kd15, rfl, _, _⟩ := o15d.form
  have q_bW_0 : w15.cell? ⟨w2.heap.size, 0, none⟩ = some ((.slice Xn2 (makeF cs0 n1).1.nums.length kn2)) := bW.cell 0
  have q_bW_1 : w15.cell? ⟨w2.heap.size, 1, none⟩ = some ((.slice Xd2 (makeF cs0 n1).1.drawn.length kd2)) := bW.cell 1
  have q_bW_2 : w15.cell? ⟨w2.heap.size, 2, none⟩ = some (.int .i64 (makeF cs0 n1).1.st) := bW.cell 2
  have q_bG_0 : w15.cell? ⟨w5.heap.size, 0, none⟩ = some ((.slice Xn5 (makeF cs0 n1).1.nums.length kn5)) := bG.cell 0
  have q_bG_1 : w15.cell? ⟨w5.heap.size, 1, none⟩ = some ((.slice Xd5 (makeF cs0 n1).1.drawn.length kd5)) := bG.cell 1
  have q_bG_2 : w15.cell? ⟨w5.heap.size, 2, none⟩ = some (.int .i64 (makeF cs0 n1).1.st) := bG.cell 2
  have qa_bW_0 : (w15.alloc (.cells #[(.slice Xn15 (makeF cs0 n1).1.nums.length kn15), (.slice Xd15 (makeF cs0 n1).1.drawn.length kd15), .int .i64 (makeF cs0 n1).1.st] 27)).cell? ⟨w2.heap.size, 0, none⟩ = some ((.slice Xn2 (makeF cs0 n1).1.nums.length kn2)) := (bW.alloc _).cell 0
  have qa_bW_1 : (w15.alloc (.cells #[(.slice Xn15 (makeF cs0 n1).1.nums.length kn15), (.slice Xd15 (makeF cs0 n1).1.drawn.length kd15), .int .i64 (makeF cs0 n1).1.st] 27)).cell? ⟨w2.heap.size, 1, none⟩ = some ((.slice Xd2 (makeF cs0 n1).1.drawn.length kd2)) := (bW.alloc _).cell 1
  have qa_bW_2 : (w15.alloc (.cells #[(.slice Xn15 (makeF cs0 n1).1.nums.length kn15), (.slice Xd15 (makeF cs0 n1).1.drawn.length kd15), .int .i64 (makeF cs0 n1).1.st] 27)).cell? ⟨w2.heap.size, 2, none⟩ = some (.int .i64 (makeF cs0 n1).1.st) := (bW.alloc _).cell 2
  have qa_bG_0 : (w15.alloc (.cells #[(.slice Xn15 (makeF cs0 n1).1.nums.length kn15), (.slice Xd15 (makeF cs0 n1).1.drawn.length kd15), .int .i64 (makeF cs0 n1).1.st] 27)).cell? ⟨w5.heap.size, 0, none⟩ = some ((.slice Xn5 (makeF cs0 n1).1.nums.length kn5)) := (bG.alloc _).cell 0
  have qa_bG_1 : (w15.alloc (.cells #[(.slice Xn15 (makeF cs0 n1).1.nums.length kn15), (.slice Xd15 (makeF cs0 n1).1.drawn.length kd15), .int .i64 (makeF cs0 n1).1.st] 27)).cell? ⟨w5.heap.size, 1, none⟩ = some ((.slice Xd5 (makeF cs0 n1).1.drawn.length kd5)) := (bG.alloc _).cell 1
  have qa_bG_2 : (w15.alloc (.cells #[(.slice Xn15 (makeF cs0 n1).1.nums.length kn15), (.slice Xd15 (makeF cs0 n1).1.drawn.length kd15), .int .i64 (makeF cs0 n1).1.st] 27)).cell? ⟨w5.heap.size, 2, none⟩ = some (.int .i64 (makeF cs0 n1).1.st) := (bG.alloc _).cell 2
  go_wp2_with fail
  clear q_bW_0 q_bW_1 q_bW_2 q_bG_0 q_bG_1 q_bG_2 qa_bW_0 qa_bW_1 qa_bW_2 qa_bG_0 qa_bG_1 qa_bG_2
  have hz16 : (w15.alloc (.cells #[(.slice Xn15 (makeF cs0 n1).1.nums.length kn15), (.slice Xd15 (makeF cs0 n1).1.drawn.length kd15), .int .i64 (makeF cs0 n1).1.st] 27)).heap.size = w15.heap.size + 1 := by simp
  have hb16 : Below w15.heap.size w15 (w15.alloc (.cells #[(.slice Xn15 (makeF cs0 n1).1.nums.length kn15), (.slice Xd15 (makeF cs0 n1).1.drawn.length kd15), .int .i64 (makeF cs0 n1).1.st] 27)) := (Below.refl _ _).alloc (Nat.le_refl _) _
  have bx := Blk.new w15 27 #[(.slice Xn15 (makeF cs0 n1).1.nums.length kn15), (.slice Xd15 (makeF cs0 n1).1.drawn.length kd15), .int .i64 (makeF cs0 n1).1.st]
  generalize (w15.alloc (.cells #[(.slice Xn15 (makeF cs0 n1).1.nums.length kn15), (.slice Xd15 (makeF cs0 n1).1.drawn.length kd15), .int .i64 (makeF cs0 n1).1.st] 27)) = w16 at *
  have z16 := hb16.size
  have h0 := h0.below hb16 (by omega)
  have o2n := o2n.below hb16 (by omega)
  have o2d := o2d.below hb16 (by omega)
  have m12n := m12n.below hb16
  have m12d := m12d.below hb16
  have o14 := o14.below hb16
  have o15n := o15n.below hb16
  have o15d := o15d.below hb16
  have bW := bW.below' hb16
  have bG := bG.below' hb16
  have B16 := Below.trans B15 (Below.mono hb16 (by omega))
  clear hb16
  clear B15
  have bH := bx
  clear bx
  refine (eqPool_any (.slice Xn15 (makeF cs0 n1).1.nums.length kn15) (.slice Xd15 (makeF cs0 n1).1.drawn.length kd15) (.slice Xn2 (makeF cs0 n1).1.nums.length kn2) (.slice Xd2 (makeF cs0 n1).1.drawn.length kd2) (makeF cs0 n1).1.nums (makeF cs0 n1).1.drawn (makeF cs0 n1).1.nums (makeF cs0 n1).1.drawn ((makeF cs0 n1).1.st) ((makeF cs0 n1).1.st) _ _ _ _ _ (OwI.rd (fun _ => rfl) o15n) (OwI.rd (fun _ => rfl) o15d) (o2n.more (Nat.le_refl _) (by omega)) (o2d.more (Nat.le_refl _) (by omega))).mono ?_
  rintro e w17 ⟨rfl, hb17⟩
  have z17 := hb17.size
  have h0 := h0.below hb17 (by omega)
  have o2n := o2n.below hb17 (by omega)
  have o2d := o2d.below hb17 (by omega)
  have m12n := m12n.below hb17
  have m12d := m12d.below hb17
  have o14 := o14.below hb17
  have o15n := o15n.below hb17
  have o15d := o15d.below hb17
  have bW := bW.below' hb17
  have bG := bG.below' hb17
  have bH := bH.below' hb17
  have B17 := Below.trans B16 (Below.mono hb17 (by omega))
  clear hb17
  clear B16
  have q_bW_0 : w17.cell? ⟨w2.heap.size, 0, none⟩ = some ((.slice Xn2 (makeF cs0 n1).1.nums.length kn2)) := bW.cell 0
  have q_bW_1 : w17.cell? ⟨w2.heap.size, 1, none⟩ = some ((.slice Xd2 (makeF cs0 n1).1.drawn.length kd2)) := bW.cell 1
  have q_bW_2 : w17.cell? ⟨w2.heap.size, 2, none⟩ = some (.int .i64 (makeF cs0 n1).1.st) := bW.cell 2
  have q_bG_0 : w17.cell? ⟨w5.heap.size, 0, none⟩ = some ((.slice Xn5 (makeF cs0 n1).1.nums.length kn5)) := bG.cell 0
  have q_bG_1 : w17.cell? ⟨w5.heap.size, 1, none⟩ = some ((.slice Xd5 (makeF cs0 n1).1.drawn.length kd5)) := bG.cell 1
  have q_bG_2 : w17.cell? ⟨w5.heap.size, 2, none⟩ = some (.int .i64 (makeF cs0 n1).1.st) := bG.cell 2
  have q_bH_0 : w17.cell? ⟨w15.heap.size, 0, none⟩ = some ((.slice Xn15 (makeF cs0 n1).1.nums.length kn15)) := bH.cell 0
  have q_bH_1 : w17.cell? ⟨w15.heap.size, 1, none⟩ = some ((.slice Xd15 (makeF cs0 n1).1.drawn.length kd15)) := bH.cell 1
  have q_bH_2 : w17.cell? ⟨w15.heap.size, 2, none⟩ = some (.int .i64 (makeF cs0 n1).1.st) := bH.cell 2
  go_wp2_with fail
  clear q_bW_0 q_bW_1 q_bW_2 q_bG_0 q_bG_1 q_bG_2 q_bH_0 q_bH_1 q_bH_2
  refine (heldPool_any (.slice Xn5 (makeF cs0 n1).1.nums.length kn5) (.slice Xd5 (makeF cs0 n1).1.drawn.length kd5) (makeF cs0 n1).1.nums.length (makeF cs0 n1).1.drawn.length ((makeF cs0 n1).1.st) 1 _ _ _ (OwI.rd (fun _ => rfl) m12n) (OwI.rd (fun _ => rfl) m12d) (by omega) (by omega) (by omega) (by omega)).mono ?_
  rintro e w18 ⟨rfl, hb18⟩
  have z18 := hb18.size
  have h0 := h0.below hb18 (by omega)
  have o2n := o2n.below hb18 (by omega)
  have o2d := o2d.below hb18 (by omega)
  have m12n := m12n.below hb18
  have m12d := m12d.below hb18
  have o14 := o14.below hb18
  have o15n := o15n.below hb18
  have o15d := o15d.below hb18
  have bW := bW.below' hb18
  have bG := bG.below' hb18
  have bH := bH.below' hb18
  have B18 := Below.trans B17 (Below.mono hb18 (by omega))
  clear hb18
  clear B17
  have q_bW_0 : w18.cell? ⟨w2.heap.size, 0, none⟩ = some ((.slice Xn2 (makeF cs0 n1).1.nums.length kn2)) := bW.cell 0
  have q_bW_1 : w18.cell? ⟨w2.heap.size, 1, none⟩ = some ((.slice Xd2 (makeF cs0 n1).1.drawn.length kd2)) := bW.cell 1
  have q_bW_2 : w18.cell? ⟨w2.heap.size, 2, none⟩ = some (.int .i64 (makeF cs0 n1).1.st) := bW.cell 2
  have q_bG_0 : w18.cell? ⟨w5.heap.size, 0, none⟩ = some ((.slice Xn5 (makeF cs0 n1).1.nums.length kn5)) := bG.cell 0
  have q_bG_1 : w18.cell? ⟨w5.heap.size, 1, none⟩ = some ((.slice Xd5 (makeF cs0 n1).1.drawn.length kd5)) := bG.cell 1
  have q_bG_2 : w18.cell? ⟨w5.heap.size, 2, none⟩ = some (.int .i64 (makeF cs0 n1).1.st) := bG.cell 2
  have q_bH_0 : w18.cell? ⟨w15.heap.size, 0, none⟩ = some ((.slice Xn15 (makeF cs0 n1).1.nums.length kn15)) := bH.cell 0
  have q_bH_1 : w18.cell? ⟨w15.heap.size, 1, none⟩ = some ((.slice Xd15 (makeF cs0 n1).1.drawn.length kd15)) := bH.cell 1
  have q_bH_2 : w18.cell? ⟨w15.heap.size, 2, none⟩ = some (.int .i64 (makeF cs0 n1).1.st) := bH.cell 2
  go_wp2_with fail
  clear q_bW_0 q_bW_1 q_bW_2 q_bG_0 q_bG_1 q_bG_2 q_bH_0 q_bH_1 q_bH_2
  go_ret
  exact ⟨rfl, B18⟩

theorem walk (v0 : Value) (v1 : Value) (w : World) (g0 : ∃ cs, SlI w 0 w.heap.size v0 cs) (g1 : ∃ n : Int, v1 = .int .i64 n) :
    Calls Try.prog 4 #[v0, v1] w fun e w' => e = .returned (.bool true) ∧ Below w.heap.size w w' := by
  obtain ⟨cs0, h0⟩ := g0
  obtain ⟨n1, rfl⟩ := g1
  exact walkL v0 cs0 n1 w h0

theorem own : ownKnob Try.prog.godebug = none := by kernel_rfl
theorem laidOut : laidOutB Try.prog = true := by kernel_rfl

set_option maxRecDepth 100000 in
theorem lifted (os : Os) (started : os.Started) (H : Type) (enc : TypeId × Value → H) :
    ReturnsInHanded {} Try.checked os 4 .any (Rows.fnExactMakePoolSpec.pre6 enc Try.prog Try.f4 Rows.fnExactMakePoolRow.domain false) (Rows.fnExactMakePoolSpec.post enc Try.prog Try.f4 false true false false) := by
  refine returnsInHanded_of_change (C := Try.checked) own started (by kernel_rfl) Try.func4
    (ChangeSpec.witness6 (enc := enc) (C := Try.checked) false ⟨#[], #[.slice none 0 0, .int .i64 0], []⟩ 8 (by kernel_rfl) (by kernel_rfl) (by kernel_rfl) (by kernel_rfl)) ?_
  intro W base args ds gs before hval0 hW hcnd _
  have hval : ∀ (j : Nat) t v, Try.f4.params[j]? = some t → args[j]? = some v → Value.okWide Try.prog W .any base t v := hval0
  have hW' := hW
  obtain ⟨p, q, hA0, hV, rfl, hfz, hnd⟩ := hW
  have hA : DataW.TrodAll enc Try.prog W 0 (fun _ => true) true Try.f4.params.toList args.toList ds p := hA0
  rw [Try.params4] at hA hval
  obtain ⟨v0, vs0, d0, ds0, p0, q0, hargs, rfl, rfl, h0, r0⟩ := trodAll_cons hA
  obtain ⟨v1, vs1, d1, ds1, p1, q1, rfl, rfl, rfl, h1, r1⟩ := trodAll_cons r0
  obtain ⟨rfl, rfl, rfl⟩ := trodAll_nil r1
  obtain rfl : args = #[v0, v1] := by cases args; simp_all
  obtain ⟨rfl, rfl⟩ := trodVars_none hV
  have lt0 : ∀ x ∈ p0, x.block < W.heap.size := by obtain ⟨m, hm⟩ := h0; exact DataW.trod_lt m _ _ _ hm
  have lt1 : ∀ x ∈ p1, x.block < W.heap.size := by obtain ⟨m, hm⟩ := h1; exact DataW.trod_lt m _ _ _ hm
  have g0 := open_Int64S (hval 0 22 v0 rfl rfl) h0
  have g1 := open_int64 (hval 1 2 v1 rfl rfl) h1
  clear hA0 hval0
  refine (walk v0 v1 W g0 g1).mono fun e W' ⟨he, bel⟩ => ?_
  subst he
  exact ⟨_, rfl, _, _, _, [], _, [], hW', trodAll_mk1 (shut_bool Try.underlying4 _), (trodAll_cons_mk (Below.trod laidOut (by kernel_rfl) (of_decide_eq_true (by kernel_rfl)) h0 bel lt0) (trodAll_cons_mk (Below.trod laidOut (by kernel_rfl) (of_decide_eq_true (by kernel_rfl)) h1 bel lt1) trodAll_mk0)), rfl, bel.frame _, fun h => by cases h⟩

theorem over : Rows.fnExactMakePoolRow.holds Try.pinned (OpenSpec.ofChange Rows.fnExactMakePoolSpec) :=
  OpenClaim.holds_of_wide 4 Try.f4 rfl rfl rfl rfl rfl rfl rfl ⟨rfl, rfl, rfl, rfl, rfl⟩ rfl rfl rfl rfl rfl (by kernel_rfl) Try.func4 (by kernel_rfl)
    (of_decide_eq_true (by kernel_rfl)) (by unfold Func.isWrapper; first | (rw [if_pos (by decide +kernel)]; kernel_rfl) | (rw [if_neg (by decide +kernel)]; exact ⟨rfl, rfl⟩))
    (fun os started H enc _ => lifted os started H enc)

theorem proved : Rows.FnExactMakePoolSaid := over
#print axioms proved
end Go.Proofs.Ytfenedoalnieaaa.lawFnExactMakePool

