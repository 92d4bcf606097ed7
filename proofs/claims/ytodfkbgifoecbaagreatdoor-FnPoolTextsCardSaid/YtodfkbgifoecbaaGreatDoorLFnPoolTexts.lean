/- FnPoolTexts: for every input the law returns true, and each argument reads as it did. Its condition: the package-level variables that the row lists read as the program lays them. -/
import Derived.Test.YtodfkbgifoecbaaGreatDoorTxZ
import Derived.Test.YtodfkbgifoecbaaGreatDoorTxW
import Derived.Test.YtodfkbgifoecbaaGreatDoorTxX
namespace Go.Proofs.YtodfkbgifoecbaaGreatDoor.lawFnPoolTexts
open Go.ChangeShapes Go.WideShapes Go.ChangeAt Go.RowKit
open Go.Lib hiding intOf
attribute [local go_sem ↓] Go.wp_at_zero Go.wp_at_succ
set_option maxRecDepth 100000 in
set_option maxHeartbeats 8000000 in
theorem walkL (v : Value) (bs : List Int) (w : World) (h : SlR u8s 1 w 0 w.heap.size v bs) (hb : ∀ b ∈ bs, 0 ≤ b ∧ b ≤ 255) (hE : Env w.heap.size w) :
    Calls Tryz.prog 3 #[v] w fun e w' => e = .returned (.bool true) ∧ Below w.heap.size w w' := by
  have CB := big_any v bs w _ _ h
  by_cases hbig : 4096 < bs.length
  · rw [decide_eq_true hbig] at CB
    go_enter Tryz.func3, Tryz.ntmps3
    go_wp2_with fail
    refine CB.mono ?_
    rintro e w' ⟨rfl, rfl⟩
    go_wp2_with fail
    go_ret
    exact ⟨rfl, Below.refl _ _⟩
  rw [decide_eq_false hbig] at CB
  clear hbig
  obtain ⟨wz, hwz⟩ : ∃ wz, wz = w := ⟨_, rfl⟩
  have B0 : Below w.heap.size w w := Below.refl _ _
  go_enter Tryz.func3, Tryz.ntmps3
  go_wp2_with fail
  refine CB.mono ?_
  clear CB
  rintro e w' ⟨rfl, rfl⟩
  go_wp2_with fail
  refine (DrawPoolText_any v bs _ h hb).mono ?_
  rintro e w1 ⟨vn, vd, x, rfl, sN, sD, hxl, hxl2, hb1⟩
  have z1 := hb1.size
  have B1 := Below.trans B0 (Below.mono hb1 B0.size)
  clear hb1 B0
  obtain ⟨X, cX, rfl, _, _⟩ := sN.form
  obtain ⟨XD, cXD, rfl, _, _⟩ := sD.form
  have qn_0 : (w1.alloc (.cells #[.slice X x.nums.length cX, .slice XD x.drawn.length cXD, .int .i64 x.st] 26)).cell? ⟨w1.heap.size, 0, none⟩ = some (.slice X x.nums.length cX) := (Blk.new w1 26 #[.slice X x.nums.length cX, .slice XD x.drawn.length cXD, .int .i64 x.st]).cell 0
  have qn_1 : (w1.alloc (.cells #[.slice X x.nums.length cX, .slice XD x.drawn.length cXD, .int .i64 x.st] 26)).cell? ⟨w1.heap.size, 1, none⟩ = some (.slice XD x.drawn.length cXD) := (Blk.new w1 26 #[.slice X x.nums.length cX, .slice XD x.drawn.length cXD, .int .i64 x.st]).cell 1
  have qn_2 : (w1.alloc (.cells #[.slice X x.nums.length cX, .slice XD x.drawn.length cXD, .int .i64 x.st] 26)).cell? ⟨w1.heap.size, 2, none⟩ = some (.int .i64 x.st) := (Blk.new w1 26 #[.slice X x.nums.length cX, .slice XD x.drawn.length cXD, .int .i64 x.st]).cell 2
  go_wp2_with fail
  clear qn_0 qn_1 qn_2
  have hb2 : Below w1.heap.size w1 (w1.alloc (.cells #[.slice X x.nums.length cX, .slice XD x.drawn.length cXD, .int .i64 x.st] 26)) := (Below.refl _ _).alloc (Nat.le_refl _) _
  have bx := Blk.new w1 26 #[.slice X x.nums.length cX, .slice XD x.drawn.length cXD, .int .i64 x.st]
  generalize (w1.alloc (.cells #[.slice X x.nums.length cX, .slice XD x.drawn.length cXD, .int .i64 x.st] 26)) = w2 at *
  have z2 := hb2.size
  have sN := (sN.below hb2 (Nat.le_refl _)).more (Nat.le_refl _) hb2.size
  have sD := (sD.below hb2 (Nat.le_refl _)).more (Nat.le_refl _) hb2.size
  have B2 := Below.trans B1 (Below.mono hb2 B1.size)
  clear hb2 B1
  have bX := bx
  clear bx
  refine (implPoolText_any _ _ x _ _ _ sN sD w.heap.size (hE.tab.on B2) B2.size).mono ?_
  rintro e w3 ⟨rfl, hb3⟩
  have z3 := hb3.size
  have sN := (sN.below hb3 (Nat.le_refl _)).more (Nat.le_refl _) hb3.size
  have sD := (sD.below hb3 (Nat.le_refl _)).more (Nat.le_refl _) hb3.size
  have bX := bX.below' hb3
  have B3 := Below.trans B2 (Below.mono hb3 B2.size)
  clear hb3 B2
  have q_bX_0 : w3.cell? ⟨w1.heap.size, 0, none⟩ = some (.slice X x.nums.length cX) := bX.cell 0
  have q_bX_1 : w3.cell? ⟨w1.heap.size, 1, none⟩ = some (.slice XD x.drawn.length cXD) := bX.cell 1
  have q_bX_2 : w3.cell? ⟨w1.heap.size, 2, none⟩ = some (.int .i64 x.st) := bX.cell 2
  go_wp2_with fail
  clear q_bX_0 q_bX_1 q_bX_2
  refine (specPoolText_any _ _ x _ _ _ sN sD).mono ?_
  rintro e w4 ⟨rfl, hb4⟩
  have z4 := hb4.size
  have sN := (sN.below hb4 (Nat.le_refl _)).more (Nat.le_refl _) hb4.size
  have sD := (sD.below hb4 (Nat.le_refl _)).more (Nat.le_refl _) hb4.size
  have bX := bX.below' hb4
  have B4 := Below.trans B3 (Below.mono hb4 B3.size)
  clear hb4 B3
  have HT := Lib.hid (show (textPF x).2 = 0 ∧ (textPF x).1 = textP x ∧ poolOk x = true ∨ (textPF x).2 = 1 ∧ poolOk x = false by
    rw [textPF]
    cases poolOk x <;> simp)
  have hbe := bl_eq (str (textPF x).1)
  generalize (textPF x).1 = tb at *
  generalize (textPF x).2 = tc at *
  obtain ⟨ts, hts⟩ : ∃ ts, str tb = ts := ⟨_, rfl⟩
  rw [hts] at hbe
  rw [hts]
  have HTS := Lib.hid hts
  clear hts
  have q_bX_0 : w4.cell? ⟨w1.heap.size, 0, none⟩ = some (.slice X x.nums.length cX) := bX.cell 0
  have q_bX_1 : w4.cell? ⟨w1.heap.size, 1, none⟩ = some (.slice XD x.drawn.length cXD) := bX.cell 1
  have q_bX_2 : w4.cell? ⟨w1.heap.size, 2, none⟩ = some (.int .i64 x.st) := bX.cell 2
  go_wp2_with fail
  clear q_bX_0 q_bX_1 q_bX_2
  refine (DrawReadPool_any v bs _ ((h.below B4 (Nat.le_refl _)).more (Nat.le_refl _) B4.size) hb).mono ?_
  rintro e w5 ⟨s, rfl, hs, hb5⟩
  have z5 := hb5.size
  have sN := (sN.below hb5 (Nat.le_refl _)).more (Nat.le_refl _) hb5.size
  have sD := (sD.below hb5 (Nat.le_refl _)).more (Nat.le_refl _) hb5.size
  have bX := bX.below' hb5
  have B5 := Below.trans B4 (Below.mono hb5 B4.size)
  clear hb5 B4
  have CI := implReadPool_any s w5 w.heap.size (hE.on B5) B5.size hs
  have HC := Lib.hid (fun W => specReadPool_any s W hs)
  simp only [rp_eq] at HC
  have HR := Lib.hid (show (RPg rdF rdF s.data.toList).2 = 0 ∧ poolOk (RPg rdF rdF s.data.toList).1 = true ∧ s.data.toList = textP (RPg rdF rdF s.data.toList).1 ∨ (RPg rdF rdF s.data.toList).2 = 6 by
    rcases RP_code s.data.toList with h | h
    · exact .inl ⟨h, RP_ok h⟩
    · exact .inr (by rw [h]))
  generalize (RPg rdF rdF s.data.toList).1 = y at *
  generalize (RPg rdF rdF s.data.toList).2 = cd at *
  have q_bX_0 : w5.cell? ⟨w1.heap.size, 0, none⟩ = some (.slice X x.nums.length cX) := bX.cell 0
  have q_bX_1 : w5.cell? ⟨w1.heap.size, 1, none⟩ = some (.slice XD x.drawn.length cXD) := bX.cell 1
  have q_bX_2 : w5.cell? ⟨w1.heap.size, 2, none⟩ = some (.int .i64 x.st) := bX.cell 2
  go_wp2_with fail
  clear q_bX_0 q_bX_1 q_bX_2
  refine CI.mono ?_
  clear CI
  rintro e w6 ⟨xn6, xd6, Q6, rfl, o6n, o6d, hQ6, hq6, hb6⟩
  have z6 := hb6.size
  have sN := (sN.below hb6 (Nat.le_refl _)).more (Nat.le_refl _) hb6.size
  have sD := (sD.below hb6 (Nat.le_refl _)).more (Nat.le_refl _) hb6.size
  have bX := bX.below' hb6
  have B6 := Below.trans B5 (Below.mono hb6 B5.size)
  clear hb6 B5
  have sYn := OwI.rd (f := i64s) (s := 1) (fun _ => rfl) o6n
  have sYd := OwI.rd (f := i64s) (s := 1) (fun _ => rfl) o6d
  clear o6n o6d
  obtain ⟨AY, cY, rfl, _, _⟩ := sYn.form
  obtain ⟨DY, eY, rfl, _, _⟩ := sYd.form
  have q_bX_0 : w6.cell? ⟨w1.heap.size, 0, none⟩ = some (.slice X x.nums.length cX) := bX.cell 0
  have q_bX_1 : w6.cell? ⟨w1.heap.size, 1, none⟩ = some (.slice XD x.drawn.length cXD) := bX.cell 1
  have q_bX_2 : w6.cell? ⟨w1.heap.size, 2, none⟩ = some (.int .i64 x.st) := bX.cell 2
  have qa_bX_0 : (w6.alloc (.cells #[.slice AY y.nums.length cY, .slice DY y.drawn.length eY, .int .i64 y.st] 26)).cell? ⟨w1.heap.size, 0, none⟩ = some (.slice X x.nums.length cX) := (bX.alloc _).cell 0
  have qa_bX_1 : (w6.alloc (.cells #[.slice AY y.nums.length cY, .slice DY y.drawn.length eY, .int .i64 y.st] 26)).cell? ⟨w1.heap.size, 1, none⟩ = some (.slice XD x.drawn.length cXD) := (bX.alloc _).cell 1
  have qa_bX_2 : (w6.alloc (.cells #[.slice AY y.nums.length cY, .slice DY y.drawn.length eY, .int .i64 y.st] 26)).cell? ⟨w1.heap.size, 2, none⟩ = some (.int .i64 x.st) := (bX.alloc _).cell 2
  have qn_0 : (w6.alloc (.cells #[.slice AY y.nums.length cY, .slice DY y.drawn.length eY, .int .i64 y.st] 26)).cell? ⟨w6.heap.size, 0, none⟩ = some (.slice AY y.nums.length cY) := (Blk.new w6 26 #[.slice AY y.nums.length cY, .slice DY y.drawn.length eY, .int .i64 y.st]).cell 0
  have qn_1 : (w6.alloc (.cells #[.slice AY y.nums.length cY, .slice DY y.drawn.length eY, .int .i64 y.st] 26)).cell? ⟨w6.heap.size, 1, none⟩ = some (.slice DY y.drawn.length eY) := (Blk.new w6 26 #[.slice AY y.nums.length cY, .slice DY y.drawn.length eY, .int .i64 y.st]).cell 1
  have qn_2 : (w6.alloc (.cells #[.slice AY y.nums.length cY, .slice DY y.drawn.length eY, .int .i64 y.st] 26)).cell? ⟨w6.heap.size, 2, none⟩ = some (.int .i64 y.st) := (Blk.new w6 26 #[.slice AY y.nums.length cY, .slice DY y.drawn.length eY, .int .i64 y.st]).cell 2
  go_wp2_with fail
  clear q_bX_0 q_bX_1 q_bX_2 qa_bX_0 qa_bX_1 qa_bX_2 qn_0 qn_1 qn_2
  have hb7 : Below w6.heap.size w6 (w6.alloc (.cells #[.slice AY y.nums.length cY, .slice DY y.drawn.length eY, .int .i64 y.st] 26)) := (Below.refl _ _).alloc (Nat.le_refl _) _
  have bx := Blk.new w6 26 #[.slice AY y.nums.length cY, .slice DY y.drawn.length eY, .int .i64 y.st]
  generalize (w6.alloc (.cells #[.slice AY y.nums.length cY, .slice DY y.drawn.length eY, .int .i64 y.st] 26)) = w7 at *
  have z7 := hb7.size
  have sN := (sN.below hb7 (Nat.le_refl _)).more (Nat.le_refl _) hb7.size
  have sD := (sD.below hb7 (Nat.le_refl _)).more (Nat.le_refl _) hb7.size
  have sYn := (sYn.below hb7 (Nat.le_refl _)).more (Nat.le_refl _) hb7.size
  have sYd := (sYd.below hb7 (Nat.le_refl _)).more (Nat.le_refl _) hb7.size
  have bX := bX.below' hb7
  have B7 := Below.trans B6 (Below.mono hb7 B6.size)
  clear hb7 B6
  have bY := bx
  clear bx
  refine (HC.out _).mono ?_
  clear HC
  rintro e w8 ⟨xn8, xd8, Q8, rfl, o8n, o8d, hQ8, hq8, hb8⟩
  have z8 := hb8.size
  have sN := (sN.below hb8 (Nat.le_refl _)).more (Nat.le_refl _) hb8.size
  have sD := (sD.below hb8 (Nat.le_refl _)).more (Nat.le_refl _) hb8.size
  have sYn := (sYn.below hb8 (Nat.le_refl _)).more (Nat.le_refl _) hb8.size
  have sYd := (sYd.below hb8 (Nat.le_refl _)).more (Nat.le_refl _) hb8.size
  have bX := bX.below' hb8
  have bY := bY.below' hb8
  have B8 := Below.trans B7 (Below.mono hb8 B7.size)
  clear hb8 B7
  have sZn := OwI.rd (f := i64s) (s := 1) (fun _ => rfl) o8n
  have sZd := OwI.rd (f := i64s) (s := 1) (fun _ => rfl) o8d
  clear o8n o8d
  obtain ⟨AZ, cZ, rfl, _, _⟩ := sZn.form
  obtain ⟨DZ, eZ, rfl, _, _⟩ := sZd.form
  rcases HT.out with ⟨rfl, htb, hok⟩ | ⟨rfl, hok⟩
  · skip
    clear HT
    have q_bX_0 : w8.cell? ⟨w1.heap.size, 0, none⟩ = some (.slice X x.nums.length cX) := bX.cell 0
    have q_bX_1 : w8.cell? ⟨w1.heap.size, 1, none⟩ = some (.slice XD x.drawn.length cXD) := bX.cell 1
    have q_bX_2 : w8.cell? ⟨w1.heap.size, 2, none⟩ = some (.int .i64 x.st) := bX.cell 2
    have q_bY_0 : w8.cell? ⟨w6.heap.size, 0, none⟩ = some (.slice AY y.nums.length cY) := bY.cell 0
    have q_bY_1 : w8.cell? ⟨w6.heap.size, 1, none⟩ = some (.slice DY y.drawn.length eY) := bY.cell 1
    have q_bY_2 : w8.cell? ⟨w6.heap.size, 2, none⟩ = some (.int .i64 y.st) := bY.cell 2
    have qa_bX_0 : (w8.alloc (.cells #[.slice AZ y.nums.length cZ, .slice DZ y.drawn.length eZ, .int .i64 y.st] 26)).cell? ⟨w1.heap.size, 0, none⟩ = some (.slice X x.nums.length cX) := (bX.alloc _).cell 0
    have qa_bX_1 : (w8.alloc (.cells #[.slice AZ y.nums.length cZ, .slice DZ y.drawn.length eZ, .int .i64 y.st] 26)).cell? ⟨w1.heap.size, 1, none⟩ = some (.slice XD x.drawn.length cXD) := (bX.alloc _).cell 1
    have qa_bX_2 : (w8.alloc (.cells #[.slice AZ y.nums.length cZ, .slice DZ y.drawn.length eZ, .int .i64 y.st] 26)).cell? ⟨w1.heap.size, 2, none⟩ = some (.int .i64 x.st) := (bX.alloc _).cell 2
    have qa_bY_0 : (w8.alloc (.cells #[.slice AZ y.nums.length cZ, .slice DZ y.drawn.length eZ, .int .i64 y.st] 26)).cell? ⟨w6.heap.size, 0, none⟩ = some (.slice AY y.nums.length cY) := (bY.alloc _).cell 0
    have qa_bY_1 : (w8.alloc (.cells #[.slice AZ y.nums.length cZ, .slice DZ y.drawn.length eZ, .int .i64 y.st] 26)).cell? ⟨w6.heap.size, 1, none⟩ = some (.slice DY y.drawn.length eY) := (bY.alloc _).cell 1
    have qa_bY_2 : (w8.alloc (.cells #[.slice AZ y.nums.length cZ, .slice DZ y.drawn.length eZ, .int .i64 y.st] 26)).cell? ⟨w6.heap.size, 2, none⟩ = some (.int .i64 y.st) := (bY.alloc _).cell 2
    have qn_0 : (w8.alloc (.cells #[.slice AZ y.nums.length cZ, .slice DZ y.drawn.length eZ, .int .i64 y.st] 26)).cell? ⟨w8.heap.size, 0, none⟩ = some (.slice AZ y.nums.length cZ) := (Blk.new w8 26 #[.slice AZ y.nums.length cZ, .slice DZ y.drawn.length eZ, .int .i64 y.st]).cell 0
    have qn_1 : (w8.alloc (.cells #[.slice AZ y.nums.length cZ, .slice DZ y.drawn.length eZ, .int .i64 y.st] 26)).cell? ⟨w8.heap.size, 1, none⟩ = some (.slice DZ y.drawn.length eZ) := (Blk.new w8 26 #[.slice AZ y.nums.length cZ, .slice DZ y.drawn.length eZ, .int .i64 y.st]).cell 1
    have qn_2 : (w8.alloc (.cells #[.slice AZ y.nums.length cZ, .slice DZ y.drawn.length eZ, .int .i64 y.st] 26)).cell? ⟨w8.heap.size, 2, none⟩ = some (.int .i64 y.st) := (Blk.new w8 26 #[.slice AZ y.nums.length cZ, .slice DZ y.drawn.length eZ, .int .i64 y.st]).cell 2
    go_wp2_with fail
    clear q_bX_0 q_bX_1 q_bX_2 q_bY_0 q_bY_1 q_bY_2 qa_bX_0 qa_bX_1 qa_bX_2 qa_bY_0 qa_bY_1 qa_bY_2 qn_0 qn_1 qn_2
    have hb9 : Below w8.heap.size w8 (w8.alloc (.cells #[.slice AZ y.nums.length cZ, .slice DZ y.drawn.length eZ, .int .i64 y.st] 26)) := (Below.refl _ _).alloc (Nat.le_refl _) _
    have bx := Blk.new w8 26 #[.slice AZ y.nums.length cZ, .slice DZ y.drawn.length eZ, .int .i64 y.st]
    generalize (w8.alloc (.cells #[.slice AZ y.nums.length cZ, .slice DZ y.drawn.length eZ, .int .i64 y.st] 26)) = w9 at *
    have z9 := hb9.size
    have sN := (sN.below hb9 (Nat.le_refl _)).more (Nat.le_refl _) hb9.size
    have sD := (sD.below hb9 (Nat.le_refl _)).more (Nat.le_refl _) hb9.size
    have sYn := (sYn.below hb9 (Nat.le_refl _)).more (Nat.le_refl _) hb9.size
    have sYd := (sYd.below hb9 (Nat.le_refl _)).more (Nat.le_refl _) hb9.size
    have sZn := (sZn.below hb9 (Nat.le_refl _)).more (Nat.le_refl _) hb9.size
    have sZd := (sZd.below hb9 (Nat.le_refl _)).more (Nat.le_refl _) hb9.size
    have bX := bX.below' hb9
    have bY := bY.below' hb9
    have B9 := Below.trans B8 (Below.mono hb9 B8.size)
    clear hb9 B8
    have bZ := bx
    clear bx
    refine (likePool_same _ _ _ _ _ _ _ _ _ _ sYn sYd sZn sZd).mono ?_
    rintro e w10 ⟨rfl, hb10⟩
    have z10 := hb10.size
    have sN := (sN.below hb10 (Nat.le_refl _)).more (Nat.le_refl _) hb10.size
    have sD := (sD.below hb10 (Nat.le_refl _)).more (Nat.le_refl _) hb10.size
    have sYn := (sYn.below hb10 (Nat.le_refl _)).more (Nat.le_refl _) hb10.size
    have sYd := (sYd.below hb10 (Nat.le_refl _)).more (Nat.le_refl _) hb10.size
    have sZn := (sZn.below hb10 (Nat.le_refl _)).more (Nat.le_refl _) hb10.size
    have sZd := (sZd.below hb10 (Nat.le_refl _)).more (Nat.le_refl _) hb10.size
    have bX := bX.below' hb10
    have bY := bY.below' hb10
    have bZ := bZ.below' hb10
    have B10 := Below.trans B9 (Below.mono hb10 B9.size)
    clear hb10 B9
    have q_bX_0 : w10.cell? ⟨w1.heap.size, 0, none⟩ = some (.slice X x.nums.length cX) := bX.cell 0
    have q_bX_1 : w10.cell? ⟨w1.heap.size, 1, none⟩ = some (.slice XD x.drawn.length cXD) := bX.cell 1
    have q_bX_2 : w10.cell? ⟨w1.heap.size, 2, none⟩ = some (.int .i64 x.st) := bX.cell 2
    have q_bY_0 : w10.cell? ⟨w6.heap.size, 0, none⟩ = some (.slice AY y.nums.length cY) := bY.cell 0
    have q_bY_1 : w10.cell? ⟨w6.heap.size, 1, none⟩ = some (.slice DY y.drawn.length eY) := bY.cell 1
    have q_bY_2 : w10.cell? ⟨w6.heap.size, 2, none⟩ = some (.int .i64 y.st) := bY.cell 2
    have q_bZ_0 : w10.cell? ⟨w8.heap.size, 0, none⟩ = some (.slice AZ y.nums.length cZ) := bZ.cell 0
    have q_bZ_1 : w10.cell? ⟨w8.heap.size, 1, none⟩ = some (.slice DZ y.drawn.length eZ) := bZ.cell 1
    have q_bZ_2 : w10.cell? ⟨w8.heap.size, 2, none⟩ = some (.int .i64 y.st) := bZ.cell 2
    go_wp2_with fail
    clear q_bX_0 q_bX_1 q_bX_2 q_bY_0 q_bY_1 q_bY_2 q_bZ_0 q_bZ_1 q_bZ_2
    refine (implIsPool_any _ _ x _ _ _ sN sD).mono ?_
    rintro e w11 ⟨rfl, hb11⟩
    have z11 := hb11.size
    have sN := (sN.below hb11 (Nat.le_refl _)).more (Nat.le_refl _) hb11.size
    have sD := (sD.below hb11 (Nat.le_refl _)).more (Nat.le_refl _) hb11.size
    have sYn := (sYn.below hb11 (Nat.le_refl _)).more (Nat.le_refl _) hb11.size
    have sYd := (sYd.below hb11 (Nat.le_refl _)).more (Nat.le_refl _) hb11.size
    have sZn := (sZn.below hb11 (Nat.le_refl _)).more (Nat.le_refl _) hb11.size
    have sZd := (sZd.below hb11 (Nat.le_refl _)).more (Nat.le_refl _) hb11.size
    have bX := bX.below' hb11
    have bY := bY.below' hb11
    have bZ := bZ.below' hb11
    have B11 := Below.trans B10 (Below.mono hb11 B10.size)
    clear hb11 B10
    rw [hok]
    rcases HR.out with ⟨rfl, hy, hsy⟩ | rfl
    · clear HR
      have E2 : textPF y = (textP y, 0) := by rw [textPF, if_pos hy]
      have ES : str (textP y) = s := (str_eq _ _).2 hsy.symm
      have CT := implPoolText_any _ _ y _ _ _ sYn sYd w.heap.size (hE.tab.on B11) B11.size
      rw [E2, ES] at CT
      have hbs := bl_eq s
      clear E2 ES hy hsy
      have q_bX_0 : w11.cell? ⟨w1.heap.size, 0, none⟩ = some (.slice X x.nums.length cX) := bX.cell 0
      have q_bX_1 : w11.cell? ⟨w1.heap.size, 1, none⟩ = some (.slice XD x.drawn.length cXD) := bX.cell 1
      have q_bX_2 : w11.cell? ⟨w1.heap.size, 2, none⟩ = some (.int .i64 x.st) := bX.cell 2
      have q_bY_0 : w11.cell? ⟨w6.heap.size, 0, none⟩ = some (.slice AY y.nums.length cY) := bY.cell 0
      have q_bY_1 : w11.cell? ⟨w6.heap.size, 1, none⟩ = some (.slice DY y.drawn.length eY) := bY.cell 1
      have q_bY_2 : w11.cell? ⟨w6.heap.size, 2, none⟩ = some (.int .i64 y.st) := bY.cell 2
      have q_bZ_0 : w11.cell? ⟨w8.heap.size, 0, none⟩ = some (.slice AZ y.nums.length cZ) := bZ.cell 0
      have q_bZ_1 : w11.cell? ⟨w8.heap.size, 1, none⟩ = some (.slice DZ y.drawn.length eZ) := bZ.cell 1
      have q_bZ_2 : w11.cell? ⟨w8.heap.size, 2, none⟩ = some (.int .i64 y.st) := bZ.cell 2
      go_wp2_with fail
      clear q_bX_0 q_bX_1 q_bX_2 q_bY_0 q_bY_1 q_bY_2 q_bZ_0 q_bZ_1 q_bZ_2
      refine CT.mono ?_
      clear CT
      rintro e w12 ⟨rfl, hb12⟩
      have z12 := hb12.size
      have sN := (sN.below hb12 (Nat.le_refl _)).more (Nat.le_refl _) hb12.size
      have sD := (sD.below hb12 (Nat.le_refl _)).more (Nat.le_refl _) hb12.size
      have sYn := (sYn.below hb12 (Nat.le_refl _)).more (Nat.le_refl _) hb12.size
      have sYd := (sYd.below hb12 (Nat.le_refl _)).more (Nat.le_refl _) hb12.size
      have sZn := (sZn.below hb12 (Nat.le_refl _)).more (Nat.le_refl _) hb12.size
      have sZd := (sZd.below hb12 (Nat.le_refl _)).more (Nat.le_refl _) hb12.size
      have bX := bX.below' hb12
      have bY := bY.below' hb12
      have bZ := bZ.below' hb12
      have B12 := Below.trans B11 (Below.mono hb12 B11.size)
      clear hb12 B11
      have EK : RPg rdF rdF ts.data.toList = (x, 0) := by rw [← HTS.out, str_data, htb]; exact RP_textP hok
      have hsz : ts.size ≤ 1048576 := by rw [← HTS.out, htb]; exact Nat.le_trans (textP_size hok) (by decide)
      have CK := implReadPool_any ts w12 w.heap.size (hE.on B12) B12.size hsz
      rw [EK] at CK
      clear EK hsz htb hok
      have q_bX_0 : w12.cell? ⟨w1.heap.size, 0, none⟩ = some (.slice X x.nums.length cX) := bX.cell 0
      have q_bX_1 : w12.cell? ⟨w1.heap.size, 1, none⟩ = some (.slice XD x.drawn.length cXD) := bX.cell 1
      have q_bX_2 : w12.cell? ⟨w1.heap.size, 2, none⟩ = some (.int .i64 x.st) := bX.cell 2
      have q_bY_0 : w12.cell? ⟨w6.heap.size, 0, none⟩ = some (.slice AY y.nums.length cY) := bY.cell 0
      have q_bY_1 : w12.cell? ⟨w6.heap.size, 1, none⟩ = some (.slice DY y.drawn.length eY) := bY.cell 1
      have q_bY_2 : w12.cell? ⟨w6.heap.size, 2, none⟩ = some (.int .i64 y.st) := bY.cell 2
      have q_bZ_0 : w12.cell? ⟨w8.heap.size, 0, none⟩ = some (.slice AZ y.nums.length cZ) := bZ.cell 0
      have q_bZ_1 : w12.cell? ⟨w8.heap.size, 1, none⟩ = some (.slice DZ y.drawn.length eZ) := bZ.cell 1
      have q_bZ_2 : w12.cell? ⟨w8.heap.size, 2, none⟩ = some (.int .i64 y.st) := bZ.cell 2
      go_wp2_with fail
      clear q_bX_0 q_bX_1 q_bX_2 q_bY_0 q_bY_1 q_bY_2 q_bZ_0 q_bZ_1 q_bZ_2
      refine CK.mono ?_
      clear CK
      rintro e w13 ⟨xn13, xd13, Q13, rfl, o13n, o13d, hQ13, hq13, hb13⟩
      have z13 := hb13.size
      have sN := (sN.below hb13 (Nat.le_refl _)).more (Nat.le_refl _) hb13.size
      have sD := (sD.below hb13 (Nat.le_refl _)).more (Nat.le_refl _) hb13.size
      have sYn := (sYn.below hb13 (Nat.le_refl _)).more (Nat.le_refl _) hb13.size
      have sYd := (sYd.below hb13 (Nat.le_refl _)).more (Nat.le_refl _) hb13.size
      have sZn := (sZn.below hb13 (Nat.le_refl _)).more (Nat.le_refl _) hb13.size
      have sZd := (sZd.below hb13 (Nat.le_refl _)).more (Nat.le_refl _) hb13.size
      have bX := bX.below' hb13
      have bY := bY.below' hb13
      have bZ := bZ.below' hb13
      have B13 := Below.trans B12 (Below.mono hb13 B12.size)
      clear hb13 B12
      have sKn := OwI.rd (f := i64s) (s := 1) (fun _ => rfl) o13n
      have sKd := OwI.rd (f := i64s) (s := 1) (fun _ => rfl) o13d
      clear o13n o13d
      obtain ⟨AK, cK, rfl, _, _⟩ := sKn.form
      obtain ⟨DK, eK, rfl, _, _⟩ := sKd.form
      have q_bX_0 : w13.cell? ⟨w1.heap.size, 0, none⟩ = some (.slice X x.nums.length cX) := bX.cell 0
      have q_bX_1 : w13.cell? ⟨w1.heap.size, 1, none⟩ = some (.slice XD x.drawn.length cXD) := bX.cell 1
      have q_bX_2 : w13.cell? ⟨w1.heap.size, 2, none⟩ = some (.int .i64 x.st) := bX.cell 2
      have q_bY_0 : w13.cell? ⟨w6.heap.size, 0, none⟩ = some (.slice AY y.nums.length cY) := bY.cell 0
      have q_bY_1 : w13.cell? ⟨w6.heap.size, 1, none⟩ = some (.slice DY y.drawn.length eY) := bY.cell 1
      have q_bY_2 : w13.cell? ⟨w6.heap.size, 2, none⟩ = some (.int .i64 y.st) := bY.cell 2
      have q_bZ_0 : w13.cell? ⟨w8.heap.size, 0, none⟩ = some (.slice AZ y.nums.length cZ) := bZ.cell 0
      have q_bZ_1 : w13.cell? ⟨w8.heap.size, 1, none⟩ = some (.slice DZ y.drawn.length eZ) := bZ.cell 1
      have q_bZ_2 : w13.cell? ⟨w8.heap.size, 2, none⟩ = some (.int .i64 y.st) := bZ.cell 2
      have qa_bX_0 : (w13.alloc (.cells #[.slice AK x.nums.length cK, .slice DK x.drawn.length eK, .int .i64 x.st] 26)).cell? ⟨w1.heap.size, 0, none⟩ = some (.slice X x.nums.length cX) := (bX.alloc _).cell 0
      have qa_bX_1 : (w13.alloc (.cells #[.slice AK x.nums.length cK, .slice DK x.drawn.length eK, .int .i64 x.st] 26)).cell? ⟨w1.heap.size, 1, none⟩ = some (.slice XD x.drawn.length cXD) := (bX.alloc _).cell 1
      have qa_bX_2 : (w13.alloc (.cells #[.slice AK x.nums.length cK, .slice DK x.drawn.length eK, .int .i64 x.st] 26)).cell? ⟨w1.heap.size, 2, none⟩ = some (.int .i64 x.st) := (bX.alloc _).cell 2
      have qa_bY_0 : (w13.alloc (.cells #[.slice AK x.nums.length cK, .slice DK x.drawn.length eK, .int .i64 x.st] 26)).cell? ⟨w6.heap.size, 0, none⟩ = some (.slice AY y.nums.length cY) := (bY.alloc _).cell 0
      have qa_bY_1 : (w13.alloc (.cells #[.slice AK x.nums.length cK, .slice DK x.drawn.length eK, .int .i64 x.st] 26)).cell? ⟨w6.heap.size, 1, none⟩ = some (.slice DY y.drawn.length eY) := (bY.alloc _).cell 1
      have qa_bY_2 : (w13.alloc (.cells #[.slice AK x.nums.length cK, .slice DK x.drawn.length eK, .int .i64 x.st] 26)).cell? ⟨w6.heap.size, 2, none⟩ = some (.int .i64 y.st) := (bY.alloc _).cell 2
      have qa_bZ_0 : (w13.alloc (.cells #[.slice AK x.nums.length cK, .slice DK x.drawn.length eK, .int .i64 x.st] 26)).cell? ⟨w8.heap.size, 0, none⟩ = some (.slice AZ y.nums.length cZ) := (bZ.alloc _).cell 0
      have qa_bZ_1 : (w13.alloc (.cells #[.slice AK x.nums.length cK, .slice DK x.drawn.length eK, .int .i64 x.st] 26)).cell? ⟨w8.heap.size, 1, none⟩ = some (.slice DZ y.drawn.length eZ) := (bZ.alloc _).cell 1
      have qa_bZ_2 : (w13.alloc (.cells #[.slice AK x.nums.length cK, .slice DK x.drawn.length eK, .int .i64 x.st] 26)).cell? ⟨w8.heap.size, 2, none⟩ = some (.int .i64 y.st) := (bZ.alloc _).cell 2
      have qn_0 : (w13.alloc (.cells #[.slice AK x.nums.length cK, .slice DK x.drawn.length eK, .int .i64 x.st] 26)).cell? ⟨w13.heap.size, 0, none⟩ = some (.slice AK x.nums.length cK) := (Blk.new w13 26 #[.slice AK x.nums.length cK, .slice DK x.drawn.length eK, .int .i64 x.st]).cell 0
      have qn_1 : (w13.alloc (.cells #[.slice AK x.nums.length cK, .slice DK x.drawn.length eK, .int .i64 x.st] 26)).cell? ⟨w13.heap.size, 1, none⟩ = some (.slice DK x.drawn.length eK) := (Blk.new w13 26 #[.slice AK x.nums.length cK, .slice DK x.drawn.length eK, .int .i64 x.st]).cell 1
      have qn_2 : (w13.alloc (.cells #[.slice AK x.nums.length cK, .slice DK x.drawn.length eK, .int .i64 x.st] 26)).cell? ⟨w13.heap.size, 2, none⟩ = some (.int .i64 x.st) := (Blk.new w13 26 #[.slice AK x.nums.length cK, .slice DK x.drawn.length eK, .int .i64 x.st]).cell 2
      go_wp2_with fail
      clear q_bX_0 q_bX_1 q_bX_2 q_bY_0 q_bY_1 q_bY_2 q_bZ_0 q_bZ_1 q_bZ_2 qa_bX_0 qa_bX_1 qa_bX_2 qa_bY_0 qa_bY_1 qa_bY_2 qa_bZ_0 qa_bZ_1 qa_bZ_2 qn_0 qn_1 qn_2
      have hb14 : Below w13.heap.size w13 (w13.alloc (.cells #[.slice AK x.nums.length cK, .slice DK x.drawn.length eK, .int .i64 x.st] 26)) := (Below.refl _ _).alloc (Nat.le_refl _) _
      have bx := Blk.new w13 26 #[.slice AK x.nums.length cK, .slice DK x.drawn.length eK, .int .i64 x.st]
      generalize (w13.alloc (.cells #[.slice AK x.nums.length cK, .slice DK x.drawn.length eK, .int .i64 x.st] 26)) = w14 at *
      have z14 := hb14.size
      have sN := (sN.below hb14 (Nat.le_refl _)).more (Nat.le_refl _) hb14.size
      have sD := (sD.below hb14 (Nat.le_refl _)).more (Nat.le_refl _) hb14.size
      have sYn := (sYn.below hb14 (Nat.le_refl _)).more (Nat.le_refl _) hb14.size
      have sYd := (sYd.below hb14 (Nat.le_refl _)).more (Nat.le_refl _) hb14.size
      have sZn := (sZn.below hb14 (Nat.le_refl _)).more (Nat.le_refl _) hb14.size
      have sZd := (sZd.below hb14 (Nat.le_refl _)).more (Nat.le_refl _) hb14.size
      have sKn := (sKn.below hb14 (Nat.le_refl _)).more (Nat.le_refl _) hb14.size
      have sKd := (sKd.below hb14 (Nat.le_refl _)).more (Nat.le_refl _) hb14.size
      have bX := bX.below' hb14
      have bY := bY.below' hb14
      have bZ := bZ.below' hb14
      have B14 := Below.trans B13 (Below.mono hb14 B13.size)
      clear hb14 B13
      have bK := bx
      clear bx
      refine (likePool_same _ _ _ _ _ _ _ _ _ _ sKn sKd sN sD).mono ?_
      rintro e w15 ⟨rfl, hb15⟩
      have z15 := hb15.size
      have sN := (sN.below hb15 (Nat.le_refl _)).more (Nat.le_refl _) hb15.size
      have sD := (sD.below hb15 (Nat.le_refl _)).more (Nat.le_refl _) hb15.size
      have sYn := (sYn.below hb15 (Nat.le_refl _)).more (Nat.le_refl _) hb15.size
      have sYd := (sYd.below hb15 (Nat.le_refl _)).more (Nat.le_refl _) hb15.size
      have sZn := (sZn.below hb15 (Nat.le_refl _)).more (Nat.le_refl _) hb15.size
      have sZd := (sZd.below hb15 (Nat.le_refl _)).more (Nat.le_refl _) hb15.size
      have sKn := (sKn.below hb15 (Nat.le_refl _)).more (Nat.le_refl _) hb15.size
      have sKd := (sKd.below hb15 (Nat.le_refl _)).more (Nat.le_refl _) hb15.size
      have bX := bX.below' hb15
      have bY := bY.below' hb15
      have bZ := bZ.below' hb15
      have bK := bK.below' hb15
      have B15 := Below.trans B14 (Below.mono hb15 B14.size)
      clear hb15 B14
      have q_bX_0 : w15.cell? ⟨w1.heap.size, 0, none⟩ = some (.slice X x.nums.length cX) := bX.cell 0
      have q_bX_1 : w15.cell? ⟨w1.heap.size, 1, none⟩ = some (.slice XD x.drawn.length cXD) := bX.cell 1
      have q_bX_2 : w15.cell? ⟨w1.heap.size, 2, none⟩ = some (.int .i64 x.st) := bX.cell 2
      have q_bY_0 : w15.cell? ⟨w6.heap.size, 0, none⟩ = some (.slice AY y.nums.length cY) := bY.cell 0
      have q_bY_1 : w15.cell? ⟨w6.heap.size, 1, none⟩ = some (.slice DY y.drawn.length eY) := bY.cell 1
      have q_bY_2 : w15.cell? ⟨w6.heap.size, 2, none⟩ = some (.int .i64 y.st) := bY.cell 2
      have q_bZ_0 : w15.cell? ⟨w8.heap.size, 0, none⟩ = some (.slice AZ y.nums.length cZ) := bZ.cell 0
      have q_bZ_1 : w15.cell? ⟨w8.heap.size, 1, none⟩ = some (.slice DZ y.drawn.length eZ) := bZ.cell 1
      have q_bZ_2 : w15.cell? ⟨w8.heap.size, 2, none⟩ = some (.int .i64 y.st) := bZ.cell 2
      have q_bK_0 : w15.cell? ⟨w13.heap.size, 0, none⟩ = some (.slice AK x.nums.length cK) := bK.cell 0
      have q_bK_1 : w15.cell? ⟨w13.heap.size, 1, none⟩ = some (.slice DK x.drawn.length eK) := bK.cell 1
      have q_bK_2 : w15.cell? ⟨w13.heap.size, 2, none⟩ = some (.int .i64 x.st) := bK.cell 2
      go_wp2_with fail
      clear q_bX_0 q_bX_1 q_bX_2 q_bY_0 q_bY_1 q_bY_2 q_bZ_0 q_bZ_1 q_bZ_2 q_bK_0 q_bK_1 q_bK_2
      go_ret
      exact ⟨rfl, B15⟩
    · clear HR
      have EK : RPg rdF rdF ts.data.toList = (x, 0) := by rw [← HTS.out, str_data, htb]; exact RP_textP hok
      have hsz : ts.size ≤ 1048576 := by rw [← HTS.out, htb]; exact Nat.le_trans (textP_size hok) (by decide)
      have CK := implReadPool_any ts w11 w.heap.size (hE.on B11) B11.size hsz
      rw [EK] at CK
      clear EK hsz htb hok
      have q_bX_0 : w11.cell? ⟨w1.heap.size, 0, none⟩ = some (.slice X x.nums.length cX) := bX.cell 0
      have q_bX_1 : w11.cell? ⟨w1.heap.size, 1, none⟩ = some (.slice XD x.drawn.length cXD) := bX.cell 1
      have q_bX_2 : w11.cell? ⟨w1.heap.size, 2, none⟩ = some (.int .i64 x.st) := bX.cell 2
      have q_bY_0 : w11.cell? ⟨w6.heap.size, 0, none⟩ = some (.slice AY y.nums.length cY) := bY.cell 0
      have q_bY_1 : w11.cell? ⟨w6.heap.size, 1, none⟩ = some (.slice DY y.drawn.length eY) := bY.cell 1
      have q_bY_2 : w11.cell? ⟨w6.heap.size, 2, none⟩ = some (.int .i64 y.st) := bY.cell 2
      have q_bZ_0 : w11.cell? ⟨w8.heap.size, 0, none⟩ = some (.slice AZ y.nums.length cZ) := bZ.cell 0
      have q_bZ_1 : w11.cell? ⟨w8.heap.size, 1, none⟩ = some (.slice DZ y.drawn.length eZ) := bZ.cell 1
      have q_bZ_2 : w11.cell? ⟨w8.heap.size, 2, none⟩ = some (.int .i64 y.st) := bZ.cell 2
      go_wp2_with fail
      clear q_bX_0 q_bX_1 q_bX_2 q_bY_0 q_bY_1 q_bY_2 q_bZ_0 q_bZ_1 q_bZ_2
      refine CK.mono ?_
      clear CK
      rintro e w12 ⟨xn12, xd12, Q12, rfl, o12n, o12d, hQ12, hq12, hb12⟩
      have z12 := hb12.size
      have sN := (sN.below hb12 (Nat.le_refl _)).more (Nat.le_refl _) hb12.size
      have sD := (sD.below hb12 (Nat.le_refl _)).more (Nat.le_refl _) hb12.size
      have sYn := (sYn.below hb12 (Nat.le_refl _)).more (Nat.le_refl _) hb12.size
      have sYd := (sYd.below hb12 (Nat.le_refl _)).more (Nat.le_refl _) hb12.size
      have sZn := (sZn.below hb12 (Nat.le_refl _)).more (Nat.le_refl _) hb12.size
      have sZd := (sZd.below hb12 (Nat.le_refl _)).more (Nat.le_refl _) hb12.size
      have bX := bX.below' hb12
      have bY := bY.below' hb12
      have bZ := bZ.below' hb12
      have B12 := Below.trans B11 (Below.mono hb12 B11.size)
      clear hb12 B11
      have sKn := OwI.rd (f := i64s) (s := 1) (fun _ => rfl) o12n
      have sKd := OwI.rd (f := i64s) (s := 1) (fun _ => rfl) o12d
      clear o12n o12d
      obtain ⟨AK, cK, rfl, _, _⟩ := sKn.form
      obtain ⟨DK, eK, rfl, _, _⟩ := sKd.form
      have q_bX_0 : w12.cell? ⟨w1.heap.size, 0, none⟩ = some (.slice X x.nums.length cX) := bX.cell 0
      have q_bX_1 : w12.cell? ⟨w1.heap.size, 1, none⟩ = some (.slice XD x.drawn.length cXD) := bX.cell 1
      have q_bX_2 : w12.cell? ⟨w1.heap.size, 2, none⟩ = some (.int .i64 x.st) := bX.cell 2
      have q_bY_0 : w12.cell? ⟨w6.heap.size, 0, none⟩ = some (.slice AY y.nums.length cY) := bY.cell 0
      have q_bY_1 : w12.cell? ⟨w6.heap.size, 1, none⟩ = some (.slice DY y.drawn.length eY) := bY.cell 1
      have q_bY_2 : w12.cell? ⟨w6.heap.size, 2, none⟩ = some (.int .i64 y.st) := bY.cell 2
      have q_bZ_0 : w12.cell? ⟨w8.heap.size, 0, none⟩ = some (.slice AZ y.nums.length cZ) := bZ.cell 0
      have q_bZ_1 : w12.cell? ⟨w8.heap.size, 1, none⟩ = some (.slice DZ y.drawn.length eZ) := bZ.cell 1
      have q_bZ_2 : w12.cell? ⟨w8.heap.size, 2, none⟩ = some (.int .i64 y.st) := bZ.cell 2
      have qa_bX_0 : (w12.alloc (.cells #[.slice AK x.nums.length cK, .slice DK x.drawn.length eK, .int .i64 x.st] 26)).cell? ⟨w1.heap.size, 0, none⟩ = some (.slice X x.nums.length cX) := (bX.alloc _).cell 0
      have qa_bX_1 : (w12.alloc (.cells #[.slice AK x.nums.length cK, .slice DK x.drawn.length eK, .int .i64 x.st] 26)).cell? ⟨w1.heap.size, 1, none⟩ = some (.slice XD x.drawn.length cXD) := (bX.alloc _).cell 1
      have qa_bX_2 : (w12.alloc (.cells #[.slice AK x.nums.length cK, .slice DK x.drawn.length eK, .int .i64 x.st] 26)).cell? ⟨w1.heap.size, 2, none⟩ = some (.int .i64 x.st) := (bX.alloc _).cell 2
      have qa_bY_0 : (w12.alloc (.cells #[.slice AK x.nums.length cK, .slice DK x.drawn.length eK, .int .i64 x.st] 26)).cell? ⟨w6.heap.size, 0, none⟩ = some (.slice AY y.nums.length cY) := (bY.alloc _).cell 0
      have qa_bY_1 : (w12.alloc (.cells #[.slice AK x.nums.length cK, .slice DK x.drawn.length eK, .int .i64 x.st] 26)).cell? ⟨w6.heap.size, 1, none⟩ = some (.slice DY y.drawn.length eY) := (bY.alloc _).cell 1
      have qa_bY_2 : (w12.alloc (.cells #[.slice AK x.nums.length cK, .slice DK x.drawn.length eK, .int .i64 x.st] 26)).cell? ⟨w6.heap.size, 2, none⟩ = some (.int .i64 y.st) := (bY.alloc _).cell 2
      have qa_bZ_0 : (w12.alloc (.cells #[.slice AK x.nums.length cK, .slice DK x.drawn.length eK, .int .i64 x.st] 26)).cell? ⟨w8.heap.size, 0, none⟩ = some (.slice AZ y.nums.length cZ) := (bZ.alloc _).cell 0
      have qa_bZ_1 : (w12.alloc (.cells #[.slice AK x.nums.length cK, .slice DK x.drawn.length eK, .int .i64 x.st] 26)).cell? ⟨w8.heap.size, 1, none⟩ = some (.slice DZ y.drawn.length eZ) := (bZ.alloc _).cell 1
      have qa_bZ_2 : (w12.alloc (.cells #[.slice AK x.nums.length cK, .slice DK x.drawn.length eK, .int .i64 x.st] 26)).cell? ⟨w8.heap.size, 2, none⟩ = some (.int .i64 y.st) := (bZ.alloc _).cell 2
      have qn_0 : (w12.alloc (.cells #[.slice AK x.nums.length cK, .slice DK x.drawn.length eK, .int .i64 x.st] 26)).cell? ⟨w12.heap.size, 0, none⟩ = some (.slice AK x.nums.length cK) := (Blk.new w12 26 #[.slice AK x.nums.length cK, .slice DK x.drawn.length eK, .int .i64 x.st]).cell 0
      have qn_1 : (w12.alloc (.cells #[.slice AK x.nums.length cK, .slice DK x.drawn.length eK, .int .i64 x.st] 26)).cell? ⟨w12.heap.size, 1, none⟩ = some (.slice DK x.drawn.length eK) := (Blk.new w12 26 #[.slice AK x.nums.length cK, .slice DK x.drawn.length eK, .int .i64 x.st]).cell 1
      have qn_2 : (w12.alloc (.cells #[.slice AK x.nums.length cK, .slice DK x.drawn.length eK, .int .i64 x.st] 26)).cell? ⟨w12.heap.size, 2, none⟩ = some (.int .i64 x.st) := (Blk.new w12 26 #[.slice AK x.nums.length cK, .slice DK x.drawn.length eK, .int .i64 x.st]).cell 2
      go_wp2_with fail
      clear q_bX_0 q_bX_1 q_bX_2 q_bY_0 q_bY_1 q_bY_2 q_bZ_0 q_bZ_1 q_bZ_2 qa_bX_0 qa_bX_1 qa_bX_2 qa_bY_0 qa_bY_1 qa_bY_2 qa_bZ_0 qa_bZ_1 qa_bZ_2 qn_0 qn_1 qn_2
      have hb13 : Below w12.heap.size w12 (w12.alloc (.cells #[.slice AK x.nums.length cK, .slice DK x.drawn.length eK, .int .i64 x.st] 26)) := (Below.refl _ _).alloc (Nat.le_refl _) _
      have bx := Blk.new w12 26 #[.slice AK x.nums.length cK, .slice DK x.drawn.length eK, .int .i64 x.st]
      generalize (w12.alloc (.cells #[.slice AK x.nums.length cK, .slice DK x.drawn.length eK, .int .i64 x.st] 26)) = w13 at *
      have z13 := hb13.size
      have sN := (sN.below hb13 (Nat.le_refl _)).more (Nat.le_refl _) hb13.size
      have sD := (sD.below hb13 (Nat.le_refl _)).more (Nat.le_refl _) hb13.size
      have sYn := (sYn.below hb13 (Nat.le_refl _)).more (Nat.le_refl _) hb13.size
      have sYd := (sYd.below hb13 (Nat.le_refl _)).more (Nat.le_refl _) hb13.size
      have sZn := (sZn.below hb13 (Nat.le_refl _)).more (Nat.le_refl _) hb13.size
      have sZd := (sZd.below hb13 (Nat.le_refl _)).more (Nat.le_refl _) hb13.size
      have sKn := (sKn.below hb13 (Nat.le_refl _)).more (Nat.le_refl _) hb13.size
      have sKd := (sKd.below hb13 (Nat.le_refl _)).more (Nat.le_refl _) hb13.size
      have bX := bX.below' hb13
      have bY := bY.below' hb13
      have bZ := bZ.below' hb13
      have B13 := Below.trans B12 (Below.mono hb13 B12.size)
      clear hb13 B12
      have bK := bx
      clear bx
      refine (likePool_same _ _ _ _ _ _ _ _ _ _ sKn sKd sN sD).mono ?_
      rintro e w14 ⟨rfl, hb14⟩
      have z14 := hb14.size
      have sN := (sN.below hb14 (Nat.le_refl _)).more (Nat.le_refl _) hb14.size
      have sD := (sD.below hb14 (Nat.le_refl _)).more (Nat.le_refl _) hb14.size
      have sYn := (sYn.below hb14 (Nat.le_refl _)).more (Nat.le_refl _) hb14.size
      have sYd := (sYd.below hb14 (Nat.le_refl _)).more (Nat.le_refl _) hb14.size
      have sZn := (sZn.below hb14 (Nat.le_refl _)).more (Nat.le_refl _) hb14.size
      have sZd := (sZd.below hb14 (Nat.le_refl _)).more (Nat.le_refl _) hb14.size
      have sKn := (sKn.below hb14 (Nat.le_refl _)).more (Nat.le_refl _) hb14.size
      have sKd := (sKd.below hb14 (Nat.le_refl _)).more (Nat.le_refl _) hb14.size
      have bX := bX.below' hb14
      have bY := bY.below' hb14
      have bZ := bZ.below' hb14
      have bK := bK.below' hb14
      have B14 := Below.trans B13 (Below.mono hb14 B13.size)
      clear hb14 B13
      have q_bX_0 : w14.cell? ⟨w1.heap.size, 0, none⟩ = some (.slice X x.nums.length cX) := bX.cell 0
      have q_bX_1 : w14.cell? ⟨w1.heap.size, 1, none⟩ = some (.slice XD x.drawn.length cXD) := bX.cell 1
      have q_bX_2 : w14.cell? ⟨w1.heap.size, 2, none⟩ = some (.int .i64 x.st) := bX.cell 2
      have q_bY_0 : w14.cell? ⟨w6.heap.size, 0, none⟩ = some (.slice AY y.nums.length cY) := bY.cell 0
      have q_bY_1 : w14.cell? ⟨w6.heap.size, 1, none⟩ = some (.slice DY y.drawn.length eY) := bY.cell 1
      have q_bY_2 : w14.cell? ⟨w6.heap.size, 2, none⟩ = some (.int .i64 y.st) := bY.cell 2
      have q_bZ_0 : w14.cell? ⟨w8.heap.size, 0, none⟩ = some (.slice AZ y.nums.length cZ) := bZ.cell 0
      have q_bZ_1 : w14.cell? ⟨w8.heap.size, 1, none⟩ = some (.slice DZ y.drawn.length eZ) := bZ.cell 1
      have q_bZ_2 : w14.cell? ⟨w8.heap.size, 2, none⟩ = some (.int .i64 y.st) := bZ.cell 2
      have q_bK_0 : w14.cell? ⟨w12.heap.size, 0, none⟩ = some (.slice AK x.nums.length cK) := bK.cell 0
      have q_bK_1 : w14.cell? ⟨w12.heap.size, 1, none⟩ = some (.slice DK x.drawn.length eK) := bK.cell 1
      have q_bK_2 : w14.cell? ⟨w12.heap.size, 2, none⟩ = some (.int .i64 x.st) := bK.cell 2
      go_wp2_with fail
      clear q_bX_0 q_bX_1 q_bX_2 q_bY_0 q_bY_1 q_bY_2 q_bZ_0 q_bZ_1 q_bZ_2 q_bK_0 q_bK_1 q_bK_2
      go_ret
      exact ⟨rfl, B14⟩
  · skip
    clear HT
    have q_bX_0 : w8.cell? ⟨w1.heap.size, 0, none⟩ = some (.slice X x.nums.length cX) := bX.cell 0
    have q_bX_1 : w8.cell? ⟨w1.heap.size, 1, none⟩ = some (.slice XD x.drawn.length cXD) := bX.cell 1
    have q_bX_2 : w8.cell? ⟨w1.heap.size, 2, none⟩ = some (.int .i64 x.st) := bX.cell 2
    have q_bY_0 : w8.cell? ⟨w6.heap.size, 0, none⟩ = some (.slice AY y.nums.length cY) := bY.cell 0
    have q_bY_1 : w8.cell? ⟨w6.heap.size, 1, none⟩ = some (.slice DY y.drawn.length eY) := bY.cell 1
    have q_bY_2 : w8.cell? ⟨w6.heap.size, 2, none⟩ = some (.int .i64 y.st) := bY.cell 2
    have qa_bX_0 : (w8.alloc (.cells #[.slice AZ y.nums.length cZ, .slice DZ y.drawn.length eZ, .int .i64 y.st] 26)).cell? ⟨w1.heap.size, 0, none⟩ = some (.slice X x.nums.length cX) := (bX.alloc _).cell 0
    have qa_bX_1 : (w8.alloc (.cells #[.slice AZ y.nums.length cZ, .slice DZ y.drawn.length eZ, .int .i64 y.st] 26)).cell? ⟨w1.heap.size, 1, none⟩ = some (.slice XD x.drawn.length cXD) := (bX.alloc _).cell 1
    have qa_bX_2 : (w8.alloc (.cells #[.slice AZ y.nums.length cZ, .slice DZ y.drawn.length eZ, .int .i64 y.st] 26)).cell? ⟨w1.heap.size, 2, none⟩ = some (.int .i64 x.st) := (bX.alloc _).cell 2
    have qa_bY_0 : (w8.alloc (.cells #[.slice AZ y.nums.length cZ, .slice DZ y.drawn.length eZ, .int .i64 y.st] 26)).cell? ⟨w6.heap.size, 0, none⟩ = some (.slice AY y.nums.length cY) := (bY.alloc _).cell 0
    have qa_bY_1 : (w8.alloc (.cells #[.slice AZ y.nums.length cZ, .slice DZ y.drawn.length eZ, .int .i64 y.st] 26)).cell? ⟨w6.heap.size, 1, none⟩ = some (.slice DY y.drawn.length eY) := (bY.alloc _).cell 1
    have qa_bY_2 : (w8.alloc (.cells #[.slice AZ y.nums.length cZ, .slice DZ y.drawn.length eZ, .int .i64 y.st] 26)).cell? ⟨w6.heap.size, 2, none⟩ = some (.int .i64 y.st) := (bY.alloc _).cell 2
    have qn_0 : (w8.alloc (.cells #[.slice AZ y.nums.length cZ, .slice DZ y.drawn.length eZ, .int .i64 y.st] 26)).cell? ⟨w8.heap.size, 0, none⟩ = some (.slice AZ y.nums.length cZ) := (Blk.new w8 26 #[.slice AZ y.nums.length cZ, .slice DZ y.drawn.length eZ, .int .i64 y.st]).cell 0
    have qn_1 : (w8.alloc (.cells #[.slice AZ y.nums.length cZ, .slice DZ y.drawn.length eZ, .int .i64 y.st] 26)).cell? ⟨w8.heap.size, 1, none⟩ = some (.slice DZ y.drawn.length eZ) := (Blk.new w8 26 #[.slice AZ y.nums.length cZ, .slice DZ y.drawn.length eZ, .int .i64 y.st]).cell 1
    have qn_2 : (w8.alloc (.cells #[.slice AZ y.nums.length cZ, .slice DZ y.drawn.length eZ, .int .i64 y.st] 26)).cell? ⟨w8.heap.size, 2, none⟩ = some (.int .i64 y.st) := (Blk.new w8 26 #[.slice AZ y.nums.length cZ, .slice DZ y.drawn.length eZ, .int .i64 y.st]).cell 2
    go_wp2_with fail
    clear q_bX_0 q_bX_1 q_bX_2 q_bY_0 q_bY_1 q_bY_2 qa_bX_0 qa_bX_1 qa_bX_2 qa_bY_0 qa_bY_1 qa_bY_2 qn_0 qn_1 qn_2
    have hb9 : Below w8.heap.size w8 (w8.alloc (.cells #[.slice AZ y.nums.length cZ, .slice DZ y.drawn.length eZ, .int .i64 y.st] 26)) := (Below.refl _ _).alloc (Nat.le_refl _) _
    have bx := Blk.new w8 26 #[.slice AZ y.nums.length cZ, .slice DZ y.drawn.length eZ, .int .i64 y.st]
    generalize (w8.alloc (.cells #[.slice AZ y.nums.length cZ, .slice DZ y.drawn.length eZ, .int .i64 y.st] 26)) = w9 at *
    have z9 := hb9.size
    have sN := (sN.below hb9 (Nat.le_refl _)).more (Nat.le_refl _) hb9.size
    have sD := (sD.below hb9 (Nat.le_refl _)).more (Nat.le_refl _) hb9.size
    have sYn := (sYn.below hb9 (Nat.le_refl _)).more (Nat.le_refl _) hb9.size
    have sYd := (sYd.below hb9 (Nat.le_refl _)).more (Nat.le_refl _) hb9.size
    have sZn := (sZn.below hb9 (Nat.le_refl _)).more (Nat.le_refl _) hb9.size
    have sZd := (sZd.below hb9 (Nat.le_refl _)).more (Nat.le_refl _) hb9.size
    have bX := bX.below' hb9
    have bY := bY.below' hb9
    have B9 := Below.trans B8 (Below.mono hb9 B8.size)
    clear hb9 B8
    have bZ := bx
    clear bx
    refine (likePool_same _ _ _ _ _ _ _ _ _ _ sYn sYd sZn sZd).mono ?_
    rintro e w10 ⟨rfl, hb10⟩
    have z10 := hb10.size
    have sN := (sN.below hb10 (Nat.le_refl _)).more (Nat.le_refl _) hb10.size
    have sD := (sD.below hb10 (Nat.le_refl _)).more (Nat.le_refl _) hb10.size
    have sYn := (sYn.below hb10 (Nat.le_refl _)).more (Nat.le_refl _) hb10.size
    have sYd := (sYd.below hb10 (Nat.le_refl _)).more (Nat.le_refl _) hb10.size
    have sZn := (sZn.below hb10 (Nat.le_refl _)).more (Nat.le_refl _) hb10.size
    have sZd := (sZd.below hb10 (Nat.le_refl _)).more (Nat.le_refl _) hb10.size
    have bX := bX.below' hb10
    have bY := bY.below' hb10
    have bZ := bZ.below' hb10
    have B10 := Below.trans B9 (Below.mono hb10 B9.size)
    clear hb10 B9
    have q_bX_0 : w10.cell? ⟨w1.heap.size, 0, none⟩ = some (.slice X x.nums.length cX) := bX.cell 0
    have q_bX_1 : w10.cell? ⟨w1.heap.size, 1, none⟩ = some (.slice XD x.drawn.length cXD) := bX.cell 1
    have q_bX_2 : w10.cell? ⟨w1.heap.size, 2, none⟩ = some (.int .i64 x.st) := bX.cell 2
    have q_bY_0 : w10.cell? ⟨w6.heap.size, 0, none⟩ = some (.slice AY y.nums.length cY) := bY.cell 0
    have q_bY_1 : w10.cell? ⟨w6.heap.size, 1, none⟩ = some (.slice DY y.drawn.length eY) := bY.cell 1
    have q_bY_2 : w10.cell? ⟨w6.heap.size, 2, none⟩ = some (.int .i64 y.st) := bY.cell 2
    have q_bZ_0 : w10.cell? ⟨w8.heap.size, 0, none⟩ = some (.slice AZ y.nums.length cZ) := bZ.cell 0
    have q_bZ_1 : w10.cell? ⟨w8.heap.size, 1, none⟩ = some (.slice DZ y.drawn.length eZ) := bZ.cell 1
    have q_bZ_2 : w10.cell? ⟨w8.heap.size, 2, none⟩ = some (.int .i64 y.st) := bZ.cell 2
    go_wp2_with fail
    clear q_bX_0 q_bX_1 q_bX_2 q_bY_0 q_bY_1 q_bY_2 q_bZ_0 q_bZ_1 q_bZ_2
    refine (implIsPool_any _ _ x _ _ _ sN sD).mono ?_
    rintro e w11 ⟨rfl, hb11⟩
    have z11 := hb11.size
    have sN := (sN.below hb11 (Nat.le_refl _)).more (Nat.le_refl _) hb11.size
    have sD := (sD.below hb11 (Nat.le_refl _)).more (Nat.le_refl _) hb11.size
    have sYn := (sYn.below hb11 (Nat.le_refl _)).more (Nat.le_refl _) hb11.size
    have sYd := (sYd.below hb11 (Nat.le_refl _)).more (Nat.le_refl _) hb11.size
    have sZn := (sZn.below hb11 (Nat.le_refl _)).more (Nat.le_refl _) hb11.size
    have sZd := (sZd.below hb11 (Nat.le_refl _)).more (Nat.le_refl _) hb11.size
    have bX := bX.below' hb11
    have bY := bY.below' hb11
    have bZ := bZ.below' hb11
    have B11 := Below.trans B10 (Below.mono hb11 B10.size)
    clear hb11 B10
    rw [hok]
    rcases HR.out with ⟨rfl, hy, hsy⟩ | rfl
    · clear HR
      have E2 : textPF y = (textP y, 0) := by rw [textPF, if_pos hy]
      have ES : str (textP y) = s := (str_eq _ _).2 hsy.symm
      have CT := implPoolText_any _ _ y _ _ _ sYn sYd w.heap.size (hE.tab.on B11) B11.size
      rw [E2, ES] at CT
      have hbs := bl_eq s
      clear E2 ES hy hsy
      have q_bX_0 : w11.cell? ⟨w1.heap.size, 0, none⟩ = some (.slice X x.nums.length cX) := bX.cell 0
      have q_bX_1 : w11.cell? ⟨w1.heap.size, 1, none⟩ = some (.slice XD x.drawn.length cXD) := bX.cell 1
      have q_bX_2 : w11.cell? ⟨w1.heap.size, 2, none⟩ = some (.int .i64 x.st) := bX.cell 2
      have q_bY_0 : w11.cell? ⟨w6.heap.size, 0, none⟩ = some (.slice AY y.nums.length cY) := bY.cell 0
      have q_bY_1 : w11.cell? ⟨w6.heap.size, 1, none⟩ = some (.slice DY y.drawn.length eY) := bY.cell 1
      have q_bY_2 : w11.cell? ⟨w6.heap.size, 2, none⟩ = some (.int .i64 y.st) := bY.cell 2
      have q_bZ_0 : w11.cell? ⟨w8.heap.size, 0, none⟩ = some (.slice AZ y.nums.length cZ) := bZ.cell 0
      have q_bZ_1 : w11.cell? ⟨w8.heap.size, 1, none⟩ = some (.slice DZ y.drawn.length eZ) := bZ.cell 1
      have q_bZ_2 : w11.cell? ⟨w8.heap.size, 2, none⟩ = some (.int .i64 y.st) := bZ.cell 2
      go_wp2_with fail
      clear q_bX_0 q_bX_1 q_bX_2 q_bY_0 q_bY_1 q_bY_2 q_bZ_0 q_bZ_1 q_bZ_2
      refine CT.mono ?_
      clear CT
      rintro e w12 ⟨rfl, hb12⟩
      have z12 := hb12.size
      have sN := (sN.below hb12 (Nat.le_refl _)).more (Nat.le_refl _) hb12.size
      have sD := (sD.below hb12 (Nat.le_refl _)).more (Nat.le_refl _) hb12.size
      have sYn := (sYn.below hb12 (Nat.le_refl _)).more (Nat.le_refl _) hb12.size
      have sYd := (sYd.below hb12 (Nat.le_refl _)).more (Nat.le_refl _) hb12.size
      have sZn := (sZn.below hb12 (Nat.le_refl _)).more (Nat.le_refl _) hb12.size
      have sZd := (sZd.below hb12 (Nat.le_refl _)).more (Nat.le_refl _) hb12.size
      have bX := bX.below' hb12
      have bY := bY.below' hb12
      have bZ := bZ.below' hb12
      have B12 := Below.trans B11 (Below.mono hb12 B11.size)
      clear hb12 B11
      have q_bX_0 : w12.cell? ⟨w1.heap.size, 0, none⟩ = some (.slice X x.nums.length cX) := bX.cell 0
      have q_bX_1 : w12.cell? ⟨w1.heap.size, 1, none⟩ = some (.slice XD x.drawn.length cXD) := bX.cell 1
      have q_bX_2 : w12.cell? ⟨w1.heap.size, 2, none⟩ = some (.int .i64 x.st) := bX.cell 2
      have q_bY_0 : w12.cell? ⟨w6.heap.size, 0, none⟩ = some (.slice AY y.nums.length cY) := bY.cell 0
      have q_bY_1 : w12.cell? ⟨w6.heap.size, 1, none⟩ = some (.slice DY y.drawn.length eY) := bY.cell 1
      have q_bY_2 : w12.cell? ⟨w6.heap.size, 2, none⟩ = some (.int .i64 y.st) := bY.cell 2
      have q_bZ_0 : w12.cell? ⟨w8.heap.size, 0, none⟩ = some (.slice AZ y.nums.length cZ) := bZ.cell 0
      have q_bZ_1 : w12.cell? ⟨w8.heap.size, 1, none⟩ = some (.slice DZ y.drawn.length eZ) := bZ.cell 1
      have q_bZ_2 : w12.cell? ⟨w8.heap.size, 2, none⟩ = some (.int .i64 y.st) := bZ.cell 2
      go_wp2_with fail
      clear q_bX_0 q_bX_1 q_bX_2 q_bY_0 q_bY_1 q_bY_2 q_bZ_0 q_bZ_1 q_bZ_2
      go_ret
      exact ⟨rfl, B12⟩
    · clear HR
      have q_bX_0 : w11.cell? ⟨w1.heap.size, 0, none⟩ = some (.slice X x.nums.length cX) := bX.cell 0
      have q_bX_1 : w11.cell? ⟨w1.heap.size, 1, none⟩ = some (.slice XD x.drawn.length cXD) := bX.cell 1
      have q_bX_2 : w11.cell? ⟨w1.heap.size, 2, none⟩ = some (.int .i64 x.st) := bX.cell 2
      have q_bY_0 : w11.cell? ⟨w6.heap.size, 0, none⟩ = some (.slice AY y.nums.length cY) := bY.cell 0
      have q_bY_1 : w11.cell? ⟨w6.heap.size, 1, none⟩ = some (.slice DY y.drawn.length eY) := bY.cell 1
      have q_bY_2 : w11.cell? ⟨w6.heap.size, 2, none⟩ = some (.int .i64 y.st) := bY.cell 2
      have q_bZ_0 : w11.cell? ⟨w8.heap.size, 0, none⟩ = some (.slice AZ y.nums.length cZ) := bZ.cell 0
      have q_bZ_1 : w11.cell? ⟨w8.heap.size, 1, none⟩ = some (.slice DZ y.drawn.length eZ) := bZ.cell 1
      have q_bZ_2 : w11.cell? ⟨w8.heap.size, 2, none⟩ = some (.int .i64 y.st) := bZ.cell 2
      go_wp2_with fail
      clear q_bX_0 q_bX_1 q_bX_2 q_bY_0 q_bY_1 q_bY_2 q_bZ_0 q_bZ_1 q_bZ_2
      go_ret
      exact ⟨rfl, B11⟩

theorem walk (v0 : Value) (w : World) (g0 : ∃ zs : List Int, SlR u8s 1 w 0 w.heap.size v0 zs ∧ ∀ b ∈ zs, 0 ≤ b ∧ b ≤ 255) (hE : Env w.heap.size w) :
    Calls Tryz.prog 3 #[v0] w fun e w' => e = .returned (.bool true) ∧ Below w.heap.size w w' := by
  obtain ⟨bs, h, hb⟩ := g0
  exact walkL v0 bs w h hb hE

set_option maxRecDepth 100000 in
theorem lifted (os : Os) (started : os.Started) (H : Type) (enc : TypeId × Value → H) :
    ReturnsInHanded {} Tryz.checked os 3 .any (fun w args => (Rows.fnPoolTextsSpec.pre enc Tryz.prog Tryz.f3 [] false w args ∧ laidMetH Tryz.prog laid7 w) ∧ sizedMet enc Tryz.prog Tryz.f3 (OpenSpec.ofChange Rows.fnPoolTextsSpec) false w args)
      (Rows.fnPoolTextsSpec.post enc Tryz.prog Tryz.f3 false true false false) := by
  refine handed_and_shaped (C := Tryz.checked) (X := fun w _ => laidMetH Tryz.prog laid7 w) (fun _ _ _ hh h => metH7.2 ((metH7.1 h).of_heap hh)) own started (by kernel_rfl) Tryz.func3
    (ChangeSpec.witness_shaped (enc := enc) (C := Tryz.checked) (os := os) (X := fun w _ => laidMetH Tryz.prog laid7 w) false (World.laidAll Tryz.prog os laid7) #[.slice none 0 0] 8 (World.laidAll_os _ _ _) (World.shaped_of_ZipB (by kernel_rfl) (by kernel_rfl)) (by kernel_rfl) (by kernel_rfl) (by kernel_rfl) (metH7.2 (laidMet_laidAll _ (by kernel_rfl) (by kernel_rfl)))) ?_
  intro W base args ds gs before hval0 hW hL hSh
  have hval : ∀ (j : Nat) t v, Tryz.f3.params[j]? = some t → args[j]? = some v → Value.okWide Tryz.prog W .any base t v := hval0
  have hW' := hW
  obtain ⟨p, q, hA0, hV, rfl, hfz, hnd⟩ := hW
  have hA : DataW.TrodAll enc Tryz.prog W 0 (fun _ => true) true Tryz.f3.params.toList args.toList ds p := hA0
  rw [Tryz.params3] at hA hval
  obtain ⟨v0, vs0, d0, ds0, p0, q0, hargs, rfl, rfl, h0, r0⟩ := trodAll_cons hA
  obtain ⟨rfl, rfl, rfl⟩ := trodAll_nil r0
  obtain rfl : args = #[v0] := by cases args; simp_all
  obtain ⟨rfl, rfl⟩ := trodVars_none hV
  have lt0 : ∀ x ∈ p0, x.block < W.heap.size := by obtain ⟨m, hm⟩ := h0; exact DataW.trod_lt m _ _ _ hm
  have g0 := open_ByteS (hval 0 22 v0 rfl rfl) h0
  clear hA0 hval0
  refine (walk v0 W g0 (env_of7 (metH7.1 hL) hSh)).mono fun e W' ⟨he, bel⟩ => ?_
  subst he
  exact ⟨_, rfl, _, _, _, [], _, [], hW', trodAll_mk1 (shut_bool Tryz.underlying4 _), (trodAll_cons_mk (Below.trod laidOut (by kernel_rfl) (of_decide_eq_true (by kernel_rfl)) h0 bel lt0) trodAll_mk0), rfl, bel.frame _, fun h => by cases h⟩

theorem over : Rows.FnPoolTextsSaid :=
  OpenClaim.holds_of_wide 3 Tryz.f3 rfl rfl rfl rfl rfl rfl rfl ⟨rfl, rfl, rfl, rfl, rfl⟩ rfl rfl rfl rfl rfl (by kernel_rfl) Tryz.func3 (by kernel_rfl)
    (of_decide_eq_true (by kernel_rfl)) (by unfold Func.isWrapper; first | (rw [if_pos (by decide +kernel)]; kernel_rfl) | (rw [if_neg (by decide +kernel)]; exact ⟨rfl, rfl⟩))
    (fun os started H enc _ => lifted os started H enc)

theorem proved : Rows.FnPoolTextsCardSaid :=
  Claim7.holds_tied_plain_at .later [] [.data, .data, .data, .data, .sentinel, .sentinel, .pinned] true (true, "74c4a7ba50b1700a6457f1d9e0f21cc67fb1db3d6fb5fe0b60cb584d268998ed") true
    over (fun _ h => by cases h) (by kernel_rfl) (fun _ h => by cases h) fnPoolTexts_row_tie rfl ⟨rfl, rfl⟩ (by kernel_rfl) rfl
    (fun f fn hf hfn => by
      obtain rfl : f = 3 := Option.some.inj ((show Tryz.prog.funcNamed "loop.example/g01027/laws.FnPoolTexts" = some 3 by kernel_rfl).symm.trans hf) |>.symm
      obtain rfl : fn = Tryz.f3 := (Option.some.inj (Tryz.func3.symm.trans hfn)).symm
      exact ⟨by kernel_rfl, fun j t ht => by
        rw [Tryz.params3] at ht
        rcases j with _ | j
        · obtain rfl : t = 22 := by simpa using ht.symm
          exact (show Tryz.prog.wantsStandIn 22 = false by kernel_rfl)
        · simp at ht⟩)
    (by kernel_rfl)
#print axioms proved
end Go.Proofs.YtodfkbgifoecbaaGreatDoor.lawFnPoolTexts

