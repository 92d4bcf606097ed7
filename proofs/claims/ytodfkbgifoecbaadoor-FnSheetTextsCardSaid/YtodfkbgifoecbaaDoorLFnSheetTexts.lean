/- FnSheetTexts: for every input the law returns true, and each argument reads as it did. Its condition: the package-level variables that the row lists read as the program lays them. -/
import Derived.Test.YtodfkbgifoecbaaDoorTxQ
import Derived.Test.YtodfkbgifoecbaaDoorTxU
import Derived.Test.YtodfkbgifoecbaaDoorTxK
import Derived.Test.YtodfkbgifoecbaaDoorTxX
namespace Go.Proofs.YtodfkbgifoecbaaDoor.lawFnSheetTexts
open Go.ChangeShapes Go.WideShapes Go.ChangeAt Go.RowKit
open Go.Lib hiding intOf
attribute [local go_sem ↓] Go.wp_at_zero Go.wp_at_succ
set_option maxRecDepth 100000 in
set_option maxHeartbeats 8000000 in
theorem walkL (v : Value) (bs : List Int) (w : World) (h : SlR u8s 1 w 0 w.heap.size v bs) (hb : ∀ b ∈ bs, 0 ≤ b ∧ b ≤ 255) (hE : Env w.heap.size w) :
    Calls Tryd.prog 5 #[v] w fun e w' => e = .returned (.bool true) ∧ Below w.heap.size w w' := by
  have CB := big_any v bs w _ _ h
  by_cases hbig : 4096 < bs.length
  · rw [decide_eq_true hbig] at CB
    go_enter Tryd.func5, Tryd.ntmps5
    go_wp2_with fail
    refine CB.mono ?_
    rintro e w' ⟨rfl, rfl⟩
    go_wp2_with fail
    go_ret
    exact ⟨rfl, Below.refl _ _⟩
  rw [decide_eq_false hbig] at CB
  clear hbig
  obtain ⟨wz, hwz⟩ : ∃ wz, wz = w := ⟨_, rfl⟩
  have B0 : Below w.heap.size w w := Below.refl _ _
  go_enter Tryd.func5, Tryd.ntmps5
  go_wp2_with fail
  refine CB.mono ?_
  clear CB
  rintro e w' ⟨rfl, rfl⟩
  go_wp2_with fail
  refine (DrawSheetText_any v bs _ h hb).mono ?_
  rintro e w1 ⟨d, x, xs, rfl, sX, hxl, hb1⟩
  have z1 := hb1.size
  have B1 := Below.trans B0 (Below.mono hb1 B0.size)
  clear hb1 B0
  obtain ⟨X, cX, rfl, _, _⟩ := sX.form
  have qn_0 : (w1.alloc (.cells #[.int .i64 d, .slice X xs.length cX] 28)).cell? ⟨w1.heap.size, 0, none⟩ = some (.int .i64 d) := (Blk.new w1 28 #[.int .i64 d, .slice X xs.length cX]).cell 0
  have qn_1 : (w1.alloc (.cells #[.int .i64 d, .slice X xs.length cX] 28)).cell? ⟨w1.heap.size, 1, none⟩ = some (.slice X xs.length cX) := (Blk.new w1 28 #[.int .i64 d, .slice X xs.length cX]).cell 1
  go_wp2_with fail
  clear qn_0 qn_1
  have hb2 : Below w1.heap.size w1 (w1.alloc (.cells #[.int .i64 d, .slice X xs.length cX] 28)) := (Below.refl _ _).alloc (Nat.le_refl _) _
  have bx := Blk.new w1 28 #[.int .i64 d, .slice X xs.length cX]
  generalize (w1.alloc (.cells #[.int .i64 d, .slice X xs.length cX] 28)) = w2 at *
  have z2 := hb2.size
  have sX := (sX.below hb2 (Nat.le_refl _)).more (Nat.le_refl _) hb2.size
  have B2 := Below.trans B1 (Below.mono hb2 B1.size)
  clear hb2 B1
  have bX := bx
  clear bx
  refine (implSheetText_any d _ xs _ _ sX w.heap.size (hE.tab.on B2) B2.size).mono ?_
  rintro e w3 ⟨rfl, hb3⟩
  have z3 := hb3.size
  have sX := (sX.below hb3 (Nat.le_refl _)).more (Nat.le_refl _) hb3.size
  have bX := bX.below' hb3
  have B3 := Below.trans B2 (Below.mono hb3 B2.size)
  clear hb3 B2
  have q_bX_0 : w3.cell? ⟨w1.heap.size, 0, none⟩ = some (.int .i64 d) := bX.cell 0
  have q_bX_1 : w3.cell? ⟨w1.heap.size, 1, none⟩ = some (.slice X xs.length cX) := bX.cell 1
  go_wp2_with fail
  clear q_bX_0 q_bX_1
  refine (specSheetText_any d _ xs _ _ sX).mono ?_
  rintro e w4 ⟨rfl, hb4⟩
  have z4 := hb4.size
  have sX := (sX.below hb4 (Nat.le_refl _)).more (Nat.le_refl _) hb4.size
  have bX := bX.below' hb4
  have B4 := Below.trans B3 (Below.mono hb4 B3.size)
  clear hb4 B3
  have HT := Lib.hid (show (textF d xs).2 = 0 ∧ (textF d xs).1 = textH d xs ∧ okH d xs = true ∨ (textF d xs).2 = 1 ∧ okH d xs = false by
    rw [textF]
    cases okH d xs <;> simp)
  have hbe := bl_eq (str (textF d xs).1)
  generalize (textF d xs).1 = tb at *
  generalize (textF d xs).2 = tc at *
  obtain ⟨ts, hts⟩ : ∃ ts, str tb = ts := ⟨_, rfl⟩
  rw [hts] at hbe
  rw [hts]
  have HTS := Lib.hid hts
  clear hts
  have q_bX_0 : w4.cell? ⟨w1.heap.size, 0, none⟩ = some (.int .i64 d) := bX.cell 0
  have q_bX_1 : w4.cell? ⟨w1.heap.size, 1, none⟩ = some (.slice X xs.length cX) := bX.cell 1
  go_wp2_with fail
  clear q_bX_0 q_bX_1
  refine (DrawReadSheet_any v bs _ ((h.below B4 (Nat.le_refl _)).more (Nat.le_refl _) B4.size) hb).mono ?_
  rintro e w5 ⟨s, rfl, hs, hb5⟩
  have z5 := hb5.size
  have sX := (sX.below hb5 (Nat.le_refl _)).more (Nat.le_refl _) hb5.size
  have bX := bX.below' hb5
  have B5 := Below.trans B4 (Below.mono hb5 B4.size)
  clear hb5 B4
  have CI := implReadSheet_any s w5 w.heap.size (hE.on B5) B5.size hs
  have HC := Lib.hid (fun W => specReadSheet_any s W hs)
  simp only [rh_eq] at HC
  have HR := Lib.hid (show (implRH s.data.toList).2 = 0 ∧ okH (implRH s.data.toList).1.1 (implRH s.data.toList).1.2 = true ∧ s.data.toList = textH (implRH s.data.toList).1.1 (implRH s.data.toList).1.2 ∨ (implRH s.data.toList).2 = 6 by
    rcases implRH_code s.data.toList with h | h
    · exact .inl ⟨h, implRH_ok h⟩
    · exact .inr (by rw [h]))
  generalize (implRH s.data.toList).1.1 = d2 at *
  generalize (implRH s.data.toList).1.2 = ys at *
  generalize (implRH s.data.toList).2 = cd at *
  have q_bX_0 : w5.cell? ⟨w1.heap.size, 0, none⟩ = some (.int .i64 d) := bX.cell 0
  have q_bX_1 : w5.cell? ⟨w1.heap.size, 1, none⟩ = some (.slice X xs.length cX) := bX.cell 1
  go_wp2_with fail
  clear q_bX_0 q_bX_1
  refine CI.mono ?_
  clear CI
  rintro e w6 ⟨x6, rfl, o6, hb6⟩
  have z6 := hb6.size
  have sX := (sX.below hb6 (Nat.le_refl _)).more (Nat.le_refl _) hb6.size
  have bX := bX.below' hb6
  have B6 := Below.trans B5 (Below.mono hb6 B5.size)
  clear hb6 B5
  have sY := own_slR (f := i64s) (s := 1) (fun _ => rfl) (OwnR.own o6)
  clear o6
  obtain ⟨AY, cY, rfl, _, _⟩ := sY.form
  have q_bX_0 : w6.cell? ⟨w1.heap.size, 0, none⟩ = some (.int .i64 d) := bX.cell 0
  have q_bX_1 : w6.cell? ⟨w1.heap.size, 1, none⟩ = some (.slice X xs.length cX) := bX.cell 1
  have qa_bX_0 : (w6.alloc (.cells #[.int .i64 d2, .slice AY ys.length cY] 28)).cell? ⟨w1.heap.size, 0, none⟩ = some (.int .i64 d) := (bX.alloc _).cell 0
  have qa_bX_1 : (w6.alloc (.cells #[.int .i64 d2, .slice AY ys.length cY] 28)).cell? ⟨w1.heap.size, 1, none⟩ = some (.slice X xs.length cX) := (bX.alloc _).cell 1
  have qn_0 : (w6.alloc (.cells #[.int .i64 d2, .slice AY ys.length cY] 28)).cell? ⟨w6.heap.size, 0, none⟩ = some (.int .i64 d2) := (Blk.new w6 28 #[.int .i64 d2, .slice AY ys.length cY]).cell 0
  have qn_1 : (w6.alloc (.cells #[.int .i64 d2, .slice AY ys.length cY] 28)).cell? ⟨w6.heap.size, 1, none⟩ = some (.slice AY ys.length cY) := (Blk.new w6 28 #[.int .i64 d2, .slice AY ys.length cY]).cell 1
  go_wp2_with fail
  clear q_bX_0 q_bX_1 qa_bX_0 qa_bX_1 qn_0 qn_1
  have hb7 : Below w6.heap.size w6 (w6.alloc (.cells #[.int .i64 d2, .slice AY ys.length cY] 28)) := (Below.refl _ _).alloc (Nat.le_refl _) _
  have bx := Blk.new w6 28 #[.int .i64 d2, .slice AY ys.length cY]
  generalize (w6.alloc (.cells #[.int .i64 d2, .slice AY ys.length cY] 28)) = w7 at *
  have z7 := hb7.size
  have sX := (sX.below hb7 (Nat.le_refl _)).more (Nat.le_refl _) hb7.size
  have sY := (sY.below hb7 (Nat.le_refl _)).more (Nat.le_refl _) hb7.size
  have bX := bX.below' hb7
  have B7 := Below.trans B6 (Below.mono hb7 B6.size)
  clear hb7 B6
  have bY := bx
  clear bx
  refine (HC.out _).mono ?_
  clear HC
  rintro e w8 ⟨x8, rfl, o8, hb8⟩
  have z8 := hb8.size
  have sX := (sX.below hb8 (Nat.le_refl _)).more (Nat.le_refl _) hb8.size
  have sY := (sY.below hb8 (Nat.le_refl _)).more (Nat.le_refl _) hb8.size
  have bX := bX.below' hb8
  have bY := bY.below' hb8
  have B8 := Below.trans B7 (Below.mono hb8 B7.size)
  clear hb8 B7
  have sZ := own_slR (f := i64s) (s := 1) (fun _ => rfl) (OwnR.own o8)
  clear o8
  obtain ⟨AZ, cZ, rfl, _, _⟩ := sZ.form
  rcases HT.out with ⟨rfl, htb, hok⟩ | ⟨rfl, hok⟩
  · skip
    clear HT
    have q_bX_0 : w8.cell? ⟨w1.heap.size, 0, none⟩ = some (.int .i64 d) := bX.cell 0
    have q_bX_1 : w8.cell? ⟨w1.heap.size, 1, none⟩ = some (.slice X xs.length cX) := bX.cell 1
    have q_bY_0 : w8.cell? ⟨w6.heap.size, 0, none⟩ = some (.int .i64 d2) := bY.cell 0
    have q_bY_1 : w8.cell? ⟨w6.heap.size, 1, none⟩ = some (.slice AY ys.length cY) := bY.cell 1
    have qa_bX_0 : (w8.alloc (.cells #[.int .i64 d2, .slice AZ ys.length cZ] 28)).cell? ⟨w1.heap.size, 0, none⟩ = some (.int .i64 d) := (bX.alloc _).cell 0
    have qa_bX_1 : (w8.alloc (.cells #[.int .i64 d2, .slice AZ ys.length cZ] 28)).cell? ⟨w1.heap.size, 1, none⟩ = some (.slice X xs.length cX) := (bX.alloc _).cell 1
    have qa_bY_0 : (w8.alloc (.cells #[.int .i64 d2, .slice AZ ys.length cZ] 28)).cell? ⟨w6.heap.size, 0, none⟩ = some (.int .i64 d2) := (bY.alloc _).cell 0
    have qa_bY_1 : (w8.alloc (.cells #[.int .i64 d2, .slice AZ ys.length cZ] 28)).cell? ⟨w6.heap.size, 1, none⟩ = some (.slice AY ys.length cY) := (bY.alloc _).cell 1
    have qn_0 : (w8.alloc (.cells #[.int .i64 d2, .slice AZ ys.length cZ] 28)).cell? ⟨w8.heap.size, 0, none⟩ = some (.int .i64 d2) := (Blk.new w8 28 #[.int .i64 d2, .slice AZ ys.length cZ]).cell 0
    have qn_1 : (w8.alloc (.cells #[.int .i64 d2, .slice AZ ys.length cZ] 28)).cell? ⟨w8.heap.size, 1, none⟩ = some (.slice AZ ys.length cZ) := (Blk.new w8 28 #[.int .i64 d2, .slice AZ ys.length cZ]).cell 1
    go_wp2_with fail
    clear q_bX_0 q_bX_1 q_bY_0 q_bY_1 qa_bX_0 qa_bX_1 qa_bY_0 qa_bY_1 qn_0 qn_1
    have hb9 : Below w8.heap.size w8 (w8.alloc (.cells #[.int .i64 d2, .slice AZ ys.length cZ] 28)) := (Below.refl _ _).alloc (Nat.le_refl _) _
    have bx := Blk.new w8 28 #[.int .i64 d2, .slice AZ ys.length cZ]
    generalize (w8.alloc (.cells #[.int .i64 d2, .slice AZ ys.length cZ] 28)) = w9 at *
    have z9 := hb9.size
    have sX := (sX.below hb9 (Nat.le_refl _)).more (Nat.le_refl _) hb9.size
    have sY := (sY.below hb9 (Nat.le_refl _)).more (Nat.le_refl _) hb9.size
    have sZ := (sZ.below hb9 (Nat.le_refl _)).more (Nat.le_refl _) hb9.size
    have bX := bX.below' hb9
    have bY := bY.below' hb9
    have B9 := Below.trans B8 (Below.mono hb9 B8.size)
    clear hb9 B8
    have bZ := bx
    clear bx
    refine (likeInts_same _ _ _ _ _ _ sY sZ).mono ?_
    rintro e w10 ⟨rfl, hb10⟩
    have z10 := hb10.size
    have sX := (sX.below hb10 (Nat.le_refl _)).more (Nat.le_refl _) hb10.size
    have sY := (sY.below hb10 (Nat.le_refl _)).more (Nat.le_refl _) hb10.size
    have sZ := (sZ.below hb10 (Nat.le_refl _)).more (Nat.le_refl _) hb10.size
    have bX := bX.below' hb10
    have bY := bY.below' hb10
    have bZ := bZ.below' hb10
    have B10 := Below.trans B9 (Below.mono hb10 B9.size)
    clear hb10 B9
    rcases HR.out with ⟨rfl, hy, hsy⟩ | rfl
    · clear HR
      have E2 : textF d2 ys = (textH d2 ys, 0) := by rw [textF, if_pos hy]
      have ES : str (textH d2 ys) = s := (str_eq _ _).2 hsy.symm
      have CT := implSheetText_any d2 _ ys _ _ sY w.heap.size (hE.tab.on B10) B10.size
      rw [E2, ES] at CT
      have hbs := bl_eq s
      clear E2 ES hy hsy
      have q_bX_0 : w10.cell? ⟨w1.heap.size, 0, none⟩ = some (.int .i64 d) := bX.cell 0
      have q_bX_1 : w10.cell? ⟨w1.heap.size, 1, none⟩ = some (.slice X xs.length cX) := bX.cell 1
      have q_bY_0 : w10.cell? ⟨w6.heap.size, 0, none⟩ = some (.int .i64 d2) := bY.cell 0
      have q_bY_1 : w10.cell? ⟨w6.heap.size, 1, none⟩ = some (.slice AY ys.length cY) := bY.cell 1
      have q_bZ_0 : w10.cell? ⟨w8.heap.size, 0, none⟩ = some (.int .i64 d2) := bZ.cell 0
      have q_bZ_1 : w10.cell? ⟨w8.heap.size, 1, none⟩ = some (.slice AZ ys.length cZ) := bZ.cell 1
      go_wp2_with fail
      clear q_bX_0 q_bX_1 q_bY_0 q_bY_1 q_bZ_0 q_bZ_1
      refine CT.mono ?_
      clear CT
      rintro e w11 ⟨rfl, hb11⟩
      have z11 := hb11.size
      have sX := (sX.below hb11 (Nat.le_refl _)).more (Nat.le_refl _) hb11.size
      have sY := (sY.below hb11 (Nat.le_refl _)).more (Nat.le_refl _) hb11.size
      have sZ := (sZ.below hb11 (Nat.le_refl _)).more (Nat.le_refl _) hb11.size
      have bX := bX.below' hb11
      have bY := bY.below' hb11
      have bZ := bZ.below' hb11
      have B11 := Below.trans B10 (Below.mono hb11 B10.size)
      clear hb11 B10
      have EK : implRH ts.data.toList = ((d, xs), 0) := by rw [← HTS.out, str_data, htb]; exact implRH_textH hok
      have hsz : ts.size ≤ 1048576 := by rw [← HTS.out, htb]; exact Nat.le_trans (textH_size hok) (by decide)
      have CK := implReadSheet_any ts w11 w.heap.size (hE.on B11) B11.size hsz
      rw [EK] at CK
      clear EK hsz htb hok
      have q_bX_0 : w11.cell? ⟨w1.heap.size, 0, none⟩ = some (.int .i64 d) := bX.cell 0
      have q_bX_1 : w11.cell? ⟨w1.heap.size, 1, none⟩ = some (.slice X xs.length cX) := bX.cell 1
      have q_bY_0 : w11.cell? ⟨w6.heap.size, 0, none⟩ = some (.int .i64 d2) := bY.cell 0
      have q_bY_1 : w11.cell? ⟨w6.heap.size, 1, none⟩ = some (.slice AY ys.length cY) := bY.cell 1
      have q_bZ_0 : w11.cell? ⟨w8.heap.size, 0, none⟩ = some (.int .i64 d2) := bZ.cell 0
      have q_bZ_1 : w11.cell? ⟨w8.heap.size, 1, none⟩ = some (.slice AZ ys.length cZ) := bZ.cell 1
      go_wp2_with fail
      clear q_bX_0 q_bX_1 q_bY_0 q_bY_1 q_bZ_0 q_bZ_1
      refine CK.mono ?_
      clear CK
      rintro e w12 ⟨x12, rfl, o12, hb12⟩
      have z12 := hb12.size
      have sX := (sX.below hb12 (Nat.le_refl _)).more (Nat.le_refl _) hb12.size
      have sY := (sY.below hb12 (Nat.le_refl _)).more (Nat.le_refl _) hb12.size
      have sZ := (sZ.below hb12 (Nat.le_refl _)).more (Nat.le_refl _) hb12.size
      have bX := bX.below' hb12
      have bY := bY.below' hb12
      have bZ := bZ.below' hb12
      have B12 := Below.trans B11 (Below.mono hb12 B11.size)
      clear hb12 B11
      have sK := own_slR (f := i64s) (s := 1) (fun _ => rfl) (OwnR.own o12)
      clear o12
      obtain ⟨AK, cK, rfl, _, _⟩ := sK.form
      have q_bX_0 : w12.cell? ⟨w1.heap.size, 0, none⟩ = some (.int .i64 d) := bX.cell 0
      have q_bX_1 : w12.cell? ⟨w1.heap.size, 1, none⟩ = some (.slice X xs.length cX) := bX.cell 1
      have q_bY_0 : w12.cell? ⟨w6.heap.size, 0, none⟩ = some (.int .i64 d2) := bY.cell 0
      have q_bY_1 : w12.cell? ⟨w6.heap.size, 1, none⟩ = some (.slice AY ys.length cY) := bY.cell 1
      have q_bZ_0 : w12.cell? ⟨w8.heap.size, 0, none⟩ = some (.int .i64 d2) := bZ.cell 0
      have q_bZ_1 : w12.cell? ⟨w8.heap.size, 1, none⟩ = some (.slice AZ ys.length cZ) := bZ.cell 1
      have qa_bX_0 : (w12.alloc (.cells #[.int .i64 d, .slice AK xs.length cK] 28)).cell? ⟨w1.heap.size, 0, none⟩ = some (.int .i64 d) := (bX.alloc _).cell 0
      have qa_bX_1 : (w12.alloc (.cells #[.int .i64 d, .slice AK xs.length cK] 28)).cell? ⟨w1.heap.size, 1, none⟩ = some (.slice X xs.length cX) := (bX.alloc _).cell 1
      have qa_bY_0 : (w12.alloc (.cells #[.int .i64 d, .slice AK xs.length cK] 28)).cell? ⟨w6.heap.size, 0, none⟩ = some (.int .i64 d2) := (bY.alloc _).cell 0
      have qa_bY_1 : (w12.alloc (.cells #[.int .i64 d, .slice AK xs.length cK] 28)).cell? ⟨w6.heap.size, 1, none⟩ = some (.slice AY ys.length cY) := (bY.alloc _).cell 1
      have qa_bZ_0 : (w12.alloc (.cells #[.int .i64 d, .slice AK xs.length cK] 28)).cell? ⟨w8.heap.size, 0, none⟩ = some (.int .i64 d2) := (bZ.alloc _).cell 0
      have qa_bZ_1 : (w12.alloc (.cells #[.int .i64 d, .slice AK xs.length cK] 28)).cell? ⟨w8.heap.size, 1, none⟩ = some (.slice AZ ys.length cZ) := (bZ.alloc _).cell 1
      have qn_0 : (w12.alloc (.cells #[.int .i64 d, .slice AK xs.length cK] 28)).cell? ⟨w12.heap.size, 0, none⟩ = some (.int .i64 d) := (Blk.new w12 28 #[.int .i64 d, .slice AK xs.length cK]).cell 0
      have qn_1 : (w12.alloc (.cells #[.int .i64 d, .slice AK xs.length cK] 28)).cell? ⟨w12.heap.size, 1, none⟩ = some (.slice AK xs.length cK) := (Blk.new w12 28 #[.int .i64 d, .slice AK xs.length cK]).cell 1
      go_wp2_with fail
      clear q_bX_0 q_bX_1 q_bY_0 q_bY_1 q_bZ_0 q_bZ_1 qa_bX_0 qa_bX_1 qa_bY_0 qa_bY_1 qa_bZ_0 qa_bZ_1 qn_0 qn_1
      have hb13 : Below w12.heap.size w12 (w12.alloc (.cells #[.int .i64 d, .slice AK xs.length cK] 28)) := (Below.refl _ _).alloc (Nat.le_refl _) _
      have bx := Blk.new w12 28 #[.int .i64 d, .slice AK xs.length cK]
      generalize (w12.alloc (.cells #[.int .i64 d, .slice AK xs.length cK] 28)) = w13 at *
      have z13 := hb13.size
      have sX := (sX.below hb13 (Nat.le_refl _)).more (Nat.le_refl _) hb13.size
      have sY := (sY.below hb13 (Nat.le_refl _)).more (Nat.le_refl _) hb13.size
      have sZ := (sZ.below hb13 (Nat.le_refl _)).more (Nat.le_refl _) hb13.size
      have sK := (sK.below hb13 (Nat.le_refl _)).more (Nat.le_refl _) hb13.size
      have bX := bX.below' hb13
      have bY := bY.below' hb13
      have bZ := bZ.below' hb13
      have B13 := Below.trans B12 (Below.mono hb13 B12.size)
      clear hb13 B12
      have bK := bx
      clear bx
      refine (likeInts_same _ _ _ _ _ _ sK sX).mono ?_
      rintro e w14 ⟨rfl, hb14⟩
      have z14 := hb14.size
      have sX := (sX.below hb14 (Nat.le_refl _)).more (Nat.le_refl _) hb14.size
      have sY := (sY.below hb14 (Nat.le_refl _)).more (Nat.le_refl _) hb14.size
      have sZ := (sZ.below hb14 (Nat.le_refl _)).more (Nat.le_refl _) hb14.size
      have sK := (sK.below hb14 (Nat.le_refl _)).more (Nat.le_refl _) hb14.size
      have bX := bX.below' hb14
      have bY := bY.below' hb14
      have bZ := bZ.below' hb14
      have bK := bK.below' hb14
      have B14 := Below.trans B13 (Below.mono hb14 B13.size)
      clear hb14 B13
      have q_bX_0 : w14.cell? ⟨w1.heap.size, 0, none⟩ = some (.int .i64 d) := bX.cell 0
      have q_bX_1 : w14.cell? ⟨w1.heap.size, 1, none⟩ = some (.slice X xs.length cX) := bX.cell 1
      have q_bY_0 : w14.cell? ⟨w6.heap.size, 0, none⟩ = some (.int .i64 d2) := bY.cell 0
      have q_bY_1 : w14.cell? ⟨w6.heap.size, 1, none⟩ = some (.slice AY ys.length cY) := bY.cell 1
      have q_bZ_0 : w14.cell? ⟨w8.heap.size, 0, none⟩ = some (.int .i64 d2) := bZ.cell 0
      have q_bZ_1 : w14.cell? ⟨w8.heap.size, 1, none⟩ = some (.slice AZ ys.length cZ) := bZ.cell 1
      have q_bK_0 : w14.cell? ⟨w12.heap.size, 0, none⟩ = some (.int .i64 d) := bK.cell 0
      have q_bK_1 : w14.cell? ⟨w12.heap.size, 1, none⟩ = some (.slice AK xs.length cK) := bK.cell 1
      go_wp2_with fail
      clear q_bX_0 q_bX_1 q_bY_0 q_bY_1 q_bZ_0 q_bZ_1 q_bK_0 q_bK_1
      go_ret
      exact ⟨rfl, B14⟩
    · clear HR
      have EK : implRH ts.data.toList = ((d, xs), 0) := by rw [← HTS.out, str_data, htb]; exact implRH_textH hok
      have hsz : ts.size ≤ 1048576 := by rw [← HTS.out, htb]; exact Nat.le_trans (textH_size hok) (by decide)
      have CK := implReadSheet_any ts w10 w.heap.size (hE.on B10) B10.size hsz
      rw [EK] at CK
      clear EK hsz htb hok
      have q_bX_0 : w10.cell? ⟨w1.heap.size, 0, none⟩ = some (.int .i64 d) := bX.cell 0
      have q_bX_1 : w10.cell? ⟨w1.heap.size, 1, none⟩ = some (.slice X xs.length cX) := bX.cell 1
      have q_bY_0 : w10.cell? ⟨w6.heap.size, 0, none⟩ = some (.int .i64 d2) := bY.cell 0
      have q_bY_1 : w10.cell? ⟨w6.heap.size, 1, none⟩ = some (.slice AY ys.length cY) := bY.cell 1
      have q_bZ_0 : w10.cell? ⟨w8.heap.size, 0, none⟩ = some (.int .i64 d2) := bZ.cell 0
      have q_bZ_1 : w10.cell? ⟨w8.heap.size, 1, none⟩ = some (.slice AZ ys.length cZ) := bZ.cell 1
      go_wp2_with fail
      clear q_bX_0 q_bX_1 q_bY_0 q_bY_1 q_bZ_0 q_bZ_1
      refine CK.mono ?_
      clear CK
      rintro e w11 ⟨x11, rfl, o11, hb11⟩
      have z11 := hb11.size
      have sX := (sX.below hb11 (Nat.le_refl _)).more (Nat.le_refl _) hb11.size
      have sY := (sY.below hb11 (Nat.le_refl _)).more (Nat.le_refl _) hb11.size
      have sZ := (sZ.below hb11 (Nat.le_refl _)).more (Nat.le_refl _) hb11.size
      have bX := bX.below' hb11
      have bY := bY.below' hb11
      have bZ := bZ.below' hb11
      have B11 := Below.trans B10 (Below.mono hb11 B10.size)
      clear hb11 B10
      have sK := own_slR (f := i64s) (s := 1) (fun _ => rfl) (OwnR.own o11)
      clear o11
      obtain ⟨AK, cK, rfl, _, _⟩ := sK.form
      have q_bX_0 : w11.cell? ⟨w1.heap.size, 0, none⟩ = some (.int .i64 d) := bX.cell 0
      have q_bX_1 : w11.cell? ⟨w1.heap.size, 1, none⟩ = some (.slice X xs.length cX) := bX.cell 1
      have q_bY_0 : w11.cell? ⟨w6.heap.size, 0, none⟩ = some (.int .i64 d2) := bY.cell 0
      have q_bY_1 : w11.cell? ⟨w6.heap.size, 1, none⟩ = some (.slice AY ys.length cY) := bY.cell 1
      have q_bZ_0 : w11.cell? ⟨w8.heap.size, 0, none⟩ = some (.int .i64 d2) := bZ.cell 0
      have q_bZ_1 : w11.cell? ⟨w8.heap.size, 1, none⟩ = some (.slice AZ ys.length cZ) := bZ.cell 1
      have qa_bX_0 : (w11.alloc (.cells #[.int .i64 d, .slice AK xs.length cK] 28)).cell? ⟨w1.heap.size, 0, none⟩ = some (.int .i64 d) := (bX.alloc _).cell 0
      have qa_bX_1 : (w11.alloc (.cells #[.int .i64 d, .slice AK xs.length cK] 28)).cell? ⟨w1.heap.size, 1, none⟩ = some (.slice X xs.length cX) := (bX.alloc _).cell 1
      have qa_bY_0 : (w11.alloc (.cells #[.int .i64 d, .slice AK xs.length cK] 28)).cell? ⟨w6.heap.size, 0, none⟩ = some (.int .i64 d2) := (bY.alloc _).cell 0
      have qa_bY_1 : (w11.alloc (.cells #[.int .i64 d, .slice AK xs.length cK] 28)).cell? ⟨w6.heap.size, 1, none⟩ = some (.slice AY ys.length cY) := (bY.alloc _).cell 1
      have qa_bZ_0 : (w11.alloc (.cells #[.int .i64 d, .slice AK xs.length cK] 28)).cell? ⟨w8.heap.size, 0, none⟩ = some (.int .i64 d2) := (bZ.alloc _).cell 0
      have qa_bZ_1 : (w11.alloc (.cells #[.int .i64 d, .slice AK xs.length cK] 28)).cell? ⟨w8.heap.size, 1, none⟩ = some (.slice AZ ys.length cZ) := (bZ.alloc _).cell 1
      have qn_0 : (w11.alloc (.cells #[.int .i64 d, .slice AK xs.length cK] 28)).cell? ⟨w11.heap.size, 0, none⟩ = some (.int .i64 d) := (Blk.new w11 28 #[.int .i64 d, .slice AK xs.length cK]).cell 0
      have qn_1 : (w11.alloc (.cells #[.int .i64 d, .slice AK xs.length cK] 28)).cell? ⟨w11.heap.size, 1, none⟩ = some (.slice AK xs.length cK) := (Blk.new w11 28 #[.int .i64 d, .slice AK xs.length cK]).cell 1
      go_wp2_with fail
      clear q_bX_0 q_bX_1 q_bY_0 q_bY_1 q_bZ_0 q_bZ_1 qa_bX_0 qa_bX_1 qa_bY_0 qa_bY_1 qa_bZ_0 qa_bZ_1 qn_0 qn_1
      have hb12 : Below w11.heap.size w11 (w11.alloc (.cells #[.int .i64 d, .slice AK xs.length cK] 28)) := (Below.refl _ _).alloc (Nat.le_refl _) _
      have bx := Blk.new w11 28 #[.int .i64 d, .slice AK xs.length cK]
      generalize (w11.alloc (.cells #[.int .i64 d, .slice AK xs.length cK] 28)) = w12 at *
      have z12 := hb12.size
      have sX := (sX.below hb12 (Nat.le_refl _)).more (Nat.le_refl _) hb12.size
      have sY := (sY.below hb12 (Nat.le_refl _)).more (Nat.le_refl _) hb12.size
      have sZ := (sZ.below hb12 (Nat.le_refl _)).more (Nat.le_refl _) hb12.size
      have sK := (sK.below hb12 (Nat.le_refl _)).more (Nat.le_refl _) hb12.size
      have bX := bX.below' hb12
      have bY := bY.below' hb12
      have bZ := bZ.below' hb12
      have B12 := Below.trans B11 (Below.mono hb12 B11.size)
      clear hb12 B11
      have bK := bx
      clear bx
      refine (likeInts_same _ _ _ _ _ _ sK sX).mono ?_
      rintro e w13 ⟨rfl, hb13⟩
      have z13 := hb13.size
      have sX := (sX.below hb13 (Nat.le_refl _)).more (Nat.le_refl _) hb13.size
      have sY := (sY.below hb13 (Nat.le_refl _)).more (Nat.le_refl _) hb13.size
      have sZ := (sZ.below hb13 (Nat.le_refl _)).more (Nat.le_refl _) hb13.size
      have sK := (sK.below hb13 (Nat.le_refl _)).more (Nat.le_refl _) hb13.size
      have bX := bX.below' hb13
      have bY := bY.below' hb13
      have bZ := bZ.below' hb13
      have bK := bK.below' hb13
      have B13 := Below.trans B12 (Below.mono hb13 B12.size)
      clear hb13 B12
      have q_bX_0 : w13.cell? ⟨w1.heap.size, 0, none⟩ = some (.int .i64 d) := bX.cell 0
      have q_bX_1 : w13.cell? ⟨w1.heap.size, 1, none⟩ = some (.slice X xs.length cX) := bX.cell 1
      have q_bY_0 : w13.cell? ⟨w6.heap.size, 0, none⟩ = some (.int .i64 d2) := bY.cell 0
      have q_bY_1 : w13.cell? ⟨w6.heap.size, 1, none⟩ = some (.slice AY ys.length cY) := bY.cell 1
      have q_bZ_0 : w13.cell? ⟨w8.heap.size, 0, none⟩ = some (.int .i64 d2) := bZ.cell 0
      have q_bZ_1 : w13.cell? ⟨w8.heap.size, 1, none⟩ = some (.slice AZ ys.length cZ) := bZ.cell 1
      have q_bK_0 : w13.cell? ⟨w11.heap.size, 0, none⟩ = some (.int .i64 d) := bK.cell 0
      have q_bK_1 : w13.cell? ⟨w11.heap.size, 1, none⟩ = some (.slice AK xs.length cK) := bK.cell 1
      go_wp2_with fail
      clear q_bX_0 q_bX_1 q_bY_0 q_bY_1 q_bZ_0 q_bZ_1 q_bK_0 q_bK_1
      go_ret
      exact ⟨rfl, B13⟩
  · skip
    clear HT
    have q_bX_0 : w8.cell? ⟨w1.heap.size, 0, none⟩ = some (.int .i64 d) := bX.cell 0
    have q_bX_1 : w8.cell? ⟨w1.heap.size, 1, none⟩ = some (.slice X xs.length cX) := bX.cell 1
    have q_bY_0 : w8.cell? ⟨w6.heap.size, 0, none⟩ = some (.int .i64 d2) := bY.cell 0
    have q_bY_1 : w8.cell? ⟨w6.heap.size, 1, none⟩ = some (.slice AY ys.length cY) := bY.cell 1
    have qa_bX_0 : (w8.alloc (.cells #[.int .i64 d2, .slice AZ ys.length cZ] 28)).cell? ⟨w1.heap.size, 0, none⟩ = some (.int .i64 d) := (bX.alloc _).cell 0
    have qa_bX_1 : (w8.alloc (.cells #[.int .i64 d2, .slice AZ ys.length cZ] 28)).cell? ⟨w1.heap.size, 1, none⟩ = some (.slice X xs.length cX) := (bX.alloc _).cell 1
    have qa_bY_0 : (w8.alloc (.cells #[.int .i64 d2, .slice AZ ys.length cZ] 28)).cell? ⟨w6.heap.size, 0, none⟩ = some (.int .i64 d2) := (bY.alloc _).cell 0
    have qa_bY_1 : (w8.alloc (.cells #[.int .i64 d2, .slice AZ ys.length cZ] 28)).cell? ⟨w6.heap.size, 1, none⟩ = some (.slice AY ys.length cY) := (bY.alloc _).cell 1
    have qn_0 : (w8.alloc (.cells #[.int .i64 d2, .slice AZ ys.length cZ] 28)).cell? ⟨w8.heap.size, 0, none⟩ = some (.int .i64 d2) := (Blk.new w8 28 #[.int .i64 d2, .slice AZ ys.length cZ]).cell 0
    have qn_1 : (w8.alloc (.cells #[.int .i64 d2, .slice AZ ys.length cZ] 28)).cell? ⟨w8.heap.size, 1, none⟩ = some (.slice AZ ys.length cZ) := (Blk.new w8 28 #[.int .i64 d2, .slice AZ ys.length cZ]).cell 1
    go_wp2_with fail
    clear q_bX_0 q_bX_1 q_bY_0 q_bY_1 qa_bX_0 qa_bX_1 qa_bY_0 qa_bY_1 qn_0 qn_1
    have hb9 : Below w8.heap.size w8 (w8.alloc (.cells #[.int .i64 d2, .slice AZ ys.length cZ] 28)) := (Below.refl _ _).alloc (Nat.le_refl _) _
    have bx := Blk.new w8 28 #[.int .i64 d2, .slice AZ ys.length cZ]
    generalize (w8.alloc (.cells #[.int .i64 d2, .slice AZ ys.length cZ] 28)) = w9 at *
    have z9 := hb9.size
    have sX := (sX.below hb9 (Nat.le_refl _)).more (Nat.le_refl _) hb9.size
    have sY := (sY.below hb9 (Nat.le_refl _)).more (Nat.le_refl _) hb9.size
    have sZ := (sZ.below hb9 (Nat.le_refl _)).more (Nat.le_refl _) hb9.size
    have bX := bX.below' hb9
    have bY := bY.below' hb9
    have B9 := Below.trans B8 (Below.mono hb9 B8.size)
    clear hb9 B8
    have bZ := bx
    clear bx
    refine (likeInts_same _ _ _ _ _ _ sY sZ).mono ?_
    rintro e w10 ⟨rfl, hb10⟩
    have z10 := hb10.size
    have sX := (sX.below hb10 (Nat.le_refl _)).more (Nat.le_refl _) hb10.size
    have sY := (sY.below hb10 (Nat.le_refl _)).more (Nat.le_refl _) hb10.size
    have sZ := (sZ.below hb10 (Nat.le_refl _)).more (Nat.le_refl _) hb10.size
    have bX := bX.below' hb10
    have bY := bY.below' hb10
    have bZ := bZ.below' hb10
    have B10 := Below.trans B9 (Below.mono hb10 B9.size)
    clear hb10 B9
    rcases HR.out with ⟨rfl, hy, hsy⟩ | rfl
    · clear HR
      have E2 : textF d2 ys = (textH d2 ys, 0) := by rw [textF, if_pos hy]
      have ES : str (textH d2 ys) = s := (str_eq _ _).2 hsy.symm
      have CT := implSheetText_any d2 _ ys _ _ sY w.heap.size (hE.tab.on B10) B10.size
      rw [E2, ES] at CT
      have hbs := bl_eq s
      clear E2 ES hy hsy
      have q_bX_0 : w10.cell? ⟨w1.heap.size, 0, none⟩ = some (.int .i64 d) := bX.cell 0
      have q_bX_1 : w10.cell? ⟨w1.heap.size, 1, none⟩ = some (.slice X xs.length cX) := bX.cell 1
      have q_bY_0 : w10.cell? ⟨w6.heap.size, 0, none⟩ = some (.int .i64 d2) := bY.cell 0
      have q_bY_1 : w10.cell? ⟨w6.heap.size, 1, none⟩ = some (.slice AY ys.length cY) := bY.cell 1
      have q_bZ_0 : w10.cell? ⟨w8.heap.size, 0, none⟩ = some (.int .i64 d2) := bZ.cell 0
      have q_bZ_1 : w10.cell? ⟨w8.heap.size, 1, none⟩ = some (.slice AZ ys.length cZ) := bZ.cell 1
      go_wp2_with fail
      clear q_bX_0 q_bX_1 q_bY_0 q_bY_1 q_bZ_0 q_bZ_1
      refine CT.mono ?_
      clear CT
      rintro e w11 ⟨rfl, hb11⟩
      have z11 := hb11.size
      have sX := (sX.below hb11 (Nat.le_refl _)).more (Nat.le_refl _) hb11.size
      have sY := (sY.below hb11 (Nat.le_refl _)).more (Nat.le_refl _) hb11.size
      have sZ := (sZ.below hb11 (Nat.le_refl _)).more (Nat.le_refl _) hb11.size
      have bX := bX.below' hb11
      have bY := bY.below' hb11
      have bZ := bZ.below' hb11
      have B11 := Below.trans B10 (Below.mono hb11 B10.size)
      clear hb11 B10
      have q_bX_0 : w11.cell? ⟨w1.heap.size, 0, none⟩ = some (.int .i64 d) := bX.cell 0
      have q_bX_1 : w11.cell? ⟨w1.heap.size, 1, none⟩ = some (.slice X xs.length cX) := bX.cell 1
      have q_bY_0 : w11.cell? ⟨w6.heap.size, 0, none⟩ = some (.int .i64 d2) := bY.cell 0
      have q_bY_1 : w11.cell? ⟨w6.heap.size, 1, none⟩ = some (.slice AY ys.length cY) := bY.cell 1
      have q_bZ_0 : w11.cell? ⟨w8.heap.size, 0, none⟩ = some (.int .i64 d2) := bZ.cell 0
      have q_bZ_1 : w11.cell? ⟨w8.heap.size, 1, none⟩ = some (.slice AZ ys.length cZ) := bZ.cell 1
      go_wp2_with fail
      clear q_bX_0 q_bX_1 q_bY_0 q_bY_1 q_bZ_0 q_bZ_1
      go_ret
      exact ⟨rfl, B11⟩
    · clear HR
      have q_bX_0 : w10.cell? ⟨w1.heap.size, 0, none⟩ = some (.int .i64 d) := bX.cell 0
      have q_bX_1 : w10.cell? ⟨w1.heap.size, 1, none⟩ = some (.slice X xs.length cX) := bX.cell 1
      have q_bY_0 : w10.cell? ⟨w6.heap.size, 0, none⟩ = some (.int .i64 d2) := bY.cell 0
      have q_bY_1 : w10.cell? ⟨w6.heap.size, 1, none⟩ = some (.slice AY ys.length cY) := bY.cell 1
      have q_bZ_0 : w10.cell? ⟨w8.heap.size, 0, none⟩ = some (.int .i64 d2) := bZ.cell 0
      have q_bZ_1 : w10.cell? ⟨w8.heap.size, 1, none⟩ = some (.slice AZ ys.length cZ) := bZ.cell 1
      go_wp2_with fail
      clear q_bX_0 q_bX_1 q_bY_0 q_bY_1 q_bZ_0 q_bZ_1
      go_ret
      exact ⟨rfl, B10⟩

theorem walk (v0 : Value) (w : World) (g0 : ∃ zs : List Int, SlR u8s 1 w 0 w.heap.size v0 zs ∧ ∀ b ∈ zs, 0 ≤ b ∧ b ≤ 255) (hE : Env w.heap.size w) :
    Calls Tryd.prog 5 #[v0] w fun e w' => e = .returned (.bool true) ∧ Below w.heap.size w w' := by
  obtain ⟨bs, h, hb⟩ := g0
  exact walkL v0 bs w h hb hE

set_option maxRecDepth 100000 in
theorem lifted (os : Os) (started : os.Started) (H : Type) (enc : TypeId × Value → H) :
    ReturnsInHanded {} Tryd.checked os 5 .any (fun w args => (Rows.fnSheetTextsSpec.pre enc Tryd.prog Tryd.f5 [] false w args ∧ laidMetH Tryd.prog laid7 w) ∧ sizedMet enc Tryd.prog Tryd.f5 (OpenSpec.ofChange Rows.fnSheetTextsSpec) false w args)
      (Rows.fnSheetTextsSpec.post enc Tryd.prog Tryd.f5 false true false false) := by
  refine handed_and_shaped (C := Tryd.checked) (X := fun w _ => laidMetH Tryd.prog laid7 w) (fun _ _ _ hh h => metH7.2 ((metH7.1 h).of_heap hh)) own started (by kernel_rfl) Tryd.func5
    (ChangeSpec.witness_shaped (enc := enc) (C := Tryd.checked) (os := os) (X := fun w _ => laidMetH Tryd.prog laid7 w) false (World.laidAll Tryd.prog os laid7) #[.slice none 0 0] 8 (World.laidAll_os _ _ _) (World.shaped_of_ZipB (by kernel_rfl) (by kernel_rfl)) (by kernel_rfl) (by kernel_rfl) (by kernel_rfl) (metH7.2 (laidMet_laidAll _ (by kernel_rfl) (by kernel_rfl)))) ?_
  intro W base args ds gs before hval0 hW hL hSh
  have hval : ∀ (j : Nat) t v, Tryd.f5.params[j]? = some t → args[j]? = some v → Value.okWide Tryd.prog W .any base t v := hval0
  have hW' := hW
  obtain ⟨p, q, hA0, hV, rfl, hfz, hnd⟩ := hW
  have hA : DataW.TrodAll enc Tryd.prog W 0 (fun _ => true) true Tryd.f5.params.toList args.toList ds p := hA0
  rw [Tryd.params5] at hA hval
  obtain ⟨v0, vs0, d0, ds0, p0, q0, hargs, rfl, rfl, h0, r0⟩ := trodAll_cons hA
  obtain ⟨rfl, rfl, rfl⟩ := trodAll_nil r0
  obtain rfl : args = #[v0] := by cases args; simp_all
  obtain ⟨rfl, rfl⟩ := trodVars_none hV
  have lt0 : ∀ x ∈ p0, x.block < W.heap.size := by obtain ⟨m, hm⟩ := h0; exact DataW.trod_lt m _ _ _ hm
  have g0 := open_ByteS (hval 0 36 v0 rfl rfl) h0
  clear hA0 hval0
  refine (walk v0 W g0 (env_of7 (metH7.1 hL) hSh)).mono fun e W' ⟨he, bel⟩ => ?_
  subst he
  exact ⟨_, rfl, _, _, _, [], _, [], hW', trodAll_mk1 (shut_bool Tryd.underlying4 _), (trodAll_cons_mk (Below.trod laidOut (by kernel_rfl) (of_decide_eq_true (by kernel_rfl)) h0 bel lt0) trodAll_mk0), rfl, bel.frame _, fun h => by cases h⟩

theorem over : Rows.FnSheetTextsSaid :=
  OpenClaim.holds_of_wide 5 Tryd.f5 rfl rfl rfl rfl rfl rfl rfl ⟨rfl, rfl, rfl, rfl, rfl⟩ rfl rfl rfl rfl rfl (by kernel_rfl) Tryd.func5 (by kernel_rfl)
    (of_decide_eq_true (by kernel_rfl)) (by unfold Func.isWrapper; first | (rw [if_pos (by decide +kernel)]; kernel_rfl) | (rw [if_neg (by decide +kernel)]; exact ⟨rfl, rfl⟩))
    (fun os started H enc _ => lifted os started H enc)

theorem proved : Rows.FnSheetTextsCardSaid :=
  Claim7.holds_tied_plain_at .later [] [.data, .data, .data, .data, .sentinel, .sentinel, .pinned] true (true, "fa16d4e35b260b6db7993b93d24e7b3ee395b0c5e7c77deb20eceee070298250") true
    over (fun _ h => by cases h) (by kernel_rfl) (fun _ h => by cases h) fnSheetTexts_row_tie rfl ⟨rfl, rfl⟩ (by kernel_rfl) rfl
    (fun f fn hf hfn => by
      obtain rfl : f = 5 := Option.some.inj ((show Tryd.prog.funcNamed "loop.example/g01027/laws.FnSheetTexts" = some 5 by kernel_rfl).symm.trans hf) |>.symm
      obtain rfl : fn = Tryd.f5 := (Option.some.inj (Tryd.func5.symm.trans hfn)).symm
      exact ⟨by kernel_rfl, fun j t ht => by
        rw [Tryd.params5] at ht
        rcases j with _ | j
        · obtain rfl : t = 36 := by simpa using ht.symm
          exact (show Tryd.prog.wantsStandIn 36 = false by kernel_rfl)
        · simp at ht⟩)
    (by kernel_rfl)
#print axioms proved
end Go.Proofs.YtodfkbgifoecbaaDoor.lawFnSheetTexts

