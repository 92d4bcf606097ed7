/- Sheets read from texts: the program's own function. What it asks: the package-level variables as the program lays them, and a text of bounded size. -/
import Derived.Test.YtodfkbgifoecbaaDoorTxJ
namespace Go.Proofs.YtodfkbgifoecbaaDoor
open Go.RowKit
open Go.Lib hiding intOf
attribute [local go_sem ↓] Go.wp_at_zero Go.wp_at_succ

theorem implRH_no1 {l : List UInt8} (h : (rdF (cutL 61 l).1).2 = false) : implRH l = ((0, []), 6) := by
  rw [implRH, if_neg (by rw [h]; decide)]
theorem implRH_no2 {l : List UInt8} (h : (rlF rdF (cutL 61 l).2).2 ≠ 0) : implRH l = ((0, []), 6) := by
  rw [implRH]
  split
  · cases hr : readL rdF (cutL 61 l).2 with
    | none => rfl
    | some zs => rw [rlF, hr] at h; exact absurd rfl h
  · rfl
theorem implRH_yes {l : List UInt8} (h : (rdF (cutL 61 l).1).2 = true) (h2 : (rlF rdF (cutL 61 l).2).2 = 0) : implRH l = if okH (rdF (cutL 61 l).1).1 (rlF rdF (cutL 61 l).2).1 = true ∧ textH (rdF (cutL 61 l).1).1 (rlF rdF (cutL 61 l).2).1 = l then (((rdF (cutL 61 l).1).1, (rlF rdF (cutL 61 l).2).1), 0) else ((0, []), 6) := by
  rw [implRH, if_pos h]
  cases hr : readL rdF (cutL 61 l).2 with
  | none => rw [rlF, hr] at h2; exact absurd h2 (by decide)
  | some zs => simp [rlF, hr]
theorem rlF_code (f : List UInt8 → Int × Bool) (l : List UInt8) : (rlF f l).2 = 0 ∨ (rlF f l).2 = 6 := by
  rw [rlF]; split <;> simp
set_option maxRecDepth 100000 in
set_option maxHeartbeats 4000000 in
theorem implReadSheet_any (s : ByteArray) (w : World) (B : Nat) (hE : Env B w) (hB : B ≤ w.heap.size) (hs : s.size ≤ 1048576) :
    Calls Tryd.prog 14 #[.string s] w fun e w' => ∃ v, e = .returned (.tuple #[.agg #[.int .i64 (implRH s.data.toList).1.1, v], .int .i64 (implRH s.data.toList).2]) ∧ OwnR i64s 1 w' w.heap.size 2 v (implRH s.data.toList).1.2 ∧ Below w.heap.size w w' := by
  have bR := Blk.new w 28 #[.int .i64 0, .slice none 0 0]
  have hB1 : Below w.heap.size w (w.alloc (.cells #[.int .i64 0, .slice none 0 0] 28)) := (Below.refl _ _).alloc (Nat.le_refl _) _
  have z1 : (w.alloc (.cells #[.int .i64 0, .slice none 0 0] 28)).heap.size = w.heap.size + 1 := by simp
  go_enter Tryd.func14, Tryd.ntmps14
  go_wp2_with fail
  generalize (w.alloc (.cells #[.int .i64 0, .slice none 0 0] 28)) = w1 at *
  have hE1 := hE.on (hB1.mono hB)
  refine (cut_any s 61 w1 hE1.here.1 hs).mono ?_
  rintro e w2 ⟨bb, rfl, hb2⟩
  obtain ⟨q1, q2⟩ := cutL_size 61 s.data.toList
  rw [size_data] at q1 q2
  have H1 := Lib.hid (implRH_no1 (l := s.data.toList))
  have H2 := Lib.hid (implRH_no2 (l := s.data.toList))
  have H3 := Lib.hid (implRH_yes (l := s.data.toList))
  have HC := rlF_code rdF (cutL 61 s.data.toList).2
  have hB2 := hB1.trans (hb2.mono hB1.size)
  have bR2 := bR.below' hb2
  have C1 := readDecimal_any (str (cutL 61 s.data.toList).1) w2 B (hE.on (hB2.mono hB)) (Nat.le_trans hB hB2.size) (by rw [str_size]; omega)
  have HC2 := Lib.hid (fun W h1 h2 => implReadList_any (str (cutL 61 s.data.toList).2) W B h1 h2 (by rw [str_size]; omega))
  rw [str_data] at C1
  simp only [str_data] at HC2
  generalize (str (cutL 61 s.data.toList).1) = sa at *
  generalize (str (cutL 61 s.data.toList).2) = sb at *
  generalize (rdF (cutL 61 s.data.toList).1).1 = d at *
  generalize (rdF (cutL 61 s.data.toList).1).2 = ok at *
  generalize (rlF rdF (cutL 61 s.data.toList).2).1 = zs at *
  generalize (rlF rdF (cutL 61 s.data.toList).2).2 = two at *
  clear q1 q2 hb2 bR
  go_wp2_with fail
  refine C1.mono ?_
  clear C1
  rintro e w3 ⟨rfl, hb3⟩
  have hB3 := hB2.trans (hb3.mono hB2.size)
  have bR3 := bR2.below' hb3
  have C2 := HC2.out w3 (hE.on (hB3.mono hB)) (Nat.le_trans hB hB3.size)
  have z3 := bR3.lt
  clear HC2 bR2 hb3
  go_wp2_with fail
  refine C2.mono ?_
  clear C2
  rintro e w4 ⟨v, rfl, o4, hb4⟩
  have hB4 := hB3.trans (hb4.mono hB3.size)
  have bR4 := bR3.below' hb4
  clear hb4 bR3
  obtain ⟨A, c, rfl, _, _⟩ := (own_slR (f := i64s) (s := 1) (fun _ => rfl) (OwnR.own o4)).form
  have bX := Blk.new w4 28 #[.int .i64 d, .slice A zs.length c]
  have hb5 : Below w4.heap.size w4 (w4.alloc (.cells #[.int .i64 d, .slice A zs.length c] 28)) := (Below.refl _ _).alloc (Nat.le_refl _) _
  have o5 := o4.below hb5
  have bR5 := bR4.below' hb5
  have hB5 := hB4.trans (hb5.mono hB4.size)
  have hE5 := (hE.on (hB5.mono hB)).tab
  have C3 := implSheetText_any d _ zs _ _ (own_slR (f := i64s) (s := 1) (fun _ => rfl) (OwnR.own o5)) B hE5 (Nat.le_trans hB hB5.size)
  have HT := Lib.hid (show (textF d zs).2 = 0 ∧ (textF d zs).1 = textH d zs ∧ okH d zs = true ∨ (textF d zs).2 = 1 ∧ okH d zs = false by
    rw [textF]
    cases okH d zs <;> simp)
  generalize (textF d zs).1 = tb at *
  generalize (textF d zs).2 = tc at *
  go_wp2_with fail
  generalize (w4.alloc (.cells #[.int .i64 d, .slice A zs.length c] 28)) = w5 at *
  refine C3.mono ?_
  clear C3
  rintro e w6 ⟨rfl, hb6⟩
  have hB6 := hB5.trans (hb6.mono hB5.size)
  have bR6 := bR5.below' hb6
  have bX6 := bX.below' hb6
  have o6 := o5.below hb6
  have l6 := bX6.lt
  clear hb6 hb5 bR5 bX o5 o4 bR4
  have c0 : w6.cell? ⟨w.heap.size, 0, none⟩ = some (.int .i64 0) := bR6.cell 0
  have c1 : w6.cell? ⟨w.heap.size, 1, none⟩ = some (.slice none 0 0) := bR6.cell 1
  have f0 : w6.frozen? ⟨w.heap.size, 0, none⟩ = false := bR6.frozen 0
  have f1 : w6.frozen? ⟨w.heap.size, 1, none⟩ = false := bR6.frozen 1
  have d0 : w6.cell? ⟨w4.heap.size, 0, none⟩ = some (.int .i64 d) := bX6.cell 0
  have d1 : w6.cell? ⟨w4.heap.size, 1, none⟩ = some (.slice A zs.length c) := bX6.cell 1
  cases ok
  · have HF := Lib.hid (H1.out rfl)
    clear H1 H2 H3 HT HC
    go_wp2_with fail
    refine bodyPost_ret (v := .tuple #[.agg #[.int .i64 0, .slice none 0 0], .int .i64 6]) (by simp [results, Tryd.results14, go_sem, c0, c1]) rfl ⟨.slice none 0 0, by rw [HF.out], by rw [HF.out]; exact own_nil _ _ _ _ _, ?_⟩
    repeat' refine Below.setCell ?_ (by simp; try omega) _
    exact hB6
  rcases HC with rfl | rfl
  case inr =>
    have HF := Lib.hid (H2.out (by decide))
    clear H1 H2 H3 HT
    go_wp2_with fail
    refine bodyPost_ret (v := .tuple #[.agg #[.int .i64 0, .slice none 0 0], .int .i64 6]) (by simp [results, Tryd.results14, go_sem, c0, c1]) rfl ⟨.slice none 0 0, by rw [HF.out], by rw [HF.out]; exact own_nil _ _ _ _ _, ?_⟩
    repeat' refine Below.setCell ?_ (by simp; try omega) _
    exact hB6
  have HG := Lib.hid (H3.out rfl rfl)
  clear H1 H2 H3
  rcases HT.out with ⟨rfl, rfl, hok⟩ | ⟨rfl, hok⟩
  case inr =>
    have HF := Lib.hid (show implRH s.data.toList = ((0, []), 6) by rw [HG.out, hok]; simp)
    clear HT HG hok
    go_wp2_with fail
    refine bodyPost_ret (v := .tuple #[.agg #[.int .i64 0, .slice none 0 0], .int .i64 6]) (by simp [results, Tryd.results14, go_sem, c0, c1]) rfl ⟨.slice none 0 0, by rw [HF.out], by rw [HF.out]; exact own_nil _ _ _ _ _, ?_⟩
    repeat' refine Below.setCell ?_ (by simp; try omega) _
    exact hB6
  by_cases heq : textH d zs = s.data.toList
  · have HF := Lib.hid (show implRH s.data.toList = ((d, zs), 0) by rw [HG.out, if_pos ⟨hok, heq⟩])
    have hs2 : ((str (textH d zs)).toList == s.toList) = true := by rw [(str_eq _ _).2 heq]; exact bl_eq _
    generalize str (textH d zs) = ts at *
    clear HT HG hok heq
    go_wp2_with fail
    refine bodyPost_ret (v := .tuple #[.agg #[.int .i64 d, .slice A zs.length c], .int .i64 0]) (by simp [results, Tryd.results14, go_sem, c0, c1]) rfl ⟨.slice A zs.length c, by rw [HF.out], ?_, ?_⟩
    · rw [HF.out]
      have o7 : OwnR i64s 1 w6 w.heap.size 2 (.slice A zs.length c) zs := OwnR.more o6 (by omega)
      repeat' refine OwnR.setCell ?_ _ _ (fun k hk => by have := (o6.own.lt k hk).1; simp; omega)
      exact o7
    · repeat' refine Below.setCell ?_ (by simp; try omega) _
      exact hB6
  · have HF := Lib.hid (show implRH s.data.toList = ((0, []), 6) by rw [HG.out, if_neg (fun h => heq h.2)])
    have hs2 : ((str (textH d zs)).toList == s.toList) = false := bl_ne fun e => heq ((str_eq _ _).1 e)
    generalize str (textH d zs) = ts at *
    clear HT HG hok heq
    go_wp2_with fail
    refine bodyPost_ret (v := .tuple #[.agg #[.int .i64 0, .slice none 0 0], .int .i64 6]) (by simp [results, Tryd.results14, go_sem, c0, c1]) rfl ⟨.slice none 0 0, by rw [HF.out], by rw [HF.out]; exact own_nil _ _ _ _ _, ?_⟩
    repeat' refine Below.setCell ?_ (by simp; try omega) _
    exact hB6
end Go.Proofs.YtodfkbgifoecbaaDoor
