/- Pools as texts: the program's and the reference's functions. What they ask: the package-level variables as the program lays them. -/
import Derived.Test.YtodfkbgifoecbaaGreatDoorTxH
import Derived.Test.YtodfkbgifoecbaaGreatDoorTxP
namespace Go.Proofs.YtodfkbgifoecbaaGreatDoor
open Go.RowKit
open Go.Lib hiding intOf
attribute [local go_sem ↓] Go.wp_at_zero Go.wp_at_succ

theorem s3_cells {W : World} {T : Nat} {ty : TypeId} {x y z : Value} (b : Blk W T ty #[x, y, z]) : W.cell? ⟨T, 0, none⟩ = some x ∧ W.cell? ⟨T, 1, none⟩ = some y ∧ W.cell? ⟨T, 2, none⟩ = some z := ⟨b.cell 0, b.cell 1, b.cell 2⟩
set_option maxRecDepth 100000 in
set_option maxHeartbeats 4000000 in
theorem implPoolText_any (vn vd : Value) (p : P3) (w : World) (lo lo' : Nat) (hn : SlI w lo w.heap.size vn p.nums) (hd : SlI w lo' w.heap.size vd p.drawn) (B : Nat) (hE : EnvT B w) (hB : B ≤ w.heap.size) :
    Calls Tryz.prog 6 #[.agg #[vn, vd, .int .i64 p.st]] w fun e w' => e = .returned (.tuple #[.string (str (textPF p).1), .int .i64 (textPF p).2]) ∧ Below w.heap.size w w' := by
  obtain ⟨A, c, rfl, hc1, hc2⟩ := hn.form
  obtain ⟨A', c', rfl, hc1', hc2'⟩ := hd.form
  have bX := Blk.new w 26 #[.slice A p.nums.length c, .slice A' p.drawn.length c', .int .i64 p.st]
  have hb : Below w.heap.size w (w.alloc (.cells #[.slice A p.nums.length c, .slice A' p.drawn.length c', .int .i64 p.st] 26)) := (Below.refl _ _).alloc (Nat.le_refl _) _
  go_enter Tryz.func6, Tryz.ntmps6
  go_wp2_with fail
  generalize (w.alloc (.cells #[.slice A p.nums.length c, .slice A' p.drawn.length c', .int .i64 p.st] 26)) = w1 at *
  have n1 := (hn.below hb (Nat.le_refl _)).more (Nat.le_refl _) hb.size
  have d1 := (hd.below hb (Nat.le_refl _)).more (Nat.le_refl _) hb.size
  refine (implIsPool_any _ _ p w1 lo lo' n1 d1).mono ?_
  rintro e w2 ⟨rfl, hb2⟩
  have hB2 := hb.trans (hb2.mono hb.size)
  have bX2 := bX.below' hb2
  have n2 := (n1.below hb2 (Nat.le_refl _)).more (Nat.le_refl _) hb2.size
  have d2 := (d1.below hb2 (Nat.le_refl _)).more (Nat.le_refl _) hb2.size
  cases hk : poolOk p
  · have E := Lib.hid (show textPF p = ([], 1) by simp [textPF, hk])
    clear hk
    go_wp2_with fail
    go_ret2
    exact ⟨by rw [E.out]; rfl, hB2⟩
  · have E := Lib.hid (show textPF p = (textP p, 0) by simp [textPF, hk])
    obtain ⟨p1, p2, p3, p4, p5, p6⟩ := tp_parts hk
    have HZ1 := Lib.hid p1
    have HZ2 := Lib.hid p3
    have l1 := numT_len (zs := p.nums) (fun z hz' => by have := p1 z hz'; omega)
    have l2 := numT_len (zs := p.drawn) (fun z hz' => by have := p3 z hz'; omega)
    have HT := Lib.hid (textP_str p)
    have q0 : (str (numT p.nums)).size ≤ 1321 := by rw [str_size]; omega
    have q1 : (str (numT p.drawn)).size ≤ 1321 := by rw [str_size]; omega
    have qs : (str (itoa p.st)).size ≤ 21 := by rw [str_size]; exact itoa_len (by omega) (by omega)
    have P2 := Lib.hid p2
    have P4 := Lib.hid p4
    have P5 := Lib.hid p5
    have P6 := Lib.hid p6
    clear hk p1 p3 l1 l2 p2 p4 p5 p6
    have KS : Hid (∀ W, Below w2.heap.size w2 W → W.cell? ⟨w.heap.size, 0, none⟩ = some (.slice A p.nums.length c) ∧ W.cell? ⟨w.heap.size, 1, none⟩ = some (.slice A' p.drawn.length c') ∧ W.cell? ⟨w.heap.size, 2, none⟩ = some (.int .i64 p.st)) := Lib.hid fun W hW => s3_cells (bX2.below' hW)
    have hD : Below w2.heap.size w2 w2.drew := (Below.refl _ _).drew
    have HN : Hid (∀ W, Below w2.heap.size w2 W → Calls Tryz.prog 15 #[.slice A p.nums.length c] W fun e w' => e = .returned (.string (str (numT p.nums))) ∧ Below W.heap.size W w') := Lib.hid fun W hW =>
      numbersText_any _ p.nums W lo ((n2.below hW (Nat.le_refl _)).more (Nat.le_refl _) hW.size) B (hE.on ((hB2.trans (hW.mono hB2.size)).mono hB)) (Nat.le_trans hB (Nat.le_trans hB2.size hW.size)) (by have := P2.out; omega) (fun z hz' => by have := HZ1.out z hz'; omega)
    have HD : Hid (∀ W, Below w2.heap.size w2 W → Calls Tryz.prog 15 #[.slice A' p.drawn.length c'] W fun e w' => e = .returned (.string (str (numT p.drawn))) ∧ Below W.heap.size W w') := Lib.hid fun W hW =>
      numbersText_any _ p.drawn W lo' ((d2.below hW (Nat.le_refl _)).more (Nat.le_refl _) hW.size) B (hE.on ((hB2.trans (hW.mono hB2.size)).mono hB)) (Nat.le_trans hB (Nat.le_trans hB2.size hW.size)) (by have := P4.out; omega) (fun z hz' => by have := HZ2.out z hz'; omega)
    have HS : Hid (∀ W, Below w2.heap.size w2 W → Calls Tryz.prog 16 #[.int .i64 p.st] W fun e w' => e = .returned (.string (str (itoa p.st))) ∧ Below W.heap.size W w') := Lib.hid fun W hW =>
      decimal_any p.st W B (hE.on ((hB2.trans (hW.mono hB2.size)).mono hB)) (by have := P5.out; omega) (by have := P6.out; omega)
    have C1 := HN.out _ hD
    obtain ⟨k0, k1, k2⟩ := KS.out _ (Below.refl _ _)
    generalize str (numT p.nums) = sa at *
    generalize str (numT p.drawn) = sb at *
    generalize str (itoa p.st) = sc at *
    have q2 : ¬ (9223372036854775807 < sa.size + 1) := by omega
    have q3 : ¬ (9223372036854775807 < sa.size + 1 + sb.size) := by omega
    have q4 : ¬ (9223372036854775807 < sa.size + 1 + sb.size + 1) := by omega
    have q5 : ¬ (9223372036854775807 < sa.size + 1 + sb.size + 1 + sc.size) := by omega
    go_wp2_with fail
    go_region_held3 (fun W => W.cell? ⟨w.heap.size, 0, none⟩ = some (.slice A p.nums.length c) ∧ W.cell? ⟨w.heap.size, 1, none⟩ = some (.slice A' p.drawn.length c') ∧ W.cell? ⟨w.heap.size, 2, none⟩ = some (.int .i64 p.st)) (first | exact KS.out _ (Below.refl _ _) | exact KS.out _ hD | exact KS.out _ hA3 | exact KS.out _ hA4 | exact KS.out _ hA5 | go_keep) (first
      | (go_at_call 15; (with_reducible refine C1.mono ?_); rintro e w3 ⟨rfl, hb3⟩; have hA3 := hD.trans (hb3.mono (Nat.le_refl _)); have C2 := HD.out w3 hA3)
      | (go_at_call 15; (with_reducible refine C2.mono ?_); rintro e w4 ⟨rfl, hb4⟩; have hA4 := hA3.trans (hb4.mono hA3.size); have C3 := HS.out w4 hA4)
      | (go_at_call 16; (with_reducible refine C3.mono ?_); rintro e w5 ⟨rfl, hb5⟩; have hA5 := hA4.trans (hb5.mono hA4.size)))
    go_wp2_with fail
    go_ret2
    exact ⟨by rw [E.out, ← HT.out]; rfl, hB2.trans (hA5.mono hB2.size)⟩

set_option maxRecDepth 100000 in
set_option maxHeartbeats 4000000 in
theorem l08Text_any (vn vd : Value) (p : P3) (w : World) (lo lo' : Nat) (hn : SlI w lo w.heap.size vn p.nums) (hd : SlI w lo' w.heap.size vd p.drawn) (hk : poolOk p = true) :
    Calls Tryz.prog 18 #[.agg #[vn, vd, .int .i64 p.st]] w fun e w' => e = .returned (.string (str (textP p))) ∧ Below w.heap.size w w' := by
  obtain ⟨A, c, rfl, hc1, hc2⟩ := hn.form
  obtain ⟨A', c', rfl, hc1', hc2'⟩ := hd.form
  obtain ⟨p1, p2, p3, p4, p5, p6⟩ := tp_parts hk
  have HZ1 := Lib.hid p1
  have HZ2 := Lib.hid p3
  have l1 := numT_len (zs := p.nums) (fun z hz' => by have := p1 z hz'; omega)
  have l2 := numT_len (zs := p.drawn) (fun z hz' => by have := p3 z hz'; omega)
  have HT := Lib.hid (textP_str p)
  obtain ⟨nums, drawn, st⟩ := p
  dsimp only at hn hd p2 p4 p5 p6 HZ1 HZ2 HT l1 l2 p1 p3 hc1 hc1' ⊢
  obtain ⟨n, rfl⟩ : ∃ n : Nat, st = (n : Int) := ⟨st.toNat, by omega⟩
  have hit : itoa (n : Int) = decDigits n := itoa_nat n
  have q0 : (str (numT nums)).size ≤ 1321 := by rw [str_size]; omega
  have q1 : (str (numT drawn)).size ≤ 1321 := by rw [str_size]; omega
  have qs : (str (itoa (n : Int))).size ≤ 21 := by rw [str_size]; exact itoa_len (by omega) (by omega)
  have hn9 : n ≤ 4611686018427387904 := by omega
  have P2 := Lib.hid p2
  have P4 := Lib.hid p4
  have bX2 := Blk.new w 26 #[.slice A nums.length c, .slice A' drawn.length c', .int .i64 (n : Int)]
  have hB2 : Below w.heap.size w (w.alloc (.cells #[.slice A nums.length c, .slice A' drawn.length c', .int .i64 (n : Int)] 26)) := (Below.refl _ _).alloc (Nat.le_refl _) _
  have HN9 := Lib.hid hn9
  clear hk p1 p3 l1 l2 p2 p4 p5 p6 hn9
  go_enter Tryz.func18, Tryz.ntmps18
  go_wp2_with fail
  generalize (w.alloc (.cells #[.slice A nums.length c, .slice A' drawn.length c', .int .i64 (n : Int)] 26)) = w2 at *
  have KS : Hid (∀ W, Below w2.heap.size w2 W → W.cell? ⟨w.heap.size, 0, none⟩ = some (.slice A nums.length c) ∧ W.cell? ⟨w.heap.size, 1, none⟩ = some (.slice A' drawn.length c') ∧ W.cell? ⟨w.heap.size, 2, none⟩ = some (.int .i64 (n : Int))) := Lib.hid fun W hW => s3_cells (bX2.below' hW)
  have hD : Below w2.heap.size w2 w2.drew := (Below.refl _ _).drew
  have HN : Hid (∀ W, Below w2.heap.size w2 W → Calls Tryz.prog 39 #[.slice A nums.length c] W fun e w' => e = .returned (.string (str (numT nums))) ∧ Below W.heap.size W w') := Lib.hid fun W hW =>
    l01Text_any _ nums W lo ((hn.below (hB2.trans (hW.mono hB2.size)) (Nat.le_refl _)).more (Nat.le_refl _) (Nat.le_trans hB2.size hW.size)) (by have := P2.out; omega) (fun z hz' => by have := HZ1.out z hz'; exact ⟨by omega, by omega⟩)
  have HD : Hid (∀ W, Below w2.heap.size w2 W → Calls Tryz.prog 39 #[.slice A' drawn.length c'] W fun e w' => e = .returned (.string (str (numT drawn))) ∧ Below W.heap.size W w') := Lib.hid fun W hW =>
    l01Text_any _ drawn W lo' ((hd.below (hB2.trans (hW.mono hB2.size)) (Nat.le_refl _)).more (Nat.le_refl _) (Nat.le_trans hB2.size hW.size)) (by have := P4.out; omega) (fun z hz' => by have := HZ2.out z hz'; exact ⟨by omega, by omega⟩)
  have HS : Hid (∀ W, Calls Tryz.prog 40 #[.int .i64 (n : Int)] W fun e w' => e = .returned (.string (str (itoa (n : Int)))) ∧ Below W.heap.size W w') := Lib.hid fun W => by rw [hit]; exact l01Dec_nat n W HN9.out
  have C1 := HN.out _ hD
  obtain ⟨k0, k1, k2⟩ := KS.out _ (Below.refl _ _)
  clear hit
  generalize str (numT nums) = sa at *
  generalize str (numT drawn) = sb at *
  generalize str (itoa (n : Int)) = sc at *
  have q2 : ¬ (9223372036854775807 < sa.size + 1) := by omega
  have q3 : ¬ (9223372036854775807 < sa.size + 1 + sb.size) := by omega
  have q4 : ¬ (9223372036854775807 < sa.size + 1 + sb.size + 1) := by omega
  have q5 : ¬ (9223372036854775807 < sa.size + 1 + sb.size + 1 + sc.size) := by omega
  go_region_held3 (fun W => W.cell? ⟨w.heap.size, 0, none⟩ = some (.slice A nums.length c) ∧ W.cell? ⟨w.heap.size, 1, none⟩ = some (.slice A' drawn.length c') ∧ W.cell? ⟨w.heap.size, 2, none⟩ = some (.int .i64 (n : Int))) (first | exact KS.out _ (Below.refl _ _) | exact KS.out _ hD | exact KS.out _ hA3 | exact KS.out _ hA4 | exact KS.out _ hA5 | go_keep) (first
    | (go_at_call 39; (with_reducible refine C1.mono ?_); rintro e w3 ⟨rfl, hb3⟩; have hA3 := hD.trans (hb3.mono (Nat.le_refl _)); have C2 := HD.out w3 hA3)
    | (go_at_call 39; (with_reducible refine C2.mono ?_); rintro e w4 ⟨rfl, hb4⟩; have hA4 := hA3.trans (hb4.mono hA3.size); have C3 := HS.out w4)
    | (go_at_call 40; (with_reducible refine C3.mono ?_); rintro e w5 ⟨rfl, hb5⟩; have hA5 := hA4.trans (hb5.mono hA4.size)))
  go_wp2_with fail
  go_ret
  exact ⟨by rw [← HT.out]; rfl, hB2.trans (hA5.mono hB2.size)⟩

set_option maxHeartbeats 2000000 in
theorem specPoolText_any (vn vd : Value) (p : P3) (w : World) (lo lo' : Nat) (hn : SlI w lo w.heap.size vn p.nums) (hd : SlI w lo' w.heap.size vd p.drawn) :
    Calls Tryz.prog 7 #[.agg #[vn, vd, .int .i64 p.st]] w fun e w' => e = .returned (.tuple #[.string (str (textPF p).1), .int .i64 (textPF p).2]) ∧ Below w.heap.size w w' := by
  obtain ⟨A, c, rfl, hc1, hc2⟩ := hn.form
  obtain ⟨A', c', rfl, hc1', hc2'⟩ := hd.form
  have bX := Blk.new w 26 #[.slice A p.nums.length c, .slice A' p.drawn.length c', .int .i64 p.st]
  have hb : Below w.heap.size w (w.alloc (.cells #[.slice A p.nums.length c, .slice A' p.drawn.length c', .int .i64 p.st] 26)) := (Below.refl _ _).alloc (Nat.le_refl _) _
  go_enter Tryz.func7, Tryz.ntmps7
  go_wp2_with fail
  generalize (w.alloc (.cells #[.slice A p.nums.length c, .slice A' p.drawn.length c', .int .i64 p.st] 26)) = w1 at *
  have n1 := (hn.below hb (Nat.le_refl _)).more (Nat.le_refl _) hb.size
  have d1 := (hd.below hb (Nat.le_refl _)).more (Nat.le_refl _) hb.size
  refine (specIsPool_any _ _ p w1 lo lo' n1 d1).mono ?_
  rintro e w2 ⟨rfl, hb2⟩
  have hB2 := hb.trans (hb2.mono hb.size)
  have bX2 := bX.below' hb2
  have n2 := (n1.below hb2 (Nat.le_refl _)).more (Nat.le_refl _) hb2.size
  have d2 := (d1.below hb2 (Nat.le_refl _)).more (Nat.le_refl _) hb2.size
  cases hk : poolOk p
  · have E := Lib.hid (show textPF p = ([], 1) by simp [textPF, hk])
    clear hk
    go_wp2_with fail
    go_ret2
    exact ⟨by rw [E.out]; rfl, hB2⟩
  · have E := Lib.hid (show textPF p = (textP p, 0) by simp [textPF, hk])
    have C := l08Text_any _ _ p w2 lo lo' n2 d2 hk
    clear hk
    obtain ⟨k0, k1, k2⟩ := s3_cells bX2
    go_wp2_with fail
    refine C.mono ?_
    rintro e w3 ⟨rfl, hb3⟩
    go_wp2_with fail
    go_ret2
    exact ⟨by rw [E.out]; rfl, hB2.trans (hb3.mono hB2.size)⟩
end Go.Proofs.YtodfkbgifoecbaaGreatDoor
