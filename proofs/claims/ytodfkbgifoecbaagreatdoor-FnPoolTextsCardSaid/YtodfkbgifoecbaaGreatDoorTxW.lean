/- Pools read from texts: the program's and the reference's functions. What they ask: the package-level variables as the program lays them, and a text of bounded size. -/
import Derived.Test.YtodfkbgifoecbaaGreatDoorTxS
import Derived.Test.YtodfkbgifoecbaaGreatDoorTxV
import Derived.Test.YtodfkbgifoecbaaGreatDoorTxK
namespace Go.Proofs.YtodfkbgifoecbaaGreatDoor
open Go.RowKit
open Go.Lib hiding intOf
attribute [local go_sem ↓] Go.wp_at_zero Go.wp_at_succ

set_option maxRecDepth 100000 in
set_option maxHeartbeats 4000000 in
theorem implReadPool_any (s : ByteArray) (w : World) (B : Nat) (hE : Env B w) (hB : B ≤ w.heap.size) (hs : s.size ≤ 1048576) :
    Calls Tryz.prog 9 #[.string s] w fun e w' => ∃ xn xd Q, e = .returned (.tuple #[.agg #[xn, xd, .int .i64 (RPg rdF rdF s.data.toList).1.st], .int .i64 (RPg rdF rdF s.data.toList).2]) ∧ OwI i64s 1 2 w' w.heap.size Q xn (RPg rdF rdF s.data.toList).1.nums ∧ OwI i64s 1 2 w' Q w'.heap.size xd (RPg rdF rdF s.data.toList).1.drawn ∧ w.heap.size ≤ Q ∧ Q ≤ w'.heap.size ∧ Below w.heap.size w w' := by
  have bR := Blk.new w 26 #[.slice none 0 0, .slice none 0 0, .int .i64 0]
  have hB1 : Below w.heap.size w (w.alloc (.cells #[.slice none 0 0, .slice none 0 0, .int .i64 0] 26)) := (Below.refl _ _).alloc (Nat.le_refl _) _
  have z1 : (w.alloc (.cells #[.slice none 0 0, .slice none 0 0, .int .i64 0] 26)).heap.size = w.heap.size + 1 := by simp
  have HS : Hid ((w.alloc (.cells #[.slice none 0 0, .slice none 0 0, .int .i64 0] 26)).ShapedOpen Tryz.prog) := Lib.hid (hE.on (hB1.mono hB)).here.1
  have CS := split_any s 47 (w.alloc (.cells #[.slice none 0 0, .slice none 0 0, .int .i64 0] 26)) HS.out hs
  go_enter Tryz.func9, Tryz.ntmps9
  go_wp2_with fail
  generalize (w.alloc (.cells #[.slice none 0 0, .slice none 0 0, .int .i64 0] 26)) = w1 at *
  refine CS.mono ?_
  clear CS
  rintro e w2 ⟨A, n, c, xs, rfl, rfl, hsl, HX, hn, HZ0, hb2⟩
  have HZ := Lib.hid (show ∀ x ∈ xs, x.size ≤ 1048576 from fun x hx => Nat.le_trans (HZ0.out x hx) hs)
  have z2 := hb2.size
  have hsl := hsl.more (lo' := 0) (Nat.zero_le _) (Nat.le_refl _)
  clear HZ0 HS
  have hB2 := hB1.trans (hb2.mono hB1.size)
  have bR2 := bR.below' hb2
  clear hb2 bR
  by_cases hlen : xs.length = 3
  case neg =>
    have hd : ((xs.length : Int) == 3) = false := by rw [beq_eq_false_iff_ne]; omega
    have HF := Lib.hid (show RPg rdF rdF s.data.toList = (⟨[], [], 0⟩, 6) from RPg_len (by rw [← HX.out, List.length_map]; exact hlen))
    have c0 : w2.cell? ⟨w.heap.size, 0, none⟩ = some (.slice none 0 0) := bR2.cell 0
    have c1 : w2.cell? ⟨w.heap.size, 1, none⟩ = some (.slice none 0 0) := bR2.cell 1
    have c2 : w2.cell? ⟨w.heap.size, 2, none⟩ = some (.int .i64 0) := bR2.cell 2
    have f0 : w2.frozen? ⟨w.heap.size, 0, none⟩ = false := bR2.frozen 0
    have f1 : w2.frozen? ⟨w.heap.size, 1, none⟩ = false := bR2.frozen 1
    have f2 : w2.frozen? ⟨w.heap.size, 2, none⟩ = false := bR2.frozen 2
    clear HX HZ hsl
    go_wp2_with fail
    refine bodyPost_ret (v := .tuple #[.agg #[.slice none 0 0, .slice none 0 0, .int .i64 0], .int .i64 6]) (by simp [results, Tryz.results9, go_sem, c0, c1, c2]) rfl ⟨.slice none 0 0, .slice none 0 0, w.heap.size, by rw [HF.out], by rw [HF.out]; exact ⟨own_nil _ _ _ _ _, fun g hg => by cases hg⟩, by rw [HF.out]; exact ⟨own_nil _ _ _ _ _, fun g hg => by cases hg⟩, Nat.le_refl _, ?_, ?_⟩
    · repeat' refine Nat.le_trans ?_ (Nat.le_of_eq (size_setCell _ _ _).symm)
      exact hB2.size
    · repeat' refine Below.setCell ?_ (by simp; try omega) _
      exact hB2
  match xs, hlen with
  | [xa, xb, xc], _ =>
  have hsp : splitL 47 s.data.toList = [xa.data.toList, xb.data.toList, xc.data.toList] := HX.out.symm
  have sza : xa.size ≤ 1048576 := HZ.out xa (by simp)
  have szb : xb.size ≤ 1048576 := HZ.out xb (by simp)
  have szc : xc.size ≤ 1048576 := HZ.out xc (by simp)
  have HRP := Lib.hid (RPg_parts (f := rdF) (g := rdF) hsp)
  have HCa := rlF_code rdF xa.data.toList
  have HCb := rlF_code rdF xb.data.toList
  obtain ⟨ba, oa, rfl, _, hba, ca⟩ := str_at (k := 0) hsl rfl
  simp only [Nat.add_zero] at ca
  clear hsp HX HZ
  have C1 := implReadList_any xa w2 B (hE.on (hB2.mono hB)) (Nat.le_trans hB hB2.size) sza
  have HC2 := Lib.hid (fun W h1 h2 => implReadList_any xb W B h1 h2 szb)
  have HC3 := Lib.hid (fun W h1 h2 => readDecimal_any xc W B h1 h2 (by omega))
  generalize (rlF rdF xa.data.toList).1 = na at *
  generalize (rlF rdF xa.data.toList).2 = one at *
  generalize (rlF rdF xb.data.toList).1 = nb at *
  generalize (rlF rdF xb.data.toList).2 = two at *
  generalize (rdF xc.data.toList).1 = st at *
  generalize (rdF xc.data.toList).2 = ok at *
  go_wp2_with fail
  refine C1.mono ?_
  clear C1 ca
  rintro e w3 ⟨va, rfl, oA, hb3⟩
  have hB3 := hB2.trans (hb3.mono hB2.size)
  have bR3 := bR2.below' hb3
  have z3 := hb3.size
  obtain ⟨_, _, e1, _, _, cb⟩ := str_at (k := 1) (hsl.below hb3 (Nat.le_refl _)) rfl
  injection e1 with e1
  injection e1 with e2 e3
  subst e2 e3
  have hsl3 := (hsl.below hb3 (Nat.le_refl _)).more (hi' := w3.heap.size) (Nat.le_refl _) z3
  have C2 := HC2.out w3 (hE.on (hB3.mono hB)) (Nat.le_trans hB hB3.size)
  clear HC2 bR2 hb3 hsl
  go_wp2_with fail
  refine C2.mono ?_
  clear C2 cb
  rintro e w4 ⟨vb, rfl, oB, hb4⟩
  have hB4 := hB3.trans (hb4.mono hB3.size)
  have bR4 := bR3.below' hb4
  have z4 := hb4.size
  have oA4 := oA.below hb4
  have hA3 := Lib.hid (show ∀ g, va.ownBlock = some g → g < w3.heap.size from fun g hg => (oA.own.lt g hg).2)
  obtain ⟨_, _, e1, _, _, cc⟩ := str_at (k := 2) (hsl3.below hb4 (Nat.le_refl _)) rfl
  injection e1 with e1
  injection e1 with e2 e3
  subst e2 e3
  have C3 := HC3.out w4 (hE.on (hB4.mono hB)) (Nat.le_trans hB hB4.size)
  clear HC3 bR3 hb4 hsl3 oA
  go_wp2_with fail
  refine C3.mono ?_
  clear C3 cc
  rintro e w5 ⟨rfl, hb5⟩
  have hB5 := hB4.trans (hb5.mono hB4.size)
  have bR5 := bR4.below' hb5
  have z5 := hb5.size
  have oA5 := oA4.below hb5
  have oB5 := oB.below hb5
  clear bR4 hb5 oA4 oB
  obtain ⟨A1, c1', e4, _, _⟩ := (own_slR (f := i64s) (s := 1) (fun _ => rfl) (OwnR.own oA5)).form
  subst e4
  obtain ⟨A2, c2', e5, _, _⟩ := (own_slR (f := i64s) (s := 1) (fun _ => rfl) (OwnR.own oB5)).form
  subst e5
  have bX := Blk.new w5 26 #[.slice A1 na.length c1', .slice A2 nb.length c2', .int .i64 st]
  have hb6 : Below w5.heap.size w5 (w5.alloc (.cells #[.slice A1 na.length c1', .slice A2 nb.length c2', .int .i64 st] 26)) := (Below.refl _ _).alloc (Nat.le_refl _) _
  have oA6 := oA5.below hb6
  have oB6 := oB5.below hb6
  have bR6 := bR5.below' hb6
  have hB6 := hB5.trans (hb6.mono hB5.size)
  have z6 := hb6.size
  have C4 := implIsPool_any _ _ ⟨na, nb, st⟩ _ _ _ (own_slR (f := i64s) (s := 1) (fun _ => rfl) (OwnR.own oA6)) (own_slR (f := i64s) (s := 1) (fun _ => rfl) (OwnR.own oB6))
  have bX6 : Blk (w5.alloc (.cells #[.slice A1 na.length c1', .slice A2 nb.length c2', .int .i64 st] 26)) w5.heap.size 26 #[.slice A1 na.length c1', .slice A2 nb.length c2', .int .i64 st] := bX
  clear bX hb6 oA5 oB5 bR5
  have c0 : (w5.alloc (.cells #[.slice A1 na.length c1', .slice A2 nb.length c2', .int .i64 st] 26)).cell? ⟨w.heap.size, 0, none⟩ = some (.slice none 0 0) := bR6.cell 0
  have c1 : (w5.alloc (.cells #[.slice A1 na.length c1', .slice A2 nb.length c2', .int .i64 st] 26)).cell? ⟨w.heap.size, 1, none⟩ = some (.slice none 0 0) := bR6.cell 1
  have c2 : (w5.alloc (.cells #[.slice A1 na.length c1', .slice A2 nb.length c2', .int .i64 st] 26)).cell? ⟨w.heap.size, 2, none⟩ = some (.int .i64 0) := bR6.cell 2
  have f0 : (w5.alloc (.cells #[.slice A1 na.length c1', .slice A2 nb.length c2', .int .i64 st] 26)).frozen? ⟨w.heap.size, 0, none⟩ = false := bR6.frozen 0
  have f1 : (w5.alloc (.cells #[.slice A1 na.length c1', .slice A2 nb.length c2', .int .i64 st] 26)).frozen? ⟨w.heap.size, 1, none⟩ = false := bR6.frozen 1
  have f2 : (w5.alloc (.cells #[.slice A1 na.length c1', .slice A2 nb.length c2', .int .i64 st] 26)).frozen? ⟨w.heap.size, 2, none⟩ = false := bR6.frozen 2
  have d0 : (w5.alloc (.cells #[.slice A1 na.length c1', .slice A2 nb.length c2', .int .i64 st] 26)).cell? ⟨w5.heap.size, 0, none⟩ = some (.slice A1 na.length c1') := bX6.cell 0
  have d1 : (w5.alloc (.cells #[.slice A1 na.length c1', .slice A2 nb.length c2', .int .i64 st] 26)).cell? ⟨w5.heap.size, 1, none⟩ = some (.slice A2 nb.length c2') := bX6.cell 1
  have d2 : (w5.alloc (.cells #[.slice A1 na.length c1', .slice A2 nb.length c2', .int .i64 st] 26)).cell? ⟨w5.heap.size, 2, none⟩ = some (.int .i64 st) := bX6.cell 2
  rcases HCa with rfl | rfl
  case inr =>
    have HF := Lib.hid (show RPg rdF rdF s.data.toList = (⟨[], [], 0⟩, 6) by rw [HRP.out, if_neg (by rintro ⟨h1, h2, h3, h4⟩; exact absurd h1 (by decide))])
    clear HRP C4
    go_wp2_with fail
    refine bodyPost_ret (v := .tuple #[.agg #[.slice none 0 0, .slice none 0 0, .int .i64 0], .int .i64 6]) (by simp [results, Tryz.results9, go_sem, c0, c1, c2]) rfl ⟨.slice none 0 0, .slice none 0 0, w.heap.size, by rw [HF.out], by rw [HF.out]; exact ⟨own_nil _ _ _ _ _, fun g hg => by cases hg⟩, by rw [HF.out]; exact ⟨own_nil _ _ _ _ _, fun g hg => by cases hg⟩, Nat.le_refl _, ?_, ?_⟩
    · repeat' refine Nat.le_trans ?_ (Nat.le_of_eq (size_setCell _ _ _).symm)
      exact hB6.size
    · repeat' refine Below.setCell ?_ (by simp; try omega) _
      exact hB6
  rcases HCb with rfl | rfl
  case inr =>
    have HF := Lib.hid (show RPg rdF rdF s.data.toList = (⟨[], [], 0⟩, 6) by rw [HRP.out, if_neg (by rintro ⟨h1, h2, h3, h4⟩; exact absurd h2 (by decide))])
    clear HRP C4
    go_wp2_with fail
    refine bodyPost_ret (v := .tuple #[.agg #[.slice none 0 0, .slice none 0 0, .int .i64 0], .int .i64 6]) (by simp [results, Tryz.results9, go_sem, c0, c1, c2]) rfl ⟨.slice none 0 0, .slice none 0 0, w.heap.size, by rw [HF.out], by rw [HF.out]; exact ⟨own_nil _ _ _ _ _, fun g hg => by cases hg⟩, by rw [HF.out]; exact ⟨own_nil _ _ _ _ _, fun g hg => by cases hg⟩, Nat.le_refl _, ?_, ?_⟩
    · repeat' refine Nat.le_trans ?_ (Nat.le_of_eq (size_setCell _ _ _).symm)
      exact hB6.size
    · repeat' refine Below.setCell ?_ (by simp; try omega) _
      exact hB6
  cases ok
  case false =>
    have HF := Lib.hid (show RPg rdF rdF s.data.toList = (⟨[], [], 0⟩, 6) by rw [HRP.out, if_neg (by rintro ⟨h1, h2, h3, h4⟩; cases h3)])
    clear HRP C4
    go_wp2_with fail
    refine bodyPost_ret (v := .tuple #[.agg #[.slice none 0 0, .slice none 0 0, .int .i64 0], .int .i64 6]) (by simp [results, Tryz.results9, go_sem, c0, c1, c2]) rfl ⟨.slice none 0 0, .slice none 0 0, w.heap.size, by rw [HF.out], by rw [HF.out]; exact ⟨own_nil _ _ _ _ _, fun g hg => by cases hg⟩, by rw [HF.out]; exact ⟨own_nil _ _ _ _ _, fun g hg => by cases hg⟩, Nat.le_refl _, ?_, ?_⟩
    · repeat' refine Nat.le_trans ?_ (Nat.le_of_eq (size_setCell _ _ _).symm)
      exact hB6.size
    · repeat' refine Below.setCell ?_ (by simp; try omega) _
      exact hB6
  cases hok : poolOk ⟨na, nb, st⟩
  case false =>
    have HF := Lib.hid (show RPg rdF rdF s.data.toList = (⟨[], [], 0⟩, 6) by rw [HRP.out, if_neg (by rintro ⟨h1, h2, h3, h4⟩; rw [hok] at h4; cases h4)])
    rw [hok] at C4
    clear HRP hok
    go_wp2_with fail
    refine C4.mono ?_
    clear C4 c0 c1 c2 f0 f1 f2 d0 d1 d2
    rintro e w7 ⟨rfl, hb7⟩
    have hB7 := hB6.trans (hb7.mono hB6.size)
    have bR7 := bR6.below' hb7
    have bX7 := bX6.below' hb7
    have oA7 := oA6.below hb7
    have oB7 := oB6.below hb7
    have z7 := hb7.size
    clear hb7
    have c0 : w7.cell? ⟨w.heap.size, 0, none⟩ = some (.slice none 0 0) := bR7.cell 0
    have c1 : w7.cell? ⟨w.heap.size, 1, none⟩ = some (.slice none 0 0) := bR7.cell 1
    have c2 : w7.cell? ⟨w.heap.size, 2, none⟩ = some (.int .i64 0) := bR7.cell 2
    have f0 : w7.frozen? ⟨w.heap.size, 0, none⟩ = false := bR7.frozen 0
    have f1 : w7.frozen? ⟨w.heap.size, 1, none⟩ = false := bR7.frozen 1
    have f2 : w7.frozen? ⟨w.heap.size, 2, none⟩ = false := bR7.frozen 2
    have d0 : w7.cell? ⟨w5.heap.size, 0, none⟩ = some (.slice A1 na.length c1') := bX7.cell 0
    have d1 : w7.cell? ⟨w5.heap.size, 1, none⟩ = some (.slice A2 nb.length c2') := bX7.cell 1
    have d2 : w7.cell? ⟨w5.heap.size, 2, none⟩ = some (.int .i64 st) := bX7.cell 2
    go_wp2_with fail
    refine bodyPost_ret (v := .tuple #[.agg #[.slice none 0 0, .slice none 0 0, .int .i64 0], .int .i64 6]) (by simp [results, Tryz.results9, go_sem, c0, c1, c2]) rfl ⟨.slice none 0 0, .slice none 0 0, w.heap.size, by rw [HF.out], by rw [HF.out]; exact ⟨own_nil _ _ _ _ _, fun g hg => by cases hg⟩, by rw [HF.out]; exact ⟨own_nil _ _ _ _ _, fun g hg => by cases hg⟩, Nat.le_refl _, ?_, ?_⟩
    · repeat' refine Nat.le_trans ?_ (Nat.le_of_eq (size_setCell _ _ _).symm)
      exact hB7.size
    · repeat' refine Below.setCell ?_ (by simp; try omega) _
      exact hB7
  case true =>
    have HF := Lib.hid (show RPg rdF rdF s.data.toList = (⟨na, nb, st⟩, 0) by rw [HRP.out, if_pos ⟨rfl, rfl, rfl, hok⟩])
    rw [hok] at C4
    clear HRP hok
    go_wp2_with fail
    refine C4.mono ?_
    clear C4 c0 c1 c2 f0 f1 f2 d0 d1 d2
    rintro e w7 ⟨rfl, hb7⟩
    have hB7 := hB6.trans (hb7.mono hB6.size)
    have bR7 := bR6.below' hb7
    have bX7 := bX6.below' hb7
    have oA7 := oA6.below hb7
    have oB7 := oB6.below hb7
    have z7 := hb7.size
    clear hb7
    have c0 : w7.cell? ⟨w.heap.size, 0, none⟩ = some (.slice none 0 0) := bR7.cell 0
    have c1 : w7.cell? ⟨w.heap.size, 1, none⟩ = some (.slice none 0 0) := bR7.cell 1
    have c2 : w7.cell? ⟨w.heap.size, 2, none⟩ = some (.int .i64 0) := bR7.cell 2
    have f0 : w7.frozen? ⟨w.heap.size, 0, none⟩ = false := bR7.frozen 0
    have f1 : w7.frozen? ⟨w.heap.size, 1, none⟩ = false := bR7.frozen 1
    have f2 : w7.frozen? ⟨w.heap.size, 2, none⟩ = false := bR7.frozen 2
    have d0 : w7.cell? ⟨w5.heap.size, 0, none⟩ = some (.slice A1 na.length c1') := bX7.cell 0
    have d1 : w7.cell? ⟨w5.heap.size, 1, none⟩ = some (.slice A2 nb.length c2') := bX7.cell 1
    have d2 : w7.cell? ⟨w5.heap.size, 2, none⟩ = some (.int .i64 st) := bX7.cell 2
    go_wp2_with fail
    have yA := oA7.own.lt
    have yB := oB7.own.lt
    refine bodyPost_ret (v := .tuple #[.agg #[.slice A1 na.length c1', .slice A2 nb.length c2', .int .i64 st], .int .i64 0]) (by simp [results, Tryz.results9, go_sem, c0, c1, c2]) rfl ⟨.slice A1 na.length c1', .slice A2 nb.length c2', w3.heap.size, by rw [HF.out], ?_, ?_, by omega, ?_, ?_⟩
    · rw [HF.out]
      refine ⟨?_, hA3.out⟩
      have o7 : OwnR i64s 1 w7 w.heap.size 2 (.slice A1 na.length c1') na := OwnR.more oA7 (by omega)
      repeat' refine OwnR.setCell ?_ _ _ (fun k hk => by have := (yA k hk).1; simp; omega)
      exact o7
    · rw [HF.out]
      refine ⟨?_, fun g hg => ?_⟩
      · repeat' refine OwnR.setCell ?_ _ _ (fun k hk => by have := (yB k hk).1; simp; omega)
        exact oB7
      · refine Nat.lt_of_lt_of_le (yB g hg).2 ?_
        repeat' refine Nat.le_trans ?_ (Nat.le_of_eq (size_setCell _ _ _).symm)
        exact Nat.le_refl _
    · repeat' refine Nat.le_trans ?_ (Nat.le_of_eq (size_setCell _ _ _).symm)
      omega
    · repeat' refine Below.setCell ?_ (by simp; try omega) _
      exact hB7

set_option maxRecDepth 100000 in
set_option maxHeartbeats 4000000 in
theorem specReadPool_any (s : ByteArray) (w : World) (hs : s.size ≤ 1048576) :
    Calls Tryz.prog 10 #[.string s] w fun e w' => ∃ xn xd Q, e = .returned (.tuple #[.agg #[xn, xd, .int .i64 (RPg sgF valF s.data.toList).1.st], .int .i64 (RPg sgF valF s.data.toList).2]) ∧ OwI i64s 1 2 w' w.heap.size Q xn (RPg sgF valF s.data.toList).1.nums ∧ OwI i64s 1 2 w' Q w'.heap.size xd (RPg sgF valF s.data.toList).1.drawn ∧ w.heap.size ≤ Q ∧ Q ≤ w'.heap.size ∧ Below w.heap.size w w' := by
  have bR := Blk.new w 26 #[.slice none 0 0, .slice none 0 0, .int .i64 0]
  have hB1 : Below w.heap.size w (w.alloc (.cells #[.slice none 0 0, .slice none 0 0, .int .i64 0] 26)) := (Below.refl _ _).alloc (Nat.le_refl _) _
  have z1 : (w.alloc (.cells #[.slice none 0 0, .slice none 0 0, .int .i64 0] 26)).heap.size = w.heap.size + 1 := by simp
  have CS := l01Split_any s 47 (w.alloc (.cells #[.slice none 0 0, .slice none 0 0, .int .i64 0] 26)) hs
  rw [show (((47 : UInt8).toNat : Nat) : Int) = 47 from rfl] at CS
  go_enter Tryz.func10, Tryz.ntmps10
  go_wp2_with fail
  generalize (w.alloc (.cells #[.slice none 0 0, .slice none 0 0, .int .i64 0] 26)) = w1 at *
  refine CS.mono ?_
  clear CS
  rintro e w2 ⟨v, xs, rfl, o2, HX, hb2⟩
  have z2 := hb2.size
  have hsl := (own_slR (f := strs) (s := 1) (fun _ => rfl) (OwnR.own o2)).more (lo' := 0) (Nat.zero_le _) (Nat.le_refl _)
  obtain ⟨A, c, e', hc1, hc2⟩ := hsl.form
  subst e'
  have hsz := splitL_size 47 s.data.toList
  rw [← HX.out, size_data] at hsz
  have HZ := Lib.hid (show ∀ x ∈ xs, x.size ≤ 1048576 from fun x hx => by have := hsz.2 _ (List.mem_map_of_mem hx); rw [size_data] at this; omega)
  clear hsz o2
  have hB2 := hB1.trans (hb2.mono hB1.size)
  have bR2 := bR.below' hb2
  clear hb2 bR
  by_cases hlen : xs.length = 3
  case neg =>
    have hd : ((xs.length : Int) == 3) = false := by rw [beq_eq_false_iff_ne]; omega
    have HF := Lib.hid (show RPg sgF valF s.data.toList = (⟨[], [], 0⟩, 6) from RPg_len (by rw [← HX.out, List.length_map]; exact hlen))
    have c0 : w2.cell? ⟨w.heap.size, 0, none⟩ = some (.slice none 0 0) := bR2.cell 0
    have c1 : w2.cell? ⟨w.heap.size, 1, none⟩ = some (.slice none 0 0) := bR2.cell 1
    have c2 : w2.cell? ⟨w.heap.size, 2, none⟩ = some (.int .i64 0) := bR2.cell 2
    have f0 : w2.frozen? ⟨w.heap.size, 0, none⟩ = false := bR2.frozen 0
    have f1 : w2.frozen? ⟨w.heap.size, 1, none⟩ = false := bR2.frozen 1
    have f2 : w2.frozen? ⟨w.heap.size, 2, none⟩ = false := bR2.frozen 2
    clear HX HZ hsl
    go_wp2_with fail
    refine bodyPost_ret (v := .tuple #[.agg #[.slice none 0 0, .slice none 0 0, .int .i64 0], .int .i64 6]) (by simp [results, Tryz.results10, go_sem, c0, c1, c2]) rfl ⟨.slice none 0 0, .slice none 0 0, w.heap.size, by rw [HF.out], by rw [HF.out]; exact ⟨own_nil _ _ _ _ _, fun g hg => by cases hg⟩, by rw [HF.out]; exact ⟨own_nil _ _ _ _ _, fun g hg => by cases hg⟩, Nat.le_refl _, ?_, ?_⟩
    · repeat' refine Nat.le_trans ?_ (Nat.le_of_eq (size_setCell _ _ _).symm)
      exact hB2.size
    · repeat' refine Below.setCell ?_ (by simp; try omega) _
      exact hB2
  match xs, hlen with
  | [xa, xb, xc], _ =>
  have hsp : splitL 47 s.data.toList = [xa.data.toList, xb.data.toList, xc.data.toList] := HX.out.symm
  have sza : xa.size ≤ 1048576 := HZ.out xa (by simp)
  have szb : xb.size ≤ 1048576 := HZ.out xb (by simp)
  have szc : xc.size ≤ 1048576 := HZ.out xc (by simp)
  have HRP := Lib.hid (RPg_parts (f := sgF) (g := valF) hsp)
  have HCa := rlF_code sgF xa.data.toList
  have HCb := rlF_code sgF xb.data.toList
  obtain ⟨ba, oa, rfl, _, hba, ca⟩ := str_at (k := 0) hsl rfl
  simp only [Nat.add_zero] at ca
  clear hsp HX HZ
  have C1 := specReadList_any xa w2 sza
  have HC2 := Lib.hid (fun W => specReadList_any xb W szb)
  have HC3 := Lib.hid (fun W => l01Value_any xc W szc)
  generalize (rlF sgF xa.data.toList).1 = na at *
  generalize (rlF sgF xa.data.toList).2 = one at *
  generalize (rlF sgF xb.data.toList).1 = nb at *
  generalize (rlF sgF xb.data.toList).2 = two at *
  generalize (valF xc.data.toList).1 = st at *
  generalize (valF xc.data.toList).2 = ok at *
  go_wp2_with fail
  refine C1.mono ?_
  clear C1 ca
  rintro e w3 ⟨va, rfl, oA, hb3⟩
  have hB3 := hB2.trans (hb3.mono hB2.size)
  have bR3 := bR2.below' hb3
  have z3 := hb3.size
  obtain ⟨_, _, e1, _, _, cb⟩ := str_at (k := 1) (hsl.below hb3 (Nat.le_refl _)) rfl
  injection e1 with e1
  injection e1 with e2 e3
  subst e2 e3
  have hsl3 := (hsl.below hb3 (Nat.le_refl _)).more (hi' := w3.heap.size) (Nat.le_refl _) z3
  have C2 := HC2.out w3
  clear HC2 bR2 hb3 hsl
  go_wp2_with fail
  refine C2.mono ?_
  clear C2 cb
  rintro e w4 ⟨vb, rfl, oB, hb4⟩
  have hB4 := hB3.trans (hb4.mono hB3.size)
  have bR4 := bR3.below' hb4
  have z4 := hb4.size
  have oA4 := oA.below hb4
  have hA3 := Lib.hid (show ∀ g, va.ownBlock = some g → g < w3.heap.size from fun g hg => (oA.own.lt g hg).2)
  obtain ⟨_, _, e1, _, _, cc⟩ := str_at (k := 2) (hsl3.below hb4 (Nat.le_refl _)) rfl
  injection e1 with e1
  injection e1 with e2 e3
  subst e2 e3
  have C3 := HC3.out w4
  clear HC3 bR3 hb4 hsl3 oA
  go_wp2_with fail
  refine C3.mono ?_
  clear C3 cc
  rintro e w5 ⟨rfl, hb5⟩
  have hB5 := hB4.trans (hb5.mono hB4.size)
  have bR5 := bR4.below' hb5
  have z5 := hb5.size
  have oA5 := oA4.below hb5
  have oB5 := oB.below hb5
  clear bR4 hb5 oA4 oB
  obtain ⟨A1, c1', e4, _, _⟩ := (own_slR (f := i64s) (s := 1) (fun _ => rfl) (OwnR.own oA5)).form
  subst e4
  obtain ⟨A2, c2', e5, _, _⟩ := (own_slR (f := i64s) (s := 1) (fun _ => rfl) (OwnR.own oB5)).form
  subst e5
  have bX := Blk.new w5 26 #[.slice A1 na.length c1', .slice A2 nb.length c2', .int .i64 st]
  have hb6 : Below w5.heap.size w5 (w5.alloc (.cells #[.slice A1 na.length c1', .slice A2 nb.length c2', .int .i64 st] 26)) := (Below.refl _ _).alloc (Nat.le_refl _) _
  have oA6 := oA5.below hb6
  have oB6 := oB5.below hb6
  have bR6 := bR5.below' hb6
  have hB6 := hB5.trans (hb6.mono hB5.size)
  have z6 := hb6.size
  have C4 := specIsPool_any _ _ ⟨na, nb, st⟩ _ _ _ (own_slR (f := i64s) (s := 1) (fun _ => rfl) (OwnR.own oA6)) (own_slR (f := i64s) (s := 1) (fun _ => rfl) (OwnR.own oB6))
  have bX6 : Blk (w5.alloc (.cells #[.slice A1 na.length c1', .slice A2 nb.length c2', .int .i64 st] 26)) w5.heap.size 26 #[.slice A1 na.length c1', .slice A2 nb.length c2', .int .i64 st] := bX
  clear bX hb6 oA5 oB5 bR5
  have c0 : (w5.alloc (.cells #[.slice A1 na.length c1', .slice A2 nb.length c2', .int .i64 st] 26)).cell? ⟨w.heap.size, 0, none⟩ = some (.slice none 0 0) := bR6.cell 0
  have c1 : (w5.alloc (.cells #[.slice A1 na.length c1', .slice A2 nb.length c2', .int .i64 st] 26)).cell? ⟨w.heap.size, 1, none⟩ = some (.slice none 0 0) := bR6.cell 1
  have c2 : (w5.alloc (.cells #[.slice A1 na.length c1', .slice A2 nb.length c2', .int .i64 st] 26)).cell? ⟨w.heap.size, 2, none⟩ = some (.int .i64 0) := bR6.cell 2
  have f0 : (w5.alloc (.cells #[.slice A1 na.length c1', .slice A2 nb.length c2', .int .i64 st] 26)).frozen? ⟨w.heap.size, 0, none⟩ = false := bR6.frozen 0
  have f1 : (w5.alloc (.cells #[.slice A1 na.length c1', .slice A2 nb.length c2', .int .i64 st] 26)).frozen? ⟨w.heap.size, 1, none⟩ = false := bR6.frozen 1
  have f2 : (w5.alloc (.cells #[.slice A1 na.length c1', .slice A2 nb.length c2', .int .i64 st] 26)).frozen? ⟨w.heap.size, 2, none⟩ = false := bR6.frozen 2
  have d0 : (w5.alloc (.cells #[.slice A1 na.length c1', .slice A2 nb.length c2', .int .i64 st] 26)).cell? ⟨w5.heap.size, 0, none⟩ = some (.slice A1 na.length c1') := bX6.cell 0
  have d1 : (w5.alloc (.cells #[.slice A1 na.length c1', .slice A2 nb.length c2', .int .i64 st] 26)).cell? ⟨w5.heap.size, 1, none⟩ = some (.slice A2 nb.length c2') := bX6.cell 1
  have d2 : (w5.alloc (.cells #[.slice A1 na.length c1', .slice A2 nb.length c2', .int .i64 st] 26)).cell? ⟨w5.heap.size, 2, none⟩ = some (.int .i64 st) := bX6.cell 2
  rcases HCa with rfl | rfl
  case inr =>
    have HF := Lib.hid (show RPg sgF valF s.data.toList = (⟨[], [], 0⟩, 6) by rw [HRP.out, if_neg (by rintro ⟨h1, h2, h3, h4⟩; exact absurd h1 (by decide))])
    clear HRP C4
    go_wp2_with fail
    refine bodyPost_ret (v := .tuple #[.agg #[.slice none 0 0, .slice none 0 0, .int .i64 0], .int .i64 6]) (by simp [results, Tryz.results10, go_sem, c0, c1, c2]) rfl ⟨.slice none 0 0, .slice none 0 0, w.heap.size, by rw [HF.out], by rw [HF.out]; exact ⟨own_nil _ _ _ _ _, fun g hg => by cases hg⟩, by rw [HF.out]; exact ⟨own_nil _ _ _ _ _, fun g hg => by cases hg⟩, Nat.le_refl _, ?_, ?_⟩
    · repeat' refine Nat.le_trans ?_ (Nat.le_of_eq (size_setCell _ _ _).symm)
      exact hB6.size
    · repeat' refine Below.setCell ?_ (by simp; try omega) _
      exact hB6
  rcases HCb with rfl | rfl
  case inr =>
    have HF := Lib.hid (show RPg sgF valF s.data.toList = (⟨[], [], 0⟩, 6) by rw [HRP.out, if_neg (by rintro ⟨h1, h2, h3, h4⟩; exact absurd h2 (by decide))])
    clear HRP C4
    go_wp2_with fail
    refine bodyPost_ret (v := .tuple #[.agg #[.slice none 0 0, .slice none 0 0, .int .i64 0], .int .i64 6]) (by simp [results, Tryz.results10, go_sem, c0, c1, c2]) rfl ⟨.slice none 0 0, .slice none 0 0, w.heap.size, by rw [HF.out], by rw [HF.out]; exact ⟨own_nil _ _ _ _ _, fun g hg => by cases hg⟩, by rw [HF.out]; exact ⟨own_nil _ _ _ _ _, fun g hg => by cases hg⟩, Nat.le_refl _, ?_, ?_⟩
    · repeat' refine Nat.le_trans ?_ (Nat.le_of_eq (size_setCell _ _ _).symm)
      exact hB6.size
    · repeat' refine Below.setCell ?_ (by simp; try omega) _
      exact hB6
  cases ok
  case false =>
    have HF := Lib.hid (show RPg sgF valF s.data.toList = (⟨[], [], 0⟩, 6) by rw [HRP.out, if_neg (by rintro ⟨h1, h2, h3, h4⟩; cases h3)])
    clear HRP C4
    go_wp2_with fail
    refine bodyPost_ret (v := .tuple #[.agg #[.slice none 0 0, .slice none 0 0, .int .i64 0], .int .i64 6]) (by simp [results, Tryz.results10, go_sem, c0, c1, c2]) rfl ⟨.slice none 0 0, .slice none 0 0, w.heap.size, by rw [HF.out], by rw [HF.out]; exact ⟨own_nil _ _ _ _ _, fun g hg => by cases hg⟩, by rw [HF.out]; exact ⟨own_nil _ _ _ _ _, fun g hg => by cases hg⟩, Nat.le_refl _, ?_, ?_⟩
    · repeat' refine Nat.le_trans ?_ (Nat.le_of_eq (size_setCell _ _ _).symm)
      exact hB6.size
    · repeat' refine Below.setCell ?_ (by simp; try omega) _
      exact hB6
  cases hok : poolOk ⟨na, nb, st⟩
  case false =>
    have HF := Lib.hid (show RPg sgF valF s.data.toList = (⟨[], [], 0⟩, 6) by rw [HRP.out, if_neg (by rintro ⟨h1, h2, h3, h4⟩; rw [hok] at h4; cases h4)])
    rw [hok] at C4
    clear HRP hok
    go_wp2_with fail
    refine C4.mono ?_
    clear C4 c0 c1 c2 f0 f1 f2 d0 d1 d2
    rintro e w7 ⟨rfl, hb7⟩
    have hB7 := hB6.trans (hb7.mono hB6.size)
    have bR7 := bR6.below' hb7
    have bX7 := bX6.below' hb7
    have oA7 := oA6.below hb7
    have oB7 := oB6.below hb7
    have z7 := hb7.size
    clear hb7
    have c0 : w7.cell? ⟨w.heap.size, 0, none⟩ = some (.slice none 0 0) := bR7.cell 0
    have c1 : w7.cell? ⟨w.heap.size, 1, none⟩ = some (.slice none 0 0) := bR7.cell 1
    have c2 : w7.cell? ⟨w.heap.size, 2, none⟩ = some (.int .i64 0) := bR7.cell 2
    have f0 : w7.frozen? ⟨w.heap.size, 0, none⟩ = false := bR7.frozen 0
    have f1 : w7.frozen? ⟨w.heap.size, 1, none⟩ = false := bR7.frozen 1
    have f2 : w7.frozen? ⟨w.heap.size, 2, none⟩ = false := bR7.frozen 2
    have d0 : w7.cell? ⟨w5.heap.size, 0, none⟩ = some (.slice A1 na.length c1') := bX7.cell 0
    have d1 : w7.cell? ⟨w5.heap.size, 1, none⟩ = some (.slice A2 nb.length c2') := bX7.cell 1
    have d2 : w7.cell? ⟨w5.heap.size, 2, none⟩ = some (.int .i64 st) := bX7.cell 2
    go_wp2_with fail
    refine bodyPost_ret (v := .tuple #[.agg #[.slice none 0 0, .slice none 0 0, .int .i64 0], .int .i64 6]) (by simp [results, Tryz.results10, go_sem, c0, c1, c2]) rfl ⟨.slice none 0 0, .slice none 0 0, w.heap.size, by rw [HF.out], by rw [HF.out]; exact ⟨own_nil _ _ _ _ _, fun g hg => by cases hg⟩, by rw [HF.out]; exact ⟨own_nil _ _ _ _ _, fun g hg => by cases hg⟩, Nat.le_refl _, ?_, ?_⟩
    · repeat' refine Nat.le_trans ?_ (Nat.le_of_eq (size_setCell _ _ _).symm)
      exact hB7.size
    · repeat' refine Below.setCell ?_ (by simp; try omega) _
      exact hB7
  case true =>
    have HF := Lib.hid (show RPg sgF valF s.data.toList = (⟨na, nb, st⟩, 0) by rw [HRP.out, if_pos ⟨rfl, rfl, rfl, hok⟩])
    rw [hok] at C4
    clear HRP hok
    go_wp2_with fail
    refine C4.mono ?_
    clear C4 c0 c1 c2 f0 f1 f2 d0 d1 d2
    rintro e w7 ⟨rfl, hb7⟩
    have hB7 := hB6.trans (hb7.mono hB6.size)
    have bR7 := bR6.below' hb7
    have bX7 := bX6.below' hb7
    have oA7 := oA6.below hb7
    have oB7 := oB6.below hb7
    have z7 := hb7.size
    clear hb7
    have c0 : w7.cell? ⟨w.heap.size, 0, none⟩ = some (.slice none 0 0) := bR7.cell 0
    have c1 : w7.cell? ⟨w.heap.size, 1, none⟩ = some (.slice none 0 0) := bR7.cell 1
    have c2 : w7.cell? ⟨w.heap.size, 2, none⟩ = some (.int .i64 0) := bR7.cell 2
    have f0 : w7.frozen? ⟨w.heap.size, 0, none⟩ = false := bR7.frozen 0
    have f1 : w7.frozen? ⟨w.heap.size, 1, none⟩ = false := bR7.frozen 1
    have f2 : w7.frozen? ⟨w.heap.size, 2, none⟩ = false := bR7.frozen 2
    have d0 : w7.cell? ⟨w5.heap.size, 0, none⟩ = some (.slice A1 na.length c1') := bX7.cell 0
    have d1 : w7.cell? ⟨w5.heap.size, 1, none⟩ = some (.slice A2 nb.length c2') := bX7.cell 1
    have d2 : w7.cell? ⟨w5.heap.size, 2, none⟩ = some (.int .i64 st) := bX7.cell 2
    go_wp2_with fail
    have yA := oA7.own.lt
    have yB := oB7.own.lt
    refine bodyPost_ret (v := .tuple #[.agg #[.slice A1 na.length c1', .slice A2 nb.length c2', .int .i64 st], .int .i64 0]) (by simp [results, Tryz.results10, go_sem, c0, c1, c2]) rfl ⟨.slice A1 na.length c1', .slice A2 nb.length c2', w3.heap.size, by rw [HF.out], ?_, ?_, by omega, ?_, ?_⟩
    · rw [HF.out]
      refine ⟨?_, hA3.out⟩
      have o7 : OwnR i64s 1 w7 w.heap.size 2 (.slice A1 na.length c1') na := OwnR.more oA7 (by omega)
      repeat' refine OwnR.setCell ?_ _ _ (fun k hk => by have := (yA k hk).1; simp; omega)
      exact o7
    · rw [HF.out]
      refine ⟨?_, fun g hg => ?_⟩
      · repeat' refine OwnR.setCell ?_ _ _ (fun k hk => by have := (yB k hk).1; simp; omega)
        exact oB7
      · refine Nat.lt_of_lt_of_le (yB g hg).2 ?_
        repeat' refine Nat.le_trans ?_ (Nat.le_of_eq (size_setCell _ _ _).symm)
        exact Nat.le_refl _
    · repeat' refine Nat.le_trans ?_ (Nat.le_of_eq (size_setCell _ _ _).symm)
      omega
    · repeat' refine Below.setCell ?_ (by simp; try omega) _
      exact hB7
end Go.Proofs.YtodfkbgifoecbaaGreatDoor
