/- Candidates that the laws draw. No condition. -/
import Derived.Test.YtkhojhgcopnenaaDrawR
namespace Go.Proofs.Ytkhojhgcopnenaa
open Go.RowKit
attribute [local go_sem ↓] Go.wp_at_zero Go.wp_at_succ

/-- A record of nine cells laid into a block. -/
abbrev set9 (W : World) (R : Nat) (y0 y1 y2 y3 y4 y5 y6 y7 y8 : Value) : World := (((((((((W.setCell ⟨R, 0, none⟩ y0).setCell ⟨R, 1, none⟩ y1).setCell ⟨R, 2, none⟩ y2).setCell ⟨R, 3, none⟩ y3).setCell ⟨R, 4, none⟩ y4).setCell ⟨R, 5, none⟩ y5).setCell ⟨R, 6, none⟩ y6).setCell ⟨R, 7, none⟩ y7).setCell ⟨R, 8, none⟩ y8)
theorem n9_gr {w0 W : World} {R g : Nat} (hg : w0.grownBy W (some g)) (hw : w0.heap.size ≤ R) (y0 y1 y2 y3 y4 y5 y6 y7 y8 : Value) : w0.grownBy (set9 W R y0 y1 y2 y3 y4 y5 y6 y7 y8) (some g) := (gr_set (gr_set (gr_set (gr_set (gr_set (gr_set (gr_set (gr_set (gr_set hg (p := ⟨R, 0, none⟩) hw y0) (p := ⟨R, 1, none⟩) hw y1) (p := ⟨R, 2, none⟩) hw y2) (p := ⟨R, 3, none⟩) hw y3) (p := ⟨R, 4, none⟩) hw y4) (p := ⟨R, 5, none⟩) hw y5) (p := ⟨R, 6, none⟩) hw y6) (p := ⟨R, 7, none⟩) hw y7) (p := ⟨R, 8, none⟩) hw y8)
theorem n9_src {W : World} {R g : Nat} (hs : Src W g) (hR : g < R) (y0 y1 y2 y3 y4 y5 y6 y7 y8 : Value) : Src (set9 W R y0 y1 y2 y3 y4 y5 y6 y7 y8) g := (((((((((hs.setCell (p := ⟨R, 0, none⟩) hR y0).setCell (p := ⟨R, 1, none⟩) hR y1).setCell (p := ⟨R, 2, none⟩) hR y2).setCell (p := ⟨R, 3, none⟩) hR y3).setCell (p := ⟨R, 4, none⟩) hR y4).setCell (p := ⟨R, 5, none⟩) hR y5).setCell (p := ⟨R, 6, none⟩) hR y6).setCell (p := ⟨R, 7, none⟩) hR y7).setCell (p := ⟨R, 8, none⟩) hR y8)
theorem n9_end {w W : World} {R g : Nat} (c : K9) (hc : c.small) (hs : Src W g) (hg : w.grownBy W (some g)) (hR : g < R) (hw : w.heap.size ≤ R) (y0 y1 y2 y3 y4 y5 y6 y7 y8 : Value) :
    ∃ c' : K9, Ending.returned (.agg #[.int .i64 c.num, .string c.first, .string c.last, .int .i64 c.born, .int .i64 c.zone, .bool c.cit, .bool c.conv, .bool c.flu, .int .i64 c.job]) = .returned (.agg #[.int .i64 c'.num, .string c'.first, .string c'.last, .int .i64 c'.born, .int .i64 c'.zone, .bool c'.cit, .bool c'.conv, .bool c'.flu, .int .i64 c'.job]) ∧ c'.small ∧ Src (set9 W R y0 y1 y2 y3 y4 y5 y6 y7 y8) g ∧ w.grownBy (set9 W R y0 y1 y2 y3 y4 y5 y6 y7 y8) (some g) :=
  ⟨c, rfl, hc, n9_src hs hR y0 y1 y2 y3 y4 y5 y6 y7 y8, n9_gr hg hw y0 y1 y2 y3 y4 y5 y6 y7 y8⟩
theorem n9_five {W : World} {R : Nat} {ty : TypeId} {x0 x1 x2 x3 x4 x5 x6 x7 x8 : Value} (hb : Blk W R ty #[x0, x1, x2, x3, x4, x5, x6, x7, x8]) (y0 y1 y2 y3 y4 : Value) :
    Blk (((((W.setCell ⟨R, 0, none⟩ y0).setCell ⟨R, 1, none⟩ y1).setCell ⟨R, 2, none⟩ y2).setCell ⟨R, 3, none⟩ y3).setCell ⟨R, 4, none⟩ y4) R ty #[y0, y1, y2, y3, y4, x5, x6, x7, x8] := by
  have := ((((hb.set_ 0 y0).set_ 1 y1).set_ 2 y2).set_ 3 y3).set_ 4 y4
  simpa using this
theorem n9_small {f l : ByteArray} (hf : f.size ≤ 20) (hl : l.size ≤ 20) (n b z j : Int) (b1 b2 b3 : Bool) : (K9.mk n f l b z b1 b2 b3 j).small := ⟨show f.size ≤ maxLen by unfold maxLen; omega, show l.size ≤ maxLen by unfold maxLen; omega⟩

set_option maxRecDepth 100000 in
set_option maxHeartbeats 8000000 in
theorem l06Candidate_any (g : Nat) (w : World) (h : Src w g) :
    Calls Try.prog 70 #[.pointer (some ⟨g, 0, none⟩)] w fun e w' => ∃ c : K9, e = .returned (.agg #[.int .i64 c.num, .string c.first, .string c.last, .int .i64 c.born, .int .i64 c.zone, .bool c.cit, .bool c.conv, .bool c.flu, .int .i64 c.job]) ∧ c.small ∧ Src w' g ∧ w.grownBy w' (some g) := by
  have lg := h.lt
  go_enter Try.func70, Try.ntmps70
  go_wp2_with fail
  have bR := Blk.new w 45 #[.int .i64 0, .string ⟨#[]⟩, .string ⟨#[]⟩, .int .i64 0, .int .i64 0, .bool false, .bool false, .bool false, .int .i64 0]
  have h1 := h.alloc (.cells #[.int .i64 0, .string ⟨#[]⟩, .string ⟨#[]⟩, .int .i64 0, .int .i64 0, .bool false, .bool false, .bool false, .int .i64 0] 45)
  have g1 := gr_alloc (World.grownBy.refl w (some g)) (.cells #[.int .i64 0, .string ⟨#[]⟩, .string ⟨#[]⟩, .int .i64 0, .int .i64 0, .bool false, .bool false, .bool false, .int .i64 0] 45)
  generalize (w.alloc (.cells #[.int .i64 0, .string ⟨#[]⟩, .string ⟨#[]⟩, .int .i64 0, .int .i64 0, .bool false, .bool false, .bool false, .int .i64 0] 45)) = w1 at *
  have lR := bR.lt
  refine (l04Good_any g w1 h1).mono ?_
  rintro e w2 ⟨n, f, l, b, z, rfl, hf, hl, h2, g2⟩
  have bR := bR.grown g2 (dn_ne lg)
  have z2 := g2.size
  have G2 := grownBy_trans g1 g2
  clear h1 g1 g2
  go_wp2_with fail
  refine (l01Next_any g 8 w2 h2).mono ?_
  rintro e w3 ⟨r3, rfl, _, _, _, h3, g3⟩
  have bR := bR.grown g3 (dn_ne lg)
  have z3 := g3.size
  have G3 := grownBy_trans G2 g3
  clear h2 G2 g3
  go_wp2_with fail
  refine (l01Next_any g 10 w3 h3).mono ?_
  rintro e w4 ⟨r4, rfl, _, _, _, h4, g4⟩
  have bR := bR.grown g4 (dn_ne lg)
  have z4 := g4.size
  have G4 := grownBy_trans G3 g4
  clear h3 G3 g4
  go_wp2_with fail
  refine (l01Next_any g 8 w4 h4).mono ?_
  rintro e w5 ⟨r5, rfl, _, _, _, h5, g5⟩
  have bR := bR.grown g5 (dn_ne lg)
  have z5 := g5.size
  have G5 := grownBy_trans G4 g5
  clear h4 G4 g5
  go_wp2_with fail
  refine (l01Next_any g 10 w5 h5).mono ?_
  rintro e w6 ⟨r6, rfl, _, _, _, h6, g6⟩
  have bR := bR.grown g6 (dn_ne lg)
  have z6 := g6.size
  have G6 := grownBy_trans G5 g6
  clear h5 G5 g6
  have lgP := h6.lt
  have n1 : w.heap.size ≠ w6.heap.size := by omega
  have n2 : w6.heap.size ≠ w.heap.size := by omega
  go_wp2_with fail
  --@CUT
  generalize decide (0 < r3) = b1 at *
  generalize (r4 == 0) = b2 at *
  generalize decide (0 < r5) = b3 at *
  have bP := Blk.new w6 45 #[.int .i64 n, .string f, .string l, .int .i64 b, .int .i64 z, .bool b1, .bool b2, .bool b3, .int .i64 r6]
  have bR := bR.alloc (.cells #[.int .i64 n, .string f, .string l, .int .i64 b, .int .i64 z, .bool b1, .bool b2, .bool b3, .int .i64 r6] 45)
  have h7 := h6.alloc (.cells #[.int .i64 n, .string f, .string l, .int .i64 b, .int .i64 z, .bool b1, .bool b2, .bool b3, .int .i64 r6] 45)
  have G7 := gr_alloc G6 (.cells #[.int .i64 n, .string f, .string l, .int .i64 b, .int .i64 z, .bool b1, .bool b2, .bool b3, .int .i64 r6] 45)
  have hwP : w.heap.size ≤ w6.heap.size := by omega
  generalize (w6.alloc (.cells #[.int .i64 n, .string f, .string l, .int .i64 b, .int .i64 z, .bool b1, .bool b2, .bool b3, .int .i64 r6] 45)) = w7 at *
  obtain ⟨PB, hPB⟩ : ∃ PB, w6.heap.size = PB := ⟨_, rfl⟩
  rw [hPB] at bP lgP n1 n2 hwP
  rw [hPB]
  clear hPB h6 G6
  refine (l01Next_any g 30 w7 h7).mono ?_
  rintro e w8 ⟨r8, rfl, _, _, _, h8, g8⟩
  have bR := bR.grown g8 (dn_ne lg)
  have bP := bP.grown g8 (dn_ne lgP)
  have G8 := grownBy_trans G7 g8
  clear h7 G7 g8
  by_cases q8 : r8 = 0
  · subst q8
    go_wp2_with fail
    refine (l04Draw_any g w8 h8).mono ?_
    clear hf hl
    rintro e w9 ⟨n9, f9, l9, b9, z9, rfl, hf, hl, h9, g9⟩
    have bR := bR.grown g9 (dn_ne lg)
    have bP := bP.grown g9 (dn_ne lgP)
    have G9 := grownBy_trans G8 g9
    clear g9 h8 G8
    obtain ⟨p0, p1, p2, p3, p4, p5, p6, p7, p8⟩ := r9_cells bP
    obtain ⟨fp0, fp1, fp2, fp3, fp4, fp5, fp6, fp7, fp8⟩ := r9_open bP
    have bP := n9_five bP (.int .i64 n9) (.string f9) (.string l9) (.int .i64 b9) (.int .i64 z9)
    have bR : Blk (((((w9.setCell ⟨PB, 0, none⟩ (.int .i64 n9)).setCell ⟨PB, 1, none⟩ (.string f9)).setCell ⟨PB, 2, none⟩ (.string l9)).setCell ⟨PB, 3, none⟩ (.int .i64 b9)).setCell ⟨PB, 4, none⟩ (.int .i64 z9)) w.heap.size _ _ := (dn_other (W := w9) (R := PB) (.int .i64 n9) (.string f9) (.string l9) (.int .i64 b9) (.int .i64 z9) n1).trans bR
    have hC := dn_src h9 lgP (.int .i64 n9) (.string f9) (.string l9) (.int .i64 b9) (.int .i64 z9)
    have GC := dn_gr G9 hwP (.int .i64 n9) (.string f9) (.string l9) (.int .i64 b9) (.int .i64 z9)
    go_wp2_with fail
    clear p0 p1 p2 p3 p4 p5 p6 p7 p8 fp0 fp1 fp2 fp3 fp4 fp5 fp6 fp7 fp8 h9 G9
    generalize (((((w9.setCell ⟨PB, 0, none⟩ (.int .i64 n9)).setCell ⟨PB, 1, none⟩ (.string f9)).setCell ⟨PB, 2, none⟩ (.string l9)).setCell ⟨PB, 3, none⟩ (.int .i64 b9)).setCell ⟨PB, 4, none⟩ (.int .i64 z9)) = wC at *
    skip
    refine (l01Next_any g 30 wC hC).mono ?_
    rintro e wA ⟨rA, rfl, _, _, _, hA, gA⟩
    have bR := bR.grown gA (dn_ne lg)
    have bP := bP.grown gA (dn_ne lgP)
    have GA := grownBy_trans GC gA
    clear gA hC GC
    by_cases qA : rA = 0
    · subst qA
      go_wp2_with fail
      refine (dn_pick g 3 [20, 21, -1] _ wA hA rfl (by decide) (by decide) rfl).mono ?_
      rintro e wB ⟨x, rfl, _, hB, gB⟩
      have bR := bR.grown gB (dn_ne lg)
      have bP := bP.grown gB (dn_ne lgP)
      have GB := grownBy_trans GA gB
      clear gB hA GA
      obtain ⟨p0, p1, p2, p3, p4, p5, p6, p7, p8⟩ := r9_cells bP
      obtain ⟨fp0, fp1, fp2, fp3, fp4, fp5, fp6, fp7, fp8⟩ := r9_open bP
      obtain ⟨c0, c1, c2, c3, c4, c5, c6, c7, c8⟩ := r9_cells bR
      obtain ⟨f0, f1, f2, f3, f4, f5, f6, f7, f8⟩ := r9_open bR
      have HE := Lib.hid (n9_end (R := w.heap.size) ⟨n9, f9, l9, b9, z9, b1, b2, b3, x⟩ (n9_small hf hl n9 b9 z9 x b1 b2 b3) (hB.setCell (p := ⟨PB, 8, none⟩) lgP (.int .i64 x)) (gr_set GB (p := ⟨PB, 8, none⟩) hwP (.int .i64 x)) lg (Nat.le_refl _))
      go_wp2_with fail
      exact bodyPost_ret (v := .agg #[.int .i64 n9, .string f9, .string l9, .int .i64 b9, .int .i64 z9, .bool b1, .bool b2, .bool b3, .int .i64 x]) (by simp [results, Try.results70, go_sem, c0, c1, c2, c3, c4, c5, c6, c7, c8, n1, n2]) rfl (HE.out _ _ _ _ _ _ _ _ _)
    have dA : (rA == 0) = false := by simpa using qA
    obtain ⟨p0, p1, p2, p3, p4, p5, p6, p7, p8⟩ := r9_cells bP
    obtain ⟨fp0, fp1, fp2, fp3, fp4, fp5, fp6, fp7, fp8⟩ := r9_open bP
    obtain ⟨c0, c1, c2, c3, c4, c5, c6, c7, c8⟩ := r9_cells bR
    obtain ⟨f0, f1, f2, f3, f4, f5, f6, f7, f8⟩ := r9_open bR
    have HE := Lib.hid (n9_end (R := w.heap.size) ⟨n9, f9, l9, b9, z9, b1, b2, b3, r6⟩ (n9_small hf hl n9 b9 z9 r6 b1 b2 b3) hA GA lg (Nat.le_refl _))
    go_wp2_with fail
    exact bodyPost_ret (v := .agg #[.int .i64 n9, .string f9, .string l9, .int .i64 b9, .int .i64 z9, .bool b1, .bool b2, .bool b3, .int .i64 r6]) (by simp [results, Try.results70, go_sem, c0, c1, c2, c3, c4, c5, c6, c7, c8, n1, n2]) rfl (HE.out _ _ _ _ _ _ _ _ _)
  have d8 : (r8 == 0) = false := by simpa using q8
  go_wp2_with fail
  refine (l01Next_any g 30 w8 h8).mono ?_
  rintro e wA ⟨rA, rfl, _, _, _, hA, gA⟩
  have bR := bR.grown gA (dn_ne lg)
  have bP := bP.grown gA (dn_ne lgP)
  have GA := grownBy_trans G8 gA
  clear gA h8 G8
  by_cases qA : rA = 0
  · subst qA
    go_wp2_with fail
    refine (dn_pick g 3 [20, 21, -1] _ wA hA rfl (by decide) (by decide) rfl).mono ?_
    rintro e wB ⟨x, rfl, _, hB, gB⟩
    have bR := bR.grown gB (dn_ne lg)
    have bP := bP.grown gB (dn_ne lgP)
    have GB := grownBy_trans GA gB
    clear gB hA GA
    obtain ⟨p0, p1, p2, p3, p4, p5, p6, p7, p8⟩ := r9_cells bP
    obtain ⟨fp0, fp1, fp2, fp3, fp4, fp5, fp6, fp7, fp8⟩ := r9_open bP
    obtain ⟨c0, c1, c2, c3, c4, c5, c6, c7, c8⟩ := r9_cells bR
    obtain ⟨f0, f1, f2, f3, f4, f5, f6, f7, f8⟩ := r9_open bR
    have HE := Lib.hid (n9_end (R := w.heap.size) ⟨n, f, l, b, z, b1, b2, b3, x⟩ (n9_small hf hl n b z x b1 b2 b3) (hB.setCell (p := ⟨PB, 8, none⟩) lgP (.int .i64 x)) (gr_set GB (p := ⟨PB, 8, none⟩) hwP (.int .i64 x)) lg (Nat.le_refl _))
    go_wp2_with fail
    exact bodyPost_ret (v := .agg #[.int .i64 n, .string f, .string l, .int .i64 b, .int .i64 z, .bool b1, .bool b2, .bool b3, .int .i64 x]) (by simp [results, Try.results70, go_sem, c0, c1, c2, c3, c4, c5, c6, c7, c8, n1, n2]) rfl (HE.out _ _ _ _ _ _ _ _ _)
  have dA : (rA == 0) = false := by simpa using qA
  obtain ⟨p0, p1, p2, p3, p4, p5, p6, p7, p8⟩ := r9_cells bP
  obtain ⟨fp0, fp1, fp2, fp3, fp4, fp5, fp6, fp7, fp8⟩ := r9_open bP
  obtain ⟨c0, c1, c2, c3, c4, c5, c6, c7, c8⟩ := r9_cells bR
  obtain ⟨f0, f1, f2, f3, f4, f5, f6, f7, f8⟩ := r9_open bR
  have HE := Lib.hid (n9_end (R := w.heap.size) ⟨n, f, l, b, z, b1, b2, b3, r6⟩ (n9_small hf hl n b z r6 b1 b2 b3) hA GA lg (Nat.le_refl _))
  go_wp2_with fail
  exact bodyPost_ret (v := .agg #[.int .i64 n, .string f, .string l, .int .i64 b, .int .i64 z, .bool b1, .bool b2, .bool b3, .int .i64 r6]) (by simp [results, Try.results70, go_sem, c0, c1, c2, c3, c4, c5, c6, c7, c8, n1, n2]) rfl (HE.out _ _ _ _ _ _ _ _ _)
end Go.Proofs.Ytkhojhgcopnenaa
