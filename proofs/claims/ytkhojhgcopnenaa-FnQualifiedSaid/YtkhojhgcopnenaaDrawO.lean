/- Persons and rules that the laws draw. No condition. -/
import Derived.Test.YtkhojhgcopnenaaDrawN
import Derived.Test.YtkhojhgcopnenaaQualF
namespace Go.Proofs.Ytkhojhgcopnenaa
open Go.RowKit
attribute [local go_sem ↓] Go.wp_at_zero Go.wp_at_succ

theorem dn_pick (g n : Nat) (xs : List Int) (cs : Array Value) (w : World) (h : Src w g) (hn : xs.length = n) (h0 : 0 < n) (hm : n ≤ 1000) (hc : cs.toList = xs.flatMap i64s) :
    Calls Try.prog 82 #[.pointer (some ⟨g, 0, none⟩), .slice (some ⟨w.heap.size, 0, none⟩) n n] (w.alloc (.cells cs 2)) fun e w' => ∃ r : Int, e = .returned (.int .i64 r) ∧ r ∈ xs ∧ Src w' g ∧ w.grownBy w' (some g) := by
  refine (l01Pick_any g _ xs _ _ _ (h.alloc _) (laid_slI w _ cs xs n hn hm hc) (by simp) h.lt (by omega)).mono ?_
  rintro e w' ⟨r, h1, h2, h3, h4⟩
  exact ⟨r, h1, h2, h3, grownBy_trans (gr_alloc (World.grownBy.refl _ _) _) h4⟩
theorem dn_end {w W : World} {R g : Nat} (n : Int) (f l : ByteArray) (b z : Int) (hf : f.size ≤ 20) (hl : l.size ≤ 20) (hs : Src W g) (hg : w.grownBy W (some g)) (hgR : g < R) (hw : w.heap.size ≤ R) (y0 y1 y2 y3 y4 : Value) :
    ∃ (n' : Int) (f' l' : ByteArray) (b' z' : Int), Ending.returned (.agg #[.int .i64 n, .string f, .string l, .int .i64 b, .int .i64 z]) = .returned (.agg #[.int .i64 n', .string f', .string l', .int .i64 b', .int .i64 z']) ∧ f'.size ≤ 20 ∧ l'.size ≤ 20 ∧ Src (((((W.setCell ⟨R, 0, none⟩ y0).setCell ⟨R, 1, none⟩ y1).setCell ⟨R, 2, none⟩ y2).setCell ⟨R, 3, none⟩ y3).setCell ⟨R, 4, none⟩ y4) g ∧ w.grownBy (((((W.setCell ⟨R, 0, none⟩ y0).setCell ⟨R, 1, none⟩ y1).setCell ⟨R, 2, none⟩ y2).setCell ⟨R, 3, none⟩ y3).setCell ⟨R, 4, none⟩ y4) (some g) :=
  ⟨n, f, l, b, z, rfl, hf, hl, dn_src hs hgR _ _ _ _ _, dn_gr hg hw _ _ _ _ _⟩

set_option maxRecDepth 100000 in
set_option maxHeartbeats 8000000 in
theorem l04Draw_any (g : Nat) (w : World) (h : Src w g) :
    Calls Try.prog 84 #[.pointer (some ⟨g, 0, none⟩)] w fun e w' => ∃ (n : Int) (f l : ByteArray) (b z : Int), e = .returned (.agg #[.int .i64 n, .string f, .string l, .int .i64 b, .int .i64 z]) ∧ f.size ≤ 20 ∧ l.size ≤ 20 ∧ Src w' g ∧ w.grownBy w' (some g) := by
  have lg := h.lt
  go_enter Try.func84, Try.ntmps84
  go_wp2_with fail
  have bR := Blk.new w 43 #[.int .i64 0, .string ⟨#[]⟩, .string ⟨#[]⟩, .int .i64 0, .int .i64 0]
  have h1 := h.alloc (.cells #[.int .i64 0, .string ⟨#[]⟩, .string ⟨#[]⟩, .int .i64 0, .int .i64 0] 43)
  have g1 := gr_alloc (World.grownBy.refl w (some g)) (.cells #[.int .i64 0, .string ⟨#[]⟩, .string ⟨#[]⟩, .int .i64 0, .int .i64 0] 43)
  generalize (w.alloc (.cells #[.int .i64 0, .string ⟨#[]⟩, .string ⟨#[]⟩, .int .i64 0, .int .i64 0] 43)) = w1 at *
  refine (l04Good_any g w1 h1).mono ?_
  rintro e w2 ⟨n, f, l, b, z, rfl, hf, hl, h2, g2⟩
  have lR := bR.lt
  have z2 := g2.size
  have bR := (bR.grown g2 (dn_ne lg)).alloc (.cells #[.int .i64 n, .string f, .string l, .int .i64 b, .int .i64 z] 43)
  have bP := Blk.new w2 43 #[.int .i64 n, .string f, .string l, .int .i64 b, .int .i64 z]
  have h3 := h2.alloc (.cells #[.int .i64 n, .string f, .string l, .int .i64 b, .int .i64 z] 43)
  have g3 := gr_alloc (grownBy_trans g1 g2) (.cells #[.int .i64 n, .string f, .string l, .int .i64 b, .int .i64 z] 43)
  have lgP := h2.lt
  have n1 : w.heap.size ≠ w2.heap.size := by omega
  have n2 : w2.heap.size ≠ w.heap.size := by omega
  have hwP : w.heap.size ≤ w2.heap.size := by omega
  clear h1 g1 h2 g2
  go_wp2_with fail
  generalize (w2.alloc (.cells #[.int .i64 n, .string f, .string l, .int .i64 b, .int .i64 z] 43)) = w3 at *
  refine (l01Next_any g 30 w3 h3).mono ?_
  rintro e w4 ⟨r, rfl, _, _, _, h4, g4⟩
  have bR := bR.grown g4 (dn_ne lg)
  have bP := bP.grown g4 (dn_ne lgP)
  have G4 := grownBy_trans g3 g4
  clear g3 h3 g4
  by_cases q0 : r = 0
  · subst q0
    go_wp2_with fail
    refine (dn_pick g 3 [0, 1000000, 1000001] _ w4 h4 rfl (by decide) (by decide) rfl).mono ?_
    rintro e w5 ⟨x, rfl, _, h5, g5⟩
    have bR := bR.grown g5 (dn_ne lg)
    have bP := bP.grown g5 (dn_ne lgP)
    have G5 := grownBy_trans G4 g5
    clear g5 h4 G4
    obtain ⟨p0, p1, p2, p3, p4⟩ := dn_cells bP
    obtain ⟨fp0, fp1, fp2, fp3, fp4⟩ := dn_open bP
    obtain ⟨c0, c1, c2, c3, c4⟩ := dn_cells bR
    obtain ⟨f0, f1, f2, f3, f4⟩ := dn_open bR
    have HE := Lib.hid (dn_end (R := w.heap.size) x f l b z hf hl (h5.setCell (p := ⟨w2.heap.size, 0, none⟩) lgP (.int .i64 x)) (gr_set G5 (p := ⟨w2.heap.size, 0, none⟩) hwP (.int .i64 x))  lg (Nat.le_refl _))
    go_wp2_with fail
    exact bodyPost_ret (v := .agg #[.int .i64 x, .string f, .string l, .int .i64 b, .int .i64 z]) (by simp [results, Try.results84, go_sem, c0, c1, c2, c3, c4, n1, n2]) rfl (HE.out _ _ _ _ _)
  have d0 : (r == 0) = false := by simpa using q0
  by_cases q1 : r = 1
  · subst q1
    go_wp2_with fail
    refine (l01DrawWord_any g w4 h4).mono ?_
    rintro e w5 ⟨x, rfl, hx, h5, g5⟩
    have bR := bR.grown g5 (dn_ne lg)
    have bP := bP.grown g5 (dn_ne lgP)
    have G5 := grownBy_trans G4 g5
    clear g5 h4 G4
    obtain ⟨p0, p1, p2, p3, p4⟩ := dn_cells bP
    obtain ⟨fp0, fp1, fp2, fp3, fp4⟩ := dn_open bP
    obtain ⟨c0, c1, c2, c3, c4⟩ := dn_cells bR
    obtain ⟨f0, f1, f2, f3, f4⟩ := dn_open bR
    have HE := Lib.hid (dn_end (R := w.heap.size) n x l b z hx hl (h5.setCell (p := ⟨w2.heap.size, 1, none⟩) lgP (.string x)) (gr_set G5 (p := ⟨w2.heap.size, 1, none⟩) hwP (.string x))  lg (Nat.le_refl _))
    go_wp2_with fail
    exact bodyPost_ret (v := .agg #[.int .i64 n, .string x, .string l, .int .i64 b, .int .i64 z]) (by simp [results, Try.results84, go_sem, c0, c1, c2, c3, c4, n1, n2]) rfl (HE.out _ _ _ _ _)
  have d1 : (r == 1) = false := by simpa using q1
  by_cases q2 : r = 2
  · subst q2
    go_wp2_with fail
    refine (dn_pick g 4 [1899, 1900, 2100, 2101] _ w4 h4 rfl (by decide) (by decide) rfl).mono ?_
    rintro e w5 ⟨x, rfl, _, h5, g5⟩
    have bR := bR.grown g5 (dn_ne lg)
    have bP := bP.grown g5 (dn_ne lgP)
    have G5 := grownBy_trans G4 g5
    clear g5 h4 G4
    obtain ⟨p0, p1, p2, p3, p4⟩ := dn_cells bP
    obtain ⟨fp0, fp1, fp2, fp3, fp4⟩ := dn_open bP
    obtain ⟨c0, c1, c2, c3, c4⟩ := dn_cells bR
    obtain ⟨f0, f1, f2, f3, f4⟩ := dn_open bR
    have HE := Lib.hid (dn_end (R := w.heap.size) n f l x z hf hl (h5.setCell (p := ⟨w2.heap.size, 3, none⟩) lgP (.int .i64 x)) (gr_set G5 (p := ⟨w2.heap.size, 3, none⟩) hwP (.int .i64 x))  lg (Nat.le_refl _))
    go_wp2_with fail
    exact bodyPost_ret (v := .agg #[.int .i64 n, .string f, .string l, .int .i64 x, .int .i64 z]) (by simp [results, Try.results84, go_sem, c0, c1, c2, c3, c4, n1, n2]) rfl (HE.out _ _ _ _ _)
  have d2 : (r == 2) = false := by simpa using q2
  by_cases q3 : r = 3
  · subst q3
    go_wp2_with fail
    refine (dn_pick g 3 [-1, 99, 100] _ w4 h4 rfl (by decide) (by decide) rfl).mono ?_
    rintro e w5 ⟨x, rfl, _, h5, g5⟩
    have bR := bR.grown g5 (dn_ne lg)
    have bP := bP.grown g5 (dn_ne lgP)
    have G5 := grownBy_trans G4 g5
    clear g5 h4 G4
    obtain ⟨p0, p1, p2, p3, p4⟩ := dn_cells bP
    obtain ⟨fp0, fp1, fp2, fp3, fp4⟩ := dn_open bP
    obtain ⟨c0, c1, c2, c3, c4⟩ := dn_cells bR
    obtain ⟨f0, f1, f2, f3, f4⟩ := dn_open bR
    have HE := Lib.hid (dn_end (R := w.heap.size) n f l b x hf hl (h5.setCell (p := ⟨w2.heap.size, 4, none⟩) lgP (.int .i64 x)) (gr_set G5 (p := ⟨w2.heap.size, 4, none⟩) hwP (.int .i64 x))  lg (Nat.le_refl _))
    go_wp2_with fail
    exact bodyPost_ret (v := .agg #[.int .i64 n, .string f, .string l, .int .i64 b, .int .i64 x]) (by simp [results, Try.results84, go_sem, c0, c1, c2, c3, c4, n1, n2]) rfl (HE.out _ _ _ _ _)
  have d3 : (r == 3) = false := by simpa using q3
  obtain ⟨p0, p1, p2, p3, p4⟩ := dn_cells bP
  obtain ⟨fp0, fp1, fp2, fp3, fp4⟩ := dn_open bP
  obtain ⟨c0, c1, c2, c3, c4⟩ := dn_cells bR
  obtain ⟨f0, f1, f2, f3, f4⟩ := dn_open bR
  have HE := Lib.hid (dn_end (R := w.heap.size) n f l b z hf hl h4 G4  lg (Nat.le_refl _))
  go_wp2_with fail
  exact bodyPost_ret (v := .agg #[.int .i64 n, .string f, .string l, .int .i64 b, .int .i64 z]) (by simp [results, Try.results84, go_sem, c0, c1, c2, c3, c4, n1, n2]) rfl (HE.out _ _ _ _ _)

/-- What a function that hands rules back by value says at its end. -/
theorem rl_end {w W : World} {R g : Nat} (yr lo hi : Int) {vz vj : Value} {zs js : List Int} (sz : SlI W (R + 1) W.heap.size vz zs) (sj : SlI W (R + 1) W.heap.size vj js) (hz : zs.length ≤ 100) (hj : js.length ≤ 100) (hs : Src W g) (hg : w.grownBy W (some g)) (hgR : g < R) (hw : w.heap.size ≤ R) (y0 y1 y2 y3 y4 : Value) :
    ∃ (vz' vj' : Value) (r : R5), Ending.returned (.agg #[.int .i64 yr, .int .i64 lo, .int .i64 hi, vz, vj]) = .returned (.agg #[.int .i64 r.yr, .int .i64 r.lo, .int .i64 r.hi, vz', vj']) ∧ SlI (((((W.setCell ⟨R, 0, none⟩ y0).setCell ⟨R, 1, none⟩ y1).setCell ⟨R, 2, none⟩ y2).setCell ⟨R, 3, none⟩ y3).setCell ⟨R, 4, none⟩ y4) w.heap.size (((((W.setCell ⟨R, 0, none⟩ y0).setCell ⟨R, 1, none⟩ y1).setCell ⟨R, 2, none⟩ y2).setCell ⟨R, 3, none⟩ y3).setCell ⟨R, 4, none⟩ y4).heap.size vz' r.zones ∧ SlI (((((W.setCell ⟨R, 0, none⟩ y0).setCell ⟨R, 1, none⟩ y1).setCell ⟨R, 2, none⟩ y2).setCell ⟨R, 3, none⟩ y3).setCell ⟨R, 4, none⟩ y4) w.heap.size (((((W.setCell ⟨R, 0, none⟩ y0).setCell ⟨R, 1, none⟩ y1).setCell ⟨R, 2, none⟩ y2).setCell ⟨R, 3, none⟩ y3).setCell ⟨R, 4, none⟩ y4).heap.size vj' r.jobs ∧ r.zones.length ≤ 100 ∧ r.jobs.length ≤ 100 ∧ Src (((((W.setCell ⟨R, 0, none⟩ y0).setCell ⟨R, 1, none⟩ y1).setCell ⟨R, 2, none⟩ y2).setCell ⟨R, 3, none⟩ y3).setCell ⟨R, 4, none⟩ y4) g ∧ w.grownBy (((((W.setCell ⟨R, 0, none⟩ y0).setCell ⟨R, 1, none⟩ y1).setCell ⟨R, 2, none⟩ y2).setCell ⟨R, 3, none⟩ y3).setCell ⟨R, 4, none⟩ y4) (some g) := by
  have k : ∀ {v : Value} {xs : List Int}, SlI W (R + 1) W.heap.size v xs → SlI (((((W.setCell ⟨R, 0, none⟩ y0).setCell ⟨R, 1, none⟩ y1).setCell ⟨R, 2, none⟩ y2).setCell ⟨R, 3, none⟩ y3).setCell ⟨R, 4, none⟩ y4) w.heap.size (((((W.setCell ⟨R, 0, none⟩ y0).setCell ⟨R, 1, none⟩ y1).setCell ⟨R, 2, none⟩ y2).setCell ⟨R, 3, none⟩ y3).setCell ⟨R, 4, none⟩ y4).heap.size v xs := fun hx =>
    (hx.keep fun B hB _ => dn_other _ _ _ _ _ (by omega)).more (by omega) (by rw [size_setCell, size_setCell, size_setCell, size_setCell, size_setCell]; exact Nat.le_refl _)
  exact ⟨vz, vj, ⟨yr, lo, hi, zs, js⟩, rfl, k sz, k sj, hz, hj, dn_src hs hgR _ _ _ _ _, dn_gr hg hw _ _ _ _ _⟩

end Go.Proofs.Ytkhojhgcopnenaa
