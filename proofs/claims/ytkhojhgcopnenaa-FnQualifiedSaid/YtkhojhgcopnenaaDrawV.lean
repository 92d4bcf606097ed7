/- What the law on qualified candidates draws. No condition. -/
import Derived.Test.YtkhojhgcopnenaaDrawW
import Derived.Deep.RegionHeld3
namespace Go.Proofs.Ytkhojhgcopnenaa
open Go.RowKit
attribute [local go_sem ↓] Go.wp_at_zero Go.wp_at_succ

theorem dv_np {P : Program} {id : Nat} {ops : Array Oper} {b : Bool} {K : Act → World → Prop} {Q' : Exit → Act → World → Prop} {a : Act} {w : World} (h : (Code.region id ops b).wp P (Exit.then K fun _ _ _ => False) a w) : (Code.region id ops b).wp P (Exit.then K Q') a w :=
  Code.wp_mono (fun e a w h => by cases e <;> first | exact h | exact (h : False).elim) h
theorem n9_other {W : World} {R : Nat} (u0 u1 u2 u3 u4 u5 u6 u7 u8 : Value) {B : Nat} (h : B ≠ R) : (((((((((W.setCell ⟨R, 0, none⟩ u0).setCell ⟨R, 1, none⟩ u1).setCell ⟨R, 2, none⟩ u2).setCell ⟨R, 3, none⟩ u3).setCell ⟨R, 4, none⟩ u4).setCell ⟨R, 5, none⟩ u5).setCell ⟨R, 6, none⟩ u6).setCell ⟨R, 7, none⟩ u7).setCell ⟨R, 8, none⟩ u8).heap[B]? = W.heap[B]? := by
  rw [Below.heap_setCell _ _ _ _ h, Below.heap_setCell _ _ _ _ h, Below.heap_setCell _ _ _ _ h, Below.heap_setCell _ _ _ _ h, Below.heap_setCell _ _ _ _ h, Below.heap_setCell _ _ _ _ h, Below.heap_setCell _ _ _ _ h, Below.heap_setCell _ _ _ _ h, Below.heap_setCell _ _ _ _ h]
theorem n9_size (W : World) (R : Nat) (u0 u1 u2 u3 u4 u5 u6 u7 u8 : Value) : (((((((((W.setCell ⟨R, 0, none⟩ u0).setCell ⟨R, 1, none⟩ u1).setCell ⟨R, 2, none⟩ u2).setCell ⟨R, 3, none⟩ u3).setCell ⟨R, 4, none⟩ u4).setCell ⟨R, 5, none⟩ u5).setCell ⟨R, 6, none⟩ u6).setCell ⟨R, 7, none⟩ u7).setCell ⟨R, 8, none⟩ u8).heap.size = W.heap.size := by rw [size_setCell, size_setCell, size_setCell, size_setCell, size_setCell, size_setCell, size_setCell, size_setCell, size_setCell]
theorem n9_below {W0 W : World} {B R : Nat} (hB : Below B W0 W) (hR : B ≤ R) (u0 u1 u2 u3 u4 u5 u6 u7 u8 : Value) : Below B W0 (((((((((W.setCell ⟨R, 0, none⟩ u0).setCell ⟨R, 1, none⟩ u1).setCell ⟨R, 2, none⟩ u2).setCell ⟨R, 3, none⟩ u3).setCell ⟨R, 4, none⟩ u4).setCell ⟨R, 5, none⟩ u5).setCell ⟨R, 6, none⟩ u6).setCell ⟨R, 7, none⟩ u7).setCell ⟨R, 8, none⟩ u8) := (Below.setCell (Below.setCell (Below.setCell (Below.setCell (Below.setCell (Below.setCell (Below.setCell (Below.setCell (Below.setCell hB hR u0) hR u1) hR u2) hR u3) hR u4) hR u5) hR u6) hR u7) hR u8)
theorem n5_size (W : World) (R : Nat) (y0 y1 y2 y3 y4 : Value) : (((((W.setCell ⟨R, 0, none⟩ y0).setCell ⟨R, 1, none⟩ y1).setCell ⟨R, 2, none⟩ y2).setCell ⟨R, 3, none⟩ y3).setCell ⟨R, 4, none⟩ y4).heap.size = W.heap.size := by rw [size_setCell, size_setCell, size_setCell, size_setCell, size_setCell]
theorem n5_below {W0 W : World} {B R : Nat} (hB : Below B W0 W) (hR : B ≤ R) (y0 y1 y2 y3 y4 : Value) : Below B W0 (((((W.setCell ⟨R, 0, none⟩ y0).setCell ⟨R, 1, none⟩ y1).setCell ⟨R, 2, none⟩ y2).setCell ⟨R, 3, none⟩ y3).setCell ⟨R, 4, none⟩ y4) := (Below.setCell (Below.setCell (Below.setCell (Below.setCell (Below.setCell hB hR y0) hR y1) hR y2) hR y3) hR y4)
theorem n9_own {W : World} {R : Nat} {ty : TypeId} {x0 x1 x2 x3 x4 x5 x6 x7 x8 : Value} (hb : Blk W R ty #[x0, x1, x2, x3, x4, x5, x6, x7, x8]) (u0 u1 u2 u3 u4 u5 u6 u7 u8 : Value) : Blk (((((((((W.setCell ⟨R, 0, none⟩ u0).setCell ⟨R, 1, none⟩ u1).setCell ⟨R, 2, none⟩ u2).setCell ⟨R, 3, none⟩ u3).setCell ⟨R, 4, none⟩ u4).setCell ⟨R, 5, none⟩ u5).setCell ⟨R, 6, none⟩ u6).setCell ⟨R, 7, none⟩ u7).setCell ⟨R, 8, none⟩ u8) R ty #[u0, u1, u2, u3, u4, u5, u6, u7, u8] := by
  have := ((((((((hb.set_ 0 u0).set_ 1 u1).set_ 2 u2).set_ 3 u3).set_ 4 u4).set_ 5 u5).set_ 6 u6).set_ 7 u7).set_ 8 u8
  simpa using this
set_option maxRecDepth 100000 in
set_option maxHeartbeats 8000000 in
theorem DrawReasonsAgainst_any (v : Value) (bs : List Int) (w : World) (h : SlR u8s 1 w 0 w.heap.size v bs) (hb : ∀ b ∈ bs, 0 ≤ b ∧ b ≤ 255) :
    Calls Try.prog 36 #[v] w fun e w' => ∃ (vz vj : Value) (r : R5) (c : K9), e = .returned (.tuple #[.agg #[.int .i64 r.yr, .int .i64 r.lo, .int .i64 r.hi, vz, vj], .agg #[.int .i64 c.num, .string c.first, .string c.last, .int .i64 c.born, .int .i64 c.zone, .bool c.cit, .bool c.conv, .bool c.flu, .int .i64 c.job]]) ∧ SlI w' w.heap.size w'.heap.size vz r.zones ∧ SlI w' w.heap.size w'.heap.size vj r.jobs ∧ r.zones.length ≤ 100 ∧ r.jobs.length ≤ 100 ∧ c.small ∧ Below w.heap.size w w' := by
  go_enter Try.func36, Try.ntmps36
  go_wp2_with fail
  have bR1 := (Blk.new w 41 #[.int .i64 0, .int .i64 0, .int .i64 0, .slice none 0 0, .slice none 0 0]).alloc (.cells #[.int .i64 0, .string ⟨#[]⟩, .string ⟨#[]⟩, .int .i64 0, .int .i64 0, .bool false, .bool false, .bool false, .int .i64 0] 45)
  have bR2 : Blk ((w.alloc (.cells #[.int .i64 0, .int .i64 0, .int .i64 0, .slice none 0 0, .slice none 0 0] 41)).alloc (.cells #[.int .i64 0, .string ⟨#[]⟩, .string ⟨#[]⟩, .int .i64 0, .int .i64 0, .bool false, .bool false, .bool false, .int .i64 0] 45)) (w.heap.size + 1) 45 #[.int .i64 0, .string ⟨#[]⟩, .string ⟨#[]⟩, .int .i64 0, .int .i64 0, .bool false, .bool false, .bool false, .int .i64 0] := Blk.new' (by simp)
  have B1 : Below w.heap.size w ((w.alloc (.cells #[.int .i64 0, .int .i64 0, .int .i64 0, .slice none 0 0, .slice none 0 0] 41)).alloc (.cells #[.int .i64 0, .string ⟨#[]⟩, .string ⟨#[]⟩, .int .i64 0, .int .i64 0, .bool false, .bool false, .bool false, .int .i64 0] 45)) := ((Below.refl _ _).alloc (Nat.le_refl _) _).alloc (by simp) _
  have hv1 := (h.below B1 (Nat.le_refl _)).more (Nat.le_refl _) B1.size
  generalize ((w.alloc (.cells #[.int .i64 0, .int .i64 0, .int .i64 0, .slice none 0 0, .slice none 0 0] 41)).alloc (.cells #[.int .i64 0, .string ⟨#[]⟩, .string ⟨#[]⟩, .int .i64 0, .int .i64 0, .bool false, .bool false, .bool false, .int .i64 0] 45)) = w1 at *
  have z1 := B1.size
  have lR2 := bR2.lt
  refine (l01From_any v bs w1 hv1 hb).mono ?_
  rintro e w2 ⟨rfl, h2, hb2⟩
  have bR1 := bR1.below' hb2
  have bR2 := bR2.below' hb2
  have B2 := B1.trans (hb2.mono z1)
  have z2 := hb2.size
  obtain ⟨g, hg⟩ : ∃ g, w1.heap.size = g := ⟨_, rfl⟩
  rw [hg] at h2 lR2
  rw [hg]
  clear hb2 B1
  go_wp2_with fail
  refine (l06Rules_any g w2 h2).mono ?_
  rintro e w3 ⟨vz, vj, r, rfl, sz, sj, lz, lj, h3, g3⟩
  obtain ⟨yr, lo, hi, zs, js⟩ := r
  dsimp only at sz sj lz lj ⊢
  obtain ⟨X, kx, rfl, _, _⟩ := sz.form
  obtain ⟨Y, ky, rfl, _, _⟩ := sj.form
  have bR1 := bR1.grown g3 (by intro e; have := Option.some.inj e; omega)
  have bR2 := bR2.grown g3 (by intro e; have := Option.some.inj e; omega)
  have z3 := g3.size
  have B3 := gr_to_below B2 g3 (by omega) (by omega)
  have lg2 := h2.lt
  have bP := Blk.new w3 41 #[.int .i64 yr, .int .i64 lo, .int .i64 hi, .slice X zs.length kx, .slice Y js.length ky]
  have bR1 := bR1.alloc (.cells #[.int .i64 yr, .int .i64 lo, .int .i64 hi, .slice X zs.length kx, .slice Y js.length ky] 41)
  have bR2 := bR2.alloc (.cells #[.int .i64 yr, .int .i64 lo, .int .i64 hi, .slice X zs.length kx, .slice Y js.length ky] 41)
  have h4 := h3.alloc (.cells #[.int .i64 yr, .int .i64 lo, .int .i64 hi, .slice X zs.length kx, .slice Y js.length ky] 41)
  have B4 := B3.alloc (by omega) (.cells #[.int .i64 yr, .int .i64 lo, .int .i64 hi, .slice X zs.length kx, .slice Y js.length ky] 41)
  have sz := sz.alloc (Nat.le_refl _) (.cells #[.int .i64 yr, .int .i64 lo, .int .i64 hi, .slice X zs.length kx, .slice Y js.length ky] 41)
  have sj := sj.alloc (Nat.le_refl _) (.cells #[.int .i64 yr, .int .i64 lo, .int .i64 hi, .slice X zs.length kx, .slice Y js.length ky] 41)
  have lgP := h3.lt
  obtain ⟨PB, hPB⟩ : ∃ PB, w3.heap.size = PB := ⟨_, rfl⟩
  have n1 : w.heap.size ≠ PB := by have := bR2.lt; omega
  have n2 : w.heap.size + 1 ≠ PB := by omega
  have n3 : w.heap.size ≠ w.heap.size + 1 := by omega
  rw [hPB] at bP lgP sz sj
  go_wp2_with (fail)
  try rw [hPB]
  generalize hw4 : (w3.alloc (.cells #[.int .i64 yr, .int .i64 lo, .int .i64 hi, .slice X zs.length kx, .slice Y js.length ky] 41)) = w4 at *
  obtain ⟨p0, p1, p2, p3, p4⟩ := dn_cells bP
  have HP : Hid (∀ W, Blk W PB 41 #[.int .i64 yr, .int .i64 lo, .int .i64 hi, .slice X zs.length kx, .slice Y js.length ky] → W.cell? ⟨PB, 0, none⟩ = some (.int .i64 yr) ∧ W.cell? ⟨PB, 1, none⟩ = some (.int .i64 lo) ∧ W.cell? ⟨PB, 2, none⟩ = some (.int .i64 hi) ∧ W.cell? ⟨PB, 3, none⟩ = some (.slice X zs.length kx) ∧ W.cell? ⟨PB, 4, none⟩ = some (.slice Y js.length ky)) := Lib.hid fun W b => dn_cells b
  have bPd : Blk w4.drew PB 41 #[.int .i64 yr, .int .i64 lo, .int .i64 hi, .slice X zs.length kx, .slice Y js.length ky] := bP
  have bR1d : Blk w4.drew w.heap.size 41 #[.int .i64 0, .int .i64 0, .int .i64 0, .slice none 0 0, .slice none 0 0] := bR1
  have bR2d : Blk w4.drew (w.heap.size + 1) 45 #[.int .i64 0, .string ⟨#[]⟩, .string ⟨#[]⟩, .int .i64 0, .int .i64 0, .bool false, .bool false, .bool false, .int .i64 0] := bR2
  have C1 := l06Candidate_any g w4.drew h4.drew
  have B4d := B4.drew
  have szd := sz.drew
  have sjd := sj.drew
  have lg1 : g < PB := lgP
  have lgR1 : w.heap.size ≠ g := by omega
  have lgR2 : w.heap.size + 1 ≠ g := by omega
  have zd : w4.drew.heap.size = w4.heap.size := rfl
  have lPB := bP.lt
  have lgz : g < w2.heap.size := lg2
  have hz2 : w2.heap.size ≤ PB := by omega
  have hg1 : w.heap.size ≤ g := by omega
  clear hw4
  refine dv_np ?_
  go_region_held3 (fun W => W.cell? ⟨PB, 0, none⟩ = some (.int .i64 yr) ∧ W.cell? ⟨PB, 1, none⟩ = some (.int .i64 lo) ∧ W.cell? ⟨PB, 2, none⟩ = some (.int .i64 hi) ∧ W.cell? ⟨PB, 3, none⟩ = some (.slice X zs.length kx) ∧ W.cell? ⟨PB, 4, none⟩ = some (.slice Y js.length ky)) (first | (with_reducible exact HP.out _ bP) | (with_reducible exact HP.out _ bPd) | (with_reducible exact HP.out _ bP5) | go_keep) (first
    | (go_at_call 70; (with_reducible refine C1.mono ?_); rintro e w5 ⟨c, rfl, hc, h5, g5⟩; have bP5 := bPd.grown g5 (dn_ne lg1); have bR15 := bR1d.grown g5 (fun e => lgR1 (Option.some.inj e)); have bR25 := bR2d.grown g5 (fun e => lgR2 (Option.some.inj e)); have B5 := gr_to_below B4d g5 (by omega) hg1; have z5 := g5.size; have sz5 := szd.grown g5 (by omega) (fun k hk => by have := Option.some.inj hk; omega); have sj5 := sjd.grown g5 (by omega) (fun k hk => by have := Option.some.inj hk; omega); obtain ⟨c0, c1, c2, c3, c4⟩ := dn_cells bR15; obtain ⟨f0, f1, f2, f3, f4⟩ := dn_open bR15; obtain ⟨k0, k1, k2, k3, k4, k5, k6, k7, k8⟩ := r9_cells bR25; obtain ⟨j0, j1, j2, j3, j4, j5, j6, j7, j8⟩ := r9_open bR25))
  --@CUT1
  have bF1 : Blk ((((((((((((((w5.setCell ⟨w.heap.size, 0, none⟩ (.int .i64 yr)).setCell ⟨w.heap.size, 1, none⟩ (.int .i64 lo)).setCell ⟨w.heap.size, 2, none⟩ (.int .i64 hi)).setCell ⟨w.heap.size, 3, none⟩ (.slice X zs.length kx)).setCell ⟨w.heap.size, 4, none⟩ (.slice Y js.length ky)).setCell ⟨w.heap.size + 1, 0, none⟩ (.int .i64 c.num)).setCell ⟨w.heap.size + 1, 1, none⟩ (.string c.first)).setCell ⟨w.heap.size + 1, 2, none⟩ (.string c.last)).setCell ⟨w.heap.size + 1, 3, none⟩ (.int .i64 c.born)).setCell ⟨w.heap.size + 1, 4, none⟩ (.int .i64 c.zone)).setCell ⟨w.heap.size + 1, 5, none⟩ (.bool c.cit)).setCell ⟨w.heap.size + 1, 6, none⟩ (.bool c.conv)).setCell ⟨w.heap.size + 1, 7, none⟩ (.bool c.flu)).setCell ⟨w.heap.size + 1, 8, none⟩ (.int .i64 c.job)) w.heap.size 41 #[.int .i64 yr, .int .i64 lo, .int .i64 hi, .slice X zs.length kx, .slice Y js.length ky] := (n9_other (W := (((((w5.setCell ⟨w.heap.size, 0, none⟩ (.int .i64 yr)).setCell ⟨w.heap.size, 1, none⟩ (.int .i64 lo)).setCell ⟨w.heap.size, 2, none⟩ (.int .i64 hi)).setCell ⟨w.heap.size, 3, none⟩ (.slice X zs.length kx)).setCell ⟨w.heap.size, 4, none⟩ (.slice Y js.length ky))) (R := w.heap.size + 1) (.int .i64 c.num) (.string c.first) (.string c.last) (.int .i64 c.born) (.int .i64 c.zone) (.bool c.cit) (.bool c.conv) (.bool c.flu) (.int .i64 c.job) n3).trans (dn_five bR15 (.int .i64 yr) (.int .i64 lo) (.int .i64 hi) (.slice X zs.length kx) (.slice Y js.length ky))
  have bM : Blk (((((w5.setCell ⟨w.heap.size, 0, none⟩ (.int .i64 yr)).setCell ⟨w.heap.size, 1, none⟩ (.int .i64 lo)).setCell ⟨w.heap.size, 2, none⟩ (.int .i64 hi)).setCell ⟨w.heap.size, 3, none⟩ (.slice X zs.length kx)).setCell ⟨w.heap.size, 4, none⟩ (.slice Y js.length ky)) (w.heap.size + 1) 45 #[.int .i64 0, .string ⟨#[]⟩, .string ⟨#[]⟩, .int .i64 0, .int .i64 0, .bool false, .bool false, .bool false, .int .i64 0] := (dn_other (W := w5) (R := w.heap.size) (.int .i64 yr) (.int .i64 lo) (.int .i64 hi) (.slice X zs.length kx) (.slice Y js.length ky) (Ne.symm n3)).trans bR25
  have bF2 : Blk ((((((((((((((w5.setCell ⟨w.heap.size, 0, none⟩ (.int .i64 yr)).setCell ⟨w.heap.size, 1, none⟩ (.int .i64 lo)).setCell ⟨w.heap.size, 2, none⟩ (.int .i64 hi)).setCell ⟨w.heap.size, 3, none⟩ (.slice X zs.length kx)).setCell ⟨w.heap.size, 4, none⟩ (.slice Y js.length ky)).setCell ⟨w.heap.size + 1, 0, none⟩ (.int .i64 c.num)).setCell ⟨w.heap.size + 1, 1, none⟩ (.string c.first)).setCell ⟨w.heap.size + 1, 2, none⟩ (.string c.last)).setCell ⟨w.heap.size + 1, 3, none⟩ (.int .i64 c.born)).setCell ⟨w.heap.size + 1, 4, none⟩ (.int .i64 c.zone)).setCell ⟨w.heap.size + 1, 5, none⟩ (.bool c.cit)).setCell ⟨w.heap.size + 1, 6, none⟩ (.bool c.conv)).setCell ⟨w.heap.size + 1, 7, none⟩ (.bool c.flu)).setCell ⟨w.heap.size + 1, 8, none⟩ (.int .i64 c.job)) (w.heap.size + 1) 45 #[.int .i64 c.num, .string c.first, .string c.last, .int .i64 c.born, .int .i64 c.zone, .bool c.cit, .bool c.conv, .bool c.flu, .int .i64 c.job] := n9_own bM (.int .i64 c.num) (.string c.first) (.string c.last) (.int .i64 c.born) (.int .i64 c.zone) (.bool c.cit) (.bool c.conv) (.bool c.flu) (.int .i64 c.job)
  have zF : ((((((((((((((w5.setCell ⟨w.heap.size, 0, none⟩ (.int .i64 yr)).setCell ⟨w.heap.size, 1, none⟩ (.int .i64 lo)).setCell ⟨w.heap.size, 2, none⟩ (.int .i64 hi)).setCell ⟨w.heap.size, 3, none⟩ (.slice X zs.length kx)).setCell ⟨w.heap.size, 4, none⟩ (.slice Y js.length ky)).setCell ⟨w.heap.size + 1, 0, none⟩ (.int .i64 c.num)).setCell ⟨w.heap.size + 1, 1, none⟩ (.string c.first)).setCell ⟨w.heap.size + 1, 2, none⟩ (.string c.last)).setCell ⟨w.heap.size + 1, 3, none⟩ (.int .i64 c.born)).setCell ⟨w.heap.size + 1, 4, none⟩ (.int .i64 c.zone)).setCell ⟨w.heap.size + 1, 5, none⟩ (.bool c.cit)).setCell ⟨w.heap.size + 1, 6, none⟩ (.bool c.conv)).setCell ⟨w.heap.size + 1, 7, none⟩ (.bool c.flu)).setCell ⟨w.heap.size + 1, 8, none⟩ (.int .i64 c.job)).heap.size = w5.heap.size := (n9_size _ _ (.int .i64 c.num) (.string c.first) (.string c.last) (.int .i64 c.born) (.int .i64 c.zone) (.bool c.cit) (.bool c.conv) (.bool c.flu) (.int .i64 c.job)).trans (n5_size _ _ (.int .i64 yr) (.int .i64 lo) (.int .i64 hi) (.slice X zs.length kx) (.slice Y js.length ky))
  have BF : Below w.heap.size w ((((((((((((((w5.setCell ⟨w.heap.size, 0, none⟩ (.int .i64 yr)).setCell ⟨w.heap.size, 1, none⟩ (.int .i64 lo)).setCell ⟨w.heap.size, 2, none⟩ (.int .i64 hi)).setCell ⟨w.heap.size, 3, none⟩ (.slice X zs.length kx)).setCell ⟨w.heap.size, 4, none⟩ (.slice Y js.length ky)).setCell ⟨w.heap.size + 1, 0, none⟩ (.int .i64 c.num)).setCell ⟨w.heap.size + 1, 1, none⟩ (.string c.first)).setCell ⟨w.heap.size + 1, 2, none⟩ (.string c.last)).setCell ⟨w.heap.size + 1, 3, none⟩ (.int .i64 c.born)).setCell ⟨w.heap.size + 1, 4, none⟩ (.int .i64 c.zone)).setCell ⟨w.heap.size + 1, 5, none⟩ (.bool c.cit)).setCell ⟨w.heap.size + 1, 6, none⟩ (.bool c.conv)).setCell ⟨w.heap.size + 1, 7, none⟩ (.bool c.flu)).setCell ⟨w.heap.size + 1, 8, none⟩ (.int .i64 c.job)) := n9_below (n5_below B5 (Nat.le_refl _) (.int .i64 yr) (.int .i64 lo) (.int .i64 hi) (.slice X zs.length kx) (.slice Y js.length ky)) (by omega) (.int .i64 c.num) (.string c.first) (.string c.last) (.int .i64 c.born) (.int .i64 c.zone) (.bool c.cit) (.bool c.conv) (.bool c.flu) (.int .i64 c.job)
  have kF : ∀ B, w.heap.size + 1 < B → ((((((((((((((w5.setCell ⟨w.heap.size, 0, none⟩ (.int .i64 yr)).setCell ⟨w.heap.size, 1, none⟩ (.int .i64 lo)).setCell ⟨w.heap.size, 2, none⟩ (.int .i64 hi)).setCell ⟨w.heap.size, 3, none⟩ (.slice X zs.length kx)).setCell ⟨w.heap.size, 4, none⟩ (.slice Y js.length ky)).setCell ⟨w.heap.size + 1, 0, none⟩ (.int .i64 c.num)).setCell ⟨w.heap.size + 1, 1, none⟩ (.string c.first)).setCell ⟨w.heap.size + 1, 2, none⟩ (.string c.last)).setCell ⟨w.heap.size + 1, 3, none⟩ (.int .i64 c.born)).setCell ⟨w.heap.size + 1, 4, none⟩ (.int .i64 c.zone)).setCell ⟨w.heap.size + 1, 5, none⟩ (.bool c.cit)).setCell ⟨w.heap.size + 1, 6, none⟩ (.bool c.conv)).setCell ⟨w.heap.size + 1, 7, none⟩ (.bool c.flu)).setCell ⟨w.heap.size + 1, 8, none⟩ (.int .i64 c.job)).heap[B]? = w5.heap[B]? := fun B hB => (n9_other (W := (((((w5.setCell ⟨w.heap.size, 0, none⟩ (.int .i64 yr)).setCell ⟨w.heap.size, 1, none⟩ (.int .i64 lo)).setCell ⟨w.heap.size, 2, none⟩ (.int .i64 hi)).setCell ⟨w.heap.size, 3, none⟩ (.slice X zs.length kx)).setCell ⟨w.heap.size, 4, none⟩ (.slice Y js.length ky))) (R := w.heap.size + 1) (.int .i64 c.num) (.string c.first) (.string c.last) (.int .i64 c.born) (.int .i64 c.zone) (.bool c.cit) (.bool c.conv) (.bool c.flu) (.int .i64 c.job) (by omega)).trans (dn_other (W := w5) (R := w.heap.size) (.int .i64 yr) (.int .i64 lo) (.int .i64 hi) (.slice X zs.length kx) (.slice Y js.length ky) (by omega))
  generalize ((((((((((((((w5.setCell ⟨w.heap.size, 0, none⟩ (.int .i64 yr)).setCell ⟨w.heap.size, 1, none⟩ (.int .i64 lo)).setCell ⟨w.heap.size, 2, none⟩ (.int .i64 hi)).setCell ⟨w.heap.size, 3, none⟩ (.slice X zs.length kx)).setCell ⟨w.heap.size, 4, none⟩ (.slice Y js.length ky)).setCell ⟨w.heap.size + 1, 0, none⟩ (.int .i64 c.num)).setCell ⟨w.heap.size + 1, 1, none⟩ (.string c.first)).setCell ⟨w.heap.size + 1, 2, none⟩ (.string c.last)).setCell ⟨w.heap.size + 1, 3, none⟩ (.int .i64 c.born)).setCell ⟨w.heap.size + 1, 4, none⟩ (.int .i64 c.zone)).setCell ⟨w.heap.size + 1, 5, none⟩ (.bool c.cit)).setCell ⟨w.heap.size + 1, 6, none⟩ (.bool c.conv)).setCell ⟨w.heap.size + 1, 7, none⟩ (.bool c.flu)).setCell ⟨w.heap.size + 1, 8, none⟩ (.int .i64 c.job)) = wF at *
  have szF := (sz5.keep fun B hB _ => kF B (by omega)).more (lo' := w.heap.size) (hi' := wF.heap.size) (by omega) (by omega)
  have sjF := (sj5.keep fun B hB _ => kF B (by omega)).more (lo' := w.heap.size) (hi' := wF.heap.size) (by omega) (by omega)
  clear c0 c1 c2 c3 c4 f0 f1 f2 f3 f4 k0 k1 k2 k3 k4 k5 k6 k7 k8 j0 j1 j2 j3 j4 j5 j6 j7 j8 p0 p1 p2 p3 p4 C1 HP kF bM
  obtain ⟨c0, c1, c2, c3, c4⟩ := dn_cells bF1
  obtain ⟨k0, k1, k2, k3, k4, k5, k6, k7, k8⟩ := r9_cells bF2
  go_wp2_with fail
  exact bodyPost_ret (v := .tuple #[.agg #[.int .i64 yr, .int .i64 lo, .int .i64 hi, .slice X zs.length kx, .slice Y js.length ky], .agg #[.int .i64 c.num, .string c.first, .string c.last, .int .i64 c.born, .int .i64 c.zone, .bool c.cit, .bool c.conv, .bool c.flu, .int .i64 c.job]]) (by simp [results, Try.results36, go_sem, c0, c1, c2, c3, c4, k0, k1, k2, k3, k4, k5, k6, k7, k8]) rfl ⟨_, _, ⟨yr, lo, hi, zs, js⟩, c, rfl, szF, sjF, lz, lj, hc, BF⟩
end Go.Proofs.Ytkhojhgcopnenaa
