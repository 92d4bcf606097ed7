/- What the law on qualified candidates draws: rules of an earlier year. No condition. -/
import Derived.Test.YtkhojhgcopnenaaDrawU
namespace Go.Proofs.Ytkhojhgcopnenaa
open Go.RowKit
attribute [local go_sem ↓] Go.wp_at_zero Go.wp_at_succ

theorem dv_drew {W : World} {R : Nat} {ty : TypeId} {cs : Array Value} (h : Blk W R ty cs) : Blk W.drew R ty cs := h
theorem drew_size (W : World) : W.drew.heap.size = W.heap.size := rfl
theorem drew_heap (W : World) (B : Nat) : W.drew.heap[B]? = W.heap[B]? := rfl
set_option maxRecDepth 100000 in
set_option maxHeartbeats 8000000 in
theorem DrawQualifiedFrom_any (v : Value) (bs : List Int) (w : World) (h : SlR u8s 1 w 0 w.heap.size v bs) (hb : ∀ b ∈ bs, 0 ≤ b ∧ b ≤ 255) :
    Calls Try.prog 40 #[v] w fun e w' => ∃ (vz vj : Value) (r : R5) (c : K9), e = .returned (.tuple #[.agg #[.int .i64 r.yr, .int .i64 r.lo, .int .i64 r.hi, vz, vj], .agg #[.int .i64 c.num, .string c.first, .string c.last, .int .i64 c.born, .int .i64 c.zone, .bool c.cit, .bool c.conv, .bool c.flu, .int .i64 c.job]]) ∧ SlI w' w.heap.size w'.heap.size vz r.zones ∧ SlI w' w.heap.size w'.heap.size vj r.jobs ∧ r.zones.length ≤ 100 ∧ r.jobs.length ≤ 100 ∧ c.small ∧ Below w.heap.size w w' := by
  go_enter Try.func40, Try.ntmps40
  go_wp2_with fail
  have bR1 := (Blk.new w 41 #[.int .i64 0, .int .i64 0, .int .i64 0, .slice none 0 0, .slice none 0 0]).alloc (.cells #[.int .i64 0, .string ⟨#[]⟩, .string ⟨#[]⟩, .int .i64 0, .int .i64 0, .bool false, .bool false, .bool false, .int .i64 0] 45)
  have bR2 : Blk ((w.alloc (.cells #[.int .i64 0, .int .i64 0, .int .i64 0, .slice none 0 0, .slice none 0 0] 41)).alloc (.cells #[.int .i64 0, .string ⟨#[]⟩, .string ⟨#[]⟩, .int .i64 0, .int .i64 0, .bool false, .bool false, .bool false, .int .i64 0] 45)) (w.heap.size + 1) 45 #[.int .i64 0, .string ⟨#[]⟩, .string ⟨#[]⟩, .int .i64 0, .int .i64 0, .bool false, .bool false, .bool false, .int .i64 0] := Blk.new' (by simp)
  have B1 : Below w.heap.size w ((w.alloc (.cells #[.int .i64 0, .int .i64 0, .int .i64 0, .slice none 0 0, .slice none 0 0] 41)).alloc (.cells #[.int .i64 0, .string ⟨#[]⟩, .string ⟨#[]⟩, .int .i64 0, .int .i64 0, .bool false, .bool false, .bool false, .int .i64 0] 45)) := ((Below.refl _ _).alloc (Nat.le_refl _) _).alloc (by simp) _
  have hv1 := (h.below B1 (Nat.le_refl _)).more (Nat.le_refl _) B1.size
  generalize ((w.alloc (.cells #[.int .i64 0, .int .i64 0, .int .i64 0, .slice none 0 0, .slice none 0 0] 41)).alloc (.cells #[.int .i64 0, .string ⟨#[]⟩, .string ⟨#[]⟩, .int .i64 0, .int .i64 0, .bool false, .bool false, .bool false, .int .i64 0] 45)) = w1 at *
  have z1 := B1.size
  have lR2 := bR2.lt
  refine (l01From_any v bs w1 hv1 hb).mono ?_
  rintro e w2 ⟨rfl, h2, hb2⟩
  have bR1 := bR1.below' hb2
  have bR2 := bR2.below' hb2
  have hv2 := (hv1.below hb2 (Nat.le_refl _)).more (Nat.le_refl _) hb2.size
  have B2 := B1.trans (hb2.mono z1)
  have z2 := hb2.size
  obtain ⟨g, hg⟩ : ∃ g, w1.heap.size = g := ⟨_, rfl⟩
  rw [hg] at h2 lR2
  rw [hg]
  clear hb2 B1 hv1
  go_wp2_with fail
  refine (DrawReasonsAgainst_any v bs w2 hv2 hb).mono ?_
  rintro e w3 ⟨vz, vj, r, c, rfl, sz, sj, lz, lj, hc, hb3⟩
  obtain ⟨yr, lo, hi, zs, js⟩ := r
  dsimp only at sz sj lz lj ⊢
  obtain ⟨X, kx, rfl, _, _⟩ := sz.form
  obtain ⟨Y, ky, rfl, _, _⟩ := sj.form
  have bR1 := bR1.below' hb3
  have bR2 := bR2.below' hb3
  have h3 := h2.below' hb3
  have z3 := hb3.size
  have B3 := B2.trans (hb3.mono B2.size)
  have lg2 := h2.lt
  clear hb3 hv2 h2
  have bP : Blk ((w3.alloc (.cells #[.int .i64 yr, .int .i64 lo, .int .i64 hi, .slice X zs.length kx, .slice Y js.length ky] 41)).alloc (.cells #[.int .i64 c.num, .string c.first, .string c.last, .int .i64 c.born, .int .i64 c.zone, .bool c.cit, .bool c.conv, .bool c.flu, .int .i64 c.job] 45)) w3.heap.size 41 #[.int .i64 yr, .int .i64 lo, .int .i64 hi, .slice X zs.length kx, .slice Y js.length ky] := (Blk.new w3 _ _).alloc _
  have bQ : Blk ((w3.alloc (.cells #[.int .i64 yr, .int .i64 lo, .int .i64 hi, .slice X zs.length kx, .slice Y js.length ky] 41)).alloc (.cells #[.int .i64 c.num, .string c.first, .string c.last, .int .i64 c.born, .int .i64 c.zone, .bool c.cit, .bool c.conv, .bool c.flu, .int .i64 c.job] 45)) (w3.heap.size + 1) 45 #[.int .i64 c.num, .string c.first, .string c.last, .int .i64 c.born, .int .i64 c.zone, .bool c.cit, .bool c.conv, .bool c.flu, .int .i64 c.job] := Blk.new' (by simp)
  have bR1 := (bR1.alloc (.cells #[.int .i64 yr, .int .i64 lo, .int .i64 hi, .slice X zs.length kx, .slice Y js.length ky] 41)).alloc (.cells #[.int .i64 c.num, .string c.first, .string c.last, .int .i64 c.born, .int .i64 c.zone, .bool c.cit, .bool c.conv, .bool c.flu, .int .i64 c.job] 45)
  have bR2 := (bR2.alloc (.cells #[.int .i64 yr, .int .i64 lo, .int .i64 hi, .slice X zs.length kx, .slice Y js.length ky] 41)).alloc (.cells #[.int .i64 c.num, .string c.first, .string c.last, .int .i64 c.born, .int .i64 c.zone, .bool c.cit, .bool c.conv, .bool c.flu, .int .i64 c.job] 45)
  have h5 := (h3.alloc (.cells #[.int .i64 yr, .int .i64 lo, .int .i64 hi, .slice X zs.length kx, .slice Y js.length ky] 41)).alloc (.cells #[.int .i64 c.num, .string c.first, .string c.last, .int .i64 c.born, .int .i64 c.zone, .bool c.cit, .bool c.conv, .bool c.flu, .int .i64 c.job] 45)
  have B5 := (B3.alloc (by omega) (.cells #[.int .i64 yr, .int .i64 lo, .int .i64 hi, .slice X zs.length kx, .slice Y js.length ky] 41)).alloc (by simp; omega) (.cells #[.int .i64 c.num, .string c.first, .string c.last, .int .i64 c.born, .int .i64 c.zone, .bool c.cit, .bool c.conv, .bool c.flu, .int .i64 c.job] 45)
  have sz := (sz.alloc (Nat.le_refl _) (.cells #[.int .i64 yr, .int .i64 lo, .int .i64 hi, .slice X zs.length kx, .slice Y js.length ky] 41)).alloc (by simp) (.cells #[.int .i64 c.num, .string c.first, .string c.last, .int .i64 c.born, .int .i64 c.zone, .bool c.cit, .bool c.conv, .bool c.flu, .int .i64 c.job] 45)
  have sj := (sj.alloc (Nat.le_refl _) (.cells #[.int .i64 yr, .int .i64 lo, .int .i64 hi, .slice X zs.length kx, .slice Y js.length ky] 41)).alloc (by simp) (.cells #[.int .i64 c.num, .string c.first, .string c.last, .int .i64 c.born, .int .i64 c.zone, .bool c.cit, .bool c.conv, .bool c.flu, .int .i64 c.job] 45)
  have lgP := h3.lt
  go_wp2_with (fail)
  --@CUT

  generalize hw5 : ((w3.alloc (.cells #[.int .i64 yr, .int .i64 lo, .int .i64 hi, .slice X zs.length kx, .slice Y js.length ky] 41)).alloc (.cells #[.int .i64 c.num, .string c.first, .string c.last, .int .i64 c.born, .int .i64 c.zone, .bool c.cit, .bool c.conv, .bool c.flu, .int .i64 c.job] 45)) = w5 at *
  obtain ⟨PB, hPB⟩ : ∃ PB, w3.heap.size = PB := ⟨_, rfl⟩
  rw [hPB] at bP bQ sz sj lgP
  try rw [hPB]
  have n1 : w.heap.size ≠ PB := by omega
  have n2 : w.heap.size + 1 ≠ PB := by omega
  have n3 : w.heap.size ≠ w.heap.size + 1 := by omega
  have n4 : w.heap.size ≠ PB + 1 := by omega
  have n5 : w.heap.size + 1 ≠ PB + 1 := by omega
  have n6 : PB ≠ PB + 1 := by omega
  have hz2 : w2.heap.size ≤ PB := by omega
  have hg1 : w.heap.size ≤ g := by omega
  have hgw : g < w2.heap.size := lg2
  have lgR1 : w.heap.size ≠ g := by omega
  have lgR2 : w.heap.size + 1 ≠ g := by omega
  have lQ := bQ.lt
  have hlt2 : w.heap.size + 1 < g := by omega
  clear hw5 h3
  refine (l01Next_any g 2 w5 h5).mono ?_
  rintro e w6 ⟨r6, rfl, _, _, _, h6, g6⟩
  have bR1 := bR1.grown g6 (fun e => lgR1 (Option.some.inj e))
  have bR2 := bR2.grown g6 (fun e => lgR2 (Option.some.inj e))
  have bP := bP.grown g6 (dn_ne lgP)
  have bQ := bQ.grown g6 (dn_ne (by omega))
  have sz := sz.grown g6 (by omega) (fun k hk => by have := Option.some.inj hk; omega)
  have sj := sj.grown g6 (by omega) (fun k hk => by have := Option.some.inj hk; omega)
  have B6 := gr_to_below B5 g6 B5.size hg1
  have z6 := g6.size
  clear h5 g6 B5
  by_cases q : r6 = 0
  · subst q
    go_wp2_with fail
    refine (l01Next_any g 30 w6 h6).mono ?_
    rintro e w7 ⟨r7, rfl, a7, b7, _, h7, g7⟩
    have b7 := b7 (by omega)
    have bR1 := bR1.grown g7 (fun e => lgR1 (Option.some.inj e))
    have bR2 := bR2.grown g7 (fun e => lgR2 (Option.some.inj e))
    have bP := bP.grown g7 (dn_ne lgP)
    have bQ := bQ.grown g7 (dn_ne (by omega))
    have sz := sz.grown g7 (by omega) (fun k hk => by have := Option.some.inj hk; omega)
    have sj := sj.grown g7 (by omega) (fun k hk => by have := Option.some.inj hk; omega)
    have B7 := gr_to_below B6 g7 B6.size hg1
    have z7 := g7.size
    clear h6 g7 B6
    obtain ⟨p0, p1, p2, p3, p4⟩ := dn_cells bP
    obtain ⟨fp0, fp1, fp2, fp3, fp4⟩ := dn_open bP
    go_wp2_with fail
    obtain ⟨y2, hy2⟩ : ∃ y2, 1970 + r7 = y2 := ⟨_, rfl⟩
    rw [hy2]
    have bP : Blk (w7.setCell ⟨PB, 0, none⟩ (.int .i64 y2)) PB 41 #[.int .i64 y2, .int .i64 lo, .int .i64 hi, .slice X zs.length kx, .slice Y js.length ky] := by
      have := bP.set_ 0 (.int .i64 y2)
      simpa using this
    have bQ := bQ.far (p := ⟨PB, 0, none⟩) (Ne.symm n6) (.int .i64 y2)
    have bR1 := bR1.far (p := ⟨PB, 0, none⟩) n1 (.int .i64 y2)
    have bR2 := bR2.far (p := ⟨PB, 0, none⟩) n2 (.int .i64 y2)
    have sz := sz.setCell ⟨PB, 0, none⟩ (.int .i64 y2) (.inr (Nat.le_refl _))
    have sj := sj.setCell ⟨PB, 0, none⟩ (.int .i64 y2) (.inr (Nat.le_refl _))
    have B8 : Below w.heap.size w (w7.setCell ⟨PB, 0, none⟩ (.int .i64 y2)) := B7.setCell (show w.heap.size ≤ PB by omega) _
    have z8 := size_setCell w7 ⟨PB, 0, none⟩ (.int .i64 y2)
    clear p0 p1 p2 p3 p4 fp0 fp1 fp2 fp3 fp4 hy2 B7 a7 b7
    generalize (w7.setCell ⟨PB, 0, none⟩ (.int .i64 y2)) = w8 at *
    obtain ⟨p0, p1, p2, p3, p4⟩ := dn_cells bP
    obtain ⟨q0, q1, q2, q3, q4, q5, q6, q7, q8⟩ := r9_cells bQ
    have bPd : Blk w8.drew PB 41 #[.int .i64 y2, .int .i64 lo, .int .i64 hi, .slice X zs.length kx, .slice Y js.length ky] := bP
    have bQd : Blk w8.drew (PB + 1) 45 #[.int .i64 c.num, .string c.first, .string c.last, .int .i64 c.born, .int .i64 c.zone, .bool c.cit, .bool c.conv, .bool c.flu, .int .i64 c.job] := bQ
    have bR1d : Blk w8.drew w.heap.size 41 #[.int .i64 0, .int .i64 0, .int .i64 0, .slice none 0 0, .slice none 0 0] := bR1
    have bR2d : Blk w8.drew (w.heap.size + 1) 45 #[.int .i64 0, .string ⟨#[]⟩, .string ⟨#[]⟩, .int .i64 0, .int .i64 0, .bool false, .bool false, .bool false, .int .i64 0] := bR2
    obtain ⟨c0, c1, c2, c3, c4⟩ := dn_cells bR1
    obtain ⟨f0, f1, f2, f3, f4⟩ := dn_open bR1
    obtain ⟨k0, k1, k2, k3, k4, k5, k6, k7, k8⟩ := r9_cells bR2
    obtain ⟨j0, j1, j2, j3, j4, j5, j6, j7, j8⟩ := r9_open bR2
    have HP : Hid (∀ W, Blk W PB 41 #[.int .i64 y2, .int .i64 lo, .int .i64 hi, .slice X zs.length kx, .slice Y js.length ky] → Blk W (PB + 1) 45 #[.int .i64 c.num, .string c.first, .string c.last, .int .i64 c.born, .int .i64 c.zone, .bool c.cit, .bool c.conv, .bool c.flu, .int .i64 c.job] → (W.cell? ⟨PB, 0, none⟩ = some (.int .i64 y2) ∧ W.cell? ⟨PB, 1, none⟩ = some (.int .i64 lo) ∧ W.cell? ⟨PB, 2, none⟩ = some (.int .i64 hi) ∧ W.cell? ⟨PB, 3, none⟩ = some (.slice X zs.length kx) ∧ W.cell? ⟨PB, 4, none⟩ = some (.slice Y js.length ky)) ∧ W.cell? ⟨PB + 1, 0, none⟩ = some (.int .i64 c.num) ∧ W.cell? ⟨PB + 1, 1, none⟩ = some (.string c.first) ∧ W.cell? ⟨PB + 1, 2, none⟩ = some (.string c.last) ∧ W.cell? ⟨PB + 1, 3, none⟩ = some (.int .i64 c.born) ∧ W.cell? ⟨PB + 1, 4, none⟩ = some (.int .i64 c.zone) ∧ W.cell? ⟨PB + 1, 5, none⟩ = some (.bool c.cit) ∧ W.cell? ⟨PB + 1, 6, none⟩ = some (.bool c.conv) ∧ W.cell? ⟨PB + 1, 7, none⟩ = some (.bool c.flu) ∧ W.cell? ⟨PB + 1, 8, none⟩ = some (.int .i64 c.job)) := Lib.hid fun W b b2 => ⟨dn_cells b, r9_cells b2⟩
    refine dv_np ?_
    go_region_held3 (fun W => (W.cell? ⟨PB, 0, none⟩ = some (.int .i64 y2) ∧ W.cell? ⟨PB, 1, none⟩ = some (.int .i64 lo) ∧ W.cell? ⟨PB, 2, none⟩ = some (.int .i64 hi) ∧ W.cell? ⟨PB, 3, none⟩ = some (.slice X zs.length kx) ∧ W.cell? ⟨PB, 4, none⟩ = some (.slice Y js.length ky)) ∧ W.cell? ⟨PB + 1, 0, none⟩ = some (.int .i64 c.num) ∧ W.cell? ⟨PB + 1, 1, none⟩ = some (.string c.first) ∧ W.cell? ⟨PB + 1, 2, none⟩ = some (.string c.last) ∧ W.cell? ⟨PB + 1, 3, none⟩ = some (.int .i64 c.born) ∧ W.cell? ⟨PB + 1, 4, none⟩ = some (.int .i64 c.zone) ∧ W.cell? ⟨PB + 1, 5, none⟩ = some (.bool c.cit) ∧ W.cell? ⟨PB + 1, 6, none⟩ = some (.bool c.conv) ∧ W.cell? ⟨PB + 1, 7, none⟩ = some (.bool c.flu) ∧ W.cell? ⟨PB + 1, 8, none⟩ = some (.int .i64 c.job)) (first | (with_reducible exact HP.out _ bP bQ) | (with_reducible exact HP.out _ bPd bQd) | go_keep) (fail)
    clear HP
    have bF1 : Blk ((((((((((((((w8.setCell ⟨w.heap.size, 0, none⟩ (.int .i64 y2)).setCell ⟨w.heap.size, 1, none⟩ (.int .i64 lo)).setCell ⟨w.heap.size, 2, none⟩ (.int .i64 hi)).setCell ⟨w.heap.size, 3, none⟩ (.slice X zs.length kx)).setCell ⟨w.heap.size, 4, none⟩ (.slice Y js.length ky)).setCell ⟨w.heap.size + 1, 0, none⟩ (.int .i64 c.num)).setCell ⟨w.heap.size + 1, 1, none⟩ (.string c.first)).setCell ⟨w.heap.size + 1, 2, none⟩ (.string c.last)).setCell ⟨w.heap.size + 1, 3, none⟩ (.int .i64 c.born)).setCell ⟨w.heap.size + 1, 4, none⟩ (.int .i64 c.zone)).setCell ⟨w.heap.size + 1, 5, none⟩ (.bool c.cit)).setCell ⟨w.heap.size + 1, 6, none⟩ (.bool c.conv)).setCell ⟨w.heap.size + 1, 7, none⟩ (.bool c.flu)).setCell ⟨w.heap.size + 1, 8, none⟩ (.int .i64 c.job)).drew w.heap.size 41 #[.int .i64 y2, .int .i64 lo, .int .i64 hi, .slice X zs.length kx, .slice Y js.length ky] := dv_drew ((n9_other (W := (((((w8.setCell ⟨w.heap.size, 0, none⟩ (.int .i64 y2)).setCell ⟨w.heap.size, 1, none⟩ (.int .i64 lo)).setCell ⟨w.heap.size, 2, none⟩ (.int .i64 hi)).setCell ⟨w.heap.size, 3, none⟩ (.slice X zs.length kx)).setCell ⟨w.heap.size, 4, none⟩ (.slice Y js.length ky))) (R := w.heap.size + 1) (.int .i64 c.num) (.string c.first) (.string c.last) (.int .i64 c.born) (.int .i64 c.zone) (.bool c.cit) (.bool c.conv) (.bool c.flu) (.int .i64 c.job) n3).trans (dn_five bR1 (.int .i64 y2) (.int .i64 lo) (.int .i64 hi) (.slice X zs.length kx) (.slice Y js.length ky)))
    have bM : Blk (((((w8.setCell ⟨w.heap.size, 0, none⟩ (.int .i64 y2)).setCell ⟨w.heap.size, 1, none⟩ (.int .i64 lo)).setCell ⟨w.heap.size, 2, none⟩ (.int .i64 hi)).setCell ⟨w.heap.size, 3, none⟩ (.slice X zs.length kx)).setCell ⟨w.heap.size, 4, none⟩ (.slice Y js.length ky)) (w.heap.size + 1) 45 #[.int .i64 0, .string ⟨#[]⟩, .string ⟨#[]⟩, .int .i64 0, .int .i64 0, .bool false, .bool false, .bool false, .int .i64 0] := (dn_other (W := w8) (R := w.heap.size) (.int .i64 y2) (.int .i64 lo) (.int .i64 hi) (.slice X zs.length kx) (.slice Y js.length ky) (Ne.symm n3)).trans bR2
    have bF2 : Blk ((((((((((((((w8.setCell ⟨w.heap.size, 0, none⟩ (.int .i64 y2)).setCell ⟨w.heap.size, 1, none⟩ (.int .i64 lo)).setCell ⟨w.heap.size, 2, none⟩ (.int .i64 hi)).setCell ⟨w.heap.size, 3, none⟩ (.slice X zs.length kx)).setCell ⟨w.heap.size, 4, none⟩ (.slice Y js.length ky)).setCell ⟨w.heap.size + 1, 0, none⟩ (.int .i64 c.num)).setCell ⟨w.heap.size + 1, 1, none⟩ (.string c.first)).setCell ⟨w.heap.size + 1, 2, none⟩ (.string c.last)).setCell ⟨w.heap.size + 1, 3, none⟩ (.int .i64 c.born)).setCell ⟨w.heap.size + 1, 4, none⟩ (.int .i64 c.zone)).setCell ⟨w.heap.size + 1, 5, none⟩ (.bool c.cit)).setCell ⟨w.heap.size + 1, 6, none⟩ (.bool c.conv)).setCell ⟨w.heap.size + 1, 7, none⟩ (.bool c.flu)).setCell ⟨w.heap.size + 1, 8, none⟩ (.int .i64 c.job)).drew (w.heap.size + 1) 45 #[.int .i64 c.num, .string c.first, .string c.last, .int .i64 c.born, .int .i64 c.zone, .bool c.cit, .bool c.conv, .bool c.flu, .int .i64 c.job] := dv_drew (n9_own bM (.int .i64 c.num) (.string c.first) (.string c.last) (.int .i64 c.born) (.int .i64 c.zone) (.bool c.cit) (.bool c.conv) (.bool c.flu) (.int .i64 c.job))
    have zF : ((((((((((((((w8.setCell ⟨w.heap.size, 0, none⟩ (.int .i64 y2)).setCell ⟨w.heap.size, 1, none⟩ (.int .i64 lo)).setCell ⟨w.heap.size, 2, none⟩ (.int .i64 hi)).setCell ⟨w.heap.size, 3, none⟩ (.slice X zs.length kx)).setCell ⟨w.heap.size, 4, none⟩ (.slice Y js.length ky)).setCell ⟨w.heap.size + 1, 0, none⟩ (.int .i64 c.num)).setCell ⟨w.heap.size + 1, 1, none⟩ (.string c.first)).setCell ⟨w.heap.size + 1, 2, none⟩ (.string c.last)).setCell ⟨w.heap.size + 1, 3, none⟩ (.int .i64 c.born)).setCell ⟨w.heap.size + 1, 4, none⟩ (.int .i64 c.zone)).setCell ⟨w.heap.size + 1, 5, none⟩ (.bool c.cit)).setCell ⟨w.heap.size + 1, 6, none⟩ (.bool c.conv)).setCell ⟨w.heap.size + 1, 7, none⟩ (.bool c.flu)).setCell ⟨w.heap.size + 1, 8, none⟩ (.int .i64 c.job)).drew.heap.size = w8.heap.size := (drew_size _).trans ((n9_size _ _ (.int .i64 c.num) (.string c.first) (.string c.last) (.int .i64 c.born) (.int .i64 c.zone) (.bool c.cit) (.bool c.conv) (.bool c.flu) (.int .i64 c.job)).trans (n5_size _ _ (.int .i64 y2) (.int .i64 lo) (.int .i64 hi) (.slice X zs.length kx) (.slice Y js.length ky)))
    have BF : Below w.heap.size w ((((((((((((((w8.setCell ⟨w.heap.size, 0, none⟩ (.int .i64 y2)).setCell ⟨w.heap.size, 1, none⟩ (.int .i64 lo)).setCell ⟨w.heap.size, 2, none⟩ (.int .i64 hi)).setCell ⟨w.heap.size, 3, none⟩ (.slice X zs.length kx)).setCell ⟨w.heap.size, 4, none⟩ (.slice Y js.length ky)).setCell ⟨w.heap.size + 1, 0, none⟩ (.int .i64 c.num)).setCell ⟨w.heap.size + 1, 1, none⟩ (.string c.first)).setCell ⟨w.heap.size + 1, 2, none⟩ (.string c.last)).setCell ⟨w.heap.size + 1, 3, none⟩ (.int .i64 c.born)).setCell ⟨w.heap.size + 1, 4, none⟩ (.int .i64 c.zone)).setCell ⟨w.heap.size + 1, 5, none⟩ (.bool c.cit)).setCell ⟨w.heap.size + 1, 6, none⟩ (.bool c.conv)).setCell ⟨w.heap.size + 1, 7, none⟩ (.bool c.flu)).setCell ⟨w.heap.size + 1, 8, none⟩ (.int .i64 c.job)).drew := (n9_below (n5_below B8 (Nat.le_refl _) (.int .i64 y2) (.int .i64 lo) (.int .i64 hi) (.slice X zs.length kx) (.slice Y js.length ky)) (by omega) (.int .i64 c.num) (.string c.first) (.string c.last) (.int .i64 c.born) (.int .i64 c.zone) (.bool c.cit) (.bool c.conv) (.bool c.flu) (.int .i64 c.job)).drew
    have kF : ∀ B, w.heap.size + 1 < B → ((((((((((((((w8.setCell ⟨w.heap.size, 0, none⟩ (.int .i64 y2)).setCell ⟨w.heap.size, 1, none⟩ (.int .i64 lo)).setCell ⟨w.heap.size, 2, none⟩ (.int .i64 hi)).setCell ⟨w.heap.size, 3, none⟩ (.slice X zs.length kx)).setCell ⟨w.heap.size, 4, none⟩ (.slice Y js.length ky)).setCell ⟨w.heap.size + 1, 0, none⟩ (.int .i64 c.num)).setCell ⟨w.heap.size + 1, 1, none⟩ (.string c.first)).setCell ⟨w.heap.size + 1, 2, none⟩ (.string c.last)).setCell ⟨w.heap.size + 1, 3, none⟩ (.int .i64 c.born)).setCell ⟨w.heap.size + 1, 4, none⟩ (.int .i64 c.zone)).setCell ⟨w.heap.size + 1, 5, none⟩ (.bool c.cit)).setCell ⟨w.heap.size + 1, 6, none⟩ (.bool c.conv)).setCell ⟨w.heap.size + 1, 7, none⟩ (.bool c.flu)).setCell ⟨w.heap.size + 1, 8, none⟩ (.int .i64 c.job)).drew.heap[B]? = w8.heap[B]? := fun B hB => (drew_heap _ _).trans ((n9_other (W := (((((w8.setCell ⟨w.heap.size, 0, none⟩ (.int .i64 y2)).setCell ⟨w.heap.size, 1, none⟩ (.int .i64 lo)).setCell ⟨w.heap.size, 2, none⟩ (.int .i64 hi)).setCell ⟨w.heap.size, 3, none⟩ (.slice X zs.length kx)).setCell ⟨w.heap.size, 4, none⟩ (.slice Y js.length ky))) (R := w.heap.size + 1) (.int .i64 c.num) (.string c.first) (.string c.last) (.int .i64 c.born) (.int .i64 c.zone) (.bool c.cit) (.bool c.conv) (.bool c.flu) (.int .i64 c.job) (by omega)).trans (dn_other (W := w8) (R := w.heap.size) (.int .i64 y2) (.int .i64 lo) (.int .i64 hi) (.slice X zs.length kx) (.slice Y js.length ky) (by omega)))
    generalize ((((((((((((((w8.setCell ⟨w.heap.size, 0, none⟩ (.int .i64 y2)).setCell ⟨w.heap.size, 1, none⟩ (.int .i64 lo)).setCell ⟨w.heap.size, 2, none⟩ (.int .i64 hi)).setCell ⟨w.heap.size, 3, none⟩ (.slice X zs.length kx)).setCell ⟨w.heap.size, 4, none⟩ (.slice Y js.length ky)).setCell ⟨w.heap.size + 1, 0, none⟩ (.int .i64 c.num)).setCell ⟨w.heap.size + 1, 1, none⟩ (.string c.first)).setCell ⟨w.heap.size + 1, 2, none⟩ (.string c.last)).setCell ⟨w.heap.size + 1, 3, none⟩ (.int .i64 c.born)).setCell ⟨w.heap.size + 1, 4, none⟩ (.int .i64 c.zone)).setCell ⟨w.heap.size + 1, 5, none⟩ (.bool c.cit)).setCell ⟨w.heap.size + 1, 6, none⟩ (.bool c.conv)).setCell ⟨w.heap.size + 1, 7, none⟩ (.bool c.flu)).setCell ⟨w.heap.size + 1, 8, none⟩ (.int .i64 c.job)).drew = wF at *
    have szF := (sz.keep fun B hB _ => kF B (by omega)).more (lo' := w.heap.size) (hi' := wF.heap.size) (by omega) (by omega)
    have sjF := (sj.keep fun B hB _ => kF B (by omega)).more (lo' := w.heap.size) (hi' := wF.heap.size) (by omega) (by omega)
    clear c0 c1 c2 c3 c4 f0 f1 f2 f3 f4 k0 k1 k2 k3 k4 k5 k6 k7 k8 j0 j1 j2 j3 j4 j5 j6 j7 j8 p0 p1 p2 p3 p4 q0 q1 q2 q3 q4 q5 q6 q7 q8 kF bM
    obtain ⟨c0, c1, c2, c3, c4⟩ := dn_cells bF1
    obtain ⟨k0, k1, k2, k3, k4, k5, k6, k7, k8⟩ := r9_cells bF2
    go_wp2_with fail
    exact bodyPost_ret (v := .tuple #[.agg #[.int .i64 y2, .int .i64 lo, .int .i64 hi, .slice X zs.length kx, .slice Y js.length ky], .agg #[.int .i64 c.num, .string c.first, .string c.last, .int .i64 c.born, .int .i64 c.zone, .bool c.cit, .bool c.conv, .bool c.flu, .int .i64 c.job]]) (by simp [results, Try.results40, go_sem, c0, c1, c2, c3, c4, k0, k1, k2, k3, k4, k5, k6, k7, k8]) rfl ⟨_, _, ⟨y2, lo, hi, zs, js⟩, c, rfl, szF, sjF, lz, lj, hc, BF⟩
  have d6 : (r6 == 0) = false := by simpa using q
  go_wp2_with fail
  obtain ⟨p0, p1, p2, p3, p4⟩ := dn_cells bP
  obtain ⟨q0, q1, q2, q3, q4, q5, q6, q7, q8⟩ := r9_cells bQ
  have bPd : Blk w6.drew PB 41 #[.int .i64 yr, .int .i64 lo, .int .i64 hi, .slice X zs.length kx, .slice Y js.length ky] := bP
  have bQd : Blk w6.drew (PB + 1) 45 #[.int .i64 c.num, .string c.first, .string c.last, .int .i64 c.born, .int .i64 c.zone, .bool c.cit, .bool c.conv, .bool c.flu, .int .i64 c.job] := bQ
  have bR1d : Blk w6.drew w.heap.size 41 #[.int .i64 0, .int .i64 0, .int .i64 0, .slice none 0 0, .slice none 0 0] := bR1
  have bR2d : Blk w6.drew (w.heap.size + 1) 45 #[.int .i64 0, .string ⟨#[]⟩, .string ⟨#[]⟩, .int .i64 0, .int .i64 0, .bool false, .bool false, .bool false, .int .i64 0] := bR2
  obtain ⟨c0, c1, c2, c3, c4⟩ := dn_cells bR1
  obtain ⟨f0, f1, f2, f3, f4⟩ := dn_open bR1
  obtain ⟨k0, k1, k2, k3, k4, k5, k6, k7, k8⟩ := r9_cells bR2
  obtain ⟨j0, j1, j2, j3, j4, j5, j6, j7, j8⟩ := r9_open bR2
  have HP : Hid (∀ W, Blk W PB 41 #[.int .i64 yr, .int .i64 lo, .int .i64 hi, .slice X zs.length kx, .slice Y js.length ky] → Blk W (PB + 1) 45 #[.int .i64 c.num, .string c.first, .string c.last, .int .i64 c.born, .int .i64 c.zone, .bool c.cit, .bool c.conv, .bool c.flu, .int .i64 c.job] → (W.cell? ⟨PB, 0, none⟩ = some (.int .i64 yr) ∧ W.cell? ⟨PB, 1, none⟩ = some (.int .i64 lo) ∧ W.cell? ⟨PB, 2, none⟩ = some (.int .i64 hi) ∧ W.cell? ⟨PB, 3, none⟩ = some (.slice X zs.length kx) ∧ W.cell? ⟨PB, 4, none⟩ = some (.slice Y js.length ky)) ∧ W.cell? ⟨PB + 1, 0, none⟩ = some (.int .i64 c.num) ∧ W.cell? ⟨PB + 1, 1, none⟩ = some (.string c.first) ∧ W.cell? ⟨PB + 1, 2, none⟩ = some (.string c.last) ∧ W.cell? ⟨PB + 1, 3, none⟩ = some (.int .i64 c.born) ∧ W.cell? ⟨PB + 1, 4, none⟩ = some (.int .i64 c.zone) ∧ W.cell? ⟨PB + 1, 5, none⟩ = some (.bool c.cit) ∧ W.cell? ⟨PB + 1, 6, none⟩ = some (.bool c.conv) ∧ W.cell? ⟨PB + 1, 7, none⟩ = some (.bool c.flu) ∧ W.cell? ⟨PB + 1, 8, none⟩ = some (.int .i64 c.job)) := Lib.hid fun W b b2 => ⟨dn_cells b, r9_cells b2⟩
  refine dv_np ?_
  go_region_held3 (fun W => (W.cell? ⟨PB, 0, none⟩ = some (.int .i64 yr) ∧ W.cell? ⟨PB, 1, none⟩ = some (.int .i64 lo) ∧ W.cell? ⟨PB, 2, none⟩ = some (.int .i64 hi) ∧ W.cell? ⟨PB, 3, none⟩ = some (.slice X zs.length kx) ∧ W.cell? ⟨PB, 4, none⟩ = some (.slice Y js.length ky)) ∧ W.cell? ⟨PB + 1, 0, none⟩ = some (.int .i64 c.num) ∧ W.cell? ⟨PB + 1, 1, none⟩ = some (.string c.first) ∧ W.cell? ⟨PB + 1, 2, none⟩ = some (.string c.last) ∧ W.cell? ⟨PB + 1, 3, none⟩ = some (.int .i64 c.born) ∧ W.cell? ⟨PB + 1, 4, none⟩ = some (.int .i64 c.zone) ∧ W.cell? ⟨PB + 1, 5, none⟩ = some (.bool c.cit) ∧ W.cell? ⟨PB + 1, 6, none⟩ = some (.bool c.conv) ∧ W.cell? ⟨PB + 1, 7, none⟩ = some (.bool c.flu) ∧ W.cell? ⟨PB + 1, 8, none⟩ = some (.int .i64 c.job)) (first | (with_reducible exact HP.out _ bP bQ) | (with_reducible exact HP.out _ bPd bQd) | go_keep) (fail)
  clear HP
  have bF1 : Blk ((((((((((((((w6.setCell ⟨w.heap.size, 0, none⟩ (.int .i64 yr)).setCell ⟨w.heap.size, 1, none⟩ (.int .i64 lo)).setCell ⟨w.heap.size, 2, none⟩ (.int .i64 hi)).setCell ⟨w.heap.size, 3, none⟩ (.slice X zs.length kx)).setCell ⟨w.heap.size, 4, none⟩ (.slice Y js.length ky)).setCell ⟨w.heap.size + 1, 0, none⟩ (.int .i64 c.num)).setCell ⟨w.heap.size + 1, 1, none⟩ (.string c.first)).setCell ⟨w.heap.size + 1, 2, none⟩ (.string c.last)).setCell ⟨w.heap.size + 1, 3, none⟩ (.int .i64 c.born)).setCell ⟨w.heap.size + 1, 4, none⟩ (.int .i64 c.zone)).setCell ⟨w.heap.size + 1, 5, none⟩ (.bool c.cit)).setCell ⟨w.heap.size + 1, 6, none⟩ (.bool c.conv)).setCell ⟨w.heap.size + 1, 7, none⟩ (.bool c.flu)).setCell ⟨w.heap.size + 1, 8, none⟩ (.int .i64 c.job)).drew w.heap.size 41 #[.int .i64 yr, .int .i64 lo, .int .i64 hi, .slice X zs.length kx, .slice Y js.length ky] := dv_drew ((n9_other (W := (((((w6.setCell ⟨w.heap.size, 0, none⟩ (.int .i64 yr)).setCell ⟨w.heap.size, 1, none⟩ (.int .i64 lo)).setCell ⟨w.heap.size, 2, none⟩ (.int .i64 hi)).setCell ⟨w.heap.size, 3, none⟩ (.slice X zs.length kx)).setCell ⟨w.heap.size, 4, none⟩ (.slice Y js.length ky))) (R := w.heap.size + 1) (.int .i64 c.num) (.string c.first) (.string c.last) (.int .i64 c.born) (.int .i64 c.zone) (.bool c.cit) (.bool c.conv) (.bool c.flu) (.int .i64 c.job) n3).trans (dn_five bR1 (.int .i64 yr) (.int .i64 lo) (.int .i64 hi) (.slice X zs.length kx) (.slice Y js.length ky)))
  have bM : Blk (((((w6.setCell ⟨w.heap.size, 0, none⟩ (.int .i64 yr)).setCell ⟨w.heap.size, 1, none⟩ (.int .i64 lo)).setCell ⟨w.heap.size, 2, none⟩ (.int .i64 hi)).setCell ⟨w.heap.size, 3, none⟩ (.slice X zs.length kx)).setCell ⟨w.heap.size, 4, none⟩ (.slice Y js.length ky)) (w.heap.size + 1) 45 #[.int .i64 0, .string ⟨#[]⟩, .string ⟨#[]⟩, .int .i64 0, .int .i64 0, .bool false, .bool false, .bool false, .int .i64 0] := (dn_other (W := w6) (R := w.heap.size) (.int .i64 yr) (.int .i64 lo) (.int .i64 hi) (.slice X zs.length kx) (.slice Y js.length ky) (Ne.symm n3)).trans bR2
  have bF2 : Blk ((((((((((((((w6.setCell ⟨w.heap.size, 0, none⟩ (.int .i64 yr)).setCell ⟨w.heap.size, 1, none⟩ (.int .i64 lo)).setCell ⟨w.heap.size, 2, none⟩ (.int .i64 hi)).setCell ⟨w.heap.size, 3, none⟩ (.slice X zs.length kx)).setCell ⟨w.heap.size, 4, none⟩ (.slice Y js.length ky)).setCell ⟨w.heap.size + 1, 0, none⟩ (.int .i64 c.num)).setCell ⟨w.heap.size + 1, 1, none⟩ (.string c.first)).setCell ⟨w.heap.size + 1, 2, none⟩ (.string c.last)).setCell ⟨w.heap.size + 1, 3, none⟩ (.int .i64 c.born)).setCell ⟨w.heap.size + 1, 4, none⟩ (.int .i64 c.zone)).setCell ⟨w.heap.size + 1, 5, none⟩ (.bool c.cit)).setCell ⟨w.heap.size + 1, 6, none⟩ (.bool c.conv)).setCell ⟨w.heap.size + 1, 7, none⟩ (.bool c.flu)).setCell ⟨w.heap.size + 1, 8, none⟩ (.int .i64 c.job)).drew (w.heap.size + 1) 45 #[.int .i64 c.num, .string c.first, .string c.last, .int .i64 c.born, .int .i64 c.zone, .bool c.cit, .bool c.conv, .bool c.flu, .int .i64 c.job] := dv_drew (n9_own bM (.int .i64 c.num) (.string c.first) (.string c.last) (.int .i64 c.born) (.int .i64 c.zone) (.bool c.cit) (.bool c.conv) (.bool c.flu) (.int .i64 c.job))
  have zF : ((((((((((((((w6.setCell ⟨w.heap.size, 0, none⟩ (.int .i64 yr)).setCell ⟨w.heap.size, 1, none⟩ (.int .i64 lo)).setCell ⟨w.heap.size, 2, none⟩ (.int .i64 hi)).setCell ⟨w.heap.size, 3, none⟩ (.slice X zs.length kx)).setCell ⟨w.heap.size, 4, none⟩ (.slice Y js.length ky)).setCell ⟨w.heap.size + 1, 0, none⟩ (.int .i64 c.num)).setCell ⟨w.heap.size + 1, 1, none⟩ (.string c.first)).setCell ⟨w.heap.size + 1, 2, none⟩ (.string c.last)).setCell ⟨w.heap.size + 1, 3, none⟩ (.int .i64 c.born)).setCell ⟨w.heap.size + 1, 4, none⟩ (.int .i64 c.zone)).setCell ⟨w.heap.size + 1, 5, none⟩ (.bool c.cit)).setCell ⟨w.heap.size + 1, 6, none⟩ (.bool c.conv)).setCell ⟨w.heap.size + 1, 7, none⟩ (.bool c.flu)).setCell ⟨w.heap.size + 1, 8, none⟩ (.int .i64 c.job)).drew.heap.size = w6.heap.size := (drew_size _).trans ((n9_size _ _ (.int .i64 c.num) (.string c.first) (.string c.last) (.int .i64 c.born) (.int .i64 c.zone) (.bool c.cit) (.bool c.conv) (.bool c.flu) (.int .i64 c.job)).trans (n5_size _ _ (.int .i64 yr) (.int .i64 lo) (.int .i64 hi) (.slice X zs.length kx) (.slice Y js.length ky)))
  have BF : Below w.heap.size w ((((((((((((((w6.setCell ⟨w.heap.size, 0, none⟩ (.int .i64 yr)).setCell ⟨w.heap.size, 1, none⟩ (.int .i64 lo)).setCell ⟨w.heap.size, 2, none⟩ (.int .i64 hi)).setCell ⟨w.heap.size, 3, none⟩ (.slice X zs.length kx)).setCell ⟨w.heap.size, 4, none⟩ (.slice Y js.length ky)).setCell ⟨w.heap.size + 1, 0, none⟩ (.int .i64 c.num)).setCell ⟨w.heap.size + 1, 1, none⟩ (.string c.first)).setCell ⟨w.heap.size + 1, 2, none⟩ (.string c.last)).setCell ⟨w.heap.size + 1, 3, none⟩ (.int .i64 c.born)).setCell ⟨w.heap.size + 1, 4, none⟩ (.int .i64 c.zone)).setCell ⟨w.heap.size + 1, 5, none⟩ (.bool c.cit)).setCell ⟨w.heap.size + 1, 6, none⟩ (.bool c.conv)).setCell ⟨w.heap.size + 1, 7, none⟩ (.bool c.flu)).setCell ⟨w.heap.size + 1, 8, none⟩ (.int .i64 c.job)).drew := (n9_below (n5_below B6 (Nat.le_refl _) (.int .i64 yr) (.int .i64 lo) (.int .i64 hi) (.slice X zs.length kx) (.slice Y js.length ky)) (by omega) (.int .i64 c.num) (.string c.first) (.string c.last) (.int .i64 c.born) (.int .i64 c.zone) (.bool c.cit) (.bool c.conv) (.bool c.flu) (.int .i64 c.job)).drew
  have kF : ∀ B, w.heap.size + 1 < B → ((((((((((((((w6.setCell ⟨w.heap.size, 0, none⟩ (.int .i64 yr)).setCell ⟨w.heap.size, 1, none⟩ (.int .i64 lo)).setCell ⟨w.heap.size, 2, none⟩ (.int .i64 hi)).setCell ⟨w.heap.size, 3, none⟩ (.slice X zs.length kx)).setCell ⟨w.heap.size, 4, none⟩ (.slice Y js.length ky)).setCell ⟨w.heap.size + 1, 0, none⟩ (.int .i64 c.num)).setCell ⟨w.heap.size + 1, 1, none⟩ (.string c.first)).setCell ⟨w.heap.size + 1, 2, none⟩ (.string c.last)).setCell ⟨w.heap.size + 1, 3, none⟩ (.int .i64 c.born)).setCell ⟨w.heap.size + 1, 4, none⟩ (.int .i64 c.zone)).setCell ⟨w.heap.size + 1, 5, none⟩ (.bool c.cit)).setCell ⟨w.heap.size + 1, 6, none⟩ (.bool c.conv)).setCell ⟨w.heap.size + 1, 7, none⟩ (.bool c.flu)).setCell ⟨w.heap.size + 1, 8, none⟩ (.int .i64 c.job)).drew.heap[B]? = w6.heap[B]? := fun B hB => (drew_heap _ _).trans ((n9_other (W := (((((w6.setCell ⟨w.heap.size, 0, none⟩ (.int .i64 yr)).setCell ⟨w.heap.size, 1, none⟩ (.int .i64 lo)).setCell ⟨w.heap.size, 2, none⟩ (.int .i64 hi)).setCell ⟨w.heap.size, 3, none⟩ (.slice X zs.length kx)).setCell ⟨w.heap.size, 4, none⟩ (.slice Y js.length ky))) (R := w.heap.size + 1) (.int .i64 c.num) (.string c.first) (.string c.last) (.int .i64 c.born) (.int .i64 c.zone) (.bool c.cit) (.bool c.conv) (.bool c.flu) (.int .i64 c.job) (by omega)).trans (dn_other (W := w6) (R := w.heap.size) (.int .i64 yr) (.int .i64 lo) (.int .i64 hi) (.slice X zs.length kx) (.slice Y js.length ky) (by omega)))
  generalize ((((((((((((((w6.setCell ⟨w.heap.size, 0, none⟩ (.int .i64 yr)).setCell ⟨w.heap.size, 1, none⟩ (.int .i64 lo)).setCell ⟨w.heap.size, 2, none⟩ (.int .i64 hi)).setCell ⟨w.heap.size, 3, none⟩ (.slice X zs.length kx)).setCell ⟨w.heap.size, 4, none⟩ (.slice Y js.length ky)).setCell ⟨w.heap.size + 1, 0, none⟩ (.int .i64 c.num)).setCell ⟨w.heap.size + 1, 1, none⟩ (.string c.first)).setCell ⟨w.heap.size + 1, 2, none⟩ (.string c.last)).setCell ⟨w.heap.size + 1, 3, none⟩ (.int .i64 c.born)).setCell ⟨w.heap.size + 1, 4, none⟩ (.int .i64 c.zone)).setCell ⟨w.heap.size + 1, 5, none⟩ (.bool c.cit)).setCell ⟨w.heap.size + 1, 6, none⟩ (.bool c.conv)).setCell ⟨w.heap.size + 1, 7, none⟩ (.bool c.flu)).setCell ⟨w.heap.size + 1, 8, none⟩ (.int .i64 c.job)).drew = wF at *
  have szF := (sz.keep fun B hB _ => kF B (by omega)).more (lo' := w.heap.size) (hi' := wF.heap.size) (by omega) (by omega)
  have sjF := (sj.keep fun B hB _ => kF B (by omega)).more (lo' := w.heap.size) (hi' := wF.heap.size) (by omega) (by omega)
  clear c0 c1 c2 c3 c4 f0 f1 f2 f3 f4 k0 k1 k2 k3 k4 k5 k6 k7 k8 j0 j1 j2 j3 j4 j5 j6 j7 j8 p0 p1 p2 p3 p4 q0 q1 q2 q3 q4 q5 q6 q7 q8 kF bM
  obtain ⟨c0, c1, c2, c3, c4⟩ := dn_cells bF1
  obtain ⟨k0, k1, k2, k3, k4, k5, k6, k7, k8⟩ := r9_cells bF2
  go_wp2_with fail
  exact bodyPost_ret (v := .tuple #[.agg #[.int .i64 yr, .int .i64 lo, .int .i64 hi, .slice X zs.length kx, .slice Y js.length ky], .agg #[.int .i64 c.num, .string c.first, .string c.last, .int .i64 c.born, .int .i64 c.zone, .bool c.cit, .bool c.conv, .bool c.flu, .int .i64 c.job]]) (by simp [results, Try.results40, go_sem, c0, c1, c2, c3, c4, k0, k1, k2, k3, k4, k5, k6, k7, k8]) rfl ⟨_, _, ⟨yr, lo, hi, zs, js⟩, c, rfl, szF, sjF, lz, lj, hc, BF⟩
end Go.Proofs.Ytkhojhgcopnenaa
