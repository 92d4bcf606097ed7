/- What the law on qualified candidates draws, the rest. No condition. -/
import Derived.Test.YtkhojhgcopnenaaDrawV
namespace Go.Proofs.Ytkhojhgcopnenaa
open Go.RowKit
attribute [local go_sem ↓] Go.wp_at_zero Go.wp_at_succ

set_option maxRecDepth 100000 in
set_option maxHeartbeats 8000000 in
theorem DrawQualifiedOf_any (v : Value) (bs : List Int) (w : World) (h : SlR u8s 1 w 0 w.heap.size v bs) (hb : ∀ b ∈ bs, 0 ≤ b ∧ b ≤ 255) :
    Calls Try.prog 39 #[v] w fun e w' => ∃ (vz vj u : Value) (r : R5) (cs : List K9), e = .returned (.tuple #[.agg #[.int .i64 r.yr, .int .i64 r.lo, .int .i64 r.hi, vz, vj], u]) ∧ SlI w' w.heap.size w'.heap.size vz r.zones ∧ SlI w' w.heap.size w'.heap.size vj r.jobs ∧ SlK w' w.heap.size w'.heap.size u cs ∧ r.zones.length ≤ 100 ∧ r.jobs.length ≤ 100 ∧ (∀ x ∈ cs, x.small) ∧ cs.length ≤ 100 ∧ Below w.heap.size w w' := by
  go_enter Try.func39, Try.ntmps39
  go_wp2_with fail
  have bR1 := Blk.new w 41 #[.int .i64 0, .int .i64 0, .int .i64 0, .slice none 0 0, .slice none 0 0]
  have B1 : Below w.heap.size w (w.alloc (.cells #[.int .i64 0, .int .i64 0, .int .i64 0, .slice none 0 0, .slice none 0 0] 41)) := (Below.refl _ _).alloc (Nat.le_refl _) _
  have hv1 := (h.below B1 (Nat.le_refl _)).more (Nat.le_refl _) B1.size
  generalize (w.alloc (.cells #[.int .i64 0, .int .i64 0, .int .i64 0, .slice none 0 0, .slice none 0 0] 41)) = w1 at *
  have z1 := B1.size
  have lR2 := bR1.lt
  refine (l01From_any v bs w1 hv1 hb).mono ?_
  rintro e w2 ⟨rfl, h2, hb2⟩
  have bR1 := bR1.below' hb2
  have B2 := B1.trans (hb2.mono z1)
  have z2 := hb2.size
  obtain ⟨g, hg⟩ : ∃ g, w1.heap.size = g := ⟨_, rfl⟩
  rw [hg] at h2 lR2
  rw [hg]
  clear hb2 B1
  go_wp2_with fail
  refine (l06Rules_any g w2 h2).mono ?_
  rintro e w3 ⟨vz, vj, r, rfl, sz, sj, lz, lj, h3, g3⟩
  obtain ⟨yr, lo, hi, zs, js⟩ := r
  dsimp only at sz sj lz lj ⊢
  obtain ⟨X, kx, rfl, _, _⟩ := sz.form
  obtain ⟨Y, ky, rfl, _, _⟩ := sj.form
  have bR1 := bR1.grown g3 (by intro e; have := Option.some.inj e; omega)
  have z3 := g3.size
  have B3 := gr_to_below B2 g3 (by omega) (by omega)
  have lg2 := h2.lt
  have bP := Blk.new w3 41 #[.int .i64 yr, .int .i64 lo, .int .i64 hi, .slice X zs.length kx, .slice Y js.length ky]
  have bR1 := bR1.alloc (.cells #[.int .i64 yr, .int .i64 lo, .int .i64 hi, .slice X zs.length kx, .slice Y js.length ky] 41)
  have h4 := h3.alloc (.cells #[.int .i64 yr, .int .i64 lo, .int .i64 hi, .slice X zs.length kx, .slice Y js.length ky] 41)
  have B4 := B3.alloc (by omega) (.cells #[.int .i64 yr, .int .i64 lo, .int .i64 hi, .slice X zs.length kx, .slice Y js.length ky] 41)
  have sz := sz.alloc (Nat.le_refl _) (.cells #[.int .i64 yr, .int .i64 lo, .int .i64 hi, .slice X zs.length kx, .slice Y js.length ky] 41)
  have sj := sj.alloc (Nat.le_refl _) (.cells #[.int .i64 yr, .int .i64 lo, .int .i64 hi, .slice X zs.length kx, .slice Y js.length ky] 41)
  have lgP := h3.lt
  obtain ⟨PB, hPB⟩ : ∃ PB, w3.heap.size = PB := ⟨_, rfl⟩
  have n1 : w.heap.size ≠ PB := by omega
  rw [hPB] at bP lgP sz sj
  go_wp2_with (fail)
  try rw [hPB]
  generalize hw4 : (w3.alloc (.cells #[.int .i64 yr, .int .i64 lo, .int .i64 hi, .slice X zs.length kx, .slice Y js.length ky] 41)) = w4 at *
  obtain ⟨p0, p1, p2, p3, p4⟩ := dn_cells bP
  have HP : Hid (∀ W, Blk W PB 41 #[.int .i64 yr, .int .i64 lo, .int .i64 hi, .slice X zs.length kx, .slice Y js.length ky] → W.cell? ⟨PB, 0, none⟩ = some (.int .i64 yr) ∧ W.cell? ⟨PB, 1, none⟩ = some (.int .i64 lo) ∧ W.cell? ⟨PB, 2, none⟩ = some (.int .i64 hi) ∧ W.cell? ⟨PB, 3, none⟩ = some (.slice X zs.length kx) ∧ W.cell? ⟨PB, 4, none⟩ = some (.slice Y js.length ky)) := Lib.hid fun W b => dn_cells b
  have bPd : Blk w4.drew PB 41 #[.int .i64 yr, .int .i64 lo, .int .i64 hi, .slice X zs.length kx, .slice Y js.length ky] := bP
  have bR1d : Blk w4.drew w.heap.size 41 #[.int .i64 0, .int .i64 0, .int .i64 0, .slice none 0 0, .slice none 0 0] := bR1
  have C1 := l06List_any g w4.drew h4.drew
  have B4d := B4.drew
  have szd := sz.drew
  have sjd := sj.drew
  have lg1 : g < PB := lgP
  have lgR1 : w.heap.size ≠ g := by omega
  have zd : w4.drew.heap.size = w4.heap.size := rfl
  have lPB := bP.lt
  have lgz : g < w2.heap.size := lg2
  have hz2 : w2.heap.size ≤ PB := by omega
  have hg1 : w.heap.size ≤ g := by omega
  clear hw4
  refine dv_np ?_
  go_region_held3 (fun W => W.cell? ⟨PB, 0, none⟩ = some (.int .i64 yr) ∧ W.cell? ⟨PB, 1, none⟩ = some (.int .i64 lo) ∧ W.cell? ⟨PB, 2, none⟩ = some (.int .i64 hi) ∧ W.cell? ⟨PB, 3, none⟩ = some (.slice X zs.length kx) ∧ W.cell? ⟨PB, 4, none⟩ = some (.slice Y js.length ky)) (first | (with_reducible exact HP.out _ bP) | (with_reducible exact HP.out _ bPd) | (with_reducible exact HP.out _ bP5) | go_keep) (first
    | (go_at_call 71; (with_reducible refine C1.mono ?_); rintro e w5 ⟨u, cs, rfl, su, hc, hl, h5, g5⟩; have bP5 := bPd.grown g5 (dn_ne lg1); have bR15 := bR1d.grown g5 (fun e => lgR1 (Option.some.inj e)); have B5 := gr_to_below B4d g5 (by omega) hg1; have z5 := g5.size; have sz5 := szd.grown g5 (by omega) (fun k hk => by have := Option.some.inj hk; omega); have sj5 := sjd.grown g5 (by omega) (fun k hk => by have := Option.some.inj hk; omega); obtain ⟨c0, c1, c2, c3, c4⟩ := dn_cells bR15; obtain ⟨f0, f1, f2, f3, f4⟩ := dn_open bR15))
  have bF1 : Blk (((((w5.setCell ⟨w.heap.size, 0, none⟩ (.int .i64 yr)).setCell ⟨w.heap.size, 1, none⟩ (.int .i64 lo)).setCell ⟨w.heap.size, 2, none⟩ (.int .i64 hi)).setCell ⟨w.heap.size, 3, none⟩ (.slice X zs.length kx)).setCell ⟨w.heap.size, 4, none⟩ (.slice Y js.length ky)) w.heap.size 41 #[.int .i64 yr, .int .i64 lo, .int .i64 hi, .slice X zs.length kx, .slice Y js.length ky] := dn_five bR15 (.int .i64 yr) (.int .i64 lo) (.int .i64 hi) (.slice X zs.length kx) (.slice Y js.length ky)
  have zF : (((((w5.setCell ⟨w.heap.size, 0, none⟩ (.int .i64 yr)).setCell ⟨w.heap.size, 1, none⟩ (.int .i64 lo)).setCell ⟨w.heap.size, 2, none⟩ (.int .i64 hi)).setCell ⟨w.heap.size, 3, none⟩ (.slice X zs.length kx)).setCell ⟨w.heap.size, 4, none⟩ (.slice Y js.length ky)).heap.size = w5.heap.size := n5_size _ _ (.int .i64 yr) (.int .i64 lo) (.int .i64 hi) (.slice X zs.length kx) (.slice Y js.length ky)
  have BF : Below w.heap.size w (((((w5.setCell ⟨w.heap.size, 0, none⟩ (.int .i64 yr)).setCell ⟨w.heap.size, 1, none⟩ (.int .i64 lo)).setCell ⟨w.heap.size, 2, none⟩ (.int .i64 hi)).setCell ⟨w.heap.size, 3, none⟩ (.slice X zs.length kx)).setCell ⟨w.heap.size, 4, none⟩ (.slice Y js.length ky)) := n5_below B5 (Nat.le_refl _) (.int .i64 yr) (.int .i64 lo) (.int .i64 hi) (.slice X zs.length kx) (.slice Y js.length ky)
  have kF : ∀ B, w.heap.size < B → (((((w5.setCell ⟨w.heap.size, 0, none⟩ (.int .i64 yr)).setCell ⟨w.heap.size, 1, none⟩ (.int .i64 lo)).setCell ⟨w.heap.size, 2, none⟩ (.int .i64 hi)).setCell ⟨w.heap.size, 3, none⟩ (.slice X zs.length kx)).setCell ⟨w.heap.size, 4, none⟩ (.slice Y js.length ky)).heap[B]? = w5.heap[B]? := fun B hB => dn_other (W := w5) (R := w.heap.size) (.int .i64 yr) (.int .i64 lo) (.int .i64 hi) (.slice X zs.length kx) (.slice Y js.length ky) (by omega)
  generalize (((((w5.setCell ⟨w.heap.size, 0, none⟩ (.int .i64 yr)).setCell ⟨w.heap.size, 1, none⟩ (.int .i64 lo)).setCell ⟨w.heap.size, 2, none⟩ (.int .i64 hi)).setCell ⟨w.heap.size, 3, none⟩ (.slice X zs.length kx)).setCell ⟨w.heap.size, 4, none⟩ (.slice Y js.length ky)) = wF at *
  have szF := (sz5.keep fun B hB _ => kF B (by omega)).more (lo' := w.heap.size) (hi' := wF.heap.size) (by omega) (by omega)
  have sjF := (sj5.keep fun B hB _ => kF B (by omega)).more (lo' := w.heap.size) (hi' := wF.heap.size) (by omega) (by omega)
  have suF := (su.keep fun B hB _ => kF B (by omega)).more (lo' := w.heap.size) (hi' := wF.heap.size) (by omega) (by omega)
  clear c0 c1 c2 c3 c4 f0 f1 f2 f3 f4 p0 p1 p2 p3 p4 C1 HP kF
  obtain ⟨c0, c1, c2, c3, c4⟩ := dn_cells bF1
  go_wp2_with fail
  exact bodyPost_ret (v := .tuple #[.agg #[.int .i64 yr, .int .i64 lo, .int .i64 hi, .slice X zs.length kx, .slice Y js.length ky], u]) (by simp [results, Try.results39, go_sem, c0, c1, c2, c3, c4]) rfl ⟨_, _, u, ⟨yr, lo, hi, zs, js⟩, cs, rfl, szF, sjF, suF, lz, lj, hc, hl, BF⟩

set_option maxRecDepth 100000 in
theorem DrawReasonsText_any (v : Value) (bs : List Int) (w : World) (h : SlR u8s 1 w 0 w.heap.size v bs) (hb : ∀ b ∈ bs, 0 ≤ b ∧ b ≤ 255) :
    Calls Try.prog 41 #[v] w fun e w' => ∃ n : Int, e = .returned (.int .i64 n) ∧ -2 ≤ n ∧ n ≤ 129 ∧ Below w.heap.size w w' := by
  go_enter Try.func41, Try.ntmps41
  go_wp2_with fail
  refine (l01From_any v bs w h hb).mono ?_
  rintro e w1 ⟨rfl, h1, B1⟩
  go_wp2_with fail
  refine (l01Next_any w.heap.size 132 w1 h1).mono ?_
  rintro e w2 ⟨r, rfl, a2, b2, _, h2, g2⟩
  have b2 := b2 (by omega)
  have B2 : Below w.heap.size w w2 := gr_to_below B1 g2 B1.size (Nat.le_refl _)
  go_wp2_with fail
  go_ret
  exact ⟨_, rfl, by omega, by omega, B2⟩
end Go.Proofs.Ytkhojhgcopnenaa
