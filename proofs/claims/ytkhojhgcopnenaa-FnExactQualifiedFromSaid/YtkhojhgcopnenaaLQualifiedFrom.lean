/- FnExactQualifiedFrom: for every input the law returns true, and each argument reads as it did. No condition. -/
import Derived.Test.YtkhojhgcopnenaaQualF
namespace Go.Proofs.Ytkhojhgcopnenaa.lawFnExactQualifiedFrom
open Go.ChangeShapes Go.WideShapes Go.ChangeAt Go.RowKit
attribute [local go_sem ↓] Go.wp_at_zero Go.wp_at_succ
set_option maxRecDepth 100000 in
set_option maxHeartbeats 4000000 in
theorem walkL (r : R5) (c : K9) (A B : Option Addr) (a b : Nat) (w : World) (hz : SlI w 0 w.heap.size (.slice A r.zones.length a) r.zones) (hj : SlI w 0 w.heap.size (.slice B r.jobs.length b) r.jobs) (hs : c.small) :
    Calls Try.prog 5 #[.agg #[.int .i64 r.yr, .int .i64 r.lo, .int .i64 r.hi, .slice A r.zones.length a, .slice B r.jobs.length b], .agg #[.int .i64 c.num, .string c.first, .string c.last, .int .i64 c.born, .int .i64 c.zone, .bool c.cit, .bool c.conv, .bool c.flu, .int .i64 c.job]] w fun e w' => e = .returned (.bool true) ∧ Below w.heap.size w w' := by
  have bR : Blk ((w.alloc (.cells #[.int .i64 r.yr, .int .i64 r.lo, .int .i64 r.hi, .slice A r.zones.length a, .slice B r.jobs.length b] 32)).alloc (.cells #[.int .i64 c.num, .string c.first, .string c.last, .int .i64 c.born, .int .i64 c.zone, .bool c.cit, .bool c.conv, .bool c.flu, .int .i64 c.job] 36)) w.heap.size _ _ := (Blk.new w _ _).alloc _
  have bC : Blk ((w.alloc (.cells #[.int .i64 r.yr, .int .i64 r.lo, .int .i64 r.hi, .slice A r.zones.length a, .slice B r.jobs.length b] 32)).alloc (.cells #[.int .i64 c.num, .string c.first, .string c.last, .int .i64 c.born, .int .i64 c.zone, .bool c.cit, .bool c.conv, .bool c.flu, .int .i64 c.job] 36)) (w.heap.size + 1) _ _ := Blk.new' (by simp)
  have hB : Below w.heap.size w ((w.alloc (.cells #[.int .i64 r.yr, .int .i64 r.lo, .int .i64 r.hi, .slice A r.zones.length a, .slice B r.jobs.length b] 32)).alloc (.cells #[.int .i64 c.num, .string c.first, .string c.last, .int .i64 c.born, .int .i64 c.zone, .bool c.cit, .bool c.conv, .bool c.flu, .int .i64 c.job] 36)) := ((Below.refl _ _).alloc (Nat.le_refl _) _).alloc (by simp) _
  go_enter Try.func5, Try.ntmps5
  go_wp2_with fail
  generalize ((w.alloc (.cells #[.int .i64 r.yr, .int .i64 r.lo, .int .i64 r.hi, .slice A r.zones.length a, .slice B r.jobs.length b] 32)).alloc (.cells #[.int .i64 c.num, .string c.first, .string c.last, .int .i64 c.born, .int .i64 c.zone, .bool c.cit, .bool c.conv, .bool c.flu, .int .i64 c.job] 36)) = w0 at *
  refine (szRules_u r _ _ 1048576 w0 _ _ (hz.bel hB) (hj.bel hB) (by omega) (by omega)).mono ?_
  rintro e w1 ⟨q1, rfl, hq1, hl, hb1⟩
  replace hB := hB.trans (hb1.mono hB.size)
  replace bR := bR.below' hb1
  replace bC := bC.below' hb1
  clear hb1
  by_cases n1 : q1 < 0
  · go_wp2_with fail
    go_ret
    exact ⟨rfl, hB⟩
  obtain ⟨l1, l2⟩ := hl (by omega)
  obtain ⟨e0, e1, e2, e3, e4, e5, e6, e7, e8⟩ := r9_cells bC
  go_wp2_with fail
  clear e0 e1 e2 e3 e4 e5 e6 e7 e8
  refine (szCandidate_u c q1 w1 hs (by omega) hq1).mono ?_
  rintro e w2 ⟨q2, rfl, hq2, hb2⟩
  replace hB := hB.trans (hb2.mono hB.size)
  replace bR := bR.below' hb2
  replace bC := bC.below' hb2
  clear hb2 hl
  by_cases n2 : q2 < 0
  · go_wp2_with fail
    go_ret
    exact ⟨rfl, hB⟩
  have HK1 : Hid (∀ W, Below w2.heap.size w2 W → W.cell? ⟨w.heap.size, 0, none⟩ = some (.int .i64 r.yr) ∧ W.cell? ⟨w.heap.size, 1, none⟩ = some (.int .i64 r.lo) ∧ W.cell? ⟨w.heap.size, 2, none⟩ = some (.int .i64 r.hi) ∧ W.cell? ⟨w.heap.size, 3, none⟩ = some (.slice A r.zones.length a) ∧ W.cell? ⟨w.heap.size, 4, none⟩ = some (.slice B r.jobs.length b) ∧ W.cell? ⟨(w.heap.size + 1), 0, none⟩ = some (.int .i64 c.num) ∧ W.cell? ⟨(w.heap.size + 1), 1, none⟩ = some (.string c.first) ∧ W.cell? ⟨(w.heap.size + 1), 2, none⟩ = some (.string c.last) ∧ W.cell? ⟨(w.heap.size + 1), 3, none⟩ = some (.int .i64 c.born) ∧ W.cell? ⟨(w.heap.size + 1), 4, none⟩ = some (.int .i64 c.zone) ∧ W.cell? ⟨(w.heap.size + 1), 5, none⟩ = some (.bool c.cit) ∧ W.cell? ⟨(w.heap.size + 1), 6, none⟩ = some (.bool c.conv) ∧ W.cell? ⟨(w.heap.size + 1), 7, none⟩ = some (.bool c.flu) ∧ W.cell? ⟨(w.heap.size + 1), 8, none⟩ = some (.int .i64 c.job)) := Lib.hid fun W hW => ⟨(bR.below' hW).cell 0, (bR.below' hW).cell 1, (bR.below' hW).cell 2, (bR.below' hW).cell 3, (bR.below' hW).cell 4, (bC.below' hW).cell 0, (bC.below' hW).cell 1, (bC.below' hW).cell 2, (bC.below' hW).cell 3, (bC.below' hW).cell 4, (bC.below' hW).cell 5, (bC.below' hW).cell 6, (bC.below' hW).cell 7, (bC.below' hW).cell 8⟩
  have hD1 : Below w2.heap.size w2 w2.drew := (Below.refl _ _).drew
  obtain ⟨k1_0, k1_1, k1_2, k1_3, k1_4, k1_5, k1_6, k1_7, k1_8, k1_9, k1_10, k1_11, k1_12, k1_13⟩ := HK1.out _ (Below.refl _ _)
  go_wp2_with fail
  go_region_held3 (fun W => W.cell? ⟨w.heap.size, 0, none⟩ = some (.int .i64 r.yr) ∧ W.cell? ⟨w.heap.size, 1, none⟩ = some (.int .i64 r.lo) ∧ W.cell? ⟨w.heap.size, 2, none⟩ = some (.int .i64 r.hi) ∧ W.cell? ⟨w.heap.size, 3, none⟩ = some (.slice A r.zones.length a) ∧ W.cell? ⟨w.heap.size, 4, none⟩ = some (.slice B r.jobs.length b) ∧ W.cell? ⟨(w.heap.size + 1), 0, none⟩ = some (.int .i64 c.num) ∧ W.cell? ⟨(w.heap.size + 1), 1, none⟩ = some (.string c.first) ∧ W.cell? ⟨(w.heap.size + 1), 2, none⟩ = some (.string c.last) ∧ W.cell? ⟨(w.heap.size + 1), 3, none⟩ = some (.int .i64 c.born) ∧ W.cell? ⟨(w.heap.size + 1), 4, none⟩ = some (.int .i64 c.zone) ∧ W.cell? ⟨(w.heap.size + 1), 5, none⟩ = some (.bool c.cit) ∧ W.cell? ⟨(w.heap.size + 1), 6, none⟩ = some (.bool c.conv) ∧ W.cell? ⟨(w.heap.size + 1), 7, none⟩ = some (.bool c.flu) ∧ W.cell? ⟨(w.heap.size + 1), 8, none⟩ = some (.int .i64 c.job)) (first | exact HK1.out _ (Below.refl _ _) | exact HK1.out _ hD1 | exact HK1.out _ hA3 | exact HK1.out _ hA4 | exact HK1.out _ hA5 | go_keep) (first
    | (go_at_call 17; (with_reducible refine (toRules_r r _ _ w2.drew _ _ (hz.bel hB).drew (hj.bel hB).drew l1 l2).mono ?_); rintro e w3 ⟨xz3, xj3, kz3, kj3, rfl, sz3, sj3, hb3⟩; have hA3 := hD1.trans (hb3.mono (Nat.le_refl _)))
    | (go_at_call 18; (with_reducible refine (toCandidate_any c w3).mono ?_); rintro e w4 ⟨rfl, hb4⟩; have hA4 := hA3.trans (hb4.mono hA3.size))
    | (go_at_call 21; (with_reducible refine (specQualifiedFrom_any r c _ _ w4 _ _ (sz3.bel hb4) (sj3.bel hb4) hs).mono ?_); rintro e w5 ⟨rfl, hb5⟩; have hA5 := hA4.trans (hb5.mono hA4.size)))
  clear k1_0 k1_1 k1_2 k1_3 k1_4 k1_5 k1_6 k1_7 k1_8 k1_9 k1_10 k1_11 k1_12 k1_13 HK1
  replace hB := hB.trans (hA5.mono hB.size)
  replace bR := bR.below' hA5
  replace bC := bC.below' hA5
  clear hA3 hA4 hA5 hb3 hb4 hb5 sz3 sj3 hD1
  obtain ⟨d0, d1, d2, d3, d4⟩ := r5_cells bR
  go_wp2_with fail
  clear d0 d1 d2 d3 d4
  refine (toRules_r r _ _ w5 _ _ (hz.bel hB) (hj.bel hB) l1 l2).mono ?_
  rintro e w6 ⟨xz, xj, kz, kj, rfl, sz, sj, hb6⟩
  replace hB := hB.trans (hb6.mono hB.size)
  replace bR := bR.below' hb6
  replace bC := bC.below' hb6
  clear hb6
  have bX := Blk.new w6 41 #[.int .i64 r.yr, .int .i64 r.lo, .int .i64 r.hi, .slice xz r.zones.length kz, .slice xj r.jobs.length kj]
  have hb7 : Below w6.heap.size w6 (w6.alloc (.cells #[.int .i64 r.yr, .int .i64 r.lo, .int .i64 r.hi, .slice xz r.zones.length kz, .slice xj r.jobs.length kj] 41)) := (Below.refl _ _).alloc (Nat.le_refl _) _
  replace hB := hB.trans (hb7.mono hB.size)
  replace bR := bR.below' hb7
  replace bC := bC.below' hb7
  replace sz := sz.bel hb7
  replace sj := sj.bel hb7
  go_wp2_with fail
  generalize (w6.alloc (.cells #[.int .i64 r.yr, .int .i64 r.lo, .int .i64 r.hi, .slice xz r.zones.length kz, .slice xj r.jobs.length kj] 41)) = w7 at *
  clear hb7
  have HK2 : Hid (∀ W, Below w7.heap.size w7 W → W.cell? ⟨w6.heap.size, 0, none⟩ = some (.int .i64 r.yr) ∧ W.cell? ⟨w6.heap.size, 1, none⟩ = some (.int .i64 r.lo) ∧ W.cell? ⟨w6.heap.size, 2, none⟩ = some (.int .i64 r.hi) ∧ W.cell? ⟨w6.heap.size, 3, none⟩ = some (.slice xz r.zones.length kz) ∧ W.cell? ⟨w6.heap.size, 4, none⟩ = some (.slice xj r.jobs.length kj) ∧ W.cell? ⟨(w.heap.size + 1), 0, none⟩ = some (.int .i64 c.num) ∧ W.cell? ⟨(w.heap.size + 1), 1, none⟩ = some (.string c.first) ∧ W.cell? ⟨(w.heap.size + 1), 2, none⟩ = some (.string c.last) ∧ W.cell? ⟨(w.heap.size + 1), 3, none⟩ = some (.int .i64 c.born) ∧ W.cell? ⟨(w.heap.size + 1), 4, none⟩ = some (.int .i64 c.zone) ∧ W.cell? ⟨(w.heap.size + 1), 5, none⟩ = some (.bool c.cit) ∧ W.cell? ⟨(w.heap.size + 1), 6, none⟩ = some (.bool c.conv) ∧ W.cell? ⟨(w.heap.size + 1), 7, none⟩ = some (.bool c.flu) ∧ W.cell? ⟨(w.heap.size + 1), 8, none⟩ = some (.int .i64 c.job)) := Lib.hid fun W hW => ⟨(bX.below' hW).cell 0, (bX.below' hW).cell 1, (bX.below' hW).cell 2, (bX.below' hW).cell 3, (bX.below' hW).cell 4, (bC.below' hW).cell 0, (bC.below' hW).cell 1, (bC.below' hW).cell 2, (bC.below' hW).cell 3, (bC.below' hW).cell 4, (bC.below' hW).cell 5, (bC.below' hW).cell 6, (bC.below' hW).cell 7, (bC.below' hW).cell 8⟩
  have hD2 : Below w7.heap.size w7 w7.drew := (Below.refl _ _).drew
  obtain ⟨k2_0, k2_1, k2_2, k2_3, k2_4, k2_5, k2_6, k2_7, k2_8, k2_9, k2_10, k2_11, k2_12, k2_13⟩ := HK2.out _ (Below.refl _ _)
  go_region_held3 (fun W => W.cell? ⟨w6.heap.size, 0, none⟩ = some (.int .i64 r.yr) ∧ W.cell? ⟨w6.heap.size, 1, none⟩ = some (.int .i64 r.lo) ∧ W.cell? ⟨w6.heap.size, 2, none⟩ = some (.int .i64 r.hi) ∧ W.cell? ⟨w6.heap.size, 3, none⟩ = some (.slice xz r.zones.length kz) ∧ W.cell? ⟨w6.heap.size, 4, none⟩ = some (.slice xj r.jobs.length kj) ∧ W.cell? ⟨(w.heap.size + 1), 0, none⟩ = some (.int .i64 c.num) ∧ W.cell? ⟨(w.heap.size + 1), 1, none⟩ = some (.string c.first) ∧ W.cell? ⟨(w.heap.size + 1), 2, none⟩ = some (.string c.last) ∧ W.cell? ⟨(w.heap.size + 1), 3, none⟩ = some (.int .i64 c.born) ∧ W.cell? ⟨(w.heap.size + 1), 4, none⟩ = some (.int .i64 c.zone) ∧ W.cell? ⟨(w.heap.size + 1), 5, none⟩ = some (.bool c.cit) ∧ W.cell? ⟨(w.heap.size + 1), 6, none⟩ = some (.bool c.conv) ∧ W.cell? ⟨(w.heap.size + 1), 7, none⟩ = some (.bool c.flu) ∧ W.cell? ⟨(w.heap.size + 1), 8, none⟩ = some (.int .i64 c.job)) (first | exact HK2.out _ (Below.refl _ _) | exact HK2.out _ hD2 | exact HK2.out _ hA8 | exact HK2.out _ hA9 | go_keep) (first
    | (go_at_call 18; (with_reducible refine (toCandidate_any c w7.drew).mono ?_); rintro e w8 ⟨rfl, hb8⟩; have hA8 := hD2.trans (hb8.mono (Nat.le_refl _)); have sz8 := sz.drew.bel hb8; have sj8 := sj.drew.bel hb8)
    | (go_at_call 22; (with_reducible refine (implQualifiedFrom_any r c _ _ w8 _ _ sz8 sj8 hs).mono ?_); rintro e w9 ⟨rfl, hb9⟩; have hA9 := hA8.trans (hb9.mono hA8.size)))
  clear k2_0 k2_1 k2_2 k2_3 k2_4 k2_5 k2_6 k2_7 k2_8 k2_9 k2_10 k2_11 k2_12 k2_13 HK2
  replace hB := hB.trans (hA9.mono hB.size)
  replace bR := bR.below' hA9
  replace bX := bX.below' hA9
  have sz9 := sz8.bel hb9
  have sj9 := sj8.bel hb9
  clear hA8 hA9 hb8 hb9 sz sj sz8 sj8 hD2 bC
  have HK3 : Hid (∀ W, Below w9.heap.size w9 W → W.cell? ⟨w6.heap.size, 0, none⟩ = some (.int .i64 r.yr) ∧ W.cell? ⟨w6.heap.size, 1, none⟩ = some (.int .i64 r.lo) ∧ W.cell? ⟨w6.heap.size, 2, none⟩ = some (.int .i64 r.hi) ∧ W.cell? ⟨w6.heap.size, 3, none⟩ = some (.slice xz r.zones.length kz) ∧ W.cell? ⟨w6.heap.size, 4, none⟩ = some (.slice xj r.jobs.length kj) ∧ W.cell? ⟨w.heap.size, 0, none⟩ = some (.int .i64 r.yr) ∧ W.cell? ⟨w.heap.size, 1, none⟩ = some (.int .i64 r.lo) ∧ W.cell? ⟨w.heap.size, 2, none⟩ = some (.int .i64 r.hi) ∧ W.cell? ⟨w.heap.size, 3, none⟩ = some (.slice A r.zones.length a) ∧ W.cell? ⟨w.heap.size, 4, none⟩ = some (.slice B r.jobs.length b)) := Lib.hid fun W hW => ⟨(bX.below' hW).cell 0, (bX.below' hW).cell 1, (bX.below' hW).cell 2, (bX.below' hW).cell 3, (bX.below' hW).cell 4, (bR.below' hW).cell 0, (bR.below' hW).cell 1, (bR.below' hW).cell 2, (bR.below' hW).cell 3, (bR.below' hW).cell 4⟩
  have hD3 : Below w9.heap.size w9 w9.drew := (Below.refl _ _).drew
  obtain ⟨k3_0, k3_1, k3_2, k3_3, k3_4, k3_5, k3_6, k3_7, k3_8, k3_9⟩ := HK3.out _ (Below.refl _ _)
  go_wp2_with fail
  go_region_held3 (fun W => W.cell? ⟨w6.heap.size, 0, none⟩ = some (.int .i64 r.yr) ∧ W.cell? ⟨w6.heap.size, 1, none⟩ = some (.int .i64 r.lo) ∧ W.cell? ⟨w6.heap.size, 2, none⟩ = some (.int .i64 r.hi) ∧ W.cell? ⟨w6.heap.size, 3, none⟩ = some (.slice xz r.zones.length kz) ∧ W.cell? ⟨w6.heap.size, 4, none⟩ = some (.slice xj r.jobs.length kj) ∧ W.cell? ⟨w.heap.size, 0, none⟩ = some (.int .i64 r.yr) ∧ W.cell? ⟨w.heap.size, 1, none⟩ = some (.int .i64 r.lo) ∧ W.cell? ⟨w.heap.size, 2, none⟩ = some (.int .i64 r.hi) ∧ W.cell? ⟨w.heap.size, 3, none⟩ = some (.slice A r.zones.length a) ∧ W.cell? ⟨w.heap.size, 4, none⟩ = some (.slice B r.jobs.length b)) (first | exact HK3.out _ (Below.refl _ _) | exact HK3.out _ hD3 | exact HK3.out _ hA10 | exact HK3.out _ hA11 | go_keep) (first
    | (go_at_call 17; (with_reducible refine (toRules_r r _ _ w9.drew _ _ (hz.bel hB).drew (hj.bel hB).drew l1 l2).mono ?_); rintro e w10 ⟨yz, yj, lz, lj, rfl, tz, tj, hb10⟩; have hA10 := hD3.trans (hb10.mono (Nat.le_refl _)))
    | (go_at_call 20; (with_reducible refine (eqRules_same r _ _ _ _ _ _ _ _ w10 _ _ _ _ (sz9.drew.bel hb10) (sj9.drew.bel hb10) tz tj).mono ?_); rintro e w11 ⟨rfl, hb11⟩; have hA11 := hA10.trans (hb11.mono hA10.size)))
  clear k3_0 k3_1 k3_2 k3_3 k3_4 k3_5 k3_6 k3_7 k3_8 k3_9 HK3
  go_wp2_with fail
  go_ret
  exact ⟨rfl, hB.trans (hA11.mono hB.size)⟩

theorem walk (v0 v1 : Value) (w : World) (g0 : ∃ (r : R5) (A B : Option Addr) (a b : Nat), v0 = .agg #[.int .i64 r.yr, .int .i64 r.lo, .int .i64 r.hi, .slice A r.zones.length a, .slice B r.jobs.length b] ∧ SlI w 0 w.heap.size (.slice A r.zones.length a) r.zones ∧ SlI w 0 w.heap.size (.slice B r.jobs.length b) r.jobs) (g1 : ∃ c : K9, v1 = .agg #[.int .i64 c.num, .string c.first, .string c.last, .int .i64 c.born, .int .i64 c.zone, .bool c.cit, .bool c.conv, .bool c.flu, .int .i64 c.job] ∧ c.small) :
    Calls Try.prog 5 #[v0, v1] w fun e w' => e = .returned (.bool true) ∧ Below w.heap.size w w' := by
  obtain ⟨r, A, B, a, b, rfl, hz, hj⟩ := g0
  obtain ⟨c, rfl, hs⟩ := g1
  exact walkL r c A B a b w hz hj hs

theorem own : ownKnob Try.prog.godebug = none := by kernel_rfl
theorem laidOut : laidOutB Try.prog = true := by kernel_rfl

set_option maxRecDepth 100000 in
theorem lifted (os : Os) (started : os.Started) (H : Type) (enc : TypeId × Value → H) :
    ReturnsInHanded {} Try.checked os 5 .any (Rows.fnExactQualifiedFromSpec.pre6 enc Try.prog Try.f5 Rows.fnExactQualifiedFromRow.domain false) (Rows.fnExactQualifiedFromSpec.post enc Try.prog Try.f5 false true false false) := by
  refine returnsInHanded_of_change (C := Try.checked) own started (by kernel_rfl) Try.func5
    (ChangeSpec.witness6 (enc := enc) (C := Try.checked) false ⟨#[], #[.agg #[.int .i64 0, .int .i64 0, .int .i64 0, .slice none 0 0, .slice none 0 0], .agg #[.int .i64 0, .string ⟨#[]⟩, .string ⟨#[]⟩, .int .i64 0, .int .i64 0, .bool false, .bool false, .bool false, .int .i64 0]], []⟩ 8 (by kernel_rfl) (by kernel_rfl) (by kernel_rfl) (by kernel_rfl)) ?_
  intro W base args ds gs before hval0 hW hcnd _
  have hval : ∀ (j : Nat) t v, Try.f5.params[j]? = some t → args[j]? = some v → Value.okWide Try.prog W .any base t v := hval0
  have hW' := hW
  obtain ⟨p, q, hA0, hV, rfl, hfz, hnd⟩ := hW
  have hA : DataW.TrodAll enc Try.prog W 0 (fun _ => true) true Try.f5.params.toList args.toList ds p := hA0
  rw [Try.params5] at hA hval
  obtain ⟨v0, vs0, d0, ds0, p0, q0, hargs, rfl, rfl, h0, r0⟩ := trodAll_cons hA
  obtain ⟨v1, vs1, d1, ds1, p1, q1, rfl, rfl, rfl, h1, r1⟩ := trodAll_cons r0
  obtain ⟨rfl, rfl, rfl⟩ := trodAll_nil r1
  obtain rfl : args = #[v0, v1] := by cases args; simp_all
  obtain ⟨rfl, rfl⟩ := trodVars_none hV
  have lt0 : ∀ x ∈ p0, x.block < W.heap.size := by obtain ⟨m, hm⟩ := h0; exact DataW.trod_lt m _ _ _ hm
  have lt1 : ∀ x ∈ p1, x.block < W.heap.size := by obtain ⟨m, hm⟩ := h1; exact DataW.trod_lt m _ _ _ hm
  have g0 := open_RulesV (hval 0 32 v0 rfl rfl) h0
  have g1 := open_CandidateV (hval 1 36 v1 rfl rfl) h1
  clear hA0 hval0
  refine (walk v0 v1 W g0 g1).mono fun e W' ⟨he, bel⟩ => ?_
  subst he
  exact ⟨_, rfl, _, _, _, [], _, [], hW', trodAll_mk1 (shut_bool Try.underlying4 _), (trodAll_cons_mk (Below.trod laidOut (by kernel_rfl) (of_decide_eq_true (by kernel_rfl)) h0 bel lt0) (trodAll_cons_mk (Below.trod laidOut (by kernel_rfl) (of_decide_eq_true (by kernel_rfl)) h1 bel lt1) trodAll_mk0)), rfl, bel.frame _, fun h => by cases h⟩

theorem over : Rows.fnExactQualifiedFromRow.holds Try.pinned (OpenSpec.ofChange Rows.fnExactQualifiedFromSpec) :=
  OpenClaim.holds_of_wide 5 Try.f5 rfl rfl rfl rfl rfl rfl rfl ⟨rfl, rfl, rfl, rfl, rfl⟩ rfl rfl rfl rfl rfl (by kernel_rfl) Try.func5 (by kernel_rfl)
    (of_decide_eq_true (by kernel_rfl)) (by unfold Func.isWrapper; first | (rw [if_pos (by decide +kernel)]; kernel_rfl) | (rw [if_neg (by decide +kernel)]; exact ⟨rfl, rfl⟩))
    (fun os started H enc _ => lifted os started H enc)

theorem proved : Rows.FnExactQualifiedFromSaid := over
#print axioms proved
end Go.Proofs.Ytkhojhgcopnenaa.lawFnExactQualifiedFrom
