/- The reasons against a candidate: the reference's. No condition but the sizes that the law itself asks. -/
import Derived.Test.YtkhojhgcopnenaaQualB
import Derived.Deep.RegionHeld3
namespace Go.Proofs.Ytkhojhgcopnenaa
open Go.RowKit
attribute [local go_sem ↓] Go.wp_at_zero Go.wp_at_succ

set_option maxRecDepth 100000 in
set_option maxHeartbeats 4000000 in
theorem l06Truths_any (r : R5) (c : K9) (vz vj : Value) (w : World) (lo lo' : Nat) (hz : SlI w lo w.heap.size vz r.zones) (hj : SlI w lo' w.heap.size vj r.jobs) (hr : 0 ≤ r.yr ∧ r.yr ≤ 3000) (hb : 0 ≤ c.born ∧ c.born ≤ 3000) :
    Calls Try.prog 64 #[.agg #[.int .i64 r.yr, .int .i64 r.lo, .int .i64 r.hi, vz, vj], .agg #[.int .i64 c.num, .string c.first, .string c.last, .int .i64 c.born, .int .i64 c.zone, .bool c.cit, .bool c.conv, .bool c.flu, .int .i64 c.job]] w fun e w' => ∃ g, e = .returned (.slice (some ⟨g, 0, none⟩) 7 7) ∧ w.heap.size ≤ g ∧ Blk w' g 4 #[.bool (decide (r.yr - c.born < r.lo)), .bool (decide (r.hi < r.yr - c.born)), .bool (!hasB c.zone r.zones), .bool (!c.cit), .bool c.conv, .bool (!c.flu), .bool (hasB c.job r.jobs)] ∧ Below w.heap.size w w' := by
  obtain ⟨A, k, rfl, _, _⟩ := hz.form
  obtain ⟨B, d, rfl, _, _⟩ := hj.form
  obtain ⟨b0, h0⟩ : ∃ b, decide (r.yr - c.born < r.lo) = b := ⟨_, rfl⟩
  obtain ⟨b1, h1⟩ : ∃ b, decide (r.hi < r.yr - c.born) = b := ⟨_, rfl⟩
  obtain ⟨z2, h2⟩ : ∃ b, hasB c.zone r.zones = b := ⟨_, rfl⟩
  obtain ⟨b6, h6⟩ : ∃ b, hasB c.job r.jobs = b := ⟨_, rfl⟩
  obtain ⟨b2, g2⟩ : ∃ b, (!z2) = b := ⟨_, rfl⟩
  obtain ⟨b3, g3⟩ : ∃ b, (!c.cit) = b := ⟨_, rfl⟩
  obtain ⟨b5, g5⟩ : ∃ b, (!c.flu) = b := ⟨_, rfl⟩
  rw [h0, h1, h2, h6, g2, g3, g5]
  have Z2 := Lib.hid h2
  have H6 := Lib.hid h6
  clear h2 h6
  have bR : Blk ((w.alloc (.cells #[.int .i64 r.yr, .int .i64 r.lo, .int .i64 r.hi, .slice A r.zones.length k, .slice B r.jobs.length d] 41)).alloc (.cells #[.int .i64 c.num, .string c.first, .string c.last, .int .i64 c.born, .int .i64 c.zone, .bool c.cit, .bool c.conv, .bool c.flu, .int .i64 c.job] 45)) w.heap.size _ _ := (Blk.new w _ _).alloc _
  have bC : Blk ((w.alloc (.cells #[.int .i64 r.yr, .int .i64 r.lo, .int .i64 r.hi, .slice A r.zones.length k, .slice B r.jobs.length d] 41)).alloc (.cells #[.int .i64 c.num, .string c.first, .string c.last, .int .i64 c.born, .int .i64 c.zone, .bool c.cit, .bool c.conv, .bool c.flu, .int .i64 c.job] 45)) (w.heap.size + 1) _ _ := Blk.new' (by simp)
  have hB : Below w.heap.size w ((w.alloc (.cells #[.int .i64 r.yr, .int .i64 r.lo, .int .i64 r.hi, .slice A r.zones.length k, .slice B r.jobs.length d] 41)).alloc (.cells #[.int .i64 c.num, .string c.first, .string c.last, .int .i64 c.born, .int .i64 c.zone, .bool c.cit, .bool c.conv, .bool c.flu, .int .i64 c.job] 45)) := ((Below.refl _ _).alloc (Nat.le_refl _) _).alloc (by simp) _
  go_enter Try.func64, Try.ntmps64
  go_wp2_with fail
  generalize ((w.alloc (.cells #[.int .i64 r.yr, .int .i64 r.lo, .int .i64 r.hi, .slice A r.zones.length k, .slice B r.jobs.length d] 41)).alloc (.cells #[.int .i64 c.num, .string c.first, .string c.last, .int .i64 c.born, .int .i64 c.zone, .bool c.cit, .bool c.conv, .bool c.flu, .int .i64 c.job] 45)) = w1 at *
  replace hz := (hz.bel hB).drew
  replace hj := (hj.bel hB).drew
  have z1 := hB.size
  have lC := bC.lt
  have lR := bR.lt
  obtain ⟨d0, d1, d2, d3, d4⟩ := r5_cells bR
  obtain ⟨e0, e1, e2, e3, e4, e5, e6, e7, e8⟩ := r9_cells bC
  have bRd : Blk w1.drew _ _ _ := bR
  have bCd : Blk w1.drew _ _ _ := bC
  have HK : Hid (∀ W, Below w1.heap.size w1 W → W.cell? ⟨w.heap.size, 1, none⟩ = some (.int .i64 r.lo) ∧ W.cell? ⟨w.heap.size, 2, none⟩ = some (.int .i64 r.hi) ∧ W.cell? ⟨w.heap.size, 3, none⟩ = some (.slice A r.zones.length k) ∧ W.cell? ⟨w.heap.size, 4, none⟩ = some (.slice B r.jobs.length d) ∧ W.cell? ⟨w.heap.size + 1, 4, none⟩ = some (.int .i64 c.zone) ∧ W.cell? ⟨w.heap.size + 1, 5, none⟩ = some (.bool c.cit) ∧ W.cell? ⟨w.heap.size + 1, 6, none⟩ = some (.bool c.conv) ∧ W.cell? ⟨w.heap.size + 1, 7, none⟩ = some (.bool c.flu) ∧ W.cell? ⟨w.heap.size + 1, 8, none⟩ = some (.int .i64 c.job)) := Lib.hid fun W hW => ⟨(bR.below' hW).cell 1, (bR.below' hW).cell 2, (bR.below' hW).cell 3, (bR.below' hW).cell 4, (bC.below' hW).cell 4, (bC.below' hW).cell 5, (bC.below' hW).cell 6, (bC.below' hW).cell 7, (bC.below' hW).cell 8⟩
  clear d0 e0 e1 e2 e3
  go_region_held3 (fun W => W.cell? ⟨w.heap.size, 1, none⟩ = some (.int .i64 r.lo) ∧ W.cell? ⟨w.heap.size, 2, none⟩ = some (.int .i64 r.hi) ∧ W.cell? ⟨w.heap.size, 3, none⟩ = some (.slice A r.zones.length k) ∧ W.cell? ⟨w.heap.size, 4, none⟩ = some (.slice B r.jobs.length d) ∧ W.cell? ⟨w.heap.size + 1, 4, none⟩ = some (.int .i64 c.zone) ∧ W.cell? ⟨w.heap.size + 1, 5, none⟩ = some (.bool c.cit) ∧ W.cell? ⟨w.heap.size + 1, 6, none⟩ = some (.bool c.conv) ∧ W.cell? ⟨w.heap.size + 1, 7, none⟩ = some (.bool c.flu) ∧ W.cell? ⟨w.heap.size + 1, 8, none⟩ = some (.int .i64 c.job)) (first | exact HK.out _ (Below.refl _ _) | exact HK.out _ (Below.refl _ _).drew | exact HK.out _ (((Below.refl _ _).drew).alloc (Nat.le_refl _) _) | exact HK.out _ (((Below.refl _ _).alloc (Nat.le_refl _) _).drew) | go_keep) (first
    | (go_at_call 51; (with_reducible refine (l01Has_as Z2.out hz).mono ?_); rintro e w' ⟨rfl, rfl⟩)
    | (go_at_call 51; (with_reducible refine (l01Has_as H6.out hj).mono ?_); rintro e w' ⟨rfl, rfl⟩))
  all_goals go_wp2_with fail
  all_goals go_ret
  all_goals exact ⟨_, rfl, by first | omega | (simp; omega), Blk.new _ _ _, by first | exact (hB.drew).alloc z1 _ | exact ((hB.alloc z1 _)).drew⟩
end Go.Proofs.Ytkhojhgcopnenaa
