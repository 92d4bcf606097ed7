/- The marks of rules. No condition but the sizes that the law itself asks. -/
import Derived.Test.YtkhojhgcopnenaaQualH
namespace Go.Proofs.Ytkhojhgcopnenaa
open Go.RowKit
attribute [local go_sem ↓] Go.wp_at_zero Go.wp_at_succ
set_option maxRecDepth 100000 in
set_option maxHeartbeats 4000000 in
theorem markRules_any (r : R5) (vz vj : Value) (k0 : Int) (w : World) (lo Q hi : Nat) (hz : OwI i64s 1 2 w lo Q vz r.zones) (hj : OwI i64s 1 2 w Q hi vj r.jobs) (h1 : lo ≤ Q) (h2 : Q ≤ hi) (h3 : hi ≤ w.heap.size) (hk0 : 0 ≤ k0) (hk1 : k0 ≤ 576460752303423488) (hl : r.zones.length ≤ 1048576) (hl' : r.jobs.length ≤ 1048576) :
    Calls Try.prog 29 #[.agg #[.int .i64 r.yr, .int .i64 r.lo, .int .i64 r.hi, vz, vj], .int .i64 k0] w fun e w' => e = .returned (.int .i64 (k0 + r.zones.length + r.jobs.length)) ∧ Chg lo hi w w' := by
  obtain ⟨A, a, rfl, _, _⟩ := hz.form
  obtain ⟨B, b, rfl, _, _⟩ := hj.form
  have bX := Blk.new w 41 #[.int .i64 r.yr, .int .i64 r.lo, .int .i64 r.hi, .slice A r.zones.length a, .slice B r.jobs.length b]
  have hb : Below w.heap.size w (w.alloc (.cells #[.int .i64 r.yr, .int .i64 r.lo, .int .i64 r.hi, .slice A r.zones.length a, .slice B r.jobs.length b] 41)) := (Below.refl _ _).alloc (Nat.le_refl _) _
  go_enter Try.func29, Try.ntmps29
  go_wp2_with fail
  generalize (w.alloc (.cells #[.int .i64 r.yr, .int .i64 r.lo, .int .i64 r.hi, .slice A r.zones.length a, .slice B r.jobs.length b] 41)) = w1 at *
  have z1 := hb.size
  have hz1 := hz.below hb
  have hj1 := hj.below hb
  refine (markInt64S_any _ _ _ k0 _ _ (OwnR.own hz1.own) hk0 (by omega) (by omega)).mono ?_
  rintro e w2 ⟨rfl, m2, g2⟩
  have c2 : Chg lo Q w1 w2 := Chg.of_grown g2 hz1.in_
  have z2 := c2.size
  have hj2 := hj1.chg c2 (Or.inr (Nat.le_refl _))
  have bX2 := Chg.blk bX c2 (Or.inr (by omega))
  have C2 : Chg lo hi w w2 := (Chg.of_below hb).trans (c2.mono (Nat.le_refl _) h2)
  clear m2 g2 c2 hz1 hj1
  obtain ⟨_, _, _, _, d4⟩ := r5_cells bX2
  go_wp2_with fail
  refine (markInt64S_any _ _ _ _ _ _ (OwnR.own hj2.own) (by omega) (by omega) (by omega)).mono ?_
  rintro e w3 ⟨rfl, m3, g3⟩
  have c3 : Chg Q hi w2 w3 := Chg.of_grown g3 hj2.in_
  clear m3 g3 d4
  go_wp2_with fail
  go_ret
  exact ⟨rfl, C2.trans (c3.mono h1 (Nat.le_refl _))⟩
end Go.Proofs.Ytkhojhgcopnenaa
