/- Rules and candidates as arguments of a law: copies, comparisons, sizes, the reading of them. No condition but the sizes that the law itself asks. -/
import Derived.Test.YtkhojhgcopnenaaQualE
import Derived.Test.YtkhojhgcopnenaaFrame
namespace Go.Proofs.Ytkhojhgcopnenaa
open Go.ChangeShapes Go.WideShapes Go.ChangeAt Go.RowKit
attribute [local go_sem ↓] Go.wp_at_zero Go.wp_at_succ

set_option maxHeartbeats 1000000 in
theorem toPerson_any (c : K9) (w : World) :
    Calls Try.prog 62 #[.agg #[.int .i64 c.num, .string c.first, .string c.last, .int .i64 c.born, .int .i64 c.zone]] w fun e w' => e = .returned (.agg #[.int .i64 c.num, .string c.first, .string c.last, .int .i64 c.born, .int .i64 c.zone]) ∧ Below w.heap.size w w' := by
  obtain ⟨q0, q1, q2, q3, q4, _, _, _, _⟩ := c
  dsimp only
  go_enter Try.func62, Try.ntmps62
  go_wp2
  exact bodyPost_ret (v := .agg #[.int .i64 q0, .string q1, .string q2, .int .i64 q3, .int .i64 q4]) (by simp [results, Try.results62, go_sem]) rfl ⟨rfl, (((Below.refl _ _).alloc (Nat.le_refl _) _).alloc (by simp) _).alloc (by simp; omega) _⟩

theorem r9_open {W : World} {T : Nat} {ty : TypeId} {a b c d e f g h i : Value} (x : Blk W T ty #[a, b, c, d, e, f, g, h, i]) : W.frozen? ⟨T, 0, none⟩ = false ∧ W.frozen? ⟨T, 1, none⟩ = false ∧ W.frozen? ⟨T, 2, none⟩ = false ∧ W.frozen? ⟨T, 3, none⟩ = false ∧ W.frozen? ⟨T, 4, none⟩ = false ∧ W.frozen? ⟨T, 5, none⟩ = false ∧ W.frozen? ⟨T, 6, none⟩ = false ∧ W.frozen? ⟨T, 7, none⟩ = false ∧ W.frozen? ⟨T, 8, none⟩ = false := ⟨x.frozen 0, x.frozen 1, x.frozen 2, x.frozen 3, x.frozen 4, x.frozen 5, x.frozen 6, x.frozen 7, x.frozen 8⟩
theorem r5_open {W : World} {T : Nat} {ty : TypeId} {x y z u t : Value} (b : Blk W T ty #[x, y, z, u, t]) : W.frozen? ⟨T, 0, none⟩ = false ∧ W.frozen? ⟨T, 1, none⟩ = false ∧ W.frozen? ⟨T, 2, none⟩ = false ∧ W.frozen? ⟨T, 3, none⟩ = false ∧ W.frozen? ⟨T, 4, none⟩ = false := ⟨b.frozen 0, b.frozen 1, b.frozen 2, b.frozen 3, b.frozen 4⟩
theorem r5_set3 {W : World} {T : Nat} {ty : TypeId} {x y z u t : Value} (b : Blk W T ty #[x, y, z, u, t]) (q : Value) : Blk (W.setCell ⟨T, 3, none⟩ q) T ty #[x, y, z, q, t] := by have := b.set_ 3 q; simpa using this

set_option maxRecDepth 100000 in
set_option maxHeartbeats 4000000 in
theorem toCandidate_any (c : K9) (w : World) :
    Calls Try.prog 18 #[.agg #[.int .i64 c.num, .string c.first, .string c.last, .int .i64 c.born, .int .i64 c.zone, .bool c.cit, .bool c.conv, .bool c.flu, .int .i64 c.job]] w fun e w' => e = .returned (.agg #[.int .i64 c.num, .string c.first, .string c.last, .int .i64 c.born, .int .i64 c.zone, .bool c.cit, .bool c.conv, .bool c.flu, .int .i64 c.job]) ∧ Below w.heap.size w w' := by
  go_enter Try.func18, Try.ntmps18
  go_wp2_with fail
  have b1 : Blk (((w.alloc (.cells #[.int .i64 c.num, .string c.first, .string c.last, .int .i64 c.born, .int .i64 c.zone, .bool c.cit, .bool c.conv, .bool c.flu, .int .i64 c.job] 36)).alloc (.cells #[.int .i64 0, .string ⟨#[]⟩, .string ⟨#[]⟩, .int .i64 0, .int .i64 0, .bool false, .bool false, .bool false, .int .i64 0] 45)).alloc (.cells #[.int .i64 0, .string ⟨#[]⟩, .string ⟨#[]⟩, .int .i64 0, .int .i64 0, .bool false, .bool false, .bool false, .int .i64 0] 45)) w.heap.size _ _ := ((Blk.new w _ _).alloc _).alloc _
  have b2 : Blk (((w.alloc (.cells #[.int .i64 c.num, .string c.first, .string c.last, .int .i64 c.born, .int .i64 c.zone, .bool c.cit, .bool c.conv, .bool c.flu, .int .i64 c.job] 36)).alloc (.cells #[.int .i64 0, .string ⟨#[]⟩, .string ⟨#[]⟩, .int .i64 0, .int .i64 0, .bool false, .bool false, .bool false, .int .i64 0] 45)).alloc (.cells #[.int .i64 0, .string ⟨#[]⟩, .string ⟨#[]⟩, .int .i64 0, .int .i64 0, .bool false, .bool false, .bool false, .int .i64 0] 45)) (w.heap.size + 1) _ _ := (Blk.new' (by simp)).alloc _
  have b3 : Blk (((w.alloc (.cells #[.int .i64 c.num, .string c.first, .string c.last, .int .i64 c.born, .int .i64 c.zone, .bool c.cit, .bool c.conv, .bool c.flu, .int .i64 c.job] 36)).alloc (.cells #[.int .i64 0, .string ⟨#[]⟩, .string ⟨#[]⟩, .int .i64 0, .int .i64 0, .bool false, .bool false, .bool false, .int .i64 0] 45)).alloc (.cells #[.int .i64 0, .string ⟨#[]⟩, .string ⟨#[]⟩, .int .i64 0, .int .i64 0, .bool false, .bool false, .bool false, .int .i64 0] 45)) (w.heap.size + 1 + 1) _ _ := Blk.new' (by simp)
  have hB0 : Below w.heap.size w (((w.alloc (.cells #[.int .i64 c.num, .string c.first, .string c.last, .int .i64 c.born, .int .i64 c.zone, .bool c.cit, .bool c.conv, .bool c.flu, .int .i64 c.job] 36)).alloc (.cells #[.int .i64 0, .string ⟨#[]⟩, .string ⟨#[]⟩, .int .i64 0, .int .i64 0, .bool false, .bool false, .bool false, .int .i64 0] 45)).alloc (.cells #[.int .i64 0, .string ⟨#[]⟩, .string ⟨#[]⟩, .int .i64 0, .int .i64 0, .bool false, .bool false, .bool false, .int .i64 0] 45)) := (((Below.refl _ _).alloc (Nat.le_refl _) _).alloc (by simp) _).alloc (by simp; omega) _
  generalize (((w.alloc (.cells #[.int .i64 c.num, .string c.first, .string c.last, .int .i64 c.born, .int .i64 c.zone, .bool c.cit, .bool c.conv, .bool c.flu, .int .i64 c.job] 36)).alloc (.cells #[.int .i64 0, .string ⟨#[]⟩, .string ⟨#[]⟩, .int .i64 0, .int .i64 0, .bool false, .bool false, .bool false, .int .i64 0] 45)).alloc (.cells #[.int .i64 0, .string ⟨#[]⟩, .string ⟨#[]⟩, .int .i64 0, .int .i64 0, .bool false, .bool false, .bool false, .int .i64 0] 45)) = W0 at *
  refine (toPerson_any c W0).mono ?_
  rintro e w1 ⟨rfl, hb1⟩
  have hB1 := hB0.trans (hb1.mono hB0.size)
  replace b1 := b1.below' hb1
  replace b2 := b2.below' hb1
  replace b3 := b3.below' hb1
  obtain ⟨_, _, _, _, _, a5, a6, a7, a8⟩ := r9_cells b1
  obtain ⟨d0, d1, d2, d3, d4, d5, d6, d7, d8⟩ := r9_cells b2
  obtain ⟨e0, e1, e2, e3, e4, e5, e6, e7, e8⟩ := r9_cells b3
  obtain ⟨f0, f1, f2, f3, f4, f5, f6, f7, f8⟩ := r9_open b2
  obtain ⟨g0, g1, g2, g3, g4, g5, g6, g7, g8⟩ := r9_open b3
  go_wp2_with fail
  refine bodyPost_ret (v := .agg #[.int .i64 c.num, .string c.first, .string c.last, .int .i64 c.born, .int .i64 c.zone, .bool c.cit, .bool c.conv, .bool c.flu, .int .i64 c.job]) (by simp [results, Try.results18, go_sem, d0, d1, d2, d3, d4, d5, d6, d7, d8, e0, e1, e2, e3, e4, e5, e6, e7, e8]) rfl ⟨rfl, ?_⟩
  repeat' refine Below.setCell ?_ (by simp; try omega) _
  exact hB1

set_option maxRecDepth 100000 in
set_option maxHeartbeats 4000000 in
theorem toRules_any (r : R5) (vz vj : Value) (w : World) (lo lo' : Nat) (hn : SlI w lo w.heap.size vz r.zones) (hd : SlI w lo' w.heap.size vj r.jobs) (hl : r.zones.length ≤ 1048576) (hl' : r.jobs.length ≤ 1048576) :
    Calls Try.prog 17 #[.agg #[.int .i64 r.yr, .int .i64 r.lo, .int .i64 r.hi, vz, vj]] w fun e w' => ∃ xz xj Q, e = .returned (.agg #[.int .i64 r.yr, .int .i64 r.lo, .int .i64 r.hi, xz, xj]) ∧ OwI i64s 1 2 w' w.heap.size Q xz r.zones ∧ OwI i64s 1 2 w' Q w'.heap.size xj r.jobs ∧ w.heap.size ≤ Q ∧ Q ≤ w'.heap.size ∧ Below w.heap.size w w' := by
  go_enter Try.func17, Try.ntmps17
  go_wp2_with fail
  have b1 : Blk (((w.alloc (.cells #[.int .i64 r.yr, .int .i64 r.lo, .int .i64 r.hi, vz, vj] 32)).alloc (.cells #[.int .i64 0, .int .i64 0, .int .i64 0, .slice none 0 0, .slice none 0 0] 41)).alloc (.cells #[.int .i64 r.yr, .int .i64 r.lo, .int .i64 r.hi, .slice none 0 0, .slice none 0 0] 41)) w.heap.size _ _ := ((Blk.new w _ _).alloc _).alloc _
  have b2 : Blk (((w.alloc (.cells #[.int .i64 r.yr, .int .i64 r.lo, .int .i64 r.hi, vz, vj] 32)).alloc (.cells #[.int .i64 0, .int .i64 0, .int .i64 0, .slice none 0 0, .slice none 0 0] 41)).alloc (.cells #[.int .i64 r.yr, .int .i64 r.lo, .int .i64 r.hi, .slice none 0 0, .slice none 0 0] 41)) (w.heap.size + 1) _ _ := (Blk.new' (by simp)).alloc _
  have b3 : Blk (((w.alloc (.cells #[.int .i64 r.yr, .int .i64 r.lo, .int .i64 r.hi, vz, vj] 32)).alloc (.cells #[.int .i64 0, .int .i64 0, .int .i64 0, .slice none 0 0, .slice none 0 0] 41)).alloc (.cells #[.int .i64 r.yr, .int .i64 r.lo, .int .i64 r.hi, .slice none 0 0, .slice none 0 0] 41)) (w.heap.size + 1 + 1) _ _ := Blk.new' (by simp)
  have hB0 : Below w.heap.size w (((w.alloc (.cells #[.int .i64 r.yr, .int .i64 r.lo, .int .i64 r.hi, vz, vj] 32)).alloc (.cells #[.int .i64 0, .int .i64 0, .int .i64 0, .slice none 0 0, .slice none 0 0] 41)).alloc (.cells #[.int .i64 r.yr, .int .i64 r.lo, .int .i64 r.hi, .slice none 0 0, .slice none 0 0] 41)) := (((Below.refl _ _).alloc (Nat.le_refl _) _).alloc (by simp) _).alloc (by simp; omega) _
  generalize (((w.alloc (.cells #[.int .i64 r.yr, .int .i64 r.lo, .int .i64 r.hi, vz, vj] 32)).alloc (.cells #[.int .i64 0, .int .i64 0, .int .i64 0, .slice none 0 0, .slice none 0 0] 41)).alloc (.cells #[.int .i64 r.yr, .int .i64 r.lo, .int .i64 r.hi, .slice none 0 0, .slice none 0 0] 41)) = W0 at *
  have l3 := b3.lt
  refine (toInt64S_any vz r.zones W0 lo (hn.bel hB0) hl).mono ?_
  rintro e w1 ⟨xz, rfl, o1, hb1⟩
  obtain ⟨X1, k1, rfl, _, _, _⟩ := own_form (OwnR.own o1)
  have bd1 := Lib.hid (World.ownsRow.lt (OwnR.own o1))
  have z1 := hb1.size
  have hB1 := hB0.trans (hb1.mono hB0.size)
  replace b1 := b1.below' hb1
  replace b2 := b2.below' hb1
  replace b3 := b3.below' hb1
  obtain ⟨_, _, _, _, a4⟩ := r5_cells b1
  obtain ⟨e0, e1, e2, e3, e4⟩ := r5_cells b3
  obtain ⟨g0, g1, g2, g3, g4⟩ := r5_open b3
  go_wp2_with fail
  clear a4 e0 e1 e2 e3 e4 g0 g1 g2 g3 g4
  have n13 : w.heap.size ≠ w.heap.size + 1 + 1 := by omega
  have n23 : w.heap.size + 1 ≠ w.heap.size + 1 + 1 := by omega
  replace b1 := b1.far (p := ⟨w.heap.size + 1 + 1, 3, none⟩) n13 (.slice X1 r.zones.length k1)
  replace b2 := b2.far (p := ⟨w.heap.size + 1 + 1, 3, none⟩) n23 (.slice X1 r.zones.length k1)
  replace b3 := r5_set3 b3 (.slice X1 r.zones.length k1)
  have hB2 : Below w.heap.size w (w1.setCell ⟨w.heap.size + 1 + 1, 3, none⟩ (.slice X1 r.zones.length k1)) := hB1.setCell (by simp; omega) _
  replace o1 := o1.setCell ⟨w.heap.size + 1 + 1, 3, none⟩ (.slice X1 r.zones.length k1) (fun k hk => by have := (bd1.out k hk).1; simp; omega)
  have z2 := size_setCell w1 ⟨w.heap.size + 1 + 1, 3, none⟩ (.slice X1 r.zones.length k1)
  generalize w1.setCell ⟨w.heap.size + 1 + 1, 3, none⟩ (.slice X1 r.zones.length k1) = W2 at *
  refine (toInt64S_any vj r.jobs W2 lo' (hd.bel hB2) hl').mono ?_
  rintro e w3 ⟨xj, rfl, o2, hb3⟩
  obtain ⟨X2, k2, rfl, _, _, _⟩ := own_form (OwnR.own o2)
  have bd2 := Lib.hid (World.ownsRow.lt (OwnR.own o2))
  have z3 := hb3.size
  have hB3 := hB2.trans (hb3.mono hB2.size)
  replace b2 := b2.below' hb3
  replace b3 := b3.below' hb3
  replace o1 := o1.below hb3
  clear b1
  obtain ⟨d0, d1, d2, d3, d4⟩ := r5_cells b2
  obtain ⟨f0, f1, f2, f3, f4⟩ := r5_open b2
  obtain ⟨e0, e1, e2, e3, e4⟩ := r5_cells b3
  obtain ⟨g0, g1, g2, g3, g4⟩ := r5_open b3
  clear hB2 hB1 hB0 hn hd hb1 hb3
  go_wp2_with fail
  refine bodyPost_ret (v := .agg #[.int .i64 r.yr, .int .i64 r.lo, .int .i64 r.hi, .slice X1 r.zones.length k1, .slice X2 r.jobs.length k2]) (by simp [results, Try.results17, go_sem, d0, d1, d2, d3, d4, e0, e1, e2, e3, e4]) rfl ⟨_, _, W2.heap.size, rfl, ⟨?_, fun g hg => by have := (bd1.out g hg).2; omega⟩, ⟨?_, fun g hg => by have := (bd2.out g hg).2; simp only [size_setCell]; omega⟩, by omega, by simp only [size_setCell]; omega, ?_⟩
  · repeat' refine OwnR.setCell ?_ _ _ (fun k hk => by have := (bd1.out k hk).1; simp; omega)
    exact o1.more (by omega)
  · repeat' refine OwnR.setCell ?_ _ _ (fun k hk => by have := (bd2.out k hk).1; simp; omega)
    exact o2
  · repeat' refine Below.setCell ?_ (by simp; try omega) _
    exact hB3

theorem toRules_r (r : R5) (vz vj : Value) (w : World) (lo lo' : Nat) (hn : SlI w lo w.heap.size vz r.zones) (hd : SlI w lo' w.heap.size vj r.jobs) (hl : r.zones.length ≤ 1048576) (hl' : r.jobs.length ≤ 1048576) :
    Calls Try.prog 17 #[.agg #[.int .i64 r.yr, .int .i64 r.lo, .int .i64 r.hi, vz, vj]] w fun e w' => ∃ (xz xj : Option Addr) (kz kj : Nat), e = .returned (.agg #[.int .i64 r.yr, .int .i64 r.lo, .int .i64 r.hi, .slice xz r.zones.length kz, .slice xj r.jobs.length kj]) ∧ SlI w' 0 w'.heap.size (.slice xz r.zones.length kz) r.zones ∧ SlI w' 0 w'.heap.size (.slice xj r.jobs.length kj) r.jobs ∧ Below w.heap.size w w' := by
  refine (toRules_any r vz vj w lo lo' hn hd hl hl').mono ?_
  rintro e w' ⟨xz, xj, Q, rfl, o1, o2, q1, q2, hb⟩
  have s1 := (OwI.rd (f := i64s) (s := 1) (fun _ => rfl) o1).more (lo' := 0) (Nat.zero_le _) (Nat.le_refl _)
  have s2 := (OwI.rd (f := i64s) (s := 1) (fun _ => rfl) o2).more (lo' := 0) (Nat.zero_le _) (Nat.le_refl _)
  obtain ⟨A, k, rfl, _, _⟩ := s1.form
  obtain ⟨B, d, rfl, _, _⟩ := s2.form
  exact ⟨A, B, k, d, rfl, s1, s2, hb⟩

theorem szRules_u (r : R5) (vz vj : Value) (l : Int) (w : World) (lo lo' : Nat) (hn : SlI w lo w.heap.size vz r.zones) (hd : SlI w lo' w.heap.size vj r.jobs) (hl : 0 ≤ l) (hl1 : l ≤ 1048576) :
    Calls Try.prog 14 #[.agg #[.int .i64 r.yr, .int .i64 r.lo, .int .i64 r.hi, vz, vj], .int .i64 l] w fun e w' => ∃ q : Int, e = .returned (.int .i64 q) ∧ q ≤ l ∧ (0 ≤ q → r.zones.length ≤ 1048576 ∧ r.jobs.length ≤ 1048576) ∧ Below w.heap.size w w' := by
  have b1 := Blk.new w 32 #[.int .i64 r.yr, .int .i64 r.lo, .int .i64 r.hi, vz, vj]
  have hB : Below w.heap.size w (w.alloc (.cells #[.int .i64 r.yr, .int .i64 r.lo, .int .i64 r.hi, vz, vj] 32)) := (Below.refl _ _).alloc (Nat.le_refl _) _
  go_enter Try.func14, Try.ntmps14
  go_wp2_with fail
  generalize (w.alloc (.cells #[.int .i64 r.yr, .int .i64 r.lo, .int .i64 r.hi, vz, vj] 32)) = w1 at *
  have s1 := hn.bel hB
  have s2 := hd.bel hB
  refine (szInt64S_any vz r.zones l w1 s1 hl hl1).mono ?_
  rintro e w' ⟨rfl, rfl⟩
  obtain ⟨_, _, _, _, a4⟩ := r5_cells b1
  by_cases q0 : l - (r.zones.length : Int) < 0
  · rw [if_pos q0]
    go_wp2_with fail
    go_ret
    exact ⟨-1, rfl, by omega, by omega, hB⟩
  · rw [if_neg q0]
    go_wp2_with fail
    refine (szInt64S_any vj r.jobs (l - (r.zones.length : Int)) w1 s2 (by omega) (by omega)).mono ?_
    rintro e w' ⟨rfl, rfl⟩
    by_cases q1 : l - (r.zones.length : Int) - (r.jobs.length : Int) < 0
    · rw [if_pos q1]
      go_wp2_with fail
      go_ret
      exact ⟨-1, rfl, by omega, by omega, hB⟩
    · rw [if_neg q1]
      go_wp2_with fail
      go_ret
      exact ⟨_, rfl, by omega, fun _ => by omega, hB⟩

set_option maxHeartbeats 1000000 in
theorem szPerson_u (c : K9) (l : Int) (w : World) (hc : c.small) (hl : 0 ≤ l) (hl1 : l ≤ 1048576) :
    Calls Try.prog 59 #[.agg #[.int .i64 c.num, .string c.first, .string c.last, .int .i64 c.born, .int .i64 c.zone], .int .i64 l] w fun e w' => ∃ q : Int, e = .returned (.int .i64 q) ∧ q ≤ l ∧ Below w.heap.size w w' := by
  obtain ⟨h1, h2⟩ := hc
  unfold maxLen at h1 h2
  by_cases q0 : l - (c.first.size : Int) < 0
  · go_enter Try.func59, Try.ntmps59
    go_wp2
    go_ret
    exact ⟨-1, rfl, by omega, (Below.refl _ _).alloc (Nat.le_refl _) _⟩
  · by_cases q1 : l - (c.first.size : Int) - (c.last.size : Int) < 0
    · go_enter Try.func59, Try.ntmps59
      go_wp2
      go_ret
      exact ⟨-1, rfl, by omega, (Below.refl _ _).alloc (Nat.le_refl _) _⟩
    · go_enter Try.func59, Try.ntmps59
      go_wp2
      go_ret
      exact ⟨_, rfl, by omega, (Below.refl _ _).alloc (Nat.le_refl _) _⟩
theorem szCandidate_u (c : K9) (l : Int) (w : World) (hc : c.small) (hl : 0 ≤ l) (hl1 : l ≤ 1048576) :
    Calls Try.prog 15 #[.agg #[.int .i64 c.num, .string c.first, .string c.last, .int .i64 c.born, .int .i64 c.zone, .bool c.cit, .bool c.conv, .bool c.flu, .int .i64 c.job], .int .i64 l] w fun e w' => ∃ q : Int, e = .returned (.int .i64 q) ∧ q ≤ l ∧ Below w.heap.size w w' := by
  have hB : Below w.heap.size w (w.alloc (.cells #[.int .i64 c.num, .string c.first, .string c.last, .int .i64 c.born, .int .i64 c.zone, .bool c.cit, .bool c.conv, .bool c.flu, .int .i64 c.job] 36)) := (Below.refl _ _).alloc (Nat.le_refl _) _
  go_enter Try.func15, Try.ntmps15
  go_wp2_with fail
  generalize (w.alloc (.cells #[.int .i64 c.num, .string c.first, .string c.last, .int .i64 c.born, .int .i64 c.zone, .bool c.cit, .bool c.conv, .bool c.flu, .int .i64 c.job] 36)) = w1 at *
  refine (szPerson_u c l w1 hc hl hl1).mono ?_
  rintro e w2 ⟨q, rfl, hq, hb2⟩
  have hB2 := hB.trans (hb2.mono hB.size)
  by_cases q0 : q < 0
  · go_wp2_with fail
    go_ret
    exact ⟨-1, rfl, by omega, hB2⟩
  · go_wp2_with fail
    go_ret
    exact ⟨q, rfl, hq, hB2⟩

set_option maxRecDepth 100000 in
set_option maxHeartbeats 2000000 in
theorem eqRules_same (r : R5) (A B C D : Option Addr) (a b c d : Nat) (w : World) (l1 l2 l3 l4 : Nat) (h1 : SlI w l1 w.heap.size (.slice A r.zones.length a) r.zones) (h2 : SlI w l2 w.heap.size (.slice B r.jobs.length b) r.jobs) (h3 : SlI w l3 w.heap.size (.slice C r.zones.length c) r.zones) (h4 : SlI w l4 w.heap.size (.slice D r.jobs.length d) r.jobs) :
    Calls Try.prog 20 #[.agg #[.int .i64 r.yr, .int .i64 r.lo, .int .i64 r.hi, .slice A r.zones.length a, .slice B r.jobs.length b], .agg #[.int .i64 r.yr, .int .i64 r.lo, .int .i64 r.hi, .slice C r.zones.length c, .slice D r.jobs.length d]] w fun e w' => e = .returned (.bool true) ∧ Below w.heap.size w w' := by
  have b1 : Blk ((w.alloc (.cells #[.int .i64 r.yr, .int .i64 r.lo, .int .i64 r.hi, .slice A r.zones.length a, .slice B r.jobs.length b] 41)).alloc (.cells #[.int .i64 r.yr, .int .i64 r.lo, .int .i64 r.hi, .slice C r.zones.length c, .slice D r.jobs.length d] 41)) w.heap.size _ _ := (Blk.new w _ _).alloc _
  have b2 : Blk ((w.alloc (.cells #[.int .i64 r.yr, .int .i64 r.lo, .int .i64 r.hi, .slice A r.zones.length a, .slice B r.jobs.length b] 41)).alloc (.cells #[.int .i64 r.yr, .int .i64 r.lo, .int .i64 r.hi, .slice C r.zones.length c, .slice D r.jobs.length d] 41)) (w.heap.size + 1) _ _ := Blk.new' (by simp)
  have hB : Below w.heap.size w ((w.alloc (.cells #[.int .i64 r.yr, .int .i64 r.lo, .int .i64 r.hi, .slice A r.zones.length a, .slice B r.jobs.length b] 41)).alloc (.cells #[.int .i64 r.yr, .int .i64 r.lo, .int .i64 r.hi, .slice C r.zones.length c, .slice D r.jobs.length d] 41)) := ((Below.refl _ _).alloc (Nat.le_refl _) _).alloc (by simp) _
  go_enter Try.func20, Try.ntmps20
  go_wp2_with fail
  generalize ((w.alloc (.cells #[.int .i64 r.yr, .int .i64 r.lo, .int .i64 r.hi, .slice A r.zones.length a, .slice B r.jobs.length b] 41)).alloc (.cells #[.int .i64 r.yr, .int .i64 r.lo, .int .i64 r.hi, .slice C r.zones.length c, .slice D r.jobs.length d] 41)) = w1 at *
  refine (eqInt64S_any _ _ r.zones r.zones w1 _ _ (h1.bel hB) (h3.bel hB)).mono ?_
  rintro e w2 ⟨rfl, hb2⟩
  have hB2 := hB.trans (hb2.mono hB.size)
  have d1 : decide (r.zones = r.zones) = true := by simp
  rw [d1]
  replace b1 := b1.below' hb2
  replace b2 := b2.below' hb2
  have c4 := b1.cell 4
  have e4 := b2.cell 4
  obtain ⟨_, _, _, _, c4⟩ := r5_cells b1
  obtain ⟨_, _, _, _, e4⟩ := r5_cells b2
  clear d1
  go_wp2_with fail
  refine (eqInt64S_any _ _ r.jobs r.jobs w2 _ _ (h2.bel hB2) (h4.bel hB2)).mono ?_
  rintro e w3 ⟨rfl, hb3⟩
  have d2 : decide (r.jobs = r.jobs) = true := by simp
  rw [d2]
  clear d2
  go_wp2_with fail
  go_ret
  exact ⟨rfl, hB2.trans (hb3.mono hB2.size)⟩

theorem cells_lawsRules : Try.prog.cellsOf 32 = 5 := by kernel_rfl
theorem cells_lawsCandidate : Try.prog.cellsOf 36 = 9 := by kernel_rfl
theorem cells_lawsPerson : Try.prog.cellsOf 34 = 5 := by kernel_rfl
theorem cells_str : Try.prog.cellsOf 9 = 1 := by kernel_rfl
theorem cells_bool : Try.prog.cellsOf 4 = 1 := by kernel_rfl
set_option maxRecDepth 100000 in
theorem open_RulesV {H : Type} {enc : TypeId × Value → H} {w : World} {base : Nat} {v : Value} {d : DataW H} {p : List MemPlace} (hv : Value.okWide Try.prog w .any base 32 v) (h : DataW.Trod enc Try.prog w 0 (fun _ => true) true 32 v d p) :
    ∃ (r : R5) (A B : Option Addr) (a b : Nat), v = .agg #[.int .i64 r.yr, .int .i64 r.lo, .int .i64 r.hi, .slice A r.zones.length a, .slice B r.jobs.length b] ∧ SlI w 0 w.heap.size (.slice A r.zones.length a) r.zones ∧ SlI w 0 w.heap.size (.slice B r.jobs.length b) r.jobs := by
  obtain ⟨cs, rfl, hsz⟩ := okWide_struct Try.underlying32 hv
  rw [cells_lawsRules] at hsz
  obtain ⟨fuel, hf⟩ := h
  obtain ⟨a0, e0, _⟩ := field_i64 Try.underlying32 hf 0 0 2 rfl rfl rfl Try.underlying2 cells_i64 (by simp [Value.cells, hsz])
  obtain ⟨a1, e1, _⟩ := field_i64 Try.underlying32 hf 1 1 2 rfl rfl rfl Try.underlying2 cells_i64 (by simp [Value.cells, hsz])
  obtain ⟨a2, e2, _⟩ := field_i64 Try.underlying32 hf 2 2 2 rfl rfl rfl Try.underlying2 cells_i64 (by simp [Value.cells, hsz])
  obtain ⟨m3, z3, v3, e3, g3⟩ := open_field Try.underlying32 hf 3 3 22 rfl rfl rfl cells_slI (by simp [Value.cells, hsz])
  obtain ⟨m4, z4, v4, e4, g4⟩ := open_field Try.underlying32 hf 4 4 22 rfl rfl rfl cells_slI (by simp [Value.cells, hsz])
  obtain ⟨n, hn, _⟩ := open_slI Try.underlying22 Try.underlying2 cells_i64 g3
  obtain ⟨d, hd, _⟩ := open_slI Try.underlying22 Try.underlying2 cells_i64 g4
  obtain ⟨A, a, rfl, _, _⟩ := hn.form
  obtain ⟨B, b, rfl, _, _⟩ := hd.form
  refine ⟨⟨a0, a1, a2, n, d⟩, A, B, a, b, ?_, hn, hd⟩
  obtain ⟨l⟩ := cs
  match l, hsz with
  | [x0, x1, x2, x3, x4], _ =>
    simp [Value.cells] at e0 e1 e2 e3 e4
    subst e0 e1 e2 e3 e4
    rfl
theorem field_str {H : Type} {enc : TypeId × Value → H} {w : World} {spare : Nat → Bool} {held : Bool} {t : TypeId} {fs : Array Field} {n : Nat} {cs : List Value} {y : DataW H × List MemPlace} (ht : Try.prog.underlying t = some (.struct fs)) (h : DataW.trod enc Try.prog w 0 spare held n t cs = some y)
    (i off : Nat) {f : Field} (hf : fs[i]? = some f) (ho : f.offset = off) (hty : f.type = 9) (hl : off < cs.length) : ∃ a : ByteArray, cs[off]? = some (.string a) ∧ a.size ≤ maxLen := by
  obtain ⟨m, z, v, hv, g⟩ := open_field ht h i off 9 hf ho hty cells_str hl
  obtain ⟨a, e, _, hw⟩ := DataW.trod_string Try.underlying9 g
  simp at e; subst e
  exact ⟨a, hv, hw⟩
theorem field_bool {H : Type} {enc : TypeId × Value → H} {w : World} {spare : Nat → Bool} {held : Bool} {t : TypeId} {fs : Array Field} {n : Nat} {cs : List Value} {y : DataW H × List MemPlace} (ht : Try.prog.underlying t = some (.struct fs)) (h : DataW.trod enc Try.prog w 0 spare held n t cs = some y)
    (i off : Nat) {f : Field} (hf : fs[i]? = some f) (ho : f.offset = off) (hty : f.type = 4) (hl : off < cs.length) : ∃ a : Bool, cs[off]? = some (.bool a) := by
  obtain ⟨m, z, v, hv, g⟩ := open_field ht h i off 4 hf ho hty cells_bool hl
  obtain ⟨a, e, _⟩ := DataW.trod_bool Try.underlying4 g
  simp at e; subst e
  exact ⟨a, hv⟩
/-- A struct: a field that is a struct itself, its first cells. -/
theorem open_first {H : Type} {enc : TypeId × Value → H} {w : World} {spare : Nat → Bool} {held : Bool} {t : TypeId} {fs : Array Field} {n : Nat} {cs : List Value} {y : DataW H × List MemPlace} (ht : Try.prog.underlying t = some (.struct fs)) (h : DataW.trod enc Try.prog w 0 spare held n t cs = some y)
    (ty : TypeId) {f : Field} (hf : fs[0]? = some f) (ho : f.offset = 0) (hty : f.type = ty) : ∃ m z, DataW.trod enc Try.prog w 0 spare held m ty (cs.take (Try.prog.cellsOf ty)) = some z := by
  obtain ⟨xs, m, _, _, h3, h4, h5⟩ := DataW.trod_struct ht h
  have hi : 0 < xs.length := by rw [h4]; exact (Array.getElem?_eq_some_iff.1 hf).1
  have := h5 0 f hf
  rw [hty, ho, List.getElem?_eq_getElem hi] at this
  exact ⟨m, xs[0], by simpa using this⟩
set_option maxRecDepth 100000 in
theorem open_K9 {H : Type} {enc : TypeId × Value → H} {w : World} {spare : Nat → Bool} {held : Bool} {n : Nat} {cs : List Value} {y : DataW H × List MemPlace} (h : DataW.trod enc Try.prog w 0 spare held n 36 cs = some y) :
    ∃ a : K9, cs = a.vals ∧ a.small := by
  have hl := struct_len Try.underlying36 h
  rw [cells_lawsCandidate] at hl
  obtain ⟨m, z, hp⟩ := open_first Try.underlying36 h 34 rfl rfl rfl
  rw [cells_lawsPerson] at hp
  have hl5 : (cs.take 5).length = 5 := by rw [List.length_take]; omega
  obtain ⟨a0, e0, _⟩ := field_i64 Try.underlying34 hp 0 0 2 rfl rfl rfl Try.underlying2 cells_i64 (by omega)
  obtain ⟨a1, e1, s1⟩ := field_str Try.underlying34 hp 1 1 rfl rfl rfl (by omega)
  obtain ⟨a2, e2, s2⟩ := field_str Try.underlying34 hp 2 2 rfl rfl rfl (by omega)
  obtain ⟨a3, e3, _⟩ := field_i64 Try.underlying34 hp 3 3 2 rfl rfl rfl Try.underlying2 cells_i64 (by omega)
  obtain ⟨a4, e4, _⟩ := field_i64 Try.underlying34 hp 4 4 2 rfl rfl rfl Try.underlying2 cells_i64 (by omega)
  obtain ⟨a5, e5⟩ := field_bool Try.underlying36 h 1 5 rfl rfl rfl (by omega)
  obtain ⟨a6, e6⟩ := field_bool Try.underlying36 h 2 6 rfl rfl rfl (by omega)
  obtain ⟨a7, e7⟩ := field_bool Try.underlying36 h 3 7 rfl rfl rfl (by omega)
  obtain ⟨a8, e8, _⟩ := field_i64 Try.underlying36 h 4 8 2 rfl rfl rfl Try.underlying2 cells_i64 (by omega)
  clear hp h
  match cs, hl with
  | [x0, x1, x2, x3, x4, x5, x6, x7, x8], _ =>
    simp at e0 e1 e2 e3 e4 e5 e6 e7 e8
    subst e0 e1 e2 e3 e4 e5 e6 e7 e8
    exact ⟨⟨a0, a1, a2, a3, a4, a5, a6, a7, a8⟩, rfl, s1, s2⟩
set_option maxRecDepth 100000 in
theorem open_CandidateV {H : Type} {enc : TypeId × Value → H} {w : World} {base : Nat} {v : Value} {d : DataW H} {p : List MemPlace} (hv : Value.okWide Try.prog w .any base 36 v) (h : DataW.Trod enc Try.prog w 0 (fun _ => true) true 36 v d p) :
    ∃ c : K9, v = .agg #[.int .i64 c.num, .string c.first, .string c.last, .int .i64 c.born, .int .i64 c.zone, .bool c.cit, .bool c.conv, .bool c.flu, .int .i64 c.job] ∧ c.small := by
  obtain ⟨cs, rfl, hsz⟩ := okWide_struct Try.underlying36 hv
  obtain ⟨fuel, hf⟩ := h
  obtain ⟨a, e, hs⟩ := open_K9 hf
  refine ⟨a, ?_, hs⟩
  obtain ⟨l⟩ := cs
  have e2 : l = a.vals := by simpa [Value.cells] using e
  rw [e2]; rfl
set_option maxRecDepth 100000 in
theorem open_CandidateS {H : Type} {enc : TypeId × Value → H} {w : World} {base : Nat} {v : Value} {d : DataW H} {p : List MemPlace} (hv : Value.okWide Try.prog w .any base 51 v) (h : DataW.Trod enc Try.prog w 0 (fun _ => true) true 51 v d p) :
    ∃ cs : List K9, SlR K9.vals 9 w 0 w.heap.size v cs ∧ ∀ c ∈ cs, c.small := by
  obtain ⟨A, n, c, rfl⟩ := okWide_slice Try.underlying51 hv
  obtain ⟨fuel, hf⟩ := h
  exact open_slR (f := K9.vals) (s := 9) (fun _ => rfl) (by decide) (G := K9.small) Try.underlying51 cells_lawsCandidate hf fun _ _ _ hy => open_K9 hy
end Go.Proofs.Ytkhojhgcopnenaa
