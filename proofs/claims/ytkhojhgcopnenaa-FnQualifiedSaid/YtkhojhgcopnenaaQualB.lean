/- Rules; the reasons against a candidate: the program's and the reference's answer the same function. No condition but the sizes that the law itself asks. -/
import Derived.Test.YtkhojhgcopnenaaQualA
import Derived.Deep.RegionHeld3
namespace Go.Proofs.Ytkhojhgcopnenaa
open Go.RowKit
attribute [local go_sem ↓] Go.wp_at_zero Go.wp_at_succ

theorem r9_cells {W : World} {T : Nat} {ty : TypeId} {a b c d e f g h i : Value} (x : Blk W T ty #[a, b, c, d, e, f, g, h, i]) : W.cell? ⟨T, 0, none⟩ = some a ∧ W.cell? ⟨T, 1, none⟩ = some b ∧ W.cell? ⟨T, 2, none⟩ = some c ∧ W.cell? ⟨T, 3, none⟩ = some d ∧ W.cell? ⟨T, 4, none⟩ = some e ∧ W.cell? ⟨T, 5, none⟩ = some f ∧ W.cell? ⟨T, 6, none⟩ = some g ∧ W.cell? ⟨T, 7, none⟩ = some h ∧ W.cell? ⟨T, 8, none⟩ = some i := ⟨x.cell 0, x.cell 1, x.cell 2, x.cell 3, x.cell 4, x.cell 5, x.cell 6, x.cell 7, x.cell 8⟩
theorem r5_cells {W : World} {T : Nat} {ty : TypeId} {x y z u t : Value} (b : Blk W T ty #[x, y, z, u, t]) : W.cell? ⟨T, 0, none⟩ = some x ∧ W.cell? ⟨T, 1, none⟩ = some y ∧ W.cell? ⟨T, 2, none⟩ = some z ∧ W.cell? ⟨T, 3, none⟩ = some u ∧ W.cell? ⟨T, 4, none⟩ = some t := ⟨b.cell 0, b.cell 1, b.cell 2, b.cell 3, b.cell 4⟩
theorem SlR.bel {α : Type} {f : α → List Value} {s lo : Nat} {w w' : World} {v : Value} {xs : List α} (h : SlR f s w lo w.heap.size v xs) (hb : Below w.heap.size w w') : SlR f s w' lo w'.heap.size v xs :=
  (h.below hb (Nat.le_refl _)).more (Nat.le_refl _) hb.size

set_option maxHeartbeats 2000000 in
theorem implAreRules_any (r : R5) (vz vj : Value) (w : World) (lo lo' : Nat) (hz : SlI w lo w.heap.size vz r.zones) (hj : SlI w lo' w.heap.size vj r.jobs) :
    Calls Try.prog 45 #[.agg #[.int .i64 r.yr, .int .i64 r.lo, .int .i64 r.hi, vz, vj]] w fun e w' => e = .returned (.bool r.ok) ∧ Below w.heap.size w w' := by
  obtain ⟨A, c, rfl, _, _⟩ := hz.form
  obtain ⟨B, d, rfl, _, _⟩ := hj.form
  go_enter Try.func45, Try.ntmps45
  go_wp2_with fail
  have bR := Blk.new w 41 #[.int .i64 r.yr, .int .i64 r.lo, .int .i64 r.hi, .slice A r.zones.length c, .slice B r.jobs.length d]
  have hB : Below w.heap.size w (w.alloc (.cells #[.int .i64 r.yr, .int .i64 r.lo, .int .i64 r.hi, .slice A r.zones.length c, .slice B r.jobs.length d] 41)) := (Below.refl _ _).alloc (Nat.le_refl _) _
  generalize (w.alloc (.cells #[.int .i64 r.yr, .int .i64 r.lo, .int .i64 r.hi, .slice A r.zones.length c, .slice B r.jobs.length d] 41)) = w1 at *
  replace hz := hz.bel hB
  replace hj := hj.bel hB
  obtain ⟨d0, d1, d2, d3, d4⟩ := r5_cells bR
  go_wp2_with (first
    | (go_at_call 73; refine (within_any _ _ _ _).mono ?_; rintro e w' ⟨rfl, rfl⟩)
    | (go_at_call 57; refine (few_any _ _ _).mono ?_; rintro e w' ⟨rfl, rfl⟩)
    | (go_at_call 76; (with_reducible refine (increasing_any _ r.zones _ _ _ _ _ hz).mono ?_); rintro e w' ⟨rfl, rfl⟩)
    | (go_at_call 76; (with_reducible refine (increasing_any _ r.jobs _ _ _ _ _ hj).mono ?_); rintro e w' ⟨rfl, rfl⟩))
  all_goals go_ret
  all_goals exact ⟨ret_bool (by clear d0 d1 d2 d3 d4; first | (simp_all [R5.ok, inB]; done) | (simp_all [R5.ok, inB]; omega)), hB⟩

set_option maxHeartbeats 2000000 in
theorem specAreRules_any (r : R5) (vz vj : Value) (w : World) (lo lo' : Nat) (hz : SlI w lo w.heap.size vz r.zones) (hj : SlI w lo' w.heap.size vj r.jobs) :
    Calls Try.prog 46 #[.agg #[.int .i64 r.yr, .int .i64 r.lo, .int .i64 r.hi, vz, vj]] w fun e w' => e = .returned (.bool r.ok) ∧ Below w.heap.size w w' := by
  obtain ⟨A, c, rfl, _, _⟩ := hz.form
  obtain ⟨B, d, rfl, _, _⟩ := hj.form
  go_enter Try.func46, Try.ntmps46
  go_wp2_with fail
  have bR := Blk.new w 41 #[.int .i64 r.yr, .int .i64 r.lo, .int .i64 r.hi, .slice A r.zones.length c, .slice B r.jobs.length d]
  have hB : Below w.heap.size w (w.alloc (.cells #[.int .i64 r.yr, .int .i64 r.lo, .int .i64 r.hi, .slice A r.zones.length c, .slice B r.jobs.length d] 41)) := (Below.refl _ _).alloc (Nat.le_refl _) _
  generalize (w.alloc (.cells #[.int .i64 r.yr, .int .i64 r.lo, .int .i64 r.hi, .slice A r.zones.length c, .slice B r.jobs.length d] 41)) = w1 at *
  replace hz := hz.bel hB
  replace hj := hj.bel hB
  obtain ⟨d0, d1, d2, d3, d4⟩ := r5_cells bR
  by_cases hpre : (inB r.yr 1900 2200 && inB r.lo 0 150 && inB r.hi r.lo 150 && decide (r.zones.length ≤ 20) && decide (r.jobs.length ≤ 20)) = true
  · have hok : r.ok = (incGo 0 99 none r.zones && incGo 0 20 none r.jobs) := by rw [R5.ok, hpre]; simp
    have HOK := Lib.hid hok
    simp only [Bool.and_eq_true, decide_eq_true_eq] at hpre
    obtain ⟨⟨⟨⟨p0, p1⟩, p2⟩, p3⟩, p4⟩ := hpre
    have p3' : (r.zones.length : Int) ≤ 20 := by omega
    have p4' : (r.jobs.length : Int) ≤ 20 := by omega
    clear hok
    refine (l01In_as p0 _).mono ?_
    rintro e w' ⟨rfl, rfl⟩
    go_wp2_with fail
    refine (l01In_as p1 _).mono ?_
    rintro e w' ⟨rfl, rfl⟩
    go_wp2_with fail
    refine (l01In_as p2 _).mono ?_
    rintro e w' ⟨rfl, rfl⟩
    go_wp2_with fail
    refine (l01Rises_any _ r.zones 100 _ _ hz (by omega)).mono ?_
    rintro e w2 ⟨rfl, hb2⟩
    have bR2 := bR.below' hb2
    have hB2 := hB.trans (hb2.mono hB.size)
    clear d0 d1 d2 d3 d4
    obtain ⟨d0, d1, d2, d3, d4⟩ := r5_cells bR2
    cases hz1 : incGo 0 (100 - 1) none r.zones
    · have e : r.ok = false := by rw [HOK.out]; rw [show (99 : Int) = 100 - 1 from rfl, hz1]; rfl
      have E := Lib.hid e
      clear e
      go_wp2_with fail
      go_ret
      exact ⟨by rw [E.out]; rfl, hB2⟩
    · have e : r.ok = incGo 0 (21 - 1) none r.jobs := by rw [HOK.out]; rw [show (99 : Int) = 100 - 1 from rfl, hz1]; rfl
      have E := Lib.hid e
      clear e
      go_wp2_with fail
      refine (l01Rises_any _ r.jobs 21 _ _ (hj.bel hb2) (by omega)).mono ?_
      rintro e w3 ⟨rfl, hb3⟩
      go_wp2_with fail
      go_ret
      exact ⟨by rw [E.out]; rfl, hB2.trans (hb3.mono hB2.size)⟩
  · have e : r.ok = false := by
      cases h : r.ok
      · rfl
      · exfalso; apply hpre; simp only [R5.ok, Bool.and_eq_true] at h; simp only [Bool.and_eq_true]; exact ⟨⟨⟨⟨h.1.1.1.1.1.1, h.1.1.1.1.1.2⟩, h.1.1.1.1.2⟩, h.1.1.1.2⟩, h.1.1.2⟩
    have E := Lib.hid e
    clear e
    have HP := Lib.hid hpre
    clear hpre
    cases p0 : inB r.yr 1900 2200
    · refine (l01In_as p0 _).mono ?_
      rintro e w' ⟨rfl, rfl⟩
      go_wp2_with fail
      go_ret
      exact ⟨by rw [E.out]; rfl, hB⟩
    refine (l01In_as p0 _).mono ?_
    rintro e w' ⟨rfl, rfl⟩
    go_wp2_with fail
    cases p1 : inB r.lo 0 150
    · refine (l01In_as p1 _).mono ?_
      rintro e w' ⟨rfl, rfl⟩
      go_wp2_with fail
      go_ret
      exact ⟨by rw [E.out]; rfl, hB⟩
    refine (l01In_as p1 _).mono ?_
    rintro e w' ⟨rfl, rfl⟩
    go_wp2_with fail
    cases p2 : inB r.hi r.lo 150
    · refine (l01In_as p2 _).mono ?_
      rintro e w' ⟨rfl, rfl⟩
      go_wp2_with fail
      go_ret
      exact ⟨by rw [E.out]; rfl, hB⟩
    refine (l01In_as p2 _).mono ?_
    rintro e w' ⟨rfl, rfl⟩
    by_cases p3 : (r.zones.length : Int) ≤ 20
    · have p4 : ¬ (r.jobs.length : Int) ≤ 20 := by
        intro p4
        have q3 : decide (r.zones.length ≤ 20) = true := by simp; omega
        have q4 : decide (r.jobs.length ≤ 20) = true := by simp; omega
        exact HP.out (by rw [p0, p1, p2, q3, q4]; rfl)
      go_wp2_with fail
      go_ret
      exact ⟨by rw [E.out]; rfl, hB⟩
    · go_wp2_with fail
      go_ret
      exact ⟨by rw [E.out]; rfl, hB⟩

def bv (b : Bool) (n : Int) : Int := if b then n else 0
def bits (b0 b1 b2 b3 b4 b5 b6 : Bool) : Nat → Int
  | 0 => 0
  | 1 => bv b0 1
  | 2 => bv b0 1 + bv b1 2
  | 3 => bv b0 1 + bv b1 2 + bv b2 4
  | 4 => bv b0 1 + bv b1 2 + bv b2 4 + bv b3 8
  | 5 => bv b0 1 + bv b1 2 + bv b2 4 + bv b3 8 + bv b4 16
  | 6 => bv b0 1 + bv b1 2 + bv b2 4 + bv b3 8 + bv b4 16 + bv b5 32
  | _ => bv b0 1 + bv b1 2 + bv b2 4 + bv b3 8 + bv b4 16 + bv b5 32 + bv b6 64
def R5.against (r : R5) (c : K9) : Int := bits (decide (r.yr - c.born < r.lo)) (decide (r.hi < r.yr - c.born)) (!hasB c.zone r.zones) (!c.cit) c.conv (!c.flu) (hasB c.job r.jobs) 7
theorem bv_b (b : Bool) (n : Int) (h : 0 ≤ n) : 0 ≤ bv b n ∧ bv b n ≤ n := by cases b <;> simp [bv] <;> omega

theorem bits_b (b0 b1 b2 b3 b4 b5 b6 : Bool) (k : Nat) (hk : k ≤ 7) : 0 ≤ bits b0 b1 b2 b3 b4 b5 b6 k ∧ bits b0 b1 b2 b3 b4 b5 b6 k ≤ 127 := by
  have a0 := bv_b b0 1 (by omega)
  have a1 := bv_b b1 2 (by omega)
  have a2 := bv_b b2 4 (by omega)
  have a3 := bv_b b3 8 (by omega)
  have a4 := bv_b b4 16 (by omega)
  have a5 := bv_b b5 32 (by omega)
  have a6 := bv_b b6 64 (by omega)
  rcases (by omega : k = 0 ∨ k = 1 ∨ k = 2 ∨ k = 3 ∨ k = 4 ∨ k = 5 ∨ k = 6 ∨ k = 7) with rfl | rfl | rfl | rfl | rfl | rfl | rfl | rfl <;> simp only [bits] <;> omega

set_option maxRecDepth 100000 in
set_option maxHeartbeats 4000000 in
theorem implReasons_any (r : R5) (c : K9) (vz vj : Value) (w : World) (lo lo' : Nat) (hz : SlI w lo w.heap.size vz r.zones) (hj : SlI w lo' w.heap.size vj r.jobs) (hr : 0 ≤ r.yr ∧ r.yr ≤ 3000) (hb : 0 ≤ c.born ∧ c.born ≤ 3000) :
    Calls Try.prog 63 #[.agg #[.int .i64 r.yr, .int .i64 r.lo, .int .i64 r.hi, vz, vj], .agg #[.int .i64 c.num, .string c.first, .string c.last, .int .i64 c.born, .int .i64 c.zone, .bool c.cit, .bool c.conv, .bool c.flu, .int .i64 c.job]] w fun e w' => e = .returned (.int .i64 (r.against c)) ∧ Below w.heap.size w w' := by
  obtain ⟨A, k, rfl, _, _⟩ := hz.form
  obtain ⟨B, d, rfl, _, _⟩ := hj.form
  have HF := Lib.hid (show r.against c = _ from rfl)
  obtain ⟨b0, h0⟩ : ∃ b, decide (r.yr - c.born < r.lo) = b := ⟨_, rfl⟩
  obtain ⟨b1, h1⟩ : ∃ b, decide (r.hi < r.yr - c.born) = b := ⟨_, rfl⟩
  obtain ⟨z2, h2⟩ : ∃ b, hasB c.zone r.zones = b := ⟨_, rfl⟩
  obtain ⟨b6, h6⟩ : ∃ b, hasB c.job r.jobs = b := ⟨_, rfl⟩
  obtain ⟨b2, g2⟩ : ∃ b, (!z2) = b := ⟨_, rfl⟩
  obtain ⟨b3, g3⟩ : ∃ b, (!c.cit) = b := ⟨_, rfl⟩
  obtain ⟨b5, g5⟩ : ∃ b, (!c.flu) = b := ⟨_, rfl⟩
  rw [R5.against, h0, h1, h2, h6, g2, g3, g5]
  have Z2 := Lib.hid h2
  have H6 := Lib.hid h6
  clear h2 h6 HF
  have bR : Blk ((w.alloc (.cells #[.int .i64 r.yr, .int .i64 r.lo, .int .i64 r.hi, .slice A r.zones.length k, .slice B r.jobs.length d] 41)).alloc (.cells #[.int .i64 c.num, .string c.first, .string c.last, .int .i64 c.born, .int .i64 c.zone, .bool c.cit, .bool c.conv, .bool c.flu, .int .i64 c.job] 45)) w.heap.size _ _ := (Blk.new w _ _).alloc _
  have bC : Blk ((w.alloc (.cells #[.int .i64 r.yr, .int .i64 r.lo, .int .i64 r.hi, .slice A r.zones.length k, .slice B r.jobs.length d] 41)).alloc (.cells #[.int .i64 c.num, .string c.first, .string c.last, .int .i64 c.born, .int .i64 c.zone, .bool c.cit, .bool c.conv, .bool c.flu, .int .i64 c.job] 45)) (w.heap.size + 1) _ _ := Blk.new' (by simp)
  have hB : Below w.heap.size w ((w.alloc (.cells #[.int .i64 r.yr, .int .i64 r.lo, .int .i64 r.hi, .slice A r.zones.length k, .slice B r.jobs.length d] 41)).alloc (.cells #[.int .i64 c.num, .string c.first, .string c.last, .int .i64 c.born, .int .i64 c.zone, .bool c.cit, .bool c.conv, .bool c.flu, .int .i64 c.job] 45)) := ((Below.refl _ _).alloc (Nat.le_refl _) _).alloc (by simp) _
  go_enter Try.func63, Try.ntmps63
  go_wp2_with fail
  generalize ((w.alloc (.cells #[.int .i64 r.yr, .int .i64 r.lo, .int .i64 r.hi, .slice A r.zones.length k, .slice B r.jobs.length d] 41)).alloc (.cells #[.int .i64 c.num, .string c.first, .string c.last, .int .i64 c.born, .int .i64 c.zone, .bool c.cit, .bool c.conv, .bool c.flu, .int .i64 c.job] 45)) = w1 at *
  replace hz := hz.bel hB
  replace hj := hj.bel hB
  have lC := bC.lt
  have lR := bR.lt
  obtain ⟨d0, d1, d2, d3, d4⟩ := r5_cells bR
  obtain ⟨e0, e1, e2, e3, e4, e5, e6, e7, e8⟩ := r9_cells bC
  clear d0 e0 e1 e2 e3
  refine wp_region_ext (by kernel_rfl) (by kernel_rfl) ?_
  repeat (go_big_quiet_step (first
    | (go_at_call 55; with_reducible exact calls_ext_same (has_as Z2.out (SlR.ext hz (Nat.le_refl _) _)))
    | (go_at_call 55; with_reducible exact calls_ext_same (has_as H6.out (SlR.ext hj (Nat.le_refl _) _)))))
  refine wpQuiet_nil ?_
  intro w2 hb2
  have hB2 := hB.trans (hb2.mono hB.size)
  clear d1 d2 d3 d4 e4 e5 e6 e7 e8
  clear h0 h1 g2 g3 g5
  obtain ⟨c0, c1, c2, c3, c4, cit, conv, flu, job⟩ := c
  dsimp only at *
  go_wp2_with fail
  have i0 : ∀ w : World, (Instr.index 103 (.agg #[.bool b0, .bool b1, .bool b2, .bool b3, .bool conv, .bool b5, .bool b6]) (.int .i64 0)).run Try.prog w = .ok (.bool b0) w := fun _ => by kernel_rfl
  have i1 : ∀ w : World, (Instr.index 103 (.agg #[.bool b0, .bool b1, .bool b2, .bool b3, .bool conv, .bool b5, .bool b6]) (.int .i64 1)).run Try.prog w = .ok (.bool b1) w := fun _ => by kernel_rfl
  have i2 : ∀ w : World, (Instr.index 103 (.agg #[.bool b0, .bool b1, .bool b2, .bool b3, .bool conv, .bool b5, .bool b6]) (.int .i64 2)).run Try.prog w = .ok (.bool b2) w := fun _ => by kernel_rfl
  have i3 : ∀ w : World, (Instr.index 103 (.agg #[.bool b0, .bool b1, .bool b2, .bool b3, .bool conv, .bool b5, .bool b6]) (.int .i64 3)).run Try.prog w = .ok (.bool b3) w := fun _ => by kernel_rfl
  have i4 : ∀ w : World, (Instr.index 103 (.agg #[.bool b0, .bool b1, .bool b2, .bool b3, .bool conv, .bool b5, .bool b6]) (.int .i64 4)).run Try.prog w = .ok (.bool conv) w := fun _ => by kernel_rfl
  have i5 : ∀ w : World, (Instr.index 103 (.agg #[.bool b0, .bool b1, .bool b2, .bool b3, .bool conv, .bool b5, .bool b6]) (.int .i64 5)).run Try.prog w = .ok (.bool b5) w := fun _ => by kernel_rfl
  have i6 : ∀ w : World, (Instr.index 103 (.agg #[.bool b0, .bool b1, .bool b2, .bool b3, .bool conv, .bool b5, .bool b6]) (.int .i64 6)).run Try.prog w = .ok (.bool b6) w := fun _ => by kernel_rfl
  go_loop [6, 44] (fun t i => ∃ (k : Nat) (q s : Int), k ≤ 7 ∧ q = (k : Int) ∧ s = bits b0 b1 b2 b3 conv b5 b6 k ∧ i = .int .i64 q ∧ t = .int .i64 s) (fun _ i => 7 - (intOf i).toNat)
  case atStart => exact ⟨0, 0, 0, by omega, rfl, rfl, rfl, rfl⟩
  case round =>
    obtain ⟨k, q, s, hk, hq, hs, rfl, rfl⟩ := hrel
    have hsb : 0 ≤ s ∧ s ≤ 127 := by rw [hs]; exact bits_b _ _ _ _ _ _ _ k hk
    rcases (by omega : k = 0 ∨ k = 1 ∨ k = 2 ∨ k = 3 ∨ k = 4 ∨ k = 5 ∨ k = 6 ∨ k = 7) with rfl | rfl | rfl | rfl | rfl | rfl | rfl | rfl
    · obtain rfl : q = 0 := hq
      have HS := Lib.hid hs
      clear hs
      cases b0
      · go_wp2_with fail
        go_round
        case rel => exact ⟨1, 1, _, by omega, rfl, by rw [HS.out]; simp [bits, bv], rfl, rfl⟩
        case measure => simp [intOf]
      · go_wp2_with fail
        go_round
        case rel => exact ⟨1, 1, _, by omega, rfl, by rw [HS.out]; simp [bits, bv], rfl, rfl⟩
        case measure => simp [intOf]
    · obtain rfl : q = 1 := hq
      have HS := Lib.hid hs
      clear hs
      cases b1
      · go_wp2_with fail
        go_round
        case rel => exact ⟨2, 2, _, by omega, rfl, by rw [HS.out]; simp [bits, bv], rfl, rfl⟩
        case measure => simp [intOf]
      · go_wp2_with fail
        go_round
        case rel => exact ⟨2, 2, _, by omega, rfl, by rw [HS.out]; simp [bits, bv], rfl, rfl⟩
        case measure => simp [intOf]
    · obtain rfl : q = 2 := hq
      have HS := Lib.hid hs
      clear hs
      cases b2
      · go_wp2_with fail
        go_round
        case rel => exact ⟨3, 3, _, by omega, rfl, by rw [HS.out]; simp [bits, bv], rfl, rfl⟩
        case measure => simp [intOf]
      · go_wp2_with fail
        go_round
        case rel => exact ⟨3, 3, _, by omega, rfl, by rw [HS.out]; simp [bits, bv], rfl, rfl⟩
        case measure => simp [intOf]
    · obtain rfl : q = 3 := hq
      have HS := Lib.hid hs
      clear hs
      cases b3
      · go_wp2_with fail
        go_round
        case rel => exact ⟨4, 4, _, by omega, rfl, by rw [HS.out]; simp [bits, bv], rfl, rfl⟩
        case measure => simp [intOf]
      · go_wp2_with fail
        go_round
        case rel => exact ⟨4, 4, _, by omega, rfl, by rw [HS.out]; simp [bits, bv], rfl, rfl⟩
        case measure => simp [intOf]
    · obtain rfl : q = 4 := hq
      have HS := Lib.hid hs
      clear hs
      cases conv
      · go_wp2_with fail
        go_round
        case rel => exact ⟨5, 5, _, by omega, rfl, by rw [HS.out]; simp [bits, bv], rfl, rfl⟩
        case measure => simp [intOf]
      · go_wp2_with fail
        go_round
        case rel => exact ⟨5, 5, _, by omega, rfl, by rw [HS.out]; simp [bits, bv], rfl, rfl⟩
        case measure => simp [intOf]
    · obtain rfl : q = 5 := hq
      have HS := Lib.hid hs
      clear hs
      cases b5
      · go_wp2_with fail
        go_round
        case rel => exact ⟨6, 6, _, by omega, rfl, by rw [HS.out]; simp [bits, bv], rfl, rfl⟩
        case measure => simp [intOf]
      · go_wp2_with fail
        go_round
        case rel => exact ⟨6, 6, _, by omega, rfl, by rw [HS.out]; simp [bits, bv], rfl, rfl⟩
        case measure => simp [intOf]
    · obtain rfl : q = 6 := hq
      have HS := Lib.hid hs
      clear hs
      cases b6
      · go_wp2_with fail
        go_round
        case rel => exact ⟨7, 7, _, by omega, rfl, by rw [HS.out]; simp [bits, bv], rfl, rfl⟩
        case measure => simp [intOf]
      · go_wp2_with fail
        go_round
        case rel => exact ⟨7, 7, _, by omega, rfl, by rw [HS.out]; simp [bits, bv], rfl, rfl⟩
        case measure => simp [intOf]
    · obtain rfl : q = 7 := hq
      have HS := Lib.hid hs
      clear hs
      go_wp2_with fail
      go_ret
      exact ⟨by rw [HS.out]; rfl, hB2⟩
end Go.Proofs.Ytkhojhgcopnenaa
