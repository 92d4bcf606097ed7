/- Whether somebody is qualified, and from which year on: the program's and the reference's answer the same function. No condition but the sizes that the law itself asks. -/
import Derived.Test.YtkhojhgcopnenaaQualD
namespace Go.Proofs.Ytkhojhgcopnenaa
open Go.RowKit
attribute [local go_sem ↓] Go.wp_at_zero Go.wp_at_succ

def againstF (r : R5) (c : K9) : Int × Int := if (r.ok && c.ok) = true then (r.against c, 0) else (0, 1)
set_option maxRecDepth 100000 in
set_option maxHeartbeats 4000000 in
theorem implReasonsAgainst_any (r : R5) (c : K9) (vz vj : Value) (w : World) (lo lo' : Nat) (hz : SlI w lo w.heap.size vz r.zones) (hj : SlI w lo' w.heap.size vj r.jobs) (hs : c.small) :
    Calls Try.prog 37 #[.agg #[.int .i64 r.yr, .int .i64 r.lo, .int .i64 r.hi, vz, vj], .agg #[.int .i64 c.num, .string c.first, .string c.last, .int .i64 c.born, .int .i64 c.zone, .bool c.cit, .bool c.conv, .bool c.flu, .int .i64 c.job]] w fun e w' => e = .returned (.tuple #[.int .i64 (againstF r c).1, .int .i64 (againstF r c).2]) ∧ Below w.heap.size w w' := by
  obtain ⟨A, ca, rfl, _, _⟩ := hz.form
  obtain ⟨B, d, rfl, _, _⟩ := hj.form
  have bR : Blk ((w.alloc (.cells #[.int .i64 r.yr, .int .i64 r.lo, .int .i64 r.hi, .slice A r.zones.length ca, .slice B r.jobs.length d] 41)).alloc (.cells #[.int .i64 c.num, .string c.first, .string c.last, .int .i64 c.born, .int .i64 c.zone, .bool c.cit, .bool c.conv, .bool c.flu, .int .i64 c.job] 45)) w.heap.size _ _ := (Blk.new w _ _).alloc _
  have bC : Blk ((w.alloc (.cells #[.int .i64 r.yr, .int .i64 r.lo, .int .i64 r.hi, .slice A r.zones.length ca, .slice B r.jobs.length d] 41)).alloc (.cells #[.int .i64 c.num, .string c.first, .string c.last, .int .i64 c.born, .int .i64 c.zone, .bool c.cit, .bool c.conv, .bool c.flu, .int .i64 c.job] 45)) (w.heap.size + 1) _ _ := Blk.new' (by simp)
  have hB : Below w.heap.size w ((w.alloc (.cells #[.int .i64 r.yr, .int .i64 r.lo, .int .i64 r.hi, .slice A r.zones.length ca, .slice B r.jobs.length d] 41)).alloc (.cells #[.int .i64 c.num, .string c.first, .string c.last, .int .i64 c.born, .int .i64 c.zone, .bool c.cit, .bool c.conv, .bool c.flu, .int .i64 c.job] 45)) := ((Below.refl _ _).alloc (Nat.le_refl _) _).alloc (by simp) _
  go_enter Try.func37, Try.ntmps37
  go_wp2_with fail
  generalize ((w.alloc (.cells #[.int .i64 r.yr, .int .i64 r.lo, .int .i64 r.hi, .slice A r.zones.length ca, .slice B r.jobs.length d] 41)).alloc (.cells #[.int .i64 c.num, .string c.first, .string c.last, .int .i64 c.born, .int .i64 c.zone, .bool c.cit, .bool c.conv, .bool c.flu, .int .i64 c.job] 45)) = w1 at *
  refine (implAreRules_any r _ _ w1 _ _ (hz.bel hB) (hj.bel hB)).mono ?_
  rintro e w2 ⟨rfl, hb2⟩
  have hB2 := hB.trans (hb2.mono hB.size)
  have bR := bR.below' hb2
  have bC := bC.below' hb2
  cases hr : r.ok
  · have e : againstF r c = (0, 1) := by simp [againstF, hr]
    have E := Lib.hid e
    clear e
    go_wp2_with fail
    go_ret2
    exact ⟨by rw [E.out]; rfl, hB2⟩
  · obtain ⟨e0, e1, e2, e3, e4, e5, e6, e7, e8⟩ := r9_cells bC
    go_wp2_with fail
    refine (implIsCandidate_any c w2 hs).mono ?_
    rintro e w3 ⟨rfl, hb3⟩
    have hB3 := hB2.trans (hb3.mono hB2.size)
    have bR := bR.below' hb3
    have bC := bC.below' hb3
    clear e0 e1 e2 e3 e4 e5 e6 e7 e8
    cases hc : c.ok
    · have e : againstF r c = (0, 1) := by simp [againstF, hc]
      have E := Lib.hid e
      clear e
      go_wp2_with fail
      go_ret2
      exact ⟨by rw [E.out]; rfl, hB3⟩
    · have e : againstF r c = (r.against c, 0) := by simp [againstF, hr, hc]
      have E := Lib.hid e
      clear e
      have hbd := ok_bounds hr hc
      obtain ⟨d0, d1, d2, d3, d4⟩ := r5_cells bR
      obtain ⟨e0, e1, e2, e3, e4, e5, e6, e7, e8⟩ := r9_cells bC
      go_wp2_with fail
      refine (implReasons_any r c _ _ w3 _ _ (hz.bel hB3) (hj.bel hB3) (by omega) (by omega)).mono ?_
      rintro e w4 ⟨rfl, hb4⟩
      clear d0 d1 d2 d3 d4 e0 e1 e2 e3 e4 e5 e6 e7 e8
      go_wp2_with fail
      go_ret2
      exact ⟨by rw [E.out]; rfl, hB3.trans (hb4.mono hB3.size)⟩
set_option maxRecDepth 100000 in
set_option maxHeartbeats 4000000 in
theorem implIsQualified_any (r : R5) (c : K9) (vz vj : Value) (w : World) (lo lo' : Nat) (hz : SlI w lo w.heap.size vz r.zones) (hj : SlI w lo' w.heap.size vj r.jobs) (hs : c.small) :
    Calls Try.prog 19 #[.agg #[.int .i64 r.yr, .int .i64 r.lo, .int .i64 r.hi, vz, vj], .agg #[.int .i64 c.num, .string c.first, .string c.last, .int .i64 c.born, .int .i64 c.zone, .bool c.cit, .bool c.conv, .bool c.flu, .int .i64 c.job]] w fun e w' => e = .returned (.tuple #[.bool (qualF r c).1, .int .i64 (qualF r c).2]) ∧ Below w.heap.size w w' := by
  obtain ⟨A, ca, rfl, _, _⟩ := hz.form
  obtain ⟨B, d, rfl, _, _⟩ := hj.form
  have hB : Below w.heap.size w ((w.alloc (.cells #[.int .i64 r.yr, .int .i64 r.lo, .int .i64 r.hi, .slice A r.zones.length ca, .slice B r.jobs.length d] 41)).alloc (.cells #[.int .i64 c.num, .string c.first, .string c.last, .int .i64 c.born, .int .i64 c.zone, .bool c.cit, .bool c.conv, .bool c.flu, .int .i64 c.job] 45)) := ((Below.refl _ _).alloc (Nat.le_refl _) _).alloc (by simp) _
  have HQ := Lib.hid (show (againstF r c = (r.against c, 0) ∧ qualF r c = (r.against c == 0, 0)) ∨ (againstF r c = (0, 1) ∧ qualF r c = (false, 1)) from by
    unfold againstF qualF
    cases (r.ok && c.ok)
    · exact .inr ⟨rfl, rfl⟩
    · exact .inl ⟨rfl, rfl⟩)
  go_enter Try.func19, Try.ntmps19
  go_wp2_with fail
  generalize ((w.alloc (.cells #[.int .i64 r.yr, .int .i64 r.lo, .int .i64 r.hi, .slice A r.zones.length ca, .slice B r.jobs.length d] 41)).alloc (.cells #[.int .i64 c.num, .string c.first, .string c.last, .int .i64 c.born, .int .i64 c.zone, .bool c.cit, .bool c.conv, .bool c.flu, .int .i64 c.job] 45)) = w1 at *
  refine (implReasonsAgainst_any r c _ _ w1 _ _ (hz.bel hB) (hj.bel hB) hs).mono ?_
  rintro e w2 ⟨rfl, hb2⟩
  rcases HQ.out with ⟨q1, q2⟩ | ⟨q1, q2⟩
  all_goals
    rw [q1]
    have E := Lib.hid q2
    clear q1 q2 HQ
    go_wp2_with fail
    go_ret2
    exact ⟨by rw [E.out]; rfl, hB.trans (hb2.mono hB.size)⟩

def R5.at (r : R5) (y : Int) : R5 := ⟨y, r.lo, r.hi, r.zones, r.jobs⟩
def fromGo (r : R5) (c : K9) : Nat → Int → Int × Int
  | 0, _ => (0, 4)
  | f + 1, y => if (r.at y).against c = 0 then (y, 0) else fromGo r c f (y + 1)
def qualFromF (r : R5) (c : K9) : Int × Int := if (r.ok && c.ok) = true then fromGo r c (2201 - r.yr).toNat r.yr else (0, 1)
theorem fromGo_yes {r : R5} {c : K9} {y : Int} (hy : y ≤ 2200) (h : (r.at y).against c = 0) : fromGo r c (2201 - y).toNat y = (y, 0) := by
  obtain ⟨m, hm⟩ : ∃ m, (2201 - y).toNat = m + 1 := ⟨(2200 - y).toNat, by omega⟩
  rw [hm, fromGo, if_pos h]
theorem fromGo_no {r : R5} {c : K9} {y : Int} (hy : y ≤ 2200) (h : ¬ (r.at y).against c = 0) : fromGo r c (2201 - y).toNat y = fromGo r c (2201 - (y + 1)).toNat (y + 1) := by
  obtain ⟨m, hm⟩ : ∃ m, (2201 - y).toNat = m + 1 := ⟨(2200 - y).toNat, by omega⟩
  have h2 : (2201 - (y + 1)).toNat = m := by omega
  rw [hm, fromGo, if_neg h, h2]
theorem fromGo_end {r : R5} {c : K9} {y : Int} (hy : 2200 < y) : fromGo r c (2201 - y).toNat y = (0, 4) := by
  have h2 : (2201 - y).toNat = 0 := by omega
  rw [h2, fromGo]
def yrOf (T : Nat) (w : World) : Int := match w.cell? ⟨T, 0, none⟩ with
  | some (.int _ y) => y
  | _ => 0
theorem r5_set0 {W : World} {T : Nat} {ty : TypeId} {x y z u t : Value} (b : Blk W T ty #[x, y, z, u, t]) (q : Value) : Blk (W.setCell ⟨T, 0, none⟩ q) T ty #[q, y, z, u, t] := by have := b.set_ 0 q; simpa using this

set_option maxRecDepth 100000 in
set_option maxHeartbeats 4000000 in
theorem implQualifiedFrom_any (r : R5) (c : K9) (vz vj : Value) (w : World) (lo lo' : Nat) (hz : SlI w lo w.heap.size vz r.zones) (hj : SlI w lo' w.heap.size vj r.jobs) (hs : c.small) :
    Calls Try.prog 22 #[.agg #[.int .i64 r.yr, .int .i64 r.lo, .int .i64 r.hi, vz, vj], .agg #[.int .i64 c.num, .string c.first, .string c.last, .int .i64 c.born, .int .i64 c.zone, .bool c.cit, .bool c.conv, .bool c.flu, .int .i64 c.job]] w fun e w' => e = .returned (.tuple #[.int .i64 (qualFromF r c).1, .int .i64 (qualFromF r c).2]) ∧ Below w.heap.size w w' := by
  obtain ⟨A, ca, rfl, _, _⟩ := hz.form
  obtain ⟨B, d, rfl, _, _⟩ := hj.form
  have bR : Blk ((w.alloc (.cells #[.int .i64 r.yr, .int .i64 r.lo, .int .i64 r.hi, .slice A r.zones.length ca, .slice B r.jobs.length d] 41)).alloc (.cells #[.int .i64 c.num, .string c.first, .string c.last, .int .i64 c.born, .int .i64 c.zone, .bool c.cit, .bool c.conv, .bool c.flu, .int .i64 c.job] 45)) w.heap.size _ _ := (Blk.new w _ _).alloc _
  have bC : Blk ((w.alloc (.cells #[.int .i64 r.yr, .int .i64 r.lo, .int .i64 r.hi, .slice A r.zones.length ca, .slice B r.jobs.length d] 41)).alloc (.cells #[.int .i64 c.num, .string c.first, .string c.last, .int .i64 c.born, .int .i64 c.zone, .bool c.cit, .bool c.conv, .bool c.flu, .int .i64 c.job] 45)) (w.heap.size + 1) _ _ := Blk.new' (by simp)
  have hB : Below w.heap.size w ((w.alloc (.cells #[.int .i64 r.yr, .int .i64 r.lo, .int .i64 r.hi, .slice A r.zones.length ca, .slice B r.jobs.length d] 41)).alloc (.cells #[.int .i64 c.num, .string c.first, .string c.last, .int .i64 c.born, .int .i64 c.zone, .bool c.cit, .bool c.conv, .bool c.flu, .int .i64 c.job] 45)) := ((Below.refl _ _).alloc (Nat.le_refl _) _).alloc (by simp) _
  go_enter Try.func22, Try.ntmps22
  go_wp2_with fail
  generalize ((w.alloc (.cells #[.int .i64 r.yr, .int .i64 r.lo, .int .i64 r.hi, .slice A r.zones.length ca, .slice B r.jobs.length d] 41)).alloc (.cells #[.int .i64 c.num, .string c.first, .string c.last, .int .i64 c.born, .int .i64 c.zone, .bool c.cit, .bool c.conv, .bool c.flu, .int .i64 c.job] 45)) = w1 at *
  refine (implAreRules_any r _ _ w1 _ _ (hz.bel hB) (hj.bel hB)).mono ?_
  rintro e w2 ⟨rfl, hb2⟩
  have hB2 := hB.trans (hb2.mono hB.size)
  have bR := bR.below' hb2
  have bC := bC.below' hb2
  cases hr : r.ok
  · have e : qualFromF r c = (0, 1) := by simp [qualFromF, hr]
    have E := Lib.hid e
    clear e
    go_wp2_with fail
    go_ret2
    exact ⟨by rw [E.out]; rfl, hB2⟩
  obtain ⟨e0, e1, e2, e3, e4, e5, e6, e7, e8⟩ := r9_cells bC
  go_wp2_with fail
  refine (implIsCandidate_any c w2 hs).mono ?_
  rintro e w3 ⟨rfl, hb3⟩
  have hB3 := hB2.trans (hb3.mono hB2.size)
  have bR := bR.below' hb3
  have bC := bC.below' hb3
  clear e0 e1 e2 e3 e4 e5 e6 e7 e8
  cases hc : c.ok
  · have e : qualFromF r c = (0, 1) := by simp [qualFromF, hc]
    have E := Lib.hid e
    clear e
    go_wp2_with fail
    go_ret2
    exact ⟨by rw [E.out]; rfl, hB3⟩
  have e : qualFromF r c = fromGo r c (2201 - r.yr).toNat r.yr := by simp [qualFromF, hr, hc]
  have E := Lib.hid e
  clear e
  have hbd := ok_bounds hr hc
  have z3 := hB3.size
  have lC := bC.lt
  have nCR : w.heap.size + 1 ≠ w.heap.size := by omega
  have nRC : w.heap.size ≠ w.heap.size + 1 := by omega
  go_wp2_with fail
  go_loopw [15] (fun _ wr => ∃ (y : Int), r.yr ≤ y ∧ y ≤ 2201 ∧ Hid (qualFromF r c = fromGo r c (2201 - y).toNat y) ∧ Blk wr w.heap.size 41 #[.int .i64 y, .int .i64 r.lo, .int .i64 r.hi, .slice A r.zones.length ca, .slice B r.jobs.length d] ∧ Blk wr (w.heap.size + 1) 45 #[.int .i64 c.num, .string c.first, .string c.last, .int .i64 c.born, .int .i64 c.zone, .bool c.cit, .bool c.conv, .bool c.flu, .int .i64 c.job] ∧ Below w.heap.size w wr) (fun _ wr => (2201 - yrOf w.heap.size wr).toNat)
  case atStart => exact ⟨r.yr, Int.le_refl _, by omega, E, bR, bC, hB3⟩
  case round =>
    clear bR bC
    obtain ⟨y, hy1, hy2, Hgo, bR, bC, hBr⟩ := hrel
    have hyr : yrOf w.heap.size wr = y := by unfold yrOf; rw [show wr.cell? ⟨w.heap.size, 0, none⟩ = some (.int .i64 y) from bR.cell 0]
    have HY := Lib.hid hyr
    clear hyr
    obtain ⟨d0, d1, d2, d3, d4⟩ := r5_cells bR
    obtain ⟨e0, e1, e2, e3, e4, e5, e6, e7, e8⟩ := r9_cells bC
    by_cases hle : y ≤ 2200
    · go_wp2_with fail
      refine (implReasons_any (r.at y) c _ _ wr _ _ (hz.bel hBr) (hj.bel hBr) (by show 0 ≤ y ∧ y ≤ 3000; omega) (by omega)).mono ?_
      rintro e w4 ⟨rfl, hb4⟩
      have hB4 := hBr.trans (hb4.mono hBr.size)
      have bR := bR.below' hb4
      have bC := bC.below' hb4
      clear d0 d1 d2 d3 d4 e0 e1 e2 e3 e4 e5 e6 e7 e8
      obtain ⟨d0, d1, d2, d3, d4⟩ := r5_cells bR
      have f0 := bR.frozen 0
      by_cases ha : (r.at y).against c = 0
      · have e : qualFromF r c = (y, 0) := by rw [Hgo.out, fromGo_yes hle ha]
        have E := Lib.hid e
        have ha' : ((r.at y).against c == 0) = true := by simpa using ha
        clear e ha
        go_wp2_with fail
        go_ret2
        exact ⟨by rw [E.out]; rfl, hB4⟩
      · have e : qualFromF r c = fromGo r c (2201 - (y + 1)).toNat (y + 1) := by rw [Hgo.out, fromGo_no hle ha]
        have E := Lib.hid e
        have ha' : ((r.at y).against c == 0) = false := by simpa using ha
        clear e ha
        have bR5 := r5_set0 bR (.int .i64 (y + 1))
        have bC5 := bC.far (p := ⟨w.heap.size, 0, none⟩) nCR (.int .i64 (y + 1))
        have hB5 := hB4.setCell (p := ⟨w.heap.size, 0, none⟩) (Nat.le_refl _) (.int .i64 (y + 1))
        have hyr5 : yrOf w.heap.size (w4.setCell ⟨w.heap.size, 0, none⟩ (.int .i64 (y + 1))) = y + 1 := by unfold yrOf; rw [show (w4.setCell ⟨w.heap.size, 0, none⟩ (.int .i64 (y + 1))).cell? ⟨w.heap.size, 0, none⟩ = some (.int .i64 (y + 1)) from bR5.cell 0]
        have HY5 := Lib.hid hyr5
        clear hyr5
        go_wp2_with fail
        go_roundw
        case rel => exact ⟨y + 1, by omega, by omega, E, bR5, bC5, hB5⟩
        case measure => rw [HY.out, HY5.out]; omega
    · have e : qualFromF r c = (0, 4) := by rw [Hgo.out, fromGo_end (by omega)]
      have E := Lib.hid e
      clear e
      go_wp2_with fail
      go_ret2
      exact ⟨by rw [E.out]; rfl, hBr⟩

set_option maxRecDepth 100000 in
set_option maxHeartbeats 4000000 in
theorem specQualifiedFrom_any (r : R5) (c : K9) (vz vj : Value) (w : World) (lo lo' : Nat) (hz : SlI w lo w.heap.size vz r.zones) (hj : SlI w lo' w.heap.size vj r.jobs) (hs : c.small) :
    Calls Try.prog 21 #[.agg #[.int .i64 r.yr, .int .i64 r.lo, .int .i64 r.hi, vz, vj], .agg #[.int .i64 c.num, .string c.first, .string c.last, .int .i64 c.born, .int .i64 c.zone, .bool c.cit, .bool c.conv, .bool c.flu, .int .i64 c.job]] w fun e w' => e = .returned (.tuple #[.int .i64 (qualFromF r c).1, .int .i64 (qualFromF r c).2]) ∧ Below w.heap.size w w' := by
  obtain ⟨A, ca, rfl, _, _⟩ := hz.form
  obtain ⟨B, d, rfl, _, _⟩ := hj.form
  have bR : Blk (((w.alloc (.cells #[.int .i64 r.yr, .int .i64 r.lo, .int .i64 r.hi, .slice A r.zones.length ca, .slice B r.jobs.length d] 41)).alloc (.cells #[.int .i64 c.num, .string c.first, .string c.last, .int .i64 c.born, .int .i64 c.zone, .bool c.cit, .bool c.conv, .bool c.flu, .int .i64 c.job] 45)).alloc (.cells #[.int .i64 c.num, .string c.first, .string c.last, .int .i64 c.born, .int .i64 c.zone, .bool c.cit, .bool c.conv, .bool c.flu, .int .i64 c.job] 45)) w.heap.size _ _ := ((Blk.new w _ _).alloc _).alloc _
  have bC : Blk (((w.alloc (.cells #[.int .i64 r.yr, .int .i64 r.lo, .int .i64 r.hi, .slice A r.zones.length ca, .slice B r.jobs.length d] 41)).alloc (.cells #[.int .i64 c.num, .string c.first, .string c.last, .int .i64 c.born, .int .i64 c.zone, .bool c.cit, .bool c.conv, .bool c.flu, .int .i64 c.job] 45)).alloc (.cells #[.int .i64 c.num, .string c.first, .string c.last, .int .i64 c.born, .int .i64 c.zone, .bool c.cit, .bool c.conv, .bool c.flu, .int .i64 c.job] 45)) (w.heap.size + 1) _ _ := (Blk.new' (by simp)).alloc _
  have hB : Below w.heap.size w (((w.alloc (.cells #[.int .i64 r.yr, .int .i64 r.lo, .int .i64 r.hi, .slice A r.zones.length ca, .slice B r.jobs.length d] 41)).alloc (.cells #[.int .i64 c.num, .string c.first, .string c.last, .int .i64 c.born, .int .i64 c.zone, .bool c.cit, .bool c.conv, .bool c.flu, .int .i64 c.job] 45)).alloc (.cells #[.int .i64 c.num, .string c.first, .string c.last, .int .i64 c.born, .int .i64 c.zone, .bool c.cit, .bool c.conv, .bool c.flu, .int .i64 c.job] 45)) := (((Below.refl _ _).alloc (Nat.le_refl _) _).alloc (by simp) _).alloc (by simp; omega) _
  have hl := rec_sl (f := K9.vals) (s := 9) (fun _ => rfl) ((w.alloc (.cells #[.int .i64 r.yr, .int .i64 r.lo, .int .i64 r.hi, .slice A r.zones.length ca, .slice B r.jobs.length d] 41)).alloc (.cells #[.int .i64 c.num, .string c.first, .string c.last, .int .i64 c.born, .int .i64 c.zone, .bool c.cit, .bool c.conv, .bool c.flu, .int .i64 c.job] 45)) 45 (cx := #[.int .i64 c.num, .string c.first, .string c.last, .int .i64 c.born, .int .i64 c.zone, .bool c.cit, .bool c.conv, .bool c.flu, .int .i64 c.job]) (x := c) rfl
  have hl2 : SlR K9.vals 9 (((w.alloc (.cells #[.int .i64 r.yr, .int .i64 r.lo, .int .i64 r.hi, .slice A r.zones.length ca, .slice B r.jobs.length d] 41)).alloc (.cells #[.int .i64 c.num, .string c.first, .string c.last, .int .i64 c.born, .int .i64 c.zone, .bool c.cit, .bool c.conv, .bool c.flu, .int .i64 c.job] 45)).alloc (.cells #[.int .i64 c.num, .string c.first, .string c.last, .int .i64 c.born, .int .i64 c.zone, .bool c.cit, .bool c.conv, .bool c.flu, .int .i64 c.job] 45)) 0 (((w.alloc (.cells #[.int .i64 r.yr, .int .i64 r.lo, .int .i64 r.hi, .slice A r.zones.length ca, .slice B r.jobs.length d] 41)).alloc (.cells #[.int .i64 c.num, .string c.first, .string c.last, .int .i64 c.born, .int .i64 c.zone, .bool c.cit, .bool c.conv, .bool c.flu, .int .i64 c.job] 45)).alloc (.cells #[.int .i64 c.num, .string c.first, .string c.last, .int .i64 c.born, .int .i64 c.zone, .bool c.cit, .bool c.conv, .bool c.flu, .int .i64 c.job] 45)).heap.size (.slice (some ⟨w.heap.size + 1 + 1, 0, none⟩) 1 1) [c] := by
    have := hl.more (lo' := 0) (hi' := (((w.alloc (.cells #[.int .i64 r.yr, .int .i64 r.lo, .int .i64 r.hi, .slice A r.zones.length ca, .slice B r.jobs.length d] 41)).alloc (.cells #[.int .i64 c.num, .string c.first, .string c.last, .int .i64 c.born, .int .i64 c.zone, .bool c.cit, .bool c.conv, .bool c.flu, .int .i64 c.job] 45)).alloc (.cells #[.int .i64 c.num, .string c.first, .string c.last, .int .i64 c.born, .int .i64 c.zone, .bool c.cit, .bool c.conv, .bool c.flu, .int .i64 c.job] 45)).heap.size) (Nat.zero_le _) (by simp)
    simpa using this
  clear hl
  go_enter Try.func21, Try.ntmps21
  go_wp2_with fail
  generalize (((w.alloc (.cells #[.int .i64 r.yr, .int .i64 r.lo, .int .i64 r.hi, .slice A r.zones.length ca, .slice B r.jobs.length d] 41)).alloc (.cells #[.int .i64 c.num, .string c.first, .string c.last, .int .i64 c.born, .int .i64 c.zone, .bool c.cit, .bool c.conv, .bool c.flu, .int .i64 c.job] 45)).alloc (.cells #[.int .i64 c.num, .string c.first, .string c.last, .int .i64 c.born, .int .i64 c.zone, .bool c.cit, .bool c.conv, .bool c.flu, .int .i64 c.job] 45)) = w1 at *
  refine (l06Code_any r _ _ _ [c] w1 _ _ _ (hz.bel hB) (hj.bel hB) hl2 (by simpa using hs)).mono ?_
  rintro e w2 ⟨rfl, hb2⟩
  have hB2 := hB.trans (hb2.mono hB.size)
  have bR := bR.below' hb2
  have bC := bC.below' hb2
  rw [candCode, candOk_one]
  cases hok : (r.ok && c.ok)
  · have e : qualFromF r c = (0, 1) := by simp [qualFromF, hok]
    have E := Lib.hid e
    clear e
    rw [if_neg (by simp)]
    go_wp2_with fail
    go_ret2
    exact ⟨by rw [E.out]; rfl, hB2⟩
  have e : qualFromF r c = fromGo r c (2201 - r.yr).toNat r.yr := by simp [qualFromF, hok]
  have E := Lib.hid e
  clear e
  simp only [Bool.and_eq_true] at hok
  have hbd := ok_bounds hok.1 hok.2
  rw [if_pos rfl]
  have z3 := hB2.size
  have lC := bC.lt
  have nCR : w.heap.size + 1 ≠ w.heap.size := by omega
  have nRC : w.heap.size ≠ w.heap.size + 1 := by omega
  obtain ⟨d0, d1, d2, d3, d4⟩ := r5_cells bR
  go_wp2_with fail
  clear d0 d1 d2 d3 d4
  go_loopw [7] (fun i wr => ∃ (y y0 : Int), i = .int .i64 y ∧ r.yr ≤ y ∧ y ≤ 2201 ∧ Hid (qualFromF r c = fromGo r c (2201 - y).toNat y) ∧ Blk wr w.heap.size 41 #[.int .i64 y0, .int .i64 r.lo, .int .i64 r.hi, .slice A r.zones.length ca, .slice B r.jobs.length d] ∧ Blk wr (w.heap.size + 1) 45 #[.int .i64 c.num, .string c.first, .string c.last, .int .i64 c.born, .int .i64 c.zone, .bool c.cit, .bool c.conv, .bool c.flu, .int .i64 c.job] ∧ Below w.heap.size w wr) (fun i wr => (2201 - intOf i).toNat)
  case atStart => exact ⟨r.yr, r.yr, rfl, Int.le_refl _, by omega, E, bR, bC, hB2⟩
  case round =>
    clear bR bC
    obtain ⟨y, y0, rfl, hy1, hy2, Hgo, bR, bC, hBr⟩ := hrel
    by_cases hle : y ≤ 2200
    · obtain ⟨d0, d1, d2, d3, d4⟩ := r5_cells bR
      obtain ⟨e0, e1, e2, e3, e4, e5, e6, e7, e8⟩ := r9_cells bC
      have f0 := bR.frozen 0
      have bR4 := r5_set0 bR (.int .i64 y)
      have bC4 := bC.far (p := ⟨w.heap.size, 0, none⟩) nCR (.int .i64 y)
      have hB4 := hBr.setCell (p := ⟨w.heap.size, 0, none⟩) (Nat.le_refl _) (.int .i64 y)
      go_wp2_with fail
      clear d0 d1 d2 d3 d4 e0 e1 e2 e3 e4 e5 e6 e7 e8 f0 bR bC
      generalize (wr.setCell ⟨w.heap.size, 0, none⟩ (.int .i64 y)) = w4 at *
      refine (specReasons_any (r.at y) c _ _ w4 _ _ (hz.bel hB4) (hj.bel hB4) (by show 0 ≤ y ∧ y ≤ 3000; omega) (by omega)).mono ?_
      rintro e w5 ⟨rfl, hb5⟩
      have hB5 := hB4.trans (hb5.mono hB4.size)
      have bR := bR4.below' hb5
      have bC := bC4.below' hb5
      by_cases ha : (r.at y).against c = 0
      · have e : qualFromF r c = (y, 0) := by rw [Hgo.out, fromGo_yes hle ha]
        have E := Lib.hid e
        have ha' : ((r.at y).against c == 0) = true := by simpa using ha
        clear e ha
        go_wp2_with fail
        go_ret2
        exact ⟨by rw [E.out]; rfl, hB5⟩
      · have e : qualFromF r c = fromGo r c (2201 - (y + 1)).toNat (y + 1) := by rw [Hgo.out, fromGo_no hle ha]
        have E := Lib.hid e
        have ha' : ((r.at y).against c == 0) = false := by simpa using ha
        clear e ha
        go_wp2_with fail
        go_roundw
        case rel => exact ⟨y + 1, y, rfl, by omega, by omega, E, bR, bC, hB5⟩
        case measure => simp [intOf]; omega
    · have e : qualFromF r c = (0, 4) := by rw [Hgo.out, fromGo_end (by omega)]
      have E := Lib.hid e
      clear e
      go_wp2_with fail
      go_ret2
      exact ⟨by rw [E.out]; rfl, hBr⟩
end Go.Proofs.Ytkhojhgcopnenaa
