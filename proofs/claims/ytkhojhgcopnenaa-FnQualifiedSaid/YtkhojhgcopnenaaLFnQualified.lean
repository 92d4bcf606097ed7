/- FnQualified: for every input the law returns true, and each argument reads as it did. No condition. -/
import Derived.Test.YtkhojhgcopnenaaQualN
import Derived.Test.YtkhojhgcopnenaaDrawT9
namespace Go.Proofs.Ytkhojhgcopnenaa.lawFnQualified
open Go.ChangeShapes Go.WideShapes Go.ChangeAt Go.RowKit
attribute [local go_sem ↓] Go.wp_at_zero Go.wp_at_succ
theorem ownI_sl {w : World} {base : Nat} {v : Value} {xs : List Int} (h : OwnR i64s 1 w base 2 v xs) : SlI w base w.heap.size v xs := own_slR (f := i64s) (s := 1) (fun _ => rfl) (OwnR.own h)
set_option maxRecDepth 100000 in
set_option maxHeartbeats 16000000 in
theorem walkL (v : Value) (bs : List Int) (w : World) (h : SlR u8s 1 w 0 w.heap.size v bs) (hb : ∀ b ∈ bs, 0 ≤ b ∧ b ≤ 255) :
    Calls Try.prog 8 #[v] w fun e w' => e = .returned (.bool true) ∧ Below w.heap.size w w' := by
  have CB := big_any v bs w _ _ h
  by_cases hbig : 4096 < bs.length
  · rw [decide_eq_true hbig] at CB
    go_enter Try.func8, Try.ntmps8
    go_wp2_with fail
    refine CB.mono ?_
    rintro e w' ⟨rfl, rfl⟩
    go_wp2_with fail
    go_ret
    exact ⟨rfl, Below.refl _ _⟩
  rw [decide_eq_false hbig] at CB
  clear hbig
  have B0 : Below w.heap.size w w := Below.refl _ _
  go_enter Try.func8, Try.ntmps8
  go_wp2_with fail
  refine CB.mono ?_
  clear CB
  rintro e w' ⟨rfl, rfl⟩
  go_wp2_with fail
  refine (DrawReasonsAgainst_any v bs _ ((h.below B0 (Nat.le_refl _)).more (Nat.le_refl _) B0.size) hb).mono ?_
  rintro e w1 ⟨vz, vj, r, c, rfl, sZ1, sJ1, hz1, hj1, hc, hb1⟩
  have z1 := hb1.size
  have B1 := Below.trans B0 (Below.mono hb1 B0.size)
  clear hb1 B0
  obtain ⟨X1, k1, rfl, _, _⟩ := sZ1.form
  obtain ⟨Y1, m1, rfl, _, _⟩ := sJ1.form
  have nbR1 : Blk ((w1.alloc (.cells #[.int .i64 r.yr, .int .i64 r.lo, .int .i64 r.hi, .slice X1 r.zones.length k1, .slice Y1 r.jobs.length m1] 41)).alloc (.cells #[.int .i64 c.num, .string c.first, .string c.last, .int .i64 c.born, .int .i64 c.zone, .bool c.cit, .bool c.conv, .bool c.flu, .int .i64 c.job] 45)) (w1.heap.size) 41 #[.int .i64 r.yr, .int .i64 r.lo, .int .i64 r.hi, .slice X1 r.zones.length k1, .slice Y1 r.jobs.length m1] := (Blk.new w1 _ _).alloc _
  have qn_bR1_0 : ((w1.alloc (.cells #[.int .i64 r.yr, .int .i64 r.lo, .int .i64 r.hi, .slice X1 r.zones.length k1, .slice Y1 r.jobs.length m1] 41)).alloc (.cells #[.int .i64 c.num, .string c.first, .string c.last, .int .i64 c.born, .int .i64 c.zone, .bool c.cit, .bool c.conv, .bool c.flu, .int .i64 c.job] 45)).cell? ⟨w1.heap.size, 0, none⟩ = some (.int .i64 r.yr) := nbR1.cell 0
  have qn_bR1_1 : ((w1.alloc (.cells #[.int .i64 r.yr, .int .i64 r.lo, .int .i64 r.hi, .slice X1 r.zones.length k1, .slice Y1 r.jobs.length m1] 41)).alloc (.cells #[.int .i64 c.num, .string c.first, .string c.last, .int .i64 c.born, .int .i64 c.zone, .bool c.cit, .bool c.conv, .bool c.flu, .int .i64 c.job] 45)).cell? ⟨w1.heap.size, 1, none⟩ = some (.int .i64 r.lo) := nbR1.cell 1
  have qn_bR1_2 : ((w1.alloc (.cells #[.int .i64 r.yr, .int .i64 r.lo, .int .i64 r.hi, .slice X1 r.zones.length k1, .slice Y1 r.jobs.length m1] 41)).alloc (.cells #[.int .i64 c.num, .string c.first, .string c.last, .int .i64 c.born, .int .i64 c.zone, .bool c.cit, .bool c.conv, .bool c.flu, .int .i64 c.job] 45)).cell? ⟨w1.heap.size, 2, none⟩ = some (.int .i64 r.hi) := nbR1.cell 2
  have qn_bR1_3 : ((w1.alloc (.cells #[.int .i64 r.yr, .int .i64 r.lo, .int .i64 r.hi, .slice X1 r.zones.length k1, .slice Y1 r.jobs.length m1] 41)).alloc (.cells #[.int .i64 c.num, .string c.first, .string c.last, .int .i64 c.born, .int .i64 c.zone, .bool c.cit, .bool c.conv, .bool c.flu, .int .i64 c.job] 45)).cell? ⟨w1.heap.size, 3, none⟩ = some (.slice X1 r.zones.length k1) := nbR1.cell 3
  have qn_bR1_4 : ((w1.alloc (.cells #[.int .i64 r.yr, .int .i64 r.lo, .int .i64 r.hi, .slice X1 r.zones.length k1, .slice Y1 r.jobs.length m1] 41)).alloc (.cells #[.int .i64 c.num, .string c.first, .string c.last, .int .i64 c.born, .int .i64 c.zone, .bool c.cit, .bool c.conv, .bool c.flu, .int .i64 c.job] 45)).cell? ⟨w1.heap.size, 4, none⟩ = some (.slice Y1 r.jobs.length m1) := nbR1.cell 4
  have nbC1 : Blk ((w1.alloc (.cells #[.int .i64 r.yr, .int .i64 r.lo, .int .i64 r.hi, .slice X1 r.zones.length k1, .slice Y1 r.jobs.length m1] 41)).alloc (.cells #[.int .i64 c.num, .string c.first, .string c.last, .int .i64 c.born, .int .i64 c.zone, .bool c.cit, .bool c.conv, .bool c.flu, .int .i64 c.job] 45)) (w1.heap.size + 1) 45 #[.int .i64 c.num, .string c.first, .string c.last, .int .i64 c.born, .int .i64 c.zone, .bool c.cit, .bool c.conv, .bool c.flu, .int .i64 c.job] := Blk.new' (by simp)
  have qn_bC1_0 : ((w1.alloc (.cells #[.int .i64 r.yr, .int .i64 r.lo, .int .i64 r.hi, .slice X1 r.zones.length k1, .slice Y1 r.jobs.length m1] 41)).alloc (.cells #[.int .i64 c.num, .string c.first, .string c.last, .int .i64 c.born, .int .i64 c.zone, .bool c.cit, .bool c.conv, .bool c.flu, .int .i64 c.job] 45)).cell? ⟨w1.heap.size + 1, 0, none⟩ = some (.int .i64 c.num) := nbC1.cell 0
  have qn_bC1_1 : ((w1.alloc (.cells #[.int .i64 r.yr, .int .i64 r.lo, .int .i64 r.hi, .slice X1 r.zones.length k1, .slice Y1 r.jobs.length m1] 41)).alloc (.cells #[.int .i64 c.num, .string c.first, .string c.last, .int .i64 c.born, .int .i64 c.zone, .bool c.cit, .bool c.conv, .bool c.flu, .int .i64 c.job] 45)).cell? ⟨w1.heap.size + 1, 1, none⟩ = some (.string c.first) := nbC1.cell 1
  have qn_bC1_2 : ((w1.alloc (.cells #[.int .i64 r.yr, .int .i64 r.lo, .int .i64 r.hi, .slice X1 r.zones.length k1, .slice Y1 r.jobs.length m1] 41)).alloc (.cells #[.int .i64 c.num, .string c.first, .string c.last, .int .i64 c.born, .int .i64 c.zone, .bool c.cit, .bool c.conv, .bool c.flu, .int .i64 c.job] 45)).cell? ⟨w1.heap.size + 1, 2, none⟩ = some (.string c.last) := nbC1.cell 2
  have qn_bC1_3 : ((w1.alloc (.cells #[.int .i64 r.yr, .int .i64 r.lo, .int .i64 r.hi, .slice X1 r.zones.length k1, .slice Y1 r.jobs.length m1] 41)).alloc (.cells #[.int .i64 c.num, .string c.first, .string c.last, .int .i64 c.born, .int .i64 c.zone, .bool c.cit, .bool c.conv, .bool c.flu, .int .i64 c.job] 45)).cell? ⟨w1.heap.size + 1, 3, none⟩ = some (.int .i64 c.born) := nbC1.cell 3
  have qn_bC1_4 : ((w1.alloc (.cells #[.int .i64 r.yr, .int .i64 r.lo, .int .i64 r.hi, .slice X1 r.zones.length k1, .slice Y1 r.jobs.length m1] 41)).alloc (.cells #[.int .i64 c.num, .string c.first, .string c.last, .int .i64 c.born, .int .i64 c.zone, .bool c.cit, .bool c.conv, .bool c.flu, .int .i64 c.job] 45)).cell? ⟨w1.heap.size + 1, 4, none⟩ = some (.int .i64 c.zone) := nbC1.cell 4
  have qn_bC1_5 : ((w1.alloc (.cells #[.int .i64 r.yr, .int .i64 r.lo, .int .i64 r.hi, .slice X1 r.zones.length k1, .slice Y1 r.jobs.length m1] 41)).alloc (.cells #[.int .i64 c.num, .string c.first, .string c.last, .int .i64 c.born, .int .i64 c.zone, .bool c.cit, .bool c.conv, .bool c.flu, .int .i64 c.job] 45)).cell? ⟨w1.heap.size + 1, 5, none⟩ = some (.bool c.cit) := nbC1.cell 5
  have qn_bC1_6 : ((w1.alloc (.cells #[.int .i64 r.yr, .int .i64 r.lo, .int .i64 r.hi, .slice X1 r.zones.length k1, .slice Y1 r.jobs.length m1] 41)).alloc (.cells #[.int .i64 c.num, .string c.first, .string c.last, .int .i64 c.born, .int .i64 c.zone, .bool c.cit, .bool c.conv, .bool c.flu, .int .i64 c.job] 45)).cell? ⟨w1.heap.size + 1, 6, none⟩ = some (.bool c.conv) := nbC1.cell 6
  have qn_bC1_7 : ((w1.alloc (.cells #[.int .i64 r.yr, .int .i64 r.lo, .int .i64 r.hi, .slice X1 r.zones.length k1, .slice Y1 r.jobs.length m1] 41)).alloc (.cells #[.int .i64 c.num, .string c.first, .string c.last, .int .i64 c.born, .int .i64 c.zone, .bool c.cit, .bool c.conv, .bool c.flu, .int .i64 c.job] 45)).cell? ⟨w1.heap.size + 1, 7, none⟩ = some (.bool c.flu) := nbC1.cell 7
  have qn_bC1_8 : ((w1.alloc (.cells #[.int .i64 r.yr, .int .i64 r.lo, .int .i64 r.hi, .slice X1 r.zones.length k1, .slice Y1 r.jobs.length m1] 41)).alloc (.cells #[.int .i64 c.num, .string c.first, .string c.last, .int .i64 c.born, .int .i64 c.zone, .bool c.cit, .bool c.conv, .bool c.flu, .int .i64 c.job] 45)).cell? ⟨w1.heap.size + 1, 8, none⟩ = some (.int .i64 c.job) := nbC1.cell 8
  go_wp2_with fail
  clear qn_bR1_0 qn_bR1_1 qn_bR1_2 qn_bR1_3 qn_bR1_4 qn_bC1_0 qn_bC1_1 qn_bC1_2 qn_bC1_3 qn_bC1_4 qn_bC1_5 qn_bC1_6 qn_bC1_7 qn_bC1_8
  have hb2 : Below w1.heap.size w1 ((w1.alloc (.cells #[.int .i64 r.yr, .int .i64 r.lo, .int .i64 r.hi, .slice X1 r.zones.length k1, .slice Y1 r.jobs.length m1] 41)).alloc (.cells #[.int .i64 c.num, .string c.first, .string c.last, .int .i64 c.born, .int .i64 c.zone, .bool c.cit, .bool c.conv, .bool c.flu, .int .i64 c.job] 45)) := ((Below.refl _ _).alloc (Nat.le_refl _) _).alloc (by simp) _
  generalize ((w1.alloc (.cells #[.int .i64 r.yr, .int .i64 r.lo, .int .i64 r.hi, .slice X1 r.zones.length k1, .slice Y1 r.jobs.length m1] 41)).alloc (.cells #[.int .i64 c.num, .string c.first, .string c.last, .int .i64 c.born, .int .i64 c.zone, .bool c.cit, .bool c.conv, .bool c.flu, .int .i64 c.job] 45)) = w2 at *
  have z2 := hb2.size
  have sZ1 := (sZ1.below hb2 (Nat.le_refl _)).more (Nat.le_refl _) hb2.size
  have sJ1 := (sJ1.below hb2 (Nat.le_refl _)).more (Nat.le_refl _) hb2.size
  have B2 := Below.trans B1 (Below.mono hb2 B1.size)
  clear hb2 B1
  have bR1 := nbR1
  clear nbR1
  have bC1 := nbC1
  clear nbC1
  refine (implReasonsAgainst_any r c _ _ _ _ _ sZ1 sJ1 hc).mono ?_
  rintro e w3 ⟨rfl, hb3⟩
  have z3 := hb3.size
  have sZ1 := (sZ1.below hb3 (Nat.le_refl _)).more (Nat.le_refl _) hb3.size
  have sJ1 := (sJ1.below hb3 (Nat.le_refl _)).more (Nat.le_refl _) hb3.size
  have bR1 := bR1.below' hb3
  have bC1 := bC1.below' hb3
  have B3 := Below.trans B2 (Below.mono hb3 B2.size)
  clear hb3 B2
  have q_bR1_0 : w3.cell? ⟨w1.heap.size, 0, none⟩ = some (.int .i64 r.yr) := bR1.cell 0
  have q_bR1_1 : w3.cell? ⟨w1.heap.size, 1, none⟩ = some (.int .i64 r.lo) := bR1.cell 1
  have q_bR1_2 : w3.cell? ⟨w1.heap.size, 2, none⟩ = some (.int .i64 r.hi) := bR1.cell 2
  have q_bR1_3 : w3.cell? ⟨w1.heap.size, 3, none⟩ = some (.slice X1 r.zones.length k1) := bR1.cell 3
  have q_bR1_4 : w3.cell? ⟨w1.heap.size, 4, none⟩ = some (.slice Y1 r.jobs.length m1) := bR1.cell 4
  have q_bC1_0 : w3.cell? ⟨w1.heap.size + 1, 0, none⟩ = some (.int .i64 c.num) := bC1.cell 0
  have q_bC1_1 : w3.cell? ⟨w1.heap.size + 1, 1, none⟩ = some (.string c.first) := bC1.cell 1
  have q_bC1_2 : w3.cell? ⟨w1.heap.size + 1, 2, none⟩ = some (.string c.last) := bC1.cell 2
  have q_bC1_3 : w3.cell? ⟨w1.heap.size + 1, 3, none⟩ = some (.int .i64 c.born) := bC1.cell 3
  have q_bC1_4 : w3.cell? ⟨w1.heap.size + 1, 4, none⟩ = some (.int .i64 c.zone) := bC1.cell 4
  have q_bC1_5 : w3.cell? ⟨w1.heap.size + 1, 5, none⟩ = some (.bool c.cit) := bC1.cell 5
  have q_bC1_6 : w3.cell? ⟨w1.heap.size + 1, 6, none⟩ = some (.bool c.conv) := bC1.cell 6
  have q_bC1_7 : w3.cell? ⟨w1.heap.size + 1, 7, none⟩ = some (.bool c.flu) := bC1.cell 7
  have q_bC1_8 : w3.cell? ⟨w1.heap.size + 1, 8, none⟩ = some (.int .i64 c.job) := bC1.cell 8
  go_wp2_with fail
  clear q_bR1_0 q_bR1_1 q_bR1_2 q_bR1_3 q_bR1_4 q_bC1_0 q_bC1_1 q_bC1_2 q_bC1_3 q_bC1_4 q_bC1_5 q_bC1_6 q_bC1_7 q_bC1_8
  refine (specReasonsAgainst_any r c _ _ _ _ _ sZ1 sJ1 hc).mono ?_
  rintro e w4 ⟨rfl, hb4⟩
  have z4 := hb4.size
  have sZ1 := (sZ1.below hb4 (Nat.le_refl _)).more (Nat.le_refl _) hb4.size
  have sJ1 := (sJ1.below hb4 (Nat.le_refl _)).more (Nat.le_refl _) hb4.size
  have bR1 := bR1.below' hb4
  have bC1 := bC1.below' hb4
  have B4 := Below.trans B3 (Below.mono hb4 B3.size)
  clear hb4 B3
  have q_bR1_0 : w4.cell? ⟨w1.heap.size, 0, none⟩ = some (.int .i64 r.yr) := bR1.cell 0
  have q_bR1_1 : w4.cell? ⟨w1.heap.size, 1, none⟩ = some (.int .i64 r.lo) := bR1.cell 1
  have q_bR1_2 : w4.cell? ⟨w1.heap.size, 2, none⟩ = some (.int .i64 r.hi) := bR1.cell 2
  have q_bR1_3 : w4.cell? ⟨w1.heap.size, 3, none⟩ = some (.slice X1 r.zones.length k1) := bR1.cell 3
  have q_bR1_4 : w4.cell? ⟨w1.heap.size, 4, none⟩ = some (.slice Y1 r.jobs.length m1) := bR1.cell 4
  have q_bC1_0 : w4.cell? ⟨w1.heap.size + 1, 0, none⟩ = some (.int .i64 c.num) := bC1.cell 0
  have q_bC1_1 : w4.cell? ⟨w1.heap.size + 1, 1, none⟩ = some (.string c.first) := bC1.cell 1
  have q_bC1_2 : w4.cell? ⟨w1.heap.size + 1, 2, none⟩ = some (.string c.last) := bC1.cell 2
  have q_bC1_3 : w4.cell? ⟨w1.heap.size + 1, 3, none⟩ = some (.int .i64 c.born) := bC1.cell 3
  have q_bC1_4 : w4.cell? ⟨w1.heap.size + 1, 4, none⟩ = some (.int .i64 c.zone) := bC1.cell 4
  have q_bC1_5 : w4.cell? ⟨w1.heap.size + 1, 5, none⟩ = some (.bool c.cit) := bC1.cell 5
  have q_bC1_6 : w4.cell? ⟨w1.heap.size + 1, 6, none⟩ = some (.bool c.conv) := bC1.cell 6
  have q_bC1_7 : w4.cell? ⟨w1.heap.size + 1, 7, none⟩ = some (.bool c.flu) := bC1.cell 7
  have q_bC1_8 : w4.cell? ⟨w1.heap.size + 1, 8, none⟩ = some (.int .i64 c.job) := bC1.cell 8
  go_wp2_with fail
  clear q_bR1_0 q_bR1_1 q_bR1_2 q_bR1_3 q_bR1_4 q_bC1_0 q_bC1_1 q_bC1_2 q_bC1_3 q_bC1_4 q_bC1_5 q_bC1_6 q_bC1_7 q_bC1_8
  refine (implIsQualified_any r c _ _ _ _ _ sZ1 sJ1 hc).mono ?_
  rintro e w5 ⟨rfl, hb5⟩
  have z5 := hb5.size
  have sZ1 := (sZ1.below hb5 (Nat.le_refl _)).more (Nat.le_refl _) hb5.size
  have sJ1 := (sJ1.below hb5 (Nat.le_refl _)).more (Nat.le_refl _) hb5.size
  have bR1 := bR1.below' hb5
  have bC1 := bC1.below' hb5
  have B5 := Below.trans B4 (Below.mono hb5 B4.size)
  clear hb5 B4
  have q_bR1_0 : w5.cell? ⟨w1.heap.size, 0, none⟩ = some (.int .i64 r.yr) := bR1.cell 0
  have q_bR1_1 : w5.cell? ⟨w1.heap.size, 1, none⟩ = some (.int .i64 r.lo) := bR1.cell 1
  have q_bR1_2 : w5.cell? ⟨w1.heap.size, 2, none⟩ = some (.int .i64 r.hi) := bR1.cell 2
  have q_bR1_3 : w5.cell? ⟨w1.heap.size, 3, none⟩ = some (.slice X1 r.zones.length k1) := bR1.cell 3
  have q_bR1_4 : w5.cell? ⟨w1.heap.size, 4, none⟩ = some (.slice Y1 r.jobs.length m1) := bR1.cell 4
  have q_bC1_0 : w5.cell? ⟨w1.heap.size + 1, 0, none⟩ = some (.int .i64 c.num) := bC1.cell 0
  have q_bC1_1 : w5.cell? ⟨w1.heap.size + 1, 1, none⟩ = some (.string c.first) := bC1.cell 1
  have q_bC1_2 : w5.cell? ⟨w1.heap.size + 1, 2, none⟩ = some (.string c.last) := bC1.cell 2
  have q_bC1_3 : w5.cell? ⟨w1.heap.size + 1, 3, none⟩ = some (.int .i64 c.born) := bC1.cell 3
  have q_bC1_4 : w5.cell? ⟨w1.heap.size + 1, 4, none⟩ = some (.int .i64 c.zone) := bC1.cell 4
  have q_bC1_5 : w5.cell? ⟨w1.heap.size + 1, 5, none⟩ = some (.bool c.cit) := bC1.cell 5
  have q_bC1_6 : w5.cell? ⟨w1.heap.size + 1, 6, none⟩ = some (.bool c.conv) := bC1.cell 6
  have q_bC1_7 : w5.cell? ⟨w1.heap.size + 1, 7, none⟩ = some (.bool c.flu) := bC1.cell 7
  have q_bC1_8 : w5.cell? ⟨w1.heap.size + 1, 8, none⟩ = some (.int .i64 c.job) := bC1.cell 8
  go_wp2_with fail
  clear q_bR1_0 q_bR1_1 q_bR1_2 q_bR1_3 q_bR1_4 q_bC1_0 q_bC1_1 q_bC1_2 q_bC1_3 q_bC1_4 q_bC1_5 q_bC1_6 q_bC1_7 q_bC1_8
  refine (specIsQualified_any r c _ _ _ _ _ sZ1 sJ1 hc).mono ?_
  rintro e w6 ⟨rfl, hb6⟩
  have z6 := hb6.size
  have sZ1 := (sZ1.below hb6 (Nat.le_refl _)).more (Nat.le_refl _) hb6.size
  have sJ1 := (sJ1.below hb6 (Nat.le_refl _)).more (Nat.le_refl _) hb6.size
  have bR1 := bR1.below' hb6
  have bC1 := bC1.below' hb6
  have B6 := Below.trans B5 (Below.mono hb6 B5.size)
  clear hb6 B5
  have HA := Lib.hid (against_law r c)
  generalize (againstF r c).1 = a1 at *
  generalize (againstF r c).2 = a2 at *
  generalize (qualF r c).1 = q1 at *
  generalize (qualF r c).2 = q2 at *
  go_wp2_with fail
  refine (DrawQualifiedOf_any v bs _ ((h.below B6 (Nat.le_refl _)).more (Nat.le_refl _) B6.size) hb).mono ?_
  rintro e w7 ⟨vz, vj, u, r2, cs, rfl, sZ2, sJ2, sK, hz2, hj2, hsm, hcl, hb7⟩
  have z7 := hb7.size
  have sZ1 := (sZ1.below hb7 (Nat.le_refl _)).more (Nat.le_refl _) hb7.size
  have sJ1 := (sJ1.below hb7 (Nat.le_refl _)).more (Nat.le_refl _) hb7.size
  have bR1 := bR1.below' hb7
  have bC1 := bC1.below' hb7
  have B7 := Below.trans B6 (Below.mono hb7 B6.size)
  clear hb7 B6
  have HSM := Lib.hid hsm
  clear hsm
  obtain ⟨X2, k2, rfl, _, _⟩ := sZ2.form
  obtain ⟨Y2, m2, rfl, _, _⟩ := sJ2.form
  obtain ⟨KA, kc, rfl, _, _⟩ := sK.form
  have nbR2 : Blk (w7.alloc (.cells #[.int .i64 r2.yr, .int .i64 r2.lo, .int .i64 r2.hi, .slice X2 r2.zones.length k2, .slice Y2 r2.jobs.length m2] 41)) (w7.heap.size) 41 #[.int .i64 r2.yr, .int .i64 r2.lo, .int .i64 r2.hi, .slice X2 r2.zones.length k2, .slice Y2 r2.jobs.length m2] := Blk.new w7 _ _
  have qn_bR2_0 : (w7.alloc (.cells #[.int .i64 r2.yr, .int .i64 r2.lo, .int .i64 r2.hi, .slice X2 r2.zones.length k2, .slice Y2 r2.jobs.length m2] 41)).cell? ⟨w7.heap.size, 0, none⟩ = some (.int .i64 r2.yr) := nbR2.cell 0
  have qn_bR2_1 : (w7.alloc (.cells #[.int .i64 r2.yr, .int .i64 r2.lo, .int .i64 r2.hi, .slice X2 r2.zones.length k2, .slice Y2 r2.jobs.length m2] 41)).cell? ⟨w7.heap.size, 1, none⟩ = some (.int .i64 r2.lo) := nbR2.cell 1
  have qn_bR2_2 : (w7.alloc (.cells #[.int .i64 r2.yr, .int .i64 r2.lo, .int .i64 r2.hi, .slice X2 r2.zones.length k2, .slice Y2 r2.jobs.length m2] 41)).cell? ⟨w7.heap.size, 2, none⟩ = some (.int .i64 r2.hi) := nbR2.cell 2
  have qn_bR2_3 : (w7.alloc (.cells #[.int .i64 r2.yr, .int .i64 r2.lo, .int .i64 r2.hi, .slice X2 r2.zones.length k2, .slice Y2 r2.jobs.length m2] 41)).cell? ⟨w7.heap.size, 3, none⟩ = some (.slice X2 r2.zones.length k2) := nbR2.cell 3
  have qn_bR2_4 : (w7.alloc (.cells #[.int .i64 r2.yr, .int .i64 r2.lo, .int .i64 r2.hi, .slice X2 r2.zones.length k2, .slice Y2 r2.jobs.length m2] 41)).cell? ⟨w7.heap.size, 4, none⟩ = some (.slice Y2 r2.jobs.length m2) := nbR2.cell 4
  go_wp2_with fail
  clear qn_bR2_0 qn_bR2_1 qn_bR2_2 qn_bR2_3 qn_bR2_4
  have hb8 : Below w7.heap.size w7 (w7.alloc (.cells #[.int .i64 r2.yr, .int .i64 r2.lo, .int .i64 r2.hi, .slice X2 r2.zones.length k2, .slice Y2 r2.jobs.length m2] 41)) := (Below.refl _ _).alloc (Nat.le_refl _) _
  generalize (w7.alloc (.cells #[.int .i64 r2.yr, .int .i64 r2.lo, .int .i64 r2.hi, .slice X2 r2.zones.length k2, .slice Y2 r2.jobs.length m2] 41)) = w8 at *
  have z8 := hb8.size
  have sZ1 := (sZ1.below hb8 (Nat.le_refl _)).more (Nat.le_refl _) hb8.size
  have sJ1 := (sJ1.below hb8 (Nat.le_refl _)).more (Nat.le_refl _) hb8.size
  have sZ2 := (sZ2.below hb8 (Nat.le_refl _)).more (Nat.le_refl _) hb8.size
  have sJ2 := (sJ2.below hb8 (Nat.le_refl _)).more (Nat.le_refl _) hb8.size
  have sK := (sK.below hb8 (Nat.le_refl _)).more (Nat.le_refl _) hb8.size
  have bR1 := bR1.below' hb8
  have bC1 := bC1.below' hb8
  have B8 := Below.trans B7 (Below.mono hb8 B7.size)
  clear hb8 B7
  have bR2 := nbR2
  clear nbR2
  refine (implQualifiedOf_any r2 _ _ _ cs _ _ _ _ sZ2 sJ2 sK HSM.out).mono ?_
  rintro e w9 ⟨xL, rfl, oL, hb9⟩
  have z9 := hb9.size
  have sZ1 := (sZ1.below hb9 (Nat.le_refl _)).more (Nat.le_refl _) hb9.size
  have sJ1 := (sJ1.below hb9 (Nat.le_refl _)).more (Nat.le_refl _) hb9.size
  have sZ2 := (sZ2.below hb9 (Nat.le_refl _)).more (Nat.le_refl _) hb9.size
  have sJ2 := (sJ2.below hb9 (Nat.le_refl _)).more (Nat.le_refl _) hb9.size
  have sK := (sK.below hb9 (Nat.le_refl _)).more (Nat.le_refl _) hb9.size
  have bR1 := bR1.below' hb9
  have bC1 := bC1.below' hb9
  have bR2 := bR2.below' hb9
  have B9 := Below.trans B8 (Below.mono hb9 B8.size)
  clear hb9 B8
  have sL := ownI_sl oL
  clear oL
  obtain ⟨AL, cL, rfl, _, _⟩ := sL.form
  have q_bR2_0 : w9.cell? ⟨w7.heap.size, 0, none⟩ = some (.int .i64 r2.yr) := bR2.cell 0
  have q_bR2_1 : w9.cell? ⟨w7.heap.size, 1, none⟩ = some (.int .i64 r2.lo) := bR2.cell 1
  have q_bR2_2 : w9.cell? ⟨w7.heap.size, 2, none⟩ = some (.int .i64 r2.hi) := bR2.cell 2
  have q_bR2_3 : w9.cell? ⟨w7.heap.size, 3, none⟩ = some (.slice X2 r2.zones.length k2) := bR2.cell 3
  have q_bR2_4 : w9.cell? ⟨w7.heap.size, 4, none⟩ = some (.slice Y2 r2.jobs.length m2) := bR2.cell 4
  go_wp2_with fail
  clear q_bR2_0 q_bR2_1 q_bR2_2 q_bR2_3 q_bR2_4
  refine (specQualifiedOf_any r2 _ _ _ cs _ _ _ _ sZ2 sJ2 sK HSM.out).mono ?_
  rintro e w10 ⟨xM, rfl, oM, hb10⟩
  have z10 := hb10.size
  have sZ1 := (sZ1.below hb10 (Nat.le_refl _)).more (Nat.le_refl _) hb10.size
  have sJ1 := (sJ1.below hb10 (Nat.le_refl _)).more (Nat.le_refl _) hb10.size
  have sZ2 := (sZ2.below hb10 (Nat.le_refl _)).more (Nat.le_refl _) hb10.size
  have sJ2 := (sJ2.below hb10 (Nat.le_refl _)).more (Nat.le_refl _) hb10.size
  have sK := (sK.below hb10 (Nat.le_refl _)).more (Nat.le_refl _) hb10.size
  have sL := (sL.below hb10 (Nat.le_refl _)).more (Nat.le_refl _) hb10.size
  have bR1 := bR1.below' hb10
  have bC1 := bC1.below' hb10
  have bR2 := bR2.below' hb10
  have B10 := Below.trans B9 (Below.mono hb10 B9.size)
  clear hb10 B9
  have sM := ownI_sl oM
  clear oM
  obtain ⟨AM, cM, rfl, _, _⟩ := sM.form
  have q_bR2_0 : w10.cell? ⟨w7.heap.size, 0, none⟩ = some (.int .i64 r2.yr) := bR2.cell 0
  have q_bR2_1 : w10.cell? ⟨w7.heap.size, 1, none⟩ = some (.int .i64 r2.lo) := bR2.cell 1
  have q_bR2_2 : w10.cell? ⟨w7.heap.size, 2, none⟩ = some (.int .i64 r2.hi) := bR2.cell 2
  have q_bR2_3 : w10.cell? ⟨w7.heap.size, 3, none⟩ = some (.slice X2 r2.zones.length k2) := bR2.cell 3
  have q_bR2_4 : w10.cell? ⟨w7.heap.size, 4, none⟩ = some (.slice Y2 r2.jobs.length m2) := bR2.cell 4
  go_wp2_with fail
  clear q_bR2_0 q_bR2_1 q_bR2_2 q_bR2_3 q_bR2_4
  refine (implCountReasons_any r2 _ _ _ cs _ _ _ _ sZ2 sJ2 sK HSM.out).mono ?_
  rintro e w11 ⟨xP, rfl, oP, hb11⟩
  have z11 := hb11.size
  have sZ1 := (sZ1.below hb11 (Nat.le_refl _)).more (Nat.le_refl _) hb11.size
  have sJ1 := (sJ1.below hb11 (Nat.le_refl _)).more (Nat.le_refl _) hb11.size
  have sZ2 := (sZ2.below hb11 (Nat.le_refl _)).more (Nat.le_refl _) hb11.size
  have sJ2 := (sJ2.below hb11 (Nat.le_refl _)).more (Nat.le_refl _) hb11.size
  have sK := (sK.below hb11 (Nat.le_refl _)).more (Nat.le_refl _) hb11.size
  have sL := (sL.below hb11 (Nat.le_refl _)).more (Nat.le_refl _) hb11.size
  have sM := (sM.below hb11 (Nat.le_refl _)).more (Nat.le_refl _) hb11.size
  have bR1 := bR1.below' hb11
  have bC1 := bC1.below' hb11
  have bR2 := bR2.below' hb11
  have B11 := Below.trans B10 (Below.mono hb11 B10.size)
  clear hb11 B10
  have sP := ownI_sl oP
  clear oP
  have gsP := sP
  obtain ⟨AP, cP, rfl, _, _⟩ := sP.form
  have q_bR2_0 : w11.cell? ⟨w7.heap.size, 0, none⟩ = some (.int .i64 r2.yr) := bR2.cell 0
  have q_bR2_1 : w11.cell? ⟨w7.heap.size, 1, none⟩ = some (.int .i64 r2.lo) := bR2.cell 1
  have q_bR2_2 : w11.cell? ⟨w7.heap.size, 2, none⟩ = some (.int .i64 r2.hi) := bR2.cell 2
  have q_bR2_3 : w11.cell? ⟨w7.heap.size, 3, none⟩ = some (.slice X2 r2.zones.length k2) := bR2.cell 3
  have q_bR2_4 : w11.cell? ⟨w7.heap.size, 4, none⟩ = some (.slice Y2 r2.jobs.length m2) := bR2.cell 4
  go_wp2_with fail
  clear q_bR2_0 q_bR2_1 q_bR2_2 q_bR2_3 q_bR2_4
  refine (specCountReasons_any r2 _ _ _ cs _ _ _ _ sZ2 sJ2 sK HSM.out).mono ?_
  rintro e w12 ⟨xQ, rfl, oQ, hb12⟩
  have z12 := hb12.size
  have sZ1 := (sZ1.below hb12 (Nat.le_refl _)).more (Nat.le_refl _) hb12.size
  have sJ1 := (sJ1.below hb12 (Nat.le_refl _)).more (Nat.le_refl _) hb12.size
  have sZ2 := (sZ2.below hb12 (Nat.le_refl _)).more (Nat.le_refl _) hb12.size
  have sJ2 := (sJ2.below hb12 (Nat.le_refl _)).more (Nat.le_refl _) hb12.size
  have sK := (sK.below hb12 (Nat.le_refl _)).more (Nat.le_refl _) hb12.size
  have sL := (sL.below hb12 (Nat.le_refl _)).more (Nat.le_refl _) hb12.size
  have sM := (sM.below hb12 (Nat.le_refl _)).more (Nat.le_refl _) hb12.size
  have sP := (sP.below hb12 (Nat.le_refl _)).more (Nat.le_refl _) hb12.size
  have gsP := gsP.below hb12 (by omega)
  have bR1 := bR1.below' hb12
  have bC1 := bC1.below' hb12
  have bR2 := bR2.below' hb12
  have B12 := Below.trans B11 (Below.mono hb12 B11.size)
  clear hb12 B11
  have sQ := ownI_sl oQ
  clear oQ
  obtain ⟨AQ, cQ, rfl, _, _⟩ := sQ.form
  have HL := Lib.hid (count_law (r := r2) (cs := cs))
  have hlq := qualOfF_len r2 cs
  have hlc := countF_len r2 cs
  generalize (qualOfF r2 cs).1 = lq at *
  generalize (qualOfF r2 cs).2 = q3 at *
  generalize (countF r2 cs).1 = lc at *
  generalize (countF r2 cs).2 = q5 at *
  go_wp2_with fail
  refine (DrawQualifiedFrom_any v bs _ ((h.below B12 (Nat.le_refl _)).more (Nat.le_refl _) B12.size) hb).mono ?_
  rintro e w13 ⟨vz, vj, r3, d, rfl, sZ3, sJ3, hz3, hj3, hd, hb13⟩
  have z13 := hb13.size
  have sZ1 := (sZ1.below hb13 (Nat.le_refl _)).more (Nat.le_refl _) hb13.size
  have sJ1 := (sJ1.below hb13 (Nat.le_refl _)).more (Nat.le_refl _) hb13.size
  have sZ2 := (sZ2.below hb13 (Nat.le_refl _)).more (Nat.le_refl _) hb13.size
  have sJ2 := (sJ2.below hb13 (Nat.le_refl _)).more (Nat.le_refl _) hb13.size
  have sK := (sK.below hb13 (Nat.le_refl _)).more (Nat.le_refl _) hb13.size
  have sL := (sL.below hb13 (Nat.le_refl _)).more (Nat.le_refl _) hb13.size
  have sM := (sM.below hb13 (Nat.le_refl _)).more (Nat.le_refl _) hb13.size
  have sP := (sP.below hb13 (Nat.le_refl _)).more (Nat.le_refl _) hb13.size
  have sQ := (sQ.below hb13 (Nat.le_refl _)).more (Nat.le_refl _) hb13.size
  have gsP := gsP.below hb13 (by omega)
  have bR1 := bR1.below' hb13
  have bC1 := bC1.below' hb13
  have bR2 := bR2.below' hb13
  have B13 := Below.trans B12 (Below.mono hb13 B12.size)
  clear hb13 B12
  have gsZ3 := sZ3
  have gsJ3 := sJ3
  obtain ⟨X3, k3, rfl, _, _⟩ := sZ3.form
  obtain ⟨Y3, m3, rfl, _, _⟩ := sJ3.form
  have nbR3 : Blk ((w13.alloc (.cells #[.int .i64 r3.yr, .int .i64 r3.lo, .int .i64 r3.hi, .slice X3 r3.zones.length k3, .slice Y3 r3.jobs.length m3] 41)).alloc (.cells #[.int .i64 d.num, .string d.first, .string d.last, .int .i64 d.born, .int .i64 d.zone, .bool d.cit, .bool d.conv, .bool d.flu, .int .i64 d.job] 45)) (w13.heap.size) 41 #[.int .i64 r3.yr, .int .i64 r3.lo, .int .i64 r3.hi, .slice X3 r3.zones.length k3, .slice Y3 r3.jobs.length m3] := (Blk.new w13 _ _).alloc _
  have qn_bR3_0 : ((w13.alloc (.cells #[.int .i64 r3.yr, .int .i64 r3.lo, .int .i64 r3.hi, .slice X3 r3.zones.length k3, .slice Y3 r3.jobs.length m3] 41)).alloc (.cells #[.int .i64 d.num, .string d.first, .string d.last, .int .i64 d.born, .int .i64 d.zone, .bool d.cit, .bool d.conv, .bool d.flu, .int .i64 d.job] 45)).cell? ⟨w13.heap.size, 0, none⟩ = some (.int .i64 r3.yr) := nbR3.cell 0
  have qn_bR3_1 : ((w13.alloc (.cells #[.int .i64 r3.yr, .int .i64 r3.lo, .int .i64 r3.hi, .slice X3 r3.zones.length k3, .slice Y3 r3.jobs.length m3] 41)).alloc (.cells #[.int .i64 d.num, .string d.first, .string d.last, .int .i64 d.born, .int .i64 d.zone, .bool d.cit, .bool d.conv, .bool d.flu, .int .i64 d.job] 45)).cell? ⟨w13.heap.size, 1, none⟩ = some (.int .i64 r3.lo) := nbR3.cell 1
  have qn_bR3_2 : ((w13.alloc (.cells #[.int .i64 r3.yr, .int .i64 r3.lo, .int .i64 r3.hi, .slice X3 r3.zones.length k3, .slice Y3 r3.jobs.length m3] 41)).alloc (.cells #[.int .i64 d.num, .string d.first, .string d.last, .int .i64 d.born, .int .i64 d.zone, .bool d.cit, .bool d.conv, .bool d.flu, .int .i64 d.job] 45)).cell? ⟨w13.heap.size, 2, none⟩ = some (.int .i64 r3.hi) := nbR3.cell 2
  have qn_bR3_3 : ((w13.alloc (.cells #[.int .i64 r3.yr, .int .i64 r3.lo, .int .i64 r3.hi, .slice X3 r3.zones.length k3, .slice Y3 r3.jobs.length m3] 41)).alloc (.cells #[.int .i64 d.num, .string d.first, .string d.last, .int .i64 d.born, .int .i64 d.zone, .bool d.cit, .bool d.conv, .bool d.flu, .int .i64 d.job] 45)).cell? ⟨w13.heap.size, 3, none⟩ = some (.slice X3 r3.zones.length k3) := nbR3.cell 3
  have qn_bR3_4 : ((w13.alloc (.cells #[.int .i64 r3.yr, .int .i64 r3.lo, .int .i64 r3.hi, .slice X3 r3.zones.length k3, .slice Y3 r3.jobs.length m3] 41)).alloc (.cells #[.int .i64 d.num, .string d.first, .string d.last, .int .i64 d.born, .int .i64 d.zone, .bool d.cit, .bool d.conv, .bool d.flu, .int .i64 d.job] 45)).cell? ⟨w13.heap.size, 4, none⟩ = some (.slice Y3 r3.jobs.length m3) := nbR3.cell 4
  have nbC3 : Blk ((w13.alloc (.cells #[.int .i64 r3.yr, .int .i64 r3.lo, .int .i64 r3.hi, .slice X3 r3.zones.length k3, .slice Y3 r3.jobs.length m3] 41)).alloc (.cells #[.int .i64 d.num, .string d.first, .string d.last, .int .i64 d.born, .int .i64 d.zone, .bool d.cit, .bool d.conv, .bool d.flu, .int .i64 d.job] 45)) (w13.heap.size + 1) 45 #[.int .i64 d.num, .string d.first, .string d.last, .int .i64 d.born, .int .i64 d.zone, .bool d.cit, .bool d.conv, .bool d.flu, .int .i64 d.job] := Blk.new' (by simp)
  have qn_bC3_0 : ((w13.alloc (.cells #[.int .i64 r3.yr, .int .i64 r3.lo, .int .i64 r3.hi, .slice X3 r3.zones.length k3, .slice Y3 r3.jobs.length m3] 41)).alloc (.cells #[.int .i64 d.num, .string d.first, .string d.last, .int .i64 d.born, .int .i64 d.zone, .bool d.cit, .bool d.conv, .bool d.flu, .int .i64 d.job] 45)).cell? ⟨w13.heap.size + 1, 0, none⟩ = some (.int .i64 d.num) := nbC3.cell 0
  have qn_bC3_1 : ((w13.alloc (.cells #[.int .i64 r3.yr, .int .i64 r3.lo, .int .i64 r3.hi, .slice X3 r3.zones.length k3, .slice Y3 r3.jobs.length m3] 41)).alloc (.cells #[.int .i64 d.num, .string d.first, .string d.last, .int .i64 d.born, .int .i64 d.zone, .bool d.cit, .bool d.conv, .bool d.flu, .int .i64 d.job] 45)).cell? ⟨w13.heap.size + 1, 1, none⟩ = some (.string d.first) := nbC3.cell 1
  have qn_bC3_2 : ((w13.alloc (.cells #[.int .i64 r3.yr, .int .i64 r3.lo, .int .i64 r3.hi, .slice X3 r3.zones.length k3, .slice Y3 r3.jobs.length m3] 41)).alloc (.cells #[.int .i64 d.num, .string d.first, .string d.last, .int .i64 d.born, .int .i64 d.zone, .bool d.cit, .bool d.conv, .bool d.flu, .int .i64 d.job] 45)).cell? ⟨w13.heap.size + 1, 2, none⟩ = some (.string d.last) := nbC3.cell 2
  have qn_bC3_3 : ((w13.alloc (.cells #[.int .i64 r3.yr, .int .i64 r3.lo, .int .i64 r3.hi, .slice X3 r3.zones.length k3, .slice Y3 r3.jobs.length m3] 41)).alloc (.cells #[.int .i64 d.num, .string d.first, .string d.last, .int .i64 d.born, .int .i64 d.zone, .bool d.cit, .bool d.conv, .bool d.flu, .int .i64 d.job] 45)).cell? ⟨w13.heap.size + 1, 3, none⟩ = some (.int .i64 d.born) := nbC3.cell 3
  have qn_bC3_4 : ((w13.alloc (.cells #[.int .i64 r3.yr, .int .i64 r3.lo, .int .i64 r3.hi, .slice X3 r3.zones.length k3, .slice Y3 r3.jobs.length m3] 41)).alloc (.cells #[.int .i64 d.num, .string d.first, .string d.last, .int .i64 d.born, .int .i64 d.zone, .bool d.cit, .bool d.conv, .bool d.flu, .int .i64 d.job] 45)).cell? ⟨w13.heap.size + 1, 4, none⟩ = some (.int .i64 d.zone) := nbC3.cell 4
  have qn_bC3_5 : ((w13.alloc (.cells #[.int .i64 r3.yr, .int .i64 r3.lo, .int .i64 r3.hi, .slice X3 r3.zones.length k3, .slice Y3 r3.jobs.length m3] 41)).alloc (.cells #[.int .i64 d.num, .string d.first, .string d.last, .int .i64 d.born, .int .i64 d.zone, .bool d.cit, .bool d.conv, .bool d.flu, .int .i64 d.job] 45)).cell? ⟨w13.heap.size + 1, 5, none⟩ = some (.bool d.cit) := nbC3.cell 5
  have qn_bC3_6 : ((w13.alloc (.cells #[.int .i64 r3.yr, .int .i64 r3.lo, .int .i64 r3.hi, .slice X3 r3.zones.length k3, .slice Y3 r3.jobs.length m3] 41)).alloc (.cells #[.int .i64 d.num, .string d.first, .string d.last, .int .i64 d.born, .int .i64 d.zone, .bool d.cit, .bool d.conv, .bool d.flu, .int .i64 d.job] 45)).cell? ⟨w13.heap.size + 1, 6, none⟩ = some (.bool d.conv) := nbC3.cell 6
  have qn_bC3_7 : ((w13.alloc (.cells #[.int .i64 r3.yr, .int .i64 r3.lo, .int .i64 r3.hi, .slice X3 r3.zones.length k3, .slice Y3 r3.jobs.length m3] 41)).alloc (.cells #[.int .i64 d.num, .string d.first, .string d.last, .int .i64 d.born, .int .i64 d.zone, .bool d.cit, .bool d.conv, .bool d.flu, .int .i64 d.job] 45)).cell? ⟨w13.heap.size + 1, 7, none⟩ = some (.bool d.flu) := nbC3.cell 7
  have qn_bC3_8 : ((w13.alloc (.cells #[.int .i64 r3.yr, .int .i64 r3.lo, .int .i64 r3.hi, .slice X3 r3.zones.length k3, .slice Y3 r3.jobs.length m3] 41)).alloc (.cells #[.int .i64 d.num, .string d.first, .string d.last, .int .i64 d.born, .int .i64 d.zone, .bool d.cit, .bool d.conv, .bool d.flu, .int .i64 d.job] 45)).cell? ⟨w13.heap.size + 1, 8, none⟩ = some (.int .i64 d.job) := nbC3.cell 8
  go_wp2_with fail
  clear qn_bR3_0 qn_bR3_1 qn_bR3_2 qn_bR3_3 qn_bR3_4 qn_bC3_0 qn_bC3_1 qn_bC3_2 qn_bC3_3 qn_bC3_4 qn_bC3_5 qn_bC3_6 qn_bC3_7 qn_bC3_8
  have hb14 : Below w13.heap.size w13 ((w13.alloc (.cells #[.int .i64 r3.yr, .int .i64 r3.lo, .int .i64 r3.hi, .slice X3 r3.zones.length k3, .slice Y3 r3.jobs.length m3] 41)).alloc (.cells #[.int .i64 d.num, .string d.first, .string d.last, .int .i64 d.born, .int .i64 d.zone, .bool d.cit, .bool d.conv, .bool d.flu, .int .i64 d.job] 45)) := ((Below.refl _ _).alloc (Nat.le_refl _) _).alloc (by simp) _
  generalize ((w13.alloc (.cells #[.int .i64 r3.yr, .int .i64 r3.lo, .int .i64 r3.hi, .slice X3 r3.zones.length k3, .slice Y3 r3.jobs.length m3] 41)).alloc (.cells #[.int .i64 d.num, .string d.first, .string d.last, .int .i64 d.born, .int .i64 d.zone, .bool d.cit, .bool d.conv, .bool d.flu, .int .i64 d.job] 45)) = w14 at *
  have z14 := hb14.size
  have sZ1 := (sZ1.below hb14 (Nat.le_refl _)).more (Nat.le_refl _) hb14.size
  have sJ1 := (sJ1.below hb14 (Nat.le_refl _)).more (Nat.le_refl _) hb14.size
  have sZ2 := (sZ2.below hb14 (Nat.le_refl _)).more (Nat.le_refl _) hb14.size
  have sJ2 := (sJ2.below hb14 (Nat.le_refl _)).more (Nat.le_refl _) hb14.size
  have sK := (sK.below hb14 (Nat.le_refl _)).more (Nat.le_refl _) hb14.size
  have sL := (sL.below hb14 (Nat.le_refl _)).more (Nat.le_refl _) hb14.size
  have sM := (sM.below hb14 (Nat.le_refl _)).more (Nat.le_refl _) hb14.size
  have sP := (sP.below hb14 (Nat.le_refl _)).more (Nat.le_refl _) hb14.size
  have sQ := (sQ.below hb14 (Nat.le_refl _)).more (Nat.le_refl _) hb14.size
  have sZ3 := (sZ3.below hb14 (Nat.le_refl _)).more (Nat.le_refl _) hb14.size
  have sJ3 := (sJ3.below hb14 (Nat.le_refl _)).more (Nat.le_refl _) hb14.size
  have gsP := gsP.below hb14 (by omega)
  have gsZ3 := gsZ3.below hb14 (by omega)
  have gsJ3 := gsJ3.below hb14 (by omega)
  have bR1 := bR1.below' hb14
  have bC1 := bC1.below' hb14
  have bR2 := bR2.below' hb14
  have B14 := Below.trans B13 (Below.mono hb14 B13.size)
  clear hb14 B13
  have bR3 := nbR3
  clear nbR3
  have bC3 := nbC3
  clear nbC3
  refine (implQualifiedFrom_any r3 d _ _ _ _ _ sZ3 sJ3 hd).mono ?_
  rintro e w15 ⟨rfl, hb15⟩
  have z15 := hb15.size
  have sZ1 := (sZ1.below hb15 (Nat.le_refl _)).more (Nat.le_refl _) hb15.size
  have sJ1 := (sJ1.below hb15 (Nat.le_refl _)).more (Nat.le_refl _) hb15.size
  have sZ2 := (sZ2.below hb15 (Nat.le_refl _)).more (Nat.le_refl _) hb15.size
  have sJ2 := (sJ2.below hb15 (Nat.le_refl _)).more (Nat.le_refl _) hb15.size
  have sK := (sK.below hb15 (Nat.le_refl _)).more (Nat.le_refl _) hb15.size
  have sL := (sL.below hb15 (Nat.le_refl _)).more (Nat.le_refl _) hb15.size
  have sM := (sM.below hb15 (Nat.le_refl _)).more (Nat.le_refl _) hb15.size
  have sP := (sP.below hb15 (Nat.le_refl _)).more (Nat.le_refl _) hb15.size
  have sQ := (sQ.below hb15 (Nat.le_refl _)).more (Nat.le_refl _) hb15.size
  have sZ3 := (sZ3.below hb15 (Nat.le_refl _)).more (Nat.le_refl _) hb15.size
  have sJ3 := (sJ3.below hb15 (Nat.le_refl _)).more (Nat.le_refl _) hb15.size
  have gsP := gsP.below hb15 (by omega)
  have gsZ3 := gsZ3.below hb15 (by omega)
  have gsJ3 := gsJ3.below hb15 (by omega)
  have bR1 := bR1.below' hb15
  have bC1 := bC1.below' hb15
  have bR2 := bR2.below' hb15
  have bR3 := bR3.below' hb15
  have bC3 := bC3.below' hb15
  have B15 := Below.trans B14 (Below.mono hb15 B14.size)
  clear hb15 B14
  have q_bR3_0 : w15.cell? ⟨w13.heap.size, 0, none⟩ = some (.int .i64 r3.yr) := bR3.cell 0
  have q_bR3_1 : w15.cell? ⟨w13.heap.size, 1, none⟩ = some (.int .i64 r3.lo) := bR3.cell 1
  have q_bR3_2 : w15.cell? ⟨w13.heap.size, 2, none⟩ = some (.int .i64 r3.hi) := bR3.cell 2
  have q_bR3_3 : w15.cell? ⟨w13.heap.size, 3, none⟩ = some (.slice X3 r3.zones.length k3) := bR3.cell 3
  have q_bR3_4 : w15.cell? ⟨w13.heap.size, 4, none⟩ = some (.slice Y3 r3.jobs.length m3) := bR3.cell 4
  have q_bC3_0 : w15.cell? ⟨w13.heap.size + 1, 0, none⟩ = some (.int .i64 d.num) := bC3.cell 0
  have q_bC3_1 : w15.cell? ⟨w13.heap.size + 1, 1, none⟩ = some (.string d.first) := bC3.cell 1
  have q_bC3_2 : w15.cell? ⟨w13.heap.size + 1, 2, none⟩ = some (.string d.last) := bC3.cell 2
  have q_bC3_3 : w15.cell? ⟨w13.heap.size + 1, 3, none⟩ = some (.int .i64 d.born) := bC3.cell 3
  have q_bC3_4 : w15.cell? ⟨w13.heap.size + 1, 4, none⟩ = some (.int .i64 d.zone) := bC3.cell 4
  have q_bC3_5 : w15.cell? ⟨w13.heap.size + 1, 5, none⟩ = some (.bool d.cit) := bC3.cell 5
  have q_bC3_6 : w15.cell? ⟨w13.heap.size + 1, 6, none⟩ = some (.bool d.conv) := bC3.cell 6
  have q_bC3_7 : w15.cell? ⟨w13.heap.size + 1, 7, none⟩ = some (.bool d.flu) := bC3.cell 7
  have q_bC3_8 : w15.cell? ⟨w13.heap.size + 1, 8, none⟩ = some (.int .i64 d.job) := bC3.cell 8
  go_wp2_with fail
  clear q_bR3_0 q_bR3_1 q_bR3_2 q_bR3_3 q_bR3_4 q_bC3_0 q_bC3_1 q_bC3_2 q_bC3_3 q_bC3_4 q_bC3_5 q_bC3_6 q_bC3_7 q_bC3_8
  refine (specQualifiedFrom_any r3 d _ _ _ _ _ sZ3 sJ3 hd).mono ?_
  rintro e w16 ⟨rfl, hb16⟩
  have z16 := hb16.size
  have sZ1 := (sZ1.below hb16 (Nat.le_refl _)).more (Nat.le_refl _) hb16.size
  have sJ1 := (sJ1.below hb16 (Nat.le_refl _)).more (Nat.le_refl _) hb16.size
  have sZ2 := (sZ2.below hb16 (Nat.le_refl _)).more (Nat.le_refl _) hb16.size
  have sJ2 := (sJ2.below hb16 (Nat.le_refl _)).more (Nat.le_refl _) hb16.size
  have sK := (sK.below hb16 (Nat.le_refl _)).more (Nat.le_refl _) hb16.size
  have sL := (sL.below hb16 (Nat.le_refl _)).more (Nat.le_refl _) hb16.size
  have sM := (sM.below hb16 (Nat.le_refl _)).more (Nat.le_refl _) hb16.size
  have sP := (sP.below hb16 (Nat.le_refl _)).more (Nat.le_refl _) hb16.size
  have sQ := (sQ.below hb16 (Nat.le_refl _)).more (Nat.le_refl _) hb16.size
  have sZ3 := (sZ3.below hb16 (Nat.le_refl _)).more (Nat.le_refl _) hb16.size
  have sJ3 := (sJ3.below hb16 (Nat.le_refl _)).more (Nat.le_refl _) hb16.size
  have gsP := gsP.below hb16 (by omega)
  have gsZ3 := gsZ3.below hb16 (by omega)
  have gsJ3 := gsJ3.below hb16 (by omega)
  have bR1 := bR1.below' hb16
  have bC1 := bC1.below' hb16
  have bR2 := bR2.below' hb16
  have bR3 := bR3.below' hb16
  have bC3 := bC3.below' hb16
  have B16 := Below.trans B15 (Below.mono hb16 B15.size)
  clear hb16 B15
  have HF := Lib.hid (from_law (r := r3) (c := d))
  generalize (qualFromF r3 d).1 = f1 at *
  generalize (qualFromF r3 d).2 = f2 at *
  go_wp2_with fail
  refine (DrawReasonsText_any v bs _ ((h.below B16 (Nat.le_refl _)).more (Nat.le_refl _) B16.size) hb).mono ?_
  rintro e w17 ⟨n, rfl, hn1, hn2, hb17⟩
  have z17 := hb17.size
  have sZ1 := (sZ1.below hb17 (Nat.le_refl _)).more (Nat.le_refl _) hb17.size
  have sJ1 := (sJ1.below hb17 (Nat.le_refl _)).more (Nat.le_refl _) hb17.size
  have sZ2 := (sZ2.below hb17 (Nat.le_refl _)).more (Nat.le_refl _) hb17.size
  have sJ2 := (sJ2.below hb17 (Nat.le_refl _)).more (Nat.le_refl _) hb17.size
  have sK := (sK.below hb17 (Nat.le_refl _)).more (Nat.le_refl _) hb17.size
  have sL := (sL.below hb17 (Nat.le_refl _)).more (Nat.le_refl _) hb17.size
  have sM := (sM.below hb17 (Nat.le_refl _)).more (Nat.le_refl _) hb17.size
  have sP := (sP.below hb17 (Nat.le_refl _)).more (Nat.le_refl _) hb17.size
  have sQ := (sQ.below hb17 (Nat.le_refl _)).more (Nat.le_refl _) hb17.size
  have sZ3 := (sZ3.below hb17 (Nat.le_refl _)).more (Nat.le_refl _) hb17.size
  have sJ3 := (sJ3.below hb17 (Nat.le_refl _)).more (Nat.le_refl _) hb17.size
  have gsP := gsP.below hb17 (by omega)
  have gsZ3 := gsZ3.below hb17 (by omega)
  have gsJ3 := gsJ3.below hb17 (by omega)
  have bR1 := bR1.below' hb17
  have bC1 := bC1.below' hb17
  have bR2 := bR2.below' hb17
  have bR3 := bR3.below' hb17
  have bC3 := bC3.below' hb17
  have B17 := Below.trans B16 (Below.mono hb17 B16.size)
  clear hb17 B16
  go_wp2_with fail
  refine (implReasonsText_any n _).mono ?_
  rintro e w18 ⟨rfl, hb18⟩
  have z18 := hb18.size
  have sZ1 := (sZ1.below hb18 (Nat.le_refl _)).more (Nat.le_refl _) hb18.size
  have sJ1 := (sJ1.below hb18 (Nat.le_refl _)).more (Nat.le_refl _) hb18.size
  have sZ2 := (sZ2.below hb18 (Nat.le_refl _)).more (Nat.le_refl _) hb18.size
  have sJ2 := (sJ2.below hb18 (Nat.le_refl _)).more (Nat.le_refl _) hb18.size
  have sK := (sK.below hb18 (Nat.le_refl _)).more (Nat.le_refl _) hb18.size
  have sL := (sL.below hb18 (Nat.le_refl _)).more (Nat.le_refl _) hb18.size
  have sM := (sM.below hb18 (Nat.le_refl _)).more (Nat.le_refl _) hb18.size
  have sP := (sP.below hb18 (Nat.le_refl _)).more (Nat.le_refl _) hb18.size
  have sQ := (sQ.below hb18 (Nat.le_refl _)).more (Nat.le_refl _) hb18.size
  have sZ3 := (sZ3.below hb18 (Nat.le_refl _)).more (Nat.le_refl _) hb18.size
  have sJ3 := (sJ3.below hb18 (Nat.le_refl _)).more (Nat.le_refl _) hb18.size
  have gsP := gsP.below hb18 (by omega)
  have gsZ3 := gsZ3.below hb18 (by omega)
  have gsJ3 := gsJ3.below hb18 (by omega)
  have bR1 := bR1.below' hb18
  have bC1 := bC1.below' hb18
  have bR2 := bR2.below' hb18
  have bR3 := bR3.below' hb18
  have bC3 := bC3.below' hb18
  have B18 := Below.trans B17 (Below.mono hb18 B17.size)
  clear hb18 B17
  go_wp2_with fail
  refine (specReasonsText_any n _).mono ?_
  rintro e w19 ⟨rfl, hb19⟩
  have z19 := hb19.size
  have sZ1 := (sZ1.below hb19 (Nat.le_refl _)).more (Nat.le_refl _) hb19.size
  have sJ1 := (sJ1.below hb19 (Nat.le_refl _)).more (Nat.le_refl _) hb19.size
  have sZ2 := (sZ2.below hb19 (Nat.le_refl _)).more (Nat.le_refl _) hb19.size
  have sJ2 := (sJ2.below hb19 (Nat.le_refl _)).more (Nat.le_refl _) hb19.size
  have sK := (sK.below hb19 (Nat.le_refl _)).more (Nat.le_refl _) hb19.size
  have sL := (sL.below hb19 (Nat.le_refl _)).more (Nat.le_refl _) hb19.size
  have sM := (sM.below hb19 (Nat.le_refl _)).more (Nat.le_refl _) hb19.size
  have sP := (sP.below hb19 (Nat.le_refl _)).more (Nat.le_refl _) hb19.size
  have sQ := (sQ.below hb19 (Nat.le_refl _)).more (Nat.le_refl _) hb19.size
  have sZ3 := (sZ3.below hb19 (Nat.le_refl _)).more (Nat.le_refl _) hb19.size
  have sJ3 := (sJ3.below hb19 (Nat.le_refl _)).more (Nat.le_refl _) hb19.size
  have gsP := gsP.below hb19 (by omega)
  have gsZ3 := gsZ3.below hb19 (by omega)
  have gsJ3 := gsJ3.below hb19 (by omega)
  have bR1 := bR1.below' hb19
  have bC1 := bC1.below' hb19
  have bR2 := bR2.below' hb19
  have bR3 := bR3.below' hb19
  have bC3 := bC3.below' hb19
  have B19 := Below.trans B18 (Below.mono hb19 B18.size)
  clear hb19 B18
  have HD := Lib.hid (dash_law n)
  generalize str (rsnF n).1 = ts at *
  generalize (rsnF n).2 = t2 at *
  have hbe := bl_eq ts
  have q_bR1_0 : w19.cell? ⟨w1.heap.size, 0, none⟩ = some (.int .i64 r.yr) := bR1.cell 0
  have q_bR1_1 : w19.cell? ⟨w1.heap.size, 1, none⟩ = some (.int .i64 r.lo) := bR1.cell 1
  have q_bR1_2 : w19.cell? ⟨w1.heap.size, 2, none⟩ = some (.int .i64 r.hi) := bR1.cell 2
  have q_bR1_3 : w19.cell? ⟨w1.heap.size, 3, none⟩ = some (.slice X1 r.zones.length k1) := bR1.cell 3
  have q_bR1_4 : w19.cell? ⟨w1.heap.size, 4, none⟩ = some (.slice Y1 r.jobs.length m1) := bR1.cell 4
  have l_bR1 := bR1.lt
  have q_bC1_0 : w19.cell? ⟨w1.heap.size + 1, 0, none⟩ = some (.int .i64 c.num) := bC1.cell 0
  have q_bC1_1 : w19.cell? ⟨w1.heap.size + 1, 1, none⟩ = some (.string c.first) := bC1.cell 1
  have q_bC1_2 : w19.cell? ⟨w1.heap.size + 1, 2, none⟩ = some (.string c.last) := bC1.cell 2
  have q_bC1_3 : w19.cell? ⟨w1.heap.size + 1, 3, none⟩ = some (.int .i64 c.born) := bC1.cell 3
  have q_bC1_4 : w19.cell? ⟨w1.heap.size + 1, 4, none⟩ = some (.int .i64 c.zone) := bC1.cell 4
  have q_bC1_5 : w19.cell? ⟨w1.heap.size + 1, 5, none⟩ = some (.bool c.cit) := bC1.cell 5
  have q_bC1_6 : w19.cell? ⟨w1.heap.size + 1, 6, none⟩ = some (.bool c.conv) := bC1.cell 6
  have q_bC1_7 : w19.cell? ⟨w1.heap.size + 1, 7, none⟩ = some (.bool c.flu) := bC1.cell 7
  have q_bC1_8 : w19.cell? ⟨w1.heap.size + 1, 8, none⟩ = some (.int .i64 c.job) := bC1.cell 8
  have l_bC1 := bC1.lt
  go_wp2_with fail
  refine wp_region_ext (by kernel_rfl) (by kernel_rfl) ?_
  simp only [List.append]
  repeat (go_big_quiet_step (first
    | (go_at_call 44; with_reducible exact calls_ext (likeInts_same _ _ lq _ _ _ (SlR.ext sL (Nat.le_refl _) _) (SlR.ext sM (Nat.le_refl _) _)))
    | (go_at_call 44; with_reducible exact calls_ext (likeInts_same _ _ lc _ _ _ (SlR.ext sP (Nat.le_refl _) _) (SlR.ext sQ (Nat.le_refl _) _)))
    | (go_at_call 45; with_reducible exact calls_ext (implAreRules_any r _ _ _ _ _ (SlR.ext sZ1 (Nat.le_refl _) _) (SlR.ext sJ1 (Nat.le_refl _) _)))
    | (go_at_call 46; with_reducible exact calls_ext (specAreRules_any r _ _ _ _ _ (SlR.ext sZ1 (Nat.le_refl _) _) (SlR.ext sJ1 (Nat.le_refl _) _)))
    | (go_at_call 47; with_reducible exact calls_ext (implIsCandidate_any c _ hc))
    | (go_at_call 48; with_reducible exact calls_ext (specIsCandidate_any c _ hc))))
  refine wpQuiet_nil ?_
  intro w20 hb20
  clear q_bR1_0 q_bR1_1 q_bR1_2 q_bR1_3 q_bR1_4 l_bR1 q_bC1_0 q_bC1_1 q_bC1_2 q_bC1_3 q_bC1_4 q_bC1_5 q_bC1_6 q_bC1_7 q_bC1_8 l_bC1
  have z20 := hb20.size
  have sZ1 := (sZ1.below hb20 (Nat.le_refl _)).more (Nat.le_refl _) hb20.size
  have sJ1 := (sJ1.below hb20 (Nat.le_refl _)).more (Nat.le_refl _) hb20.size
  have sZ2 := (sZ2.below hb20 (Nat.le_refl _)).more (Nat.le_refl _) hb20.size
  have sJ2 := (sJ2.below hb20 (Nat.le_refl _)).more (Nat.le_refl _) hb20.size
  have sK := (sK.below hb20 (Nat.le_refl _)).more (Nat.le_refl _) hb20.size
  have sL := (sL.below hb20 (Nat.le_refl _)).more (Nat.le_refl _) hb20.size
  have sM := (sM.below hb20 (Nat.le_refl _)).more (Nat.le_refl _) hb20.size
  have sP := (sP.below hb20 (Nat.le_refl _)).more (Nat.le_refl _) hb20.size
  have sQ := (sQ.below hb20 (Nat.le_refl _)).more (Nat.le_refl _) hb20.size
  have sZ3 := (sZ3.below hb20 (Nat.le_refl _)).more (Nat.le_refl _) hb20.size
  have sJ3 := (sJ3.below hb20 (Nat.le_refl _)).more (Nat.le_refl _) hb20.size
  have gsP := gsP.below hb20 (by omega)
  have gsZ3 := gsZ3.below hb20 (by omega)
  have gsJ3 := gsJ3.below hb20 (by omega)
  have bR1 := bR1.below' hb20
  have bC1 := bC1.below' hb20
  have bR2 := bR2.below' hb20
  have bR3 := bR3.below' hb20
  have bC3 := bC3.below' hb20
  have B20 := Below.trans B19 (Below.mono hb20 B19.size)
  clear hb20 B19
  clear bR1
  clear bC1
  clear bR2
  clear sZ1
  clear sJ1
  clear sZ2
  clear sJ2
  clear sK
  clear sL
  clear sM
  clear sQ
  by_cases hf : f2 = 0
  · skip
    subst hf
    have hqf := HF.out rfl
    clear HF
    have hR3 : w.heap.size ≤ w13.heap.size := by omega
    have bS : Blk (w20.setCell ⟨w13.heap.size, 0, none⟩ (.int .i64 f1)) (w13.heap.size) 41 #[.int .i64 f1, .int .i64 r3.lo, .int .i64 r3.hi, .slice X3 r3.zones.length k3, .slice Y3 r3.jobs.length m3] := by
      have := bR3.set_ 0 (.int .i64 f1)
      simpa using this
    have bT : Blk (w20.setCell ⟨w13.heap.size, 0, none⟩ (.int .i64 f1)) (w13.heap.size + 1) 45 #[.int .i64 d.num, .string d.first, .string d.last, .int .i64 d.born, .int .i64 d.zone, .bool d.cit, .bool d.conv, .bool d.flu, .int .i64 d.job] := bC3.far (p := ⟨w13.heap.size, 0, none⟩) (by simp) (.int .i64 f1)
    have BS : Below w.heap.size w (w20.setCell ⟨w13.heap.size, 0, none⟩ (.int .i64 f1)) := B20.setCell hR3 _
    have zS := size_setCell w20 ⟨w13.heap.size, 0, none⟩ (.int .i64 f1)
    have tsZ3 := SlR.setCell gsZ3 ⟨w13.heap.size, 0, none⟩ (.int .i64 f1) (.inr (by dsimp only; omega))
    have tsJ3 := SlR.setCell gsJ3 ⟨w13.heap.size, 0, none⟩ (.int .i64 f1) (.inr (by dsimp only; omega))
    have tsP := SlR.setCell gsP ⟨w13.heap.size, 0, none⟩ (.int .i64 f1) (.inr (by dsimp only; omega))
    have q_0 : w20.cell? ⟨w13.heap.size, 0, none⟩ = some (.int .i64 r3.yr) := bR3.cell 0
    have q_1 : w20.cell? ⟨w13.heap.size, 1, none⟩ = some (.int .i64 r3.lo) := bR3.cell 1
    have q_2 : w20.cell? ⟨w13.heap.size, 2, none⟩ = some (.int .i64 r3.hi) := bR3.cell 2
    have q_3 : w20.cell? ⟨w13.heap.size, 3, none⟩ = some (.slice X3 r3.zones.length k3) := bR3.cell 3
    have q_4 : w20.cell? ⟨w13.heap.size, 4, none⟩ = some (.slice Y3 r3.jobs.length m3) := bR3.cell 4
    have q_f : w20.frozen? ⟨w13.heap.size, 0, none⟩ = false := bR3.frozen 0
    have s_0 : (w20.setCell ⟨w13.heap.size, 0, none⟩ (.int .i64 f1)).cell? ⟨w13.heap.size, 0, none⟩ = some (.int .i64 f1) := bS.cell 0
    have s_1 : (w20.setCell ⟨w13.heap.size, 0, none⟩ (.int .i64 f1)).cell? ⟨w13.heap.size, 1, none⟩ = some (.int .i64 r3.lo) := bS.cell 1
    have s_2 : (w20.setCell ⟨w13.heap.size, 0, none⟩ (.int .i64 f1)).cell? ⟨w13.heap.size, 2, none⟩ = some (.int .i64 r3.hi) := bS.cell 2
    have s_3 : (w20.setCell ⟨w13.heap.size, 0, none⟩ (.int .i64 f1)).cell? ⟨w13.heap.size, 3, none⟩ = some (.slice X3 r3.zones.length k3) := bS.cell 3
    have s_4 : (w20.setCell ⟨w13.heap.size, 0, none⟩ (.int .i64 f1)).cell? ⟨w13.heap.size, 4, none⟩ = some (.slice Y3 r3.jobs.length m3) := bS.cell 4
    have u_0 : (w20.setCell ⟨w13.heap.size, 0, none⟩ (.int .i64 f1)).cell? ⟨w13.heap.size + 1, 0, none⟩ = some (.int .i64 d.num) := bT.cell 0
    have u_1 : (w20.setCell ⟨w13.heap.size, 0, none⟩ (.int .i64 f1)).cell? ⟨w13.heap.size + 1, 1, none⟩ = some (.string d.first) := bT.cell 1
    have u_2 : (w20.setCell ⟨w13.heap.size, 0, none⟩ (.int .i64 f1)).cell? ⟨w13.heap.size + 1, 2, none⟩ = some (.string d.last) := bT.cell 2
    have u_3 : (w20.setCell ⟨w13.heap.size, 0, none⟩ (.int .i64 f1)).cell? ⟨w13.heap.size + 1, 3, none⟩ = some (.int .i64 d.born) := bT.cell 3
    have u_4 : (w20.setCell ⟨w13.heap.size, 0, none⟩ (.int .i64 f1)).cell? ⟨w13.heap.size + 1, 4, none⟩ = some (.int .i64 d.zone) := bT.cell 4
    have u_5 : (w20.setCell ⟨w13.heap.size, 0, none⟩ (.int .i64 f1)).cell? ⟨w13.heap.size + 1, 5, none⟩ = some (.bool d.cit) := bT.cell 5
    have u_6 : (w20.setCell ⟨w13.heap.size, 0, none⟩ (.int .i64 f1)).cell? ⟨w13.heap.size + 1, 6, none⟩ = some (.bool d.conv) := bT.cell 6
    have u_7 : (w20.setCell ⟨w13.heap.size, 0, none⟩ (.int .i64 f1)).cell? ⟨w13.heap.size + 1, 7, none⟩ = some (.bool d.flu) := bT.cell 7
    have u_8 : (w20.setCell ⟨w13.heap.size, 0, none⟩ (.int .i64 f1)).cell? ⟨w13.heap.size + 1, 8, none⟩ = some (.int .i64 d.job) := bT.cell 8
    go_wp2_with fail
    clear q_0 q_1 q_2 q_3 q_4 q_f s_0 s_1 s_2 s_3 s_4 u_0 u_1 u_2 u_3 u_4 u_5 u_6 u_7 u_8
    generalize (w20.setCell ⟨w13.heap.size, 0, none⟩ (.int .i64 f1)) = w21 at *
    have sZ3 := tsZ3.more (lo' := 0) (hi' := w21.heap.size) (Nat.zero_le _) (by omega)
    have sJ3 := tsJ3.more (lo' := 0) (hi' := w21.heap.size) (Nat.zero_le _) (by omega)
    have sP := tsP.more (lo' := 0) (hi' := w21.heap.size) (Nat.zero_le _) (by omega)
    have CI := implIsQualified_any (r3.at f1) d _ _ _ _ _ sZ3 sJ3 hd
    rw [hqf] at CI
    refine CI.mono ?_
    clear CI
    rintro e w22 ⟨rfl, hb22⟩
    have B22 := BS.trans (hb22.mono BS.size)
    have sP := (sP.below hb22 (Nat.le_refl _)).more (Nat.le_refl _) hb22.size
    clear hb22 sZ3 sJ3 bR3 bC3 bS bT gsP gsZ3 gsJ3
    by_cases h3 : q3 = 0
    · skip
      subst h3
      obtain ⟨rfl, hxs⟩ := HL.out rfl
      have HX := Lib.hid hxs
      clear hxs HL
      go_wp2_with fail
      go_loop [36] (fun i => ∃ (j : Nat), i = .int .i64 j ∧ j ≤ lc.length) (fun i => lc.length - (intOf i).toNat)
      case atStart => exact ⟨0, rfl, Nat.zero_le _⟩
      case round =>
        obtain ⟨j, rfl, hj⟩ := hrel
        by_cases hlt : j < lc.length
        · skip
          obtain ⟨x, hx⟩ := some_at hlt
          obtain ⟨bb, off, rfl, _, _, cx⟩ := sP.int_at hx
          have hle := HX.out x (List.mem_of_getElem? hx)
          have hdx : decide ((cs.length : Int) - (lq.length : Int) < x) = false := decide_eq_false (by omega)
          clear hx hle
          go_wp2_with fail
          go_round
          case rel => exact ⟨j + 1, by go_num, hlt⟩
          case measure => simp [intOf]; omega
        · skip
          have hjn : j = lc.length := by omega
          subst hjn
          clear HX
          rcases HD.out with ⟨rfl, hdash⟩ | rfl
          · clear HD
            obtain ⟨b3, hb3⟩ : ∃ b, (n == 0) = b := ⟨_, rfl⟩
            rw [hb3] at hdash
            rcases HA.out with ⟨rfl, hq⟩ | rfl
            · clear HA
              obtain ⟨b2, hb2⟩ : ∃ b, (a1 == 0) = b := ⟨_, rfl⟩
              rw [hb2] at hq
              subst hq
              go_wp2_with fail
              go_ret
              exact ⟨rfl, B22⟩
            · clear HA
              go_wp2_with fail
              go_ret
              exact ⟨rfl, B22⟩
          · clear HD
            rcases HA.out with ⟨rfl, hq⟩ | rfl
            · clear HA
              obtain ⟨b2, hb2⟩ : ∃ b, (a1 == 0) = b := ⟨_, rfl⟩
              rw [hb2] at hq
              subst hq
              go_wp2_with fail
              go_ret
              exact ⟨rfl, B22⟩
            · clear HA
              go_wp2_with fail
              go_ret
              exact ⟨rfl, B22⟩
    · skip
      have d3 : (q3 == 0) = false := by simpa using h3
      clear HL
      rcases HD.out with ⟨rfl, hdash⟩ | rfl
      · clear HD
        obtain ⟨b3, hb3⟩ : ∃ b, (n == 0) = b := ⟨_, rfl⟩
        rw [hb3] at hdash
        rcases HA.out with ⟨rfl, hq⟩ | rfl
        · clear HA
          obtain ⟨b2, hb2⟩ : ∃ b, (a1 == 0) = b := ⟨_, rfl⟩
          rw [hb2] at hq
          subst hq
          go_wp2_with fail
          go_ret
          exact ⟨rfl, B22⟩
        · clear HA
          go_wp2_with fail
          go_ret
          exact ⟨rfl, B22⟩
      · clear HD
        rcases HA.out with ⟨rfl, hq⟩ | rfl
        · clear HA
          obtain ⟨b2, hb2⟩ : ∃ b, (a1 == 0) = b := ⟨_, rfl⟩
          rw [hb2] at hq
          subst hq
          go_wp2_with fail
          go_ret
          exact ⟨rfl, B22⟩
        · clear HA
          go_wp2_with fail
          go_ret
          exact ⟨rfl, B22⟩
  · skip
    have df : (f2 == 0) = false := by simpa using hf
    clear HF sZ3 sJ3 bR3 bC3 gsP gsZ3 gsJ3
    by_cases h3 : q3 = 0
    · skip
      subst h3
      obtain ⟨rfl, hxs⟩ := HL.out rfl
      have HX := Lib.hid hxs
      clear hxs HL
      go_wp2_with fail
      go_loop [36] (fun i => ∃ (j : Nat), i = .int .i64 j ∧ j ≤ lc.length) (fun i => lc.length - (intOf i).toNat)
      case atStart => exact ⟨0, rfl, Nat.zero_le _⟩
      case round =>
        obtain ⟨j, rfl, hj⟩ := hrel
        by_cases hlt : j < lc.length
        · skip
          obtain ⟨x, hx⟩ := some_at hlt
          obtain ⟨bb, off, rfl, _, _, cx⟩ := sP.int_at hx
          have hle := HX.out x (List.mem_of_getElem? hx)
          have hdx : decide ((cs.length : Int) - (lq.length : Int) < x) = false := decide_eq_false (by omega)
          clear hx hle
          go_wp2_with fail
          go_round
          case rel => exact ⟨j + 1, by go_num, hlt⟩
          case measure => simp [intOf]; omega
        · skip
          have hjn : j = lc.length := by omega
          subst hjn
          clear HX
          rcases HD.out with ⟨rfl, hdash⟩ | rfl
          · clear HD
            obtain ⟨b3, hb3⟩ : ∃ b, (n == 0) = b := ⟨_, rfl⟩
            rw [hb3] at hdash
            rcases HA.out with ⟨rfl, hq⟩ | rfl
            · clear HA
              obtain ⟨b2, hb2⟩ : ∃ b, (a1 == 0) = b := ⟨_, rfl⟩
              rw [hb2] at hq
              subst hq
              go_wp2_with fail
              go_ret
              exact ⟨rfl, B20⟩
            · clear HA
              go_wp2_with fail
              go_ret
              exact ⟨rfl, B20⟩
          · clear HD
            rcases HA.out with ⟨rfl, hq⟩ | rfl
            · clear HA
              obtain ⟨b2, hb2⟩ : ∃ b, (a1 == 0) = b := ⟨_, rfl⟩
              rw [hb2] at hq
              subst hq
              go_wp2_with fail
              go_ret
              exact ⟨rfl, B20⟩
            · clear HA
              go_wp2_with fail
              go_ret
              exact ⟨rfl, B20⟩
    · skip
      have d3 : (q3 == 0) = false := by simpa using h3
      clear HL
      rcases HD.out with ⟨rfl, hdash⟩ | rfl
      · clear HD
        obtain ⟨b3, hb3⟩ : ∃ b, (n == 0) = b := ⟨_, rfl⟩
        rw [hb3] at hdash
        rcases HA.out with ⟨rfl, hq⟩ | rfl
        · clear HA
          obtain ⟨b2, hb2⟩ : ∃ b, (a1 == 0) = b := ⟨_, rfl⟩
          rw [hb2] at hq
          subst hq
          go_wp2_with fail
          go_ret
          exact ⟨rfl, B20⟩
        · clear HA
          go_wp2_with fail
          go_ret
          exact ⟨rfl, B20⟩
      · clear HD
        rcases HA.out with ⟨rfl, hq⟩ | rfl
        · clear HA
          obtain ⟨b2, hb2⟩ : ∃ b, (a1 == 0) = b := ⟨_, rfl⟩
          rw [hb2] at hq
          subst hq
          go_wp2_with fail
          go_ret
          exact ⟨rfl, B20⟩
        · clear HA
          go_wp2_with fail
          go_ret
          exact ⟨rfl, B20⟩

theorem walk (v0 : Value) (w : World) (g0 : ∃ zs : List Int, SlR u8s 1 w 0 w.heap.size v0 zs ∧ ∀ b ∈ zs, 0 ≤ b ∧ b ≤ 255) :
    Calls Try.prog 8 #[v0] w fun e w' => e = .returned (.bool true) ∧ Below w.heap.size w w' := by
  obtain ⟨bs, h, hb⟩ := g0
  exact walkL v0 bs w h hb

theorem own : ownKnob Try.prog.godebug = none := by kernel_rfl
theorem laidOut : laidOutB Try.prog = true := by kernel_rfl

set_option maxRecDepth 100000 in
theorem lifted (os : Os) (started : os.Started) (H : Type) (enc : TypeId × Value → H) :
    ReturnsInHanded {} Try.checked os 8 .any (Rows.fnQualifiedSpec.pre6 enc Try.prog Try.f8 Rows.fnQualifiedRow.domain false) (Rows.fnQualifiedSpec.post enc Try.prog Try.f8 false true false false) := by
  refine returnsInHanded_of_change (C := Try.checked) own started (by kernel_rfl) Try.func8
    (ChangeSpec.witness6 (enc := enc) (C := Try.checked) false ⟨#[], #[.slice none 0 0], []⟩ 8 (by kernel_rfl) (by kernel_rfl) (by kernel_rfl) (by kernel_rfl)) ?_
  intro W base args ds gs before hval0 hW hcnd _
  have hval : ∀ (j : Nat) t v, Try.f8.params[j]? = some t → args[j]? = some v → Value.okWide Try.prog W .any base t v := hval0
  have hW' := hW
  obtain ⟨p, q, hA0, hV, rfl, hfz, hnd⟩ := hW
  have hA : DataW.TrodAll enc Try.prog W 0 (fun _ => true) true Try.f8.params.toList args.toList ds p := hA0
  rw [Try.params8] at hA hval
  obtain ⟨v0, vs0, d0, ds0, p0, q0, hargs, rfl, rfl, h0, r0⟩ := trodAll_cons hA
  obtain ⟨rfl, rfl, rfl⟩ := trodAll_nil r0
  obtain rfl : args = #[v0] := by cases args; simp_all
  obtain ⟨rfl, rfl⟩ := trodVars_none hV
  have lt0 : ∀ x ∈ p0, x.block < W.heap.size := by obtain ⟨m, hm⟩ := h0; exact DataW.trod_lt m _ _ _ hm
  have g0 := open_ByteS (hval 0 63 v0 rfl rfl) h0
  clear hA0 hval0
  refine (walk v0 W g0).mono fun e W' ⟨he, bel⟩ => ?_
  subst he
  exact ⟨_, rfl, _, _, _, [], _, [], hW', trodAll_mk1 (shut_bool Try.underlying4 _), (trodAll_cons_mk (Below.trod laidOut (by kernel_rfl) (of_decide_eq_true (by kernel_rfl)) h0 bel lt0) trodAll_mk0), rfl, bel.frame _, fun h => by cases h⟩

theorem over : Rows.fnQualifiedRow.holds Try.pinned (OpenSpec.ofChange Rows.fnQualifiedSpec) :=
  OpenClaim.holds_of_wide 8 Try.f8 rfl rfl rfl rfl rfl rfl rfl ⟨rfl, rfl, rfl, rfl, rfl⟩ rfl rfl rfl rfl rfl (by kernel_rfl) Try.func8 (by kernel_rfl)
    (of_decide_eq_true (by kernel_rfl)) (by unfold Func.isWrapper; first | (rw [if_pos (by decide +kernel)]; kernel_rfl) | (rw [if_neg (by decide +kernel)]; exact ⟨rfl, rfl⟩))
    (fun os started H enc _ => lifted os started H enc)

theorem proved : Rows.FnQualifiedSaid := over
#print axioms proved
end Go.Proofs.Ytkhojhgcopnenaa.lawFnQualified

