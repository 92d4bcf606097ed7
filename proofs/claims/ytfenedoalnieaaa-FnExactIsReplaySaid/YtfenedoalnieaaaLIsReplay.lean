/- FnExactIsReplay: for every input the law returns true, and each argument reads as it did. No condition. -/
import Derived.Test.YtfenedoalnieaaaPoolN
import Derived.Test.YtfenedoalnieaaaPoolG
import Derived.Test.YtfenedoalnieaaaReg
namespace Go.Proofs.Ytfenedoalnieaaa.lawFnExactIsReplay
open Go.ChangeShapes Go.WideShapes Go.ChangeAt Go.RowKit

set_option maxRecDepth 100000 in
set_option maxHeartbeats 4000000 in
theorem walkL (vn0 vd0 : Value) (p0 : P3) (n1 : Int) (w : World) (hn0 : SlI w 0 w.heap.size vn0 p0.nums) (hd0 : SlI w 0 w.heap.size vd0 p0.drawn) :
    Calls Try.prog 8 #[.agg #[vn0, vd0, .int .i64 p0.st], .int .i64 n1] w fun e w' => e = .returned (.bool true) ∧ Below w.heap.size w w' := by
  have hB0 : Below w.heap.size w w := Below.refl _ _
  have hq : (0:Int) ≤ 1048576 ∧ (1048576:Int) ≤ 1048576 := by omega
  go_enter Try.func8, Try.ntmps8
  go_wp2_with fail
  have hz1 : (w.alloc (.cells #[vn0, vd0, .int .i64 p0.st] 24)).heap.size = w.heap.size + 1 := by simp
  have hb1 : Below w.heap.size w (w.alloc (.cells #[vn0, vd0, .int .i64 p0.st] 24)) := (Below.refl _ _).alloc (Nat.le_refl _) _
  have bx := Blk.new w 24 #[vn0, vd0, .int .i64 p0.st]
  generalize (w.alloc (.cells #[vn0, vd0, .int .i64 p0.st] 24)) = w1 at *
  have z1 := hb1.size
  have hn0 := hn0.below hb1 (by omega)
  have hd0 := hd0.below hb1 (by omega)
  have B1 := Below.trans hB0 (Below.mono hb1 (by omega))
  clear hb1
  have bA0 := bx
  clear bx
  rcases Nat.lt_or_ge 1048576 (p0.nums.length + p0.drawn.length) with hbig | hs0
  · refine (szPool_big vn0 vd0 p0.nums p0.drawn p0.st _ (hn0.more (Nat.le_refl _) (by omega)) (hd0.more (Nat.le_refl _) (by omega)) (Nat.le_refl _) (Nat.le_refl _) hbig).mono ?_
    rintro e wz ⟨rfl, hbz⟩
    go_wp2_with fail
    go_ret
    exact ⟨rfl, B1.trans (hbz.mono (by omega))⟩
  have hk0 : (0 : Int) ≤ 1048576 - (p0.nums.length : Int) - (p0.drawn.length : Int) := by omega
  refine (szPool_small vn0 vd0 p0.nums p0.drawn p0.st _ (hn0.more (Nat.le_refl _) (by omega)) (hd0.more (Nat.le_refl _) (by omega)) (Nat.le_refl _) (Nat.le_refl _) hs0).mono ?_
  rintro e w2 ⟨rfl, hb2⟩
  have z2 := hb2.size
  have hn0 := hn0.below hb2 (by omega)
  have hd0 := hd0.below hb2 (by omega)
  have bA0 := bA0.below' hb2
  have B2 := Below.trans B1 (Below.mono hb2 (by omega))
  clear hb2
  clear B1
  have q_bA0_0 : w2.cell? ⟨w.heap.size, 0, none⟩ = some (vn0) := bA0.cell 0
  have q_bA0_1 : w2.cell? ⟨w.heap.size, 1, none⟩ = some (vd0) := bA0.cell 1
  have q_bA0_2 : w2.cell? ⟨w.heap.size, 2, none⟩ = some (.int .i64 p0.st) := bA0.cell 2
  go_wp2_with fail
  clear q_bA0_0 q_bA0_1 q_bA0_2
  refine (toPool_z vn0 vd0 p0 _ _ _ (hn0.more (Nat.le_refl _) (by omega)) (hd0.more (Nat.le_refl _) (by omega)) (by omega) (by omega)).mono ?_
  rintro e w3 ⟨xn3, xd3, Q3, rfl, o3n, o3d, hQ3, hq3, hb3⟩
  have z3 := hb3.size
  have hn0 := hn0.below hb3 (by omega)
  have hd0 := hd0.below hb3 (by omega)
  have bA0 := bA0.below' hb3
  have B3 := Below.trans B2 (Below.mono hb3 (by omega))
  clear hb3
  clear B2
  obtain ⟨Xn3, kn3, rfl, _, _⟩ := o3n.form
  obtain ⟨Xd3, kd3, rfl, _, _⟩ := o3d.form
  have q_bA0_0 : w3.cell? ⟨w.heap.size, 0, none⟩ = some (vn0) := bA0.cell 0
  have q_bA0_1 : w3.cell? ⟨w.heap.size, 1, none⟩ = some (vd0) := bA0.cell 1
  have q_bA0_2 : w3.cell? ⟨w.heap.size, 2, none⟩ = some (.int .i64 p0.st) := bA0.cell 2
  go_wp2_with fail
  clear q_bA0_0 q_bA0_1 q_bA0_2
  refine (specIsReplay_any (.slice Xn3 p0.nums.length kn3) (.slice Xd3 p0.drawn.length kd3) p0 n1 _ _ _ (OwI.rd (fun _ => rfl) o3n) (OwI.rd (fun _ => rfl) o3d) ).mono ?_
  rintro e w4 ⟨rfl, hb4⟩
  have z4 := hb4.size
  have hn0 := hn0.below hb4 (by omega)
  have hd0 := hd0.below hb4 (by omega)
  have o3n := o3n.below hb4
  have o3d := o3d.below hb4
  have bA0 := bA0.below' hb4
  have B4 := Below.trans B3 (Below.mono hb4 (by omega))
  clear hb4
  clear B3
  clear o3n
  clear o3d
  have q_bA0_0 : w4.cell? ⟨w.heap.size, 0, none⟩ = some (vn0) := bA0.cell 0
  have q_bA0_1 : w4.cell? ⟨w.heap.size, 1, none⟩ = some (vd0) := bA0.cell 1
  have q_bA0_2 : w4.cell? ⟨w.heap.size, 2, none⟩ = some (.int .i64 p0.st) := bA0.cell 2
  go_wp2_with fail
  clear q_bA0_0 q_bA0_1 q_bA0_2
  refine (toPool_z vn0 vd0 p0 _ _ _ (hn0.more (Nat.le_refl _) (by omega)) (hd0.more (Nat.le_refl _) (by omega)) (by omega) (by omega)).mono ?_
  rintro e w5 ⟨xn5, xd5, Q5, rfl, o5n, o5d, hQ5, hq5, hb5⟩
  have z5 := hb5.size
  have hn0 := hn0.below hb5 (by omega)
  have hd0 := hd0.below hb5 (by omega)
  have bA0 := bA0.below' hb5
  have B5 := Below.trans B4 (Below.mono hb5 (by omega))
  clear hb5
  clear B4
  obtain ⟨Xn5, kn5, rfl, _, _⟩ := o5n.form
  obtain ⟨Xd5, kd5, rfl, _, _⟩ := o5d.form
  have q_bA0_0 : w5.cell? ⟨w.heap.size, 0, none⟩ = some (vn0) := bA0.cell 0
  have q_bA0_1 : w5.cell? ⟨w.heap.size, 1, none⟩ = some (vd0) := bA0.cell 1
  have q_bA0_2 : w5.cell? ⟨w.heap.size, 2, none⟩ = some (.int .i64 p0.st) := bA0.cell 2
  have qa_bA0_0 : (w5.alloc (.cells #[(.slice Xn5 p0.nums.length kn5), (.slice Xd5 p0.drawn.length kd5), .int .i64 p0.st] 27)).cell? ⟨w.heap.size, 0, none⟩ = some (vn0) := (bA0.alloc _).cell 0
  have qa_bA0_1 : (w5.alloc (.cells #[(.slice Xn5 p0.nums.length kn5), (.slice Xd5 p0.drawn.length kd5), .int .i64 p0.st] 27)).cell? ⟨w.heap.size, 1, none⟩ = some (vd0) := (bA0.alloc _).cell 1
  have qa_bA0_2 : (w5.alloc (.cells #[(.slice Xn5 p0.nums.length kn5), (.slice Xd5 p0.drawn.length kd5), .int .i64 p0.st] 27)).cell? ⟨w.heap.size, 2, none⟩ = some (.int .i64 p0.st) := (bA0.alloc _).cell 2
  go_wp2_with fail
  clear q_bA0_0 q_bA0_1 q_bA0_2 qa_bA0_0 qa_bA0_1 qa_bA0_2
  have hz6 : (w5.alloc (.cells #[(.slice Xn5 p0.nums.length kn5), (.slice Xd5 p0.drawn.length kd5), .int .i64 p0.st] 27)).heap.size = w5.heap.size + 1 := by simp
  have hb6 : Below w5.heap.size w5 (w5.alloc (.cells #[(.slice Xn5 p0.nums.length kn5), (.slice Xd5 p0.drawn.length kd5), .int .i64 p0.st] 27)) := (Below.refl _ _).alloc (Nat.le_refl _) _
  have bx := Blk.new w5 27 #[(.slice Xn5 p0.nums.length kn5), (.slice Xd5 p0.drawn.length kd5), .int .i64 p0.st]
  generalize (w5.alloc (.cells #[(.slice Xn5 p0.nums.length kn5), (.slice Xd5 p0.drawn.length kd5), .int .i64 p0.st] 27)) = w6 at *
  have z6 := hb6.size
  have hn0 := hn0.below hb6 (by omega)
  have hd0 := hd0.below hb6 (by omega)
  have o5n := o5n.below hb6
  have o5d := o5d.below hb6
  have bA0 := bA0.below' hb6
  have B6 := Below.trans B5 (Below.mono hb6 (by omega))
  clear hb6
  clear B5
  have bX0 := bx
  clear bx
  refine (implIsReplay_any (.slice Xn5 p0.nums.length kn5) (.slice Xd5 p0.drawn.length kd5) p0 n1 _ _ _ (OwI.rd (fun _ => rfl) o5n) (OwI.rd (fun _ => rfl) o5d) ).mono ?_
  rintro e w7 ⟨rfl, hb7⟩
  have z7 := hb7.size
  have hn0 := hn0.below hb7 (by omega)
  have hd0 := hd0.below hb7 (by omega)
  have o5n := o5n.below hb7
  have o5d := o5d.below hb7
  have bA0 := bA0.below' hb7
  have bX0 := bX0.below' hb7
  have B7 := Below.trans B6 (Below.mono hb7 (by omega))
  clear hb7
  clear B6
  have q_bA0_0 : w7.cell? ⟨w.heap.size, 0, none⟩ = some (vn0) := bA0.cell 0
  have q_bA0_1 : w7.cell? ⟨w.heap.size, 1, none⟩ = some (vd0) := bA0.cell 1
  have q_bA0_2 : w7.cell? ⟨w.heap.size, 2, none⟩ = some (.int .i64 p0.st) := bA0.cell 2
  have q_bX0_0 : w7.cell? ⟨w5.heap.size, 0, none⟩ = some ((.slice Xn5 p0.nums.length kn5)) := bX0.cell 0
  have q_bX0_1 : w7.cell? ⟨w5.heap.size, 1, none⟩ = some ((.slice Xd5 p0.drawn.length kd5)) := bX0.cell 1
  have q_bX0_2 : w7.cell? ⟨w5.heap.size, 2, none⟩ = some (.int .i64 p0.st) := bX0.cell 2
  go_wp2_with fail
  have hb8 : Below w7.heap.size w7 w7.drew := (Below.refl _ _).drew
  have z8 := hb8.size
  have hn0 := hn0.below hb8 (by omega)
  have hd0 := hd0.below hb8 (by omega)
  have o5n := o5n.below hb8
  have o5d := o5d.below hb8
  have bA0 := bA0.below' hb8
  have bX0 := bX0.below' hb8
  have B8 := Below.trans B7 (Below.mono hb8 (by omega))
  clear hb8
  clear B7
  go_region_held3 (fun w' => w'.cell? ⟨w.heap.size, 0, none⟩ = some (vn0) ∧ w'.cell? ⟨w.heap.size, 1, none⟩ = some (vd0) ∧ w'.cell? ⟨w.heap.size, 2, none⟩ = some (.int .i64 p0.st) ∧ w'.cell? ⟨w5.heap.size, 0, none⟩ = some ((.slice Xn5 p0.nums.length kn5)) ∧ w'.cell? ⟨w5.heap.size, 1, none⟩ = some ((.slice Xd5 p0.drawn.length kd5)) ∧ w'.cell? ⟨w5.heap.size, 2, none⟩ = some (.int .i64 p0.st)) (first | exact ⟨q_bA0_0, q_bA0_1, q_bA0_2, q_bX0_0, q_bX0_1, q_bX0_2⟩ | exact ⟨e0, e1, e2, e3, e4, e5⟩ | exact ⟨g0, g1, g2, g3, g4, g5⟩) (first | (go_at_call 14; refine (toPool_z vn0 vd0 p0 _ _ _ (hn0.more (Nat.le_refl _) (by omega)) (hd0.more (Nat.le_refl _) (by omega)) (by omega) (by omega)).mono ?_; rintro e w9 ⟨xn9, xd9, Q9, rfl, o9n, o9d, hQ9, hq9, hb9⟩; have e0 := (bA0.below' hb9).cell 0; have e1 := (bA0.below' hb9).cell 1; have e2 := (bA0.below' hb9).cell 2; have e3 := (bX0.below' hb9).cell 0; have e4 := (bX0.below' hb9).cell 1; have e5 := (bX0.below' hb9).cell 2) | (go_at_call 16; refine (eqPool_any _ _ _ _ p0.nums p0.drawn p0.nums p0.drawn p0.st p0.st _ _ _ _ _ (OwI.rd (fun _ => rfl) (o5n.below hb9)) (OwI.rd (fun _ => rfl) (o5d.below hb9)) (OwI.rd (fun _ => rfl) o9n) (OwI.rd (fun _ => rfl) o9d)).mono ?_; rintro e w10 ⟨rfl, hb10⟩; have g0 := ((bA0.below' hb9).below' hb10).cell 0; have g1 := ((bA0.below' hb9).below' hb10).cell 1; have g2 := ((bA0.below' hb9).below' hb10).cell 2; have g3 := ((bX0.below' hb9).below' hb10).cell 0; have g4 := ((bX0.below' hb9).below' hb10).cell 1; have g5 := ((bX0.below' hb9).below' hb10).cell 2))
  clear q_bA0_0 q_bA0_1 q_bA0_2 q_bX0_0 q_bX0_1 q_bX0_2
  have z9 := hb9.size
  have hn0 := hn0.below hb9 (by omega)
  have hd0 := hd0.below hb9 (by omega)
  have o5n := o5n.below hb9
  have o5d := o5d.below hb9
  have bA0 := bA0.below' hb9
  have bX0 := bX0.below' hb9
  have B9 := Below.trans B8 (Below.mono hb9 (by omega))
  clear hb9
  clear B8
  have z10 := hb10.size
  have hn0 := hn0.below hb10 (by omega)
  have hd0 := hd0.below hb10 (by omega)
  have o5n := o5n.below hb10
  have o5d := o5d.below hb10
  have bA0 := bA0.below' hb10
  have bX0 := bX0.below' hb10
  have B10 := Below.trans B9 (Below.mono hb10 (by omega))
  clear hb10
  clear B9
  have q_bA0_0 : w10.cell? ⟨w.heap.size, 0, none⟩ = some (vn0) := bA0.cell 0
  have q_bA0_1 : w10.cell? ⟨w.heap.size, 1, none⟩ = some (vd0) := bA0.cell 1
  have q_bA0_2 : w10.cell? ⟨w.heap.size, 2, none⟩ = some (.int .i64 p0.st) := bA0.cell 2
  have q_bX0_0 : w10.cell? ⟨w5.heap.size, 0, none⟩ = some ((.slice Xn5 p0.nums.length kn5)) := bX0.cell 0
  have q_bX0_1 : w10.cell? ⟨w5.heap.size, 1, none⟩ = some ((.slice Xd5 p0.drawn.length kd5)) := bX0.cell 1
  have q_bX0_2 : w10.cell? ⟨w5.heap.size, 2, none⟩ = some (.int .i64 p0.st) := bX0.cell 2
  go_wp2_with fail
  clear q_bA0_0 q_bA0_1 q_bA0_2 q_bX0_0 q_bX0_1 q_bX0_2
  go_ret
  exact ⟨rfl, B10⟩

theorem walk (v0 : Value) (v1 : Value) (w : World) (g0 : ∃ (vn vd : Value) (q : P3), v0 = .agg #[vn, vd, .int .i64 q.st] ∧ SlI w 0 w.heap.size vn q.nums ∧ SlI w 0 w.heap.size vd q.drawn) (g1 : ∃ n : Int, v1 = .int .i64 n) :
    Calls Try.prog 8 #[v0, v1] w fun e w' => e = .returned (.bool true) ∧ Below w.heap.size w w' := by
  obtain ⟨vn0, vd0, p0, rfl, hn0, hd0⟩ := g0
  obtain ⟨n1, rfl⟩ := g1
  exact walkL vn0 vd0 p0 n1 w hn0 hd0

theorem own : ownKnob Try.prog.godebug = none := by kernel_rfl
theorem laidOut : laidOutB Try.prog = true := by kernel_rfl

set_option maxRecDepth 100000 in
theorem lifted (os : Os) (started : os.Started) (H : Type) (enc : TypeId × Value → H) :
    ReturnsInHanded {} Try.checked os 8 .any (Rows.fnExactIsReplaySpec.pre6 enc Try.prog Try.f8 Rows.fnExactIsReplayRow.domain false) (Rows.fnExactIsReplaySpec.post enc Try.prog Try.f8 false true false false) := by
  refine returnsInHanded_of_change (C := Try.checked) own started (by kernel_rfl) Try.func8
    (ChangeSpec.witness6 (enc := enc) (C := Try.checked) false ⟨#[], #[.agg #[.slice none 0 0, .slice none 0 0, .int .i64 0], .int .i64 0], []⟩ 8 (by kernel_rfl) (by kernel_rfl) (by kernel_rfl) (by kernel_rfl)) ?_
  intro W base args ds gs before hval0 hW hcnd _
  have hval : ∀ (j : Nat) t v, Try.f8.params[j]? = some t → args[j]? = some v → Value.okWide Try.prog W .any base t v := hval0
  have hW' := hW
  obtain ⟨p, q, hA0, hV, rfl, hfz, hnd⟩ := hW
  have hA : DataW.TrodAll enc Try.prog W 0 (fun _ => true) true Try.f8.params.toList args.toList ds p := hA0
  rw [Try.params8] at hA hval
  obtain ⟨v0, vs0, d0, ds0, p0, q0, hargs, rfl, rfl, h0, r0⟩ := trodAll_cons hA
  obtain ⟨v1, vs1, d1, ds1, p1, q1, rfl, rfl, rfl, h1, r1⟩ := trodAll_cons r0
  obtain ⟨rfl, rfl, rfl⟩ := trodAll_nil r1
  obtain rfl : args = #[v0, v1] := by cases args; simp_all
  obtain ⟨rfl, rfl⟩ := trodVars_none hV
  have lt0 : ∀ x ∈ p0, x.block < W.heap.size := by obtain ⟨m, hm⟩ := h0; exact DataW.trod_lt m _ _ _ hm
  have lt1 : ∀ x ∈ p1, x.block < W.heap.size := by obtain ⟨m, hm⟩ := h1; exact DataW.trod_lt m _ _ _ hm
  have g0 := open_PoolV (hval 0 24 v0 rfl rfl) h0
  have g1 := open_int64 (hval 1 2 v1 rfl rfl) h1
  clear hA0 hval0
  refine (walk v0 v1 W g0 g1).mono fun e W' ⟨he, bel⟩ => ?_
  subst he
  exact ⟨_, rfl, _, _, _, [], _, [], hW', trodAll_mk1 (shut_bool Try.underlying4 _), (trodAll_cons_mk (Below.trod laidOut (by kernel_rfl) (of_decide_eq_true (by kernel_rfl)) h0 bel lt0) (trodAll_cons_mk (Below.trod laidOut (by kernel_rfl) (of_decide_eq_true (by kernel_rfl)) h1 bel lt1) trodAll_mk0)), rfl, bel.frame _, fun h => by cases h⟩

theorem over : Rows.fnExactIsReplayRow.holds Try.pinned (OpenSpec.ofChange Rows.fnExactIsReplaySpec) :=
  OpenClaim.holds_of_wide 8 Try.f8 rfl rfl rfl rfl rfl rfl rfl ⟨rfl, rfl, rfl, rfl, rfl⟩ rfl rfl rfl rfl rfl (by kernel_rfl) Try.func8 (by kernel_rfl)
    (of_decide_eq_true (by kernel_rfl)) (by unfold Func.isWrapper; first | (rw [if_pos (by decide +kernel)]; kernel_rfl) | (rw [if_neg (by decide +kernel)]; exact ⟨rfl, rfl⟩))
    (fun os started H enc _ => lifted os started H enc)

theorem proved : Rows.FnExactIsReplaySaid := over
#print axioms proved
end Go.Proofs.Ytfenedoalnieaaa.lawFnExactIsReplay

