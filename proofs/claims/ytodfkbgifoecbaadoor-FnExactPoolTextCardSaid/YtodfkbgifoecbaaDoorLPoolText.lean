/- FnExactPoolText: for every input the law returns true, and each argument reads as it did. Its condition: the package-level variables that the row lists read as the program lays them. -/
import Derived.Test.YtodfkbgifoecbaaDoorTxV
import Derived.Test.YtodfkbgifoecbaaDoorTxL
import Derived.Test.YtodfkbgifoecbaaDoorPoolF
import Derived.Test.YtodfkbgifoecbaaDoorPoolG
import Derived.Test.YtodfkbgifoecbaaDoorReg
namespace Go.Proofs.YtodfkbgifoecbaaDoor.lawFnExactPoolText
open Go.ChangeShapes Go.WideShapes Go.ChangeAt Go.RowKit
open Go.Lib hiding intOf
attribute [local go_sem ↓] Go.wp_at_zero Go.wp_at_succ
set_option maxRecDepth 100000 in
set_option maxHeartbeats 4000000 in
theorem walkL (vn0 vd0 : Value) (p0 : P3) (w : World) (hn0 : SlI w 0 w.heap.size vn0 p0.nums) (hd0 : SlI w 0 w.heap.size vd0 p0.drawn) (hE : EnvT w.heap.size w) :
    Calls Tryd.prog 6 #[.agg #[vn0, vd0, .int .i64 p0.st]] w fun e w' => e = .returned (.bool true) ∧ Below w.heap.size w w' := by
  have hB0 : Below w.heap.size w w := Below.refl _ _
  have hq : (0:Int) ≤ 1048576 ∧ (1048576:Int) ≤ 1048576 := by omega
  go_enter Tryd.func6, Tryd.ntmps6
  go_wp2_with fail
  have hz1 : (w.alloc (.cells #[vn0, vd0, .int .i64 p0.st] 42)).heap.size = w.heap.size + 1 := by simp
  have hb1 : Below w.heap.size w (w.alloc (.cells #[vn0, vd0, .int .i64 p0.st] 42)) := (Below.refl _ _).alloc (Nat.le_refl _) _
  have bx := Blk.new w 42 #[vn0, vd0, .int .i64 p0.st]
  generalize (w.alloc (.cells #[vn0, vd0, .int .i64 p0.st] 42)) = w1 at *
  have z1 := hb1.size
  have hn0 := hn0.below hb1 (by omega)
  have hd0 := hd0.below hb1 (by omega)
  have B1 := Below.trans hB0 (Below.mono hb1 (by omega))
  clear hb1
  have bA0 := bx
  clear bx
  rcases Nat.lt_or_ge 1048576 (p0.nums.length + p0.drawn.length) with hbig | hs0
  · refine (szPool_big vn0 vd0 p0.nums p0.drawn p0.st _ (hn0.more (Nat.le_refl _) (by omega)) (hd0.more (Nat.le_refl _) (by omega)) (Nat.le_refl _) (Nat.le_refl _) hbig).mono ?_
    rintro e wz ⟨rfl, hbz⟩
    go_wp2_with fail
    go_ret
    exact ⟨rfl, B1.trans (hbz.mono (by omega))⟩
  have hk0 : (0 : Int) ≤ 1048576 - (p0.nums.length : Int) - (p0.drawn.length : Int) := by omega
  refine (szPool_small vn0 vd0 p0.nums p0.drawn p0.st _ (hn0.more (Nat.le_refl _) (by omega)) (hd0.more (Nat.le_refl _) (by omega)) (Nat.le_refl _) (Nat.le_refl _) hs0).mono ?_
  rintro e w2 ⟨rfl, hb2⟩
  have z2 := hb2.size
  have hn0 := hn0.below hb2 (by omega)
  have hd0 := hd0.below hb2 (by omega)
  have bA0 := bA0.below' hb2
  have B2 := Below.trans B1 (Below.mono hb2 (by omega))
  clear hb2
  clear B1
  have q_bA0_0 : w2.cell? ⟨w.heap.size, 0, none⟩ = some (vn0) := bA0.cell 0
  have q_bA0_1 : w2.cell? ⟨w.heap.size, 1, none⟩ = some (vd0) := bA0.cell 1
  have q_bA0_2 : w2.cell? ⟨w.heap.size, 2, none⟩ = some (.int .i64 p0.st) := bA0.cell 2
  go_wp2_with fail
  clear q_bA0_0 q_bA0_1 q_bA0_2
  refine (toPool_z vn0 vd0 p0 _ _ _ (hn0.more (Nat.le_refl _) (by omega)) (hd0.more (Nat.le_refl _) (by omega)) (by omega) (by omega)).mono ?_
  rintro e w3 ⟨xn3, xd3, Q3, rfl, o3n, o3d, hQ3, hq3, hb3⟩
  have z3 := hb3.size
  have hn0 := hn0.below hb3 (by omega)
  have hd0 := hd0.below hb3 (by omega)
  have bA0 := bA0.below' hb3
  have B3 := Below.trans B2 (Below.mono hb3 (by omega))
  clear hb3
  clear B2
  obtain ⟨Xn3, kn3, rfl, _, _⟩ := o3n.form
  obtain ⟨Xd3, kd3, rfl, _, _⟩ := o3d.form
  have q_bA0_0 : w3.cell? ⟨w.heap.size, 0, none⟩ = some (vn0) := bA0.cell 0
  have q_bA0_1 : w3.cell? ⟨w.heap.size, 1, none⟩ = some (vd0) := bA0.cell 1
  have q_bA0_2 : w3.cell? ⟨w.heap.size, 2, none⟩ = some (.int .i64 p0.st) := bA0.cell 2
  go_wp2_with fail
  clear q_bA0_0 q_bA0_1 q_bA0_2
  refine (specPoolText_any (.slice Xn3 p0.nums.length kn3) (.slice Xd3 p0.drawn.length kd3) p0 _ _ _ (OwI.rd (fun _ => rfl) o3n) (OwI.rd (fun _ => rfl) o3d) ).mono ?_
  rintro e w4 ⟨rfl, hb4⟩
  have z4 := hb4.size
  have hn0 := hn0.below hb4 (by omega)
  have hd0 := hd0.below hb4 (by omega)
  have o3n := o3n.below hb4
  have o3d := o3d.below hb4
  have bA0 := bA0.below' hb4
  have B4 := Below.trans B3 (Below.mono hb4 (by omega))
  clear hb4
  clear B3
  clear o3n
  clear o3d
  have q_bA0_0 : w4.cell? ⟨w.heap.size, 0, none⟩ = some (vn0) := bA0.cell 0
  have q_bA0_1 : w4.cell? ⟨w.heap.size, 1, none⟩ = some (vd0) := bA0.cell 1
  have q_bA0_2 : w4.cell? ⟨w.heap.size, 2, none⟩ = some (.int .i64 p0.st) := bA0.cell 2
  go_wp2_with fail
  clear q_bA0_0 q_bA0_1 q_bA0_2
  refine (toPool_z vn0 vd0 p0 _ _ _ (hn0.more (Nat.le_refl _) (by omega)) (hd0.more (Nat.le_refl _) (by omega)) (by omega) (by omega)).mono ?_
  rintro e w5 ⟨xn5, xd5, Q5, rfl, o5n, o5d, hQ5, hq5, hb5⟩
  have z5 := hb5.size
  have hn0 := hn0.below hb5 (by omega)
  have hd0 := hd0.below hb5 (by omega)
  have bA0 := bA0.below' hb5
  have B5 := Below.trans B4 (Below.mono hb5 (by omega))
  clear hb5
  clear B4
  obtain ⟨Xn5, kn5, rfl, _, _⟩ := o5n.form
  obtain ⟨Xd5, kd5, rfl, _, _⟩ := o5d.form
  have q_bA0_0 : w5.cell? ⟨w.heap.size, 0, none⟩ = some (vn0) := bA0.cell 0
  have q_bA0_1 : w5.cell? ⟨w.heap.size, 1, none⟩ = some (vd0) := bA0.cell 1
  have q_bA0_2 : w5.cell? ⟨w.heap.size, 2, none⟩ = some (.int .i64 p0.st) := bA0.cell 2
  have qa_bA0_0 : (w5.alloc (.cells #[(.slice Xn5 p0.nums.length kn5), (.slice Xd5 p0.drawn.length kd5), .int .i64 p0.st] 45)).cell? ⟨w.heap.size, 0, none⟩ = some (vn0) := (bA0.alloc _).cell 0
  have qa_bA0_1 : (w5.alloc (.cells #[(.slice Xn5 p0.nums.length kn5), (.slice Xd5 p0.drawn.length kd5), .int .i64 p0.st] 45)).cell? ⟨w.heap.size, 1, none⟩ = some (vd0) := (bA0.alloc _).cell 1
  have qa_bA0_2 : (w5.alloc (.cells #[(.slice Xn5 p0.nums.length kn5), (.slice Xd5 p0.drawn.length kd5), .int .i64 p0.st] 45)).cell? ⟨w.heap.size, 2, none⟩ = some (.int .i64 p0.st) := (bA0.alloc _).cell 2
  go_wp2_with fail
  clear q_bA0_0 q_bA0_1 q_bA0_2 qa_bA0_0 qa_bA0_1 qa_bA0_2
  have hz6 : (w5.alloc (.cells #[(.slice Xn5 p0.nums.length kn5), (.slice Xd5 p0.drawn.length kd5), .int .i64 p0.st] 45)).heap.size = w5.heap.size + 1 := by simp
  have hb6 : Below w5.heap.size w5 (w5.alloc (.cells #[(.slice Xn5 p0.nums.length kn5), (.slice Xd5 p0.drawn.length kd5), .int .i64 p0.st] 45)) := (Below.refl _ _).alloc (Nat.le_refl _) _
  have bx := Blk.new w5 45 #[(.slice Xn5 p0.nums.length kn5), (.slice Xd5 p0.drawn.length kd5), .int .i64 p0.st]
  generalize (w5.alloc (.cells #[(.slice Xn5 p0.nums.length kn5), (.slice Xd5 p0.drawn.length kd5), .int .i64 p0.st] 45)) = w6 at *
  have z6 := hb6.size
  have hn0 := hn0.below hb6 (by omega)
  have hd0 := hd0.below hb6 (by omega)
  have o5n := o5n.below hb6
  have o5d := o5d.below hb6
  have bA0 := bA0.below' hb6
  have B6 := Below.trans B5 (Below.mono hb6 (by omega))
  clear hb6
  clear B5
  have bX0 := bx
  clear bx
  refine (implPoolText_any (.slice Xn5 p0.nums.length kn5) (.slice Xd5 p0.drawn.length kd5) p0 _ _ _ (OwI.rd (fun _ => rfl) o5n) (OwI.rd (fun _ => rfl) o5d) _ (hE.on B6) (by omega)).mono ?_
  rintro e w7 ⟨rfl, hb7⟩
  have z7 := hb7.size
  have hn0 := hn0.below hb7 (by omega)
  have hd0 := hd0.below hb7 (by omega)
  have o5n := o5n.below hb7
  have o5d := o5d.below hb7
  have bA0 := bA0.below' hb7
  have bX0 := bX0.below' hb7
  have B7 := Below.trans B6 (Below.mono hb7 (by omega))
  clear hb7
  clear B6
  have hbe := bl_eq (str (textPF p0).1)
  generalize str (textPF p0).1 = ts at *
  generalize (textPF p0).2 = tc at *
  have q_bA0_0 : w7.cell? ⟨w.heap.size, 0, none⟩ = some (vn0) := bA0.cell 0
  have q_bA0_1 : w7.cell? ⟨w.heap.size, 1, none⟩ = some (vd0) := bA0.cell 1
  have q_bA0_2 : w7.cell? ⟨w.heap.size, 2, none⟩ = some (.int .i64 p0.st) := bA0.cell 2
  have q_bX0_0 : w7.cell? ⟨w5.heap.size, 0, none⟩ = some ((.slice Xn5 p0.nums.length kn5)) := bX0.cell 0
  have q_bX0_1 : w7.cell? ⟨w5.heap.size, 1, none⟩ = some ((.slice Xd5 p0.drawn.length kd5)) := bX0.cell 1
  have q_bX0_2 : w7.cell? ⟨w5.heap.size, 2, none⟩ = some (.int .i64 p0.st) := bX0.cell 2
  go_wp2_with fail
  have hb8 : Below w7.heap.size w7 w7.drew := (Below.refl _ _).drew
  have z8 := hb8.size
  have hn0 := hn0.below hb8 (by omega)
  have hd0 := hd0.below hb8 (by omega)
  have o5n := o5n.below hb8
  have o5d := o5d.below hb8
  have bA0 := bA0.below' hb8
  have bX0 := bX0.below' hb8
  have B8 := Below.trans B7 (Below.mono hb8 (by omega))
  clear hb8
  clear B7
  go_region_held3 (fun w' => w'.cell? ⟨w.heap.size, 0, none⟩ = some (vn0) ∧ w'.cell? ⟨w.heap.size, 1, none⟩ = some (vd0) ∧ w'.cell? ⟨w.heap.size, 2, none⟩ = some (.int .i64 p0.st) ∧ w'.cell? ⟨w5.heap.size, 0, none⟩ = some ((.slice Xn5 p0.nums.length kn5)) ∧ w'.cell? ⟨w5.heap.size, 1, none⟩ = some ((.slice Xd5 p0.drawn.length kd5)) ∧ w'.cell? ⟨w5.heap.size, 2, none⟩ = some (.int .i64 p0.st)) (first | exact ⟨q_bA0_0, q_bA0_1, q_bA0_2, q_bX0_0, q_bX0_1, q_bX0_2⟩ | exact ⟨e0, e1, e2, e3, e4, e5⟩ | exact ⟨g0, g1, g2, g3, g4, g5⟩) (first | (go_at_call 23; refine (toPool_z vn0 vd0 p0 _ _ _ (hn0.more (Nat.le_refl _) (by omega)) (hd0.more (Nat.le_refl _) (by omega)) (by omega) (by omega)).mono ?_; rintro e w9 ⟨xn9, xd9, Q9, rfl, o9n, o9d, hQ9, hq9, hb9⟩; have e0 := (bA0.below' hb9).cell 0; have e1 := (bA0.below' hb9).cell 1; have e2 := (bA0.below' hb9).cell 2; have e3 := (bX0.below' hb9).cell 0; have e4 := (bX0.below' hb9).cell 1; have e5 := (bX0.below' hb9).cell 2) | (go_at_call 25; refine (eqPool_any _ _ _ _ p0.nums p0.drawn p0.nums p0.drawn p0.st p0.st _ _ _ _ _ (OwI.rd (fun _ => rfl) (o5n.below hb9)) (OwI.rd (fun _ => rfl) (o5d.below hb9)) (OwI.rd (fun _ => rfl) o9n) (OwI.rd (fun _ => rfl) o9d)).mono ?_; rintro e w10 ⟨rfl, hb10⟩; have g0 := ((bA0.below' hb9).below' hb10).cell 0; have g1 := ((bA0.below' hb9).below' hb10).cell 1; have g2 := ((bA0.below' hb9).below' hb10).cell 2; have g3 := ((bX0.below' hb9).below' hb10).cell 0; have g4 := ((bX0.below' hb9).below' hb10).cell 1; have g5 := ((bX0.below' hb9).below' hb10).cell 2))
  clear q_bA0_0 q_bA0_1 q_bA0_2 q_bX0_0 q_bX0_1 q_bX0_2
  have z9 := hb9.size
  have hn0 := hn0.below hb9 (by omega)
  have hd0 := hd0.below hb9 (by omega)
  have o5n := o5n.below hb9
  have o5d := o5d.below hb9
  have bA0 := bA0.below' hb9
  have bX0 := bX0.below' hb9
  have B9 := Below.trans B8 (Below.mono hb9 (by omega))
  clear hb9
  clear B8
  have z10 := hb10.size
  have hn0 := hn0.below hb10 (by omega)
  have hd0 := hd0.below hb10 (by omega)
  have o5n := o5n.below hb10
  have o5d := o5d.below hb10
  have bA0 := bA0.below' hb10
  have bX0 := bX0.below' hb10
  have B10 := Below.trans B9 (Below.mono hb10 (by omega))
  clear hb10
  clear B9
  have q_bA0_0 : w10.cell? ⟨w.heap.size, 0, none⟩ = some (vn0) := bA0.cell 0
  have q_bA0_1 : w10.cell? ⟨w.heap.size, 1, none⟩ = some (vd0) := bA0.cell 1
  have q_bA0_2 : w10.cell? ⟨w.heap.size, 2, none⟩ = some (.int .i64 p0.st) := bA0.cell 2
  have q_bX0_0 : w10.cell? ⟨w5.heap.size, 0, none⟩ = some ((.slice Xn5 p0.nums.length kn5)) := bX0.cell 0
  have q_bX0_1 : w10.cell? ⟨w5.heap.size, 1, none⟩ = some ((.slice Xd5 p0.drawn.length kd5)) := bX0.cell 1
  have q_bX0_2 : w10.cell? ⟨w5.heap.size, 2, none⟩ = some (.int .i64 p0.st) := bX0.cell 2
  go_wp2_with fail
  clear q_bA0_0 q_bA0_1 q_bA0_2 q_bX0_0 q_bX0_1 q_bX0_2
  go_ret
  exact ⟨rfl, B10⟩

theorem walk (v0 : Value) (w : World) (g0 : ∃ (vn vd : Value) (q : P3), v0 = .agg #[vn, vd, .int .i64 q.st] ∧ SlI w 0 w.heap.size vn q.nums ∧ SlI w 0 w.heap.size vd q.drawn) (hE : EnvT w.heap.size w) :
    Calls Tryd.prog 6 #[v0] w fun e w' => e = .returned (.bool true) ∧ Below w.heap.size w w' := by
  obtain ⟨vn0, vd0, p0, rfl, hn0, hd0⟩ := g0
  exact walkL vn0 vd0 p0 w hn0 hd0 hE

set_option maxRecDepth 100000 in
theorem lifted (os : Os) (started : os.Started) (H : Type) (enc : TypeId × Value → H) :
    ReturnsInHanded {} Tryd.checked os 6 .any (fun w args => (Rows.fnExactPoolTextSpec.pre enc Tryd.prog Tryd.f6 [] false w args ∧ laidMetH Tryd.prog laid3 w) ∧ sizedMet enc Tryd.prog Tryd.f6 (OpenSpec.ofChange Rows.fnExactPoolTextSpec) false w args)
      (Rows.fnExactPoolTextSpec.post enc Tryd.prog Tryd.f6 false true false false) := by
  refine handed_and_shaped (C := Tryd.checked) (X := fun w _ => laidMetH Tryd.prog laid3 w) (fun _ _ _ hh h => metH3.2 ((metH3.1 h).of_heap hh)) own started (by kernel_rfl) Tryd.func6
    (ChangeSpec.witness_at (enc := enc) (C := Tryd.checked) (os := os) (X := fun w _ => laidMetH Tryd.prog laid3 w) false (laidWorld3 os) #[.agg #[.slice none 0 0, .slice none 0 0, .int .i64 0]] 8 rfl (by kernel_rfl) (by kernel_rfl) (by kernel_rfl) (by kernel_rfl) (by kernel_rfl) (metH3.2 (laid_met3 os _))) ?_
  intro W base args ds gs before hval0 hW hL hSh
  have hval : ∀ (j : Nat) t v, Tryd.f6.params[j]? = some t → args[j]? = some v → Value.okWide Tryd.prog W .any base t v := hval0
  have hW' := hW
  obtain ⟨p, q, hA0, hV, rfl, hfz, hnd⟩ := hW
  have hA : DataW.TrodAll enc Tryd.prog W 0 (fun _ => true) true Tryd.f6.params.toList args.toList ds p := hA0
  rw [Tryd.params6] at hA hval
  obtain ⟨v0, vs0, d0, ds0, p0, q0, hargs, rfl, rfl, h0, r0⟩ := trodAll_cons hA
  obtain ⟨rfl, rfl, rfl⟩ := trodAll_nil r0
  obtain rfl : args = #[v0] := by cases args; simp_all
  obtain ⟨rfl, rfl⟩ := trodVars_none hV
  have lt0 : ∀ x ∈ p0, x.block < W.heap.size := by obtain ⟨m, hm⟩ := h0; exact DataW.trod_lt m _ _ _ hm
  have g0 := open_PoolV (hval 0 42 v0 rfl rfl) h0
  clear hA0 hval0
  refine (walk v0 W g0 (envT_of3 (metH3.1 hL))).mono fun e W' ⟨he, bel⟩ => ?_
  subst he
  exact ⟨_, rfl, _, _, _, [], _, [], hW', trodAll_mk1 (shut_bool Tryd.underlying4 _), (trodAll_cons_mk (Below.trod laidOut (by kernel_rfl) (of_decide_eq_true (by kernel_rfl)) h0 bel lt0) trodAll_mk0), rfl, bel.frame _, fun h => by cases h⟩

theorem over : Rows.FnExactPoolTextSaid :=
  OpenClaim.holds_of_wide 6 Tryd.f6 rfl rfl rfl rfl rfl rfl rfl ⟨rfl, rfl, rfl, rfl, rfl⟩ rfl rfl rfl rfl rfl (by kernel_rfl) Tryd.func6 (by kernel_rfl)
    (of_decide_eq_true (by kernel_rfl)) (by unfold Func.isWrapper; first | (rw [if_pos (by decide +kernel)]; kernel_rfl) | (rw [if_neg (by decide +kernel)]; exact ⟨rfl, rfl⟩))
    (fun os started H enc _ => lifted os started H enc)

theorem proved : Rows.FnExactPoolTextCardSaid :=
  Claim7.holds_tied_plain_at .later [] [.data, .data, .data] true (true, "fa16d4e35b260b6db7993b93d24e7b3ee395b0c5e7c77deb20eceee070298250") true
    over (fun _ h => by cases h) (by kernel_rfl) (fun _ h => by cases h) fnExactPoolText_row_tie rfl ⟨rfl, rfl⟩ (by kernel_rfl) rfl
    (fun f fn hf hfn => by
      obtain rfl : f = 6 := Option.some.inj ((show Tryd.prog.funcNamed "loop.example/g01027/laws.FnExactPoolText" = some 6 by kernel_rfl).symm.trans hf) |>.symm
      obtain rfl : fn = Tryd.f6 := (Option.some.inj (Tryd.func6.symm.trans hfn)).symm
      exact ⟨by kernel_rfl, fun j t ht => by
        rw [Tryd.params6] at ht
        rcases j with _ | j
        · obtain rfl : t = 42 := by simpa using ht.symm
          exact (show Tryd.prog.wantsStandIn 42 = false by kernel_rfl)
        · simp at ht⟩)
    (by kernel_rfl)
#print axioms proved
end Go.Proofs.YtodfkbgifoecbaaDoor.lawFnExactPoolText

