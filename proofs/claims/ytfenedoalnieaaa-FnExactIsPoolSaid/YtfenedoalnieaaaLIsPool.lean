/- FnExactIsPool: for every pool the law returns true, and the argument reads as it did. No condition. -/
import Derived.Test.YtfenedoalnieaaaPoolF
import Derived.Deep.RegionHeld3
namespace Go.Proofs.Ytfenedoalnieaaa.lawFnExactIsPool
open Go.ChangeShapes Go.WideShapes Go.ChangeAt Go.RowKit

set_option maxHeartbeats 2000000 in
theorem walkL (vn vd : Value) (p : P3) (w : World) (hn : SlI w 0 w.heap.size vn p.nums) (hd : SlI w 0 w.heap.size vd p.drawn) :
    Calls Try.prog 3 #[.agg #[vn, vd, .int .i64 p.st]] w fun e w' => e = .returned (.bool true) ∧ Below w.heap.size w w' := by
  go_enter Try.func3, Try.ntmps3
  go_wp2_with fail
  have b1 := Blk.new w 24 #[vn, vd, .int .i64 p.st]
  have hB : Below w.heap.size w (w.alloc (.cells #[vn, vd, .int .i64 p.st] 24)) := (Below.refl _ _).alloc (Nat.le_refl _) _
  generalize (w.alloc (.cells #[vn, vd, .int .i64 p.st] 24)) = w0 at *
  have up : ∀ {v : Value} {zs : List Int} {w1 : World}, SlI w 0 w.heap.size v zs → Below w.heap.size w w1 → SlI w1 0 w1.heap.size v zs := fun h hb => (h.below hb (Nat.le_refl _)).more (Nat.le_refl _) hb.size
  rcases Nat.lt_or_ge 1048576 (p.nums.length + p.drawn.length) with hbig | hs
  · refine (szPool_big vn vd p.nums p.drawn p.st _ (up hn hB) (up hd hB) (Nat.le_refl _) (Nat.le_refl _) hbig).mono ?_
    rintro e w1 ⟨rfl, hb1⟩
    go_wp2_with fail
    go_ret
    exact ⟨rfl, hB.trans (hb1.mono hB.size)⟩
  have hk : (0 : Int) ≤ 1048576 - (p.nums.length : Int) - (p.drawn.length : Int) := by omega
  refine (szPool_small vn vd p.nums p.drawn p.st _ (up hn hB) (up hd hB) (Nat.le_refl _) (Nat.le_refl _) hs).mono ?_
  rintro e w1 ⟨rfl, hb1⟩
  have hB1 := hB.trans (hb1.mono hB.size)
  have b1 := b1.below' hb1
  have c0 : w1.cell? ⟨w.heap.size, 0, none⟩ = some vn := b1.cell 0
  have c1 : w1.cell? ⟨w.heap.size, 1, none⟩ = some vd := b1.cell 1
  have c2 : w1.cell? ⟨w.heap.size, 2, none⟩ = some (.int .i64 p.st) := b1.cell 2
  go_wp2_with fail
  clear c0 c1 c2
  refine (toPool_any vn vd p.nums p.drawn p.st _ _ _ (up hn hB1) (up hd hB1) (by omega) (by omega)).mono ?_
  rintro e w2 ⟨xn, xd, Q, rfl, o1, o2, hQ, _, hb2⟩
  have hB2 := hB1.trans (hb2.mono hB1.size)
  have b1 := b1.below' hb2
  go_wp2_with fail
  refine (specIsPool_any xn xd p _ _ _ (own_slI o1) (own_slI o2)).mono ?_
  rintro e w3 ⟨rfl, hb3⟩
  have hB3 := hB2.trans (hb3.mono hB2.size)
  have b1 := b1.below' hb3
  have c0 : w3.cell? ⟨w.heap.size, 0, none⟩ = some vn := b1.cell 0
  have c1 : w3.cell? ⟨w.heap.size, 1, none⟩ = some vd := b1.cell 1
  have c2 : w3.cell? ⟨w.heap.size, 2, none⟩ = some (.int .i64 p.st) := b1.cell 2
  go_wp2_with fail
  clear c0 c1 c2 o1 o2
  refine (toPool_any vn vd p.nums p.drawn p.st _ _ _ (up hn hB3) (up hd hB3) (by omega) (by omega)).mono ?_
  rintro e w4 ⟨yn, yd, Q4, rfl, o1, o2, hQ4, _, hb4⟩
  obtain ⟨X1, k1, rfl, _, _, _⟩ := own_form (OwnR.own o1)
  obtain ⟨X2, k2, rfl, _, _, _⟩ := own_form (OwnR.own o2)
  have hB4 := hB3.trans (hb4.mono hB3.size)
  have b1 := b1.below' hb4
  go_wp2_with fail
  have b2 := Blk.new w4 27 #[.slice X1 p.nums.length k1, .slice X2 p.drawn.length k2, .int .i64 p.st]
  have b1 := b1.alloc (.cells #[.slice X1 p.nums.length k1, .slice X2 p.drawn.length k2, .int .i64 p.st] 27)
  have o1 := o1.alloc (.cells #[.slice X1 p.nums.length k1, .slice X2 p.drawn.length k2, .int .i64 p.st] 27)
  have o2 := o2.alloc (.cells #[.slice X1 p.nums.length k1, .slice X2 p.drawn.length k2, .int .i64 p.st] 27)
  have hB5 : Below w.heap.size w (w4.alloc (.cells #[.slice X1 p.nums.length k1, .slice X2 p.drawn.length k2, .int .i64 p.st] 27)) := hB4.alloc hB4.size _
  generalize (w4.alloc (.cells #[.slice X1 p.nums.length k1, .slice X2 p.drawn.length k2, .int .i64 p.st] 27)) = w5 at *
  refine (implIsPool_any _ _ p _ _ _ (own_slI o1) (own_slI o2)).mono ?_
  rintro e w6 ⟨rfl, hb6⟩
  have hB6 := hB5.trans (hb6.mono hB5.size)
  have b1 := b1.below' hb6
  have b2 := b2.below' hb6
  have o1 := o1.below hb6
  have o2 := o2.below hb6
  have c0 : w6.cell? ⟨w.heap.size, 0, none⟩ = some vn := b1.cell 0
  have c1 : w6.cell? ⟨w.heap.size, 1, none⟩ = some vd := b1.cell 1
  have c2 : w6.cell? ⟨w.heap.size, 2, none⟩ = some (.int .i64 p.st) := b1.cell 2
  have d0 : w6.cell? ⟨w4.heap.size, 0, none⟩ = some (.slice X1 p.nums.length k1) := b2.cell 0
  have d1 : w6.cell? ⟨w4.heap.size, 1, none⟩ = some (.slice X2 p.drawn.length k2) := b2.cell 1
  have d2 : w6.cell? ⟨w4.heap.size, 2, none⟩ = some (.int .i64 p.st) := b2.cell 2
  go_wp2_with fail
  have b1 : Blk w6.drew _ _ _ := b1
  have b2 : Blk w6.drew _ _ _ := b2
  have o1 : OwnR i64s 1 w6.drew _ _ _ _ := o1
  have o2 : OwnR i64s 1 w6.drew _ _ _ _ := o2
  go_region_held3 (fun w' => w'.cell? ⟨w.heap.size, 0, none⟩ = some vn ∧ w'.cell? ⟨w.heap.size, 1, none⟩ = some vd ∧ w'.cell? ⟨w.heap.size, 2, none⟩ = some (.int .i64 p.st) ∧ w'.cell? ⟨w4.heap.size, 0, none⟩ = some (.slice X1 p.nums.length k1) ∧ w'.cell? ⟨w4.heap.size, 1, none⟩ = some (.slice X2 p.drawn.length k2) ∧ w'.cell? ⟨w4.heap.size, 2, none⟩ = some (.int .i64 p.st)) (first | exact ⟨c0, c1, c2, d0, d1, d2⟩ | exact ⟨e0, e1, e2, f0, f1, f2⟩ | exact ⟨g0, g1, g2, h0, h1, h2⟩) ((first | (go_at_call 14; refine (toPool_any vn vd p.nums p.drawn p.st _ _ _ (up hn hB6.drew) (up hd hB6.drew) (by omega) (by omega)).mono ?_; rintro e w7 ⟨zn, zd, Q7, rfl, o3, o4, hQ7, _, hb7⟩; have e0 := (b1.below' hb7).cell 0; have e1 := (b1.below' hb7).cell 1; have e2 := (b1.below' hb7).cell 2; have f0 := (b2.below' hb7).cell 0; have f1 := (b2.below' hb7).cell 1; have f2 := (b2.below' hb7).cell 2) | (go_at_call 16; refine (eqPool_any _ _ _ _ p.nums p.drawn p.nums p.drawn p.st p.st _ _ _ _ _ (own_slI (o1.below hb7)) (own_slI (o2.below hb7)) (own_slI o3) (own_slI o4)).mono ?_; rintro e w8 ⟨rfl, hb8⟩; have g0 := ((b1.below' hb7).below' hb8).cell 0; have g1 := ((b1.below' hb7).below' hb8).cell 1; have g2 := ((b1.below' hb7).below' hb8).cell 2; have h0 := ((b2.below' hb7).below' hb8).cell 0; have h1 := ((b2.below' hb7).below' hb8).cell 1; have h2 := ((b2.below' hb7).below' hb8).cell 2)))
  go_wp2_with fail
  go_ret
  exact ⟨rfl, hB6.drew.trans ((hb7.mono hB6.size).trans (hb8.mono (Nat.le_trans hB6.size hb7.size)))⟩

theorem walk (v : Value) (w : World) (g : ∃ (vn vd : Value) (q : P3), v = .agg #[vn, vd, .int .i64 q.st] ∧ SlI w 0 w.heap.size vn q.nums ∧ SlI w 0 w.heap.size vd q.drawn) :
    Calls Try.prog 3 #[v] w fun e w' => e = .returned (.bool true) ∧ Below w.heap.size w w' := by
  obtain ⟨vn, vd, q, rfl, hn, hd⟩ := g
  exact walkL vn vd q w hn hd

theorem own : ownKnob Try.prog.godebug = none := by kernel_rfl
theorem laidOut : laidOutB Try.prog = true := by kernel_rfl

set_option maxRecDepth 100000 in
theorem lifted (os : Os) (started : os.Started) (H : Type) (enc : TypeId × Value → H) :
    ReturnsInHanded {} Try.checked os 3 .any (Rows.fnExactIsPoolSpec.pre6 enc Try.prog Try.f3 Rows.fnExactIsPoolRow.domain false) (Rows.fnExactIsPoolSpec.post enc Try.prog Try.f3 false true false false) := by
  refine returnsInHanded_of_change (C := Try.checked) own started (by kernel_rfl) Try.func3
    (ChangeSpec.witness6 (enc := enc) (C := Try.checked) false ⟨#[], #[.agg #[.slice none 0 0, .slice none 0 0, .int .i64 0]], []⟩ 8 (by kernel_rfl) (by kernel_rfl) (by kernel_rfl) (by kernel_rfl)) ?_
  intro W base args ds gs before hval0 hW hcnd _
  have hval : ∀ (j : Nat) t v, Try.f3.params[j]? = some t → args[j]? = some v → Value.okWide Try.prog W .any base t v := hval0
  have hW' := hW
  obtain ⟨p, q, hA0, hV, rfl, hfz, hnd⟩ := hW
  have hA : DataW.TrodAll enc Try.prog W 0 (fun _ => true) true Try.f3.params.toList args.toList ds p := hA0
  rw [Try.params3] at hA hval
  obtain ⟨v0, vs0, d0, ds0, p0, q0, hargs, rfl, rfl, h0, r0⟩ := trodAll_cons hA
  obtain ⟨rfl, rfl, rfl⟩ := trodAll_nil r0
  obtain rfl : args = #[v0] := by cases args; simp_all
  obtain ⟨rfl, rfl⟩ := trodVars_none hV
  have lt0 : ∀ x ∈ p0, x.block < W.heap.size := by obtain ⟨m, hm⟩ := h0; exact DataW.trod_lt m _ _ _ hm
  have g0 := open_PoolV (hval 0 24 v0 rfl rfl) h0
  clear hA0 hval0
  refine (walk v0 W g0).mono fun e W' ⟨he, bel⟩ => ?_
  subst he
  exact ⟨_, rfl, _, _, _, [], _, [], hW', trodAll_mk1 (shut_bool Try.underlying4 _), (trodAll_cons_mk (Below.trod laidOut (by kernel_rfl) (of_decide_eq_true (by kernel_rfl)) h0 bel lt0) trodAll_mk0), rfl, bel.frame _, fun h => by cases h⟩

theorem over : Rows.fnExactIsPoolRow.holds Try.pinned (OpenSpec.ofChange Rows.fnExactIsPoolSpec) :=
  OpenClaim.holds_of_wide 3 Try.f3 rfl rfl rfl rfl rfl rfl rfl ⟨rfl, rfl, rfl, rfl, rfl⟩ rfl rfl rfl rfl rfl (by kernel_rfl) Try.func3 (by kernel_rfl)
    (of_decide_eq_true (by kernel_rfl)) (by unfold Func.isWrapper; first | (rw [if_pos (by decide +kernel)]; kernel_rfl) | (rw [if_neg (by decide +kernel)]; exact ⟨rfl, rfl⟩))
    (fun os started H enc _ => lifted os started H enc)

theorem proved : Rows.FnExactIsPoolSaid := over
#print axioms proved
end Go.Proofs.Ytfenedoalnieaaa.lawFnExactIsPool
