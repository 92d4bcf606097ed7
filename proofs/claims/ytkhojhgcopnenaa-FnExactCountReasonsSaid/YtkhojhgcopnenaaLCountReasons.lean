/- FnExactCountReasons: for every input the law returns true, and each argument reads as it did. No condition. -/
import Derived.Test.YtkhojhgcopnenaaQualI
import Derived.Test.YtkhojhgcopnenaaQualK
namespace Go.Proofs.Ytkhojhgcopnenaa.lawFnExactCountReasons
open Go.ChangeShapes Go.WideShapes Go.ChangeAt Go.RowKit
attribute [local go_sem ↓] Go.wp_at_zero Go.wp_at_succ
set_option maxRecDepth 100000 in
set_option maxHeartbeats 8000000 in
theorem walkL (r : R5) (cs : List K9) (A B C : Option Addr) (a b c : Nat) (w : World) (hz : SlI w 0 w.heap.size (.slice A r.zones.length a) r.zones) (hj : SlI w 0 w.heap.size (.slice B r.jobs.length b) r.jobs) (hc : SlR K9.vals 9 w 0 w.heap.size (.slice C cs.length c) cs) (hs : ∀ x ∈ cs, x.small) :
    Calls Try.prog 6 #[.agg #[.int .i64 r.yr, .int .i64 r.lo, .int .i64 r.hi, .slice A r.zones.length a, .slice B r.jobs.length b], .slice C cs.length c] w fun e w' => e = .returned (.bool true) ∧ Below w.heap.size w w' := by
  have hL : (countF r cs).1.length ≤ 60 := countF_len r cs
  have bR := Blk.new w 32 #[.int .i64 r.yr, .int .i64 r.lo, .int .i64 r.hi, .slice A r.zones.length a, .slice B r.jobs.length b]
  have hB : Below w.heap.size w (w.alloc (.cells #[.int .i64 r.yr, .int .i64 r.lo, .int .i64 r.hi, .slice A r.zones.length a, .slice B r.jobs.length b] 32)) := (Below.refl _ _).alloc (Nat.le_refl _) _
  go_enter Try.func6, Try.ntmps6
  go_wp2_with fail
  generalize (w.alloc (.cells #[.int .i64 r.yr, .int .i64 r.lo, .int .i64 r.hi, .slice A r.zones.length a, .slice B r.jobs.length b] 32)) = w0 at *
  have zw0 := hB.size
  have zR := bR.lt
  refine (szRules_u r _ _ 1048576 w0 _ _ (hz.bel hB) (hj.bel hB) (by omega) (by omega)).mono ?_
  rintro e w1 ⟨q1, rfl, hq1, hl, hb1⟩
  have zw1 := hb1.size
  have bR := bR.below' hb1
  have hB := hB.trans (hb1.mono (by omega))
  clear hb1
  by_cases n1 : q1 < 0
  · go_wp2_with fail
    go_ret
    exact ⟨rfl, hB⟩
  obtain ⟨l1, l2⟩ := hl (by omega)
  clear hl
  go_wp2_with fail
  refine (szCandidateS_u _ cs q1 w1 (hc.bel hB) hs (Nat.le_refl _) (by omega) hq1).mono ?_
  rintro e w2 ⟨q2, rfl, hq2, hl3, hb2⟩
  have zw2 := hb2.size
  have bR := bR.below' hb2
  have hB := hB.trans (hb2.mono (by omega))
  clear hb2
  by_cases n2 : q2 < 0
  · go_wp2_with fail
    go_ret
    exact ⟨rfl, hB⟩
  have l3 := hl3 (by omega)
  clear hl3
  obtain ⟨d0, d1, d2, d3, d4⟩ := r5_cells bR
  go_wp2_with fail
  clear d0 d1 d2 d3 d4
  refine (toRules_r r _ _ w2 _ _ (hz.bel hB) (hj.bel hB) l1 l2).mono ?_
  rintro e w3 ⟨yz3, yj3, kz3, kj3, rfl, sz3, sj3, hb3⟩
  have zw3 := hb3.size
  have bR := bR.below' hb3
  have hB := hB.trans (hb3.mono (by omega))
  clear hb3
  go_wp2_with fail
  refine (toCandidateS_any _ cs w3 _ (hc.bel hB) l3).mono ?_
  rintro e w4 ⟨x4, rfl, o4, hb4⟩
  have zw4 := hb4.size
  have sz3 := sz3.below hb4 (by omega)
  have sj3 := sj3.below hb4 (by omega)
  have bR := bR.below' hb4
  have hB := hB.trans (hb4.mono (by omega))
  clear hb4
  have o4 := OwI.of o4
  go_wp2_with fail
  refine (specCountReasons_any r _ _ _ cs w4 _ _ _ (sz3.more (Nat.zero_le _) (by omega)) (sj3.more (Nat.zero_le _) (by omega)) (OwI.rd (fun _ => rfl) o4) hs).mono ?_
  rintro e w5 ⟨x5, rfl, o5, hb5⟩
  have zw5 := hb5.size
  have sz3 := sz3.below hb5 (by omega)
  have sj3 := sj3.below hb5 (by omega)
  have o4 := o4.below hb5
  have bR := bR.below' hb5
  have hB := hB.trans (hb5.mono (by omega))
  clear hb5
  have o5 := OwI.of o5
  clear sz3
  clear sj3
  clear o4
  obtain ⟨d0, d1, d2, d3, d4⟩ := r5_cells bR
  go_wp2_with fail
  clear d0 d1 d2 d3 d4
  refine (toRules_any r _ _ w5 _ _ (hz.bel hB) (hj.bel hB) l1 l2).mono ?_
  rintro e w6 ⟨xz, xj, Q, rfl, oz, oj, hQ1, hQ2, hb6⟩
  have zw6 := hb6.size
  have o5 := o5.below hb6
  have bR := bR.below' hb6
  have hB := hB.trans (hb6.mono (by omega))
  clear hb6
  obtain ⟨X, kz, rfl, _, _⟩ := oz.form
  obtain ⟨Y, kj, rfl, _, _⟩ := oj.form
  have bX := Blk.new w6 41 #[.int .i64 r.yr, .int .i64 r.lo, .int .i64 r.hi, .slice X r.zones.length kz, .slice Y r.jobs.length kj]
  have hbx : Below w6.heap.size w6 (w6.alloc (.cells #[.int .i64 r.yr, .int .i64 r.lo, .int .i64 r.hi, .slice X r.zones.length kz, .slice Y r.jobs.length kj] 41)) := (Below.refl _ _).alloc (Nat.le_refl _) _
  go_wp2_with fail
  generalize (w6.alloc (.cells #[.int .i64 r.yr, .int .i64 r.lo, .int .i64 r.hi, .slice X r.zones.length kz, .slice Y r.jobs.length kj] 41)) = w7 at *
  have zw7 := hbx.size
  have o5 := o5.below hbx
  have oz := oz.below hbx
  have oj := oj.below hbx
  have bR := bR.below' hbx
  have hB := hB.trans (hbx.mono (by omega))
  clear hbx
  go_wp2_with fail
  refine (toCandidateS_any _ cs w7 _ (hc.bel hB) l3).mono ?_
  rintro e w8 ⟨x8, rfl, o8, hb8⟩
  have zw8 := hb8.size
  have o5 := o5.below hb8
  have oz := oz.below hb8
  have oj := oj.below hb8
  have bR := bR.below' hb8
  have bX := bX.below' hb8
  have hB := hB.trans (hb8.mono (by omega))
  clear hb8
  have o8 := OwI.of o8
  obtain ⟨d0, d1, d2, d3, d4⟩ := r5_cells bX
  go_wp2_with fail
  refine (implCountReasons_any r _ _ _ cs w8 _ _ _ (OwI.rd (fun _ => rfl) oz) (OwI.rd (fun _ => rfl) oj) (OwI.rd (fun _ => rfl) o8) hs).mono ?_
  rintro e w9 ⟨x9, rfl, o9, hb9⟩
  have zw9 := hb9.size
  have o5 := o5.below hb9
  have oz := oz.below hb9
  have oj := oj.below hb9
  have o8 := o8.below hb9
  have bR := bR.below' hb9
  have bX := bX.below' hb9
  have hB := hB.trans (hb9.mono (by omega))
  clear hb9
  have o9 := OwI.of o9
  clear d0 d1 d2 d3 d4
  go_wp2_with fail
  refine (eqInt64S_any _ _ (countF r cs).1 (countF r cs).1 w9 _ _ (OwI.rd (fun _ => rfl) o9) (OwI.rd (fun _ => rfl) o5)).mono ?_
  rintro e w10 ⟨rfl, hb10⟩
  have zw10 := hb10.size
  have o5 := o5.below hb10
  have oz := oz.below hb10
  have oj := oj.below hb10
  have o8 := o8.below hb10
  have o9 := o9.below hb10
  have bR := bR.below' hb10
  have bX := bX.below' hb10
  have hB := hB.trans (hb10.mono (by omega))
  clear hb10
  have HK : Hid (∀ W, Below w10.heap.size w10 W → W.cell? ⟨w6.heap.size, 0, none⟩ = some (.int .i64 r.yr) ∧ W.cell? ⟨w6.heap.size, 1, none⟩ = some (.int .i64 r.lo) ∧ W.cell? ⟨w6.heap.size, 2, none⟩ = some (.int .i64 r.hi) ∧ W.cell? ⟨w6.heap.size, 3, none⟩ = some (.slice X r.zones.length kz) ∧ W.cell? ⟨w6.heap.size, 4, none⟩ = some (.slice Y r.jobs.length kj) ∧ W.cell? ⟨w.heap.size, 0, none⟩ = some (.int .i64 r.yr) ∧ W.cell? ⟨w.heap.size, 1, none⟩ = some (.int .i64 r.lo) ∧ W.cell? ⟨w.heap.size, 2, none⟩ = some (.int .i64 r.hi) ∧ W.cell? ⟨w.heap.size, 3, none⟩ = some (.slice A r.zones.length a) ∧ W.cell? ⟨w.heap.size, 4, none⟩ = some (.slice B r.jobs.length b)) := Lib.hid fun W hW => ⟨(bX.below' hW).cell 0, (bX.below' hW).cell 1, (bX.below' hW).cell 2, (bX.below' hW).cell 3, (bX.below' hW).cell 4, (bR.below' hW).cell 0, (bR.below' hW).cell 1, (bR.below' hW).cell 2, (bR.below' hW).cell 3, (bR.below' hW).cell 4⟩
  have hD : Below w10.heap.size w10 w10.drew := (Below.refl _ _).drew
  have sx1 := OwI.rd (f := i64s) (s := 1) (fun _ => rfl) oz
  have sx2 := OwI.rd (f := i64s) (s := 1) (fun _ => rfl) oj
  obtain ⟨k0, k1, k2, k3, k4, k5, k6, k7, k8, k9⟩ := HK.out _ (Below.refl _ _)
  go_wp2_with fail
  go_region_held3 (fun W => W.cell? ⟨w6.heap.size, 0, none⟩ = some (.int .i64 r.yr) ∧ W.cell? ⟨w6.heap.size, 1, none⟩ = some (.int .i64 r.lo) ∧ W.cell? ⟨w6.heap.size, 2, none⟩ = some (.int .i64 r.hi) ∧ W.cell? ⟨w6.heap.size, 3, none⟩ = some (.slice X r.zones.length kz) ∧ W.cell? ⟨w6.heap.size, 4, none⟩ = some (.slice Y r.jobs.length kj) ∧ W.cell? ⟨w.heap.size, 0, none⟩ = some (.int .i64 r.yr) ∧ W.cell? ⟨w.heap.size, 1, none⟩ = some (.int .i64 r.lo) ∧ W.cell? ⟨w.heap.size, 2, none⟩ = some (.int .i64 r.hi) ∧ W.cell? ⟨w.heap.size, 3, none⟩ = some (.slice A r.zones.length a) ∧ W.cell? ⟨w.heap.size, 4, none⟩ = some (.slice B r.jobs.length b)) (first | exact HK.out _ (Below.refl _ _) | exact HK.out _ hD | exact HK.out _ hA1 | exact HK.out _ hA2 | go_keep) (first
    | (go_at_call 17; (with_reducible refine (toRules_r r _ _ w10.drew _ _ (hz.bel hB).drew (hj.bel hB).drew l1 l2).mono ?_); rintro e wa ⟨ya, yb, la, lb, rfl, ta, tb, hba⟩; have hA1 := hD.trans (hba.mono (Nat.le_refl _)))
    | (go_at_call 20; (with_reducible refine (eqRules_same r _ _ _ _ _ _ _ _ wa _ _ _ _ (sx1.drew.bel hba) (sx2.drew.bel hba) ta tb).mono ?_); rintro e wb ⟨rfl, hbb⟩; have hA2 := hA1.trans (hbb.mono hA1.size)))
  clear k0 k1 k2 k3 k4 k5 k6 k7 k8 k9 HK hA1 hba hbb ta tb sx1 sx2 hD
  have zwb := hA2.size
  have o5 := o5.below hA2
  have oz := oz.below hA2
  have oj := oj.below hA2
  have o8 := o8.below hA2
  have o9 := o9.below hA2
  have bR := bR.below' hA2
  have bX := bX.below' hA2
  have hB := hB.trans (hA2.mono (by omega))
  clear hA2
  go_wp2_with fail
  refine (toCandidateS_any _ cs wb _ (hc.bel hB) l3).mono ?_
  rintro e w11 ⟨x11, rfl, o11, hb11⟩
  have zw11 := hb11.size
  have o5 := o5.below hb11
  have oz := oz.below hb11
  have oj := oj.below hb11
  have o8 := o8.below hb11
  have o9 := o9.below hb11
  have bR := bR.below' hb11
  have bX := bX.below' hb11
  have hB := hB.trans (hb11.mono (by omega))
  clear hb11
  have o11 := OwI.of o11
  go_wp2_with fail
  refine (eqCandidateS_same _ _ cs w11 _ _ (OwI.rd (fun _ => rfl) o8) (OwI.rd (fun _ => rfl) o11)).mono ?_
  rintro e w12 ⟨rfl, hb12⟩
  have zw12 := hb12.size
  have o5 := o5.below hb12
  have oz := oz.below hb12
  have oj := oj.below hb12
  have o8 := o8.below hb12
  have o9 := o9.below hb12
  have o11 := o11.below hb12
  have bR := bR.below' hb12
  have bX := bX.below' hb12
  have hB := hB.trans (hb12.mono (by omega))
  clear hb12
  clear o11
  obtain ⟨d0, d1, d2, d3, d4⟩ := r5_cells bX
  go_wp2_with fail
  clear d0 d1 d2 d3 d4
  refine (markRules_any r _ _ 1 w12 _ _ _ oz oj (by omega) (by omega) (by omega) (by omega) (by omega) l1 l2).mono ?_
  rintro e w13 ⟨rfl, hc13⟩
  clear oz
  clear oj
  clear bX
  have zw13 := hc13.size
  have o5 := o5.chg hc13 (by omega)
  have o8 := o8.chg hc13 (by omega)
  have o9 := o9.chg hc13 (by omega)
  have bR := Chg.blk bR hc13 (by omega)
  have hB := Chg.below hB hc13 (by omega) (by omega)
  clear hc13
  go_wp2_with fail
  have in1 := Lib.hid o8.in_
  refine (markCandidateS_any _ _ _ _ w13 _ (OwnR.own o8.own) (by omega) (by omega) (by omega)).mono ?_
  rintro e w14 ⟨rfl, hg14⟩
  have hc14 := Chg.of_grown hg14 in1.out
  clear hg14 in1
  clear o8
  have zw14 := hc14.size
  have o5 := o5.chg hc14 (by omega)
  have o9 := o9.chg hc14 (by omega)
  have bR := Chg.blk bR hc14 (by omega)
  have hB := Chg.below hB hc14 (by omega) (by omega)
  clear hc14
  go_wp2_with fail
  refine (eqInt64S_any _ _ (countF r cs).1 (countF r cs).1 w14 _ _ (OwI.rd (fun _ => rfl) o9) (OwI.rd (fun _ => rfl) o5)).mono ?_
  rintro e w15 ⟨rfl, hb15⟩
  have zw15 := hb15.size
  have o5 := o5.below hb15
  have o9 := o9.below hb15
  have bR := bR.below' hb15
  have hB := hB.trans (hb15.mono (by omega))
  clear hb15
  go_wp2_with fail
  have in2 := Lib.hid o9.in_
  refine (markInt64S_any _ _ _ 1 w15 _ (OwnR.own o9.own) (by omega) (by omega) (by omega)).mono ?_
  rintro e w16 ⟨rfl, m16, hg16⟩
  have hc16 := Chg.of_grown hg16 in2.out
  clear hg16
  clear o9
  have zw16 := hc16.size
  have o5 := o5.chg hc16 (by omega)
  have bR := Chg.blk bR hc16 (by omega)
  have hB := Chg.below hB hc16 (by omega) (by omega)
  clear hc16
  have m16 : OwI _ _ _ _ _ _ _ _ := ⟨m16, fun g hg => (in2.out g hg).2⟩
  clear in2
  go_wp2_with fail
  refine (heldInt64S_any _ _ 1 _ _ _ (OwI.rd (fun _ => rfl) m16) (by omega) (by omega) (by omega)).mono ?_
  rintro e w' ⟨rfl, rfl⟩
  obtain ⟨d0, d1, d2, d3, d4⟩ := r5_cells bR
  go_wp2_with fail
  clear d0 d1 d2 d3 d4
  refine (toRules_r r _ _ w16 _ _ (hz.bel hB) (hj.bel hB) l1 l2).mono ?_
  rintro e w18 ⟨yz18, yj18, kz18, kj18, rfl, sz18, sj18, hb18⟩
  have zw18 := hb18.size
  have o5 := o5.below hb18
  have m16 := m16.below hb18
  have bR := bR.below' hb18
  have hB := hB.trans (hb18.mono (by omega))
  clear hb18
  go_wp2_with fail
  refine (toCandidateS_any _ cs w18 _ (hc.bel hB) l3).mono ?_
  rintro e w19 ⟨x19, rfl, o19, hb19⟩
  have zw19 := hb19.size
  have sz18 := sz18.below hb19 (by omega)
  have sj18 := sj18.below hb19 (by omega)
  have o5 := o5.below hb19
  have m16 := m16.below hb19
  have bR := bR.below' hb19
  have hB := hB.trans (hb19.mono (by omega))
  clear hb19
  have o19 := OwI.of o19
  go_wp2_with fail
  refine (implCountReasons_any r _ _ _ cs w19 _ _ _ (sz18.more (Nat.zero_le _) (by omega)) (sj18.more (Nat.zero_le _) (by omega)) (OwI.rd (fun _ => rfl) o19) hs).mono ?_
  rintro e w20 ⟨x20, rfl, o20, hb20⟩
  have zw20 := hb20.size
  have sz18 := sz18.below hb20 (by omega)
  have sj18 := sj18.below hb20 (by omega)
  have o5 := o5.below hb20
  have m16 := m16.below hb20
  have o19 := o19.below hb20
  have bR := bR.below' hb20
  have hB := hB.trans (hb20.mono (by omega))
  clear hb20
  have o20 := OwI.of o20
  clear sz18
  clear sj18
  clear o19
  go_wp2_with fail
  refine (eqInt64S_any _ _ (countF r cs).1 (countF r cs).1 w20 _ _ (OwI.rd (fun _ => rfl) o20) (OwI.rd (fun _ => rfl) o5)).mono ?_
  rintro e w21 ⟨rfl, hb21⟩
  have zw21 := hb21.size
  have o5 := o5.below hb21
  have m16 := m16.below hb21
  have o20 := o20.below hb21
  have bR := bR.below' hb21
  have hB := hB.trans (hb21.mono (by omega))
  clear hb21
  go_wp2_with fail
  refine (heldInt64S_any _ _ 1 _ _ _ (OwI.rd (fun _ => rfl) m16) (by omega) (by omega) (by omega)).mono ?_
  rintro e w' ⟨rfl, rfl⟩
  go_wp2_with fail
  go_ret
  exact ⟨rfl, hB⟩

theorem walk (v0 v1 : Value) (w : World) (g0 : ∃ (r : R5) (A B : Option Addr) (a b : Nat), v0 = .agg #[.int .i64 r.yr, .int .i64 r.lo, .int .i64 r.hi, .slice A r.zones.length a, .slice B r.jobs.length b] ∧ SlI w 0 w.heap.size (.slice A r.zones.length a) r.zones ∧ SlI w 0 w.heap.size (.slice B r.jobs.length b) r.jobs) (g1 : ∃ cs : List K9, SlR K9.vals 9 w 0 w.heap.size v1 cs ∧ ∀ x ∈ cs, x.small) :
    Calls Try.prog 6 #[v0, v1] w fun e w' => e = .returned (.bool true) ∧ Below w.heap.size w w' := by
  obtain ⟨r, A, B, a, b, rfl, hz, hj⟩ := g0
  obtain ⟨cs, hc, hs⟩ := g1
  obtain ⟨C, c, rfl, _, _⟩ := hc.form
  exact walkL r cs A B C a b c w hz hj hc hs

theorem own : ownKnob Try.prog.godebug = none := by kernel_rfl
theorem laidOut : laidOutB Try.prog = true := by kernel_rfl

set_option maxRecDepth 100000 in
theorem lifted (os : Os) (started : os.Started) (H : Type) (enc : TypeId × Value → H) :
    ReturnsInHanded {} Try.checked os 6 .any (Rows.fnExactCountReasonsSpec.pre6 enc Try.prog Try.f6 Rows.fnExactCountReasonsRow.domain false) (Rows.fnExactCountReasonsSpec.post enc Try.prog Try.f6 false true false false) := by
  refine returnsInHanded_of_change (C := Try.checked) own started (by kernel_rfl) Try.func6
    (ChangeSpec.witness6 (enc := enc) (C := Try.checked) false ⟨#[], #[.agg #[.int .i64 0, .int .i64 0, .int .i64 0, .slice none 0 0, .slice none 0 0], .slice none 0 0], []⟩ 8 (by kernel_rfl) (by kernel_rfl) (by kernel_rfl) (by kernel_rfl)) ?_
  intro W base args ds gs before hval0 hW hcnd _
  have hval : ∀ (j : Nat) t v, Try.f6.params[j]? = some t → args[j]? = some v → Value.okWide Try.prog W .any base t v := hval0
  have hW' := hW
  obtain ⟨p, q, hA0, hV, rfl, hfz, hnd⟩ := hW
  have hA : DataW.TrodAll enc Try.prog W 0 (fun _ => true) true Try.f6.params.toList args.toList ds p := hA0
  rw [Try.params6] at hA hval
  obtain ⟨v0, vs0, d0, ds0, p0, q0, hargs, rfl, rfl, h0, r0⟩ := trodAll_cons hA
  obtain ⟨v1, vs1, d1, ds1, p1, q1, rfl, rfl, rfl, h1, r1⟩ := trodAll_cons r0
  obtain ⟨rfl, rfl, rfl⟩ := trodAll_nil r1
  obtain rfl : args = #[v0, v1] := by cases args; simp_all
  obtain ⟨rfl, rfl⟩ := trodVars_none hV
  have lt0 : ∀ x ∈ p0, x.block < W.heap.size := by obtain ⟨m, hm⟩ := h0; exact DataW.trod_lt m _ _ _ hm
  have lt1 : ∀ x ∈ p1, x.block < W.heap.size := by obtain ⟨m, hm⟩ := h1; exact DataW.trod_lt m _ _ _ hm
  have g0 := open_RulesV (hval 0 32 v0 rfl rfl) h0
  have g1 := open_CandidateS (hval 1 51 v1 rfl rfl) h1
  clear hA0 hval0
  refine (walk v0 v1 W g0 g1).mono fun e W' ⟨he, bel⟩ => ?_
  subst he
  exact ⟨_, rfl, _, _, _, [], _, [], hW', trodAll_mk1 (shut_bool Try.underlying4 _), (trodAll_cons_mk (Below.trod laidOut (by kernel_rfl) (of_decide_eq_true (by kernel_rfl)) h0 bel lt0) (trodAll_cons_mk (Below.trod laidOut (by kernel_rfl) (of_decide_eq_true (by kernel_rfl)) h1 bel lt1) trodAll_mk0)), rfl, bel.frame _, fun h => by cases h⟩

theorem over : Rows.fnExactCountReasonsRow.holds Try.pinned (OpenSpec.ofChange Rows.fnExactCountReasonsSpec) :=
  OpenClaim.holds_of_wide 6 Try.f6 rfl rfl rfl rfl rfl rfl rfl ⟨rfl, rfl, rfl, rfl, rfl⟩ rfl rfl rfl rfl rfl (by kernel_rfl) Try.func6 (by kernel_rfl)
    (of_decide_eq_true (by kernel_rfl)) (by unfold Func.isWrapper; first | (rw [if_pos (by decide +kernel)]; kernel_rfl) | (rw [if_neg (by decide +kernel)]; exact ⟨rfl, rfl⟩))
    (fun os started H enc _ => lifted os started H enc)

theorem proved : Rows.FnExactCountReasonsSaid := over
#print axioms proved
end Go.Proofs.Ytkhojhgcopnenaa.lawFnExactCountReasons
