/- FnExactAddTerm: for every input the law returns true, and each argument reads as it did. No condition. -/
import Derived.Test.YtacoimlccibdfaaTermE
import Derived.Test.YtacoimlccibdfaaFrame
import Derived.Deep.DeepCutAuto
namespace Go.Proofs.Ytacoimlccibdfaa.lawFnExactAddTerm
open Go.ChangeShapes Go.WideShapes Go.ChangeAt Go.RowKit
theorem toTerm_lit (num beg fin : Int) (w : World) : Calls Try.prog 21 #[.agg #[.int .i64 num, .int .i64 beg, .int .i64 fin]] w fun e w' => e = .returned (.agg #[.int .i64 num, .int .i64 beg, .int .i64 fin]) ∧ Below w.heap.size w w' := toTerm_any ⟨num, beg, fin⟩ w
theorem specAddTerm_lit (v : Value) (cs : List T3) (num beg fin : Int) (w : World) (lo : Nat) (h : SlT3 w lo w.heap.size v cs) :
    Calls Try.prog 20 #[v, .agg #[.int .i64 num, .int .i64 beg, .int .i64 fin]] w fun e w' => ∃ v', e = .returned (.tuple #[v', .int .i64 (addTermF cs ⟨num, beg, fin⟩).2]) ∧ OwnR T3.vals 3 w' w.heap.size 36 v' (addTermF cs ⟨num, beg, fin⟩).1 ∧ Below w.heap.size w w' := specAddTerm_any v cs ⟨num, beg, fin⟩ w lo h
theorem implAddTerm_lit (v : Value) (cs : List T3) (num beg fin : Int) (w : World) (lo : Nat) (h : SlT3 w lo w.heap.size v cs) :
    Calls Try.prog 22 #[v, .agg #[.int .i64 num, .int .i64 beg, .int .i64 fin]] w fun e w' => ∃ v', e = .returned (.tuple #[v', .int .i64 (addTermF cs ⟨num, beg, fin⟩).2]) ∧ OwnR T3.vals 3 w' w.heap.size 36 v' (addTermF cs ⟨num, beg, fin⟩).1 ∧ Below w.heap.size w w' := implAddTerm_any v cs ⟨num, beg, fin⟩ w lo h
set_option maxRecDepth 100000 in
set_option maxHeartbeats 4000000 in
theorem walkL (v0 : Value) (cs0 : List T3) (num beg fin : Int) (w : World) (h0 : SlT3 w 0 w.heap.size v0 cs0) :
    Calls Try.prog 5 #[v0, .agg #[.int .i64 num, .int .i64 beg, .int .i64 fin]] w fun e w' => e = .returned (.bool true) ∧ Below w.heap.size w w' := by
  have hL : (addTermF cs0 ⟨num, beg, fin⟩).1.length ≤ cs0.length + 1 := addTermF_len cs0 _
  have hq : (0:Int) ≤ 1048576 ∧ (1048576:Int) ≤ 1048576 := by omega
  go_enter Try.func5, Try.ntmps5
  go_wp2_with fail
  have b1 := Blk.new w 33 #[.int .i64 num, .int .i64 beg, .int .i64 fin]
  have B0 : Below w.heap.size w (w.alloc (.cells #[.int .i64 num, .int .i64 beg, .int .i64 fin] 33)) := (Below.refl _ _).alloc (Nat.le_refl _) _
  have zA : w.heap.size + 1 ≤ (w.alloc (.cells #[.int .i64 num, .int .i64 beg, .int .i64 fin] 33)).heap.size := by simp
  have h0 := h0.below B0 (Nat.le_refl _)
  generalize (w.alloc (.cells #[.int .i64 num, .int .i64 beg, .int .i64 fin] 33)) = w0 at *
  refine (szTermS_u v0 cs0 1048576 _ h0 (by omega) (by omega) (by omega)).mono ?_
  rintro e w1 ⟨r0, rfl, hr0, hs0, hb1⟩
  have z1 := hb1.size
  have h0 := h0.below hb1 (by omega)
  have b1 := b1.below' hb1
  have B1 := Below.trans B0 (Below.mono hb1 (by omega))
  clear hb1 B0
  rcases (by omega : r0 < 0 ∨ 0 ≤ r0) with hn0 | hn0
  · go_wp2_with fail
    go_ret
    exact ⟨rfl, B1⟩
  have hs0 := hs0 hn0
  go_upto_region 5 with fail
  go_cut [6, 7] (fun x2 sB wx => sB = .int .i64 (addTermF cs0 ⟨num, beg, fin⟩).2 ∧ OwI T3.vals 3 36 wx w1.heap.size wx.heap.size x2 (addTermF cs0 ⟨num, beg, fin⟩).1 ∧ Below w1.heap.size w1 wx)
  case first =>
    have hD : Below w1.heap.size w1 w1.drew := (Below.refl _ _).drew
    have KS : Hid (∀ w', Below w1.heap.size w1 w' → w'.cell? ⟨w.heap.size, 0, none⟩ = some (.int .i64 num) ∧ w'.cell? ⟨w.heap.size, 1, none⟩ = some (.int .i64 beg) ∧ w'.cell? ⟨w.heap.size, 2, none⟩ = some (.int .i64 fin)) := Lib.hid fun W hW => ⟨(b1.below' hW).cell 0, (b1.below' hW).cell 1, (b1.below' hW).cell 2⟩
    have hdD : SlT3 w1.drew 0 w1.drew.heap.size v0 cs0 := (h0.below hD (by omega)).more (Nat.le_refl _) (by have := hD.size; omega)
    have h9 : SlT3 w1 0 w1.heap.size v0 cs0 := h0.more (Nat.le_refl _) (by omega)
    obtain ⟨k0, k1, k2⟩ := KS.out _ (Below.refl _ _)
    go_region_held3 (fun w' => w'.cell? ⟨w.heap.size, 0, none⟩ = some (.int .i64 num) ∧ w'.cell? ⟨w.heap.size, 1, none⟩ = some (.int .i64 beg) ∧ w'.cell? ⟨w.heap.size, 2, none⟩ = some (.int .i64 fin)) (first | exact KS.out _ hD | exact KS.out _ hbd | exact KS.out _ hbc | exact KS.out _ hbb | exact KS.out _ hba) (first
      | (go_at_call 15; (with_reducible refine (toTermS_any v0 cs0 (w1.drew) 0 hdD hs0).mono ?_); rintro e wa ⟨xa, rfl, oa, hba'⟩; have hba := hD.trans (hba'.mono hD.size); have za := hba.size)
      | (go_at_call 21; (with_reducible refine (toTerm_lit num beg fin (w1.drew)).mono ?_); rintro e wb ⟨rfl, hbb'⟩; have hbb := hD.trans (hbb'.mono hD.size); have zb := hbb.size; have hdb : SlT3 wb 0 wb.heap.size v0 cs0 := (h9.below hbb (Nat.le_refl _)).more (Nat.le_refl _) zb)
      | (go_at_call 21; (with_reducible refine (toTerm_lit num beg fin wa).mono ?_); rintro e wc ⟨rfl, hbc'⟩; have hbc := hba.trans (hbc'.mono za); have oc : OwnR T3.vals 3 wc w1.heap.size 36 xa cs0 := (oa.below hbc').more hD.size)
      | (go_at_call 15; (with_reducible refine (toTermS_any v0 cs0 wb 0 hdb hs0).mono ?_); rintro e wc ⟨xa, rfl, oc', hbc'⟩; have hbc := hbb.trans (hbc'.mono zb); have oc : OwnR T3.vals 3 wc w1.heap.size 36 xa cs0 := oc'.more zb)
      | (go_at_call 20; (with_reducible refine (specAddTerm_lit xa cs0 num beg fin wc _ (own_slT3 oc)).mono ?_); rintro e wd ⟨xd, rfl, od, hbd'⟩; have hbd := hbc.trans (hbd'.mono hbc.size)))
    all_goals (go_wp2_with fail; go_meet; exact ⟨rfl, OwI.of (od.more hbc.size), hbd⟩)
  case rest =>
  obtain ⟨rfl, o2, hb2⟩ := hcut
  obtain ⟨x2, rfl⟩ : ∃ x : Value, x = u6 := ⟨_, rfl⟩
  obtain ⟨w2, rfl⟩ : ∃ w2 : World, w2 = wc := ⟨_, rfl⟩
  have z2 := hb2.size
  have h0 := h0.below hb2 (by omega)
  have b1 := b1.below' hb2
  have B2 := Below.trans B1 (Below.mono hb2 (by omega))
  clear hb2 B1
  go_wp2_with fail
  refine (toTermS_any v0 cs0 _ 0 (h0.more (Nat.le_refl _) (by omega)) hs0).mono ?_
  rintro e w3 ⟨x3, rfl, o3, hb3⟩
  have z3 := hb3.size
  have h0 := h0.below hb3 (by omega)
  have b1 := b1.below' hb3
  have o2 := o2.below hb3
  have B3 := Below.trans B2 (Below.mono hb3 (by omega))
  clear hb3 B2
  have o3 := OwI.of o3
  have k0 : w3.cell? ⟨w.heap.size, 0, none⟩ = some (.int .i64 num) := b1.cell 0
  have k1 : w3.cell? ⟨w.heap.size, 1, none⟩ = some (.int .i64 beg) := b1.cell 1
  have k2 : w3.cell? ⟨w.heap.size, 2, none⟩ = some (.int .i64 fin) := b1.cell 2
  go_wp2_with fail
  clear k0 k1 k2
  refine (toTerm_lit num beg fin _).mono ?_
  rintro e w4 ⟨rfl, hb4⟩
  have z4 := hb4.size
  have h0 := h0.below hb4 (by omega)
  have b1 := b1.below' hb4
  have o2 := o2.below hb4
  have o3 := o3.below hb4
  have B4 := Below.trans B3 (Below.mono hb4 (by omega))
  clear hb4 B3
  go_wp2_with fail
  refine (implAddTerm_lit x3 cs0 num beg fin _ _ (OwI.rd (fun _ => rfl) o3)).mono ?_
  rintro e w5 ⟨x5, rfl, o5, hb5⟩
  have z5 := hb5.size
  have h0 := h0.below hb5 (by omega)
  have b1 := b1.below' hb5
  have o2 := o2.below hb5
  have o3 := o3.below hb5
  have B5 := Below.trans B4 (Below.mono hb5 (by omega))
  clear hb5 B4
  have o5 := OwI.of o5
  go_wp2_with fail
  refine (eqTermS_any x5 x2 (addTermF cs0 ⟨num, beg, fin⟩).1 (addTermF cs0 ⟨num, beg, fin⟩).1 _ _ _ (OwI.rd (fun _ => rfl) o5) (OwI.rd (fun _ => rfl) o2)).mono ?_
  rintro e w6 ⟨rfl, hb6⟩
  have z6 := hb6.size
  have h0 := h0.below hb6 (by omega)
  have b1 := b1.below' hb6
  have o2 := o2.below hb6
  have o3 := o3.below hb6
  have o5 := o5.below hb6
  have B6 := Below.trans B5 (Below.mono hb6 (by omega))
  clear hb6 B5
  go_wp2_with fail
  refine (toTermS_any v0 cs0 _ 0 (h0.more (Nat.le_refl _) (by omega)) hs0).mono ?_
  rintro e w7 ⟨x7, rfl, o7, hb7⟩
  have z7 := hb7.size
  have h0 := h0.below hb7 (by omega)
  have b1 := b1.below' hb7
  have o2 := o2.below hb7
  have o3 := o3.below hb7
  have o5 := o5.below hb7
  have B7 := Below.trans B6 (Below.mono hb7 (by omega))
  clear hb7 B6
  have o7 := OwI.of o7
  go_wp2_with fail
  refine (eqTermS_any x3 x7 cs0 cs0 _ _ _ (OwI.rd (fun _ => rfl) o3) (OwI.rd (fun _ => rfl) o7)).mono ?_
  rintro e w8 ⟨rfl, hb8⟩
  have z8 := hb8.size
  have h0 := h0.below hb8 (by omega)
  have b1 := b1.below' hb8
  have o2 := o2.below hb8
  have o3 := o3.below hb8
  have o5 := o5.below hb8
  have o7 := o7.below hb8
  have B8 := Below.trans B7 (Below.mono hb8 (by omega))
  clear hb8 B7
  clear o7
  go_wp2_with fail
  have in9 := Lib.hid o3.in_
  refine (markTermS_any x3 _ _ 1 _ _ (OwnR.own o3.own) (by omega) (by omega) (by omega)).mono ?_
  rintro e w9 ⟨rfl, m9, hg9⟩
  have hc9 := Chg.of_grown hg9 in9.out
  clear hg9 o3
  have z9 := hc9.size
  have h0 := h0.chg hc9 (by omega) (by omega)
  have b1 := Chg.blk b1 hc9 (by omega)
  have o2 := o2.chg hc9 (by omega)
  have o5 := o5.chg hc9 (by omega)
  have B9 := Chg.below B8 hc9 (by omega) (by omega)
  clear hc9 B8
  have m9 : OwI _ _ _ _ _ _ _ _ := ⟨m9, fun g hg => (in9.out g hg).2⟩
  clear m9
  go_wp2_with fail
  refine (eqTermS_any x5 x2 (addTermF cs0 ⟨num, beg, fin⟩).1 (addTermF cs0 ⟨num, beg, fin⟩).1 _ _ _ (OwI.rd (fun _ => rfl) o5) (OwI.rd (fun _ => rfl) o2)).mono ?_
  rintro e w10 ⟨rfl, hb10⟩
  have z10 := hb10.size
  have h0 := h0.below hb10 (by omega)
  have b1 := b1.below' hb10
  have o2 := o2.below hb10
  have o5 := o5.below hb10
  have B10 := Below.trans B9 (Below.mono hb10 (by omega))
  clear hb10 B9
  go_wp2_with fail
  have in11 := Lib.hid o5.in_
  refine (markTermS_any x5 _ _ 1 _ _ (OwnR.own o5.own) (by omega) (by omega) (by omega)).mono ?_
  rintro e w11 ⟨rfl, m11, hg11⟩
  have hc11 := Chg.of_grown hg11 in11.out
  clear hg11 o5
  have z11 := hc11.size
  have h0 := h0.chg hc11 (by omega) (by omega)
  have b1 := Chg.blk b1 hc11 (by omega)
  have o2 := o2.chg hc11 (by omega)
  have B11 := Chg.below B10 hc11 (by omega) (by omega)
  clear hc11 B10
  have m11 : OwI _ _ _ _ _ _ _ _ := ⟨m11, fun g hg => (in11.out g hg).2⟩
  go_wp2_with fail
  refine (heldTermS_any x5 _ 1 _ _ _ (OwI.rd (fun _ => rfl) m11) (by omega) (by omega) (by omega)).mono ?_
  rintro e w1011 ⟨rfl, rfl⟩
  go_upto_region 24 with fail
  go_cut [14, 15] (fun x12 sB wx => sB = .int .i64 (addTermF cs0 ⟨num, beg, fin⟩).2 ∧ OwI T3.vals 3 36 wx w11.heap.size wx.heap.size x12 (addTermF cs0 ⟨num, beg, fin⟩).1 ∧ Below w11.heap.size w11 wx)
  case first =>
    have hD : Below w11.heap.size w11 w11.drew := (Below.refl _ _).drew
    have KS : Hid (∀ w', Below w11.heap.size w11 w' → w'.cell? ⟨w.heap.size, 0, none⟩ = some (.int .i64 num) ∧ w'.cell? ⟨w.heap.size, 1, none⟩ = some (.int .i64 beg) ∧ w'.cell? ⟨w.heap.size, 2, none⟩ = some (.int .i64 fin)) := Lib.hid fun W hW => ⟨(b1.below' hW).cell 0, (b1.below' hW).cell 1, (b1.below' hW).cell 2⟩
    have hdD : SlT3 w11.drew 0 w11.drew.heap.size v0 cs0 := (h0.below hD (by omega)).more (Nat.le_refl _) (by have := hD.size; omega)
    have h9 : SlT3 w11 0 w11.heap.size v0 cs0 := h0.more (Nat.le_refl _) (by omega)
    obtain ⟨k0, k1, k2⟩ := KS.out _ (Below.refl _ _)
    go_region_held3 (fun w' => w'.cell? ⟨w.heap.size, 0, none⟩ = some (.int .i64 num) ∧ w'.cell? ⟨w.heap.size, 1, none⟩ = some (.int .i64 beg) ∧ w'.cell? ⟨w.heap.size, 2, none⟩ = some (.int .i64 fin)) (first | exact KS.out _ hD | exact KS.out _ hbd | exact KS.out _ hbc | exact KS.out _ hbb | exact KS.out _ hba) (first
      | (go_at_call 15; (with_reducible refine (toTermS_any v0 cs0 (w11.drew) 0 hdD hs0).mono ?_); rintro e wa ⟨xa, rfl, oa, hba'⟩; have hba := hD.trans (hba'.mono hD.size); have za := hba.size)
      | (go_at_call 21; (with_reducible refine (toTerm_lit num beg fin (w11.drew)).mono ?_); rintro e wb ⟨rfl, hbb'⟩; have hbb := hD.trans (hbb'.mono hD.size); have zb := hbb.size; have hdb : SlT3 wb 0 wb.heap.size v0 cs0 := (h9.below hbb (Nat.le_refl _)).more (Nat.le_refl _) zb)
      | (go_at_call 21; (with_reducible refine (toTerm_lit num beg fin wa).mono ?_); rintro e wc ⟨rfl, hbc'⟩; have hbc := hba.trans (hbc'.mono za); have oc : OwnR T3.vals 3 wc w11.heap.size 36 xa cs0 := (oa.below hbc').more hD.size)
      | (go_at_call 15; (with_reducible refine (toTermS_any v0 cs0 wb 0 hdb hs0).mono ?_); rintro e wc ⟨xa, rfl, oc', hbc'⟩; have hbc := hbb.trans (hbc'.mono zb); have oc : OwnR T3.vals 3 wc w11.heap.size 36 xa cs0 := oc'.more zb)
      | (go_at_call 22; (with_reducible refine (implAddTerm_lit xa cs0 num beg fin wc _ (own_slT3 oc)).mono ?_); rintro e wd ⟨xd, rfl, od, hbd'⟩; have hbd := hbc.trans (hbd'.mono hbc.size)))
    all_goals (go_wp2_with fail; go_meet; exact ⟨rfl, OwI.of (od.more hbc.size), hbd⟩)
  case rest =>
  obtain ⟨rfl, o12, hb12⟩ := hcut
  obtain ⟨x12, rfl⟩ : ∃ x : Value, x = u14 := ⟨_, rfl⟩
  obtain ⟨w12, rfl⟩ : ∃ w12 : World, w12 = wc := ⟨_, rfl⟩
  have z12 := hb12.size
  have h0 := h0.below hb12 (by omega)
  have b1 := b1.below' hb12
  have o2 := o2.below hb12
  have m11 := m11.below hb12
  have B12 := Below.trans B11 (Below.mono hb12 (by omega))
  clear hb12 B11
  go_wp2_with fail
  refine (eqTermS_any x12 x2 (addTermF cs0 ⟨num, beg, fin⟩).1 (addTermF cs0 ⟨num, beg, fin⟩).1 _ _ _ (OwI.rd (fun _ => rfl) o12) (OwI.rd (fun _ => rfl) o2)).mono ?_
  rintro e w13 ⟨rfl, hb13⟩
  have z13 := hb13.size
  have h0 := h0.below hb13 (by omega)
  have b1 := b1.below' hb13
  have o2 := o2.below hb13
  have m11 := m11.below hb13
  have o12 := o12.below hb13
  have B13 := Below.trans B12 (Below.mono hb13 (by omega))
  clear hb13 B12
  go_wp2_with fail
  refine (heldTermS_any x5 _ 1 _ _ _ (OwI.rd (fun _ => rfl) m11) (by omega) (by omega) (by omega)).mono ?_
  rintro e w1013 ⟨rfl, rfl⟩
  go_wp2_with fail
  go_ret
  exact ⟨rfl, B13⟩

theorem walk (v0 : Value) (v1 : Value) (w : World) (g0 : ∃ cs, SlT3 w 0 w.heap.size v0 cs) (g1 : ∃ num beg fin : Int, v1 = .agg #[.int .i64 num, .int .i64 beg, .int .i64 fin]) :
    Calls Try.prog 5 #[v0, v1] w fun e w' => e = .returned (.bool true) ∧ Below w.heap.size w w' := by
  obtain ⟨cs0, h0⟩ := g0
  obtain ⟨num, beg, fin, rfl⟩ := g1
  exact walkL v0 cs0 num beg fin w h0

set_option maxRecDepth 100000 in
theorem open_TermV {H : Type} {enc : TypeId × Value → H} {w : World} {base : Nat} {v : Value} {d : DataW H} {p : List MemPlace} (hv : Value.okWide Try.prog w .any base 33 v) (h : DataW.Trod enc Try.prog w 0 (fun _ => true) true 33 v d p) :
    ∃ num beg fin : Int, v = .agg #[.int .i64 num, .int .i64 beg, .int .i64 fin] := by
  obtain ⟨cs, rfl, hsz⟩ := okWide_struct Try.underlying33 hv
  obtain ⟨fuel, hf⟩ := h
  obtain ⟨t, ht, _⟩ := open_T3 hf
  refine ⟨t.num, t.beg, t.fin, ?_⟩
  obtain ⟨l⟩ := cs
  simp [Value.cells, T3.vals] at ht
  rw [ht]


theorem own : ownKnob Try.prog.godebug = none := by kernel_rfl
theorem laidOut : laidOutB Try.prog = true := by kernel_rfl

set_option maxRecDepth 100000 in
theorem lifted (os : Os) (started : os.Started) (H : Type) (enc : TypeId × Value → H) :
    ReturnsInHanded {} Try.checked os 5 .any (Rows.fnExactAddTermSpec.pre6 enc Try.prog Try.f5 Rows.fnExactAddTermRow.domain false) (Rows.fnExactAddTermSpec.post enc Try.prog Try.f5 false true false false) := by
  refine returnsInHanded_of_change (C := Try.checked) own started (by kernel_rfl) Try.func5
    (ChangeSpec.witness6 (enc := enc) (C := Try.checked) false ⟨#[], #[.slice none 0 0, .agg #[.int .i64 0, .int .i64 0, .int .i64 0]], []⟩ 8 (by kernel_rfl) (by kernel_rfl) (by kernel_rfl) (by kernel_rfl)) ?_
  intro W base args ds gs before hval0 hW hcnd _
  have hval : ∀ (j : Nat) t v, Try.f5.params[j]? = some t → args[j]? = some v → Value.okWide Try.prog W .any base t v := hval0
  have hW' := hW
  obtain ⟨p, q, hA0, hV, rfl, hfz, hnd⟩ := hW
  have hA : DataW.TrodAll enc Try.prog W 0 (fun _ => true) true Try.f5.params.toList args.toList ds p := hA0
  rw [Try.params5] at hA hval
  obtain ⟨v0, vs0, d0, ds0, p0, q0, hargs, rfl, rfl, h0, r0⟩ := trodAll_cons hA
  obtain ⟨v1, vs1, d1, ds1, p1, q1, rfl, rfl, rfl, h1, r1⟩ := trodAll_cons r0
  obtain ⟨rfl, rfl, rfl⟩ := trodAll_nil r1
  obtain rfl : args = #[v0, v1] := by cases args; simp_all
  obtain ⟨rfl, rfl⟩ := trodVars_none hV
  have lt0 : ∀ x ∈ p0, x.block < W.heap.size := by obtain ⟨m, hm⟩ := h0; exact DataW.trod_lt m _ _ _ hm
  have lt1 : ∀ x ∈ p1, x.block < W.heap.size := by obtain ⟨m, hm⟩ := h1; exact DataW.trod_lt m _ _ _ hm
  have g0 := open_TermS (hval 0 22 v0 rfl rfl) h0
  have g1 := open_TermV (hval 1 33 v1 rfl rfl) h1
  clear hA0 hval0
  refine (walk v0 v1 W g0 g1).mono fun e W' ⟨he, bel⟩ => ?_
  subst he
  exact ⟨_, rfl, _, _, _, [], _, [], hW', trodAll_mk1 (shut_bool Try.underlying4 _), (trodAll_cons_mk (Below.trod laidOut (by kernel_rfl) (of_decide_eq_true (by kernel_rfl)) h0 bel lt0) (trodAll_cons_mk (Below.trod laidOut (by kernel_rfl) (of_decide_eq_true (by kernel_rfl)) h1 bel lt1) trodAll_mk0)), rfl, bel.frame _, fun h => by cases h⟩

theorem over : Rows.fnExactAddTermRow.holds Try.pinned (OpenSpec.ofChange Rows.fnExactAddTermSpec) :=
  OpenClaim.holds_of_wide 5 Try.f5 rfl rfl rfl rfl rfl rfl rfl ⟨rfl, rfl, rfl, rfl, rfl⟩ rfl rfl rfl rfl rfl (by kernel_rfl) Try.func5 (by kernel_rfl)
    (of_decide_eq_true (by kernel_rfl)) (by unfold Func.isWrapper; first | (rw [if_pos (by decide +kernel)]; kernel_rfl) | (rw [if_neg (by decide +kernel)]; exact ⟨rfl, rfl⟩))
    (fun os started H enc _ => lifted os started H enc)

theorem proved : Rows.FnExactAddTermSaid := over
#print axioms proved
end Go.Proofs.Ytacoimlccibdfaa.lawFnExactAddTerm

