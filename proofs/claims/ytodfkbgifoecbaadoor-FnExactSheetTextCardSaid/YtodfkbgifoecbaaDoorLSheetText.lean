/- FnExactSheetText: for every input the law returns true, and each argument reads as it did. Its condition: the package-level variable that the row lists reads as the program lays it. -/
import Derived.Test.YtodfkbgifoecbaaDoorTxH
import Derived.Test.YtodfkbgifoecbaaDoorTxL
namespace Go.Proofs.YtodfkbgifoecbaaDoor.lawFnExactSheetText
open Go.ChangeShapes Go.WideShapes Go.ChangeAt Go.RowKit
attribute [local go_sem ↓] Go.wp_at_zero Go.wp_at_succ
set_option maxRecDepth 100000 in
set_option maxHeartbeats 4000000 in
theorem walkL (d : Int) (ps : List Int) (A : Option Addr) (c : Nat) (w : World) (h : SlI w 0 w.heap.size (.slice A ps.length c) ps) (hE : EnvT w.heap.size w) :
    Calls Tryd.prog 3 #[.agg #[.int .i64 d, .slice A ps.length c]] w fun e w' => e = .returned (.bool true) ∧ Below w.heap.size w w' := by
  have bR := Blk.new w 24 #[.int .i64 d, .slice A ps.length c]
  have hB : Below w.heap.size w (w.alloc (.cells #[.int .i64 d, .slice A ps.length c] 24)) := (Below.refl _ _).alloc (Nat.le_refl _) _
  go_enter Tryd.func3, Tryd.ntmps3
  go_wp2_with fail
  generalize (w.alloc (.cells #[.int .i64 d, .slice A ps.length c] 24)) = w1 at *
  refine (szSheet_any _ d ps 1048576 w1 (h.below hB (Nat.le_refl _)) hB.size (by omega) (by omega)).mono ?_
  rintro e w2 ⟨rfl, hb2⟩
  replace hB := hB.trans (hb2.mono hB.size)
  replace bR := bR.below' hb2
  clear hb2
  by_cases q0 : (1048576 : Int) - (ps.length : Int) < 0
  · rw [if_pos q0]
    go_wp2_with fail
    go_ret
    exact ⟨rfl, hB⟩
  rw [if_neg q0]
  have hl : ps.length ≤ 1048576 := by omega
  obtain ⟨k0, k1⟩ := s2_cellsT bR
  go_wp2_with fail
  refine (toSheet_any _ d ps w2 0 ((h.below hB (Nat.le_refl _)).more (Nat.le_refl _) hB.size) hl).mono ?_
  rintro e w3 ⟨xv, rfl, o3, hb3⟩
  replace hB := hB.trans (hb3.mono hB.size)
  replace bR := bR.below' hb3
  have s3 := own_slI o3
  clear k0 k1 hb3 o3
  obtain ⟨X, k, rfl, _, _⟩ := s3.form
  go_wp2_with fail
  refine (specSheetText_any d _ ps w3 _ s3).mono ?_
  rintro e w4 ⟨rfl, hb4⟩
  replace hB := hB.trans (hb4.mono hB.size)
  replace bR := bR.below' hb4
  clear hb4 s3
  obtain ⟨k0, k1⟩ := s2_cellsT bR
  go_wp2_with fail
  refine (toSheet_any _ d ps w4 0 ((h.below hB (Nat.le_refl _)).more (Nat.le_refl _) hB.size) hl).mono ?_
  rintro e w5 ⟨yv, rfl, o5, hb5⟩
  replace hB := hB.trans (hb5.mono hB.size)
  replace bR := bR.below' hb5
  have s5 := own_slI o5
  clear k0 k1 hb5 o5
  obtain ⟨Y, j, rfl, _, _⟩ := s5.form
  have bX := Blk.new w5 28 #[.int .i64 d, .slice Y ps.length j]
  have hb6 : Below w5.heap.size w5 (w5.alloc (.cells #[.int .i64 d, .slice Y ps.length j] 28)) := (Below.refl _ _).alloc (Nat.le_refl _) _
  go_wp2_with fail
  generalize (w5.alloc (.cells #[.int .i64 d, .slice Y ps.length j] 28)) = w6 at *
  replace hB := hB.trans (hb6.mono hB.size)
  replace bR := bR.below' hb6
  have s6 := (s5.below hb6 (Nat.le_refl _)).more (Nat.le_refl _) hb6.size
  clear hb6 s5
  refine (implSheetText_any d _ ps w6 _ s6 w.heap.size (hE.on hB) hB.size).mono ?_
  rintro e w7 ⟨rfl, hb7⟩
  replace hB := hB.trans (hb7.mono hB.size)
  replace bR := bR.below' hb7
  replace bX := bX.below' hb7
  have s7 := (s6.below hb7 (Nat.le_refl _)).more (Nat.le_refl _) hb7.size
  clear hb7 s6
  have hbe := bl_eq (str (textF d ps).1)
  generalize str (textF d ps).1 = ts at *
  generalize (textF d ps).2 = tc at *
  have HK : Hid (∀ W, Below w7.heap.size w7 W → (W.cell? ⟨w5.heap.size, 0, none⟩ = some (.int .i64 d) ∧ W.cell? ⟨w5.heap.size, 1, none⟩ = some (.slice Y ps.length j)) ∧ W.cell? ⟨w.heap.size, 0, none⟩ = some (.int .i64 d) ∧ W.cell? ⟨w.heap.size, 1, none⟩ = some (.slice A ps.length c)) := Lib.hid fun W hW => ⟨s2_cellsT (bX.below' hW), s2_cellsT (bR.below' hW)⟩
  have hD : Below w7.heap.size w7 w7.drew := (Below.refl _ _).drew
  have C1 := toSheet_any _ d ps w7.drew 0 ((h.below (hB.trans (hD.mono hB.size)) (Nat.le_refl _)).more (Nat.le_refl _) (Nat.le_trans hB.size hD.size)) hl
  obtain ⟨⟨x0, x1⟩, k0, k1⟩ := HK.out _ (Below.refl _ _)
  go_wp2_with fail
  go_region_held3 (fun W => (W.cell? ⟨w5.heap.size, 0, none⟩ = some (.int .i64 d) ∧ W.cell? ⟨w5.heap.size, 1, none⟩ = some (.slice Y ps.length j)) ∧ W.cell? ⟨w.heap.size, 0, none⟩ = some (.int .i64 d) ∧ W.cell? ⟨w.heap.size, 1, none⟩ = some (.slice A ps.length c)) (first | exact HK.out _ (Below.refl _ _) | exact HK.out _ hD | exact HK.out _ hA8 | exact HK.out _ hA9 | go_keep) (first
    | (go_at_call 10; (with_reducible refine C1.mono ?_); rintro e w8 ⟨zv, rfl, o8, hb8⟩; have hA8 := hD.trans (hb8.mono (Nat.le_refl _)); have s8 := own_slI o8)
    | (go_at_call 12; (with_reducible refine (eqSheet_as (r := true) (by simp) ((s7.below hA8 (Nat.le_refl _)).more (Nat.le_refl _) hA8.size) s8).mono ?_); rintro e w9 ⟨rfl, hb9⟩; have hA9 := hA8.trans (hb9.mono hA8.size)))
  go_wp2_with fail
  go_ret
  exact ⟨rfl, hB.trans (hA9.mono hB.size)⟩

set_option maxRecDepth 100000 in
theorem open_SheetV {H : Type} {enc : TypeId × Value → H} {w : World} {base : Nat} {v : Value} {d : DataW H} {p : List MemPlace} (hv : Value.okWide Tryd.prog w .any base 24 v) (h : DataW.Trod enc Tryd.prog w 0 (fun _ => true) true 24 v d p) :
    ∃ (n : Int) (ps : List Int) (A : Option Addr) (c : Nat), v = .agg #[.int .i64 n, .slice A ps.length c] ∧ SlI w 0 w.heap.size (.slice A ps.length c) ps := by
  obtain ⟨cs, rfl, hsz⟩ := okWide_struct Tryd.underlying24 hv
  rw [cells_lawsSheet] at hsz
  obtain ⟨fuel, hf⟩ := h
  obtain ⟨a, ha, hs⟩ := open_H2 hf
  refine ⟨a.day, a.pres, a.A, a.c, ?_, hs⟩
  obtain ⟨l⟩ := cs
  simp [Value.cells] at ha
  rw [ha]
  rfl

theorem walk (v0 : Value) (w : World) (g0 : ∃ (n : Int) (ps : List Int) (A : Option Addr) (c : Nat), v0 = .agg #[.int .i64 n, .slice A ps.length c] ∧ SlI w 0 w.heap.size (.slice A ps.length c) ps) (hE : EnvT w.heap.size w) :
    Calls Tryd.prog 3 #[v0] w fun e w' => e = .returned (.bool true) ∧ Below w.heap.size w w' := by
  obtain ⟨n, ps, A, c, rfl, h⟩ := g0
  exact walkL n ps A c w h hE

set_option maxRecDepth 100000 in
theorem lifted (os : Os) (started : os.Started) (H : Type) (enc : TypeId × Value → H) :
    ReturnsInHanded {} Tryd.checked os 3 .any (fun w args => (Rows.fnExactSheetTextSpec.pre enc Tryd.prog Tryd.f3 [] false w args ∧ laidMetH Tryd.prog laid3 w) ∧ sizedMet enc Tryd.prog Tryd.f3 (OpenSpec.ofChange Rows.fnExactSheetTextSpec) false w args)
      (Rows.fnExactSheetTextSpec.post enc Tryd.prog Tryd.f3 false true false false) := by
  refine handed_and_shaped (C := Tryd.checked) (X := fun w _ => laidMetH Tryd.prog laid3 w) (fun _ _ _ hh h => metH3.2 ((metH3.1 h).of_heap hh)) own started (by kernel_rfl) Tryd.func3
    (ChangeSpec.witness_at (enc := enc) (C := Tryd.checked) (os := os) (X := fun w _ => laidMetH Tryd.prog laid3 w) false (laidWorld3 os) #[.agg #[.int .i64 0, .slice none 0 0]] 8 rfl (by kernel_rfl) (by kernel_rfl) (by kernel_rfl) (by kernel_rfl) (by kernel_rfl) (metH3.2 (laid_met3 os _))) ?_
  intro W base args ds gs before hval0 hW hL hSh
  have hval : ∀ (j : Nat) t v, Tryd.f3.params[j]? = some t → args[j]? = some v → Value.okWide Tryd.prog W .any base t v := hval0
  have hW' := hW
  obtain ⟨p, q, hA0, hV, rfl, hfz, hnd⟩ := hW
  have hA : DataW.TrodAll enc Tryd.prog W 0 (fun _ => true) true Tryd.f3.params.toList args.toList ds p := hA0
  rw [Tryd.params3] at hA hval
  obtain ⟨v0, vs0, d0, ds0, p0, q0, hargs, rfl, rfl, h0, r0⟩ := trodAll_cons hA
  obtain ⟨rfl, rfl, rfl⟩ := trodAll_nil r0
  obtain rfl : args = #[v0] := by cases args; simp_all
  obtain ⟨rfl, rfl⟩ := trodVars_none hV
  have lt0 : ∀ x ∈ p0, x.block < W.heap.size := by obtain ⟨m, hm⟩ := h0; exact DataW.trod_lt m _ _ _ hm
  have g0 := open_SheetV (hval 0 24 v0 rfl rfl) h0
  clear hA0 hval0
  refine (walk v0 W g0 (envT_of3 (metH3.1 hL))).mono fun e W' ⟨he, bel⟩ => ?_
  subst he
  exact ⟨_, rfl, _, _, _, [], _, [], hW', trodAll_mk1 (shut_bool Tryd.underlying4 _), (trodAll_cons_mk (Below.trod laidOut (by kernel_rfl) (of_decide_eq_true (by kernel_rfl)) h0 bel lt0) trodAll_mk0), rfl, bel.frame _, fun h => by cases h⟩

theorem over : Rows.FnExactSheetTextSaid :=
  OpenClaim.holds_of_wide 3 Tryd.f3 rfl rfl rfl rfl rfl rfl rfl ⟨rfl, rfl, rfl, rfl, rfl⟩ rfl rfl rfl rfl rfl (by kernel_rfl) Tryd.func3 (by kernel_rfl)
    (of_decide_eq_true (by kernel_rfl)) (by unfold Func.isWrapper; first | (rw [if_pos (by decide +kernel)]; kernel_rfl) | (rw [if_neg (by decide +kernel)]; exact ⟨rfl, rfl⟩))
    (fun os started H enc _ => lifted os started H enc)

theorem proved : Rows.FnExactSheetTextCardSaid :=
  Claim7.holds_tied_plain_at .later [] [.data, .data, .data] true (true, "fa16d4e35b260b6db7993b93d24e7b3ee395b0c5e7c77deb20eceee070298250") true
    over (fun _ h => by cases h) (by kernel_rfl) (fun _ h => by cases h) fnExactSheetText_row_tie rfl ⟨rfl, rfl⟩ (by kernel_rfl) rfl
    (fun f fn hf hfn => by
      obtain rfl : f = 3 := Option.some.inj ((show Tryd.prog.funcNamed "loop.example/g01027/laws.FnExactSheetText" = some 3 by kernel_rfl).symm.trans hf) |>.symm
      obtain rfl : fn = Tryd.f3 := (Option.some.inj (Tryd.func3.symm.trans hfn)).symm
      exact ⟨by kernel_rfl, fun j t ht => by
        rw [Tryd.params3] at ht
        rcases j with _ | j
        · obtain rfl : t = 24 := by simpa using ht.symm
          exact (show Tryd.prog.wantsStandIn 24 = false by kernel_rfl)
        · simp at ht⟩)
    (by kernel_rfl)
#print axioms proved
end Go.Proofs.YtodfkbgifoecbaaDoor.lawFnExactSheetText
