/- Calls that the laws draw. No condition. -/
import Derived.Test.YtbboihodikhhkaaCallD
import Derived.Test.YtbboihodikhhkaaDrawM
namespace Go.Proofs.Ytbboihodikhhkaa
open Go.RowKit
attribute [local go_sem ↓] Go.wp_at_zero Go.wp_at_succ

set_option maxRecDepth 100000 in
set_option maxHeartbeats 4000000 in
theorem l10Good_any (g : Nat) (w : World) (h : Src w g) :
    Calls Try.prog 86 #[.pointer (some ⟨g, 0, none⟩)] w fun e w' => ∃ (v : Value) (cs : List C4), e = .returned v ∧ OwnR C4.vals 4 w' w.heap.size 97 v cs ∧ cs.length ≤ 7 ∧ Src w' g ∧ w.grownBy w' (some g) := by
  have lg := h.lt
  go_enter Try.func86, Try.ntmps86
  go_wp2_with fail
  have o := own_empty w 97 4 C4.vals
  replace h := h.alloc (.cells #[] 97)
  have G := gr_alloc (World.grownBy.refl w (some g)) (.cells #[] 97)
  generalize (w.alloc (.cells #[] 97)) = w0 at *
  refine (l01Next_any g 5 w0 h).mono ?_
  clear h
  rintro e w1 ⟨r1, rfl, a1, b1, _, h, g1⟩
  replace b1 := b1 (by omega)
  have z1 := g1.size
  replace o := o.gr g1 (by omega)
  replace G := grownBy_trans G g1
  clear g1
  go_wp2_with fail
  refine (l01Next_any g 7 w1 h).mono ?_
  clear h
  rintro e w2 ⟨r2, rfl, a2, b2, _, h, g2⟩
  replace b2 := b2 (by omega)
  have z2 := g2.size
  replace o := o.gr g2 (by omega)
  replace G := grownBy_trans G g2
  clear g2
  obtain ⟨m0, rfl⟩ : ∃ m0 : Nat, r2 = (m0 : Int) := ⟨r2.toNat, by omega⟩
  go_wp2_with fail
  go_loopw [3, 4, 5] (fun v x i wr => ∃ (m : Nat) (z : Int) (cs : List C4), i = .int .i64 m ∧ x = .int .i64 z ∧ m ≤ 6 ∧ 0 ≤ z ∧ z + 5 * m ≤ 100 ∧ cs.length + m ≤ 6 ∧ OwnR C4.vals 4 wr w.heap.size 97 v cs ∧ Src wr g ∧ w.grownBy wr (some g)) (fun _ _ i wr => (intOf i).toNat)
  case atStart => exact ⟨m0, _, [], rfl, rfl, by omega, by omega, by omega, by simp; omega, o, h, G⟩
  case round =>
    clear o h G
    obtain ⟨m, z, cs, rfl, rfl, hm, hz1, hz2, hcl, o, h, G⟩ := hrel
    have zr := G.size
    rcases m with _ | m
    · go_wp2_with fail
      go_ret
      exact ⟨_, cs, rfl, o, by omega, h, G⟩
    · obtain ⟨Av, cv, rfl, _, _, hA⟩ := own_form (OwnR.own o)
      have Hin := Lib.hid (show ∀ k, Value.ownBlock (.slice Av cs.length cv) = some k → k < wr.heap.size from fun k hk => (World.ownsRow.lt (OwnR.own o) k hk).2)
      go_wp2_with fail
      refine (l01Next_any g 12 wr h).mono ?_
      clear h
      rintro e w3 ⟨r3, rfl, a3, b3, _, h, g3⟩
      replace b3 := b3 (by omega)
      have z3 := g3.size
      replace o := o.gr g3 (by omega)
      replace G := grownBy_trans G g3
      clear g3
      go_wp2_with fail
      have bC := Blk.new w3 97 #[.int .i64 z, .int .i64 (120 + r3), .int .i64 (120 + r3), .int .i64 0]
      have lC : g < w3.heap.size := h.lt
      replace o := o.alloc (.cells #[.int .i64 z, .int .i64 (120 + r3), .int .i64 (120 + r3), .int .i64 0] 97)
      replace h := h.alloc (.cells #[.int .i64 z, .int .i64 (120 + r3), .int .i64 (120 + r3), .int .i64 0] 97)
      replace G := gr_alloc G (.cells #[.int .i64 z, .int .i64 (120 + r3), .int .i64 (120 + r3), .int .i64 0] 97)
      have zC : w3.heap.size < (w3.alloc (.cells #[.int .i64 z, .int .i64 (120 + r3), .int .i64 (120 + r3), .int .i64 0] 97)).heap.size := by simp
      generalize (w3.alloc (.cells #[.int .i64 z, .int .i64 (120 + r3), .int .i64 (120 + r3), .int .i64 0] 97)) = w4 at *
      refine (l01Next_any g 2 w4 h).mono ?_
      clear h
      rintro e w5 ⟨r5, rfl, a5, b5, _, h, g5⟩
      replace b5 := b5 (by omega)
      have z5 := g5.size
      replace o := o.gr g5 (by omega)
      replace bC := bC.gr g5 lC
      replace G := grownBy_trans G g5
      clear g5
      by_cases e0 : r5 = 0
      · subst e0
        go_wp2_with fail
        refine (l01Next_any g 2 w5 h).mono ?_
        clear h
        rintro e w6 ⟨r6, rfl, a6, b6, _, h, g6⟩
        replace b6 := b6 (by omega)
        have z6 := g6.size
        replace o := o.gr g6 (by omega)
        replace bC := bC.gr g6 lC
        replace G := grownBy_trans G g6
        clear g6
        have ft := bC.frozen 3
        have qt := bC.cell 3
        go_wp2_with fail
        clear ft qt
        replace bC := r4_set3 bC (.int .i64 (1 + r6))
        replace o := o.setCell ⟨w3.heap.size, 3, none⟩ (.int .i64 (1 + r6)) (fun k hk => by have := Hin.out k hk; show k ≠ w3.heap.size; omega)
        replace h := h.setCell (p := ⟨w3.heap.size, 3, none⟩) lC (.int .i64 (1 + r6))
        replace G := gr_set G (p := ⟨w3.heap.size, 3, none⟩) (by show w.heap.size ≤ w3.heap.size; omega) (.int .i64 (1 + r6))
        replace zC : w3.heap.size < (w6.setCell ⟨w3.heap.size, 3, none⟩ (.int .i64 (1 + r6))).heap.size := by rw [size_setCell]; omega
        generalize (w6.setCell ⟨w3.heap.size, 3, none⟩ (.int .i64 (1 + r6))) = w7 at *
        have dC : w7.cell? ⟨w3.heap.size, 1, none⟩ = some (.int .i64 (120 + r3)) := bC.cell 1
        have bCd : Blk w7.drew w3.heap.size 97 #[.int .i64 z, .int .i64 (120 + r3), .int .i64 (120 + r3), .int .i64 (1 + r6)] := bC
        have hd := h.drew
        replace o := OwnR.drew o
        replace G := gr_draw G
        clear h
        go_region_held3 (fun w' => w'.cell? ⟨w3.heap.size, 1, none⟩ = some (.int .i64 (120 + r3))) (first | exact dC | exact bCd.cell 1 | exact bC8.cell 1 | exact (r4_set2 bC8 _).cell 1 | go_keep) (first
          | (go_at_call 59; (with_reducible refine (l01Next_any g 100 w7.drew hd).mono ?_); rintro e w8 ⟨r8, rfl, a8, b8, _, h, g8⟩; have bC8 := bCd.gr g8 lC; have ft := bC8.frozen 2; have qt := bC8.cell 2))
        clear dC bCd hd ft qt bC
        rename_i hHeld
        clear hHeld
        have bC := bC8
        clear bC8
        have z8 : w7.heap.size ≤ w8.heap.size := g8.size
        replace o := o.gr g8 (by omega)
        replace G := grownBy_trans G g8
        replace b8 := b8 (by omega)
        clear g8
        replace zC : w3.heap.size < w8.heap.size := by omega
        generalize IntKind.i64.wrap (IntKind.i64.wrap (120 + r3 + 1) + r8) = q8 at *
        replace bC := r4_set2 bC (.int .i64 q8)
        replace o := o.setCell ⟨w3.heap.size, 2, none⟩ (.int .i64 q8) (fun k hk => by have := Hin.out k hk; show k ≠ w3.heap.size; omega)
        replace h := h.setCell (p := ⟨w3.heap.size, 2, none⟩) lC (.int .i64 q8)
        replace G := gr_set G (p := ⟨w3.heap.size, 2, none⟩) (by show w.heap.size ≤ w3.heap.size; omega) (.int .i64 q8)
        replace zC : w3.heap.size < (w8.setCell ⟨w3.heap.size, 2, none⟩ (.int .i64 q8)).heap.size := by rw [size_setCell]; omega
        generalize (w8.setCell ⟨w3.heap.size, 2, none⟩ (.int .i64 q8)) = w9 at *
        obtain ⟨c0, c1, c2, c3⟩ := r4_cells bC
        go_wp2_with (at_builtin; refine wpList_append_rec (f := C4.vals) (s := 4) 97 _ _ (fun _ => rfl) oneCellC4 rfl _ _ 44 rfl w.heap.size Try.infoC4 Try.underlying44 rfl (by decide) _ cs ⟨z, 120 + r3, q8, 1 + r6⟩ rfl o rfl rfl rfl (by omega) (by omega) (by omega) ?_)
        intro v10 w10 o10 hb10
        have hB10 := hb10 w.heap.size w9 (Below.refl _ _) (Nat.le_refl _)
        replace h := h.below hB10 (by omega)
        replace G := gr_belowB G hB10 (by omega)
        have z10 := hB10.size
        clear o hb10 hB10
        have o := o10
        clear o10
        clear c0 c1 c2 c3 bC Hin
        go_wp2_with fail
        refine (l01Next_any g 4 w10 h).mono ?_
        clear h
        rintro e w11 ⟨r11, rfl, a11, b11, _, h, g11⟩
        replace b11 := b11 (by omega)
        have z11 := g11.size
        replace o := o.gr g11 (by omega)
        replace G := grownBy_trans G g11
        clear g11
        go_wp2_with fail
        go_roundw
        case rel => exact ⟨m, _, _, by go_num, rfl, by omega, by omega, by omega, by rw [List.length_append]; show cs.length + 1 + m ≤ _; omega, o, h, G⟩
        case measure => simp [intOf] <;> omega
      · replace e0 : (r5 == 0) = false := by simpa using e0
        obtain ⟨c0, c1, c2, c3⟩ := r4_cells bC
        go_wp2_with (at_builtin; refine wpList_append_rec (f := C4.vals) (s := 4) 97 _ _ (fun _ => rfl) oneCellC4 rfl _ _ 44 rfl w.heap.size Try.infoC4 Try.underlying44 rfl (by decide) _ cs ⟨z, 120 + r3, 120 + r3, 0⟩ rfl o rfl rfl rfl (by omega) (by omega) (by omega) ?_)
        intro v6 w6 o6 hb6
        have hB6 := hb6 w.heap.size w5 (Below.refl _ _) (Nat.le_refl _)
        replace h := h.below hB6 (by omega)
        replace G := gr_belowB G hB6 (by omega)
        have z6 := hB6.size
        clear o hb6 hB6
        have o := o6
        clear o6
        clear c0 c1 c2 c3 bC Hin
        go_wp2_with fail
        refine (l01Next_any g 4 w6 h).mono ?_
        clear h
        rintro e w7 ⟨r7, rfl, a7, b7, _, h, g7⟩
        replace b7 := b7 (by omega)
        have z7 := g7.size
        replace o := o.gr g7 (by omega)
        replace G := grownBy_trans G g7
        clear g7
        go_wp2_with fail
        go_roundw
        case rel => exact ⟨m, _, _, by go_num, rfl, by omega, by omega, by omega, by rw [List.length_append]; show cs.length + 1 + m ≤ _; omega, o, h, G⟩
        case measure => simp [intOf] <;> omega

set_option maxRecDepth 100000 in
set_option maxHeartbeats 4000000 in
theorem l10List_any (g : Nat) (w : World) (h : Src w g) :
    Calls Try.prog 58 #[.pointer (some ⟨g, 0, none⟩)] w fun e w' => ∃ (v : Value) (cs : List C4), e = .returned v ∧ SlC4 w' w.heap.size w'.heap.size v cs ∧ cs.length ≤ 30 ∧ Src w' g ∧ w.grownBy w' (some g) := by
  have lg := h.lt
  have G := World.grownBy.refl w (some g)
  go_enter Try.func58, Try.ntmps58
  go_wp2_with fail
  refine (l10Good_any g w h).mono ?_
  clear h
  rintro e w1 ⟨v, cs, rfl, o, hl, h, g1⟩
  have z1 := g1.size
  replace G := grownBy_trans G g1
  clear g1
  obtain ⟨Av, cv, rfl, _, _, hA⟩ := own_form (OwnR.own o)
  by_cases h0 : 0 < cs.length
  · have h1 : (0 : Int) < (cs.length : Int) := by omega
    go_wp2_with fail
    refine (l01Next_any g cs.length w1 h).mono ?_
    clear h
    rintro e w2 ⟨r2, rfl, a2, b2, d2, h, g2⟩
    have z2 := g2.size
    replace o := o.gr g2 (by omega)
    replace G := grownBy_trans G g2
    clear g2
    obtain ⟨k, rfl⟩ : ∃ k : Nat, r2 = (k : Int) := ⟨r2.toNat, by omega⟩
    have hk : k < cs.length := by
      by_cases h3 : 1 < (cs.length : Int)
      · have := b2 h3; omega
      · have := d2 (by omega); omega
    clear b2 d2
    go_wp2_with fail
    refine (l01Next_any g 40 w2 h).mono ?_
    clear h
    rintro e w3 ⟨r3, rfl, a3, b3, _, h, g3⟩
    replace b3 := b3 (by omega)
    have z3 := g3.size
    replace o := o.gr g3 (by omega)
    replace G := grownBy_trans G g3
    clear g3
    obtain ⟨q, rfl, hg1, hg2⟩ := hA h0
    obtain ⟨x, hx⟩ := some_at hk
    have Hx := Lib.hid hx
    clear hx
    by_cases e0 : r3 = 0
    · subst e0
      go_wp2_with fail
      refine (l01Next_any g 5 w3 h).mono ?_
      clear h
      rintro e w4 ⟨r4, rfl, a4, b4, _, h, g4⟩
      replace b4 := b4 (by omega)
      have z4 := g4.size
      replace o := o.gr g4 (by omega)
      replace G := grownBy_trans G g4
      clear g4
      have E : ∀ y : Int, OwnR C4.vals 4 (w4.setCell ⟨q, k * 4 + 3, none⟩ (.int .i64 y)) w.heap.size 97 (.slice (some ⟨q, 0, none⟩) cs.length cv) (cs.set k { x with moves := y }) := fun y => own_setField (f := C4.vals) (s := 4) (fun _ => rfl) o Hx.out (j := 3) (by decide) (u := .int .i64 y) (x' := { x with moves := y }) rfl
      have HE := Lib.hid E
      clear E
      obtain ⟨⟨_, k0⟩, ⟨_, k1⟩, ⟨_, k2⟩, ⟨_, k3⟩, f0, f1, f2, f3⟩ := own_rowC4 (OwnR.own o) hk
      go_wp2_with fail
      go_ret
      exact ⟨_, _, rfl, own_slC4 (HE.out _), by rw [List.length_set]; omega, h.setCell (p := ⟨q, k * 4 + 3, none⟩) (by show g < q; omega) _, gr_set G (p := ⟨q, k * 4 + 3, none⟩) (by show w.heap.size ≤ q; omega) _⟩
    replace e0 : (r3 == 0) = false := by simpa using e0
    by_cases e1 : r3 = 1
    · subst e1
      obtain ⟨b2, off2, ee, _, _, d0, d1, d2, d3⟩ := (own_slC4 o).C4_at Hx.out
      injection ee with ee
      injection ee with ee1 ee2
      subst ee1 ee2
      simp only [Nat.zero_add] at d0 d1 d2 d3
      obtain ⟨-, -, -, -, f0, f1, f2, f3⟩ := own_rowC4 (OwnR.own o) hk
      have E : ∀ y : Int, OwnR C4.vals 4 (w3.setCell ⟨q, k * 4 + 1, none⟩ (.int .i64 y)) w.heap.size 97 (.slice (some ⟨q, 0, none⟩) cs.length cv) (cs.set k { x with first := y }) := fun y => own_setField (f := C4.vals) (s := 4) (fun _ => rfl) o Hx.out (j := 1) (by decide) (u := .int .i64 y) (x' := { x with first := y }) rfl
      have HE := Lib.hid E
      clear E
      go_wp2_with fail
      go_ret
      exact ⟨_, _, rfl, own_slC4 (HE.out _), by rw [List.length_set]; omega, h.setCell (p := ⟨q, k * 4 + 1, none⟩) (by show g < q; omega) _, gr_set G (p := ⟨q, k * 4 + 1, none⟩) (by show w.heap.size ≤ q; omega) _⟩
    replace e1 : (r3 == 1) = false := by simpa using e1
    by_cases e2 : r3 = 2
    · subst e2
      go_wp2_with fail
      refine (pick_any g 3 [_, _, _] _ w3 h rfl (by decide) (by decide) (by rfl)).mono ?_
      clear h
      rintro e w4 ⟨r4, rfl, m4, h, g4⟩
      clear m4
      have z4 := g4.size
      replace o := o.gr g4 (by omega)
      replace G := grownBy_trans G g4
      clear g4
      have E : ∀ y : Int, OwnR C4.vals 4 (w4.setCell ⟨q, k * 4 + 0, none⟩ (.int .i64 y)) w.heap.size 97 (.slice (some ⟨q, 0, none⟩) cs.length cv) (cs.set k { x with num := y }) := fun y => own_setField (f := C4.vals) (s := 4) (fun _ => rfl) o Hx.out (j := 0) (by decide) (u := .int .i64 y) (x' := { x with num := y }) rfl
      have HE := Lib.hid E
      clear E
      obtain ⟨⟨_, k0⟩, ⟨_, k1⟩, ⟨_, k2⟩, ⟨_, k3⟩, f0, f1, f2, f3⟩ := own_rowC4 (OwnR.own o) hk
      go_wp2_with fail
      go_ret
      have HE0 := HE.out
      exact ⟨_, _, rfl, own_slC4 (HE.out _), by rw [List.length_set]; omega, h.setCell (p := ⟨q, k * 4 + 0, none⟩) (by show g < q; omega) _, gr_set G (p := ⟨q, k * 4 + 0, none⟩) (by show w.heap.size ≤ q; omega) _⟩
    replace e2 : (r3 == 2) = false := by simpa using e2
    by_cases e3 : r3 = 3
    · subst e3
      go_wp2_with fail
      go_loopw [3, 5] (fun v i wr => ∃ (z : Int) (cs : List C4), i = .int .i64 z ∧ 200 ≤ z ∧ z ≤ 200 + cs.length ∧ cs.length ≤ 21 ∧ OwnR C4.vals 4 wr w.heap.size 97 v cs ∧ Src wr g ∧ w.grownBy wr (some g)) (fun _ i wr => (230 - intOf i).toNat)
      case atStart => exact ⟨200, cs, rfl, by omega, by omega, by omega, o, h, G⟩
      case round =>
        clear o h G
        obtain ⟨z, xs, rfl, hz1, hz2, hxl, o, h, G⟩ := hrel
        have zr2 := G.size
        obtain ⟨Av, cv, rfl, _, _, hA⟩ := own_form (OwnR.own o)
        go_wp2_with fail
        refine (l01Next_any g 2 wr h).mono ?_
        clear h
        rintro e w4 ⟨r4, rfl, a4, b4, _, h, g4⟩
        replace b4 := b4 (by omega)
        have z4 := g4.size
        replace o := o.gr g4 (by omega)
        replace G := grownBy_trans G g4
        clear g4
        by_cases hlt : (xs.length : Int) < 20 + r4
        · go_wp2_with (at_builtin; refine wpList_append_rec (f := C4.vals) (s := 4) 97 _ _ (fun _ => rfl) oneCellC4 rfl _ _ 44 rfl w.heap.size Try.infoC4 Try.underlying44 rfl (by decide) _ xs ⟨z, 125, 125, 0⟩ rfl o rfl rfl rfl (by omega) (by omega) (by omega) ?_)
          intro v5 w5 o5 hb5
          have hB5 := hb5 w.heap.size w4 (Below.refl _ _) (Nat.le_refl _)
          replace h := h.below hB5 (by omega)
          replace G := gr_belowB G hB5 (by omega)
          have z5 := hB5.size
          clear o hb5 hB5
          have o := o5
          clear o5
          go_wp2_with fail
          go_roundw
          case rel => exact ⟨z + 1, xs ++ [⟨z, 125, 125, 0⟩], rfl, by omega, by rw [List.length_append]; show z + 1 ≤ 200 + ((xs.length + 1 : Nat) : Int); omega, by rw [List.length_append]; show xs.length + 1 ≤ 21; omega, o, h, G⟩
          case measure => simp [intOf] <;> omega
        · go_wp2_with fail
          go_ret
          exact ⟨_, _, rfl, own_slC4 o, by omega, h, G⟩
    replace e3 : (r3 == 3) = false := by simpa using e3
    go_wp2_with fail
    go_ret
    exact ⟨_, _, rfl, own_slC4 o, by omega, h, G⟩
  · have h1 : ¬ (0 : Int) < (cs.length : Int) := by omega
    go_wp2_with fail
    go_ret
    exact ⟨_, _, rfl, own_slC4 o, by omega, h, G⟩

end Go.Proofs.Ytbboihodikhhkaa
