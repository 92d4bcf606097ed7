/- Holidays and days that the laws draw. No condition. -/
import Derived.Test.YtiflpihjffhfhaaDrawM
namespace Go.Proofs.Ytiflpihjffhfhaa
open Go.RowKit
attribute [local go_sem ↓] Go.wp_at_zero Go.wp_at_succ

set_option maxRecDepth 100000 in
set_option maxHeartbeats 4000000 in
theorem l02Holidays_any (g : Nat) (w : World) (h : Src w g) :
    Calls Try.prog 90 #[.pointer (some ⟨g, 0, none⟩)] w fun e w' => ∃ (v : Value) (hs : List Int), e = .returned v ∧ SlI w' w.heap.size w'.heap.size v hs ∧ hs.length ≤ 50 ∧ Src w' g ∧ w.grownBy w' (some g) := by
  have lg := h.lt
  go_enter Try.func90, Try.ntmps90
  go_wp2_with fail
  have o := own_empty w 2 1 i64s
  replace h := h.alloc (.cells #[] 2)
  have G := gr_alloc (World.grownBy.refl w (some g)) (.cells #[] 2)
  generalize (w.alloc (.cells #[] 2)) = w0 at *
  refine (l01Next_any g 60 w0 h).mono ?_
  clear h
  rintro e w1 ⟨r1, rfl, a1, b1, _, h, g1⟩
  replace b1 := b1 (by omega)
  have z1 := g1.size
  replace o := o.gr g1 (by omega)
  replace G := grownBy_trans G g1
  clear g1
  go_wp2_with fail
  refine (l01Next_any g 8 w1 h).mono ?_
  clear h
  rintro e w2 ⟨r2, rfl, a2, b2, _, h, g2⟩
  replace b2 := b2 (by omega)
  have z2 := g2.size
  replace o := o.gr g2 (by omega)
  replace G := grownBy_trans G g2
  clear g2
  obtain ⟨m0, rfl⟩ : ∃ m0 : Nat, r2 = (m0 : Int) := ⟨r2.toNat, by omega⟩
  go_wp2_with fail
  go_loopw [3, 4, 5] (fun v x i wr => ∃ (m : Nat) (z : Int) (cs : List Int), i = .int .i64 m ∧ x = .int .i64 z ∧ m ≤ 7 ∧ 0 ≤ z ∧ z + 41 * m ≤ 1000 ∧ cs.length + m ≤ 7 ∧ OwnR i64s 1 wr w.heap.size 2 v cs ∧ Src wr g ∧ w.grownBy wr (some g)) (fun _ _ i wr => (intOf i).toNat)
  case atStart => exact ⟨m0, _, [], rfl, rfl, by omega, by omega, by omega, by simp; omega, o, h, G⟩
  case round =>
    clear o h G
    obtain ⟨m, z, cs, rfl, rfl, hm, hz1, hz2, hcl, o, h, G⟩ := hrel
    have zr := G.size
    rcases m with _ | m
    · go_wp2_with fail
      refine (l01Next_any g 24 wr h).mono ?_
      clear h
      rintro e w3 ⟨r3, rfl, a3, b3, _, h, g3⟩
      replace b3 := b3 (by omega)
      have z3 := g3.size
      replace o := o.gr g3 (by omega)
      replace G := grownBy_trans G g3
      clear g3
      by_cases e0 : r3 = 0
      · subst e0
        go_wp2_with fail
        refine (pick_any g 4 [_, _, _, _] _ w3 h rfl (by decide) (by decide) (by rfl)).mono ?_
        clear h
        rintro e w4 ⟨r4, rfl, m4, h, g4⟩
        clear m4
        have z4 := g4.size
        replace o := o.gr g4 (by omega)
        replace G := grownBy_trans G g4
        clear g4
        obtain ⟨Av, cv, rfl, _, _, hA⟩ := own_form (OwnR.own o)
        go_wp2_with (at_builtin; refine wpList_append_rec (f := i64s) (s := 1) 2 _ _ (fun _ => rfl) i64s_one rfl _ _ 24 rfl w.heap.size Try.infoI Try.underlying24 rfl (by decide) _ cs r4 rfl o rfl rfl rfl (by omega) (by omega) (by omega) ?_)
        intro v5 w5 o5 hb5
        have hB5 := hb5 w.heap.size w4 (Below.refl _ _) (Nat.le_refl _)
        replace h := h.below hB5 (by omega)
        replace G := gr_belowB G hB5 (by omega)
        have z5 := hB5.size
        clear o hb5 hB5
        have o := o5
        clear o5
        go_wp2_with fail
        go_ret
        exact ⟨_, _, rfl, own_slI o, by rw [List.length_append]; show cs.length + 1 ≤ 50; omega, h, G⟩
      replace e0 : (r3 == 0) = false := by simpa using e0
      by_cases e1 : r3 = 1
      · subst e1
        go_wp2_with fail
        clear o
        have o := (own_empty w3 2 1 i64s).more (base' := w.heap.size) (by omega)
        replace h := h.alloc (.cells #[] 2)
        replace G := gr_alloc G (.cells #[] 2)
        generalize (w3.alloc (.cells #[] 2)) = wA at *
        go_loopw [3] (fun v wr => ∃ (cs : List Int), slen v = cs.length ∧ cs.length ≤ 41 ∧ OwnR i64s 1 wr w.heap.size 2 v cs ∧ Src wr g ∧ w.grownBy wr (some g)) (fun v wr => 41 - slen v)
        case atStart => exact ⟨[], rfl, by simp, o, h, G⟩
        case round =>
          clear o h G
          obtain ⟨xs, hsl, hxl, o, h, G⟩ := hrel
          clear hsl
          have zr2 := G.size
          obtain ⟨Av, cv, rfl, _, _, hA⟩ := own_form (OwnR.own o)
          go_wp2_with fail
          refine (l01Next_any g 2 wr h).mono ?_
          clear h
          rintro e w4 ⟨r4, rfl, a4, b4, _, h, g4⟩
          replace b4 := b4 (by omega)
          have z4 := g4.size
          replace o := o.gr g4 (by omega)
          replace G := grownBy_trans G g4
          clear g4
          by_cases hlt : (xs.length : Int) < 40 + r4
          · go_wp2_with (at_builtin; refine wpList_append_rec (f := i64s) (s := 1) 2 _ _ (fun _ => rfl) i64s_one rfl _ _ 24 rfl w.heap.size Try.infoI Try.underlying24 rfl (by decide) _ xs (150 + (xs.length : Int)) rfl o rfl rfl rfl (by omega) (by omega) (by omega) ?_)
            intro v5 w5 o5 hb5
            have hB5 := hb5 w.heap.size w4 (Below.refl _ _) (Nat.le_refl _)
            replace h := h.below hB5 (by omega)
            replace G := gr_belowB G hB5 (by omega)
            have z5 := hB5.size
            clear o hb5 hB5
            have o := o5
            clear o5
            obtain ⟨A2, c2, rfl, _, _, _⟩ := own_form (OwnR.own o)
            have eL : (xs ++ [150 + (xs.length : Int)]).length = xs.length + 1 := by rw [List.length_append]; rfl
            have EL := Lib.hid eL
            clear eL
            go_wp2_with fail
            go_roundw
            case rel => exact ⟨xs ++ [150 + (xs.length : Int)], rfl, by rw [EL.out]; omega, o, h, G⟩
            case measure => simp only [slen]; rw [EL.out]; omega
          · go_wp2_with fail
            go_ret
            exact ⟨_, _, rfl, own_slI o, by omega, h, G⟩
      replace e1 : (r3 == 1) = false := by simpa using e1
      go_wp2_with fail
      go_ret
      exact ⟨_, _, rfl, own_slI o, by omega, h, G⟩
    · obtain ⟨Av, cv, rfl, _, _, hA⟩ := own_form (OwnR.own o)
      go_wp2_with (at_builtin; refine wpList_append_rec (f := i64s) (s := 1) 2 _ _ (fun _ => rfl) i64s_one rfl _ _ 24 rfl w.heap.size Try.infoI Try.underlying24 rfl (by decide) _ cs z rfl o rfl rfl rfl (by omega) (by omega) (by omega) ?_)
      intro v3 w3 o3 hb3
      have hB3 := hb3 w.heap.size wr (Below.refl _ _) (Nat.le_refl _)
      replace h := h.below hB3 (by omega)
      replace G := gr_belowB G hB3 (by omega)
      have z3 := hB3.size
      clear o hb3 hB3
      have o := o3
      clear o3
      go_wp2_with fail
      refine (l01Next_any g 5 w3 h).mono ?_
      clear h
      rintro e w4 ⟨r4, rfl, a4, b4, _, h, g4⟩
      replace b4 := b4 (by omega)
      have z4 := g4.size
      replace o := o.gr g4 (by omega)
      replace G := grownBy_trans G g4
      clear g4
      go_wp2_with fail
      refine (l01Next_any g 40 w4 h).mono ?_
      clear h
      rintro e w5 ⟨r5, rfl, a5, b5, _, h, g5⟩
      replace b5 := b5 (by omega)
      have z5 := g5.size
      replace o := o.gr g5 (by omega)
      replace G := grownBy_trans G g5
      clear g5
      go_wp2_with fail
      refine (pick_any g 3 [_, _, _] _ w5 h rfl (by decide) (by decide) (by rfl)).mono ?_
      clear h
      rintro e w6 ⟨r6, rfl, m6, h, g6⟩
      have c6 : 0 ≤ r6 ∧ r6 ≤ 40 := by simp at m6; omega
      clear m6
      have z6 := g6.size
      replace o := o.gr g6 (by omega)
      replace G := grownBy_trans G g6
      clear g6
      go_wp2_with fail
      go_roundw
      case rel => exact ⟨m, _, _, by go_num, rfl, by omega, by omega, by omega, by rw [List.length_append]; show cs.length + 1 + m ≤ 7; omega, o, h, G⟩
      case measure => simp [intOf] <;> omega

set_option maxRecDepth 100000 in
set_option maxHeartbeats 4000000 in
theorem l02Day_any (g : Nat) (w : World) (h : Src w g) :
    Calls Try.prog 95 #[.pointer (some ⟨g, 0, none⟩)] w fun e w' => ∃ r : Int, e = .returned (.int .i64 r) ∧ Src w' g ∧ w.grownBy w' (some g) := by
  have lg := h.lt
  have G := World.grownBy.refl w (some g)
  go_enter Try.func95, Try.ntmps95
  go_wp2_with fail
  refine (l01Next_any g 16 w h).mono ?_
  clear h
  rintro e w1 ⟨r1, rfl, a1, b1, _, h, g1⟩
  replace b1 := b1 (by omega)
  have z1 := g1.size
  replace G := grownBy_trans G g1
  clear g1
  by_cases e0 : r1 = 0
  · subst e0
    go_wp2_with fail
    refine (pick_any g 6 [_, _, _, _, _, _] _ w1 h rfl (by decide) (by decide) (by rfl)).mono ?_
    clear h
    rintro e w2 ⟨r2, rfl, m2, h, g2⟩
    clear m2
    have z2 := g2.size
    replace G := grownBy_trans G g2
    clear g2
    go_wp2_with fail
    go_ret
    exact ⟨r2, rfl, h, G⟩
  replace e0 : (r1 == 0) = false := by simpa using e0
  go_wp2_with fail
  refine (l01Next_any g 250 w1 h).mono ?_
  clear h
  rintro e w2 ⟨r2, rfl, a2, b2, _, h, g2⟩
  replace b2 := b2 (by omega)
  have z2 := g2.size
  replace G := grownBy_trans G g2
  clear g2
  go_wp2_with fail
  go_ret
  exact ⟨_, rfl, h, G⟩

end Go.Proofs.Ytiflpihjffhfhaa
