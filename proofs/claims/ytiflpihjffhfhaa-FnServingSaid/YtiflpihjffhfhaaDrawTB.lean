/- Lists of terms that the laws draw. No condition. -/
import Derived.Test.YtiflpihjffhfhaaDrawTA
import Derived.Test.YtiflpihjffhfhaaTermD
namespace Go.Proofs.Ytiflpihjffhfhaa
open Go.RowKit
attribute [local go_sem ↓] Go.wp_at_zero Go.wp_at_succ

set_option maxRecDepth 100000 in
set_option maxHeartbeats 4000000 in
theorem l07List_any (g : Nat) (w : World) (h : Src w g) :
    Calls Try.prog 143 #[.pointer (some ⟨g, 0, none⟩)] w fun e w' => ∃ (v : Value) (cs : List T3), e = .returned v ∧ SlT3 w' w.heap.size w'.heap.size v cs ∧ cs.length ≤ 30 ∧ Src w' g ∧ w.grownBy w' (some g) := by
  have lg := h.lt
  go_enter Try.func143, Try.ntmps143
  go_wp2_with fail
  have o := own_empty w 65 3 T3.vals
  replace h := h.alloc (.cells #[] 65)
  have G := gr_alloc (World.grownBy.refl w (some g)) (.cells #[] 65)
  generalize (w.alloc (.cells #[] 65)) = w0 at *
  refine (l01Next_any g 8 w0 h).mono ?_
  clear h
  rintro e w1 ⟨r1, rfl, a1, b1, _, h, g1⟩
  replace b1 := b1 (by omega)
  have z1 := g1.size
  replace o := o.gr g1 (by omega)
  replace G := grownBy_trans G g1
  clear g1
  obtain ⟨m0, rfl⟩ : ∃ m0 : Nat, r1 = (m0 : Int) := ⟨r1.toNat, by omega⟩
  go_wp2_with fail
  go_loopw [3, 4] (fun v i wr => ∃ (m : Nat) (cs : List T3), i = .int .i64 m ∧ m ≤ 7 ∧ cs.length + m ≤ 7 ∧ OwnR T3.vals 3 wr w.heap.size 65 v cs ∧ Src wr g ∧ w.grownBy wr (some g)) (fun _ i wr => (intOf i).toNat)
  case atStart => exact ⟨m0, [], rfl, by omega, by simp; omega, o, h, G⟩
  case round =>
    obtain ⟨m, cs, rfl, hm, hcl, o, h, G⟩ := hrel
    have zr := G.size
    rcases m with _ | m
    · go_wp2_with fail
      refine (l01Next_any g 24 wr h).mono ?_
      clear h
      rintro e w2 ⟨r2, rfl, a2, b2, _, h, g2⟩
      replace b2 := b2 (by omega)
      have z2 := g2.size
      replace o := o.gr g2 (by omega)
      replace G := grownBy_trans G g2
      clear g2
      by_cases e0 : r2 = 0
      · subst e0
        go_wp2_with fail
        refine (l07Draw_any g w2 h).mono ?_
        clear h
        rintro e w3 ⟨q0, q1, q2, rfl, h, g3⟩
        have z3 := g3.size
        replace o := o.gr g3 (by omega)
        replace G := grownBy_trans G g3
        clear g3
        obtain ⟨Av, cv, rfl, _, _, _⟩ := own_form (OwnR.own o)
        go_wp2_with (at_builtin; refine wpList_append_rec (f := T3.vals) (s := 3) 65 _ _ (fun _ => rfl) oneCellT3 rfl _ _ 59 rfl w.heap.size Try.infoT3 Try.underlying59 rfl (by decide) _ cs ⟨q0, q1, q2⟩ rfl o rfl rfl rfl (by omega) (by omega) (by omega) ?_)
        intro v9 w9 o9 hb9
        have hB9 := hb9 w.heap.size w3 (Below.refl _ _) (Nat.le_refl _)
        have h9 := h.below hB9 lg
        have G9 := gr_belowB G hB9 (Nat.le_refl _)
        go_wp2_with fail
        go_ret
        exact ⟨_, _, rfl, own_slT3 o9, by rw [List.length_append]; show cs.length + 1 ≤ 30; omega, h9, G9⟩
      replace e0 : (r2 == 0) = false := by simpa using e0
      by_cases e1 : r2 = 1
      · subst e1
        go_wp2_with fail
        go_loopw [3, 7] (fun v i wr => ∃ (z : Int) (cs : List T3), i = .int .i64 z ∧ 10 ≤ z ∧ z ≤ 10 + cs.length ∧ cs.length ≤ 21 ∧ OwnR T3.vals 3 wr w.heap.size 65 v cs ∧ Src wr g ∧ w.grownBy wr (some g)) (fun _ i wr => (40 - intOf i).toNat)
        case atStart => exact ⟨10, cs, rfl, by omega, by omega, by omega, o, h, G⟩
        case round =>
          clear o h G
          obtain ⟨z, xs, rfl, hz1, hz2, hxl, o, h, G⟩ := hrel
          have zr2 := G.size
          obtain ⟨Av, cv, rfl, _, _, _⟩ := own_form (OwnR.own o)
          go_wp2_with fail
          refine (l01Next_any g 2 wr h).mono ?_
          clear h
          rintro e w3 ⟨r3, rfl, a3, b3, _, h, g3⟩
          replace b3 := b3 (by omega)
          have z3 := g3.size
          replace o := o.gr g3 (by omega)
          replace G := grownBy_trans G g3
          clear g3
          by_cases hlt : (xs.length : Int) < 20 + r3
          · go_wp2_with (at_builtin; refine wpList_append_rec (f := T3.vals) (s := 3) 65 _ _ (fun _ => rfl) oneCellT3 rfl _ _ 59 rfl w.heap.size Try.infoT3 Try.underlying59 rfl (by decide) _ xs ⟨z, 5, 9⟩ rfl o rfl rfl rfl (by omega) (by omega) (by omega) ?_)
            intro v9 w9 o9 hb9
            have hB9 := hb9 w.heap.size w3 (Below.refl _ _) (Nat.le_refl _)
            have h9 := h.below hB9 lg
            have G9 := gr_belowB G hB9 (Nat.le_refl _)
            go_wp2_with fail
            go_roundw
            case rel => exact ⟨z + 1, xs ++ [⟨z, 5, 9⟩], rfl, by omega, by rw [List.length_append]; show z + 1 ≤ 10 + ((xs.length + 1 : Nat) : Int); omega, by rw [List.length_append]; show xs.length + 1 ≤ 21; omega, o9, h9, G9⟩
            case measure => simp [intOf] <;> omega
          · go_wp2_with fail
            go_ret
            exact ⟨_, _, rfl, own_slT3 o, by omega, h, G⟩
      replace e1 : (r2 == 1) = false := by simpa using e1
      go_wp2_with fail
      go_ret
      exact ⟨_, _, rfl, own_slT3 o, by omega, h, G⟩
    · go_wp2_with fail
      refine (l07Good_any g wr h).mono ?_
      clear h
      rintro e w2 ⟨q0, q1, q2, rfl, h, g2⟩
      have z2 := g2.size
      replace o := o.gr g2 (by omega)
      replace G := grownBy_trans G g2
      clear g2
      go_wp2_with fail
      obtain ⟨Av, cv, rfl, _, _, _⟩ := own_form (OwnR.own o)
      have hF := addTermF_len cs ⟨q0, q1, q2⟩
      refine (specAddTerm_any _ cs ⟨q0, q1, q2⟩ w2 _ (own_slT3 o)).mono ?_
      rintro e wb ⟨v', rfl, o', hb'⟩
      replace o := o.below hb'
      replace h := h.below' hb'
      replace G := gr_below G hb'
      have zzwb := hb'.size
      clear hb'
      by_cases hc : (addTermF cs ⟨q0, q1, q2⟩).2 = 0
      · rw [hc]
        clear hc
        go_wp2_with fail
        go_roundw
        case rel => exact ⟨m, _, by go_num, by omega, by omega, o'.more (by omega), h, G⟩
        case measure => simp [intOf] <;> omega
      · have hc : ((addTermF cs ⟨q0, q1, q2⟩).2 == 0) = false := by simpa using hc
        go_wp2_with fail
        go_roundw
        case rel => exact ⟨m, cs, by go_num, by omega, by omega, o, h, G⟩
        case measure => simp [intOf] <;> omega

end Go.Proofs.Ytiflpihjffhfhaa
