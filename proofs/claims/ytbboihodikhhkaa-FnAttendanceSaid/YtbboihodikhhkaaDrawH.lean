/- Holidays and days that the laws draw. No condition. -/
import Derived.Test.YtbboihodikhhkaaDrawM
namespace Go.Proofs.Ytbboihodikhhkaa
open Go.RowKit
attribute [local go_sem ↓] Go.wp_at_zero Go.wp_at_succ

set_option maxRecDepth 100000 in
set_option maxHeartbeats 4000000 in
theorem l02Day_any (g : Nat) (w : World) (h : Src w g) :
    Calls Try.prog 60 #[.pointer (some ⟨g, 0, none⟩)] w fun e w' => ∃ r : Int, e = .returned (.int .i64 r) ∧ Src w' g ∧ w.grownBy w' (some g) := by
  have lg := h.lt
  have G := World.grownBy.refl w (some g)
  go_enter Try.func60, Try.ntmps60
  go_wp2_with fail
  refine (l01Next_any g 16 w h).mono ?_
  clear h
  rintro e w1 ⟨r1, rfl, a1, b1, _, h, g1⟩
  replace b1 := b1 (by omega)
  have z1 := g1.size
  replace G := grownBy_trans G g1
  clear g1
  by_cases e0 : r1 = 0
  · subst e0
    go_wp2_with fail
    refine (pick_any g 6 [_, _, _, _, _, _] _ w1 h rfl (by decide) (by decide) (by rfl)).mono ?_
    clear h
    rintro e w2 ⟨r2, rfl, m2, h, g2⟩
    clear m2
    have z2 := g2.size
    replace G := grownBy_trans G g2
    clear g2
    go_wp2_with fail
    go_ret
    exact ⟨r2, rfl, h, G⟩
  replace e0 : (r1 == 0) = false := by simpa using e0
  go_wp2_with fail
  refine (l01Next_any g 250 w1 h).mono ?_
  clear h
  rintro e w2 ⟨r2, rfl, a2, b2, _, h, g2⟩
  replace b2 := b2 (by omega)
  have z2 := g2.size
  replace G := grownBy_trans G g2
  clear g2
  go_wp2_with fail
  go_ret
  exact ⟨_, rfl, h, G⟩

end Go.Proofs.Ytbboihodikhhkaa
