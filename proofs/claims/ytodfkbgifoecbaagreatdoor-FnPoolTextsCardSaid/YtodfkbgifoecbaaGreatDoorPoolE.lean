/- MakePool: the program's and the reference's answer the same function. No condition but the sizes that the law itself asks. -/
import Derived.Test.YtodfkbgifoecbaaGreatDoorPoolC
namespace Go.Proofs.YtodfkbgifoecbaaGreatDoor
open Go.RowKit
attribute [local go_sem ↓] Go.wp_at_zero Go.wp_at_succ

def makeF (cs : List Int) (st : Int) : P3 × Int := if poolOk ⟨cs, [], st⟩ = true then (⟨cs, [], st⟩, 0) else (⟨[], [], 0⟩, 1)
theorem makeF_len (cs : List Int) (st : Int) : (makeF cs st).1.nums.length ≤ cs.length ∧ (makeF cs st).1.drawn.length = 0 := by
  unfold makeF; split
  · exact ⟨Nat.le_refl _, rfl⟩
  · exact ⟨Nat.zero_le _, rfl⟩
theorem slI_nil (w : World) (lo hi : Nat) : SlI w lo hi (.slice none 0 0) [] := SlR.none (f := i64s) (s := 1) (fun _ => rfl) w lo hi none (by omega)
theorem ownI_nil (e : TypeId) (w : World) (lo hi : Nat) : OwI i64s 1 e w lo hi (.slice none 0 0) ([] : List Int) := ⟨own_nil _ _ _ _ _, fun g hg => by cases hg⟩

theorem Chg.setCell {lo hi : Nat} {w w' : World} (h : Chg lo hi w w') {a : Addr} (ha : lo ≤ a.block ∧ a.block < hi) (u : Value) : Chg lo hi w (w'.setCell a u) :=
  h.trans (Chg.of_grown (grownBy_setCell w' a u) fun g hg => by have := Option.some.inj hg; omega)

set_option maxHeartbeats 1000000 in
theorem l01Own_any (v : Value) (cs : List Int) (w : World) (lo : Nat) (h : SlI w lo w.heap.size v cs) (hn : cs.length ≤ 2097152) :
    Calls Tryz.prog 71 #[v] w fun e w' => ∃ v', e = .returned v' ∧ OwnR i64s 1 w' w.heap.size 2 v' cs ∧ Below w.heap.size w w' := by
  obtain ⟨A, c, rfl, hc1, hc2⟩ := h.form
  go_enter Tryz.func71, Tryz.ntmps71
  have hAA : Below w.heap.size w (w.alloc (.cells #[] 2)) := (Below.refl _ _).alloc (Nat.le_refl _) _
  go_wp2_with (at_builtin; refine wpList_append_sl (f := i64s) (s := 1) _ (fun _ => rfl) i64s_one rfl _ _ 24 rfl w.heap.size 2 Tryz.infoI Tryz.underlying24 rfl (by decide) _ ([] : List Int) cs _ _ _ rfl (own_empty _ _ 1 i64s) rfl (h.below hAA (Nat.le_refl _)) (by simp; omega) (by simp; omega) (by simp) ?_)
  intro v' w2 o2 hbel _
  go_wp2_with fail
  go_ret
  exact ⟨v', rfl, o2, hbel _ _ hAA (Nat.le_refl _)⟩

end Go.Proofs.YtodfkbgifoecbaaGreatDoor
