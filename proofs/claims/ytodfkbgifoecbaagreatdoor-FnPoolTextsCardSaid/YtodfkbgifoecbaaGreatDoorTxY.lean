/- Texts that the laws damage: whatever is drawn, a text comes back that is at most one letter longer. No condition. -/
import Derived.Test.YtodfkbgifoecbaaGreatDoorTxO
import Derived.Test.YtodfkbgifoecbaaGreatDoorDrawL
import Derived.Deep.RegionLaw
namespace Go.Proofs.YtodfkbgifoecbaaGreatDoor
open Go.RowKit
open Go.Lib hiding intOf
attribute [local go_sem ↓] Go.wp_at_zero Go.wp_at_succ

theorem ty_ne {g b : Nat} (h : g < b) : some b ≠ some g := fun e => by have := Option.some.inj e; omega
theorem blk_str {W : World} {g : Nat} {ty : TypeId} (N : Nat) (L : List ByteArray) {cs : Array Value} (hb : Blk W g ty cs) (hc : cs = (L.map Value.string).toArray) (hL : ∀ x ∈ L, x.size ≤ N) {k : Nat} (hk : k < L.length) :
    ∃ x : ByteArray, W.cell? ⟨g, k, none⟩ = some (.string x) ∧ x.size ≤ N := by
  obtain ⟨x, hx⟩ := some_at hk
  refine ⟨x, ?_, hL x (List.mem_of_getElem? hx)⟩
  rw [hb.cell, hc]
  simp [hx]
theorem dmg_at {W : World} {g : Nat} {ty : TypeId} (hb : Blk W g ty #[.string ⟨#[48]⟩, .string ⟨#[35]⟩, .string ⟨#[46]⟩, .string ⟨#[47]⟩, .string ⟨#[32]⟩, .string ⟨#[97]⟩, .string ⟨#[45]⟩, .string ⟨#[10]⟩]) {k : Nat} (hk : k < 8) : ∃ x : ByteArray, W.cell? ⟨g, k, none⟩ = some (.string x) ∧ x.size ≤ 1 :=
  blk_str 1 [⟨#[48]⟩, ⟨#[35]⟩, ⟨#[46]⟩, ⟨#[47]⟩, ⟨#[32]⟩, ⟨#[97]⟩, ⟨#[45]⟩, ⟨#[10]⟩] hb rfl (by decide) hk
set_option maxRecDepth 100000 in
set_option maxHeartbeats 4000000 in
theorem l01Damage_any (g : Nat) (t : ByteArray) (w : World) (h : Src w g) (ht : t.size ≤ 1000000) :
    Calls Tryz.prog 21 #[.pointer (some ⟨g, 0, none⟩), .string t] w fun e w' => ∃ r : ByteArray, e = .returned (.string r) ∧ r.size ≤ t.size + 1 ∧ Src w' g ∧ w.grownBy w' (some g) := by
  go_enter Tryz.func21, Tryz.ntmps21
  go_wp2_with fail
  refine (l01Next_any g _ w h).mono ?_
  rintro e w1 ⟨r1, rfl, a1, b1, c1, h1, g1⟩
  obtain ⟨k, rfl⟩ : ∃ k : Nat, r1 = (k : Int) := ⟨r1.toNat, by omega⟩
  have hk : k ≤ t.size := by
    by_cases h0 : t.size = 0
    · have := c1 (by rw [h0]; decide); omega
    · have := b1 (by omega); omega
  clear a1 b1 c1 h
  go_wp2_with fail
  refine (l01Next_any g 8 w1 h1).mono ?_
  rintro e w2 ⟨r2, rfl, a2, b2, _, h2, g2⟩
  have G2 := grownBy_trans g1 g2
  clear h1 g1 g2 a2 b2
  have k1 : (k : Int) ≤ (t.size : Int) := by omega
  by_cases q0 : r2 = 0
  · subst q0
    go_wp2_with fail
    go_ret
    exact ⟨_, rfl, by rw [ByteArray.size_extract]; omega, h2, G2⟩
  have e0 : (r2 == 0) = false := by simpa using q0
  by_cases q1 : r2 = 1
  · subst q1
    have s1 : (t.extract 0 k).size = k := by rw [ByteArray.size_extract]; omega
    have s2 : (t.extract k t.size).size = t.size - k := by rw [ByteArray.size_extract]; omega
    go_wp2_with fail
    have C1 := l01Next_any g 8 w2.drew h2.drew
    have C2 := l01Next_any g 8 (w2.alloc (.cells #[.string ⟨#[48]⟩, .string ⟨#[35]⟩, .string ⟨#[46]⟩, .string ⟨#[47]⟩, .string ⟨#[32]⟩, .string ⟨#[97]⟩, .string ⟨#[45]⟩, .string ⟨#[10]⟩] 9)).drew (h2.alloc _).drew
    have GA := gr_draw (gr_alloc G2 (.cells #[.string ⟨#[48]⟩, .string ⟨#[35]⟩, .string ⟨#[46]⟩, .string ⟨#[47]⟩, .string ⟨#[32]⟩, .string ⟨#[97]⟩, .string ⟨#[45]⟩, .string ⟨#[10]⟩] 9))
    have BA : Blk (w2.alloc (.cells #[.string ⟨#[48]⟩, .string ⟨#[35]⟩, .string ⟨#[46]⟩, .string ⟨#[47]⟩, .string ⟨#[32]⟩, .string ⟨#[97]⟩, .string ⟨#[45]⟩, .string ⟨#[10]⟩] 9)).drew w2.heap.size 9 #[.string ⟨#[48]⟩, .string ⟨#[35]⟩, .string ⟨#[46]⟩, .string ⟨#[47]⟩, .string ⟨#[32]⟩, .string ⟨#[97]⟩, .string ⟨#[45]⟩, .string ⟨#[10]⟩] := Blk.new w2 _ _
    have hg := h2.lt
    go_region_with (first
      | (go_at_call 20; (with_reducible refine C1.mono ?_); rintro e w3 ⟨r3, rfl, a3, b3, _, h3, g3⟩; have b3 := b3 (by omega); obtain ⟨j, rfl⟩ : ∃ j : Nat, r3 = (j : Int) := ⟨r3.toNat, by omega⟩; have hj : j < 8 := (by omega); obtain ⟨x, hx, sx⟩ := dmg_at (Blk.new w3 9 #[.string ⟨#[48]⟩, .string ⟨#[35]⟩, .string ⟨#[46]⟩, .string ⟨#[47]⟩, .string ⟨#[32]⟩, .string ⟨#[97]⟩, .string ⟨#[45]⟩, .string ⟨#[10]⟩]) hj; have hF := gr_alloc (grownBy_trans (gr_draw G2) g3) (.cells #[.string ⟨#[48]⟩, .string ⟨#[35]⟩, .string ⟨#[46]⟩, .string ⟨#[47]⟩, .string ⟨#[32]⟩, .string ⟨#[97]⟩, .string ⟨#[45]⟩, .string ⟨#[10]⟩] 9); have hS := h3.alloc (.cells #[.string ⟨#[48]⟩, .string ⟨#[35]⟩, .string ⟨#[46]⟩, .string ⟨#[47]⟩, .string ⟨#[32]⟩, .string ⟨#[97]⟩, .string ⟨#[45]⟩, .string ⟨#[10]⟩] 9))
      | (go_at_call 20; (with_reducible refine C2.mono ?_); rintro e w3 ⟨r3, rfl, a3, b3, _, h3, g3⟩; have b3 := b3 (by omega); obtain ⟨j, rfl⟩ : ∃ j : Nat, r3 = (j : Int) := ⟨r3.toNat, by omega⟩; have hj : j < 8 := (by omega); obtain ⟨x, hx, sx⟩ := dmg_at (BA.grown g3 (ty_ne (by omega))) hj; have hF := grownBy_trans GA g3; have hS := h3))
    all_goals go_wp2_with fail
    all_goals go_ret
    all_goals exact ⟨_, rfl, by rw [ByteArray.size_append, ByteArray.size_append, s1, s2]; omega, hS, hF⟩
  have e1 : (r2 == 1) = false := by simpa using q1
  by_cases q2 : r2 = 2
  · subst q2
    by_cases hlt : k < t.size
    · have d1 : decide ((k : Int) < (t.size : Int)) = true := by simp; omega
      have p1 : (k : Int) + 1 ≤ (t.size : Int) := by omega
      have s1 : (t.extract 0 k).size = k := by rw [ByteArray.size_extract]; omega
      have s2 : (t.extract (k + 1) t.size).size = t.size - (k + 1) := by rw [ByteArray.size_extract]; omega
      have s3 := Lib.hid (show (t.extract 0 k ++ t.extract (k + 1) t.size).size ≤ t.size + 1 by rw [ByteArray.size_append, s1, s2]; omega)
      have n1 : ¬ (9223372036854775807 < k + (t.size - (k + 1))) := by omega
      go_wp2_with fail
      go_region
      all_goals go_wp2_with fail
      all_goals go_ret
      all_goals exact ⟨_, rfl, s3.out, h2.drew, gr_draw G2⟩
    · have d1 : decide ((k : Int) < (t.size : Int)) = false := by simp; omega
      go_wp2_with fail
      go_ret
      exact ⟨_, rfl, by omega, h2, G2⟩
  have e2 : (r2 == 2) = false := by simpa using q2
  go_wp2_with fail
  go_ret
  exact ⟨_, rfl, by omega, h2, G2⟩
end Go.Proofs.YtodfkbgifoecbaaGreatDoor
