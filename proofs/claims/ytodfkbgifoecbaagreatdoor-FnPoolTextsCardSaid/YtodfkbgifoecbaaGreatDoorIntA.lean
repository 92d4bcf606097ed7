/- Contracts of the functions on lists of numbers: copies, comparisons, marks, membership. No condition but the sizes that the law itself asks. -/
import Derived.Test.YtodfkbgifoecbaaGreatDoorLeaf
namespace Go.Proofs.YtodfkbgifoecbaaGreatDoor
open Go.RowKit

def hasB (x : Int) : List Int → Bool
  | [] => false
  | y :: t => x == y || hasB x t
theorem hasB_iff (x : Int) : ∀ zs : List Int, hasB x zs = true ↔ x ∈ zs
  | [] => by simp [hasB]
  | y :: t => by simp [hasB, hasB_iff x t]

theorem Tryz.infoI : (Tryz.prog.info? 2).map (fun i => (i.zero, i.size, i.bytes)) = some (some (.int .i64 0), 1, 8) := by kernel_rfl
theorem own_slI {w : World} {base : Nat} {e : TypeId} {v : Value} {xs : List Int} (h : OwnR i64s 1 w base e v xs) : SlI w base w.heap.size v xs := own_slR (f := i64s) (s := 1) (fun _ => rfl) h

theorem own_row1 {w : World} {base : Nat} {e : TypeId} {g n c : Nat} {xs : List Value} (h : w.ownsRow base e 1 (.slice (some ⟨g, 0, none⟩) n c) n xs) {k : Nat} (hk : k < n) :
    (∃ u, w.cell? ⟨g, k, none⟩ = some u) ∧ w.frozen? ⟨g, k, none⟩ = false := own_cellAt h k (by omega)



set_option maxHeartbeats 400000 in
theorem likeInts_any (u v : Value) (xs ys : List Int) (w : World) (lo lo' : Nat) (ha : SlI w lo w.heap.size u xs) (hb : SlI w lo' w.heap.size v ys) :
    Calls Tryz.prog 28 #[u, v] w fun e w' => e = .returned (.bool (decide (xs = ys))) ∧ Below w.heap.size w w' := by
  obtain ⟨A, c, rfl, hc1, hc2⟩ := ha.form
  obtain ⟨A', c', rfl, hc1', hc2'⟩ := hb.form
  by_cases hl : xs.length = ys.length
  · have hne : ((xs.length : Int) != (ys.length : Int)) = false := by simp [hl]
    have Hl := Lib.hid hl
    clear hl
    go_enter Tryz.func28, Tryz.ntmps28
    go_wp2_with fail
    go_loopw [5] (fun i wr => ∃ (k : Nat), i = .int .i64 k ∧ k ≤ xs.length ∧ xs.take k = ys.take k ∧ Below w.heap.size w wr) (fun i wr => xs.length - (intOf i).toNat)
    case atStart => exact ⟨0, rfl, Nat.zero_le _, rfl, Below.refl _ _⟩
    case round =>
      obtain ⟨k, rfl, hk, htk, hbr⟩ := hrel
      have Htk := Lib.hid htk
      clear htk
      by_cases hlt : k < xs.length
      · have hlt' : k < ys.length := by have := Hl.out; omega
        obtain ⟨x, hx⟩ := some_at hlt
        obtain ⟨y, hy⟩ := some_at hlt'
        obtain ⟨b, off, rfl, _, hbb, c0⟩ := ((ha.below hbr (Nat.le_refl _)).more (Nat.le_refl _) hbr.size).int_at hx
        obtain ⟨b', off', rfl, _, hbb', d0⟩ := ((hb.below hbr (Nat.le_refl _)).more (Nat.le_refl _) hbr.size).int_at hy
        have Hx := Lib.hid hx
        have Hy := Lib.hid hy
        clear hx hy
        go_wp2_with fail
        refine wp_region_ext (by kernel_rfl) (by kernel_rfl) ?_
        repeat (go_big_quiet_step (fail))
        refine wpQuiet_nil ?_
        intro w2 hb2
        go_wp2_with fail
        · have hne2 : (x != y) = true := by assumption
          go_ret
          exact ⟨ret_no (by intro e; have h1 := Hx.out; rw [e, Hy.out] at h1; simp [Option.some.inj h1] at hne2), hbr.trans (hb2.mono hbr.size)⟩
        · have heq2 : (x != y) = false := by assumption
          go_roundw
          case rel => exact ⟨k + 1, by go_num, hlt, by rw [take_snoc Hx.out, take_snoc Hy.out, Htk.out]; simp at heq2; rw [heq2], hbr.trans (hb2.mono hbr.size)⟩
          case measure => simp [intOf]; omega
      · go_wp2_with fail
        go_ret
        exact ⟨ret_bool (by have h1 := Htk.out; have h2 := Hl.out; rw [List.take_of_length_le (by omega), List.take_of_length_le (by omega)] at h1; simp [h1]), hbr⟩
  · have hne : ((xs.length : Int) != (ys.length : Int)) = true := by simp; omega
    have Hl := Lib.hid hl
    clear hl
    go_enter Tryz.func28, Tryz.ntmps28
    go_wp2_with fail
    go_ret
    exact ⟨ret_no (by intro e; exact Hl.out (by rw [e])), Below.refl _ _⟩



set_option maxHeartbeats 400000 in
theorem has_any (v : Value) (zs : List Int) (x : Int) (w : World) (lo hi : Nat) (h : SlI w lo hi v zs) :
    Calls Tryz.prog 29 #[v, .int .i64 x] w fun e w' => e = .returned (.bool (hasB x zs)) ∧ w = w' := by
  obtain ⟨A, c, rfl, hc1, hc2⟩ := h.form
  go_enter Tryz.func29, Tryz.ntmps29
  go_wp2_with fail
  go_loop [9] (fun i => ∃ (k : Nat), i = .int .i64 k ∧ k ≤ zs.length ∧ hasB x zs = hasB x (zs.drop k)) (fun i => zs.length - (intOf i).toNat)
  case atStart => exact ⟨0, rfl, Nat.zero_le _, rfl⟩
  case round =>
    obtain ⟨k, rfl, hk, hgo⟩ := hrel
    by_cases hlt : k < zs.length
    · obtain ⟨y, hy⟩ := some_at hlt
      obtain ⟨b, off, rfl, _, _, c0⟩ := h.int_at hy
      rw [drop_cons hy, hasB] at hgo
      have Hgo := Lib.hid hgo
      have Hy := Lib.hid hy
      clear hy hgo
      go_wp2_with fail
      · have he : (x == y) = true := by assumption
        go_ret
        exact ⟨ret_bool (by rw [Hgo.out]; simp only [beq_iff_eq] at he; subst he; simp), rfl⟩
      · have he : (x == y) = false := by assumption
        go_round
        case rel => exact ⟨k + 1, by go_num, hlt, by rw [Hgo.out]; simp only [beq_eq_false_iff_ne, ne_eq] at he; simp; intro h; first | exact absurd h he | exact absurd h.symm he⟩
        case measure => simp [intOf]; omega
    · have hkn : k = zs.length := by omega
      subst hkn
      rw [List.drop_length, hasB] at hgo
      have Hgo := Lib.hid hgo
      clear hgo
      go_wp2_with fail
      go_ret
      exact ⟨ret_bool Hgo.out.symm, rfl⟩
set_option maxHeartbeats 400000 in
theorem l01Has_any (v : Value) (zs : List Int) (x : Int) (w : World) (lo hi : Nat) (h : SlI w lo hi v zs) :
    Calls Tryz.prog 37 #[v, .int .i64 x] w fun e w' => e = .returned (.bool (hasB x zs)) ∧ w = w' := by
  obtain ⟨A, c, rfl, hc1, hc2⟩ := h.form
  go_enter Tryz.func37, Tryz.ntmps37
  go_wp2_with fail
  go_loop [5] (fun i => ∃ (k : Nat), i = .int .i64 k ∧ k ≤ zs.length ∧ hasB x zs = hasB x (zs.drop k)) (fun i => zs.length - (intOf i).toNat)
  case atStart => exact ⟨0, rfl, Nat.zero_le _, rfl⟩
  case round =>
    obtain ⟨k, rfl, hk, hgo⟩ := hrel
    by_cases hlt : k < zs.length
    · obtain ⟨y, hy⟩ := some_at hlt
      obtain ⟨b, off, rfl, _, _, c0⟩ := h.int_at hy
      rw [drop_cons hy, hasB] at hgo
      have Hgo := Lib.hid hgo
      have Hy := Lib.hid hy
      clear hy hgo
      go_wp2_with fail
      · have he : (y == x) = true := by assumption
        go_ret
        exact ⟨ret_bool (by rw [Hgo.out]; simp only [beq_iff_eq] at he; subst he; simp), rfl⟩
      · have he : (y == x) = false := by assumption
        go_round
        case rel => exact ⟨k + 1, by go_num, hlt, by rw [Hgo.out]; simp only [beq_eq_false_iff_ne, ne_eq] at he; simp; intro h; first | exact absurd h he | exact absurd h.symm he⟩
        case measure => simp [intOf]; omega
    · have hkn : k = zs.length := by omega
      subst hkn
      rw [List.drop_length, hasB] at hgo
      have Hgo := Lib.hid hgo
      clear hgo
      go_wp2_with fail
      go_ret
      exact ⟨ret_bool Hgo.out.symm, rfl⟩
theorem l01Has_as {v : Value} {zs : List Int} {x : Int} {w : World} {lo hi : Nat} {r : Bool} (hr : hasB x zs = r) (h : SlI w lo hi v zs) :
    Calls Tryz.prog 37 #[v, .int .i64 x] w fun e w' => e = .returned (.bool r) ∧ w = w' := hr ▸ l01Has_any v zs x w lo hi h
theorem has_as {v : Value} {zs : List Int} {x : Int} {w : World} {lo hi : Nat} {r : Bool} (hr : hasB x zs = r) (h : SlI w lo hi v zs) :
    Calls Tryz.prog 29 #[v, .int .i64 x] w fun e w' => e = .returned (.bool r) ∧ w = w' := hr ▸ has_any v zs x w lo hi h
end Go.Proofs.YtodfkbgifoecbaaGreatDoor
