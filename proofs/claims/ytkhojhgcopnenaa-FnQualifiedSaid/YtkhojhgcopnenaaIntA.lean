/- Contracts of the functions on lists of numbers: copies, comparisons, marks, membership. No condition but the sizes that the law itself asks. -/
import Derived.Test.YtkhojhgcopnenaaLeaf
namespace Go.Proofs.Ytkhojhgcopnenaa
open Go.RowKit

def hasB (x : Int) : List Int → Bool
  | [] => false
  | y :: t => x == y || hasB x t
theorem hasB_iff (x : Int) : ∀ zs : List Int, hasB x zs = true ↔ x ∈ zs
  | [] => by simp [hasB]
  | y :: t => by simp [hasB, hasB_iff x t]

theorem Try.infoI : (Try.prog.info? 2).map (fun i => (i.zero, i.size, i.bytes)) = some (some (.int .i64 0), 1, 8) := by kernel_rfl
theorem own_slI {w : World} {base : Nat} {e : TypeId} {v : Value} {xs : List Int} (h : OwnR i64s 1 w base e v xs) : SlI w base w.heap.size v xs := own_slR (f := i64s) (s := 1) (fun _ => rfl) h

theorem own_row1 {w : World} {base : Nat} {e : TypeId} {g n c : Nat} {xs : List Value} (h : w.ownsRow base e 1 (.slice (some ⟨g, 0, none⟩) n c) n xs) {k : Nat} (hk : k < n) :
    (∃ u, w.cell? ⟨g, k, none⟩ = some u) ∧ w.frozen? ⟨g, k, none⟩ = false := own_cellAt h k (by omega)

set_option maxHeartbeats 400000 in
theorem toInt64S_any (v : Value) (cs : List Int) (w : World) (lo : Nat) (h : SlI w lo w.heap.size v cs) (hn : cs.length ≤ 1048576) :
    Calls Try.prog 52 #[v] w fun e w' => ∃ v', e = .returned v' ∧ OwnR i64s 1 w' w.heap.size 2 v' cs ∧ Below w.heap.size w w' := by
  obtain ⟨i0, hi, hz0, hz1, hz2⟩ := info_parts Try.infoI
  obtain ⟨A, c, rfl, hc1, hc2⟩ := h.form
  go_enter Try.func52, Try.ntmps52
  go_wp2_with (first | (at_make; refine wpList_make_full _ rfl _ _ 22 rfl w.heap.size 2 i0 _ 1 Try.underlying22 hi hz0 hz1 _ _ _ _ cs.length rfl rfl rfl rfl ?c1 ?c2 ?c3 ?_))
  case c1 => rw [hz2]; omega
  case c2 => unfold maxLen; omega
  case c3 => exact Nat.le_refl _
  intro w1 hown hgrow
  have hb1 : Below w.heap.size w w1 := (Below.refl _ _).grown hgrow (Nat.le_refl _) (by intro k h; cases h)
  clear hgrow hi hz0 hz1 hz2 i0
  go_wp2_with fail
  go_loopw [4] (fun i wr => ∃ (k : Nat) (xs : List Value), i = .int .i64 k ∧ k ≤ cs.length ∧ wr.ownsRow w.heap.size 2 1 (.slice (some ⟨w.heap.size, 0, none⟩) cs.length cs.length) cs.length xs ∧ xs.take k = (cs.take k).flatMap i64s ∧ Below w.heap.size w wr) (fun i wr => cs.length - (intOf i).toNat)
  case atStart => exact ⟨0, _, rfl, Nat.zero_le _, hown, by simp, hb1⟩
  case round =>
    obtain ⟨k, xs, rfl, hk, hown2, hxs, hbr⟩ := hrel
    clear hown hb1
    by_cases hlt : k < cs.length
    · obtain ⟨x, hx⟩ := some_at hlt
      obtain ⟨b, off, rfl, _, hb, c0⟩ := (h.below hbr (Nat.le_refl _)).int_at hx
      obtain ⟨⟨_, g0⟩, f0⟩ := own_row1 hown2 hlt
      have Hx := Lib.hid hx
      have Hxs := Lib.hid hxs
      clear hx hxs
      go_wp2_with fail
      obtain ⟨r1, r2, r3⟩ := own_putR (f := i64s) (s := 1) (fun _ => rfl) hown2 hlt Hx.out (by rw [Nat.mul_one]; exact Hxs.out)
      simp only [Nat.mul_one] at r1 r2 r3
      go_roundw
      case rel => exact ⟨k + 1, _, by go_num, hlt, r1, r2, below_put hbr r3 hbr.size (Nat.le_refl _)⟩
      case measure => simp [intOf]; omega
    · have hkn : k = cs.length := by omega
      subst hkn
      go_wp2_with fail
      go_ret
      exact ⟨_, rfl, by rw [List.take_of_length_le (by rw [hown2.1, Nat.mul_one]; exact Nat.le_refl _), List.take_length] at hxs; rw [hxs] at hown2; exact hown2, hbr⟩


set_option maxHeartbeats 400000 in
theorem eqInt64S_any (u v : Value) (xs ys : List Int) (w : World) (lo lo' : Nat) (ha : SlI w lo w.heap.size u xs) (hb : SlI w lo' w.heap.size v ys) :
    Calls Try.prog 27 #[u, v] w fun e w' => e = .returned (.bool (decide (xs = ys))) ∧ Below w.heap.size w w' := by
  obtain ⟨A, c, rfl, hc1, hc2⟩ := ha.form
  obtain ⟨A', c', rfl, hc1', hc2'⟩ := hb.form
  by_cases hl : xs.length = ys.length
  · have hne : ((xs.length : Int) != (ys.length : Int)) = false := by simp [hl]
    have Hl := Lib.hid hl
    clear hl
    go_enter Try.func27, Try.ntmps27
    go_wp2_with fail
    go_loopw [5] (fun i wr => ∃ (k : Nat), i = .int .i64 k ∧ k ≤ xs.length ∧ xs.take k = ys.take k ∧ Below w.heap.size w wr) (fun i wr => xs.length - (intOf i).toNat)
    case atStart => exact ⟨0, rfl, Nat.zero_le _, rfl, Below.refl _ _⟩
    case round =>
      obtain ⟨k, rfl, hk, htk, hbr⟩ := hrel
      have Htk := Lib.hid htk
      clear htk
      by_cases hlt : k < xs.length
      · have hlt' : k < ys.length := by have := Hl.out; omega
        obtain ⟨x, hx⟩ := some_at hlt
        obtain ⟨y, hy⟩ := some_at hlt'
        obtain ⟨b, off, rfl, _, hbb, c0⟩ := ((ha.below hbr (Nat.le_refl _)).more (Nat.le_refl _) hbr.size).int_at hx
        obtain ⟨b', off', rfl, _, hbb', d0⟩ := ((hb.below hbr (Nat.le_refl _)).more (Nat.le_refl _) hbr.size).int_at hy
        have Hx := Lib.hid hx
        have Hy := Lib.hid hy
        clear hx hy
        go_wp2_with fail
        refine wp_region_ext (by kernel_rfl) (by kernel_rfl) ?_
        repeat (go_big_quiet_step (fail))
        refine wpQuiet_nil ?_
        intro w2 hb2
        go_wp2_with fail
        · have hne2 : (x != y) = true := by assumption
          go_ret
          exact ⟨ret_no (by intro e; have h1 := Hx.out; rw [e, Hy.out] at h1; simp [Option.some.inj h1] at hne2), hbr.trans (hb2.mono hbr.size)⟩
        · have heq2 : (x != y) = false := by assumption
          go_roundw
          case rel => exact ⟨k + 1, by go_num, hlt, by rw [take_snoc Hx.out, take_snoc Hy.out, Htk.out]; simp at heq2; rw [heq2], hbr.trans (hb2.mono hbr.size)⟩
          case measure => simp [intOf]; omega
      · go_wp2_with fail
        go_ret
        exact ⟨ret_bool (by have h1 := Htk.out; have h2 := Hl.out; rw [List.take_of_length_le (by omega), List.take_of_length_le (by omega)] at h1; simp [h1]), hbr⟩
  · have hne : ((xs.length : Int) != (ys.length : Int)) = true := by simp; omega
    have Hl := Lib.hid hl
    clear hl
    go_enter Try.func27, Try.ntmps27
    go_wp2_with fail
    go_ret
    exact ⟨ret_no (by intro e; exact Hl.out (by rw [e])), Below.refl _ _⟩
set_option maxHeartbeats 400000 in
theorem likeInts_any (u v : Value) (xs ys : List Int) (w : World) (lo lo' : Nat) (ha : SlI w lo w.heap.size u xs) (hb : SlI w lo' w.heap.size v ys) :
    Calls Try.prog 44 #[u, v] w fun e w' => e = .returned (.bool (decide (xs = ys))) ∧ Below w.heap.size w w' := by
  obtain ⟨A, c, rfl, hc1, hc2⟩ := ha.form
  obtain ⟨A', c', rfl, hc1', hc2'⟩ := hb.form
  by_cases hl : xs.length = ys.length
  · have hne : ((xs.length : Int) != (ys.length : Int)) = false := by simp [hl]
    have Hl := Lib.hid hl
    clear hl
    go_enter Try.func44, Try.ntmps44
    go_wp2_with fail
    go_loopw [5] (fun i wr => ∃ (k : Nat), i = .int .i64 k ∧ k ≤ xs.length ∧ xs.take k = ys.take k ∧ Below w.heap.size w wr) (fun i wr => xs.length - (intOf i).toNat)
    case atStart => exact ⟨0, rfl, Nat.zero_le _, rfl, Below.refl _ _⟩
    case round =>
      obtain ⟨k, rfl, hk, htk, hbr⟩ := hrel
      have Htk := Lib.hid htk
      clear htk
      by_cases hlt : k < xs.length
      · have hlt' : k < ys.length := by have := Hl.out; omega
        obtain ⟨x, hx⟩ := some_at hlt
        obtain ⟨y, hy⟩ := some_at hlt'
        obtain ⟨b, off, rfl, _, hbb, c0⟩ := ((ha.below hbr (Nat.le_refl _)).more (Nat.le_refl _) hbr.size).int_at hx
        obtain ⟨b', off', rfl, _, hbb', d0⟩ := ((hb.below hbr (Nat.le_refl _)).more (Nat.le_refl _) hbr.size).int_at hy
        have Hx := Lib.hid hx
        have Hy := Lib.hid hy
        clear hx hy
        go_wp2_with fail
        refine wp_region_ext (by kernel_rfl) (by kernel_rfl) ?_
        repeat (go_big_quiet_step (fail))
        refine wpQuiet_nil ?_
        intro w2 hb2
        go_wp2_with fail
        · have hne2 : (x != y) = true := by assumption
          go_ret
          exact ⟨ret_no (by intro e; have h1 := Hx.out; rw [e, Hy.out] at h1; simp [Option.some.inj h1] at hne2), hbr.trans (hb2.mono hbr.size)⟩
        · have heq2 : (x != y) = false := by assumption
          go_roundw
          case rel => exact ⟨k + 1, by go_num, hlt, by rw [take_snoc Hx.out, take_snoc Hy.out, Htk.out]; simp at heq2; rw [heq2], hbr.trans (hb2.mono hbr.size)⟩
          case measure => simp [intOf]; omega
      · go_wp2_with fail
        go_ret
        exact ⟨ret_bool (by have h1 := Htk.out; have h2 := Hl.out; rw [List.take_of_length_le (by omega), List.take_of_length_le (by omega)] at h1; simp [h1]), hbr⟩
  · have hne : ((xs.length : Int) != (ys.length : Int)) = true := by simp; omega
    have Hl := Lib.hid hl
    clear hl
    go_enter Try.func44, Try.ntmps44
    go_wp2_with fail
    go_ret
    exact ⟨ret_no (by intro e; exact Hl.out (by rw [e])), Below.refl _ _⟩

set_option maxHeartbeats 400000 in
theorem markInt64S_any (v : Value) (n : Nat) (ys : List Value) (k0 : Int) (w : World) (base : Nat) (h : w.ownsRow base 2 1 v n ys) (hk0 : 0 ≤ k0) (hk1 : k0 ≤ 1152921504606846976) (hn : n ≤ 1152921504606846976) :
    Calls Try.prog 31 #[v, .int .i64 k0] w fun e w' => e = .returned (.int .i64 (k0 + n)) ∧ OwnR i64s 1 w' base 2 v (marks id 1 k0 n) ∧ w.grownBy w' v.ownBlock := by
  obtain ⟨A, c, rfl, hc1, hc2, hA⟩ := own_form h
  go_enter Try.func31, Try.ntmps31
  go_wp2_with fail
  go_loopw [1, 5] (fun q i wr => ∃ (k : Nat) (xs : List Value), i = .int .i64 k ∧ q = .int .i64 (k0 + k) ∧ k ≤ n ∧ wr.ownsRow base 2 1 (.slice A n c) n xs ∧ xs.take k = ((marks id 1 k0 n).take k).flatMap i64s ∧ w.grownBy wr (Value.slice A n c).ownBlock) (fun q i wr => n - (intOf i).toNat)
  case atStart => exact ⟨0, _, rfl, by go_num, Nat.zero_le _, h, by simp, World.grownBy.refl _ _⟩
  case round =>
    obtain ⟨k, xs, rfl, rfl, hk, hown2, hxs, hgr⟩ := hrel
    by_cases hlt : k < n
    · obtain ⟨g, rfl, hbg, _⟩ := hA (by omega)
      obtain ⟨⟨_, g0⟩, f0⟩ := own_row1 hown2 hlt
      have Hxs := Lib.hid hxs
      clear hxs
      go_wp2_with fail
      obtain ⟨r1, r2, r3⟩ := own_putR (f := i64s) (s := 1) (fun _ => rfl) hown2 hlt (marks_at id 1 k0 hlt) (by rw [Nat.mul_one]; exact Hxs.out)
      simp only [Nat.mul_one, Int.natCast_one, Int.one_mul] at r1 r2 r3
      go_roundw
      case rel => exact ⟨k + 1, _, by go_num, by go_num, hlt, r1, r2, grownBy_trans hgr r3⟩
      case measure => simp [intOf]; omega
    · have hkn : k = n := by omega
      subst hkn
      go_wp2_with fail
      go_ret
      refine ⟨rfl, ?_, hgr⟩
      unfold OwnR
      rw [marks_len]
      rw [List.take_of_length_le (by rw [hown2.1, Nat.mul_one]; exact Nat.le_refl _), List.take_of_length_le (by rw [marks_len]; exact Nat.le_refl _)] at hxs
      rw [← hxs]; exact hown2

set_option maxHeartbeats 400000 in
theorem heldInt64S_any (v : Value) (n : Nat) (k0 : Int) (w : World) (lo hi : Nat) (h : SlI w lo hi v (marks id 1 k0 n)) (hk0 : 0 ≤ k0) (hk1 : k0 ≤ 1152921504606846976) (hn : n ≤ 1152921504606846976) :
    Calls Try.prog 32 #[v, .int .i64 k0] w fun e w' => e = .returned (.int .i64 (k0 + n)) ∧ w = w' := by
  obtain ⟨A, c, rfl, hc1, hc2⟩ := h.form
  rw [marks_len] at hc1 h ⊢
  go_enter Try.func32, Try.ntmps32
  go_wp2_with fail
  go_loop [1, 5] (fun q i => ∃ (k : Nat), i = .int .i64 k ∧ q = .int .i64 (k0 + k) ∧ k ≤ n) (fun q i => n - (intOf i).toNat)
  case atStart => exact ⟨0, rfl, by go_num, Nat.zero_le _⟩
  case round =>
    obtain ⟨k, rfl, rfl, hk⟩ := hrel
    by_cases hlt : k < n
    · obtain ⟨b, off, rfl, _, _, c0⟩ := h.int_at (marks_at id 1 k0 hlt)
      rw [Int.natCast_one, Int.one_mul, id] at c0
      have hne : ((k0 + (k : Int)) != (k0 + (k : Int))) = false := by simp
      go_wp2_with fail
      go_round
      case rel => exact ⟨k + 1, by go_num, by go_num, hlt⟩
      case measure => simp [intOf]; omega
    · have hkn : k = n := by omega
      subst hkn
      go_wp2_with fail
      go_ret
      exact ⟨rfl, rfl⟩

set_option maxHeartbeats 400000 in
theorem has_any (v : Value) (zs : List Int) (x : Int) (w : World) (lo hi : Nat) (h : SlI w lo hi v zs) :
    Calls Try.prog 55 #[v, .int .i64 x] w fun e w' => e = .returned (.bool (hasB x zs)) ∧ w = w' := by
  obtain ⟨A, c, rfl, hc1, hc2⟩ := h.form
  go_enter Try.func55, Try.ntmps55
  go_wp2_with fail
  go_loop [9] (fun i => ∃ (k : Nat), i = .int .i64 k ∧ k ≤ zs.length ∧ hasB x zs = hasB x (zs.drop k)) (fun i => zs.length - (intOf i).toNat)
  case atStart => exact ⟨0, rfl, Nat.zero_le _, rfl⟩
  case round =>
    obtain ⟨k, rfl, hk, hgo⟩ := hrel
    by_cases hlt : k < zs.length
    · obtain ⟨y, hy⟩ := some_at hlt
      obtain ⟨b, off, rfl, _, _, c0⟩ := h.int_at hy
      rw [drop_cons hy, hasB] at hgo
      have Hgo := Lib.hid hgo
      have Hy := Lib.hid hy
      clear hy hgo
      go_wp2_with fail
      · have he : (x == y) = true := by assumption
        go_ret
        exact ⟨ret_bool (by rw [Hgo.out]; simp only [beq_iff_eq] at he; subst he; simp), rfl⟩
      · have he : (x == y) = false := by assumption
        go_round
        case rel => exact ⟨k + 1, by go_num, hlt, by rw [Hgo.out]; simp only [beq_eq_false_iff_ne, ne_eq] at he; simp; intro h; first | exact absurd h he | exact absurd h.symm he⟩
        case measure => simp [intOf]; omega
    · have hkn : k = zs.length := by omega
      subst hkn
      rw [List.drop_length, hasB] at hgo
      have Hgo := Lib.hid hgo
      clear hgo
      go_wp2_with fail
      go_ret
      exact ⟨ret_bool Hgo.out.symm, rfl⟩
set_option maxHeartbeats 400000 in
theorem l01Has_any (v : Value) (zs : List Int) (x : Int) (w : World) (lo hi : Nat) (h : SlI w lo hi v zs) :
    Calls Try.prog 51 #[v, .int .i64 x] w fun e w' => e = .returned (.bool (hasB x zs)) ∧ w = w' := by
  obtain ⟨A, c, rfl, hc1, hc2⟩ := h.form
  go_enter Try.func51, Try.ntmps51
  go_wp2_with fail
  go_loop [5] (fun i => ∃ (k : Nat), i = .int .i64 k ∧ k ≤ zs.length ∧ hasB x zs = hasB x (zs.drop k)) (fun i => zs.length - (intOf i).toNat)
  case atStart => exact ⟨0, rfl, Nat.zero_le _, rfl⟩
  case round =>
    obtain ⟨k, rfl, hk, hgo⟩ := hrel
    by_cases hlt : k < zs.length
    · obtain ⟨y, hy⟩ := some_at hlt
      obtain ⟨b, off, rfl, _, _, c0⟩ := h.int_at hy
      rw [drop_cons hy, hasB] at hgo
      have Hgo := Lib.hid hgo
      have Hy := Lib.hid hy
      clear hy hgo
      go_wp2_with fail
      · have he : (y == x) = true := by assumption
        go_ret
        exact ⟨ret_bool (by rw [Hgo.out]; simp only [beq_iff_eq] at he; subst he; simp), rfl⟩
      · have he : (y == x) = false := by assumption
        go_round
        case rel => exact ⟨k + 1, by go_num, hlt, by rw [Hgo.out]; simp only [beq_eq_false_iff_ne, ne_eq] at he; simp; intro h; first | exact absurd h he | exact absurd h.symm he⟩
        case measure => simp [intOf]; omega
    · have hkn : k = zs.length := by omega
      subst hkn
      rw [List.drop_length, hasB] at hgo
      have Hgo := Lib.hid hgo
      clear hgo
      go_wp2_with fail
      go_ret
      exact ⟨ret_bool Hgo.out.symm, rfl⟩
theorem l01Has_as {v : Value} {zs : List Int} {x : Int} {w : World} {lo hi : Nat} {r : Bool} (hr : hasB x zs = r) (h : SlI w lo hi v zs) :
    Calls Try.prog 51 #[v, .int .i64 x] w fun e w' => e = .returned (.bool r) ∧ w = w' := hr ▸ l01Has_any v zs x w lo hi h
theorem has_as {v : Value} {zs : List Int} {x : Int} {w : World} {lo hi : Nat} {r : Bool} (hr : hasB x zs = r) (h : SlI w lo hi v zs) :
    Calls Try.prog 55 #[v, .int .i64 x] w fun e w' => e = .returned (.bool r) ∧ w = w' := hr ▸ has_any v zs x w lo hi h
end Go.Proofs.Ytkhojhgcopnenaa
