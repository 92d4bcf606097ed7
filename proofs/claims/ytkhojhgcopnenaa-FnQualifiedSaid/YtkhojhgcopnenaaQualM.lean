/- The words of reasons: the program's and the reference's ReasonsText answer the same function of the number. No condition. -/
import Derived.Test.YtkhojhgcopnenaaQualL
namespace Go.Proofs.Ytkhojhgcopnenaa
open Go.RowKit
open Go.Lib hiding intOf
attribute [local go_sem ↓] Go.wp_at_zero Go.wp_at_succ

theorem words7_index (k : Nat) (hk : k < 7) : ∃ x : ByteArray, words7[k]? = some x ∧ ∀ W : World, (Instr.index 97 (.agg #[.string ⟨#[121, 111, 117, 110, 103]⟩, .string ⟨#[111, 108, 100]⟩, .string ⟨#[122, 111, 110, 101]⟩, .string ⟨#[102, 111, 114, 101, 105, 103, 110]⟩, .string ⟨#[99, 111, 110, 118, 105, 99, 116, 101, 100]⟩, .string ⟨#[108, 97, 110, 103, 117, 97, 103, 101]⟩, .string ⟨#[106, 111, 98]⟩]) (.int .i64 (k : Int))).run Try.prog W = .ok (.string x) W := by
  rcases (by omega : k = 0 ∨ k = 1 ∨ k = 2 ∨ k = 3 ∨ k = 4 ∨ k = 5 ∨ k = 6) with rfl | rfl | rfl | rfl | rfl | rfl | rfl <;> exact ⟨_, rfl, fun _ => by kernel_rfl⟩
theorem rsnF_no {z : Int} (h : ¬ (0 ≤ z ∧ z ≤ 127)) : rsnF z = ([], 1) := by rw [rsnF, if_neg h]
theorem rsnF_yes {n : Nat} (h : n ≤ 127) : rsnF (n : Int) = (if rsnW n = [] then [45] else joinL 44 (bytesOf (rsnW n)), 0) := by
  rw [rsnF, if_pos ⟨by omega, by omega⟩]; rfl
theorem inB_no {z lo hi : Int} (h : ¬ (lo ≤ z ∧ z ≤ hi)) : inB z lo hi = false := by
  cases hb : inB z lo hi with
  | false => rfl
  | true => exact absurd (inB_iff.1 hb) h
set_option maxRecDepth 100000 in
set_option maxHeartbeats 4000000 in
theorem implReasonsText_any (z : Int) (w : World) :
    Calls Try.prog 42 #[.int .i64 z] w fun e w' => e = .returned (.tuple #[.string (str (rsnF z).1), .int .i64 (rsnF z).2]) ∧ Below w.heap.size w w' := by
  have CW : ∀ W, Calls Try.prog 73 #[.int .i64 z, .int .i64 0, .int .i64 127] W fun e w' => e = .returned (.bool (inB z 0 127)) ∧ W = w' := fun W => within_any _ _ _ _
  by_cases hz : 0 ≤ z ∧ z ≤ 127
  case neg =>
    rw [rsnF_no hz]
    rw [inB_no hz] at CW
    go_enter Try.func42, Try.ntmps42
    go_wp2_with (go_at_call 73; refine (CW _).mono ?_; rintro e w' ⟨rfl, rfl⟩)
    go_ret2
    exact ⟨rfl, Below.refl _ _⟩
  rw [inB_iff.2 hz] at CW
  obtain ⟨n, rfl⟩ : ∃ n : Nat, z = (n : Int) := ⟨z.toNat, by omega⟩
  have hn : n ≤ 127 := by omega
  have HF := Lib.hid (rsnF_yes hn)
  go_enter Try.func42, Try.ntmps42
  go_wp2_with (go_at_call 73; refine (CW _).mono ?_; rintro e w' ⟨rfl, rfl⟩)
  clear CW
  go_loopw [4, 12] (fun q i wr => ∃ (k : Nat) (xs : List ByteArray), i = .int .i64 k ∧ k ≤ 7 ∧ Hid (rsnW n = xs ++ pickW (n / 2 ^ k) (words7.drop k)) ∧ xs.length ≤ k ∧ OwnR strs 1 wr w.heap.size 9 q xs ∧ Below w.heap.size w wr) (fun q i wr => 7 - (RowKit.intOf i).toNat)
  case atStart => exact ⟨0, [], rfl, Nat.zero_le _, Lib.hid (by simp [rsnW]), Nat.le_refl _, own_empty w _ 1 strs, (Below.refl _ _).alloc (Nat.le_refl _) _⟩
  case round =>
    obtain ⟨k, xs, rfl, hk, HX, hxl, hown, hbr⟩ := hrel
    have hsz := hbr.size
    by_cases hlt : k < 7
    · obtain ⟨x, hx, hix⟩ := words7_index k hlt
      have hbit := bit_at (n := n) (k := k) hn
      have hix := hix wr
      by_cases hb : n / 2 ^ k % 2 = 1
      · have HY := Lib.hid (show rsnW n = (xs ++ [x]) ++ pickW (n / 2 ^ (k + 1)) (words7.drop (k + 1)) by rw [HX.out, pick_yes hx hb]; simp)
        rw [hb] at hbit
        clear hx hb
        go_wp2_with (first | (simp only [hix]) | (at_builtin; refine wpList_append_rec (f := strs) (s := 1) 9 _ _ (fun _ => rfl) strs_one rfl _ _ 96 rfl w.heap.size Try.infoS Try.underlying96 rfl (by decide) _ _ x rfl hown rfl rfl rfl (by omega) (by omega) (by omega) ?_))
        intro v' w3 o3 hb3
        have hb3 := hb3 _ _ hbr (Nat.le_refl _)
        clear hix hbit
        go_wp2_with fail
        go_roundw
        case rel => exact ⟨k + 1, xs ++ [x], by go_num, hlt, HY, by rw [List.length_append, List.length_singleton]; omega, o3, hb3⟩
        case measure => simp [RowKit.intOf]; omega
      · have HY := Lib.hid (show rsnW n = xs ++ pickW (n / 2 ^ (k + 1)) (words7.drop (k + 1)) by rw [HX.out, pick_no hx hb])
        have hb0 : n / 2 ^ k % 2 = 0 := by omega
        rw [hb0] at hbit
        clear hx hb hb0
        go_wp2_with (simp only [hix])
        clear hix hbit
        go_roundw
        case rel => exact ⟨k + 1, xs, by go_num, hlt, HY, by omega, hown, hbr⟩
        case measure => simp [RowKit.intOf]; omega
    · have hkn : k = 7 := by omega
      subst hkn
      have hxs : rsnW n = xs := by rw [HX.out]; simp [words7, pickW]
      have hok := rsnW_ok n
      have C := implWordsText_any _ xs wr w.heap.size (own_slR (f := strs) (s := 1) (fun _ => rfl) (OwnR.own hown)) (hxs ▸ hok.1) (hxs ▸ hok.2)
      rw [← hxs] at C
      have HF2 := Lib.hid HF.out.symm
      rw [show str (if rsnW n = [] then [45] else joinL 44 (bytesOf (rsnW n))) = str (rsnF (n : Int)).1 by rw [HF.out]] at C
      clear hxs hok HX
      go_wp2_with fail
      refine C.mono ?_
      clear C
      rintro e w4 ⟨rfl, hb4⟩
      go_wp2_with fail
      go_ret2
      exact ⟨by rw [show (rsnF (n : Int)).2 = 0 by rw [HF.out]]; rfl, hbr.trans (hb4.mono hbr.size)⟩

theorem words7_cell {W : World} {B : Nat} {ty : TypeId} (hb : Blk W B ty #[.string ⟨#[121, 111, 117, 110, 103]⟩, .string ⟨#[111, 108, 100]⟩, .string ⟨#[122, 111, 110, 101]⟩, .string ⟨#[102, 111, 114, 101, 105, 103, 110]⟩, .string ⟨#[99, 111, 110, 118, 105, 99, 116, 101, 100]⟩, .string ⟨#[108, 97, 110, 103, 117, 97, 103, 101]⟩, .string ⟨#[106, 111, 98]⟩]) {k : Nat} (hk : k < 7) : ∃ x : ByteArray, words7[k]? = some x ∧ W.cell? ⟨B, k, none⟩ = some (.string x) := by
  rcases (by omega : k = 0 ∨ k = 1 ∨ k = 2 ∨ k = 3 ∨ k = 4 ∨ k = 5 ∨ k = 6) with rfl | rfl | rfl | rfl | rfl | rfl | rfl
  · exact ⟨_, rfl, hb.cell 0⟩
  · exact ⟨_, rfl, hb.cell 1⟩
  · exact ⟨_, rfl, hb.cell 2⟩
  · exact ⟨_, rfl, hb.cell 3⟩
  · exact ⟨_, rfl, hb.cell 4⟩
  · exact ⟨_, rfl, hb.cell 5⟩
  · exact ⟨_, rfl, hb.cell 6⟩
set_option maxRecDepth 100000 in
set_option maxHeartbeats 4000000 in
theorem specReasonsText_any (z : Int) (w : World) :
    Calls Try.prog 43 #[.int .i64 z] w fun e w' => e = .returned (.tuple #[.string (str (rsnF z).1), .int .i64 (rsnF z).2]) ∧ Below w.heap.size w w' := by
  have CW : ∀ W, Calls Try.prog 50 #[.int .i64 z, .int .i64 0, .int .i64 127] W fun e w' => e = .returned (.bool (inB z 0 127)) ∧ W = w' := fun W => l01In_any _ _ _ _
  by_cases hz : 0 ≤ z ∧ z ≤ 127
  case neg =>
    rw [rsnF_no hz]
    rw [inB_no hz] at CW
    go_enter Try.func43, Try.ntmps43
    go_wp2_with (go_at_call 50; refine (CW _).mono ?_; rintro e w' ⟨rfl, rfl⟩)
    go_ret2
    exact ⟨rfl, Below.refl _ _⟩
  rw [inB_iff.2 hz] at CW
  obtain ⟨n, rfl⟩ : ∃ n : Nat, z = (n : Int) := ⟨z.toNat, by omega⟩
  have hn : n ≤ 127 := by omega
  have HF := Lib.hid (rsnF_yes hn)
  go_enter Try.func43, Try.ntmps43
  go_wp2_with (go_at_call 50; refine (CW _).mono ?_; rintro e w' ⟨rfl, rfl⟩)
  clear CW
  have bA : Blk ((w.alloc (.cells #[.string ⟨#[121, 111, 117, 110, 103]⟩, .string ⟨#[111, 108, 100]⟩, .string ⟨#[122, 111, 110, 101]⟩, .string ⟨#[102, 111, 114, 101, 105, 103, 110]⟩, .string ⟨#[99, 111, 110, 118, 105, 99, 116, 101, 100]⟩, .string ⟨#[108, 97, 110, 103, 117, 97, 103, 101]⟩, .string ⟨#[106, 111, 98]⟩] 9)).alloc (.cells #[] 9)) w.heap.size _ _ := (Blk.new w _ _).alloc _
  have oE := own_empty (w.alloc (.cells #[.string ⟨#[121, 111, 117, 110, 103]⟩, .string ⟨#[111, 108, 100]⟩, .string ⟨#[122, 111, 110, 101]⟩, .string ⟨#[102, 111, 114, 101, 105, 103, 110]⟩, .string ⟨#[99, 111, 110, 118, 105, 99, 116, 101, 100]⟩, .string ⟨#[108, 97, 110, 103, 117, 97, 103, 101]⟩, .string ⟨#[106, 111, 98]⟩] 9)) 9 1 strs
  have hz1 : (w.alloc (.cells #[.string ⟨#[121, 111, 117, 110, 103]⟩, .string ⟨#[111, 108, 100]⟩, .string ⟨#[122, 111, 110, 101]⟩, .string ⟨#[102, 111, 114, 101, 105, 103, 110]⟩, .string ⟨#[99, 111, 110, 118, 105, 99, 116, 101, 100]⟩, .string ⟨#[108, 97, 110, 103, 117, 97, 103, 101]⟩, .string ⟨#[106, 111, 98]⟩] 9)).heap.size = w.heap.size + 1 := by simp
  rw [hz1] at oE
  have hB0 : Below w.heap.size w ((w.alloc (.cells #[.string ⟨#[121, 111, 117, 110, 103]⟩, .string ⟨#[111, 108, 100]⟩, .string ⟨#[122, 111, 110, 101]⟩, .string ⟨#[102, 111, 114, 101, 105, 103, 110]⟩, .string ⟨#[99, 111, 110, 118, 105, 99, 116, 101, 100]⟩, .string ⟨#[108, 97, 110, 103, 117, 97, 103, 101]⟩, .string ⟨#[106, 111, 98]⟩] 9)).alloc (.cells #[] 9)) := ((Below.refl _ _).alloc (Nat.le_refl _) _).alloc (by simp) _
  have hz2 : ((w.alloc (.cells #[.string ⟨#[121, 111, 117, 110, 103]⟩, .string ⟨#[111, 108, 100]⟩, .string ⟨#[122, 111, 110, 101]⟩, .string ⟨#[102, 111, 114, 101, 105, 103, 110]⟩, .string ⟨#[99, 111, 110, 118, 105, 99, 116, 101, 100]⟩, .string ⟨#[108, 97, 110, 103, 117, 97, 103, 101]⟩, .string ⟨#[106, 111, 98]⟩] 9)).alloc (.cells #[] 9)).heap.size = w.heap.size + 1 + 1 := by simp
  clear hz1
  generalize ((w.alloc (.cells #[.string ⟨#[121, 111, 117, 110, 103]⟩, .string ⟨#[111, 108, 100]⟩, .string ⟨#[122, 111, 110, 101]⟩, .string ⟨#[102, 111, 114, 101, 105, 103, 110]⟩, .string ⟨#[99, 111, 110, 118, 105, 99, 116, 101, 100]⟩, .string ⟨#[108, 97, 110, 103, 117, 97, 103, 101]⟩, .string ⟨#[106, 111, 98]⟩] 9)).alloc (.cells #[] 9)) = w1 at *
  go_loopw [0, 5, 6] (fun r q i wr => ∃ (k : Nat) (xs : List ByteArray), i = .int .i64 k ∧ r = .int .i64 ((n / 2 ^ k : Nat) : Int) ∧ k ≤ 7 ∧ Hid (rsnW n = xs ++ pickW (n / 2 ^ k) (words7.drop k)) ∧ xs.length ≤ k ∧ OwnR strs 1 wr (w.heap.size + 1) 9 q xs ∧ Blk wr w.heap.size 9 #[.string ⟨#[121, 111, 117, 110, 103]⟩, .string ⟨#[111, 108, 100]⟩, .string ⟨#[122, 111, 110, 101]⟩, .string ⟨#[102, 111, 114, 101, 105, 103, 110]⟩, .string ⟨#[99, 111, 110, 118, 105, 99, 116, 101, 100]⟩, .string ⟨#[108, 97, 110, 103, 117, 97, 103, 101]⟩, .string ⟨#[106, 111, 98]⟩] ∧ Below w.heap.size w wr) (fun r q i wr => 7 - (RowKit.intOf i).toNat)
  case atStart => exact ⟨0, [], rfl, by simp, Nat.zero_le _, Lib.hid (by simp [rsnW]), Nat.le_refl _, oE, bA, hB0⟩
  case round =>
    obtain ⟨k, xs, rfl, rfl, hk, HX, hxl, hown, bA, hbr⟩ := hrel
    have hsz := hbr.size
    have lA := bA.lt
    by_cases hlt : k < 7
    · obtain ⟨x, hx, cx⟩ := words7_cell bA hlt
      have hdiv := Lib.hid (show n / 2 ^ k / 2 = n / 2 ^ (k + 1) by rw [Nat.div_div_eq_div_mul, ← Nat.pow_succ])
      have hm : n / 2 ^ k ≤ 127 := Nat.le_trans (Nat.div_le_self _ _) hn
      by_cases hb : n / 2 ^ k % 2 = 1
      · have HY := Lib.hid (show rsnW n = (xs ++ [x]) ++ pickW (n / 2 ^ (k + 1)) (words7.drop (k + 1)) by rw [HX.out, pick_yes hx hb]; simp)
        clear hx
        generalize n / 2 ^ k = m at *
        have t1 : (m : Int).tmod 2 = 1 := by rw [Int.tmod_eq_emod_of_nonneg (by omega)]; omega
        have t2 : (m : Int).tdiv 2 = ((m / 2 : Nat) : Int) := by rw [Int.tdiv_eq_ediv_of_nonneg (by omega)]; omega
        clear hb
        go_wp2_with (at_builtin; refine wpList_append_rec (f := strs) (s := 1) 9 _ _ (fun _ => rfl) strs_one rfl _ _ 96 rfl (w.heap.size + 1) Try.infoS Try.underlying96 rfl (by decide) _ _ x rfl hown rfl rfl rfl (by omega) (by omega) (by omega) ?_)
        intro v' w3 o3 hb3
        have hB3 := hb3 (w.heap.size + 1) wr (Below.refl _ _) (Nat.le_refl _)
        have bA3 := bA.below hB3 (by omega)
        have hbr3 := hb3 _ _ hbr (by omega)
        go_wp2_with fail
        go_roundw
        case rel => exact ⟨k + 1, xs ++ [x], by go_num, by rw [← hdiv.out]; exact congrArg (Value.int .i64) (by omega), hlt, HY, by rw [List.length_append, List.length_singleton]; omega, o3, bA3, hbr3⟩
        case measure => simp [RowKit.intOf]; omega
      · have HY := Lib.hid (show rsnW n = xs ++ pickW (n / 2 ^ (k + 1)) (words7.drop (k + 1)) by rw [HX.out, pick_no hx hb])
        clear hx cx
        generalize n / 2 ^ k = m at *
        have t1 : (m : Int).tmod 2 = 0 := by rw [Int.tmod_eq_emod_of_nonneg (by omega)]; omega
        have t2 : (m : Int).tdiv 2 = ((m / 2 : Nat) : Int) := by rw [Int.tdiv_eq_ediv_of_nonneg (by omega)]; omega
        clear hb
        go_wp2_with fail
        go_roundw
        case rel => exact ⟨k + 1, xs, by go_num, by rw [← hdiv.out]; exact congrArg (Value.int .i64) (by omega), hlt, HY, by omega, hown, bA, hbr⟩
        case measure => simp [RowKit.intOf]; omega
    · have hkn : k = 7 := by omega
      subst hkn
      have hxs : rsnW n = xs := by rw [HX.out]; simp [words7, pickW]
      have hok := rsnW_ok n
      have hsl := own_slR (f := strs) (s := 1) (fun _ => rfl) (OwnR.own hown)
      have C := l01Words_any _ xs wr (w.heap.size + 1) hsl (fun x hx => (hok.1 x (hxs ▸ hx)).2) (hxs ▸ hok.2)
      obtain ⟨A, cq, eq1, _, _⟩ := hsl.form
      subst eq1
      by_cases h0 : xs = []
      · have E := Lib.hid (show rsnF (n : Int) = ([45], 0) by rw [HF.out, hxs, if_pos h0])
        subst h0
        clear C hxs hok HX
        go_wp2_with fail
        go_ret2
        exact ⟨by rw [E.out]; rfl, hbr⟩
      · have hd2 : ((xs.length : Int) == 0) = false := by
          rw [beq_eq_false_iff_ne]
          intro e
          exact h0 (List.eq_nil_of_length_eq_zero (by omega))
        have E := Lib.hid (show rsnF (n : Int) = (joinL 44 (bytesOf xs), 0) by rw [HF.out, hxs, if_neg h0])
        clear hxs hok HX h0
        go_wp2_with fail
        refine C.mono ?_
        clear C
        rintro e w4 ⟨rfl, hb4⟩
        go_wp2_with fail
        go_ret2
        exact ⟨by rw [E.out]; rfl, hbr.trans (hb4.mono hbr.size)⟩
end Go.Proofs.Ytkhojhgcopnenaa

