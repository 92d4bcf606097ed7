/- Lists and sheets as texts: the reference's functions. No condition but the sizes that the law itself asks. -/
import Derived.Test.YtodfkbgifoecbaaGreatDoorTxG
namespace Go.Proofs.YtodfkbgifoecbaaGreatDoor
open Go.RowKit
open Go.Lib hiding intOf
attribute [local go_sem ↓] Go.wp_at_zero Go.wp_at_succ

theorem joinL_snoc (c : UInt8) (p : List UInt8) : ∀ ps : List (List UInt8), ps ≠ [] → joinL c (ps ++ [p]) = joinL c ps ++ c :: p
  | [], h => absurd rfl h
  | [q], _ => rfl
  | q :: r :: t, _ => by
    have ih := joinL_snoc c p (r :: t) (by simp)
    rw [List.cons_append, joinL_cons q (by simp), ih, joinL_cons q (by simp)]
    simp
def num10 (z : Int) : Prop := -1000000000000 ≤ z ∧ z ≤ 1000000000000
theorem itoa_len10 {z : Int} (h : num10 z) : (itoa z).length ≤ 21 := itoa_len (by have := h.1; omega) (by have := h.2; omega)
theorem l01Number_any (z : Int) (w : World) (h : num10 z) :
    Calls Tryz.prog 70 #[.int .i64 z] w fun e w' => e = .returned (.string (str (itoa z))) ∧ Below w.heap.size w w' := by
  obtain ⟨h0, h1⟩ := h
  by_cases hz : z < 0
  · obtain ⟨n, rfl⟩ : ∃ n : Nat, z = -(n : Int) := ⟨z.natAbs, by omega⟩
    have hE := Lib.hid (itoa_neg n (by omega))
    have hs : (str (decDigits n)).size ≤ 20 := by rw [str_size, decDigits_length]; exact nDigits_le 19 _ (by omega)
    have hp : 0 < n := by omega
    have C := l01Dec_nat n
    have HA := Lib.hid (show (⟨#[45]⟩ : ByteArray) ++ str (decDigits n) = str (45 :: decDigits n) by rw [show (⟨#[45]⟩ : ByteArray) = str [45] from rfl, str_append]; rfl)
    generalize str (decDigits n) = sn at *
    have q1 : ¬ (9223372036854775807 < 1 + sn.size) := by omega
    go_enter Tryz.func70, Tryz.ntmps70
    go_wp2_with (go_at_call 40; refine (C _ (by omega)).mono ?_; rintro e w' ⟨rfl, hb⟩)
    go_ret
    exact ⟨by rw [hE.out, ← HA.out]; rfl, hb⟩
  · obtain ⟨n, rfl⟩ : ∃ n : Nat, z = (n : Int) := ⟨z.toNat, by omega⟩
    have hE := Lib.hid (itoa_nat n)
    go_enter Tryz.func70, Tryz.ntmps70
    go_wp2_with (go_at_call 40; refine (l01Dec_nat n _ (by omega)).mono ?_; rintro e w' ⟨rfl, hb⟩)
    go_ret
    exact ⟨by rw [hE.out]; rfl, hb⟩

set_option maxRecDepth 100000 in
set_option maxHeartbeats 4000000 in
theorem l01Join_any (v : Value) (zs : List Int) (w : World) (lo : Nat) (h : SlI w lo w.heap.size v zs) (hl : zs.length ≤ 1048576) (hz : ∀ z ∈ zs, num10 z) :
    Calls Tryz.prog 54 #[v, .string ⟨#[44]⟩] w fun e w' => e = .returned (.string (str (joinL 44 (zs.map itoa)))) ∧ Below w.heap.size w w' := by
  obtain ⟨A, c, rfl, hc1, hc2⟩ := h.form
  have HZ := Lib.hid hz
  clear hz
  go_enter Tryz.func54, Tryz.ntmps54
  go_wp2_with fail
  go_loopw [5, 6] (fun q i wr => ∃ (k : Nat) (s : ByteArray), i = .int .i64 k ∧ q = .string s ∧ k ≤ zs.length ∧ Hid (s = str (joinL 44 ((zs.take k).map itoa))) ∧ s.size ≤ 22 * k ∧ Below w.heap.size w wr) (fun q i wr => zs.length - (RowKit.intOf i).toNat)
  case atStart => exact ⟨0, ⟨#[]⟩, rfl, rfl, Nat.zero_le _, Lib.hid rfl, Nat.le_refl _, Below.refl _ _⟩
  case round =>
    obtain ⟨k, s, rfl, rfl, hk, HS, hsz, hbr⟩ := hrel
    by_cases hlt : k < zs.length
    · obtain ⟨z, hz⟩ := some_at hlt
      obtain ⟨b, off, rfl, _, hbb, c0⟩ := SlR.int_at ((h.below hbr (Nat.le_refl _)).more (Nat.le_refl _) hbr.size) hz
      have hzb := HZ.out z (List.mem_of_getElem? hz)
      have hs2 : (str (itoa z)).size ≤ 21 := by rw [str_size]; exact itoa_len10 hzb
      have C := l01Number_any z wr hzb
      by_cases hk0 : k = 0
      · subst hk0
        simp only [Nat.add_zero] at c0
        have HK := Lib.hid (show s ++ str (itoa z) = str (joinL 44 ((zs.take (0 + 1)).map itoa)) by rw [HS.out, str_append, take_snoc hz]; rfl)
        have hse : (s ++ str (itoa z)).size ≤ 22 * (0 + 1) := by rw [ByteArray.size_append]; omega
        clear hz
        generalize str (itoa z) = sz at *
        have q1 : ¬ (9223372036854775807 < s.size + sz.size) := by omega
        go_wp2_with fail
        refine C.mono ?_
        rintro e w2 ⟨rfl, hb2⟩
        go_wp2_with fail
        go_roundw
        case rel => exact ⟨0 + 1, s ++ sz, by go_num, rfl, hlt, HK, hse, hbr.trans (hb2.mono hbr.size)⟩
        case measure => simp [RowKit.intOf]; omega
      · have hne : (zs.take k).map itoa ≠ [] := by
          intro e
          have := congrArg List.length e
          rw [List.length_map, List.length_take, List.length_nil] at this
          omega
        have HK := Lib.hid (show s ++ (⟨#[44]⟩ : ByteArray) ++ str (itoa z) = str (joinL 44 ((zs.take (k + 1)).map itoa)) by
          rw [HS.out, show (⟨#[44]⟩ : ByteArray) = str [44] from rfl, str_append, str_append, take_snoc hz, List.map_append, List.map_cons, List.map_nil, joinL_snoc _ _ _ hne]; simp)
        have e44 : (⟨#[44]⟩ : ByteArray).size = 1 := rfl
        have hse : (s ++ (⟨#[44]⟩ : ByteArray) ++ str (itoa z)).size ≤ 22 * (k + 1) := by rw [ByteArray.size_append, ByteArray.size_append, e44]; omega
        have hkp : (0 : Int) < (k : Int) := by omega
        clear hz hne e44
        generalize str (itoa z) = sz at *
        have q1 : ¬ (9223372036854775807 < s.size + 1) := by omega
        have q2 : ¬ (9223372036854775807 < s.size + 1 + sz.size) := by omega
        go_wp2_with fail
        refine C.mono ?_
        rintro e w2 ⟨rfl, hb2⟩
        go_wp2_with fail
        go_roundw
        case rel => exact ⟨k + 1, s ++ (⟨#[44]⟩ : ByteArray) ++ sz, by go_num, rfl, hlt, HK, hse, hbr.trans (hb2.mono hbr.size)⟩
        case measure => simp [RowKit.intOf]; omega
    · have hkn : k = zs.length := by omega
      subst hkn
      have HK := HS.out
      rw [List.take_length] at HK
      have HK := Lib.hid HK
      go_wp2_with fail
      go_ret
      exact ⟨by rw [HK.out]; rfl, hbr⟩

set_option maxHeartbeats 1000000 in
theorem l01Text_any (v : Value) (zs : List Int) (w : World) (lo : Nat) (h : SlI w lo w.heap.size v zs) (hl : zs.length ≤ 1048576) (hz : ∀ z ∈ zs, num10 z) :
    Calls Tryz.prog 39 #[v] w fun e w' => e = .returned (.string (str (numT zs))) ∧ Below w.heap.size w w' := by
  obtain ⟨A, c, rfl, hc1, hc2⟩ := h.form
  by_cases h0 : zs.length = 0
  · have e : zs = [] := List.eq_nil_of_length_eq_zero h0
    subst e
    go_enter Tryz.func39, Tryz.ntmps39
    go_wp2_with fail
    go_ret
    exact ⟨rfl, Below.refl _ _⟩
  · have hne : zs ≠ [] := fun e => h0 (by rw [e]; rfl)
    have hd : ((zs.length : Int) == 0) = false := by simp; omega
    have HN : Hid (numT zs = joinL 44 (zs.map itoa)) := Lib.hid (by rw [numT, if_neg hne])
    have C := l01Join_any _ zs w lo h hl hz
    clear h0 hne hz
    go_enter Tryz.func39, Tryz.ntmps39
    go_wp2_with fail
    refine C.mono ?_
    rintro e w2 ⟨rfl, hb2⟩
    go_wp2_with fail
    go_ret
    exact ⟨by rw [HN.out]; rfl, hb2⟩
end Go.Proofs.YtodfkbgifoecbaaGreatDoor
