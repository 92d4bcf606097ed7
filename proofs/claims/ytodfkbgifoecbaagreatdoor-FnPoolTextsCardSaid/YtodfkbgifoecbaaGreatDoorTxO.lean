/- Texts split: the reference's function. What it asks: a text of bounded size. -/
import Derived.Test.YtodfkbgifoecbaaGreatDoorTxN
namespace Go.Proofs.YtodfkbgifoecbaaGreatDoor
open Go.RowKit
open Go.Lib hiding intOf
attribute [local go_sem ↓] Go.wp_at_zero Go.wp_at_succ

/-- Where the splitting stands: at k, the last piece begun at fr, the pieces xs before. -/
def SplitAt (c : UInt8) (l : List UInt8) (k fr : Nat) (xs : List ByteArray) : Prop :=
  (k ≤ l.length → xs.map (·.data.toList) ++ splitL c (l.drop fr) = splitL c l ∧ c ∉ (l.drop fr).take (k - fr)) ∧ (l.length < k → xs.map (·.data.toList) = splitL c l)
theorem SplitAt.start (c : UInt8) (l : List UInt8) : SplitAt c l 0 0 [] := ⟨fun _ => ⟨by simp, by simp⟩, fun h => by omega⟩
theorem extract_take (s : ByteArray) (a b : Nat) (hb : b ≤ s.size) : (s.extract a b).data.toList = (s.data.toList.drop a).take (b - a) := by
  simp [ByteArray.data_extract, Array.toList_extract, List.extract]
theorem SplitAt.skip {c : UInt8} {s : ByteArray} {k fr : Nat} {xs : List ByteArray} {b : UInt8} (h : SplitAt c s.data.toList k fr xs) (hf : fr ≤ k) (hb : s.data.toList[k]? = some b) (hne : b ≠ c) : SplitAt c s.data.toList (k + 1) fr xs := by
  have hk : k < s.data.toList.length := (List.getElem?_eq_some_iff.1 hb).1
  obtain ⟨h1, h2⟩ := h.1 (by omega)
  refine ⟨fun _ => ⟨h1, ?_⟩, fun h' => by omega⟩
  have e : k + 1 - fr = (k - fr) + 1 := by omega
  have hx : (s.data.toList.drop fr)[k - fr]? = some b := by rw [List.getElem?_drop]; rw [show fr + (k - fr) = k by omega]; exact hb
  rw [e, take_snoc hx, List.mem_append]
  rintro (h | h)
  · exact h2 h
  · rw [List.mem_singleton] at h; exact hne h.symm
theorem SplitAt.hit {c : UInt8} {s : ByteArray} {k fr : Nat} {xs : List ByteArray} (h : SplitAt c s.data.toList k fr xs) (hf : fr ≤ k) (hb : s.data.toList[k]? = some c) : SplitAt c s.data.toList (k + 1) (k + 1) (xs ++ [s.extract fr k]) := by
  have hk : k < s.data.toList.length := (List.getElem?_eq_some_iff.1 hb).1
  obtain ⟨h1, h2⟩ := h.1 (by omega)
  refine ⟨fun _ => ⟨?_, by simp⟩, fun h' => by omega⟩
  have e : s.data.toList.drop fr = (s.data.toList.drop fr).take (k - fr) ++ c :: s.data.toList.drop (k + 1) := by
    have hx : (s.data.toList.drop fr)[k - fr]? = some c := by rw [List.getElem?_drop]; rw [show fr + (k - fr) = k by omega]; exact hb
    have h3 := drop_cons hx
    rw [List.drop_drop, List.drop_drop, show fr + (k - fr + 1) = k + 1 by omega] at h3
    have h4 := (List.take_append_drop (k - fr) (s.data.toList.drop fr)).symm
    rw [List.drop_drop, h3] at h4
    exact h4
  rw [e, splitL_some _ h2] at h1
  rw [List.map_append, List.map_cons, List.map_nil, extract_take _ _ _ (by rw [size_data] at hk; omega), ← h1]
  simp
theorem SplitAt.last {c : UInt8} {s : ByteArray} {fr : Nat} {xs : List ByteArray} (h : SplitAt c s.data.toList s.size fr xs) (hf : fr ≤ s.size) : (xs ++ [s.extract fr s.size]).map (·.data.toList) = splitL c s.data.toList := by
  obtain ⟨h1, h2⟩ := h.1 (by rw [size_data]; exact Nat.le_refl _)
  rw [List.take_of_length_le (by rw [List.length_drop, size_data]; exact Nat.le_refl _)] at h2
  rw [splitL_none h2] at h1
  rw [List.map_append, List.map_cons, List.map_nil, extract_to_end, h1]
set_option maxRecDepth 100000 in
set_option maxHeartbeats 4000000 in
theorem l01Split_any (s : ByteArray) (c : UInt8) (w : World) (hs : s.size ≤ 1048576) :
    Calls Tryz.prog 25 #[.string s, .int .u8 (c.toNat : Int)] w fun e w' => ∃ (v : Value) (xs : List ByteArray), e = .returned v ∧ OwnR strs 1 w' w.heap.size 9 v xs ∧ Hid (xs.map (·.data.toList) = splitL c s.data.toList) ∧ Below w.heap.size w w' := by
  go_enter Tryz.func25, Tryz.ntmps25
  go_wp2_with fail
  go_loopw [5, 6, 7] (fun q f i wr => ∃ (k fr : Nat) (xs : List ByteArray), f = .int .i64 fr ∧ i = .int .i64 k ∧ fr ≤ k ∧ k ≤ s.size + 1 ∧ xs.length ≤ k ∧ Hid (SplitAt c s.data.toList k fr xs) ∧ OwnR strs 1 wr w.heap.size 9 q xs ∧ Below w.heap.size w wr) (fun q f i wr => s.size + 1 - (RowKit.intOf i).toNat)
  case atStart => exact ⟨0, 0, [], rfl, rfl, Nat.le_refl _, Nat.zero_le _, Nat.le_refl _, Lib.hid (SplitAt.start _ _), own_empty w _ 1 strs, (Below.refl _ _).alloc (Nat.le_refl _) _⟩
  case round =>
    obtain ⟨k, fr, xs, rfl, rfl, hf, hk, hxl, HS, hown, hbr⟩ := hrel
    have hsz := hbr.size
    by_cases hend : k = s.size + 1
    · have hd : decide ((k : Int) ≤ (s.size : Int)) = false := decide_eq_false (by omega)
      have HX := Lib.hid (HS.out.2 (by rw [size_data]; omega))
      go_wp2_with fail
      go_ret
      exact ⟨_, xs, rfl, hown, HX, hbr⟩
    have hd : decide ((k : Int) ≤ (s.size : Int)) = true := decide_eq_true (by omega)
    have p1 : (fr : Int) ≤ (k : Int) := by omega
    have p2 : (k : Int) ≤ (s.size : Int) := by omega
    by_cases hlast : k = s.size
    · subst hlast
      have HX := Lib.hid (show SplitAt c s.data.toList (s.size + 1) (s.size + 1) (xs ++ [s.extract fr s.size]) from ⟨fun h => by rw [size_data] at h; omega, fun _ => HS.out.last (by omega)⟩)
      go_wp2_with (at_builtin; refine wpList_append_rec (f := strs) (s := 1) 9 _ _ (fun _ => rfl) strs_one rfl _ _ 43 rfl w.heap.size Tryz.infoS Tryz.underlying43 rfl (by decide) _ _ (s.extract fr s.size) rfl hown rfl rfl rfl (by omega) (by omega) (by omega) ?_)
      intro v' w3 o3 hb3
      have hb3 := hb3 _ _ hbr (Nat.le_refl _)
      go_wp2_with fail
      go_roundw
      case rel => exact ⟨s.size + 1, s.size + 1, xs ++ [s.extract fr s.size], by go_num, by go_num, Nat.le_refl _, Nat.le_refl _, by rw [List.length_append, List.length_singleton]; omega, HX, o3, hb3⟩
      case measure => simp [RowKit.intOf] <;> omega
    obtain ⟨b, hb⟩ := some_at (l := s.data.toList) (k := k) (by rw [size_data]; omega)
    have hd2 : ((k : Int) == (s.size : Int)) = false := by rw [beq_eq_false_iff_ne]; omega
    have hks : k < s.size := by omega
    have hx0 : s[k]'hks = b := by
      have h2 := (List.getElem?_eq_some_iff.1 hb).2
      rw [← h2]
      simp [Array.getElem_toList]
      try rfl
    have hx := byte_at hb Tryz.prog wr 9 Tryz.underlying9
    by_cases hbc : b = c
    · have HX := Lib.hid (show SplitAt c s.data.toList (k + 1) (k + 1) (xs ++ [s.extract fr k]) from HS.out.hit hf (hbc ▸ hb))
      have d3 : (((s[k]'hks).toNat : Int) == (c.toNat : Int)) = true := by rw [hx0, hbc]; exact beq_self_eq_true _
      have d4 : ((b.toNat : Int) == (c.toNat : Int)) = true := by rw [hbc]; exact beq_self_eq_true _
      clear hb hbc hx0
      go_wp2_with (first | (simp only [hx]) | (at_builtin; refine wpList_append_rec (f := strs) (s := 1) 9 _ _ (fun _ => rfl) strs_one rfl _ _ 43 rfl w.heap.size Tryz.infoS Tryz.underlying43 rfl (by decide) _ _ (s.extract fr k) rfl hown rfl rfl rfl (by omega) (by omega) (by omega) ?_))
      intro v' w3 o3 hb3
      have hb3 := hb3 _ _ hbr (Nat.le_refl _)
      go_wp2_with fail
      go_roundw
      case rel => exact ⟨k + 1, k + 1, xs ++ [s.extract fr k], by go_num, by go_num, Nat.le_refl _, by omega, by rw [List.length_append, List.length_singleton]; omega, HX, o3, hb3⟩
      case measure => simp [RowKit.intOf]; omega
    · have HX := Lib.hid (show SplitAt c s.data.toList (k + 1) fr xs from HS.out.skip hf hb hbc)
      have hbn : b.toNat ≠ c.toNat := fun e => hbc (UInt8.toNat_inj.1 e)
      have d3 : (((s[k]'hks).toNat : Int) == (c.toNat : Int)) = false := by rw [hx0, beq_eq_false_iff_ne]; omega
      have d4 : ((b.toNat : Int) == (c.toNat : Int)) = false := by rw [beq_eq_false_iff_ne]; omega
      clear hb hbc hx0 hbn
      go_wp2_with (simp only [hx])
      go_roundw
      case rel => exact ⟨k + 1, fr, xs, rfl, by go_num, by omega, by omega, by omega, HX, hown, hbr⟩
      case measure => simp [RowKit.intOf]; omega
end Go.Proofs.YtodfkbgifoecbaaGreatDoor
