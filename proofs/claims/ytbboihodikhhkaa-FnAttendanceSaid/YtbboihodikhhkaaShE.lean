/- DaysPresent: the days on which a person was present, the program's and the reference's. No condition but the sizes that the law itself asks. -/
import Derived.Test.YtbboihodikhhkaaShD
import Derived.Test.YtbboihodikhhkaaReg
namespace Go.Proofs.Ytbboihodikhhkaa
open Go.RowKit

def daysOf (z : List (Int × List Int)) (n : Int) : List Int := (z.filter fun x => hasB n x.2).map (·.1)
theorem daysOf_yes {xs : List H2} {n : Int} {k : Nat} {x : H2} (h : xs[k]? = some x) (hd : hasB n x.pres = true) : daysOf ((xs.map H2.ct).take (k + 1)) n = daysOf ((xs.map H2.ct).take k) n ++ [x.day] := by
  rw [take_snoc (l := xs.map H2.ct) (x := x.ct) (by rw [List.getElem?_map, h]; rfl)]; simp [daysOf, H2.ct, hd]
theorem daysOf_no {xs : List H2} {n : Int} {k : Nat} {x : H2} (h : xs[k]? = some x) (hd : hasB n x.pres = false) : daysOf ((xs.map H2.ct).take (k + 1)) n = daysOf ((xs.map H2.ct).take k) n := by
  rw [take_snoc (l := xs.map H2.ct) (x := x.ct) (by rw [List.getElem?_map, h]; rfl)]; simp [daysOf, H2.ct, hd]
theorem daysOf_len (z : List (Int × List Int)) (n : Int) : (daysOf z n).length ≤ z.length := by
  simp only [daysOf, List.length_map]; exact List.length_filter_le _ _
def daysF (z : List (Int × List Int)) (n : Int) : List Int × Int := if sheetsOk z = true then (daysOf z n, 0) else ([], 1)
theorem daysF_len (z : List (Int × List Int)) (n : Int) : (daysF z n).1.length ≤ 15 := by
  unfold daysF; split
  · next h => exact Nat.le_trans (daysOf_len z n) (sheetsOk_len h)
  · exact Nat.zero_le _

set_option maxRecDepth 100000 in
set_option maxHeartbeats 2000000 in
theorem l11Days_any (v : Value) (z : List (Int × List Int)) (n : Int) (w : World) (lo : Nat) (h : RdH w lo w.heap.size v z) (hn : z.length ≤ 2097152) :
    Calls Try.prog 37 #[v, .int .i64 n] w fun e w' => ∃ v', e = .returned v' ∧ OwnR i64s 1 w' w.heap.size 2 v' (daysOf z n) ∧ Below w.heap.size w w' := by
  obtain ⟨xs, h, rfl⟩ := h
  rw [List.length_map] at hn
  obtain ⟨A, c, rfl, hc1, hc2⟩ := h.form
  go_enter Try.func37, Try.ntmps37
  go_wp2_with fail
  go_loopw [5, 6] (fun q i wr => ∃ (k : Nat), i = .int .i64 k ∧ k ≤ xs.length ∧ OwnR i64s 1 wr w.heap.size 2 q (daysOf ((xs.map H2.ct).take k) n) ∧ Below w.heap.size w wr) (fun q i wr => xs.length - (intOf i).toNat)
  case atStart => exact ⟨0, rfl, Nat.zero_le _, own_empty w _ 1 i64s, (Below.refl _ _).alloc (Nat.le_refl _) _⟩
  case round =>
    obtain ⟨k, rfl, hk, hown, hbr⟩ := hrel
    by_cases hlt : k < xs.length
    · obtain ⟨x, hx⟩ := some_at hlt
      obtain ⟨b, off, rfl, _, hb, c0, c1, hin⟩ := ((h.below hbr (Nat.le_refl _)).more (Nat.le_refl _) hbr.size).at_ hx
      have Hx := Lib.hid hx
      clear hx
      have hl := daysOf_len ((xs.map H2.ct).take k) n
      rw [List.length_take, List.length_map] at hl
      have hsz := hbr.size
      cases hd : hasB n x.pres
      · go_wp2_with (go_at_call 42; refine (l01Has_as hd hin).mono ?_; rintro e w' ⟨rfl, rfl⟩)
        go_roundw
        case rel => exact ⟨k + 1, by go_num, hlt, by rw [daysOf_no Hx.out hd]; exact hown, hbr⟩
        case measure => simp [intOf]; omega
      · go_wp2_with (first | (go_at_call 42; refine (l01Has_as hd hin).mono ?_; rintro e w' ⟨rfl, rfl⟩) | (at_builtin; refine wpList_append_rec (f := i64s) (s := 1) 2 _ _ (fun _ => rfl) i64s_one rfl _ _ 39 rfl w.heap.size Try.infoI Try.underlying39 rfl (by decide) _ _ x.day rfl hown rfl rfl rfl (by omega) (by omega) hsz ?_))
        intro v' w' hown' hbel
        go_wp2_with fail
        go_roundw
        case rel => exact ⟨k + 1, by go_num, hlt, by rw [daysOf_yes Hx.out hd]; exact hown', hbel _ _ hbr (Nat.le_refl _)⟩
        case measure => simp [intOf]; omega
    · have hkn : k = xs.length := by omega
      subst hkn
      rw [List.take_of_length_le (by simp)] at hown
      go_wp2_with fail
      go_ret
      exact ⟨_, rfl, hown, hbr⟩

set_option maxRecDepth 100000 in
set_option maxHeartbeats 2000000 in
theorem specDaysPresent_any (v : Value) (z : List (Int × List Int)) (n : Int) (w : World) (lo : Nat) (h : RdH w lo w.heap.size v z) :
    Calls Try.prog 21 #[v, .int .i64 n] w fun e w' => ∃ v', e = .returned (.tuple #[v', .int .i64 (daysF z n).2]) ∧ OwnR i64s 1 w' w.heap.size 2 v' (daysF z n).1 ∧ Below w.heap.size w w' := by
  go_enter Try.func21, Try.ntmps21
  go_wp2_with fail
  refine (specAreSheets_z v z w lo h).mono ?_
  rintro e w1 ⟨rfl, hb1⟩
  cases h1 : sheetsOk z
  · go_wp2_with fail
    go_ret2
    have hF : daysF z n = ([], 1) := by simp [daysF, h1]
    exact ⟨.slice none 0 0, by rw [hF]; rfl, by rw [hF]; exact own_nil _ _ _ _ _, hb1⟩
  · have hF : daysF z n = (daysOf z n, 0) := by simp [daysF, h1]
    have HF := Lib.hid hF
    have hlen := sheetsOk_len h1
    clear hF
    go_wp2_with fail
    refine (l11Days_any v z n _ lo ((h.below hb1 (Nat.le_refl _)).more (Nat.le_refl _) hb1.size) (by omega)).mono ?_
    rintro e w2 ⟨v', rfl, hown, hb2⟩
    go_wp2_with fail
    go_ret2
    exact ⟨v', by rw [HF.out]; rfl, by rw [HF.out]; exact hown.more hb1.size, hb1.trans (hb2.mono hb1.size)⟩

set_option maxRecDepth 100000 in
set_option maxHeartbeats 2000000 in
theorem implDaysPresent_any (v : Value) (z : List (Int × List Int)) (n : Int) (w : World) (lo : Nat) (h : RdH w lo w.heap.size v z) :
    Calls Try.prog 20 #[v, .int .i64 n] w fun e w' => ∃ v', e = .returned (.tuple #[v', .int .i64 (daysF z n).2]) ∧ OwnR i64s 1 w' w.heap.size 2 v' (daysF z n).1 ∧ Below w.heap.size w w' := by
  have hz := h
  obtain ⟨xs, h, rfl⟩ := h
  obtain ⟨A, c, rfl, hc1, hc2⟩ := h.form
  go_enter Try.func20, Try.ntmps20
  go_wp2_with fail
  refine (implAreSheets_z _ _ w lo hz).mono ?_
  clear hz
  rintro e w1 ⟨rfl, hb1⟩
  cases h1 : sheetsOk (xs.map H2.ct)
  · have hF : daysF (xs.map H2.ct) n = ([], 1) := by simp [daysF, h1]
    go_wp2_with fail
    go_ret2
    exact ⟨.slice none 0 0, by rw [hF]; rfl, by rw [hF]; exact own_nil _ _ _ _ _, hb1⟩
  have hF : daysF (xs.map H2.ct) n = (daysOf (xs.map H2.ct) n, 0) := by simp [daysF, h1]
  have HF := Lib.hid hF
  have hlen := sheetsOk_len h1
  rw [List.length_map] at hlen
  clear hF
  have h' : SlH w1 lo w1.heap.size (.slice A xs.length c) xs := (h.below hb1 (Nat.le_refl _)).more (Nat.le_refl _) hb1.size
  go_wp2_with fail
  go_loopw [6, 15] (fun q i wr => ∃ (k : Nat), i = .int .i64 k ∧ k ≤ xs.length ∧ OwnR i64s 1 wr w1.heap.size 2 q (daysOf ((xs.map H2.ct).take k) n) ∧ Below w1.heap.size w1 wr) (fun q i wr => xs.length - (intOf i).toNat)
  case atStart => exact ⟨0, rfl, Nat.zero_le _, own_empty w1 _ 1 i64s, (Below.refl _ _).alloc (Nat.le_refl _) _⟩
  case round =>
    obtain ⟨k, rfl, hk, hown, hbr⟩ := hrel
    by_cases hlt : k < xs.length
    · obtain ⟨x, hx⟩ := some_at hlt
      obtain ⟨b, off, rfl, _, hb, c0, c1, hin⟩ := ((h'.below hbr (Nat.le_refl _)).more (Nat.le_refl _) hbr.size).at_ hx
      have Hx := Lib.hid hx
      clear hx
      have hl := daysOf_len ((xs.map H2.ct).take k) n
      rw [List.length_take, List.length_map] at hl
      have hsz := hbr.size
      have hin1 := hin.below (w' := wr.alloc (.cells #[.int .i64 x.day, .slice x.A x.pres.length x.c] 56)) ((Below.refl _ _).alloc (Nat.le_refl _) _) (Nat.le_refl _)
      cases hd : hasB n x.pres
      · go_wp2_with (go_at_call 55; refine (has_as hd hin1).mono ?_; rintro e w' ⟨rfl, rfl⟩)
        go_roundw
        case rel => exact ⟨k + 1, by go_num, hlt, by rw [daysOf_no Hx.out hd]; exact hown.alloc _, hbr.alloc hsz _⟩
        case measure => simp [intOf]; omega
      · go_wp2_with (first | (go_at_call 55; refine (has_as hd hin1).mono ?_; rintro e w' ⟨rfl, rfl⟩) | (at_builtin; refine wpList_append_rec (f := i64s) (s := 1) 2 _ _ (fun _ => rfl) i64s_one rfl _ _ 39 rfl w1.heap.size Try.infoI Try.underlying39 rfl (by decide) _ _ x.day rfl (hown.alloc _) rfl (by simp) rfl (by omega) (by omega) (by simp; omega) ?_))
        intro v' w' hown' hbel
        go_wp2_with fail
        go_roundw
        case rel => exact ⟨k + 1, by go_num, hlt, by rw [daysOf_yes Hx.out hd]; exact hown', hbel _ _ (hbr.alloc hsz _) (Nat.le_refl _)⟩
        case measure => simp [intOf]; omega
    · have hkn : k = xs.length := by omega
      subst hkn
      rw [List.take_of_length_le (by simp)] at hown
      go_wp2_with fail
      go_ret2
      exact ⟨_, by rw [HF.out]; rfl, by rw [HF.out]; exact hown.more hb1.size, hb1.trans (hbr.mono hb1.size)⟩
end Go.Proofs.Ytbboihodikhhkaa
