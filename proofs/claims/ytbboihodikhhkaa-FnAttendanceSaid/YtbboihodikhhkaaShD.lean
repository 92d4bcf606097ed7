/- LongestRun: the program's and the reference's answer the same function of the days and numbers. No condition. -/
import Derived.Test.YtbboihodikhhkaaShC
namespace Go.Proofs.Ytbboihodikhhkaa
open Go.RowKit

def runStep (n : Int) (r : Int) (zs : List Int) : Int := if hasB n zs = true then r + 1 else 0
def runGo (n : Int) : Int → Int → List (Int × List Int) → Int
  | m, _, [] => m
  | m, r, x :: t => runGo n (max m (runStep n r x.2)) (runStep n r x.2) t
def longestF (z : List (Int × List Int)) (n : Int) : Int × Int := if sheetsOk z = true then (runGo n 0 0 z, 0) else (0, 1)

theorem sheetsOk_len {z : List (Int × List Int)} (h : sheetsOk z = true) : z.length ≤ 15 := by
  simp only [sheetsOk, Bool.and_eq_true, decide_eq_true_eq] at h
  exact h.2

set_option maxRecDepth 100000 in
set_option maxHeartbeats 2000000 in
theorem specLongestRun_any (v : Value) (z : List (Int × List Int)) (n : Int) (w : World) (lo : Nat) (h : RdH w lo w.heap.size v z) :
    Calls Try.prog 19 #[v, .int .i64 n] w fun e w' => e = .returned (.tuple #[.int .i64 (longestF z n).1, .int .i64 (longestF z n).2]) ∧ Below w.heap.size w w' := by
  have hz := h
  obtain ⟨xs, h, rfl⟩ := h
  obtain ⟨A, c, rfl, hc1, hc2⟩ := h.form
  go_enter Try.func19, Try.ntmps19
  go_wp2_with fail
  refine (specAreSheets_z _ _ w lo hz).mono ?_
  clear hz
  rintro e w1 ⟨rfl, hb1⟩
  cases h1 : sheetsOk (xs.map H2.ct)
  · have hF : longestF (xs.map H2.ct) n = (0, 1) := by simp [longestF, h1]
    go_wp2_with fail
    go_ret2
    exact ⟨by rw [hF]; rfl, hb1⟩
  have hF : longestF (xs.map H2.ct) n = (runGo n 0 0 (xs.map H2.ct), 0) := by simp [longestF, h1]
  have HF := Lib.hid hF
  have hlen := sheetsOk_len h1
  rw [List.length_map] at hlen
  clear hF
  have h' : SlH w1 lo w1.heap.size (.slice A xs.length c) xs := (h.below hb1 (Nat.le_refl _)).more (Nat.le_refl _) hb1.size
  go_wp2_with fail
  obtain ⟨wo, rfl⟩ : ∃ wo : World, wo = w1 := ⟨_, rfl⟩
  go_loopw [6, 7, 8] (fun m r i wr => ∃ (k : Nat) (zm zr : Int), i = .int .i64 k ∧ m = .int .i64 zm ∧ r = .int .i64 zr ∧ 0 ≤ zm ∧ zm ≤ k ∧ 0 ≤ zr ∧ zr ≤ k ∧ k ≤ xs.length ∧ Hid (runGo n 0 0 (xs.map H2.ct) = runGo n zm zr ((xs.map H2.ct).drop k)) ∧ Below wo.heap.size wo wr) (fun m r i wr => xs.length - (intOf i).toNat)
  case atStart => exact ⟨0, 0, 0, rfl, rfl, rfl, by omega, by omega, by omega, by omega, Nat.zero_le _, Lib.hid rfl, Below.refl _ _⟩
  case round =>
    obtain ⟨k, zm, zr, rfl, rfl, rfl, hm1, hm2, hr1, hr2, hk, Hgo, hbr⟩ := hrel
    have hs := hbr.size
    by_cases hlt : k < xs.length
    · obtain ⟨x, hx⟩ := some_at hlt
      obtain ⟨b, off, rfl, _, hb, c0, c1, hin⟩ := ((h'.below hbr (Nat.le_refl _)).more (Nat.le_refl _) hbr.size).at_ hx
      have hd : (xs.map H2.ct).drop k = x.ct :: (xs.map H2.ct).drop (k + 1) := drop_cons (by rw [List.getElem?_map, hx]; rfl)
      have Hd := Lib.hid hd
      clear hx hd
      have hb' : b < wr.heap.size + 1 := by omega
      cases e1 : hasB n x.pres
      · have hst : runStep n zr x.ct.2 = 0 := by simp [runStep, H2.ct, e1]
        have Hst := Lib.hid hst
        clear hst
        go_wp2_with (first | (go_at_call 42; refine (l01Has_as e1 hin).mono ?_; rintro e w' ⟨rfl, rfl⟩) | (go_at_call 42; refine (l01Has_as e1 (hin.below ((Below.refl _ _).alloc (Nat.le_refl _) _) (Nat.le_refl _))).mono ?_; rintro e w' ⟨rfl, rfl⟩))
        go_roundw
        case rel => exact ⟨k + 1, max zm 0, 0, by go_num, by first | rfl | go_num | (simp; omega), rfl, by omega, by omega, by omega, by omega, hlt, Lib.hid (by rw [Hgo.out, Hd.out, runGo, Hst.out]), by first | exact hbr | exact hbr.alloc hs _⟩
        case measure => simp [intOf]; omega
      · have hst : runStep n zr x.ct.2 = zr + 1 := by simp [runStep, H2.ct, e1]
        have Hst := Lib.hid hst
        clear hst
        go_wp2_with (first | (go_at_call 42; refine (l01Has_as e1 hin).mono ?_; rintro e w' ⟨rfl, rfl⟩) | (go_at_call 42; refine (l01Has_as e1 (hin.below ((Below.refl _ _).alloc (Nat.le_refl _) _) (Nat.le_refl _))).mono ?_; rintro e w' ⟨rfl, rfl⟩))
        go_roundw
        case rel => exact ⟨k + 1, max zm (zr + 1), zr + 1, by go_num, by first | rfl | go_num | (simp; omega), by go_num, by omega, by omega, by omega, by omega, hlt, Lib.hid (by rw [Hgo.out, Hd.out, runGo, Hst.out]), by first | exact hbr | exact hbr.alloc hs _⟩
        case measure => simp [intOf]; omega
    · have hkn : k = xs.length := by omega
      subst hkn
      go_wp2_with fail
      go_ret2
      exact ⟨by rw [HF.out, Hgo.out, List.drop_eq_nil_of_le (by simp)]; rfl, hb1.trans (hbr.mono hb1.size)⟩
set_option maxRecDepth 100000 in
set_option maxHeartbeats 2000000 in
theorem implLongestRun_any (v : Value) (z : List (Int × List Int)) (n : Int) (w : World) (lo : Nat) (h : RdH w lo w.heap.size v z) :
    Calls Try.prog 18 #[v, .int .i64 n] w fun e w' => e = .returned (.tuple #[.int .i64 (longestF z n).1, .int .i64 (longestF z n).2]) ∧ Below w.heap.size w w' := by
  have hz := h
  obtain ⟨xs, h, rfl⟩ := h
  obtain ⟨A, c, rfl, hc1, hc2⟩ := h.form
  go_enter Try.func18, Try.ntmps18
  go_wp2_with fail
  refine (implAreSheets_z _ _ w lo hz).mono ?_
  clear hz
  rintro e w1 ⟨rfl, hb1⟩
  cases h1 : sheetsOk (xs.map H2.ct)
  · have hF : longestF (xs.map H2.ct) n = (0, 1) := by simp [longestF, h1]
    go_wp2_with fail
    go_ret2
    exact ⟨by rw [hF]; rfl, hb1⟩
  have hF : longestF (xs.map H2.ct) n = (runGo n 0 0 (xs.map H2.ct), 0) := by simp [longestF, h1]
  have HF := Lib.hid hF
  have hlen := sheetsOk_len h1
  rw [List.length_map] at hlen
  clear hF
  have h' : SlH w1 lo w1.heap.size (.slice A xs.length c) xs := (h.below hb1 (Nat.le_refl _)).more (Nat.le_refl _) hb1.size
  go_wp2_with fail
  obtain ⟨wo, rfl⟩ : ∃ wo : World, wo = w1 := ⟨_, rfl⟩
  go_loopw [6, 7, 15] (fun m r i wr => ∃ (k : Nat) (zm zr : Int), i = .int .i64 k ∧ m = .int .i64 zm ∧ r = .int .i64 zr ∧ 0 ≤ zm ∧ zm ≤ k ∧ 0 ≤ zr ∧ zr ≤ k ∧ k ≤ xs.length ∧ Hid (runGo n 0 0 (xs.map H2.ct) = runGo n zm zr ((xs.map H2.ct).drop k)) ∧ Below wo.heap.size wo wr) (fun m r i wr => xs.length - (intOf i).toNat)
  case atStart => exact ⟨0, 0, 0, rfl, rfl, rfl, by omega, by omega, by omega, by omega, Nat.zero_le _, Lib.hid rfl, Below.refl _ _⟩
  case round =>
    obtain ⟨k, zm, zr, rfl, rfl, rfl, hm1, hm2, hr1, hr2, hk, Hgo, hbr⟩ := hrel
    have hs := hbr.size
    by_cases hlt : k < xs.length
    · obtain ⟨x, hx⟩ := some_at hlt
      obtain ⟨b, off, rfl, _, hb, c0, c1, hin⟩ := ((h'.below hbr (Nat.le_refl _)).more (Nat.le_refl _) hbr.size).at_ hx
      have hd : (xs.map H2.ct).drop k = x.ct :: (xs.map H2.ct).drop (k + 1) := drop_cons (by rw [List.getElem?_map, hx]; rfl)
      have Hd := Lib.hid hd
      clear hx hd
      have hb' : b < wr.heap.size + 1 := by omega
      cases e1 : hasB n x.pres
      · have hst : runStep n zr x.ct.2 = 0 := by simp [runStep, H2.ct, e1]
        have Hst := Lib.hid hst
        clear hst
        go_wp2_with (first | (go_at_call 55; refine (has_as e1 hin).mono ?_; rintro e w' ⟨rfl, rfl⟩) | (go_at_call 55; refine (has_as e1 (hin.below ((Below.refl _ _).alloc (Nat.le_refl _) _) (Nat.le_refl _))).mono ?_; rintro e w' ⟨rfl, rfl⟩))
        go_roundw
        case rel => exact ⟨k + 1, max zm 0, 0, by go_num, by first | rfl | go_num | (simp; omega), rfl, by omega, by omega, by omega, by omega, hlt, Lib.hid (by rw [Hgo.out, Hd.out, runGo, Hst.out]), by first | exact hbr | exact hbr.alloc hs _⟩
        case measure => simp [intOf]; omega
      · have hst : runStep n zr x.ct.2 = zr + 1 := by simp [runStep, H2.ct, e1]
        have Hst := Lib.hid hst
        clear hst
        go_wp2_with (first | (go_at_call 55; refine (has_as e1 hin).mono ?_; rintro e w' ⟨rfl, rfl⟩) | (go_at_call 55; refine (has_as e1 (hin.below ((Below.refl _ _).alloc (Nat.le_refl _) _) (Nat.le_refl _))).mono ?_; rintro e w' ⟨rfl, rfl⟩))
        go_roundw
        case rel => exact ⟨k + 1, max zm (zr + 1), zr + 1, by go_num, by first | rfl | go_num | (simp; omega), by go_num, by omega, by omega, by omega, by omega, hlt, Lib.hid (by rw [Hgo.out, Hd.out, runGo, Hst.out]), by first | exact hbr | exact hbr.alloc hs _⟩
        case measure => simp [intOf]; omega
    · have hkn : k = xs.length := by omega
      subst hkn
      go_wp2_with fail
      go_ret2
      exact ⟨by rw [HF.out, Hgo.out, List.drop_eq_nil_of_le (by simp)]; rfl, hb1.trans (hbr.mono hb1.size)⟩
end Go.Proofs.Ytbboihodikhhkaa
