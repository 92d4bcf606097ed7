/- Whether two lists of numbers are the same; IsReplay. No condition but the sizes that the law itself asks. -/
import Derived.Test.YtfenedoalnieaaaPoolM
namespace Go.Proofs.Ytfenedoalnieaaa
open Go.RowKit

set_option maxHeartbeats 400000 in
theorem l01Same_any (u v : Value) (xs ys : List Int) (w : World) (lo lo' : Nat) (ha : SlI w lo w.heap.size u xs) (hb : SlI w lo' w.heap.size v ys) :
    Calls Try.prog 63 #[u, v] w fun e w' => e = .returned (.bool (decide (xs = ys))) ∧ Below w.heap.size w w' := by
  obtain ⟨A, c, rfl, hc1, hc2⟩ := ha.form
  obtain ⟨A', c', rfl, hc1', hc2'⟩ := hb.form
  by_cases hl : xs.length = ys.length
  · have hne : ((xs.length : Int) != (ys.length : Int)) = false := by simp [hl]
    have Hl := Lib.hid hl
    clear hl
    go_enter Try.func63, Try.ntmps63
    go_wp2_with fail
    go_loopw [5] (fun i wr => ∃ (k : Nat), i = .int .i64 k ∧ k ≤ xs.length ∧ xs.take k = ys.take k ∧ Below w.heap.size w wr) (fun i wr => xs.length - (intOf i).toNat)
    case atStart => exact ⟨0, rfl, Nat.zero_le _, rfl, Below.refl _ _⟩
    case round =>
      obtain ⟨k, rfl, hk, htk, hbr⟩ := hrel
      have Htk := Lib.hid htk
      clear htk
      by_cases hlt : k < xs.length
      · have hlt' : k < ys.length := by have := Hl.out; omega
        obtain ⟨x, hx⟩ := some_at hlt
        obtain ⟨y, hy⟩ := some_at hlt'
        obtain ⟨b, off, rfl, _, hbb, c0⟩ := ((ha.below hbr (Nat.le_refl _)).more (Nat.le_refl _) hbr.size).int_at hx
        obtain ⟨b', off', rfl, _, hbb', d0⟩ := ((hb.below hbr (Nat.le_refl _)).more (Nat.le_refl _) hbr.size).int_at hy
        have Hx := Lib.hid hx
        have Hy := Lib.hid hy
        clear hx hy
        go_wp2_with fail
        refine wp_region_ext (by kernel_rfl) (by kernel_rfl) ?_
        repeat (go_big_quiet_step (fail))
        refine wpQuiet_nil ?_
        intro w2 hb2
        go_wp2_with fail
        · have hne2 : (x != y) = true := by assumption
          go_ret
          exact ⟨ret_no (by intro e; have h1 := Hx.out; rw [e, Hy.out] at h1; simp [Option.some.inj h1] at hne2), hbr.trans (hb2.mono hbr.size)⟩
        · have heq2 : (x != y) = false := by assumption
          go_roundw
          case rel => exact ⟨k + 1, by go_num, hlt, by rw [take_snoc Hx.out, take_snoc Hy.out, Htk.out]; simp at heq2; rw [heq2], hbr.trans (hb2.mono hbr.size)⟩
          case measure => simp [intOf]; omega
      · go_wp2_with fail
        go_ret
        exact ⟨ret_bool (by have h1 := Htk.out; have h2 := Hl.out; rw [List.take_of_length_le (by omega), List.take_of_length_le (by omega)] at h1; simp [h1]), hbr⟩
  · have hne : ((xs.length : Int) != (ys.length : Int)) = true := by simp; omega
    have Hl := Lib.hid hl
    clear hl
    go_enter Try.func63, Try.ntmps63
    go_wp2_with fail
    go_ret
    exact ⟨ret_no (by intro e; exact Hl.out (by rw [e])), Below.refl _ _⟩

set_option maxHeartbeats 400000 in
theorem same_any (u v : Value) (xs ys : List Int) (w : World) (lo lo' : Nat) (ha : SlI w lo w.heap.size u xs) (hb : SlI w lo' w.heap.size v ys) :
    Calls Try.prog 65 #[u, v] w fun e w' => e = .returned (.bool (decide (xs = ys))) ∧ Below w.heap.size w w' := by
  obtain ⟨A, c, rfl, hc1, hc2⟩ := ha.form
  obtain ⟨A', c', rfl, hc1', hc2'⟩ := hb.form
  by_cases hl : xs.length = ys.length
  · have hne : ((xs.length : Int) != (ys.length : Int)) = false := by simp [hl]
    have Hl := Lib.hid hl
    clear hl
    go_enter Try.func65, Try.ntmps65
    go_wp2_with fail
    go_loopw [13] (fun i wr => ∃ (k : Nat), i = .int .i64 k ∧ k ≤ xs.length ∧ xs.take k = ys.take k ∧ Below w.heap.size w wr) (fun i wr => xs.length - (intOf i).toNat)
    case atStart => exact ⟨0, rfl, Nat.zero_le _, rfl, Below.refl _ _⟩
    case round =>
      obtain ⟨k, rfl, hk, htk, hbr⟩ := hrel
      have Htk := Lib.hid htk
      clear htk
      by_cases hlt : k < xs.length
      · have hlt' : k < ys.length := by have := Hl.out; omega
        obtain ⟨x, hx⟩ := some_at hlt
        obtain ⟨y, hy⟩ := some_at hlt'
        obtain ⟨b, off, rfl, _, hbb, c0⟩ := ((ha.below hbr (Nat.le_refl _)).more (Nat.le_refl _) hbr.size).int_at hx
        obtain ⟨b', off', rfl, _, hbb', d0⟩ := ((hb.below hbr (Nat.le_refl _)).more (Nat.le_refl _) hbr.size).int_at hy
        have Hx := Lib.hid hx
        have Hy := Lib.hid hy
        clear hx hy
        go_wp2_with fail
        refine wp_region_ext (by kernel_rfl) (by kernel_rfl) ?_
        repeat (go_big_quiet_step (fail))
        refine wpQuiet_nil ?_
        intro w2 hb2
        go_wp2_with fail
        · have hne2 : (x != y) = true := by assumption
          go_ret
          exact ⟨ret_no (by intro e; have h1 := Hx.out; rw [e, Hy.out] at h1; simp [Option.some.inj h1] at hne2), hbr.trans (hb2.mono hbr.size)⟩
        · have heq2 : (x != y) = false := by assumption
          go_roundw
          case rel => exact ⟨k + 1, by go_num, hlt, by rw [take_snoc Hx.out, take_snoc Hy.out, Htk.out]; simp at heq2; rw [heq2], hbr.trans (hb2.mono hbr.size)⟩
          case measure => simp [intOf]; omega
      · go_wp2_with fail
        go_ret
        exact ⟨ret_bool (by have h1 := Htk.out; have h2 := Hl.out; rw [List.take_of_length_le (by omega), List.take_of_length_le (by omega)] at h1; simp [h1]), hbr⟩
  · have hne : ((xs.length : Int) != (ys.length : Int)) = true := by simp; omega
    have Hl := Lib.hid hl
    clear hl
    go_enter Try.func65, Try.ntmps65
    go_wp2_with fail
    go_ret
    exact ⟨ret_no (by intro e; exact Hl.out (by rw [e])), Below.refl _ _⟩

theorem leftOf_nil (nums : List Int) : leftOf nums [] = nums := List.filter_eq_self.2 fun a _ => rfl
def replayF (p : P3) (st : Int) : Bool × Int := if poolOk p = true then if inB st 1 2147483646 = true then (decide ((drawGo p.nums p.drawn.length [] st).1 = p.drawn) && (drawGo p.nums p.drawn.length [] st).2 == p.st, 0) else (false, 2) else (false, 1)

set_option maxRecDepth 100000 in
set_option maxHeartbeats 4000000 in
theorem implIsReplay_any (vn vd : Value) (p : P3) (st : Int) (w : World) (lo lo' : Nat) (hn : SlI w lo w.heap.size vn p.nums) (hd : SlI w lo' w.heap.size vd p.drawn) :
    Calls Try.prog 32 #[.agg #[vn, vd, .int .i64 p.st], .int .i64 st] w fun e w' => e = .returned (.tuple #[.bool (replayF p st).1, .int .i64 (replayF p st).2]) ∧ Below w.heap.size w w' := by
  obtain ⟨A, c, rfl, hc1, hc2⟩ := hn.form
  obtain ⟨A', c', rfl, hc1', hc2'⟩ := hd.form
  have up : ∀ {v : Value} {zs : List Int} {lo : Nat} {w1 : World}, SlI w lo w.heap.size v zs → Below w.heap.size w w1 → SlI w1 lo w1.heap.size v zs := fun h hb => (h.below hb (Nat.le_refl _)).more (Nat.le_refl _) hb.size
  go_enter Try.func32, Try.ntmps32
  go_wp2_with fail
  have bA := Blk.new w 27 #[.slice A p.nums.length c, .slice A' p.drawn.length c', .int .i64 p.st]
  have hB1 : Below w.heap.size w (w.alloc (.cells #[.slice A p.nums.length c, .slice A' p.drawn.length c', .int .i64 p.st] 27)) := (Below.refl _ _).alloc (Nat.le_refl _) _
  generalize w.alloc (.cells #[.slice A p.nums.length c, .slice A' p.drawn.length c', .int .i64 p.st] 27) = w1 at *
  refine (implIsPool_any _ _ p w1 _ _ (up hn hB1) (up hd hB1)).mono ?_
  rintro e w2 ⟨rfl, hb2⟩
  have hB2 := hB1.trans (hb2.mono hB1.size)
  have bA := bA.below' hb2
  clear hb2
  have a0 : w2.cell? ⟨w.heap.size, 0, none⟩ = some (.slice A p.nums.length c) := bA.cell 0
  have a1 : w2.cell? ⟨w.heap.size, 1, none⟩ = some (.slice A' p.drawn.length c') := bA.cell 1
  have a2 : w2.cell? ⟨w.heap.size, 2, none⟩ = some (.int .i64 p.st) := bA.cell 2
  cases h1 : poolOk p
  · have hF : replayF p st = (false, 1) := by simp [replayF, h1]
    go_wp2_with fail
    go_ret2
    exact ⟨by rw [hF]; rfl, hB2⟩
  have hlen := leftF_length h1
  have hparts := poolOk_parts h1
  go_wp2_with fail
  refine (isState_any st _).mono ?_
  rintro e w3 ⟨rfl, rfl⟩
  cases h2 : inB st 1 2147483646
  · have hF : replayF p st = (false, 2) := by simp [replayF, h1, h2]
    go_wp2_with fail
    go_ret2
    exact ⟨by rw [hF]; rfl, hB2⟩
  have hst := inB_iff.1 h2
  have hF : replayF p st = (decide ((drawGo p.nums p.drawn.length [] st).1 = p.drawn) && (drawGo p.nums p.drawn.length [] st).2 == p.st, 0) := by simp [replayF, h1, h2]
  have HF := Lib.hid hF
  clear hF
  have hk : p.drawn.length ≤ (leftOf p.nums []).length := by rw [leftOf_nil]; omega
  go_wp2_with fail
  refine (take_any (.slice A p.nums.length c) (.slice none 0 0) ⟨p.nums, [], st⟩ p.drawn.length w2 _ 0 (up hn hB2) (slI_nil _ _ _) (up_nodup hparts.1) hk ⟨by show 0 ≤ st; omega, hst.2⟩ hparts.2.2.2.1 (Nat.zero_le _)).mono ?_
  rintro e w4 ⟨xn, xd, Q, rfl, on, od, hQ, hQ2, hb4⟩
  dsimp only at on od
  generalize hr : drawGo p.nums p.drawn.length [] st = r at *
  have HR := Lib.hid hr
  clear hr
  obtain ⟨Xn, kn, rfl, _, _⟩ := on.form
  obtain ⟨Xd, kd, rfl, _, _⟩ := od.form
  have hB4 := hB2.trans (hb4.mono hB2.size)
  have bA := bA.below' hb4
  clear a0 a1 a2
  have C : ∀ o, (w4.alloc o).cell? ⟨w.heap.size, 1, none⟩ = some (.slice A' p.drawn.length c') := fun o => (bA.alloc o).cell 1
  have qa1 := C (.cells #[.slice Xn p.nums.length kn, .slice Xd r.1.length kd, .int .i64 r.2] 27)
  go_wp2_with fail
  have bQ := Blk.new w4 27 #[.slice Xn p.nums.length kn, .slice Xd r.1.length kd, .int .i64 r.2]
  have bA := bA.alloc (.cells #[.slice Xn p.nums.length kn, .slice Xd r.1.length kd, .int .i64 r.2] 27)
  have od := od.own.alloc (.cells #[.slice Xn p.nums.length kn, .slice Xd r.1.length kd, .int .i64 r.2] 27)
  have hB5 : Below w.heap.size w (w4.alloc (.cells #[.slice Xn p.nums.length kn, .slice Xd r.1.length kd, .int .i64 r.2] 27)) := hB4.alloc hB4.size _
  clear qa1 C
  generalize (w4.alloc (.cells #[.slice Xn p.nums.length kn, .slice Xd r.1.length kd, .int .i64 r.2] 27)) = w5 at *
  refine (same_any _ _ r.1 p.drawn w5 _ _ (own_slI od) (up hd hB5)).mono ?_
  rintro e w6 ⟨rfl, hb6⟩
  have hB6 := hB5.trans (hb6.mono hB5.size)
  have bQ := bQ.below' hb6
  have bA := bA.below' hb6
  have d2 : w6.cell? ⟨w4.heap.size, 2, none⟩ = some (.int .i64 r.2) := bQ.cell 2
  have a2 : w6.cell? ⟨w.heap.size, 2, none⟩ = some (.int .i64 p.st) := bA.cell 2
  cases h3 : decide (r.1 = p.drawn)
  all_goals go_wp2_with fail
  all_goals go_ret2
  all_goals exact ⟨by rw [HF.out, h3]; rfl, hB6⟩

set_option maxRecDepth 100000 in
set_option maxHeartbeats 4000000 in
theorem specIsReplay_any (vn vd : Value) (p : P3) (st : Int) (w : World) (lo lo' : Nat) (hn : SlI w lo w.heap.size vn p.nums) (hd : SlI w lo' w.heap.size vd p.drawn) :
    Calls Try.prog 31 #[.agg #[vn, vd, .int .i64 p.st], .int .i64 st] w fun e w' => e = .returned (.tuple #[.bool (replayF p st).1, .int .i64 (replayF p st).2]) ∧ Below w.heap.size w w' := by
  obtain ⟨A, c, rfl, hc1, hc2⟩ := hn.form
  obtain ⟨A', c', rfl, hc1', hc2'⟩ := hd.form
  have up : ∀ {v : Value} {zs : List Int} {lo : Nat} {w1 : World}, SlI w lo w.heap.size v zs → Below w.heap.size w w1 → SlI w1 lo w1.heap.size v zs := fun h hb => (h.below hb (Nat.le_refl _)).more (Nat.le_refl _) hb.size
  go_enter Try.func31, Try.ntmps31
  go_wp2_with fail
  have bA := Blk.new w 27 #[.slice A p.nums.length c, .slice A' p.drawn.length c', .int .i64 p.st]
  have hB1 : Below w.heap.size w (w.alloc (.cells #[.slice A p.nums.length c, .slice A' p.drawn.length c', .int .i64 p.st] 27)) := (Below.refl _ _).alloc (Nat.le_refl _) _
  generalize w.alloc (.cells #[.slice A p.nums.length c, .slice A' p.drawn.length c', .int .i64 p.st] 27) = w1 at *
  refine (specIsPool_any _ _ p w1 _ _ (up hn hB1) (up hd hB1)).mono ?_
  rintro e w2 ⟨rfl, hb2⟩
  have hB2 := hB1.trans (hb2.mono hB1.size)
  have bA := bA.below' hb2
  clear hb2
  have a0 : w2.cell? ⟨w.heap.size, 0, none⟩ = some (.slice A p.nums.length c) := bA.cell 0
  have a1 : w2.cell? ⟨w.heap.size, 1, none⟩ = some (.slice A' p.drawn.length c') := bA.cell 1
  have a2 : w2.cell? ⟨w.heap.size, 2, none⟩ = some (.int .i64 p.st) := bA.cell 2
  cases h1 : poolOk p
  · have hF : replayF p st = (false, 1) := by simp [replayF, h1]
    go_wp2_with fail
    go_ret2
    exact ⟨by rw [hF]; rfl, hB2⟩
  have hlen := leftF_length h1
  have hparts := poolOk_parts h1
  go_wp2_with fail
  refine (l03Is_any st _).mono ?_
  rintro e w3 ⟨rfl, rfl⟩
  cases h2 : inB st 1 2147483646
  · have hF : replayF p st = (false, 2) := by simp [replayF, h1, h2]
    go_wp2_with fail
    go_ret2
    exact ⟨by rw [hF]; rfl, hB2⟩
  have hst := inB_iff.1 h2
  have hF : replayF p st = (decide ((drawGo p.nums p.drawn.length [] st).1 = p.drawn) && (drawGo p.nums p.drawn.length [] st).2 == p.st, 0) := by simp [replayF, h1, h2]
  have HF := Lib.hid hF
  clear hF
  have hk : p.drawn.length ≤ (leftOf p.nums []).length := by rw [leftOf_nil]; omega
  go_wp2_with fail
  refine (l08Draw_any (.slice A p.nums.length c) (.slice none 0 0) ⟨p.nums, [], st⟩ p.drawn.length w2 _ 0 (up hn hB2) (slI_nil _ _ _) (up_nodup hparts.1) hk ⟨by show 0 ≤ st; omega, hst.2⟩ hparts.2.2.2.1 (Nat.zero_le _)).mono ?_
  rintro e w4 ⟨xn, xd, xo, rfl, on, od, oo, hb4⟩
  dsimp only [List.length_nil, List.drop_zero] at on od oo
  generalize hr : drawGo p.nums p.drawn.length [] st = r at *
  have HR := Lib.hid hr
  clear hr
  obtain ⟨Xn, kn, rfl, _, _⟩ := on.form
  obtain ⟨Xd, kd, rfl, _, _⟩ := od.form
  have oo : SlI w4 w2.heap.size w4.heap.size xo r.1 := oo
  obtain ⟨Xo, ko, rfl, _, _⟩ := oo.form
  have hB4 := hB2.trans (hb4.mono hB2.size)
  have bA := bA.below' hb4
  clear a0 a1 a2
  have qa2 := (bA.alloc (.cells #[.slice Xn p.nums.length kn, .slice Xd r.1.length kd, .int .i64 r.2] 27)).cell 2
  have qa1 := (bA.alloc (.cells #[.slice Xn p.nums.length kn, .slice Xd r.1.length kd, .int .i64 r.2] 27)).cell 1
  have qa2 : (w4.alloc (.cells #[.slice Xn p.nums.length kn, .slice Xd r.1.length kd, .int .i64 r.2] 27)).cell? ⟨w.heap.size, 2, none⟩ = some (.int .i64 p.st) := qa2
  have qa1 : (w4.alloc (.cells #[.slice Xn p.nums.length kn, .slice Xd r.1.length kd, .int .i64 r.2] 27)).cell? ⟨w.heap.size, 1, none⟩ = some (.slice A' p.drawn.length c') := qa1
  have hB5 : Below w.heap.size w (w4.alloc (.cells #[.slice Xn p.nums.length kn, .slice Xd r.1.length kd, .int .i64 r.2] 27)) := hB4.alloc hB4.size _
  have oo5 := (oo.alloc (Nat.le_refl _) (.cells #[.slice Xn p.nums.length kn, .slice Xd r.1.length kd, .int .i64 r.2] 27)).more (Nat.le_refl _) (show w4.heap.size ≤ (w4.alloc (.cells #[.slice Xn p.nums.length kn, .slice Xd r.1.length kd, .int .i64 r.2] 27)).heap.size by simp)
  cases h4 : r.2 == p.st
  · go_wp2_with fail
    go_ret2
    exact ⟨by rw [HF.out, h4, Bool.and_false]; rfl, hB5⟩
  go_wp2_with fail
  refine (l01Same_any _ _ r.1 p.drawn _ _ _ oo5 (up hd hB5)).mono ?_
  rintro e w6 ⟨rfl, hb6⟩
  have hB6 := hB5.trans (hb6.mono hB5.size)
  go_wp2_with fail
  go_ret2
  exact ⟨by rw [HF.out, h4, Bool.and_true]; rfl, hB6⟩
end Go.Proofs.Ytfenedoalnieaaa
