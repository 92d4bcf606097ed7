/- IsPool, the program's and the reference's: both answer the same function of the pool. No condition. -/
import Derived.Test.YtodfkbgifoecbaaGreatDoorIntC
namespace Go.Proofs.YtodfkbgifoecbaaGreatDoor
open Go.RowKit

structure P3 where
  nums : List Int
  drawn : List Int
  st : Int

def drawnGo (nums : List Int) : List Int → List Int → Bool
  | _, [] => true
  | seen, x :: t => hasB x nums && !hasB x seen && drawnGo nums (seen ++ [x]) t
def poolOk (p : P3) : Bool := incGo 1 1000000 none p.nums && drawnGo p.nums [] p.drawn && decide (p.nums.length ≤ 60) && inB p.st 1 2147483646

set_option maxHeartbeats 400000 in
theorem l03Is_any (a : Int) (w : World) :
    Calls Tryz.prog 38 #[.int .i64 a] w fun e w' => e = .returned (.bool (inB a 1 2147483646)) ∧ w = w' := by
  go_enter Tryz.func38, Tryz.ntmps38
  go_wp2_with (go_at_call 36; refine (l01In_any _ _ _ _).mono ?_; rintro e w' ⟨rfl, rfl⟩)
  go_ret
  exact ⟨rfl, rfl⟩
set_option maxHeartbeats 400000 in
theorem isState_any (a : Int) (w : World) :
    Calls Tryz.prog 31 #[.int .i64 a] w fun e w' => e = .returned (.bool (inB a 1 2147483646)) ∧ w = w' := by
  go_enter Tryz.func31, Tryz.ntmps31
  go_wp2_with (go_at_call 49; refine (within_any _ _ _ _).mono ?_; rintro e w' ⟨rfl, rfl⟩)
  go_ret
  exact ⟨rfl, rfl⟩

theorem poolOk_eq (p : P3) : poolOk p = (numsB p.nums 60 && drawnGo p.nums [] p.drawn && inB p.st 1 2147483646) := by
  have e : decide ((p.nums.length : Int) ≤ 60) = decide (p.nums.length ≤ 60) := by rw [Bool.eq_iff_iff]; simp; omega
  rw [poolOk, numsB, e]
  cases incGo 1 1000000 none p.nums <;> cases drawnGo p.nums [] p.drawn <;> cases decide (p.nums.length ≤ 60) <;> rfl

set_option maxRecDepth 100000 in
set_option maxHeartbeats 4000000 in
theorem implIsPool_any (vn vd : Value) (p : P3) (w : World) (lo lo' : Nat) (hn : SlI w lo w.heap.size vn p.nums) (hd : SlI w lo' w.heap.size vd p.drawn) :
    Calls Tryz.prog 12 #[.agg #[vn, vd, .int .i64 p.st]] w fun e w' => e = .returned (.bool (poolOk p)) ∧ Below w.heap.size w w' := by
  obtain ⟨nums, drawn, st⟩ := p
  dsimp only at hn hd ⊢
  obtain ⟨A, c, rfl, hc1, hc2⟩ := hn.form
  obtain ⟨A', c', rfl, hc1', hc2'⟩ := hd.form
  go_enter Tryz.func12, Tryz.ntmps12
  go_wp2_with fail
  have ha1 := At.new w #[.slice A nums.length c, .slice A' drawn.length c', .int .i64 st] 26
  have HA1 := Lib.hid ha1
  clear ha1
  have hB1 : Below w.heap.size w (w.alloc (.cells #[.slice A nums.length c, .slice A' drawn.length c', .int .i64 st] 26)) := (Below.refl _ _).alloc (Nat.le_refl _) _
  have hn1 := hn.below hB1 (Nat.le_refl _)
  have hd1 := hd.below hB1 (Nat.le_refl _)
  generalize w.alloc (.cells #[.slice A nums.length c, .slice A' drawn.length c', .int .i64 st] 26) = w1 at *
  have a0 : w1.cell? ⟨w.heap.size, 0, none⟩ = some (.slice A nums.length c) := HA1.out 0 _ rfl
  have a1 : w1.cell? ⟨w.heap.size, 1, none⟩ = some (.slice A' drawn.length c') := HA1.out 1 _ rfl
  have a2 : w1.cell? ⟨w.heap.size, 2, none⟩ = some (.int .i64 st) := HA1.out 2 _ rfl
  go_wp2_with fail
  go_loop [8] (fun i => ∃ (k : Nat), i = .int .i64 k ∧ k ≤ drawn.length ∧ drawnGo nums [] drawn = drawnGo nums (drawn.take k) (drawn.drop k)) (fun i => drawn.length - (intOf i).toNat)
  case atStart => exact ⟨0, rfl, Nat.zero_le _, rfl⟩
  case round =>
    obtain ⟨k, rfl, hk, hgo⟩ := hrel
    by_cases hlt : k < drawn.length
    · obtain ⟨x, hx⟩ := some_at hlt
      rw [drop_cons hx, drawnGo, ← take_snoc hx] at hgo
      obtain ⟨b, off, rfl, _, _, c0⟩ := hd1.int_at hx
      have hdk := hd1.take (k := k) (by omega)
      have Hgo := Lib.hid hgo
      clear hx hgo
      cases e1 : hasB x nums
      · go_wp2_with (go_at_call 29; refine (has_as e1 hn1).mono ?_; rintro e w' ⟨rfl, rfl⟩)
        go_ret
        exact ⟨ret_bool (by simp [poolOk, Hgo.out, e1]), hB1⟩
      · cases e2 : hasB x (drawn.take k)
        · go_wp2_with (go_at_call 29; first | ((with_reducible refine (has_as e1 hn1).mono ?_); rintro e w' ⟨rfl, rfl⟩) | ((with_reducible refine (has_as e2 hdk).mono ?_); rintro e w' ⟨rfl, rfl⟩))
          go_round
          case rel => exact ⟨k + 1, by go_num, hlt, by rw [Hgo.out, e1, e2]; rfl⟩
          case measure => simp [intOf]; omega
        · go_wp2_with (go_at_call 29; first | ((with_reducible refine (has_as e1 hn1).mono ?_); rintro e w' ⟨rfl, rfl⟩) | ((with_reducible refine (has_as e2 hdk).mono ?_); rintro e w' ⟨rfl, rfl⟩))
          go_ret
          exact ⟨ret_bool (by simp [poolOk, Hgo.out, e1, e2]), hB1⟩
    · have hkn : k = drawn.length := by omega
      subst hkn
      rw [List.drop_length, drawnGo] at hgo
      have Hgo := Lib.hid hgo
      clear hgo
      go_wp2_with (first | (go_at_call 30; refine (areNumbers_any _ nums _ _ lo _ hn1).mono ?_; rintro e w' ⟨rfl, rfl⟩) | (go_at_call 31; refine (isState_any _ _).mono ?_; rintro e w' ⟨rfl, rfl⟩))
      all_goals go_ret
      all_goals exact ⟨ret_bool (by rw [poolOk_eq]; simp [Hgo.out, *]), hB1⟩

set_option maxRecDepth 100000 in
set_option maxHeartbeats 4000000 in
theorem specIsPool_any (vn vd : Value) (p : P3) (w : World) (lo lo' : Nat) (hn : SlI w lo w.heap.size vn p.nums) (hd : SlI w lo' w.heap.size vd p.drawn) :
    Calls Tryz.prog 17 #[.agg #[vn, vd, .int .i64 p.st]] w fun e w' => e = .returned (.bool (poolOk p)) ∧ Below w.heap.size w w' := by
  obtain ⟨nums, drawn, st⟩ := p
  dsimp only at hn hd ⊢
  obtain ⟨A, c, rfl, hc1, hc2⟩ := hn.form
  obtain ⟨A', c', rfl, hc1', hc2'⟩ := hd.form
  go_enter Tryz.func17, Tryz.ntmps17
  go_wp2_with fail
  have ha1 := At.new w #[.slice A nums.length c, .slice A' drawn.length c', .int .i64 st] 26
  have HA1 := Lib.hid ha1
  clear ha1
  have hB1 : Below w.heap.size w (w.alloc (.cells #[.slice A nums.length c, .slice A' drawn.length c', .int .i64 st] 26)) := (Below.refl _ _).alloc (Nat.le_refl _) _
  have hn1 := hn.below hB1 (Nat.le_refl _)
  have hd1 := hd.below hB1 (Nat.le_refl _)
  have hsz : w.heap.size < (w.alloc (.cells #[.slice A nums.length c, .slice A' drawn.length c', .int .i64 st] 26)).heap.size := by simp
  generalize w.alloc (.cells #[.slice A nums.length c, .slice A' drawn.length c', .int .i64 st] 26) = w1 at *
  go_wp2_with fail
  go_loopw [3] (fun i wr => ∃ (k : Nat), i = .int .i64 k ∧ k ≤ nums.length ∧ incGo 1 1000000 none nums = incGo 1 1000000 (prevAt nums k) (nums.drop k) ∧ Below w1.heap.size w1 wr) (fun i wr => nums.length - (intOf i).toNat)
  case atStart => exact ⟨0, rfl, Nat.zero_le _, rfl, Below.refl _ _⟩
  case round =>
    obtain ⟨k, rfl, hk, hgo, hbr⟩ := hrel
    have hs1 := hbr.size
    have hat := HA1.out.below hbr hsz
    have a0 : wr.cell? ⟨w.heap.size, 0, none⟩ = some (.slice A nums.length c) := hat 0 _ rfl
    have a1 : wr.cell? ⟨w.heap.size, 1, none⟩ = some (.slice A' drawn.length c') := hat 1 _ rfl
    have a2 : wr.cell? ⟨w.heap.size, 2, none⟩ = some (.int .i64 st) := hat 2 _ rfl
    have hsr : w.heap.size < wr.heap.size := by omega
    have hBr : Below w.heap.size w wr := hB1.trans (hbr.mono (by omega))
    have hfin : ∀ w2, Below wr.heap.size wr w2 → Below w.heap.size w w2 := fun w2 h2 => hBr.trans (h2.mono hBr.size)
    have Hfin := Lib.hid hfin
    clear hfin hat
    by_cases hlt : k < nums.length
    · obtain ⟨x, hx⟩ := some_at hlt
      rw [drop_cons hx, incGo] at hgo
      obtain ⟨b, off, rfl, _, hb, c0⟩ := ((hn1.below hbr (by omega)).more (hi' := wr.heap.size) (Nat.le_refl _) (by omega)).int_at hx
      have Hgo := Lib.hid hgo
      have Hx := Lib.hid hx
      clear hx hgo
      cases hv : inB x 1 1000000
      · go_wp2_with fail
        refine wp_region_ext (by kernel_rfl) (by kernel_rfl) ?_
        repeat (go_big_quiet_step ((go_at_call 36; exact calls_ext_same (l01In_as hv _))))
        refine wpQuiet_nil ?_
        intro w2 hb2
        go_wp2_with fail
        go_ret
        exact ⟨ret_bool (by simp [poolOk, Hgo.out, hv]), Hfin.out _ hb2⟩
      · by_cases hk0 : k = 0
        · have hd0 : decide ((0 : Int) < (k : Int)) = false := by simp [hk0]
          have hd' : decide (0 < k) = false := by simp [hk0]
          have Hk0 := Lib.hid hk0
          clear hk0
          go_wp2_with fail
          refine wp_region_ext (by kernel_rfl) (by kernel_rfl) ?_
          repeat (go_big_quiet_step ((go_at_call 36; exact calls_ext_same (l01In_as hv _))))
          refine wpQuiet_nil ?_
          intro w2 hb2
          go_wp2_with fail
          go_roundw
          case rel => exact ⟨k + 1, by go_num, hlt, by rw [Hgo.out, hv, prevAt_succ Hx.out, Hk0.out, prevAt_zero]; rfl, hbr.trans (hb2.mono hs1)⟩
          case measure => simp [intOf]; omega
        · have hd0 : decide ((0 : Int) < (k : Int)) = true := by simp; omega
          have hd' : decide (0 < k) = true := by simp; omega
          have hk1 : 0 < k := by omega
          obtain ⟨p, hp⟩ := some_at (l := nums) (k := k - 1) (by omega)
          obtain ⟨b2, off2, ee, _, _, d0⟩ := ((hn1.below hbr (by omega)).more (hi' := wr.heap.size) (Nat.le_refl _) (by omega)).int_at hp
          injection ee with ee
          injection ee with ee1 ee2
          subst ee1 ee2
          have Hpk := Lib.hid (prevAt_pos hk0 hp)
          clear hp
          by_cases hq : p < x
          · go_wp2_with fail
            refine wp_region_ext (by kernel_rfl) (by kernel_rfl) ?_
            repeat (go_big_quiet_step ((go_at_call 36; exact calls_ext_same (l01In_as hv _))))
            refine wpQuiet_nil ?_
            intro w2 hb2
            go_wp2_with fail
            go_roundw
            case rel => exact ⟨k + 1, by go_num, hlt, by rw [Hgo.out, hv, prevAt_succ Hx.out, Hpk.out, afterB]; simp [hq], hbr.trans (hb2.mono hs1)⟩
            case measure => simp [intOf]; omega
          · go_wp2_with fail
            refine wp_region_ext (by kernel_rfl) (by kernel_rfl) ?_
            repeat (go_big_quiet_step ((go_at_call 36; exact calls_ext_same (l01In_as hv _))))
            refine wpQuiet_nil ?_
            intro w2 hb2
            go_wp2_with fail
            have hq' : decide (p < x) = false := by simp; omega
            go_ret
            exact ⟨ret_bool (by rw [poolOk, Hgo.out, Hpk.out, afterB, hq']; simp), Hfin.out _ hb2⟩
    · have hkn : k = nums.length := by omega
      subst hkn
      rw [List.drop_length, incGo] at hgo
      have Hinc := Lib.hid hgo
      clear hgo
      obtain ⟨wo, rfl⟩ : ∃ wo : World, wo = wr := ⟨_, rfl⟩
      go_wp2_with fail
      go_loopw [4] (fun i wr2 => ∃ (k : Nat), i = .int .i64 k ∧ k ≤ drawn.length ∧ drawnGo nums [] drawn = drawnGo nums (drawn.take k) (drawn.drop k) ∧ Below wo.heap.size wo wr2) (fun i wr2 => drawn.length - (intOf i).toNat)
      case atStart => exact ⟨0, rfl, Nat.zero_le _, rfl, Below.refl _ _⟩
      case round =>
        obtain ⟨k, rfl, hk2, hgo, hb3⟩ := hrel
        have hs3 := hb3.size
        have hbr3 : Below w1.heap.size w1 wr := hbr.trans (hb3.mono (by omega))
        have hat := HA1.out.below hbr3 hsz
        clear a0 a1 a2
        have a0 : wr.cell? ⟨w.heap.size, 0, none⟩ = some (.slice A nums.length c) := hat 0 _ rfl
        have a1 : wr.cell? ⟨w.heap.size, 1, none⟩ = some (.slice A' drawn.length c') := hat 1 _ rfl
        have a2 : wr.cell? ⟨w.heap.size, 2, none⟩ = some (.int .i64 st) := hat 2 _ rfl
        have hsr3 : w.heap.size < wr.heap.size := by omega
        have hBr3 : Below w.heap.size w wr := hB1.trans (hbr3.mono (by omega))
        have hfin3 : ∀ w2, Below wr.heap.size wr w2 → Below w.heap.size w w2 := fun w2 h2 => hBr3.trans (h2.mono hBr3.size)
        have Hfin3 := Lib.hid hfin3
        clear hfin3 hat
        have hn3 := hn1.below hbr3 (by omega)
        have hd3 := hd1.below hbr3 (by omega)
        by_cases hlt2 : k < drawn.length
        · obtain ⟨x, hx⟩ := some_at hlt2
          rw [drop_cons hx, drawnGo, ← take_snoc hx] at hgo
          obtain ⟨b, off, rfl, _, hb, c0⟩ := hd3.int_at hx
          have hb' : b < wr.heap.size := by omega
          have hdk := hd3.take (k := k) (by omega)
          have Hgo := Lib.hid hgo
          clear hx hgo
          cases e1 : hasB x nums
          · go_wp2_with fail
            refine wp_region_ext (by kernel_rfl) (by kernel_rfl) ?_
            repeat (go_big_quiet_step ((go_at_call 37; exact calls_ext_same (l01Has_as e1 (SlR.ext hn3 (by omega) _)))))
            refine wpQuiet_nil ?_
            intro w2 hb2
            go_wp2_with fail
            go_ret
            exact ⟨ret_bool (by simp [poolOk, Hgo.out, e1]), Hfin3.out _ hb2⟩
          · cases e2 : hasB x (drawn.take k)
            · go_wp2_with fail
              refine wp_region_ext (by kernel_rfl) (by kernel_rfl) ?_
              repeat (go_big_quiet_step ((go_at_call 37; first | with_reducible exact calls_ext_same (l01Has_as e1 (SlR.ext hn3 (by omega) _)) | with_reducible exact calls_ext_same (l01Has_as e2 (SlR.ext hdk (by omega) _)))))
              refine wpQuiet_nil ?_
              intro w2 hb2
              go_wp2_with fail
              go_roundw
              case rel => exact ⟨k + 1, by go_num, hlt2, by rw [Hgo.out, e1, e2]; rfl, hb3.trans (hb2.mono hs3)⟩
              case measure => simp [intOf]; omega
            · go_wp2_with fail
              refine wp_region_ext (by kernel_rfl) (by kernel_rfl) ?_
              repeat (go_big_quiet_step ((go_at_call 37; first | with_reducible exact calls_ext_same (l01Has_as e1 (SlR.ext hn3 (by omega) _)) | with_reducible exact calls_ext_same (l01Has_as e2 (SlR.ext hdk (by omega) _)))))
              refine wpQuiet_nil ?_
              intro w2 hb2
              go_wp2_with fail
              go_ret
              exact ⟨ret_bool (by simp [poolOk, Hgo.out, e1, e2]), Hfin3.out _ hb2⟩
        · have hkn : k = drawn.length := by omega
          subst hkn
          rw [List.drop_length, drawnGo] at hgo
          have Hgo := Lib.hid hgo
          clear hgo
          go_wp2_with (go_at_call 38; refine (l03Is_any _ _).mono ?_; rintro e w' ⟨rfl, rfl⟩)
          all_goals go_ret
          all_goals exact ⟨ret_bool (by simp [poolOk, Hinc.out, Hgo.out]; try omega), hBr3⟩
end Go.Proofs.YtodfkbgifoecbaaGreatDoor
