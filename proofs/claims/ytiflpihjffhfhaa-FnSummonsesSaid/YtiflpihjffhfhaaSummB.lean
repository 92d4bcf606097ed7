/- AreSummonses, the program's and the reference's: both answer the same function of the list. No condition. -/
import Derived.Test.YtiflpihjffhfhaaSummA
import Derived.Test.YtiflpihjffhfhaaIntB
namespace Go.Proofs.Ytiflpihjffhfhaa
open Go.RowKit

def S5.ok (x : S5) : Bool := inB x.num 1 1000000 && inB x.sent 0 20000 && inB x.due x.sent 20000 && inB x.ans 0 3 && (if x.ans = 0 then x.answered == 0 else inB x.answered x.sent 20000)

set_option maxHeartbeats 1000000 in
theorem validS5_any (c : S5) (w : World) :
    Calls Try.prog 137 #[.agg #[.int .i64 c.num, .int .i64 c.sent, .int .i64 c.due, .int .i64 c.ans, .int .i64 c.answered]] w fun e w' => e = .returned (.bool c.ok) ∧ Below w.heap.size w w' := by
  obtain ⟨n, f, d, m, q⟩ := c
  dsimp only
  go_enter Try.func137, Try.ntmps137
  go_wp2_with (first | (go_at_call 128; refine (within_any _ _ _ _).mono ?_; rintro e w' ⟨rfl, rfl⟩) | (go_at_call 98; refine (isDay_any _ _).mono ?_; rintro e w' ⟨rfl, rfl⟩) | (go_at_call 99; refine (isNumber_any _ _).mono ?_; rintro e w' ⟨rfl, rfl⟩))
  all_goals go_ret
  all_goals exact ⟨by simp_all [S5.ok], (Below.refl _ _).alloc (Nat.le_refl _) _⟩

set_option maxHeartbeats 1000000 in
theorem vspecS5_any (c : S5) (w : World) :
    Calls Try.prog 138 #[.agg #[.int .i64 c.num, .int .i64 c.sent, .int .i64 c.due, .int .i64 c.ans, .int .i64 c.answered]] w fun e w' => e = .returned (.bool c.ok) ∧ Below w.heap.size w w' := by
  obtain ⟨n, f, d, m, q⟩ := c
  dsimp only
  go_enter Try.func138, Try.ntmps138
  go_wp2_with (first | (go_at_call 103; refine (l01In_any _ _ _ _).mono ?_; rintro e w' ⟨rfl, rfl⟩) | (go_at_call 104; refine (l02Is_any _ _).mono ?_; rintro e w' ⟨rfl, rfl⟩))
  all_goals go_ret
  all_goals exact ⟨by simp_all [S5.ok], (Below.refl _ _).alloc (Nat.le_refl _) _⟩

def S5.behind : Option S5 → S5 → Bool
  | none, _ => true
  | some p, c => decide (p.num < c.num)
def risesGoS5 : Option S5 → List S5 → Bool
  | _, [] => true
  | p, c :: t => c.ok && S5.behind p c && risesGoS5 (some c) t
def listOkS5 (cs : List S5) : Bool := risesGoS5 none cs && decide (cs.length ≤ 20)

theorem validS5_as {c : S5} {r : Bool} (h : c.ok = r) (w : World) :
    Calls Try.prog 137 #[.agg #[.int .i64 c.num, .int .i64 c.sent, .int .i64 c.due, .int .i64 c.ans, .int .i64 c.answered]] w fun e w' => e = .returned (.bool r) ∧ Below w.heap.size w w' := h ▸ validS5_any c w
theorem vspecS5_as {c : S5} {r : Bool} (h : c.ok = r) (w : World) :
    Calls Try.prog 138 #[.agg #[.int .i64 c.num, .int .i64 c.sent, .int .i64 c.due, .int .i64 c.ans, .int .i64 c.answered]] w fun e w' => e = .returned (.bool r) ∧ Below w.heap.size w w' := h ▸ vspecS5_any c w

set_option maxRecDepth 100000 in
set_option maxHeartbeats 2000000 in
theorem implAreSummonses_any (v : Value) (cs : List S5) (w : World) (lo : Nat) (h : SlS5 w lo w.heap.size v cs) :
    Calls Try.prog 57 #[v] w fun e w' => e = .returned (.bool (listOkS5 cs)) ∧ Below w.heap.size w w' := by
  obtain ⟨A, c, rfl, hc1, hc2⟩ := h.form
  go_enter Try.func57, Try.ntmps57
  go_wp2_with fail
  go_loopw [7] (fun i wr => ∃ (k : Nat), i = .int .i64 k ∧ k ≤ cs.length ∧ risesGoS5 none cs = risesGoS5 (prevAt cs k) (cs.drop k) ∧ Below w.heap.size w wr) (fun i wr => cs.length - (intOf i).toNat)
  case atStart => exact ⟨0, rfl, Nat.zero_le _, rfl, Below.refl _ _⟩
  case round =>
    obtain ⟨k, rfl, hk, hgo, hbr⟩ := hrel
    by_cases hlt : k < cs.length
    · obtain ⟨x, hx⟩ := some_at hlt
      rw [drop_cons hx, risesGoS5] at hgo
      obtain ⟨b, off, rfl, _, hb, c0, c1, c2, c3, c4⟩ := SlR.S5_at ((h.below hbr (Nat.le_refl _)).more (Nat.le_refl _) hbr.size) hx
      have hb' : b < wr.heap.size + 1 := by omega
      have Hgo := Lib.hid hgo
      have Hx := Lib.hid hx
      clear hx hgo
      have e1 : ∀ w2, Below (wr.heap.size + 1) (wr.alloc (.cells #[.int .i64 x.num, .int .i64 x.sent, .int .i64 x.due, .int .i64 x.ans, .int .i64 x.answered] 108)) w2 → Below w.heap.size w w2 := fun w2 h2 => (hbr.alloc hbr.size _).trans (h2.mono (by have := hbr.size; omega))
      have E1 := Lib.hid e1
      clear e1
      cases hv : x.ok
      · go_wp2_with fail
        refine wp_region_ext (by kernel_rfl) (by kernel_rfl) ?_
        repeat (go_big_quiet_step ((go_at_call 137; exact calls_ext (validS5_as hv _))))
        refine wpQuiet_nil ?_
        intro w2 hb2
        go_wp2_with fail
        go_ret
        exact ⟨ret_bool (by simp [listOkS5, Hgo.out, hv]), E1.out _ (by simpa using hb2)⟩
      · by_cases hk0 : k = 0
        · have hd : decide ((0 : Int) < (k : Int)) = false := by simp [hk0]
          have hd' : decide (0 < k) = false := by simp [hk0]
          have Hk0 := Lib.hid hk0
          clear hk0
          go_wp2_with fail
          refine wp_region_ext (by kernel_rfl) (by kernel_rfl) ?_
          repeat (go_big_quiet_step ((go_at_call 137; exact calls_ext (validS5_as hv _))))
          refine wpQuiet_nil ?_
          intro w2 hb2
          go_wp2_with fail
          go_roundw
          case rel => exact ⟨k + 1, by go_num, hlt, by rw [Hgo.out, hv, prevAt_succ Hx.out, Hk0.out, prevAt_zero]; rfl, E1.out _ (by simpa using hb2)⟩
          case measure => simp [intOf]; omega
        · have hd : decide ((0 : Int) < (k : Int)) = true := by simp; omega
          have hd' : decide (0 < k) = true := by simp; omega
          have hk1 : 0 < k := by omega
          obtain ⟨p, hp⟩ := some_at (l := cs) (k := k - 1) (by omega)
          obtain ⟨b2, off2, ee, _, hb2, d0, d1, d2, d3, d4⟩ := SlR.S5_at ((h.below hbr (Nat.le_refl _)).more (Nat.le_refl _) hbr.size) hp
          injection ee with ee
          injection ee with ee1 ee2
          subst ee1 ee2
          have Hpk := Lib.hid (prevAt_pos hk0 hp)
          clear hp
          by_cases hq : p.num < x.num
          · go_wp2_with fail
            refine wp_region_ext (by kernel_rfl) (by kernel_rfl) ?_
            repeat (go_big_quiet_step ((go_at_call 137; exact calls_ext (validS5_as hv _))))
            refine wpQuiet_nil ?_
            intro w2 hb2
            go_wp2_with fail
            go_roundw
            case rel => exact ⟨k + 1, by go_num, hlt, by rw [Hgo.out, hv, prevAt_succ Hx.out, Hpk.out]; simp [S5.behind, hq], E1.out _ (by simpa using hb2)⟩
            case measure => simp [intOf]; omega
          · go_wp2_with fail
            refine wp_region_ext (by kernel_rfl) (by kernel_rfl) ?_
            repeat (go_big_quiet_step ((go_at_call 137; exact calls_ext (validS5_as hv _))))
            refine wpQuiet_nil ?_
            intro w2 hb2
            go_wp2_with fail
            go_ret
            have hq' : ¬ p.num < x.num := by omega
            exact ⟨ret_bool (by simp [listOkS5, Hgo.out, hv, Hpk.out, S5.behind, hq']), E1.out _ (by simpa using hb2)⟩
    · have hkn : k = cs.length := by omega
      subst hkn
      rw [List.drop_length, risesGoS5] at hgo
      have Hgo := Lib.hid hgo
      clear hgo
      go_wp2_with (go_at_call 108; refine (few_any _ _ _).mono ?_; rintro e w' ⟨rfl, rfl⟩)
      go_ret
      exact ⟨ret_bool (by rw [Bool.eq_iff_iff]; simp [listOkS5, Hgo.out]; omega), hbr⟩

set_option maxRecDepth 100000 in
set_option maxHeartbeats 2000000 in
theorem specAreSummonses_any (v : Value) (cs : List S5) (w : World) (lo : Nat) (h : SlS5 w lo w.heap.size v cs) :
    Calls Try.prog 58 #[v] w fun e w' => e = .returned (.bool (listOkS5 cs)) ∧ Below w.heap.size w w' := by
  obtain ⟨A, c, rfl, hc1, hc2⟩ := h.form
  go_enter Try.func58, Try.ntmps58
  go_wp2_with fail
  go_loopw [3] (fun i wr => ∃ (k : Nat), i = .int .i64 k ∧ k ≤ cs.length ∧ risesGoS5 none cs = risesGoS5 (prevAt cs k) (cs.drop k) ∧ Below w.heap.size w wr) (fun i wr => cs.length - (intOf i).toNat)
  case atStart => exact ⟨0, rfl, Nat.zero_le _, rfl, Below.refl _ _⟩
  case round =>
    obtain ⟨k, rfl, hk, hgo, hbr⟩ := hrel
    by_cases hlt : k < cs.length
    · obtain ⟨x, hx⟩ := some_at hlt
      rw [drop_cons hx, risesGoS5] at hgo
      obtain ⟨b, off, rfl, _, hb, c0, c1, c2, c3, c4⟩ := SlR.S5_at ((h.below hbr (Nat.le_refl _)).more (Nat.le_refl _) hbr.size) hx
      have Hgo := Lib.hid hgo
      have Hx := Lib.hid hx
      clear hx hgo
      cases hv : x.ok
      · go_wp2_with fail
        refine wp_region_ext (by kernel_rfl) (by kernel_rfl) ?_
        repeat (go_big_quiet_step ((go_at_call 138; exact calls_ext (vspecS5_as hv _))))
        refine wpQuiet_nil ?_
        intro w2 hb2
        go_wp2_with fail
        go_ret
        exact ⟨ret_bool (by simp [listOkS5, Hgo.out, hv]), hbr.trans (hb2.mono hbr.size)⟩
      · by_cases hk0 : k = 0
        · have hd : decide ((0 : Int) < (k : Int)) = false := by simp [hk0]
          have hd' : decide (0 < k) = false := by simp [hk0]
          have Hk0 := Lib.hid hk0
          clear hk0
          go_wp2_with fail
          refine wp_region_ext (by kernel_rfl) (by kernel_rfl) ?_
          repeat (go_big_quiet_step ((go_at_call 138; exact calls_ext (vspecS5_as hv _))))
          refine wpQuiet_nil ?_
          intro w2 hb2
          go_wp2_with fail
          go_roundw
          case rel => exact ⟨k + 1, by go_num, hlt, by rw [Hgo.out, hv, prevAt_succ Hx.out, Hk0.out, prevAt_zero]; rfl, hbr.trans (hb2.mono hbr.size)⟩
          case measure => simp [intOf]; omega
        · have hd : decide ((0 : Int) < (k : Int)) = true := by simp; omega
          have hd' : decide (0 < k) = true := by simp; omega
          have hk1 : 0 < k := by omega
          obtain ⟨p, hp⟩ := some_at (l := cs) (k := k - 1) (by omega)
          obtain ⟨b2, off2, ee, _, hb2, d0, d1, d2, d3, d4⟩ := SlR.S5_at ((h.below hbr (Nat.le_refl _)).more (Nat.le_refl _) hbr.size) hp
          injection ee with ee
          injection ee with ee1 ee2
          subst ee1 ee2
          have Hpk := Lib.hid (prevAt_pos hk0 hp)
          clear hp
          by_cases hq : p.num < x.num
          · go_wp2_with fail
            refine wp_region_ext (by kernel_rfl) (by kernel_rfl) ?_
            repeat (go_big_quiet_step ((go_at_call 138; exact calls_ext (vspecS5_as hv _))))
            refine wpQuiet_nil ?_
            intro w2 hb2
            go_wp2_with fail
            go_roundw
            case rel => exact ⟨k + 1, by go_num, hlt, by rw [Hgo.out, hv, prevAt_succ Hx.out, Hpk.out]; simp [S5.behind, hq], hbr.trans (hb2.mono hbr.size)⟩
            case measure => simp [intOf]; omega
          · go_wp2_with fail
            refine wp_region_ext (by kernel_rfl) (by kernel_rfl) ?_
            repeat (go_big_quiet_step ((go_at_call 138; exact calls_ext (vspecS5_as hv _))))
            refine wpQuiet_nil ?_
            intro w2 hb2
            go_wp2_with fail
            go_ret
            have hq' : ¬ p.num < x.num := by omega
            exact ⟨ret_bool (by simp [listOkS5, Hgo.out, hv, Hpk.out, S5.behind, hq']), hbr.trans (hb2.mono hbr.size)⟩
    · have hkn : k = cs.length := by omega
      subst hkn
      rw [List.drop_length, risesGoS5] at hgo
      have Hgo := Lib.hid hgo
      clear hgo
      go_wp2_with fail
      go_ret
      exact ⟨ret_bool (by rw [Bool.eq_iff_iff]; simp [listOkS5, Hgo.out]; omega), hbr⟩

end Go.Proofs.Ytiflpihjffhfhaa
