/- AreCalls, the program's and the reference's: both answer the same function of the list. No condition but the sizes that the law itself asks. -/
import Derived.Test.YtbboihodikhhkaaCallA
import Derived.Test.YtbboihodikhhkaaIntB
namespace Go.Proofs.Ytbboihodikhhkaa
open Go.RowKit

def C4.ok (c : C4) : Bool := inB c.num 1 1000000 && inB c.day 0 20000 && inB c.first 0 c.day && inB c.moves 0 2 && ((c.day == c.first) == (c.moves == 0))
set_option maxHeartbeats 400000 in
theorem valid_any (c : C4) (w : World) :
    Calls Try.prog 90 #[c.val] w fun e w' => e = .returned (.bool c.ok) ∧ Below w.heap.size w w' := by
  obtain ⟨n, f, d, m⟩ := c
  unfold C4.val
  dsimp only
  go_enter Try.func90, Try.ntmps90
  go_wp2_with (first | (go_at_call 77; refine (within_any _ _ _ _).mono ?_; rintro e w' ⟨rfl, rfl⟩) | (go_at_call 45; refine (isDay_any _ _).mono ?_; rintro e w' ⟨rfl, rfl⟩) | (go_at_call 46; refine (isNumber_any _ _).mono ?_; rintro e w' ⟨rfl, rfl⟩))
  all_goals go_ret
  all_goals exact ⟨by simp [C4.ok, *], (Below.refl _ _).alloc (Nat.le_refl _) _⟩
def C4.behind : Option C4 → C4 → Bool
  | none, _ => true
  | some p, c => decide (p.num < c.num)
def callsGo : Option C4 → List C4 → Bool
  | _, [] => true
  | p, c :: t => c.ok && C4.behind p c && callsGo (some c) t
def callsOk (cs : List C4) : Bool := callsGo none cs && decide (cs.length ≤ 20)

theorem valid_as {c : C4} {r : Bool} (h : c.ok = r) (w : World) :
    Calls Try.prog 90 #[.agg #[.int .i64 c.num, .int .i64 c.first, .int .i64 c.day, .int .i64 c.moves]] w fun e w' => e = .returned (.bool r) ∧ Below w.heap.size w w' := h ▸ valid_any c w

set_option maxRecDepth 100000 in
set_option maxHeartbeats 1000000 in
theorem implAreCalls_any (v : Value) (cs : List C4) (w : World) (lo : Nat) (h : SlC4 w lo w.heap.size v cs) :
    Calls Try.prog 71 #[v] w fun e w' => e = .returned (.bool (callsOk cs)) ∧ Below w.heap.size w w' := by
  obtain ⟨A, c, rfl, hc1, hc2⟩ := h.form
  go_enter Try.func71, Try.ntmps71
  go_wp2_with fail
  go_loopw [7] (fun i wr => ∃ (k : Nat), i = .int .i64 k ∧ k ≤ cs.length ∧ callsGo none cs = callsGo (prevAt cs k) (cs.drop k) ∧ Below w.heap.size w wr) (fun i wr => cs.length - (intOf i).toNat)
  case atStart => exact ⟨0, rfl, Nat.zero_le _, rfl, Below.refl _ _⟩
  case round =>
    obtain ⟨k, rfl, hk, hgo, hbr⟩ := hrel
    by_cases hlt : k < cs.length
    · obtain ⟨x, hx⟩ := some_at hlt
      rw [drop_cons hx, callsGo] at hgo
      obtain ⟨b, off, rfl, _, hb, c0, c1, c2, c3⟩ := ((h.below hbr (Nat.le_refl _)).more (Nat.le_refl _) hbr.size).C4_at hx
      have hb' : b < wr.heap.size + 1 := by omega
      have Hgo := Lib.hid hgo
      have Hx := Lib.hid hx
      clear hx hgo
      have e1 : ∀ w2, Below (wr.heap.size + 1) (wr.alloc (.cells #[.int .i64 x.num, .int .i64 x.first, .int .i64 x.day, .int .i64 x.moves] 97)) w2 → Below w.heap.size w w2 := fun w2 h2 => (hbr.alloc hbr.size _).trans (h2.mono (by have := hbr.size; omega))
      have E1 := Lib.hid e1
      clear e1
      cases hv : x.ok
      · go_wp2_with fail
        refine wp_region_ext (by kernel_rfl) (by kernel_rfl) ?_
        repeat (go_big_quiet_step ((go_at_call 90; exact calls_ext (valid_as hv _))))
        refine wpQuiet_nil ?_
        intro w2 hb2
        go_wp2_with fail
        go_ret
        exact ⟨ret_bool (by simp [callsOk, Hgo.out, hv]), E1.out _ (by simpa using hb2)⟩
      · by_cases hk0 : k = 0
        · have hd : decide ((0 : Int) < (k : Int)) = false := by simp [hk0]
          have hd' : decide (0 < k) = false := by simp [hk0]
          have Hk0 := Lib.hid hk0
          clear hk0
          go_wp2_with fail
          refine wp_region_ext (by kernel_rfl) (by kernel_rfl) ?_
          repeat (go_big_quiet_step ((go_at_call 90; exact calls_ext (valid_as hv _))))
          refine wpQuiet_nil ?_
          intro w2 hb2
          go_wp2_with fail
          go_roundw
          case rel => exact ⟨k + 1, by go_num, hlt, by rw [Hgo.out, hv, prevAt_succ Hx.out, Hk0.out, prevAt_zero]; rfl, E1.out _ (by simpa using hb2)⟩
          case measure => simp [intOf]; omega
        · have hd : decide ((0 : Int) < (k : Int)) = true := by simp; omega
          have hd' : decide (0 < k) = true := by simp; omega
          have hk1 : 0 < k := by omega
          have hb2' : b < wr.heap.size := hb
          obtain ⟨p, hp⟩ := some_at (l := cs) (k := k - 1) (by omega)
          have hpk : prevAt cs k = some p := by simp [prevAt, hk0, hp]
          obtain ⟨b2, off2, ee, _, hb2, d0, d1, d2, d3⟩ := ((h.below hbr (Nat.le_refl _)).more (Nat.le_refl _) hbr.size).C4_at hp
          injection ee with ee
          injection ee with ee1 ee2
          subst ee1 ee2
          have Hpk := Lib.hid hpk
          clear hp hpk
          by_cases hq : p.num < x.num
          · go_wp2_with fail
            refine wp_region_ext (by kernel_rfl) (by kernel_rfl) ?_
            repeat (go_big_quiet_step ((go_at_call 90; exact calls_ext (valid_as hv _))))
            refine wpQuiet_nil ?_
            intro w2 hb2
            go_wp2_with fail
            go_roundw
            case rel => exact ⟨k + 1, by go_num, hlt, by rw [Hgo.out, hv, prevAt_succ Hx.out, Hpk.out]; simp [C4.behind, hq], E1.out _ (by simpa using hb2)⟩
            case measure => simp [intOf]; omega
          · go_wp2_with fail
            refine wp_region_ext (by kernel_rfl) (by kernel_rfl) ?_
            repeat (go_big_quiet_step ((go_at_call 90; exact calls_ext (valid_as hv _))))
            refine wpQuiet_nil ?_
            intro w2 hb2
            go_wp2_with fail
            go_ret
            have hq' : ¬ p.num < x.num := by omega
            exact ⟨ret_bool (by simp [callsOk, Hgo.out, hv, Hpk.out, C4.behind, hq']), E1.out _ (by simpa using hb2)⟩
    · have hkn : k = cs.length := by omega
      subst hkn
      rw [List.drop_length, callsGo] at hgo
      have Hgo := Lib.hid hgo
      clear hgo
      go_wp2_with (go_at_call 69; refine (few_any _ _ _).mono ?_; rintro e w' ⟨rfl, rfl⟩)
      go_ret
      exact ⟨ret_bool (by rw [Bool.eq_iff_iff]; simp [callsOk, Hgo.out]; omega), hbr⟩


/-- The bad field is found, whichever it is. -/
theorem ok_false {c : C4} (h : c.ok = false) : inB c.num 1 1000000 = false ∨ (inB c.num 1 1000000 = true ∧ (inB c.day 0 20000 = false ∨ (inB c.day 0 20000 = true ∧ (inB c.first 0 c.day = false ∨ (inB c.first 0 c.day = true ∧
    (inB c.moves 0 2 = false ∨ (inB c.moves 0 2 = true ∧ (((c.moves == 0) = true ∧ (c.first == c.day) = false) ∨ ((c.moves == 0) = false ∧ (c.first == c.day) = true))))))))) := by
  unfold C4.ok at h
  rw [show (c.day == c.first) = (c.first == c.day) from Bool.eq_iff_iff.2 (by simp only [beq_iff_eq]; exact eq_comm)] at h
  cases h1 : inB c.num 1 1000000 <;> cases h2 : inB c.day 0 20000 <;> cases h3 : inB c.first 0 c.day <;> cases h4 : inB c.moves 0 2 <;> cases h5 : c.moves == 0 <;> cases h6 : c.first == c.day <;> rw [h1, h2, h3, h4, h5, h6] at h <;> first | (exact absurd h (by decide)) | decide
theorem ok_true {c : C4} (h : c.ok = true) : inB c.num 1 1000000 = true ∧ inB c.day 0 20000 = true ∧ inB c.first 0 c.day = true ∧ inB c.moves 0 2 = true ∧ (((c.moves == 0) = true ∧ (c.first == c.day) = true) ∨ ((c.moves == 0) = false ∧ (c.first == c.day) = false)) := by
  unfold C4.ok at h
  rw [show (c.day == c.first) = (c.first == c.day) from Bool.eq_iff_iff.2 (by simp only [beq_iff_eq]; exact eq_comm)] at h
  cases h1 : inB c.num 1 1000000 <;> cases h2 : inB c.day 0 20000 <;> cases h3 : inB c.first 0 c.day <;> cases h4 : inB c.moves 0 2 <;> cases h5 : c.moves == 0 <;> cases h6 : c.first == c.day <;> rw [h1, h2, h3, h4, h5, h6] at h <;> first | (exact absurd h (by decide)) | decide

set_option maxRecDepth 100000 in
set_option maxHeartbeats 4000000 in
theorem specAreCalls_any (v : Value) (cs : List C4) (w : World) (lo : Nat) (h : SlC4 w lo w.heap.size v cs) :
    Calls Try.prog 73 #[v] w fun e w' => e = .returned (.bool (callsOk cs)) ∧ Below w.heap.size w w' := by
  obtain ⟨A, c, rfl, hc1, hc2⟩ := h.form
  go_enter Try.func73, Try.ntmps73
  go_wp2_with fail
  go_loopw [3] (fun i wr => ∃ (k : Nat), i = .int .i64 k ∧ k ≤ cs.length ∧ callsGo none cs = callsGo (prevAt cs k) (cs.drop k) ∧ Below w.heap.size w wr) (fun i wr => cs.length - (intOf i).toNat)
  case atStart => exact ⟨0, rfl, Nat.zero_le _, rfl, Below.refl _ _⟩
  case round =>
    obtain ⟨k, rfl, hk, hgo, hbr⟩ := hrel
    by_cases hlt : k < cs.length
    · obtain ⟨x, hx⟩ := some_at hlt
      rw [drop_cons hx, callsGo] at hgo
      obtain ⟨b, off, rfl, _, hb, c0, c1, c2, c3⟩ := ((h.below hbr (Nat.le_refl _)).more (Nat.le_refl _) hbr.size).C4_at hx
      have hb' : b < wr.heap.size + 1 := by omega
      have Hgo := Lib.hid hgo
      have Hx := Lib.hid hx
      clear hx hgo
      have e1 : ∀ w2, Below (wr.heap.size + 1) (wr.alloc (.cells #[.int .i64 x.num, .int .i64 x.first, .int .i64 x.day, .int .i64 x.moves] 97)) w2 → Below w.heap.size w w2 := fun w2 h2 => (hbr.alloc hbr.size _).trans (h2.mono (by have := hbr.size; omega))
      have E1 := Lib.hid e1
      clear e1
      cases hv : x.ok
      · have Hv := Lib.hid hv
        rcases ok_false hv with h1 | ⟨h1, h2 | ⟨h2, h3 | ⟨h3, h4 | ⟨h4, ⟨h5, h6⟩ | ⟨h5, h6⟩⟩⟩⟩⟩
        all_goals
          clear hv
          go_wp2_with fail
          refine wp_region_ext (by kernel_rfl) (by kernel_rfl) ?_
          repeat (go_big_quiet_step ((first | (go_at_call 41; exact calls_ext_same (l01In_as (by assumption) _)) | (go_at_call 40; exact calls_ext_same (l02Is_as (by assumption) _)))))
          refine wpQuiet_nil ?_
          intro w2 hb2
          go_wp2_with fail
          go_ret
          exact ⟨ret_bool (by simp [callsOk, Hgo.out, Hv.out]), E1.out _ (by simpa using hb2)⟩
      · have Hv := Lib.hid hv
        by_cases hk0 : k = 0
        · have hd : decide ((0 : Int) < (k : Int)) = false := by simp [hk0]
          have hd' : decide (0 < k) = false := by simp [hk0]
          have Hk0 := Lib.hid hk0
          clear hk0
          obtain ⟨h1, h2, h3, h4, ⟨h5, h6⟩ | ⟨h5, h6⟩⟩ := ok_true hv
          all_goals
            clear hv
            go_wp2_with fail
            refine wp_region_ext (by kernel_rfl) (by kernel_rfl) ?_
            repeat (go_big_quiet_step ((first | (go_at_call 41; exact calls_ext_same (l01In_as (by assumption) _)) | (go_at_call 40; exact calls_ext_same (l02Is_as (by assumption) _)))))
            refine wpQuiet_nil ?_
            intro w2 hb2
            go_wp2_with fail
            go_roundw
            case rel => exact ⟨k + 1, by go_num, hlt, by rw [Hgo.out, Hv.out, prevAt_succ Hx.out, Hk0.out, prevAt_zero]; rfl, E1.out _ (by simpa using hb2)⟩
            case measure => simp [intOf]; omega
        · have hd : decide ((0 : Int) < (k : Int)) = true := by simp; omega
          have hd' : decide (0 < k) = true := by simp; omega
          have hk1 : 0 < k := by omega
          obtain ⟨p, hp⟩ := some_at (l := cs) (k := k - 1) (by omega)
          have hpk : prevAt cs k = some p := by simp [prevAt, hk0, hp]
          obtain ⟨b2, off2, ee, _, hb2, d0, d1, d2, d3⟩ := ((h.below hbr (Nat.le_refl _)).more (Nat.le_refl _) hbr.size).C4_at hp
          injection ee with ee
          injection ee with ee1 ee2
          subst ee1 ee2
          have Hpk := Lib.hid hpk
          clear hp hpk
          by_cases hq : p.num < x.num
          · obtain ⟨h1, h2, h3, h4, ⟨h5, h6⟩ | ⟨h5, h6⟩⟩ := ok_true hv
            all_goals
              clear hv
              go_wp2_with fail
              refine wp_region_ext (by kernel_rfl) (by kernel_rfl) ?_
              repeat (go_big_quiet_step ((first | (go_at_call 41; exact calls_ext_same (l01In_as (by assumption) _)) | (go_at_call 40; exact calls_ext_same (l02Is_as (by assumption) _)))))
              refine wpQuiet_nil ?_
              intro w2 hb2
              go_wp2_with fail
              go_roundw
              case rel => exact ⟨k + 1, by go_num, hlt, by rw [Hgo.out, Hv.out, prevAt_succ Hx.out, Hpk.out]; simp [C4.behind, hq], E1.out _ (by simpa using hb2)⟩
              case measure => simp [intOf]; omega
          · obtain ⟨h1, h2, h3, h4, ⟨h5, h6⟩ | ⟨h5, h6⟩⟩ := ok_true hv
            all_goals
              clear hv
              go_wp2_with fail
              refine wp_region_ext (by kernel_rfl) (by kernel_rfl) ?_
              repeat (go_big_quiet_step ((first | (go_at_call 41; exact calls_ext_same (l01In_as (by assumption) _)) | (go_at_call 40; exact calls_ext_same (l02Is_as (by assumption) _)))))
              refine wpQuiet_nil ?_
              intro w2 hb2
              go_wp2_with fail
              go_ret
              have hq' : ¬ p.num < x.num := by omega
              exact ⟨ret_bool (by simp [callsOk, Hgo.out, Hv.out, Hpk.out, C4.behind, hq']), E1.out _ (by simpa using hb2)⟩
    · have hkn : k = cs.length := by omega
      subst hkn
      rw [List.drop_length, callsGo] at hgo
      have Hgo := Lib.hid hgo
      clear hgo
      go_wp2_with fail
      go_ret
      exact ⟨ret_bool (by rw [Bool.eq_iff_iff]; simp [callsOk, Hgo.out]; omega), hbr⟩
end Go.Proofs.Ytbboihodikhhkaa
