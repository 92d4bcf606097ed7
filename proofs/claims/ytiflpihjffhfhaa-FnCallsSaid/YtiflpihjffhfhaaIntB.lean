/- Contracts: increasing lists, holidays, court days. No condition. -/
import Derived.Test.YtiflpihjffhfhaaIntA
namespace Go.Proofs.Ytiflpihjffhfhaa
open Go.RowKit

def afterB : Option Int → Int → Bool
  | none, _ => true
  | some p, z => decide (p < z)
/-- Strictly increasing, all in lo .. hi. -/
def incGo (lo hi : Int) : Option Int → List Int → Bool
  | _, [] => true
  | p, z :: t => inB z lo hi && afterB p z && incGo lo hi (some z) t

def prevAt {α : Type} (xs : List α) (k : Nat) : Option α := if k = 0 then none else xs[k - 1]?
theorem prevAt_succ {α : Type} {xs : List α} {k : Nat} {x : α} (h : xs[k]? = some x) : prevAt xs (k + 1) = some x := by simp [prevAt, h]
theorem prevAt_zero {α : Type} (xs : List α) : prevAt xs 0 = none := rfl
theorem prevAt_pos {α : Type} {xs : List α} {k : Nat} {x : α} (h0 : ¬ k = 0) (h : xs[k - 1]? = some x) : prevAt xs k = some x := by simp [prevAt, h, h0]

set_option maxHeartbeats 1000000 in
theorem increasing_any (v : Value) (zs : List Int) (l h : Int) (w : World) (lo hi : Nat) (hz : SlI w lo hi v zs) :
    Calls Try.prog 152 #[v, .int .i64 l, .int .i64 h] w fun e w' => e = .returned (.bool (incGo l h none zs)) ∧ w = w' := by
  obtain ⟨A, c, rfl, hc1, hc2⟩ := hz.form
  go_enter Try.func152, Try.ntmps152
  go_wp2_with fail
  go_loop [11] (fun i => ∃ (k : Nat), i = .int .i64 k ∧ k ≤ zs.length ∧ incGo l h none zs = incGo l h (prevAt zs k) (zs.drop k)) (fun i => zs.length - (intOf i).toNat)
  case atStart => exact ⟨0, rfl, Nat.zero_le _, rfl⟩
  case round =>
    obtain ⟨k, rfl, hk, hgo⟩ := hrel
    by_cases hlt : k < zs.length
    · obtain ⟨x, hx⟩ := some_at hlt
      rw [drop_cons hx, incGo] at hgo
      obtain ⟨b, off, rfl, _, _, c0⟩ := hz.int_at hx
      have Hgo := Lib.hid hgo
      have Hx := Lib.hid hx
      clear hx hgo
      by_cases hk0 : k = 0
      · have hd : decide ((0 : Int) < (k : Int)) = false := by simp [hk0]
        have hd' : decide (0 < k) = false := by simp [hk0]
        have Hk0 := Lib.hid hk0
        clear hk0
        go_wp2_with (go_at_call 128; refine (within_any _ _ _ _).mono ?_; rintro e w' ⟨rfl, rfl⟩)
        · have hi1 : inB x l h = true := by assumption
          go_round
          case rel => exact ⟨k + 1, by go_num, hlt, by rw [Hgo.out, prevAt_succ Hx.out, Hk0.out, prevAt_zero, hi1]; rfl⟩
          case measure => simp [intOf]; omega
        · have hi1 : ¬ inB x l h = true := by assumption
          go_ret
          exact ⟨ret_bool (by rw [Hgo.out]; simp [hi1]), rfl⟩
      · have hd : decide ((0 : Int) < (k : Int)) = true := by simp; omega
        have hd' : decide (0 < k) = true := by simp; omega
        have hk1 : 0 < k := by omega
        obtain ⟨p, hp⟩ := some_at (l := zs) (k := k - 1) (by omega)
        obtain ⟨b2, off2, ee, _, _, d0⟩ := hz.int_at hp
        injection ee with ee
        injection ee with ee1 ee2
        subst ee1 ee2
        have Hpk := Lib.hid (prevAt_pos hk0 hp)
        clear hp
        go_wp2_with (go_at_call 128; refine (within_any _ _ _ _).mono ?_; rintro e w' ⟨rfl, rfl⟩)
        · have hi1 : inB x l h = true := by assumption
          have hq : x ≤ p := by assumption
          have hq' : decide (p < x) = false := by simp; omega
          go_ret
          exact ⟨ret_bool (by rw [Hgo.out, Hpk.out, afterB, hq']; simp), rfl⟩
        · have hi1 : inB x l h = true := by assumption
          have hq : p < x := by assumption
          go_round
          case rel => exact ⟨k + 1, by go_num, hlt, by rw [Hgo.out, prevAt_succ Hx.out, Hpk.out, afterB, hi1]; simp [hq]⟩
          case measure => simp [intOf]; omega
        · have hi1 : ¬ inB x l h = true := by assumption
          go_ret
          exact ⟨ret_bool (by rw [Hgo.out]; simp [hi1]), rfl⟩
    · have hkn : k = zs.length := by omega
      subst hkn
      rw [List.drop_length, incGo] at hgo
      have Hgo := Lib.hid hgo
      clear hgo
      go_wp2_with fail
      go_ret
      exact ⟨ret_bool Hgo.out.symm, rfl⟩

def holB (zs : List Int) : Bool := decide (zs.length ≤ 40) && incGo 0 20000 none zs
set_option maxHeartbeats 400000 in
theorem implAreHolidays_any (v : Value) (zs : List Int) (w : World) (lo hi : Nat) (hz : SlI w lo hi v zs) :
    Calls Try.prog 97 #[v] w fun e w' => e = .returned (.bool (holB zs)) ∧ w = w' := by
  obtain ⟨A, c, rfl, hc1, hc2⟩ := hz.form
  go_enter Try.func97, Try.ntmps97
  go_wp2_with (first | (go_at_call 108; refine (few_any _ _ _).mono ?_; rintro e w' ⟨rfl, rfl⟩) | (go_at_call 152; refine (increasing_any _ zs _ _ _ lo hi hz).mono ?_; rintro e w' ⟨rfl, rfl⟩))
  · have h1 : zs.length ≤ 40 := by omega
    go_ret
    exact ⟨ret_bool (by simp [holB, h1]), rfl⟩
  · have h1 : ¬ zs.length ≤ 40 := by omega
    go_ret
    exact ⟨ret_bool (by simp [holB, h1]), rfl⟩
set_option maxHeartbeats 1000000 in
theorem specAreHolidays_any (v : Value) (zs : List Int) (w : World) (lo : Nat) (hz : SlI w lo w.heap.size v zs) :
    Calls Try.prog 102 #[v] w fun e w' => e = .returned (.bool (holB zs)) ∧ Below w.heap.size w w' := by
  obtain ⟨A, c, rfl, hc1, hc2⟩ := hz.form
  go_enter Try.func102, Try.ntmps102
  go_wp2_with fail
  go_loopw [3] (fun i wr => ∃ (k : Nat), i = .int .i64 k ∧ k ≤ zs.length ∧ incGo 0 20000 none zs = incGo 0 20000 (prevAt zs k) (zs.drop k) ∧ Below w.heap.size w wr) (fun i wr => zs.length - (intOf i).toNat)
  case atStart => exact ⟨0, rfl, Nat.zero_le _, rfl, Below.refl _ _⟩
  case round =>
    obtain ⟨k, rfl, hk, hgo, hbr⟩ := hrel
    by_cases hlt : k < zs.length
    · obtain ⟨x, hx⟩ := some_at hlt
      rw [drop_cons hx, incGo] at hgo
      obtain ⟨b, off, rfl, _, hb, c0⟩ := ((hz.below hbr (Nat.le_refl _)).more (Nat.le_refl _) hbr.size).int_at hx
      have Hgo := Lib.hid hgo
      have Hx := Lib.hid hx
      clear hx hgo
      cases hv : inB x 0 20000
      · go_wp2_with fail
        refine wp_region_ext (by kernel_rfl) (by kernel_rfl) ?_
        repeat (go_big_quiet_step ((go_at_call 104; exact calls_ext_same (l02Is_as hv _))))
        refine wpQuiet_nil ?_
        intro w2 hb2
        go_wp2_with fail
        go_ret
        exact ⟨ret_bool (by simp [holB, Hgo.out, hv]), hbr.trans (hb2.mono hbr.size)⟩
      · by_cases hk0 : k = 0
        · have hd : decide ((0 : Int) < (k : Int)) = false := by simp [hk0]
          have hd' : decide (0 < k) = false := by simp [hk0]
          have Hk0 := Lib.hid hk0
          clear hk0
          go_wp2_with fail
          refine wp_region_ext (by kernel_rfl) (by kernel_rfl) ?_
          repeat (go_big_quiet_step ((go_at_call 104; exact calls_ext_same (l02Is_as hv _))))
          refine wpQuiet_nil ?_
          intro w2 hb2
          go_wp2_with fail
          go_roundw
          case rel => exact ⟨k + 1, by go_num, hlt, by rw [Hgo.out, hv, prevAt_succ Hx.out, Hk0.out, prevAt_zero]; rfl, hbr.trans (hb2.mono hbr.size)⟩
          case measure => simp [intOf]; omega
        · have hd : decide ((0 : Int) < (k : Int)) = true := by simp; omega
          have hd' : decide (0 < k) = true := by simp; omega
          have hk1 : 0 < k := by omega
          obtain ⟨p, hp⟩ := some_at (l := zs) (k := k - 1) (by omega)
          obtain ⟨b2, off2, ee, _, _, d0⟩ := ((hz.below hbr (Nat.le_refl _)).more (Nat.le_refl _) hbr.size).int_at hp
          injection ee with ee
          injection ee with ee1 ee2
          subst ee1 ee2
          have Hpk := Lib.hid (prevAt_pos hk0 hp)
          clear hp
          by_cases hq : p < x
          · go_wp2_with fail
            refine wp_region_ext (by kernel_rfl) (by kernel_rfl) ?_
            repeat (go_big_quiet_step ((go_at_call 104; exact calls_ext_same (l02Is_as hv _))))
            refine wpQuiet_nil ?_
            intro w2 hb2
            go_wp2_with fail
            go_roundw
            case rel => exact ⟨k + 1, by go_num, hlt, by rw [Hgo.out, hv, prevAt_succ Hx.out, Hpk.out, afterB]; simp [hq], hbr.trans (hb2.mono hbr.size)⟩
            case measure => simp [intOf]; omega
          · go_wp2_with fail
            refine wp_region_ext (by kernel_rfl) (by kernel_rfl) ?_
            repeat (go_big_quiet_step ((go_at_call 104; exact calls_ext_same (l02Is_as hv _))))
            refine wpQuiet_nil ?_
            intro w2 hb2
            go_wp2_with fail
            have hq' : decide (p < x) = false := by simp; omega
            go_ret
            exact ⟨ret_bool (by rw [holB, Hgo.out, Hpk.out, afterB, hq']; simp), hbr.trans (hb2.mono hbr.size)⟩
    · have hkn : k = zs.length := by omega
      subst hkn
      rw [List.drop_length, incGo] at hgo
      have Hgo := Lib.hid hgo
      clear hgo
      go_wp2_with fail
      go_ret
      exact ⟨ret_bool (by rw [Bool.eq_iff_iff]; simp [holB, Hgo.out]; omega), hbr⟩

def courtB (hs : List Int) (day : Int) : Bool := decide (day.tmod 7 < 5) && !hasB day hs
set_option maxHeartbeats 400000 in
theorem l02Court_any (v : Value) (zs : List Int) (x : Int) (w : World) (lo hi : Nat) (h : SlI w lo hi v zs) :
    Calls Try.prog 105 #[v, .int .i64 x] w fun e w' => e = .returned (.bool (courtB zs x)) ∧ w = w' := by
  obtain ⟨A, c, rfl, hc1, hc2⟩ := h.form
  go_enter Try.func105, Try.ntmps105
  go_wp2_with (go_at_call 156; refine (l01Has_any _ zs x _ lo hi h).mono ?_; rintro e w' ⟨rfl, rfl⟩)
  all_goals go_ret
  all_goals exact ⟨ret_bool (by simp [courtB]; omega), rfl⟩
set_option maxHeartbeats 400000 in
theorem isCourtDay_any (v : Value) (zs : List Int) (x : Int) (w : World) (lo hi : Nat) (h : SlI w lo hi v zs) :
    Calls Try.prog 100 #[v, .int .i64 x] w fun e w' => e = .returned (.bool (courtB zs x)) ∧ w = w' := by
  obtain ⟨A, c, rfl, hc1, hc2⟩ := h.form
  go_enter Try.func100, Try.ntmps100
  go_wp2_with (go_at_call 153; refine (has_any _ zs x _ lo hi h).mono ?_; rintro e w' ⟨rfl, rfl⟩)
  all_goals go_ret
  all_goals exact ⟨ret_bool (by simp [courtB]; omega), rfl⟩
end Go.Proofs.Ytiflpihjffhfhaa
