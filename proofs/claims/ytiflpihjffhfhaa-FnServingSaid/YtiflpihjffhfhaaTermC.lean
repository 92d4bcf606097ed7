/- IsRested, DaysServed, RestedFrom: the program's and the reference's answer the same functions of the list. No condition. -/
import Derived.Test.YtiflpihjffhfhaaTermB
namespace Go.Proofs.Ytiflpihjffhfhaa
open Go.RowKit

theorem termsGo_all : ∀ (xs seen : List T3), termsGo seen xs = true → ∀ t ∈ xs, t.ok = true
  | [], _, _ => by simp
  | t :: r, seen, h => by
    rw [termsGo] at h
    simp only [Bool.and_eq_true] at h
    intro u hu
    rcases List.mem_cons.1 hu with rfl | hu
    · exact h.1.1
    · exact termsGo_all r _ h.2 u hu
theorem termsOk_all {xs : List T3} (h : termsOk xs = true) : (∀ t ∈ xs, t.ok = true) ∧ xs.length ≤ 20 := by
  simp only [termsOk, Bool.and_eq_true, decide_eq_true_eq] at h
  exact ⟨termsGo_all xs [] h.1, h.2⟩

def termsCode (cs : List T3) (n d : Int) : Int := if termsOk cs = true then if (inB n 1 1000000 && inB d 0 20000) = true then 0 else 2 else 1
theorem termsCode_zero {cs : List T3} {n d : Int} (h : termsCode cs n d = 0) : termsOk cs = true ∧ inB n 1 1000000 = true ∧ inB d 0 20000 = true := by
  unfold termsCode at h
  split at h
  · rename_i h1
    split at h
    · rename_i h2; simp only [Bool.and_eq_true] at h2; exact ⟨h1, h2⟩
    · omega
  · omega

set_option maxHeartbeats 1000000 in
theorem l07Code_any (v : Value) (cs : List T3) (n d : Int) (w : World) (lo : Nat) (h : SlT3 w lo w.heap.size v cs) :
    Calls Try.prog 141 #[v, .int .i64 n, .int .i64 d] w fun e w' => e = .returned (.int .i64 (termsCode cs n d)) ∧ Below w.heap.size w w' := by
  obtain ⟨A, c, hv, hc1, hc2⟩ := h.form
  have Hv := Lib.hid hv
  clear hv
  go_enter Try.func141, Try.ntmps141
  go_wp2_with fail
  refine (specAreTerms_any v cs w lo h).mono ?_
  rintro e w1 ⟨rfl, hb1⟩
  cases h1 : termsOk cs
  · go_wp2_with fail
    go_ret
    exact ⟨ret_int (by simp [termsCode, h1]), hb1⟩
  · go_wp2_with fail
    refine (l01In_any n _ _ _).mono ?_
    rintro e w2 ⟨rfl, rfl⟩
    cases h2 : inB n 1 1000000
    · go_wp2_with fail
      go_ret
      exact ⟨ret_int (by simp [termsCode, h1, h2]), hb1⟩
    · go_wp2_with fail
      refine (l02Is_any d _).mono ?_
      rintro e w2 ⟨rfl, rfl⟩
      cases h3 : inB d 0 20000
      all_goals go_wp2_with fail
      all_goals go_ret
      all_goals exact ⟨ret_int (by simp [termsCode, h1, h2, h3]), hb1⟩
set_option maxHeartbeats 1000000 in
theorem termCode_any (v : Value) (cs : List T3) (n d : Int) (w : World) (lo : Nat) (h : SlT3 w lo w.heap.size v cs) :
    Calls Try.prog 139 #[v, .int .i64 n, .int .i64 d] w fun e w' => e = .returned (.int .i64 (termsCode cs n d)) ∧ Below w.heap.size w w' := by
  obtain ⟨A, c, hv, hc1, hc2⟩ := h.form
  have Hv := Lib.hid hv
  clear hv
  go_enter Try.func139, Try.ntmps139
  go_wp2_with fail
  refine (implAreTerms_any v cs w lo h).mono ?_
  rintro e w1 ⟨rfl, hb1⟩
  cases h1 : termsOk cs
  · go_wp2_with fail
    go_ret
    exact ⟨ret_int (by simp [termsCode, h1]), hb1⟩
  · go_wp2_with fail
    refine (isNumber_any n _).mono ?_
    rintro e w2 ⟨rfl, rfl⟩
    cases h2 : inB n 1 1000000
    · go_wp2_with fail
      go_ret
      exact ⟨ret_int (by simp [termsCode, h1, h2]), hb1⟩
    · go_wp2_with fail
      refine (isDay_any d _).mono ?_
      rintro e w2 ⟨rfl, rfl⟩
      cases h3 : inB d 0 20000
      all_goals go_wp2_with fail
      all_goals go_ret
      all_goals exact ⟨ret_int (by simp [termsCode, h1, h2, h3]), hb1⟩

def tired (n d : Int) (t : T3) : Bool := t.num == n && decide (t.beg < d) && decide (d < t.fin + 730)
def restGo (n d : Int) : List T3 → Bool
  | [] => true
  | t :: r => !tired n d t && restGo n d r

set_option maxHeartbeats 1000000 in
theorem l07Rested_any (v : Value) (cs : List T3) (n d : Int) (w : World) (lo : Nat) (h : SlT3 w lo w.heap.size v cs) (hok : ∀ t ∈ cs, t.ok = true) :
    Calls Try.prog 142 #[v, .int .i64 n, .int .i64 d] w fun e w' => e = .returned (.bool (restGo n d cs)) ∧ Below w.heap.size w w' := by
  obtain ⟨A, c, rfl, hc1, hc2⟩ := h.form
  have Hok := Lib.hid hok
  clear hok
  go_enter Try.func142, Try.ntmps142
  go_wp2_with fail
  go_loopw [7] (fun i wr => ∃ (k : Nat), i = .int .i64 k ∧ k ≤ cs.length ∧ restGo n d cs = restGo n d (cs.drop k) ∧ Below w.heap.size w wr) (fun i wr => cs.length - (intOf i).toNat)
  case atStart => exact ⟨0, rfl, Nat.zero_le _, rfl, Below.refl _ _⟩
  case round =>
    obtain ⟨k, rfl, hk, hgo, hbr⟩ := hrel
    have hs := hbr.size
    by_cases hlt : k < cs.length
    · obtain ⟨x, hx⟩ := some_at hlt
      have hxo := T3.ok_iff.1 (Hok.out x (List.mem_of_getElem? hx))
      obtain ⟨b, off, rfl, _, hb, c0, c1, c2⟩ := ((h.below hbr (Nat.le_refl _)).more (Nat.le_refl _) hbr.size).T3_at hx
      have hb' : b < wr.heap.size + 1 := by omega
      rw [drop_cons hx, restGo] at hgo
      have Hgo := Lib.hid hgo
      have Hx := Lib.hid hx
      clear hx hgo
      cases q0 : x.num == n
      · have hq : tired n d x = false := by simp [tired, q0]
        go_wp2_with fail
        go_roundw
        case rel => exact ⟨k + 1, by go_num, hlt, by rw [Hgo.out, hq]; rfl, by first | exact hbr | exact hbr.alloc hs _⟩
        case measure => simp [intOf]; omega
      · by_cases q1 : x.beg < d
        · by_cases q2 : d < x.fin + 730
          · have hq : tired n d x = true := by simp only [tired, q0, Bool.true_and, Bool.and_eq_true, decide_eq_true_eq]; exact ⟨q1, q2⟩
            go_wp2_with fail
            go_ret
            exact ⟨ret_bool (by rw [Hgo.out, hq]; rfl), by first | exact hbr | exact hbr.alloc hs _⟩
          · have hq : tired n d x = false := by simp only [tired, Bool.and_eq_false_iff, decide_eq_false_iff_not]; exact .inr q2
            go_wp2_with fail
            go_roundw
            case rel => exact ⟨k + 1, by go_num, hlt, by rw [Hgo.out, hq]; rfl, by first | exact hbr | exact hbr.alloc hs _⟩
            case measure => simp [intOf]; omega
        · have hq : tired n d x = false := by simp only [tired, Bool.and_eq_false_iff, decide_eq_false_iff_not]; exact .inl (.inr q1)
          go_wp2_with fail
          go_roundw
          case rel => exact ⟨k + 1, by go_num, hlt, by rw [Hgo.out, hq]; rfl, by first | exact hbr | exact hbr.alloc hs _⟩
          case measure => simp [intOf]; omega
    · have hkn : k = cs.length := by omega
      subst hkn
      rw [List.drop_length, restGo] at hgo
      go_wp2_with fail
      go_ret
      exact ⟨ret_bool hgo.symm, hbr⟩
set_option maxHeartbeats 1000000 in
theorem rested_any (v : Value) (cs : List T3) (n d : Int) (w : World) (lo : Nat) (h : SlT3 w lo w.heap.size v cs) (hok : ∀ t ∈ cs, t.ok = true) :
    Calls Try.prog 140 #[v, .int .i64 n, .int .i64 d] w fun e w' => e = .returned (.bool (restGo n d cs)) ∧ Below w.heap.size w w' := by
  obtain ⟨A, c, rfl, hc1, hc2⟩ := h.form
  have Hok := Lib.hid hok
  clear hok
  go_enter Try.func140, Try.ntmps140
  go_wp2_with fail
  go_loopw [11] (fun i wr => ∃ (k : Nat), i = .int .i64 k ∧ k ≤ cs.length ∧ restGo n d cs = restGo n d (cs.drop k) ∧ Below w.heap.size w wr) (fun i wr => cs.length - (intOf i).toNat)
  case atStart => exact ⟨0, rfl, Nat.zero_le _, rfl, Below.refl _ _⟩
  case round =>
    obtain ⟨k, rfl, hk, hgo, hbr⟩ := hrel
    have hs := hbr.size
    by_cases hlt : k < cs.length
    · obtain ⟨x, hx⟩ := some_at hlt
      have hxo := T3.ok_iff.1 (Hok.out x (List.mem_of_getElem? hx))
      obtain ⟨b, off, rfl, _, hb, c0, c1, c2⟩ := ((h.below hbr (Nat.le_refl _)).more (Nat.le_refl _) hbr.size).T3_at hx
      have hb' : b < wr.heap.size + 1 := by omega
      rw [drop_cons hx, restGo] at hgo
      have Hgo := Lib.hid hgo
      have Hx := Lib.hid hx
      clear hx hgo
      cases q0 : x.num == n
      · have hq : tired n d x = false := by simp [tired, q0]
        go_wp2_with fail
        go_roundw
        case rel => exact ⟨k + 1, by go_num, hlt, by rw [Hgo.out, hq]; rfl, by first | exact hbr | exact hbr.alloc hs _⟩
        case measure => simp [intOf]; omega
      · by_cases q1 : x.beg < d
        · by_cases q2 : d < x.fin + 730
          · have hq : tired n d x = true := by simp only [tired, q0, Bool.true_and, Bool.and_eq_true, decide_eq_true_eq]; exact ⟨q1, q2⟩
            go_wp2_with fail
            go_ret
            exact ⟨ret_bool (by rw [Hgo.out, hq]; rfl), by first | exact hbr | exact hbr.alloc hs _⟩
          · have hq : tired n d x = false := by simp only [tired, Bool.and_eq_false_iff, decide_eq_false_iff_not]; exact .inr q2
            go_wp2_with fail
            go_roundw
            case rel => exact ⟨k + 1, by go_num, hlt, by rw [Hgo.out, hq]; rfl, by first | exact hbr | exact hbr.alloc hs _⟩
            case measure => simp [intOf]; omega
        · have hq : tired n d x = false := by simp only [tired, Bool.and_eq_false_iff, decide_eq_false_iff_not]; exact .inl (.inr q1)
          go_wp2_with fail
          go_roundw
          case rel => exact ⟨k + 1, by go_num, hlt, by rw [Hgo.out, hq]; rfl, by first | exact hbr | exact hbr.alloc hs _⟩
          case measure => simp [intOf]; omega
    · have hkn : k = cs.length := by omega
      subst hkn
      rw [List.drop_length, restGo] at hgo
      go_wp2_with fail
      go_ret
      exact ⟨ret_bool hgo.symm, hbr⟩

def daysOf (n : Int) : List T3 → Int
  | [] => 0
  | t :: r => (if t.num == n then t.fin - t.beg + 1 else 0) + daysOf n r
theorem daysOf_app (n : Int) : ∀ xs ys : List T3, daysOf n (xs ++ ys) = daysOf n xs + daysOf n ys
  | [], ys => by simp [daysOf]
  | t :: r, ys => by rw [List.cons_append, daysOf, daysOf, daysOf_app n r ys]; omega
theorem daysOf_bound (n : Int) : ∀ xs : List T3, (∀ t ∈ xs, t.ok = true) → 0 ≤ daysOf n xs ∧ daysOf n xs ≤ 20001 * (xs.length : Int)
  | [], _ => by simp [daysOf]
  | t :: r, h => by
    have h1 := T3.ok_iff.1 (h t (by simp))
    have h2 := daysOf_bound n r (fun u hu => h u (by simp [hu]))
    rw [daysOf, List.length_cons]
    split <;> omega

set_option maxHeartbeats 1000000 in
theorem l07Days_any (v : Value) (cs : List T3) (n : Int) (w : World) (lo : Nat) (h : SlT3 w lo w.heap.size v cs) (hok : ∀ t ∈ cs, t.ok = true) (hl : cs.length ≤ 20) :
    Calls Try.prog 147 #[v, .int .i64 n] w fun e w' => e = .returned (.int .i64 (daysOf n cs)) ∧ Below w.heap.size w w' := by
  obtain ⟨A, c, rfl, hc1, hc2⟩ := h.form
  have Hok := Lib.hid hok
  clear hok
  go_enter Try.func147, Try.ntmps147
  go_wp2_with fail
  go_loopw [5, 6] (fun q i wr => ∃ (k : Nat) (z : Int), i = .int .i64 k ∧ q = .int .i64 z ∧ Hid (z = daysOf n (cs.take k)) ∧ 0 ≤ z ∧ z ≤ 20001 * k ∧ k ≤ cs.length ∧ Below w.heap.size w wr) (fun q i wr => cs.length - (intOf i).toNat)
  case atStart => exact ⟨0, 0, rfl, rfl, Lib.hid rfl, by omega, by omega, Nat.zero_le _, Below.refl _ _⟩
  case round =>
    obtain ⟨k, z, rfl, rfl, Hz, hz1, hz2, hk, hbr⟩ := hrel
    have hs := hbr.size
    by_cases hlt : k < cs.length
    · obtain ⟨x, hx⟩ := some_at hlt
      have hxo := T3.ok_iff.1 (Hok.out x (List.mem_of_getElem? hx))
      obtain ⟨b, off, rfl, _, hb, c0, c1, c2⟩ := ((h.below hbr (Nat.le_refl _)).more (Nat.le_refl _) hbr.size).T3_at hx
      have hb' : b < wr.heap.size + 1 := by omega
      have Hx := Lib.hid hx
      clear hx
      cases q0 : x.num == n
      · go_wp2_with fail
        go_roundw
        case rel => exact ⟨k + 1, _, by go_num, rfl, Lib.hid (by rw [take_snoc Hx.out, daysOf_app, daysOf, daysOf, q0, Hz.out]; simp), hz1, by omega, hlt, by first | exact hbr | exact hbr.alloc hs _⟩
        case measure => simp [intOf]; omega
      · go_wp2_with fail
        try refine wp_region_ext (by kernel_rfl) (by kernel_rfl) ?_
        repeat (go_big_quiet_step (fail))
        try refine wpQuiet_nil ?_
        try intro w2 hb2
        try go_wp2_with fail
        go_roundw
        case rel => exact ⟨k + 1, z + (x.fin - x.beg + 1), by go_num, by go_num, Lib.hid (by rw [take_snoc Hx.out, daysOf_app, daysOf, daysOf, q0, Hz.out]; simp), by omega, by omega, hlt, by first | exact hbr | exact hbr.trans (hb2.mono hs) | exact hbr.alloc hs _⟩
        case measure => simp [intOf]; omega
    · have hkn : k = cs.length := by omega
      subst hkn
      go_wp2_with fail
      go_ret
      exact ⟨ret_int (by rw [Hz.out, List.take_length]), hbr⟩
set_option maxHeartbeats 1000000 in
theorem daysServed_any (v : Value) (cs : List T3) (n : Int) (w : World) (lo : Nat) (h : SlT3 w lo w.heap.size v cs) (hok : ∀ t ∈ cs, t.ok = true) (hl : cs.length ≤ 20) :
    Calls Try.prog 146 #[v, .int .i64 n] w fun e w' => e = .returned (.int .i64 (daysOf n cs)) ∧ Below w.heap.size w w' := by
  obtain ⟨A, c, rfl, hc1, hc2⟩ := h.form
  have Hok := Lib.hid hok
  clear hok
  go_enter Try.func146, Try.ntmps146
  go_wp2_with fail
  go_loopw [5, 10] (fun q i wr => ∃ (k : Nat) (z : Int), i = .int .i64 k ∧ q = .int .i64 z ∧ Hid (z = daysOf n (cs.take k)) ∧ 0 ≤ z ∧ z ≤ 20001 * k ∧ k ≤ cs.length ∧ Below w.heap.size w wr) (fun q i wr => cs.length - (intOf i).toNat)
  case atStart => exact ⟨0, 0, rfl, rfl, Lib.hid rfl, by omega, by omega, Nat.zero_le _, Below.refl _ _⟩
  case round =>
    obtain ⟨k, z, rfl, rfl, Hz, hz1, hz2, hk, hbr⟩ := hrel
    have hs := hbr.size
    by_cases hlt : k < cs.length
    · obtain ⟨x, hx⟩ := some_at hlt
      have hxo := T3.ok_iff.1 (Hok.out x (List.mem_of_getElem? hx))
      obtain ⟨b, off, rfl, _, hb, c0, c1, c2⟩ := ((h.below hbr (Nat.le_refl _)).more (Nat.le_refl _) hbr.size).T3_at hx
      have hb' : b < wr.heap.size + 1 := by omega
      have Hx := Lib.hid hx
      clear hx
      cases q0 : x.num == n
      · go_wp2_with fail
        go_roundw
        case rel => exact ⟨k + 1, _, by go_num, rfl, Lib.hid (by rw [take_snoc Hx.out, daysOf_app, daysOf, daysOf, q0, Hz.out]; simp), hz1, by omega, hlt, by first | exact hbr | exact hbr.alloc hs _⟩
        case measure => simp [intOf]; omega
      · go_wp2_with fail
        try refine wp_region_ext (by kernel_rfl) (by kernel_rfl) ?_
        repeat (go_big_quiet_step (fail))
        try refine wpQuiet_nil ?_
        try intro w2 hb2
        try go_wp2_with fail
        go_roundw
        case rel => exact ⟨k + 1, z + (x.fin - x.beg + 1), by go_num, by go_num, Lib.hid (by rw [take_snoc Hx.out, daysOf_app, daysOf, daysOf, q0, Hz.out]; simp), by omega, by omega, hlt, by first | exact hbr | exact hbr.trans (hb2.mono hs) | exact hbr.alloc hs _⟩
        case measure => simp [intOf]; omega
    · have hkn : k = cs.length := by omega
      subst hkn
      go_wp2_with fail
      go_ret
      exact ⟨ret_int (by rw [Hz.out, List.take_length]), hbr⟩

def isRestedF (cs : List T3) (n d : Int) : Bool × Int := if termsCode cs n d = 0 then (restGo n d cs, 0) else (false, termsCode cs n d)
def daysServedF (cs : List T3) (n : Int) : Int × Int := if termsCode cs n 0 = 0 then (daysOf n cs, 0) else (0, termsCode cs n 0)

set_option maxHeartbeats 1000000 in
theorem specIsRested_any (v : Value) (cs : List T3) (n d : Int) (w : World) (lo : Nat) (h : SlT3 w lo w.heap.size v cs) :
    Calls Try.prog 64 #[v, .int .i64 n, .int .i64 d] w fun e w' => e = .returned (.tuple #[.bool (isRestedF cs n d).1, .int .i64 (isRestedF cs n d).2]) ∧ Below w.heap.size w w' := by
  go_enter Try.func64, Try.ntmps64
  go_wp2_with fail
  refine (l07Code_any v cs n d w lo h).mono ?_
  rintro e w1 ⟨rfl, hb1⟩
  by_cases hc : termsCode cs n d = 0
  · obtain ⟨h1, _⟩ := termsCode_zero hc
    have hF : isRestedF cs n d = (restGo n d cs, 0) := by simp [isRestedF, hc]
    rw [hc]
    go_wp2_with fail
    refine (l07Rested_any v cs n d w1 lo ((h.below hb1 (Nat.le_refl _)).more (Nat.le_refl _) hb1.size) (termsOk_all h1).1).mono ?_
    rintro e w2 ⟨rfl, hb2⟩
    go_wp2_with fail
    go_ret2
    exact ⟨by rw [hF]; rfl, hb1.trans (hb2.mono hb1.size)⟩
  · have hF : isRestedF cs n d = (false, termsCode cs n d) := by simp [isRestedF, hc]
    have hne : (termsCode cs n d != 0) = true := by simp [hc]
    go_wp2_with fail
    go_ret2
    exact ⟨by rw [hF]; rfl, hb1⟩

set_option maxHeartbeats 1000000 in
theorem specDaysServed_any (v : Value) (cs : List T3) (n : Int) (w : World) (lo : Nat) (h : SlT3 w lo w.heap.size v cs) :
    Calls Try.prog 70 #[v, .int .i64 n] w fun e w' => e = .returned (.tuple #[.int .i64 (daysServedF cs n).1, .int .i64 (daysServedF cs n).2]) ∧ Below w.heap.size w w' := by
  go_enter Try.func70, Try.ntmps70
  go_wp2_with fail
  refine (l07Code_any v cs n 0 w lo h).mono ?_
  rintro e w1 ⟨rfl, hb1⟩
  by_cases hc : termsCode cs n 0 = 0
  · obtain ⟨h1, _⟩ := termsCode_zero hc
    have hF : daysServedF cs n = (daysOf n cs, 0) := by simp [daysServedF, hc]
    rw [hc]
    go_wp2_with fail
    refine (l07Days_any v cs n w1 lo ((h.below hb1 (Nat.le_refl _)).more (Nat.le_refl _) hb1.size) (termsOk_all h1).1 (termsOk_all h1).2).mono ?_
    rintro e w2 ⟨rfl, hb2⟩
    go_wp2_with fail
    go_ret2
    exact ⟨by rw [hF]; rfl, hb1.trans (hb2.mono hb1.size)⟩
  · have hF : daysServedF cs n = (0, termsCode cs n 0) := by simp [daysServedF, hc]
    have hne : (termsCode cs n 0 != 0) = true := by simp [hc]
    go_wp2_with fail
    go_ret2
    exact ⟨by rw [hF]; rfl, hb1⟩
set_option maxHeartbeats 1000000 in
theorem implIsRested_any (v : Value) (cs : List T3) (n d : Int) (w : World) (lo : Nat) (h : SlT3 w lo w.heap.size v cs) :
    Calls Try.prog 63 #[v, .int .i64 n, .int .i64 d] w fun e w' => e = .returned (.tuple #[.bool (isRestedF cs n d).1, .int .i64 (isRestedF cs n d).2]) ∧ Below w.heap.size w w' := by
  go_enter Try.func63, Try.ntmps63
  go_wp2_with fail
  refine (termCode_any v cs n d w lo h).mono ?_
  rintro e w1 ⟨rfl, hb1⟩
  by_cases hc : termsCode cs n d = 0
  · obtain ⟨h1, _⟩ := termsCode_zero hc
    have hF : isRestedF cs n d = (restGo n d cs, 0) := by simp [isRestedF, hc]
    rw [hc]
    go_wp2_with fail
    refine (rested_any v cs n d w1 lo ((h.below hb1 (Nat.le_refl _)).more (Nat.le_refl _) hb1.size) (termsOk_all h1).1).mono ?_
    rintro e w2 ⟨rfl, hb2⟩
    go_wp2_with fail
    go_ret2
    exact ⟨by rw [hF]; rfl, hb1.trans (hb2.mono hb1.size)⟩
  · have hF : isRestedF cs n d = (false, termsCode cs n d) := by simp [isRestedF, hc]
    have hne : (termsCode cs n d != 0) = true := by simp [hc]
    go_wp2_with fail
    go_ret2
    exact ⟨by rw [hF]; rfl, hb1⟩

set_option maxHeartbeats 1000000 in
theorem implDaysServed_any (v : Value) (cs : List T3) (n : Int) (w : World) (lo : Nat) (h : SlT3 w lo w.heap.size v cs) :
    Calls Try.prog 69 #[v, .int .i64 n] w fun e w' => e = .returned (.tuple #[.int .i64 (daysServedF cs n).1, .int .i64 (daysServedF cs n).2]) ∧ Below w.heap.size w w' := by
  go_enter Try.func69, Try.ntmps69
  go_wp2_with fail
  refine (termCode_any v cs n 0 w lo h).mono ?_
  rintro e w1 ⟨rfl, hb1⟩
  by_cases hc : termsCode cs n 0 = 0
  · obtain ⟨h1, _⟩ := termsCode_zero hc
    have hF : daysServedF cs n = (daysOf n cs, 0) := by simp [daysServedF, hc]
    rw [hc]
    go_wp2_with fail
    refine (daysServed_any v cs n w1 lo ((h.below hb1 (Nat.le_refl _)).more (Nat.le_refl _) hb1.size) (termsOk_all h1).1 (termsOk_all h1).2).mono ?_
    rintro e w2 ⟨rfl, hb2⟩
    go_wp2_with fail
    go_ret2
    exact ⟨by rw [hF]; rfl, hb1.trans (hb2.mono hb1.size)⟩
  · have hF : daysServedF cs n = (0, termsCode cs n 0) := by simp [daysServedF, hc]
    have hne : (termsCode cs n 0 != 0) = true := by simp [hc]
    go_wp2_with fail
    go_ret2
    exact ⟨by rw [hF]; rfl, hb1⟩
end Go.Proofs.Ytiflpihjffhfhaa
