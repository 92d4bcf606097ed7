/- SendSummons: the program's and the reference's answer the same function. No condition but the sizes that the law itself asks. -/
import Derived.Test.YtiflpihjffhfhaaSummD
import Derived.Test.YtiflpihjffhfhaaSummIns
import Derived.Deep.DeepCutAuto
namespace Go.Proofs.Ytiflpihjffhfhaa
open Go.RowKit
attribute [local go_sem ↓] Go.wp_at_zero Go.wp_at_succ

def S5.ins (x : S5) (cs : List S5) : List S5 := cs.take (S5.place x.num cs) ++ [x] ++ cs.drop (S5.place x.num cs)
theorem S5.ins_go (x : S5) (hx : x.ok = true) : ∀ (cs : List S5) (p : Option S5), risesGoS5 p cs = true → S5.behind p x = true → risesGoS5 p (S5.ins x cs) = !S5.foundB x.num cs
  | [], p, _, hp => by
    have e : S5.ins x [] = [x] := rfl
    rw [e, risesGoS5, risesGoS5, hx, hp]; rfl
  | y :: t, p, h, hp => by
    rw [risesGoS5] at h
    simp only [Bool.and_eq_true] at h
    by_cases h1 : y.num < x.num
    · have e : S5.ins x (y :: t) = y :: S5.ins x t := by unfold S5.ins; rw [S5.place_head h1]; simp
      have e2 : S5.foundB x.num (y :: t) = S5.foundB x.num t := by unfold S5.foundB; rw [S5.place_head h1]; simp
      rw [e, risesGoS5, e2, S5.ins_go x hx t (some y) h.2 (by simp [S5.behind, h1]), h.1.1, h.1.2]
      rfl
    · have e : S5.ins x (y :: t) = x :: y :: t := by unfold S5.ins; rw [S5.place_stop h1]; simp
      have e2 : S5.foundB x.num (y :: t) = (y.num == x.num) := S5.foundB_eq (S5.place_stop h1) rfl
      rw [e, risesGoS5, risesGoS5, e2, hx, hp, h.1.1, h.2]
      have e3 : S5.behind (some x) y = decide (x.num < y.num) := rfl
      rw [e3]
      by_cases h2 : y.num = x.num
      · simp [h2]
      · have h3 : x.num < y.num := by omega
        simp [h3, h2]
theorem S5.ins_len (x : S5) (cs : List S5) : (S5.ins x cs).length = cs.length + 1 := by
  have := S5.place_le x.num cs
  unfold S5.ins
  rw [List.length_append, List.length_append, List.length_take, List.length_drop, List.length_singleton]
  omega
theorem S5.ins_ok {x : S5} {cs : List S5} (hx : x.ok = true) (h : listOkS5 cs = true) : listOkS5 (S5.ins x cs) = (!S5.foundB x.num cs && !(cs.length == 20)) := by
  simp only [listOkS5, Bool.and_eq_true, decide_eq_true_eq] at h
  rw [listOkS5, S5.ins_go x hx cs none h.1 rfl, S5.ins_len]
  congr 1
  rw [Bool.eq_iff_iff]
  simp
  omega

/-! the first court day -/
def firstC (hs : List Int) : Nat → Int → Int × Int
  | 0, _ => (0, 3)
  | f + 1, d => if courtB hs d = true then (d, 0) else firstC hs f (d + 1)
def nextF' (hs : List Int) (d : Int) : Int × Int := firstC hs (20001 - d).toNat d
theorem firstC_yes {hs : List Int} {z : Int} (hz : z ≤ 20000) (h : courtB hs z = true) : nextF' hs z = (z, 0) := by
  obtain ⟨m, hm⟩ : ∃ m, (20001 - z).toNat = m + 1 := ⟨(20000 - z).toNat, by omega⟩
  rw [nextF', hm, firstC, if_pos h]
theorem firstC_no {hs : List Int} {z : Int} (hz : z ≤ 20000) (h : courtB hs z = false) : nextF' hs z = nextF' hs (z + 1) := by
  obtain ⟨m, hm⟩ : ∃ m, (20001 - z).toNat = m + 1 := ⟨(20000 - z).toNat, by omega⟩
  have h2 : (20001 - (z + 1)).toNat = m := by omega
  rw [nextF', nextF', hm, firstC, if_neg (by simp [h]), h2]
theorem firstC_end {hs : List Int} {z : Int} (hz : 20000 < z) : nextF' hs z = (0, 3) := by
  have h2 : (20001 - z).toNat = 0 := by omega
  rw [nextF', h2, firstC]
theorem firstC_skip {hs : List Int} : ∀ (m : Nat) (d : Int), (∀ y, d ≤ y → y < d + m → courtB hs y = false) → nextF' hs d = nextF' hs (d + m)
  | 0, d, _ => by simp
  | m + 1, d, h => by
    have h1 := h d (by omega) (by omega)
    have ih := firstC_skip m (d + 1) (fun y a b => h y (by omega) (by omega))
    rcases (by omega : d ≤ 20000 ∨ 20000 < d) with hd | hd
    · rw [firstC_no hd h1, ih]; congr 1; omega
    · rw [firstC_end hd, firstC_end (by omega)]
theorem firstC_of {hs : List Int} {d z : Int} (h1 : d ≤ z) (h2 : ∀ y, d ≤ y → y < z → courtB hs y = false) (h3 : courtB hs z = true) : nextF' hs d = if z ≤ 20000 then (z, 0) else (0, 3) := by
  have := firstC_skip (hs := hs) (z - d).toNat d (fun y a b => h2 y a (by omega))
  rw [this, show d + ((z - d).toNat : Int) = z by omega]
  split
  · exact firstC_yes (by omega) h3
  · exact firstC_end (by omega)
theorem firstC_in {hs : List Int} : ∀ (f : Nat) (d : Int), f = (20001 - d).toNat → (firstC hs f d = (0, 3)) ∨ (∃ z, firstC hs f d = (z, 0) ∧ d ≤ z ∧ z ≤ 20000 ∧ courtB hs z = true)
  | 0, d, _ => .inl rfl
  | f + 1, d, hf => by
    rw [firstC]
    cases h : courtB hs d
    · rcases firstC_in (hs := hs) f (d + 1) (by omega) with h1 | ⟨z, h1, h2, h3, h4⟩
      · exact .inl (by simpa using h1)
      · exact .inr ⟨z, by simpa using h1, by omega, h3, h4⟩
    · exact .inr ⟨d, rfl, Int.le_refl _, by omega, h⟩
theorem incGo_all {lo hi : Int} : ∀ (zs : List Int) (p : Option Int), incGo lo hi p zs = true → ∀ z ∈ zs, lo ≤ z ∧ z ≤ hi
  | [], _, _ => by simp
  | y :: t, p, h => by
    rw [incGo] at h
    simp only [Bool.and_eq_true] at h
    intro z hz
    rcases List.mem_cons.1 hz with rfl | hz
    · exact inB_iff.1 h.1.1
    · exact incGo_all t _ h.2 z hz
theorem hol_far {hs : List Int} (h : holB hs = true) {y : Int} (hy : 20000 < y) : hasB y hs = false := by
  simp only [holB, Bool.and_eq_true] at h
  cases hh : hasB y hs
  · rfl
  · have hm := (hasB_iff y hs).1 hh
    have := incGo_all hs none (by first | exact h.1 | exact h.2) y hm
    omega
theorem court_near {hs : List Int} (h : holB hs = true) {y : Int} (hy : 20001 ≤ y) : courtB hs y = true ∨ courtB hs (y + 1) = true ∨ courtB hs (y + 2) = true := by
  have e : ∀ z : Int, 20001 ≤ z → courtB hs z = decide (z % 7 < 5) := by
    intro z hz
    rw [courtB, hol_far h (by omega), Int.tmod_eq_emod_of_nonneg (by omega)]; simp
  rw [e y hy, e (y + 1) (by omega), e (y + 2) (by omega)]
  simp only [decide_eq_true_eq]
  omega

set_option maxHeartbeats 1000000 in
theorem l02Next_any (u : Value) (hs : List Int) (d : Int) (w : World) (lo hi : Nat) (hh : SlI w lo hi u hs) (hol : holB hs = true) (hd : 0 ≤ d ∧ d ≤ 1000000) :
    Calls Try.prog 165 #[u, .int .i64 d] w fun e w' => (∃ z, e = .returned (.int .i64 z) ∧ d ≤ z ∧ (∀ y, d ≤ y → y < z → courtB hs y = false) ∧ courtB hs z = true ∧ z ≤ 1020003) ∧ w = w' := by
  go_enter Try.func165, Try.ntmps165
  go_wp2_with fail
  go_loop [1] (fun i => ∃ z : Int, i = .int .i64 z ∧ d ≤ z ∧ z ≤ max d 20001 + 2 ∧ Hid (∀ y, d ≤ y → y < z → courtB hs y = false)) (fun i => (max d 20001 + 2 - intOf i).toNat)
  case atStart => exact ⟨d, rfl, Int.le_refl _, by omega, Lib.hid (fun y a b => by omega)⟩
  case round =>
    obtain ⟨z, rfl, h1, h2, H3⟩ := hrel
    have h2' : z ≤ 1020003 := by omega
    have Hm := Lib.hid h2
    clear h2
    go_wp2_with fail
    refine (l02Court_any u hs z w lo hi hh).mono ?_
    rintro e w' ⟨rfl, rfl⟩
    cases hc : courtB hs z
    · have hlt : z < max d 20001 + 2 := by
        rcases (by omega : z < max d 20001 + 2 ∨ max d 20001 + 2 ≤ z) with h | h
        · exact h
        · exfalso
          have hm := Hm.out
          obtain rfl : z = max d 20001 + 2 := by omega
          have := court_near (hs := hs) hol (y := max d 20001) (by omega)
          rw [H3.out (max d 20001) (by omega) (by omega), H3.out (max d 20001 + 1) (by omega) (by omega), hc] at this
          simp at this
      have Hlt := Lib.hid hlt
      clear hlt
      go_wp2_with fail
      go_round
      case rel => exact ⟨z + 1, by go_num, by omega, by have := Hlt.out; omega, Lib.hid (fun y a b => by rcases (by omega : y < z ∨ y = z) with h | rfl; exact H3.out y a h; exact hc)⟩
      case measure => have := Hlt.out; simp [intOf]; omega
    · go_wp2_with fail
      go_ret
      exact ⟨⟨z, rfl, h1, H3.out, hc, h2'⟩, rfl⟩

def daysCode (hs : List Int) (a b : Int) : Int := if holB hs = true then if (inB a 0 20000 && inB b 0 20000) = true then 0 else 2 else 1
set_option maxHeartbeats 1000000 in
theorem l02Code_any (u : Value) (hs : List Int) (a b : Int) (w : World) (lo : Nat) (hh : SlI w lo w.heap.size u hs) :
    Calls Try.prog 163 #[u, .int .i64 a, .int .i64 b] w fun e w' => e = .returned (.int .i64 (daysCode hs a b)) ∧ Below w.heap.size w w' := by
  go_enter Try.func163, Try.ntmps163
  go_wp2_with fail
  refine (specAreHolidays_any u hs w lo hh).mono ?_
  rintro e w1 ⟨rfl, hb1⟩
  cases h0 : holB hs
  · go_wp2_with fail
    go_ret
    exact ⟨ret_int (by simp [daysCode, h0]), hb1⟩
  go_wp2_with fail
  refine (l02Is_any a _).mono ?_
  rintro e w2 ⟨rfl, rfl⟩
  cases h1 : inB a 0 20000
  · go_wp2_with fail
    go_ret
    exact ⟨ret_int (by simp [daysCode, h0, h1]), hb1⟩
  go_wp2_with fail
  refine (l02Is_any b _).mono ?_
  rintro e w2 ⟨rfl, rfl⟩
  cases h2 : inB b 0 20000
  all_goals go_wp2_with fail
  all_goals go_ret
  all_goals exact ⟨ret_int (by simp [daysCode, h0, h1, h2]), hb1⟩

def limF (z : Int) : Int × Int := if z ≤ 20000 then (z, 0) else (0, 3)
set_option maxHeartbeats 400000 in
theorem l02Limit_any (z : Int) (w : World) :
    Calls Try.prog 164 #[.int .i64 z, .int .i64 0] w fun e w' => e = .returned (.tuple #[.int .i64 (limF z).1, .int .i64 (limF z).2]) ∧ w = w' := by
  by_cases h : z ≤ 20000
  · have hF : limF z = (z, 0) := if_pos h
    have HF := Lib.hid hF
    clear hF
    go_enter Try.func164, Try.ntmps164
    go_wp2_with fail
    go_ret2
    exact ⟨by rw [HF.out]; rfl, rfl⟩
  · have hF : limF z = (0, 3) := if_neg h
    have HF := Lib.hid hF
    clear hF
    have h' : 20000 < z := by omega
    go_enter Try.func164, Try.ntmps164
    go_wp2_with fail
    go_ret2
    exact ⟨by rw [HF.out]; rfl, rfl⟩

def deadF (hs : List Int) (d k : Int) : Int × Int := if (inB d 0 20000 && inB k 0 1000) = true then nextF' hs (d + k) else (0, 2)
set_option maxRecDepth 100000 in
set_option maxHeartbeats 1000000 in
theorem deadlineOf_any (u : Value) (hs : List Int) (d k : Int) (w : World) (lo : Nat) (hh : SlI w lo w.heap.size u hs) (hol : holB hs = true) :
    Calls Try.prog 133 #[u, .int .i64 d, .int .i64 k] w fun e w' => e = .returned (.tuple #[.int .i64 (deadF hs d k).1, .int .i64 (deadF hs d k).2]) ∧ Below w.heap.size w w' := by
  go_enter Try.func133, Try.ntmps133
  go_wp2_with fail
  refine (l02Code_any u hs d d w lo hh).mono ?_
  rintro e w1 ⟨rfl, hb1⟩
  have hdc : daysCode hs d d = if inB d 0 20000 = true then 0 else 2 := by simp [daysCode, hol]
  rw [hdc]
  clear hdc
  cases h0 : inB d 0 20000
  · have hF : deadF hs d k = (0, 2) := by simp [deadF, h0]
    go_wp2_with fail
    go_ret2
    exact ⟨by rw [hF]; rfl, hb1⟩
  go_wp2_with fail
  refine (l01In_any k _ _ _).mono ?_
  rintro e w2 ⟨rfl, rfl⟩
  cases h1 : inB k 0 1000
  · have hF : deadF hs d k = (0, 2) := by simp [deadF, h0, h1]
    go_wp2_with fail
    go_ret2
    exact ⟨by rw [hF]; rfl, hb1⟩
  have hF : deadF hs d k = nextF' hs (d + k) := by simp [deadF, h0, h1]
  have HF := Lib.hid hF
  clear hF
  have b0 := inB_iff.1 h0
  have b1 := inB_iff.1 h1
  go_wp2_with fail
  refine (l02Next_any u hs (d + k) _ lo _ (hh.below hb1 (Nat.le_refl _)) hol (by omega)).mono ?_
  rintro e w2 ⟨⟨z, rfl, e1, e2, e3, e4⟩, rfl⟩
  have hz := firstC_of e1 e2 e3
  have Hz := Lib.hid hz
  clear hz e2 e3
  go_wp2_with fail
  refine (l02Limit_any z _).mono ?_
  rintro e w2 ⟨rfl, rfl⟩
  go_wp2_with fail
  go_ret2
  exact ⟨by rw [HF.out, Hz.out]; rfl, hb1⟩

set_option maxHeartbeats 1000000 in
theorem nextCourtDay_any (u : Value) (hs : List Int) (d : Int) (w : World) (lo hi : Nat) (hh : SlI w lo hi u hs) (hd : 0 ≤ d ∧ d ≤ 1000000) :
    Calls Try.prog 129 #[u, .int .i64 d] w fun e w' => e = .returned (.tuple #[.int .i64 (nextF' hs d).1, .int .i64 (nextF' hs d).2]) ∧ w = w' := by
  go_enter Try.func129, Try.ntmps129
  go_wp2_with fail
  go_loop [1] (fun i => ∃ z : Int, i = .int .i64 z ∧ d ≤ z ∧ z ≤ 1000000 ∧ Hid (nextF' hs d = nextF' hs z)) (fun i => (1000001 - intOf i).toNat)
  case atStart => exact ⟨d, rfl, Int.le_refl _, hd.2, Lib.hid rfl⟩
  case round =>
    obtain ⟨z, rfl, h1, h2, Hgo⟩ := hrel
    by_cases hz : z ≤ 20000
    · go_wp2_with fail
      refine (isCourtDay_any u hs z w lo hi hh).mono ?_
      rintro e w' ⟨rfl, rfl⟩
      cases hc : courtB hs z
      · go_wp2_with fail
        go_round
        case rel => exact ⟨z + 1, by go_num, by omega, by omega, Lib.hid (by rw [Hgo.out, firstC_no hz hc])⟩
        case measure => simp [intOf]; omega
      · go_wp2_with fail
        go_ret2
        exact ⟨by rw [Hgo.out, firstC_yes hz hc]; rfl, rfl⟩
    · go_wp2_with fail
      go_ret2
      exact ⟨by rw [Hgo.out, firstC_end (by omega)]; rfl, rfl⟩

def newS (n d z : Int) : S5 := ⟨n, d, z, 0, 0⟩
theorem newS_ok {n d z : Int} (h1 : inB n 1 1000000 = true) (h2 : inB d 0 20000 = true) (h3 : d ≤ z) (h4 : z ≤ 20000) : (newS n d z).ok = true := by
  have h5 : inB z d 20000 = true := inB_iff.2 ⟨h3, h4⟩
  simp [newS, S5.ok, h1, h2, h5]; rfl
def sendF (hs : List Int) (cs : List S5) (n d k : Int) : List S5 × Int :=
  if (holB hs && listOkS5 cs) = true then if (inB n 1 1000000 && inB d 0 20000 && inB k 0 1000) = true then if (nextF' hs (d + k)).2 = 0 then if listOkS5 (S5.ins (newS n d (nextF' hs (d + k)).1) cs) = true then (S5.ins (newS n d (nextF' hs (d + k)).1) cs, 0) else ([], 5) else ([], (nextF' hs (d + k)).2) else ([], 2) else ([], 1)
theorem sendF_len (hs : List Int) (cs : List S5) (n d k : Int) : (sendF hs cs n d k).1.length ≤ cs.length + 1 := by
  unfold sendF
  repeat' split
  all_goals simp [S5.ins_len]

set_option maxRecDepth 100000 in
set_option maxHeartbeats 8000000 in
theorem specSendSummons_any (u : Value) (hs : List Int) (v : Value) (cs : List S5) (n d q : Int) (w : World) (lo' : Nat) (hh : SlI w lo' w.heap.size u hs) (lo : Nat) (h : SlS5 w lo w.heap.size v cs) :
    Calls Try.prog 48 #[u, v, .int .i64 n, .int .i64 d, .int .i64 q] w fun e w' => ∃ v', e = .returned (.tuple #[v', .int .i64 (sendF hs cs n d q).2]) ∧ OwnR S5.vals 5 w' w.heap.size 108 v' (sendF hs cs n d q).1 ∧ Below w.heap.size w w' := by
  obtain ⟨A, c, rfl, hc1, hc2⟩ := h.form
  go_enter Try.func48, Try.ntmps48
  go_wp2_with fail
  refine (specAreHolidays_any u hs w lo' hh).mono ?_
  rintro e w0 ⟨rfl, hb0⟩
  cases h0 : holB hs
  · have hF : sendF hs cs n d q = ([], 1) := by simp [sendF, h0]
    go_wp2_with fail
    go_ret2
    exact ⟨.slice none 0 0, by rw [hF]; rfl, by rw [hF]; exact own_nil _ _ _ _ _, hb0⟩
  go_wp2_with fail
  refine (specAreSummonses_any _ cs w0 lo ((h.below hb0 (Nat.le_refl _)).more (Nat.le_refl _) hb0.size)).mono ?_
  rintro e w1 ⟨rfl, hb1'⟩
  have hb1 := hb0.trans (hb1'.mono hb0.size)
  clear hb1' hb0
  cases h1 : listOkS5 cs
  · have hF : sendF hs cs n d q = ([], 1) := by simp [sendF, h0, h1]
    go_wp2_with fail
    go_ret2
    exact ⟨.slice none 0 0, by rw [hF]; rfl, by rw [hF]; exact own_nil _ _ _ _ _, hb1⟩
  go_wp2_with fail
  refine (l01In_any n _ _ _).mono ?_
  rintro e w2 ⟨rfl, rfl⟩
  cases h2 : inB n 1 1000000
  · have hF : sendF hs cs n d q = ([], 2) := by simp [sendF, h0, h1, h2]
    go_wp2_with fail
    go_ret2
    exact ⟨.slice none 0 0, by rw [hF]; rfl, by rw [hF]; exact own_nil _ _ _ _ _, hb1⟩
  have hh1 : SlI w1 lo' w1.heap.size u hs := (hh.below hb1 (Nat.le_refl _)).more (Nat.le_refl _) hb1.size
  go_wp2_with fail
  refine (deadlineOf_any u hs d q w1 lo' hh1 h0).mono ?_
  rintro e w2 ⟨rfl, hb2'⟩
  have hb2 := hb1.trans (hb2'.mono hb1.size)
  clear hb2' hb1 hh1
  cases h3 : inB d 0 20000 && inB q 0 1000
  · have hF : sendF hs cs n d q = ([], 2) := by simp only [sendF, h0, h1, h2, Bool.true_and, Bool.and_assoc, h3]; rfl
    have hD : deadF hs d q = (0, 2) := by simp [deadF, h3]
    rw [hD]
    clear hD
    go_wp2_with fail
    go_ret2
    exact ⟨.slice none 0 0, by rw [hF]; rfl, by rw [hF]; exact own_nil _ _ _ _ _, hb2⟩
  have hD : deadF hs d q = nextF' hs (d + q) := by simp only [deadF, h3]; rfl
  rw [hD]
  clear hD
  have hF : sendF hs cs n d q = if (nextF' hs (d + q)).2 = 0 then if listOkS5 (S5.ins (newS n d (nextF' hs (d + q)).1) cs) = true then (S5.ins (newS n d (nextF' hs (d + q)).1) cs, 0) else ([], 5) else ([], (nextF' hs (d + q)).2) := by simp only [sendF, h0, h1, h2, Bool.true_and, Bool.and_assoc, h3]; rfl
  have HF := Lib.hid hF
  clear hF
  have h4 := firstC_in (hs := hs) _ (d + q) rfl
  rcases h4 with h4 | ⟨z, h4, hz1, hz2, _⟩
  · have h4 : nextF' hs (d + q) = (0, 3) := h4
    have hF : sendF hs cs n d q = ([], 3) := by rw [HF.out, h4]; rfl
    rw [h4]
    clear h4
    go_wp2_with fail
    go_ret2
    exact ⟨.slice none 0 0, by rw [hF]; rfl, by rw [hF]; exact own_nil _ _ _ _ _, hb2⟩
  have h4 : nextF' hs (d + q) = (z, 0) := h4
  have hF : sendF hs cs n d q = if listOkS5 (S5.ins (newS n d z) cs) = true then (S5.ins (newS n d z) cs, 0) else ([], 5) := by rw [HF.out, h4]; rfl
  rw [h4]
  clear h4 HF
  have HF := Lib.hid hF
  clear hF
  have hlen := (listOkS5_all h1).2
  obtain ⟨w1, rfl⟩ : ∃ x : World, x = w2 := ⟨_, rfl⟩
  have hb1 := hb2
  clear hb2
  have h' : SlS5 w1 lo w1.heap.size (.slice A cs.length c) cs := (h.below hb1 (Nat.le_refl _)).more (Nat.le_refl _) hb1.size
  have z1 := hb1.size
  go_wp2_with fail
  go_loop [14] (fun i => ∃ (k : Nat), i = .int .i64 k ∧ k ≤ cs.length ∧ Hid (S5.place n cs = k + S5.place n (cs.drop k))) (fun i => cs.length - (intOf i).toNat)
  case atStart => exact ⟨0, rfl, Nat.zero_le _, Lib.hid (by simp)⟩
  case round =>
    obtain ⟨k, rfl, hk, Hgo⟩ := hrel
    have hgoal : (∃ x : S5, k < cs.length ∧ cs[k]? = some x ∧ x.num < n) ∨ (∃ x : S5, k < cs.length ∧ cs[k]? = some x ∧ ¬ x.num < n ∧ S5.place n cs = k) ∨ (cs.length ≤ k ∧ S5.place n cs = k) := by
      rcases Nat.lt_or_ge k cs.length with hlt | hge
      · obtain ⟨x, hx⟩ := some_at hlt
        by_cases e1 : x.num < n
        · exact .inl ⟨x, hlt, hx, e1⟩
        · exact .inr (.inl ⟨x, hlt, hx, e1, by rw [Hgo.out, drop_cons hx, S5.place_stop e1]; rfl⟩)
      · exact .inr (.inr ⟨hge, by rw [Hgo.out, List.drop_of_length_le hge]; rfl⟩)
    rcases hgoal with ⟨x, hlt, hx, e1⟩ | hgoal
    · obtain ⟨b, off, rfl, _, hb, c0, cr⟩ := h'.S5_at hx
      clear cr
      have Hd := Lib.hid (drop_cons hx)
      clear hx
      go_wp2_with fail
      go_round
      case rel => exact ⟨k + 1, by go_num, hlt, Lib.hid (by rw [Hgo.out, Hd.out, S5.place_head e1]; omega)⟩
      case measure => simp [intOf]; omega
    have hkp : S5.place n cs = k := by rcases hgoal with ⟨x, _, _, _, h⟩ | ⟨_, h⟩ <;> exact h
    have hins : S5.ins (newS n d z) cs = cs.take k ++ [(newS n d z)] ++ cs.drop k := by unfold S5.ins; rw [show ((newS n d z)).num = n from rfl, hkp]
    have Hins := Lib.hid hins
    clear hins hkp Hgo
    have q1 : (0 : Int) ≤ (k : Int) := by omega
    have q2 : (k : Int) ≤ (c : Int) := by omega
    have q3 : (k : Int) ≤ (cs.length : Int) := by omega
    obtain ⟨S1, r1, s1⟩ := run_slice_to (P := Try.prog) h' (k := k) hk 45 108 Try.infoS5 Try.underlying45
    obtain ⟨S2, r2, s2⟩ := run_slice_from (P := Try.prog) h' (k := k) hk 45 108 Try.infoS5 Try.underlying45
    have l1 : (cs.take k).length ≤ 20 := by rw [List.length_take]; omega
    have l2 : (cs.drop k).length ≤ 20 := by rw [List.length_drop]; omega
    rcases hgoal with ⟨x, hlt, hx, e1, _⟩ | ⟨hkl, _⟩
    all_goals (try (obtain ⟨b, off, rfl, _, hb, c0, cr⟩ := h'.S5_at hx; clear cr hx))
    all_goals
      go_upto_region 11 with fail
      go_cut [15] (fun v4 wx => OwnR S5.vals 5 wx w1.heap.size 108 v4 (S5.ins (newS n d z) cs) ∧ Below w1.heap.size w1 wx)
      case first =>
        have hAA : Below w1.heap.size w1 ((w1.alloc (.cells #[] 108)).drew) := (((Below.refl _ _).alloc (Nat.le_refl _) _)).drew
        have hAB : Below w1.heap.size w1 (((w1.alloc (.cells #[] 108)).alloc (.cells #[.int .i64 n, .int .i64 d, .int .i64 z, .int .i64 0, .int .i64 0] 108)).drew) := ((((Below.refl _ _).alloc (Nat.le_refl _) _)).alloc (by simp) _).drew
        have hAC : Below w1.heap.size w1 (((w1.alloc (.cells #[.int .i64 n, .int .i64 d, .int .i64 z, .int .i64 0, .int .i64 0] 108)).alloc (.cells #[] 108)).drew) := ((((Below.refl _ _).alloc (Nat.le_refl _) _)).alloc (by simp) _).drew
        have oA : OwnR S5.vals 5 ((w1.alloc (.cells #[] 108)).drew) w1.heap.size 108 (.slice (some ⟨w1.heap.size, 0, none⟩) 0 0) ([] : List _) := (own_empty w1 _ 5 S5.vals).drew
        have oB : OwnR S5.vals 5 (((w1.alloc (.cells #[] 108)).alloc (.cells #[.int .i64 n, .int .i64 d, .int .i64 z, .int .i64 0, .int .i64 0] 108)).drew) w1.heap.size 108 (.slice (some ⟨w1.heap.size, 0, none⟩) 0 0) ([] : List _) := ((own_empty w1 _ 5 S5.vals).alloc _).drew
        have tB : SlR S5.vals 5 (((w1.alloc (.cells #[] 108)).alloc (.cells #[.int .i64 n, .int .i64 d, .int .i64 z, .int .i64 0, .int .i64 0] 108)).drew) (w1.heap.size + 1) (w1.heap.size + 1 + 1) (.slice (some ⟨w1.heap.size + 1, 0, none⟩) 1 1) [(newS n d z)] := by have := (rec_sl (f := S5.vals) (s := 5) (fun _ => rfl) (w1.alloc (.cells #[] 108)) 108 (cx := #[.int .i64 n, .int .i64 d, .int .i64 z, .int .i64 0, .int .i64 0]) (x := (newS n d z)) rfl).drew; simpa using this
        have oC : OwnR S5.vals 5 (((w1.alloc (.cells #[.int .i64 n, .int .i64 d, .int .i64 z, .int .i64 0, .int .i64 0] 108)).alloc (.cells #[] 108)).drew) w1.heap.size 108 (.slice (some ⟨w1.heap.size + 1, 0, none⟩) 0 0) ([] : List _) := by have := ((own_empty (w1.alloc (.cells #[.int .i64 n, .int .i64 d, .int .i64 z, .int .i64 0, .int .i64 0] 108)) 108 5 S5.vals).drew).more (base' := w1.heap.size) (by simp); simpa using this
        have tC : SlR S5.vals 5 (((w1.alloc (.cells #[.int .i64 n, .int .i64 d, .int .i64 z, .int .i64 0, .int .i64 0] 108)).alloc (.cells #[] 108)).drew) w1.heap.size (w1.heap.size + 1) (.slice (some ⟨w1.heap.size, 0, none⟩) 1 1) [(newS n d z)] := ((rec_sl (f := S5.vals) (s := 5) (fun _ => rfl) w1 108 (cx := #[.int .i64 n, .int .i64 d, .int .i64 z, .int .i64 0, .int .i64 0]) (x := (newS n d z)) rfl).alloc (by simp) _).drew
        have zTB : w1.heap.size + 1 + 1 ≤ (((w1.alloc (.cells #[] 108)).alloc (.cells #[.int .i64 n, .int .i64 d, .int .i64 z, .int .i64 0, .int .i64 0] 108)).drew).heap.size := by simp
        have zTC : w1.heap.size + 1 + 1 ≤ (((w1.alloc (.cells #[.int .i64 n, .int .i64 d, .int .i64 z, .int .i64 0, .int .i64 0] 108)).alloc (.cells #[] 108)).drew).heap.size := by simp
        go_region_held3 (fun _ => True) (trivial) (first
          | ((with_reducible refine at_world ((w1.alloc (.cells #[] 108)).drew) ?_); refine step_append_sl (f := S5.vals) (s := 5) ((w1.alloc (.cells #[] 108)).drew) (fun _ => rfl) oneCellS5 (by rfl) _ _ 45 (by rfl) w1.heap.size 108 Try.infoS5 Try.underlying45 rfl (by decide) _ ([] : List _) (cs.take k) _ lo _ (by rfl) oA (by rfl) (s1.below hAA (Nat.le_refl _)) (by simp; omega) (by simp; omega) (by simp; try omega) ?_; intro v2 w2 o2 hB2 hg2; have hb2 := hB2 _ _ hAA (Nat.le_refl _); have z2 := hb2.size)
          | ((with_reducible refine at_world (((w1.alloc (.cells #[] 108)).alloc (.cells #[.int .i64 n, .int .i64 d, .int .i64 z, .int .i64 0, .int .i64 0] 108)).drew) ?_); refine step_append_sl (f := S5.vals) (s := 5) (((w1.alloc (.cells #[] 108)).alloc (.cells #[.int .i64 n, .int .i64 d, .int .i64 z, .int .i64 0, .int .i64 0] 108)).drew) (fun _ => rfl) oneCellS5 (by rfl) _ _ 45 (by rfl) w1.heap.size 108 Try.infoS5 Try.underlying45 rfl (by decide) _ ([] : List _) (cs.take k) _ lo _ (by rfl) oB (by rfl) (s1.below hAB (Nat.le_refl _)) (by simp; omega) (by simp; omega) (by simp; try omega) ?_; intro v2 w2 o2 hB2 hg2; have hb2 := hB2 _ _ hAB (Nat.le_refl _); have z2 := hb2.size; have t2 := tB.grown hg2 zTB (by intro q hq; have hq := Option.some.inj hq; dsimp only at hq; omega); have zt2 : w1.heap.size + 1 + 1 ≤ w2.heap.size := Nat.le_trans zTB hg2.size)
          | ((with_reducible refine at_world (((w1.alloc (.cells #[.int .i64 n, .int .i64 d, .int .i64 z, .int .i64 0, .int .i64 0] 108)).alloc (.cells #[] 108)).drew) ?_); refine step_append_sl (f := S5.vals) (s := 5) (((w1.alloc (.cells #[.int .i64 n, .int .i64 d, .int .i64 z, .int .i64 0, .int .i64 0] 108)).alloc (.cells #[] 108)).drew) (fun _ => rfl) oneCellS5 (by rfl) _ _ 45 (by rfl) w1.heap.size 108 Try.infoS5 Try.underlying45 rfl (by decide) _ ([] : List _) (cs.take k) _ lo _ (by rfl) oC (by rfl) (s1.below hAC (Nat.le_refl _)) (by simp; omega) (by simp; omega) (by simp; try omega) ?_; intro v2 w2 o2 hB2 hg2; have hb2 := hB2 _ _ hAC (Nat.le_refl _); have z2 := hb2.size; have t2 := tC.grown hg2 (Nat.le_trans (Nat.le_succ _) zTC) (by intro q hq; have hq := Option.some.inj hq; dsimp only at hq; omega); have zt2 : w1.heap.size + 1 ≤ w2.heap.size := Nat.le_trans (Nat.le_trans (Nat.le_succ _) zTC) hg2.size)
          | ((with_reducible refine at_world w2 ?_); refine step_append_sl (f := S5.vals) (s := 5) w2 (fun _ => rfl) oneCellS5 (by rfl) _ _ 45 (by rfl) w1.heap.size 108 Try.infoS5 Try.underlying45 rfl (by decide) _ _ [(newS n d z)] _ _ _ (by rfl) o2 (by rfl) t2 (by simp; omega) (by simp; omega) z2 ?_; intro v3 w3 o3 hB3 hg3; have hb3 := hB3 _ _ hb2 (Nat.le_refl _); have z3 := hb3.size)
          | ((with_reducible refine at_world (w2.alloc (.cells #[.int .i64 n, .int .i64 d, .int .i64 z, .int .i64 0, .int .i64 0] 108)) ?_); refine step_append_sl (f := S5.vals) (s := 5) (w2.alloc (.cells #[.int .i64 n, .int .i64 d, .int .i64 z, .int .i64 0, .int .i64 0] 108)) (fun _ => rfl) oneCellS5 (by rfl) _ _ 45 (by rfl) w1.heap.size 108 Try.infoS5 Try.underlying45 rfl (by decide) _ _ [(newS n d z)] _ _ _ (by rfl) (o2.alloc _) (by rfl) (rec_sl (f := S5.vals) (s := 5) (fun _ => rfl) w2 108 (cx := #[.int .i64 n, .int .i64 d, .int .i64 z, .int .i64 0, .int .i64 0]) (x := (newS n d z)) rfl) (by simp; omega) (by simp; omega) (Nat.le_trans z2 (by simp)) ?_; intro v3 w3 o3 hB3 hg3; have hb3 := hB3 _ _ (hb2.alloc z2 _) (Nat.le_refl _); have z3 := hb3.size)
          | ((with_reducible refine at_world w3 ?_); refine step_append_sl (f := S5.vals) (s := 5) w3 (fun _ => rfl) oneCellS5 (by rfl) _ _ 45 (by rfl) w1.heap.size 108 Try.infoS5 Try.underlying45 rfl (by decide) _ _ (cs.drop k) _ lo _ (by rfl) o3 (by rfl) (s2.below hb3 (Nat.le_refl _)) (by simp; omega) (by simp; omega) z3 ?_; intro v4 w4 o4 hB4 hg4; have hb4 := hB4 _ _ hb3 (Nat.le_refl _); have z4 := hb4.size))
        all_goals (go_wp2_with fail; go_meet; exact ⟨by rw [Hins.out]; exact o4, hb4⟩)
      case rest =>
        obtain ⟨o4, hb4⟩ := hcut
        obtain ⟨v4, rfl⟩ : ∃ x : Value, x = u15 := ⟨_, rfl⟩
        obtain ⟨w4, rfl⟩ : ∃ w4 : World, w4 = wc := ⟨_, rfl⟩
        go_wp2_with fail
        refine (specAreSummonses_any _ _ w4 _ (own_slS5 o4)).mono ?_
        rintro e w6 ⟨rfl, hb6⟩
        have hB6 := hb4.trans (hb6.mono hb4.size)
        cases h6 : listOkS5 (S5.ins (newS n d z) cs)
        · have hF : sendF hs cs n d q = ([], 5) := by rw [HF.out, if_neg (by simp [h6])]
          go_wp2_with fail
          go_ret2
          exact ⟨.slice none 0 0, by rw [hF]; rfl, by rw [hF]; exact own_nil _ _ _ _ _, hb1.trans (hB6.mono hb1.size)⟩
        · have hF : sendF hs cs n d q = (S5.ins (newS n d z) cs, 0) := by rw [HF.out, if_pos h6]
          go_wp2_with fail
          go_ret2
          exact ⟨v4, by rw [hF]; rfl, by rw [hF]; exact (o4.below hb6).more hb1.size, hb1.trans (hB6.mono hb1.size)⟩

set_option maxRecDepth 100000 in
set_option maxHeartbeats 8000000 in
theorem implSendSummons_any (u : Value) (hs : List Int) (v : Value) (cs : List S5) (n d q : Int) (w : World) (lo' : Nat) (hh : SlI w lo' w.heap.size u hs) (lo : Nat) (h : SlS5 w lo w.heap.size v cs) :
    Calls Try.prog 47 #[u, v, .int .i64 n, .int .i64 d, .int .i64 q] w fun e w' => ∃ v', e = .returned (.tuple #[v', .int .i64 (sendF hs cs n d q).2]) ∧ OwnR S5.vals 5 w' w.heap.size 108 v' (sendF hs cs n d q).1 ∧ Below w.heap.size w w' := by
  obtain ⟨A, c, rfl, hc1, hc2⟩ := h.form
  go_enter Try.func47, Try.ntmps47
  go_wp2_with fail
  refine (implAreHolidays_any u hs w lo' _ hh).mono ?_
  rintro e w1 ⟨rfl, rfl⟩
  cases h0 : holB hs
  · have hF : sendF hs cs n d q = ([], 1) := by simp [sendF, h0]
    go_wp2_with fail
    go_ret2
    exact ⟨.slice none 0 0, by rw [hF]; rfl, by rw [hF]; exact own_nil _ _ _ _ _, Below.refl _ _⟩
  go_wp2_with fail
  refine (implAreSummonses_any _ cs w lo h).mono ?_
  rintro e w1 ⟨rfl, hb1⟩
  cases h1 : listOkS5 cs
  · have hF : sendF hs cs n d q = ([], 1) := by simp [sendF, h0, h1]
    go_wp2_with fail
    go_ret2
    exact ⟨.slice none 0 0, by rw [hF]; rfl, by rw [hF]; exact own_nil _ _ _ _ _, hb1⟩
  go_wp2_with fail
  refine (isDay_any d _).mono ?_
  rintro e w2 ⟨rfl, rfl⟩
  cases h3 : inB d 0 20000
  · have hF : sendF hs cs n d q = ([], 2) := by simp [sendF, h0, h1, h3]
    go_wp2_with fail
    go_ret2
    exact ⟨.slice none 0 0, by rw [hF]; rfl, by rw [hF]; exact own_nil _ _ _ _ _, hb1⟩
  go_wp2_with fail
  refine (within_any q _ _ _).mono ?_
  rintro e w2 ⟨rfl, rfl⟩
  cases h4 : inB q 0 1000
  · have hF : sendF hs cs n d q = ([], 2) := by simp [sendF, h0, h1, h3, h4]
    go_wp2_with fail
    go_ret2
    exact ⟨.slice none 0 0, by rw [hF]; rfl, by rw [hF]; exact own_nil _ _ _ _ _, hb1⟩
  go_wp2_with fail
  refine (isNumber_any n _).mono ?_
  rintro e w2 ⟨rfl, rfl⟩
  cases h2 : inB n 1 1000000
  · have hF : sendF hs cs n d q = ([], 2) := by simp [sendF, h0, h1, h2]
    go_wp2_with fail
    go_ret2
    exact ⟨.slice none 0 0, by rw [hF]; rfl, by rw [hF]; exact own_nil _ _ _ _ _, hb1⟩
  have hF : sendF hs cs n d q = if (nextF' hs (d + q)).2 = 0 then if listOkS5 (S5.ins (newS n d (nextF' hs (d + q)).1) cs) = true then (S5.ins (newS n d (nextF' hs (d + q)).1) cs, 0) else ([], 5) else ([], (nextF' hs (d + q)).2) := by simp only [sendF, h0, h1, h2, h3, h4]; rfl
  have HF := Lib.hid hF
  clear hF
  have b0 := inB_iff.1 h3
  have b1 := inB_iff.1 h4
  go_wp2_with fail
  refine (nextCourtDay_any u hs (d + q) _ lo' _ (hh.below hb1 (Nat.le_refl _)) (by omega)).mono ?_
  rintro e w2 ⟨rfl, rfl⟩
  have h4 := firstC_in (hs := hs) _ (d + q) rfl
  rcases h4 with h4 | ⟨z, h4, hz1, hz2, _⟩
  · have h4 : nextF' hs (d + q) = (0, 3) := h4
    have hF : sendF hs cs n d q = ([], 3) := by rw [HF.out, h4]; rfl
    rw [h4]
    clear h4
    go_wp2_with fail
    go_ret2
    exact ⟨.slice none 0 0, by rw [hF]; rfl, by rw [hF]; exact own_nil _ _ _ _ _, hb1⟩
  have h4 : nextF' hs (d + q) = (z, 0) := h4
  have hF : sendF hs cs n d q = if (!S5.foundB n cs && !(cs.length == 20)) = true then (S5.ins (newS n d z) cs, 0) else ([], 5) := by
    have := S5.ins_ok (newS_ok h2 h3 (by omega : d ≤ z) hz2) h1
    rw [show (newS n d z).num = n from rfl] at this
    rw [HF.out, h4, this]; rfl
  rw [h4]
  clear h4 HF
  have HF := Lib.hid hF
  clear hF
  have hlen := (listOkS5_all h1).2
  have h' : SlS5 w1 lo w1.heap.size (.slice A cs.length c) cs := (h.below hb1 (Nat.le_refl _)).more (Nat.le_refl _) hb1.size
  go_wp2_with fail
  refine (ofS5_any _ cs n w1 lo _ h' (Nat.le_refl _)).mono ?_
  rintro e w3 ⟨rfl, hb3'⟩
  have hb3 := hb1.trans (hb3'.mono hb1.size)
  have h9 : SlS5 w3 lo w3.heap.size (.slice A cs.length c) cs := (h'.below hb3' (Nat.le_refl _)).more (Nat.le_refl _) hb3'.size
  clear hb1 hb3' h'
  have z3 := hb3.size
  cases h6 : S5.foundB n cs
  case true =>
    have hF : sendF hs cs n d q = ([], 5) := by rw [HF.out, if_neg (by simp [h6])]
    go_wp2_with fail
    go_ret2
    exact ⟨.slice none 0 0, by rw [hF]; rfl, by rw [hF]; exact own_nil _ _ _ _ _, hb3⟩
  by_cases h7 : cs.length = 20
  · have hF : sendF hs cs n d q = ([], 5) := by rw [HF.out, if_neg (by simp [h7])]
    have h8 : ((cs.length : Int) == 20) = true := by simp; omega
    clear h7
    go_wp2_with fail
    go_ret2
    exact ⟨.slice none 0 0, by rw [hF]; rfl, by rw [hF]; exact own_nil _ _ _ _ _, hb3⟩
  have hF : sendF hs cs n d q = (S5.ins (newS n d z) cs, 0) := by rw [HF.out, if_pos (by simp [h6, h7])]
  have h8 : ((cs.length : Int) == 20) = false := by simp; omega
  clear h7 HF
  have HF := Lib.hid hF
  clear hF
  have hpl := S5.place_le n cs
  have hins : S5.ins (newS n d z) cs = cs.take (S5.place n cs) ++ [newS n d z] ++ cs.drop (S5.place n cs) := rfl
  have Hins := Lib.hid hins
  clear hins h6
  generalize S5.place n cs = k at *
  go_wp2_with fail
  refine (cloneS5_cap _ cs w3 lo h9 (by omega)).mono ?_
  rintro e w2 ⟨rfl, o2, hB2⟩
  have z2 := hB2.size
  go_wp2_with fail
  have t2 := rec_sl (f := S5.vals) (s := 5) (fun _ => rfl) w2 108 (cx := #[.int .i64 n, .int .i64 d, .int .i64 z, .int .i64 0, .int .i64 0]) (x := newS n d z) rfl
  refine (insS5_any w3.heap.size w2.heap.size cs.length k cs (newS n d z) _ w3.heap.size _ _ rfl hpl (by omega) (o2.alloc _) t2 (by simp) (by simp; omega)).mono ?_
  rintro e w4 ⟨v3, rfl, o3, hB3⟩
  have hb4 := hB3 _ _ (hB2.alloc z2 _) (Nat.le_refl _)
  go_wp2_with fail
  go_ret2
  exact ⟨v3, by rw [HF.out]; rfl, by rw [HF.out, Hins.out]; exact o3.more hb3.size, hb3.trans (hb4.mono hb3.size)⟩
end Go.Proofs.Ytiflpihjffhfhaa
