/- ChanceOf: the program's and the reference's answer the same function of the pool. No condition but the sizes that the law itself asks. -/
import Derived.Test.YtfenedoalnieaaaPoolC
namespace Go.Proofs.Ytfenedoalnieaaa
open Go.RowKit

theorem div_wrap (a g : Nat) (h : a ≤ 4000000000) : wrap64 ((a : Int) / (g : Int)) = ((a / g : Nat) : Int) := by
  have h1 := Nat.div_le_self a g
  rw [show (a : Int) / (g : Int) = ((a / g : Nat) : Int) from (Int.natCast_ediv a g).symm]
  generalize a / g = q at *
  exact IntWalk.wrap64_in _ (by omega)
theorem gcd_step {a b : Nat} : Nat.gcd a b = Nat.gcd b (a % b) := by rw [Nat.gcd_comm a b, Nat.gcd_rec b a, Nat.gcd_comm]
set_option maxHeartbeats 1000000 in
theorem gcd_any (a b : Nat) (w : World) (ha : a ≤ 4000000000) (hb : b ≤ 4000000000) :
    Calls Try.prog 58 #[.int .i64 a, .int .i64 b] w fun e w' => e = .returned (.int .i64 (Nat.gcd a b : Nat)) ∧ Below w.heap.size w w' := by
  go_enter Try.func58, Try.ntmps58
  go_wp2_with fail
  go_loopw [0, 1] (fun x y wr => ∃ (c d : Nat), x = .int .i64 c ∧ y = .int .i64 d ∧ c ≤ 4000000000 ∧ d ≤ 4000000000 ∧ Hid (Nat.gcd a b = Nat.gcd c d) ∧ Below w.heap.size w wr) (fun x y wr => (intOf y).toNat)
  case atStart => exact ⟨a, b, rfl, rfl, ha, hb, Lib.hid rfl, Below.refl _ _⟩
  case round =>
    obtain ⟨c, d, rfl, rfl, hc, hd, Hg, hbr⟩ := hrel
    by_cases h0 : d = 0
    · subst h0
      go_wp2_with fail
      go_ret
      exact ⟨ret_int (by rw [Hg.out, Nat.gcd_zero_right]), hbr⟩
    · have h1 : ((d : Int) == 0) = false := by simpa using h0
      have h2 : ¬ ((d : Int) = 0) := by omega
      have hm : Int.tmod (c : Int) (d : Int) = ((c % d : Nat) : Int) := by exact (Int.ofNat_tmod c d).symm
      have hlt : c % d < d := Nat.mod_lt _ (by omega)
      go_wp2_with fail
      refine wp_region_ext (by kernel_rfl) (by kernel_rfl) ?_
      repeat (go_big_quiet_step (fail))
      refine wpQuiet_nil ?_
      intro w2 hb2
      have hb2' : Below wr.heap.size wr w2 := by simpa using hb2
      go_wp2_with fail
      go_roundw
      case rel => exact ⟨d, c % d, rfl, by simp, hd, by omega, Lib.hid (by rw [Hg.out, gcd_step]), hbr.trans (hb2'.mono hbr.size)⟩
      case measure => simp [intOf]; omega

set_option maxHeartbeats 1000000 in
theorem l01Abs_any (a : Nat) (w : World) (ha : a ≤ 4000000000) :
    Calls Try.prog 79 #[.int .i64 a] w fun e w' => e = .returned (.int .i64 a) ∧ w = w' := by
  have a1 : ¬ ((a : Int) < 0) := by omega
  go_enter Try.func79, Try.ntmps79
  go_wp2_with fail
  go_ret
  exact ⟨ret_int (by omega), rfl⟩
set_option maxHeartbeats 1000000 in
theorem l01Gcd_any (a b : Nat) (w : World) (ha : a ≤ 4000000000) (hb : b ≤ 4000000000) :
    Calls Try.prog 75 #[.int .i64 a, .int .i64 b] w fun e w' => e = .returned (.int .i64 (Nat.gcd a b : Nat)) ∧ Below w.heap.size w w' := by
  go_enter Try.func75, Try.ntmps75
  have a1 : ¬ ((a : Int) < 0) := by omega
  have a2 : ¬ ((b : Int) < 0) := by omega
  go_wp2_with fail
  refine (l01Abs_any a _ ha).mono ?_
  rintro e w1 ⟨rfl, rfl⟩
  go_wp2_with fail
  refine (l01Abs_any b _ hb).mono ?_
  rintro e w1 ⟨rfl, rfl⟩
  go_wp2_with fail
  go_loopw [0, 1] (fun x y wr => ∃ (c d : Nat), x = .int .i64 c ∧ y = .int .i64 d ∧ c ≤ 4000000000 ∧ d ≤ 4000000000 ∧ Hid (Nat.gcd a b = Nat.gcd c d) ∧ Below w.heap.size w wr) (fun x y wr => (intOf y).toNat)
  case atStart => exact ⟨a, b, rfl, rfl, ha, hb, Lib.hid rfl, Below.refl _ _⟩
  case round =>
    obtain ⟨c, d, rfl, rfl, hc, hd, Hg, hbr⟩ := hrel
    by_cases h0 : d = 0
    · subst h0
      go_wp2_with fail
      go_ret
      exact ⟨ret_int (by rw [Hg.out, Nat.gcd_zero_right]), hbr⟩
    · have h1 : ((d : Int) == 0) = false := by simpa using h0
      have h2 : ¬ ((d : Int) = 0) := by omega
      have hm : Int.tmod (c : Int) (d : Int) = ((c % d : Nat) : Int) := by exact (Int.ofNat_tmod c d).symm
      have hlt : c % d < d := Nat.mod_lt _ (by omega)
      go_wp2_with fail
      refine wp_region_ext (by kernel_rfl) (by kernel_rfl) ?_
      repeat (go_big_quiet_step (fail))
      refine wpQuiet_nil ?_
      intro w2 hb2
      have hb2' : Below wr.heap.size wr w2 := by simpa using hb2
      go_wp2_with fail
      go_roundw
      case rel => exact ⟨d, c % d, rfl, by simp, hd, by omega, Lib.hid (by rw [Hg.out, gcd_step]), hbr.trans (hb2'.mono hbr.size)⟩
      case measure => simp [intOf]; omega

set_option maxHeartbeats 1000000 in
theorem l08Fraction_any (a b : Nat) (w : World) (ha : a ≤ 4000000000) (hb : b ≤ 4000000000) (h0 : 0 < b) :
    Calls Try.prog 56 #[.int .i64 a, .int .i64 b] w fun e w' => e = .returned (.tuple #[.int .i64 (a / Nat.gcd a b : Nat), .int .i64 (b / Nat.gcd a b : Nat)]) ∧ Below w.heap.size w w' := by
  have hg : 0 < Nat.gcd a b := Nat.gcd_pos_of_pos_right _ h0
  go_enter Try.func56, Try.ntmps56
  go_wp2_with fail
  refine (l01Gcd_any a b w ha hb).mono ?_
  rintro e w1 ⟨rfl, hb1⟩
  have h1 : ¬ ((Nat.gcd a b : Nat) : Int) = 0 := by omega
  have h2 : (((Nat.gcd a b : Nat) : Int) == 0) = false := by rw [beq_eq_false_iff_ne]; exact h1
  have hle : a / Nat.gcd a b ≤ a := Nat.div_le_self _ _
  have hle2 : b / Nat.gcd a b ≤ b := Nat.div_le_self _ _
  generalize hG : Nat.gcd a b = g at *
  have HG := Lib.hid hG
  clear hG
  go_wp2_with fail
  refine wp_region_ext (by kernel_rfl) (by kernel_rfl) ?_
  repeat (go_big_quiet_step (fail))
  refine wpQuiet_nil ?_
  intro w2 hb2
  have hb2' : Below w1.heap.size w1 w2 := by simpa using hb2
  go_wp2_with fail
  go_ret2
  exact ⟨by rw [HG.out, ← div_wrap a g ha, ← div_wrap b g hb]; rfl, hb1.trans (hb2'.mono hb1.size)⟩

def chanceF (p : P3) (k : Int) : Int × Int × Int :=
  if poolOk p = true then if inB k 0 60 = true then if p.nums.length - p.drawn.length = 0 then (0, 0, 4) else if ((p.nums.length - p.drawn.length : Nat) : Int) < k then (0, 0, 3)
    else ((k.toNat / Nat.gcd k.toNat (p.nums.length - p.drawn.length) : Nat), ((p.nums.length - p.drawn.length) / Nat.gcd k.toNat (p.nums.length - p.drawn.length) : Nat), 0)
  else (0, 0, 2) else (0, 0, 1)

set_option maxRecDepth 100000 in
set_option maxHeartbeats 4000000 in
theorem implChanceOf_any (vn vd : Value) (p : P3) (k : Int) (w : World) (lo lo' : Nat) (hn : SlI w lo w.heap.size vn p.nums) (hd : SlI w lo' w.heap.size vd p.drawn) (hl : p.nums.length ≤ 2097152) :
    Calls Try.prog 28 #[.agg #[vn, vd, .int .i64 p.st], .int .i64 k] w fun e w' => e = .returned (.tuple #[.int .i64 (chanceF p k).1, .int .i64 (chanceF p k).2.1, .int .i64 (chanceF p k).2.2]) ∧ Below w.heap.size w w' := by
  obtain ⟨A, c, rfl, hc1, hc2⟩ := hn.form
  obtain ⟨A', c', rfl, hc1', hc2'⟩ := hd.form
  go_enter Try.func28, Try.ntmps28
  go_wp2_with fail
  have b1 := Blk.new w 27 #[.slice A p.nums.length c, .slice A' p.drawn.length c', .int .i64 p.st]
  have hB1 : Below w.heap.size w (w.alloc (.cells #[.slice A p.nums.length c, .slice A' p.drawn.length c', .int .i64 p.st] 27)) := (Below.refl _ _).alloc (Nat.le_refl _) _
  generalize w.alloc (.cells #[.slice A p.nums.length c, .slice A' p.drawn.length c', .int .i64 p.st] 27) = w1 at *
  have up : ∀ {v : Value} {zs : List Int} {lo : Nat} {w1 : World}, SlI w lo w.heap.size v zs → Below w.heap.size w w1 → SlI w1 lo w1.heap.size v zs := fun h hb => (h.below hb (Nat.le_refl _)).more (Nat.le_refl _) hb.size
  refine (left_any _ _ p w1 _ _ (up hn hB1) (up hd hB1) hl).mono ?_
  rintro e w2 ⟨v2, rfl, o2, hb2⟩
  obtain ⟨A2, k2, rfl, _, _, _⟩ := own_form (OwnR.own o2)
  have hB2 := hB1.trans (hb2.mono hB1.size)
  have b2 := b1.below' hb2
  have c0 : w2.cell? ⟨w.heap.size, 0, none⟩ = some (.slice A p.nums.length c) := b2.cell 0
  have c1 : w2.cell? ⟨w.heap.size, 1, none⟩ = some (.slice A' p.drawn.length c') := b2.cell 1
  have c2 : w2.cell? ⟨w.heap.size, 2, none⟩ = some (.int .i64 p.st) := b2.cell 2
  have hll := leftF_len p
  go_wp2_with fail
  refine (implIsPool_any _ _ p w2 _ _ (up hn hB2) (up hd hB2)).mono ?_
  rintro e w3 ⟨rfl, hb3⟩
  have hB3 := hB2.trans (hb3.mono hB2.size)
  cases h1 : poolOk p
  · have hF : chanceF p k = (0, 0, 1) := by simp [chanceF, h1]
    go_wp2_with fail
    go_ret3
    exact ⟨by rw [hF]; rfl, hB3⟩
  have hlen := leftF_length h1
  have hp60 := (poolOk_parts h1).2.2.2.1
  go_wp2_with fail
  refine (within_any k _ _ _).mono ?_
  rintro e w4 ⟨rfl, rfl⟩
  cases h2 : inB k 0 60
  · have hF : chanceF p k = (0, 0, 2) := by simp [chanceF, h1, h2]
    go_wp2_with fail
    go_ret3
    exact ⟨by rw [hF]; rfl, hB3⟩
  have hk := inB_iff.1 h2
  obtain ⟨n, rfl⟩ : ∃ n : Nat, k = n := ⟨k.toNat, by omega⟩
  have hF0 : chanceF p n = if p.nums.length - p.drawn.length = 0 then (0, 0, 4) else if ((p.nums.length - p.drawn.length : Nat) : Int) < n then (0, 0, 3) else (((n / Nat.gcd n (p.nums.length - p.drawn.length) : Nat) : Int), (((p.nums.length - p.drawn.length) / Nat.gcd n (p.nums.length - p.drawn.length) : Nat) : Int), 0) := by simp [chanceF, h1, h2]
  have e0 : p.nums.length - p.drawn.length = (leftF p).length := by omega
  rw [e0] at hF0
  have HF0 := Lib.hid hF0
  clear hF0 e0
  have hm60 : (leftF p).length ≤ 60 := by omega
  clear hlen hll
  generalize (leftF p).length = m at *
  by_cases h3 : m = 0
  · have hF : chanceF p n = (0, 0, 4) := by rw [HF0.out, if_pos h3]
    have h3' : (m : Int) = 0 := by omega
    subst h3
    go_wp2_with fail
    go_ret3
    exact ⟨by rw [hF]; rfl, hB3⟩
  have h3' : ((m : Int) == 0) = false := by rw [beq_eq_false_iff_ne]; omega
  by_cases h4 : (m : Int) < n
  · have hF : chanceF p n = (0, 0, 3) := by rw [HF0.out, if_neg h3, if_pos h4]
    go_wp2_with fail
    go_ret3
    exact ⟨by rw [hF]; rfl, hB3⟩
  have hF : chanceF p n = (((n / Nat.gcd n m : Nat) : Int), ((m / Nat.gcd n m : Nat) : Int), 0) := by rw [HF0.out, if_neg h3, if_neg h4]
  have HF := Lib.hid hF
  clear hF
  go_wp2_with fail
  refine (gcd_any n m _ (by omega) (by omega)).mono ?_
  rintro e w5 ⟨rfl, hb5⟩
  have hB5 := hB3.trans (hb5.mono hB3.size)
  have hg : 0 < Nat.gcd n m := Nat.gcd_pos_of_pos_right _ (by omega)
  have hg1 : ¬ ((Nat.gcd n m : Nat) : Int) = 0 := by omega
  have hg2 : (((Nat.gcd n m : Nat) : Int) == 0) = false := by rw [beq_eq_false_iff_ne]; exact hg1
  have hle : n / Nat.gcd n m ≤ n := Nat.div_le_self _ _
  have hle2 : m / Nat.gcd n m ≤ m := Nat.div_le_self _ _
  generalize Nat.gcd n m = g at *
  go_wp2_with fail
  refine wp_region_ext (by kernel_rfl) (by kernel_rfl) ?_
  repeat (go_big_quiet_step (fail))
  refine wpQuiet_nil ?_
  intro w6 hb6
  have hb6' : Below w5.heap.size w5 w6 := by simpa using hb6
  go_wp2_with fail
  go_ret3
  exact ⟨by rw [HF.out, ← div_wrap n g (by omega), ← div_wrap m g (by omega)]; rfl, hB5.trans (hb6'.mono hB5.size)⟩

set_option maxRecDepth 100000 in
set_option maxHeartbeats 4000000 in
theorem specChanceOf_any (vn vd : Value) (p : P3) (k : Int) (w : World) (lo lo' : Nat) (hn : SlI w lo w.heap.size vn p.nums) (hd : SlI w lo' w.heap.size vd p.drawn) (hl : p.nums.length ≤ 2097152) (hl2 : p.drawn.length ≤ 2097152) :
    Calls Try.prog 27 #[.agg #[vn, vd, .int .i64 p.st], .int .i64 k] w fun e w' => e = .returned (.tuple #[.int .i64 (chanceF p k).1, .int .i64 (chanceF p k).2.1, .int .i64 (chanceF p k).2.2]) ∧ Below w.heap.size w w' := by
  obtain ⟨A, c, rfl, hc1, hc2⟩ := hn.form
  obtain ⟨A', c', rfl, hc1', hc2'⟩ := hd.form
  have up : ∀ {v : Value} {zs : List Int} {lo : Nat} {w1 : World}, SlI w lo w.heap.size v zs → Below w.heap.size w w1 → SlI w1 lo w1.heap.size v zs := fun h hb => (h.below hb (Nat.le_refl _)).more (Nat.le_refl _) hb.size
  go_enter Try.func27, Try.ntmps27
  go_wp2_with fail
  have hB1 : Below w.heap.size w (w.alloc (.cells #[.slice A p.nums.length c, .slice A' p.drawn.length c', .int .i64 p.st] 27)) := (Below.refl _ _).alloc (Nat.le_refl _) _
  generalize w.alloc (.cells #[.slice A p.nums.length c, .slice A' p.drawn.length c', .int .i64 p.st] 27) = w1 at *
  refine (specIsPool_any _ _ p w1 _ _ (up hn hB1) (up hd hB1)).mono ?_
  rintro e w3 ⟨rfl, hb3⟩
  have hB3 := hB1.trans (hb3.mono hB1.size)
  cases h1 : poolOk p
  · have hF : chanceF p k = (0, 0, 1) := by simp [chanceF, h1]
    go_wp2_with fail
    go_ret3
    exact ⟨by rw [hF]; rfl, hB3⟩
  have hlen := leftF_length h1
  have hp60 := (poolOk_parts h1).2.2.2.1
  go_wp2_with fail
  refine (l01In_any k _ _ _).mono ?_
  rintro e w4 ⟨rfl, rfl⟩
  cases h2 : inB k 0 60
  · have hF : chanceF p k = (0, 0, 2) := by simp [chanceF, h1, h2]
    go_wp2_with fail
    go_ret3
    exact ⟨by rw [hF]; rfl, hB3⟩
  have hk := inB_iff.1 h2
  obtain ⟨n, rfl⟩ : ∃ n : Nat, k = n := ⟨k.toNat, by omega⟩
  have hF0 : chanceF p n = if p.nums.length - p.drawn.length = 0 then (0, 0, 4) else if ((p.nums.length - p.drawn.length : Nat) : Int) < n then (0, 0, 3) else (((n / Nat.gcd n (p.nums.length - p.drawn.length) : Nat) : Int), (((p.nums.length - p.drawn.length) / Nat.gcd n (p.nums.length - p.drawn.length) : Nat) : Int), 0) := by simp [chanceF, h1, h2]
  have HF0 := Lib.hid hF0
  clear hF0
  obtain ⟨m, hm⟩ : ∃ m : Nat, p.nums.length = p.drawn.length + m := ⟨(leftF p).length, by omega⟩
  have hm2 : p.nums.length - p.drawn.length = m := by omega
  have e1 : (p.nums.length : Int) - (p.drawn.length : Int) = (m : Int) := by omega
  by_cases h3 : m = 0
  · have hF : chanceF p n = (0, 0, 4) := by rw [HF0.out, hm2, if_pos h3]
    have h3' : (p.nums.length : Int) - (p.drawn.length : Int) = 0 := by omega
    rw [e1]
    have h3'' : (m : Int) = 0 := by omega
    subst h3
    go_wp2_with fail
    go_ret3
    exact ⟨by rw [hF]; rfl, hB3⟩
  have h3' : ((m : Int) == 0) = false := by rw [beq_eq_false_iff_ne]; omega
  rw [e1]
  clear e1
  by_cases h4 : (m : Int) < n
  · have hF : chanceF p n = (0, 0, 3) := by rw [HF0.out, hm2, if_neg h3, if_pos h4]
    go_wp2_with fail
    go_ret3
    exact ⟨by rw [hF]; rfl, hB3⟩
  have hF : chanceF p n = (((n / Nat.gcd n m : Nat) : Int), ((m / Nat.gcd n m : Nat) : Int), 0) := by rw [HF0.out, hm2, if_neg h3, if_neg h4]
  have HF := Lib.hid hF
  clear hF
  have hm60 : m ≤ 60 := by omega
  clear hm hm2
  go_wp2_with fail
  refine (l08Fraction_any n m _ (by omega) (by omega) (by omega)).mono ?_
  rintro e w5 ⟨rfl, hb5⟩
  have hB5 := hB3.trans (hb5.mono hB3.size)
  go_wp2_with fail
  go_ret3
  exact ⟨by rw [HF.out]; rfl, hB5⟩
end Go.Proofs.Ytfenedoalnieaaa
