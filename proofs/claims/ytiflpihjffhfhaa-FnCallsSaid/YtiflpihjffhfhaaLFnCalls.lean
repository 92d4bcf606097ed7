/- FnCalls: for every code the law returns true. No condition. -/
import Derived.Test.YtiflpihjffhfhaaDrawKB
import Derived.Test.YtiflpihjffhfhaaDrawL
import Derived.Test.YtiflpihjffhfhaaCallP
import Derived.Test.YtiflpihjffhfhaaCourtC
namespace Go.Proofs.Ytiflpihjffhfhaa.lawFnCalls
open Go.ChangeShapes Go.WideShapes Go.ChangeAt Go.RowKit
set_option maxHeartbeats 1000000 in
theorem likeCalls_same (u v : Value) (xs : List C4) (w : World) (lo lo' : Nat) (ha : SlC4 w lo w.heap.size u xs) (hb : SlC4 w lo' w.heap.size v xs) :
    Calls Try.prog 21 #[u, v] w fun e w' => e = .returned (.bool true) ∧ Below w.heap.size w w' := by
  obtain ⟨A, c, rfl, hc1, hc2⟩ := ha.form
  obtain ⟨A', c', rfl, hc1', hc2'⟩ := hb.form
  go_enter Try.func21, Try.ntmps21
  go_wp2_with fail
  go_loopw [5] (fun i wr => ∃ (k : Nat), i = .int .i64 k ∧ k ≤ xs.length ∧ Below w.heap.size w wr) (fun i wr => xs.length - (intOf i).toNat)
  case atStart => exact ⟨0, rfl, Nat.zero_le _, Below.refl _ _⟩
  case round =>
    obtain ⟨k, rfl, hk, hbr⟩ := hrel
    by_cases hlt : k < xs.length
    · obtain ⟨x, hx⟩ := some_at hlt
      obtain ⟨b, off, rfl, _, hbb, c0, c1, c2, c3⟩ := SlR.C4_at ((ha.below hbr (Nat.le_refl _)).more (Nat.le_refl _) hbr.size) hx
      obtain ⟨b', off', rfl, _, hbb', d0, d1, d2, d3⟩ := SlR.C4_at ((hb.below hbr (Nat.le_refl _)).more (Nat.le_refl _) hbr.size) hx
      clear hx
      go_wp2_with fail
      refine wp_region_ext (by kernel_rfl) (by kernel_rfl) ?_
      repeat (go_big_quiet_step (fail))
      refine wpQuiet_nil ?_
      intro w2 hb2
      go_wp2_with fail
      go_roundw
      case rel => exact ⟨k + 1, by go_num, hlt, hbr.trans (hb2.mono hbr.size)⟩
      case measure => simp [intOf]; omega
    · go_wp2_with fail
      go_ret
      exact ⟨rfl, hbr⟩

set_option maxRecDepth 100000 in
set_option maxHeartbeats 16000000 in
theorem walkL (v : Value) (bs : List Int) (w : World) (hv : SlR u8s 1 w 0 w.heap.size v bs) (hb : ∀ b ∈ bs, 0 ≤ b ∧ b ≤ 255) :
    Calls Try.prog 3 #[v] w fun e w' => e = .returned (.bool true) ∧ Below w.heap.size w w' := by
  have B := Below.refl w.heap.size w
  go_enter Try.func3, Try.ntmps3
  go_wp2_with fail
  refine (big_any v bs w 0 _ hv).mono ?_
  rintro e w0 ⟨rfl, rfl⟩
  by_cases hbig : 4096 < bs.length
  · have hd : decide (4096 < bs.length) = true := decide_eq_true hbig
    go_wp2_with fail
    go_ret
    exact ⟨rfl, B⟩
  have hd : decide (4096 < bs.length) = false := decide_eq_false hbig
  clear hbig
  go_wp2_with fail
  clear hd
  refine (DrawMoveCall_any v bs w hv hb).mono ?_
  rintro e w1 ⟨u1, hs, v1, cs, n, d, rfl, t1, lt1, s1, ls1, hb1⟩
  have zw1 := hb1.size
  replace hv := SlR.bel hv hb1
  replace B := B.trans (hb1.mono B.size)
  clear hb1
  obtain ⟨Ah1, ch1, rfl, _, _⟩ := t1.form
  obtain ⟨A1, c1, rfl, _, _⟩ := s1.form
  go_wp2_with fail
  have HMC := Lib.hid (move_cases hs cs n d)
  refine (implMoveCall_any _ hs _ cs n d w1 _ t1 _ s1).mono ?_
  rintro e w2 ⟨v2, rfl, o2, hb2⟩
  have zw2 := hb2.size
  replace hv := SlR.bel hv hb2
  replace t1 := SlR.bel t1 hb2
  replace s1 := SlR.bel s1 hb2
  replace B := B.trans (hb2.mono B.size)
  clear hb2
  have s2 := own_slC4 o2
  clear o2
  obtain ⟨A2, c2, rfl, _, _⟩ := s2.form
  go_wp2_with fail
  refine (specMoveCall_any _ hs _ cs n d w2 _ t1 _ s1).mono ?_
  rintro e w3 ⟨v3, rfl, o3, hb3⟩
  have zw3 := hb3.size
  replace hv := SlR.bel hv hb3
  replace t1 := SlR.bel t1 hb3
  replace s1 := SlR.bel s1 hb3
  replace s2 := SlR.bel s2 hb3
  replace B := B.trans (hb3.mono B.size)
  clear hb3
  have s3 := own_slC4 o3
  clear o3
  obtain ⟨A3, c3, rfl, _, _⟩ := s3.form
  go_wp2_with fail
  refine (implMayMove_any _ hs _ cs n d w3 _ t1 _ s1).mono ?_
  rintro e w4 ⟨rfl, hb4⟩
  have zw4 := hb4.size
  replace hv := SlR.bel hv hb4
  replace t1 := SlR.bel t1 hb4
  replace s1 := SlR.bel s1 hb4
  replace s2 := SlR.bel s2 hb4
  replace s3 := SlR.bel s3 hb4
  replace B := B.trans (hb4.mono B.size)
  clear hb4
  go_wp2_with fail
  refine (specMayMove_any _ hs _ cs n d w4 _ t1 _ s1).mono ?_
  rintro e w5 ⟨rfl, hb5⟩
  have zw5 := hb5.size
  replace hv := SlR.bel hv hb5
  replace t1 := SlR.bel t1 hb5
  replace s1 := SlR.bel s1 hb5
  replace s2 := SlR.bel s2 hb5
  replace s3 := SlR.bel s3 hb5
  replace B := B.trans (hb5.mono B.size)
  clear hb5
  go_wp2_with fail
  have lMV := moveF_len hs cs n d
  generalize moveF hs cs n d = MV at *
  generalize mayMoveF hs cs n d = MM at *
  clear s1
  refine (DrawAddCall_any v bs w5 hv hb).mono ?_
  rintro e w6 ⟨u4, gs, v4, xs, m, y, rfl, t4, lt4, s4, ls4, hb6⟩
  have zw6 := hb6.size
  replace hv := SlR.bel hv hb6
  replace t1 := SlR.bel t1 hb6
  replace s2 := SlR.bel s2 hb6
  replace s3 := SlR.bel s3 hb6
  replace B := B.trans (hb6.mono B.size)
  clear hb6
  obtain ⟨Ah4, ch4, rfl, _, _⟩ := t4.form
  obtain ⟨A4, c4, rfl, _, _⟩ := s4.form
  go_wp2_with fail
  have HA := Lib.hid (fun e => add_law (hs := gs) (cs := xs) (n := m) (d := y) e)
  have lAD := addCallF_len gs xs m y
  refine (implAddCall_any _ gs _ xs m y w6 _ t4 _ s4).mono ?_
  rintro e w7 ⟨v5, rfl, o5, hb7⟩
  have zw7 := hb7.size
  replace hv := SlR.bel hv hb7
  replace t1 := SlR.bel t1 hb7
  replace s2 := SlR.bel s2 hb7
  replace s3 := SlR.bel s3 hb7
  replace t4 := SlR.bel t4 hb7
  replace s4 := SlR.bel s4 hb7
  replace B := B.trans (hb7.mono B.size)
  clear hb7
  have s5 := own_slC4 o5
  clear o5
  obtain ⟨A5, c5, rfl, _, _⟩ := s5.form
  go_wp2_with fail
  refine (specAddCall_any _ gs _ xs m y w7 _ t4 _ s4).mono ?_
  rintro e w8 ⟨v6, rfl, o6, hb8⟩
  have zw8 := hb8.size
  replace hv := SlR.bel hv hb8
  replace t1 := SlR.bel t1 hb8
  replace s2 := SlR.bel s2 hb8
  replace s3 := SlR.bel s3 hb8
  replace t4 := SlR.bel t4 hb8
  replace s4 := SlR.bel s4 hb8
  replace s5 := SlR.bel s5 hb8
  replace B := B.trans (hb8.mono B.size)
  clear hb8
  have s6 := own_slC4 o6
  clear o6
  obtain ⟨A6, c6, rfl, _, _⟩ := s6.form
  generalize addCallF gs xs m y = AD at *
  clear t4 s4
  go_wp2_with fail
  refine (DrawDropCall_any v bs w8 hv hb).mono ?_
  rintro e w9 ⟨v7, zs, k, rfl, s7, ls7, hb9⟩
  have zw9 := hb9.size
  replace hv := SlR.bel hv hb9
  replace t1 := SlR.bel t1 hb9
  replace s2 := SlR.bel s2 hb9
  replace s3 := SlR.bel s3 hb9
  replace s5 := SlR.bel s5 hb9
  replace s6 := SlR.bel s6 hb9
  replace B := B.trans (hb9.mono B.size)
  clear hb9
  obtain ⟨A7, c7, rfl, _, _⟩ := s7.form
  go_wp2_with fail
  have HD := Lib.hid (fun e => drop_law (cs := zs) (n := k) e)
  have lDF := dropF_len zs k
  refine (implDropCall_any _ zs k w9 _ s7).mono ?_
  rintro e w10 ⟨v8, rfl, o8, hb10⟩
  have zw10 := hb10.size
  replace hv := SlR.bel hv hb10
  replace t1 := SlR.bel t1 hb10
  replace s2 := SlR.bel s2 hb10
  replace s3 := SlR.bel s3 hb10
  replace s5 := SlR.bel s5 hb10
  replace s6 := SlR.bel s6 hb10
  replace s7 := SlR.bel s7 hb10
  replace B := B.trans (hb10.mono B.size)
  clear hb10
  have s8 := own_slC4 o8
  clear o8
  obtain ⟨A8, c8, rfl, _, _⟩ := s8.form
  go_wp2_with fail
  refine (specDropCall_any _ zs k w10 _ s7).mono ?_
  rintro e w11 ⟨v9, rfl, o9, hb11⟩
  have zw11 := hb11.size
  replace hv := SlR.bel hv hb11
  replace t1 := SlR.bel t1 hb11
  replace s2 := SlR.bel s2 hb11
  replace s3 := SlR.bel s3 hb11
  replace s5 := SlR.bel s5 hb11
  replace s6 := SlR.bel s6 hb11
  replace s7 := SlR.bel s7 hb11
  replace s8 := SlR.bel s8 hb11
  replace B := B.trans (hb11.mono B.size)
  clear hb11
  have s9 := own_slC4 o9
  clear o9
  obtain ⟨A9, c9, rfl, _, _⟩ := s9.form
  generalize dropF zs k = DF at *
  clear hv
  go_wp2_with fail
  refine (likeCalls_same _ _ MV.1 w11 _ _ s2 s3).mono ?_
  rintro e w12 ⟨rfl, hb12⟩
  have zw12 := hb12.size
  replace t1 := SlR.bel t1 hb12
  replace s2 := SlR.bel s2 hb12
  replace s3 := SlR.bel s3 hb12
  replace s5 := SlR.bel s5 hb12
  replace s6 := SlR.bel s6 hb12
  replace s7 := SlR.bel s7 hb12
  replace s8 := SlR.bel s8 hb12
  replace s9 := SlR.bel s9 hb12
  replace B := B.trans (hb12.mono B.size)
  clear hb12
  clear s3
  go_wp2_with fail
  refine (likeCalls_same _ _ AD.1 w12 _ _ s5 s6).mono ?_
  rintro e w13 ⟨rfl, hb13⟩
  have zw13 := hb13.size
  replace t1 := SlR.bel t1 hb13
  replace s2 := SlR.bel s2 hb13
  replace s5 := SlR.bel s5 hb13
  replace s6 := SlR.bel s6 hb13
  replace s7 := SlR.bel s7 hb13
  replace s8 := SlR.bel s8 hb13
  replace s9 := SlR.bel s9 hb13
  replace B := B.trans (hb13.mono B.size)
  clear hb13
  clear s6
  go_wp2_with fail
  refine (likeCalls_same _ _ DF.1 w13 _ _ s8 s9).mono ?_
  rintro e w14 ⟨rfl, hb14⟩
  have zw14 := hb14.size
  replace t1 := SlR.bel t1 hb14
  replace s2 := SlR.bel s2 hb14
  replace s5 := SlR.bel s5 hb14
  replace s7 := SlR.bel s7 hb14
  replace s8 := SlR.bel s8 hb14
  replace s9 := SlR.bel s9 hb14
  replace B := B.trans (hb14.mono B.size)
  clear hb14
  clear s8 s9
  go_wp2_with fail
  refine (implAreCalls_any _ zs w14 _ s7).mono ?_
  rintro e w15 ⟨rfl, hb15⟩
  have zw15 := hb15.size
  replace t1 := SlR.bel t1 hb15
  replace s2 := SlR.bel s2 hb15
  replace s5 := SlR.bel s5 hb15
  replace s7 := SlR.bel s7 hb15
  replace B := B.trans (hb15.mono B.size)
  clear hb15
  go_wp2_with fail
  refine (specAreCalls_any _ zs w15 _ s7).mono ?_
  rintro e w16 ⟨rfl, hb16⟩
  have zw16 := hb16.size
  replace t1 := SlR.bel t1 hb16
  replace s2 := SlR.bel s2 hb16
  replace s5 := SlR.bel s5 hb16
  replace s7 := SlR.bel s7 hb16
  replace B := B.trans (hb16.mono B.size)
  clear hb16
  clear s7
  rcases HMC.out with ⟨m1, m2⟩ | ⟨m1, m2, m3⟩ | ⟨m1, m2, m3, m4, m5, m6, m7, m8, m9⟩
  · have q1 : (MM.2 == 0) = false := by simpa using m1
    have q2 : (MV.2 != 0) = true := by simpa [bne] using m2
    clear m1 m2 HMC
    by_cases eA : AD.2 = 0
    · have a1 : (AD.2 == 0) = true := by simpa using eA
      obtain ⟨p1, p2, p3⟩ := HA.out eA
      have P1 := Lib.hid p1
      have P2 := Lib.hid p2
      have a3 : ((AD.1.length : Int) != (xs.length : Int) + 1) = false := by simp; omega
      clear eA p1 p2 p3 HA
      go_wp2_with fail
      have C := implCalledOn_any _ AD.1 y w16 _ s5 (by omega)
      rw [P1.out] at C
      refine C.mono ?_
      clear C
      rintro e w17 ⟨v11, rfl, o11, hb17⟩
      have zw17 := hb17.size
      replace t1 := SlR.bel t1 hb17
      replace s2 := SlR.bel s2 hb17
      replace s5 := SlR.bel s5 hb17
      replace B := B.trans (hb17.mono B.size)
      clear hb17
      have s11 := own_slI o11
      clear o11
      obtain ⟨A11, c11, rfl, _, _⟩ := s11.form
      go_wp2_with fail
      refine (hasInt_as P2.out s11).mono ?_
      rintro e w' ⟨rfl, rfl⟩
      clear s11 s5
      by_cases eD : DF.2 = 0
      · have d1 : (DF.2 == 0) = true := by simpa using eD
        have d2 := HD.out eD
        have d3 : ((DF.1.length : Int) + 1 != (zs.length : Int)) = false := by simp; omega
        clear eD d2
        go_wp2_with fail
        go_ret
        exact ⟨rfl, B⟩
      · have d1 : (DF.2 == 0) = false := by simpa using eD
        clear eD
        go_wp2_with fail
        go_ret
        exact ⟨rfl, B⟩
    · have a1 : (AD.2 == 0) = false := by simpa using eA
      clear eA HA
      clear s5
      by_cases eD : DF.2 = 0
      · have d1 : (DF.2 == 0) = true := by simpa using eD
        have d2 := HD.out eD
        have d3 : ((DF.1.length : Int) + 1 != (zs.length : Int)) = false := by simp; omega
        clear eD d2
        go_wp2_with fail
        go_ret
        exact ⟨rfl, B⟩
      · have d1 : (DF.2 == 0) = false := by simpa using eD
        clear eD
        go_wp2_with fail
        go_ret
        exact ⟨rfl, B⟩
  · have q1 : (MM.2 == 0) = true := by simpa using m1
    have q2 : (MV.2 != 0) = true := by simpa [bne] using m3
    have q3 : (MV.2 == 0) = false := by simpa using m3
    clear m1 m3 HMC
    by_cases eA : AD.2 = 0
    · have a1 : (AD.2 == 0) = true := by simpa using eA
      obtain ⟨p1, p2, p3⟩ := HA.out eA
      have P1 := Lib.hid p1
      have P2 := Lib.hid p2
      have a3 : ((AD.1.length : Int) != (xs.length : Int) + 1) = false := by simp; omega
      clear eA p1 p2 p3 HA
      go_wp2_with fail
      have C := implCalledOn_any _ AD.1 y w16 _ s5 (by omega)
      rw [P1.out] at C
      refine C.mono ?_
      clear C
      rintro e w17 ⟨v11, rfl, o11, hb17⟩
      have zw17 := hb17.size
      replace t1 := SlR.bel t1 hb17
      replace s2 := SlR.bel s2 hb17
      replace s5 := SlR.bel s5 hb17
      replace B := B.trans (hb17.mono B.size)
      clear hb17
      have s11 := own_slI o11
      clear o11
      obtain ⟨A11, c11, rfl, _, _⟩ := s11.form
      go_wp2_with fail
      refine (hasInt_as P2.out s11).mono ?_
      rintro e w' ⟨rfl, rfl⟩
      clear s11 s5
      by_cases eD : DF.2 = 0
      · have d1 : (DF.2 == 0) = true := by simpa using eD
        have d2 := HD.out eD
        have d3 : ((DF.1.length : Int) + 1 != (zs.length : Int)) = false := by simp; omega
        clear eD d2
        go_wp2_with fail
        go_ret
        exact ⟨rfl, B⟩
      · have d1 : (DF.2 == 0) = false := by simpa using eD
        clear eD
        go_wp2_with fail
        go_ret
        exact ⟨rfl, B⟩
    · have a1 : (AD.2 == 0) = false := by simpa using eA
      clear eA HA
      clear s5
      by_cases eD : DF.2 = 0
      · have d1 : (DF.2 == 0) = true := by simpa using eD
        have d2 := HD.out eD
        have d3 : ((DF.1.length : Int) + 1 != (zs.length : Int)) = false := by simp; omega
        clear eD d2
        go_wp2_with fail
        go_ret
        exact ⟨rfl, B⟩
      · have d1 : (DF.2 == 0) = false := by simpa using eD
        clear eD
        go_wp2_with fail
        go_ret
        exact ⟨rfl, B⟩
  · have q1 : (MM.2 == 0) = true := by simpa using m1
    have q2 : (MV.2 != 0) = false := by simp [m3]
    have q3 : (MV.2 == 0) = true := by simpa using m3
    have M4 := Lib.hid m4
    have M5 := Lib.hid m5
    have M6 := Lib.hid m6
    have M7 := Lib.hid m7
    have M8 := Lib.hid m8
    have M9 := Lib.hid m9
    clear m1 m3 m4 m5 m6 m7 m8 m9 HMC
    by_cases eA : AD.2 = 0
    · have a1 : (AD.2 == 0) = true := by simpa using eA
      obtain ⟨p1, p2, p3⟩ := HA.out eA
      have P1 := Lib.hid p1
      have P2 := Lib.hid p2
      have a3 : ((AD.1.length : Int) != (xs.length : Int) + 1) = false := by simp; omega
      clear eA p1 p2 p3 HA
      go_wp2_with fail
      have C := implCalledOn_any _ AD.1 y w16 _ s5 (by omega)
      rw [P1.out] at C
      refine C.mono ?_
      clear C
      rintro e w17 ⟨v11, rfl, o11, hb17⟩
      have zw17 := hb17.size
      replace t1 := SlR.bel t1 hb17
      replace s2 := SlR.bel s2 hb17
      replace s5 := SlR.bel s5 hb17
      replace B := B.trans (hb17.mono B.size)
      clear hb17
      have s11 := own_slI o11
      clear o11
      obtain ⟨A11, c11, rfl, _, _⟩ := s11.form
      go_wp2_with fail
      refine (hasInt_as P2.out s11).mono ?_
      rintro e w' ⟨rfl, rfl⟩
      clear s11 s5
      by_cases eD : DF.2 = 0
      · have d1 : (DF.2 == 0) = true := by simpa using eD
        have d2 := HD.out eD
        have d3 : ((DF.1.length : Int) + 1 != (zs.length : Int)) = false := by simp; omega
        clear eD d2
        go_wp2_with fail
        have C18 := implIsCourtDay_ok _ hs d w17 _ t1 M4.out M5.out
        rw [M6.out] at C18
        refine C18.mono ?_
        clear C18
        rintro e w18 ⟨rfl, hb18⟩
        have zw18 := hb18.size
        replace t1 := SlR.bel t1 hb18
        replace s2 := SlR.bel s2 hb18
        replace B := B.trans (hb18.mono B.size)
        clear hb18
        go_wp2_with fail
        have hc := calledOnF_ok M7.out M5.out
        have HC := Lib.hid hc
        clear hc
        have C := implCalledOn_any _ MV.1 d w18 _ s2 (by omega)
        rw [HC.out] at C
        refine C.mono ?_
        clear C
        rintro e w19 ⟨v10, rfl, o10, hb19⟩
        have zw19 := hb19.size
        replace t1 := SlR.bel t1 hb19
        replace s2 := SlR.bel s2 hb19
        replace B := B.trans (hb19.mono B.size)
        clear hb19
        have s10 := own_slI o10
        clear o10
        obtain ⟨A10, c10, rfl, _, _⟩ := s10.form
        go_wp2_with fail
        go_loopw [35] (fun i wr => ∃ (j : Nat), i = .int .i64 j ∧ j ≤ MV.1.length ∧ Below w19.heap.size w19 wr) (fun i wr => MV.1.length - (intOf i).toNat)
        case atStart => exact ⟨0, rfl, Nat.zero_le _, Below.refl _ _⟩
        case round =>
          obtain ⟨j, rfl, hj, hbr⟩ := hrel
          have s2 := SlR.bel s2 hbr
          have s10 := SlR.bel s10 hbr
          have B := B.trans (hbr.mono B.size)
          by_cases hlt : j < MV.1.length
          · obtain ⟨x, hx⟩ := some_at hlt
            have hm := List.mem_of_getElem? hx
            have hbd := C4.bounds ((callsOk_all M7.out).1 x hm)
            have hday := M9.out x hm
            obtain ⟨b, off, rfl, _, hbb, c0, c1, c2, c3⟩ := s2.C4_at hx
            clear hx hm
            have hw : IntKind.i64.wrap (x.first + 180) = x.first + 180 := IntWalk.i64_in _ (by omega)
            have hcase : (decide (x.first + 180 < x.day) = false) ∨ (decide (x.first + 180 < x.day) = true ∧ (x.num == n) = false) := by
              by_cases q : x.first + 180 < x.day
              · exact .inr ⟨by simpa using q, by simp; intro e; have := hday e; omega⟩
              · exact .inl (by simpa using q)
            clear hday hbd
            go_wp2_with fail
            rcases hcase with k1 | ⟨k1, k2⟩
            all_goals
              refine wp_region_ext (by kernel_rfl) (by kernel_rfl) ?_
              repeat (go_big_quiet_step (fail))
              refine wpQuiet_nil ?_
              intro w2 hb2
              clear hw
              go_wp2_with fail
              go_roundw
              case rel => exact ⟨j + 1, by go_num, hlt, hbr.trans (hb2.mono hbr.size)⟩
              case measure => simp [intOf]; omega
          · go_wp2_with fail
            refine (hasInt_as M8.out s10).mono ?_
            rintro e w' ⟨rfl, rfl⟩
            go_wp2_with fail
            have C := implAreCalls_any _ MV.1 _ _ s2
            rw [M7.out] at C
            refine C.mono ?_
            clear C
            rintro e w2 ⟨rfl, hb2⟩
            go_wp2_with fail
            go_ret
            exact ⟨rfl, B.trans (hb2.mono B.size)⟩
      · have d1 : (DF.2 == 0) = false := by simpa using eD
        clear eD
        go_wp2_with fail
        have C18 := implIsCourtDay_ok _ hs d w17 _ t1 M4.out M5.out
        rw [M6.out] at C18
        refine C18.mono ?_
        clear C18
        rintro e w18 ⟨rfl, hb18⟩
        have zw18 := hb18.size
        replace t1 := SlR.bel t1 hb18
        replace s2 := SlR.bel s2 hb18
        replace B := B.trans (hb18.mono B.size)
        clear hb18
        go_wp2_with fail
        have hc := calledOnF_ok M7.out M5.out
        have HC := Lib.hid hc
        clear hc
        have C := implCalledOn_any _ MV.1 d w18 _ s2 (by omega)
        rw [HC.out] at C
        refine C.mono ?_
        clear C
        rintro e w19 ⟨v10, rfl, o10, hb19⟩
        have zw19 := hb19.size
        replace t1 := SlR.bel t1 hb19
        replace s2 := SlR.bel s2 hb19
        replace B := B.trans (hb19.mono B.size)
        clear hb19
        have s10 := own_slI o10
        clear o10
        obtain ⟨A10, c10, rfl, _, _⟩ := s10.form
        go_wp2_with fail
        go_loopw [35] (fun i wr => ∃ (j : Nat), i = .int .i64 j ∧ j ≤ MV.1.length ∧ Below w19.heap.size w19 wr) (fun i wr => MV.1.length - (intOf i).toNat)
        case atStart => exact ⟨0, rfl, Nat.zero_le _, Below.refl _ _⟩
        case round =>
          obtain ⟨j, rfl, hj, hbr⟩ := hrel
          have s2 := SlR.bel s2 hbr
          have s10 := SlR.bel s10 hbr
          have B := B.trans (hbr.mono B.size)
          by_cases hlt : j < MV.1.length
          · obtain ⟨x, hx⟩ := some_at hlt
            have hm := List.mem_of_getElem? hx
            have hbd := C4.bounds ((callsOk_all M7.out).1 x hm)
            have hday := M9.out x hm
            obtain ⟨b, off, rfl, _, hbb, c0, c1, c2, c3⟩ := s2.C4_at hx
            clear hx hm
            have hw : IntKind.i64.wrap (x.first + 180) = x.first + 180 := IntWalk.i64_in _ (by omega)
            have hcase : (decide (x.first + 180 < x.day) = false) ∨ (decide (x.first + 180 < x.day) = true ∧ (x.num == n) = false) := by
              by_cases q : x.first + 180 < x.day
              · exact .inr ⟨by simpa using q, by simp; intro e; have := hday e; omega⟩
              · exact .inl (by simpa using q)
            clear hday hbd
            go_wp2_with fail
            rcases hcase with k1 | ⟨k1, k2⟩
            all_goals
              refine wp_region_ext (by kernel_rfl) (by kernel_rfl) ?_
              repeat (go_big_quiet_step (fail))
              refine wpQuiet_nil ?_
              intro w2 hb2
              clear hw
              go_wp2_with fail
              go_roundw
              case rel => exact ⟨j + 1, by go_num, hlt, hbr.trans (hb2.mono hbr.size)⟩
              case measure => simp [intOf]; omega
          · go_wp2_with fail
            refine (hasInt_as M8.out s10).mono ?_
            rintro e w' ⟨rfl, rfl⟩
            go_wp2_with fail
            have C := implAreCalls_any _ MV.1 _ _ s2
            rw [M7.out] at C
            refine C.mono ?_
            clear C
            rintro e w2 ⟨rfl, hb2⟩
            go_wp2_with fail
            go_ret
            exact ⟨rfl, B.trans (hb2.mono B.size)⟩
    · have a1 : (AD.2 == 0) = false := by simpa using eA
      clear eA HA
      clear s5
      by_cases eD : DF.2 = 0
      · have d1 : (DF.2 == 0) = true := by simpa using eD
        have d2 := HD.out eD
        have d3 : ((DF.1.length : Int) + 1 != (zs.length : Int)) = false := by simp; omega
        clear eD d2
        go_wp2_with fail
        have C17 := implIsCourtDay_ok _ hs d w16 _ t1 M4.out M5.out
        rw [M6.out] at C17
        refine C17.mono ?_
        clear C17
        rintro e w17 ⟨rfl, hb17⟩
        have zw17 := hb17.size
        replace t1 := SlR.bel t1 hb17
        replace s2 := SlR.bel s2 hb17
        replace B := B.trans (hb17.mono B.size)
        clear hb17
        go_wp2_with fail
        have hc := calledOnF_ok M7.out M5.out
        have HC := Lib.hid hc
        clear hc
        have C := implCalledOn_any _ MV.1 d w17 _ s2 (by omega)
        rw [HC.out] at C
        refine C.mono ?_
        clear C
        rintro e w18 ⟨v10, rfl, o10, hb18⟩
        have zw18 := hb18.size
        replace t1 := SlR.bel t1 hb18
        replace s2 := SlR.bel s2 hb18
        replace B := B.trans (hb18.mono B.size)
        clear hb18
        have s10 := own_slI o10
        clear o10
        obtain ⟨A10, c10, rfl, _, _⟩ := s10.form
        go_wp2_with fail
        go_loopw [35] (fun i wr => ∃ (j : Nat), i = .int .i64 j ∧ j ≤ MV.1.length ∧ Below w18.heap.size w18 wr) (fun i wr => MV.1.length - (intOf i).toNat)
        case atStart => exact ⟨0, rfl, Nat.zero_le _, Below.refl _ _⟩
        case round =>
          obtain ⟨j, rfl, hj, hbr⟩ := hrel
          have s2 := SlR.bel s2 hbr
          have s10 := SlR.bel s10 hbr
          have B := B.trans (hbr.mono B.size)
          by_cases hlt : j < MV.1.length
          · obtain ⟨x, hx⟩ := some_at hlt
            have hm := List.mem_of_getElem? hx
            have hbd := C4.bounds ((callsOk_all M7.out).1 x hm)
            have hday := M9.out x hm
            obtain ⟨b, off, rfl, _, hbb, c0, c1, c2, c3⟩ := s2.C4_at hx
            clear hx hm
            have hw : IntKind.i64.wrap (x.first + 180) = x.first + 180 := IntWalk.i64_in _ (by omega)
            have hcase : (decide (x.first + 180 < x.day) = false) ∨ (decide (x.first + 180 < x.day) = true ∧ (x.num == n) = false) := by
              by_cases q : x.first + 180 < x.day
              · exact .inr ⟨by simpa using q, by simp; intro e; have := hday e; omega⟩
              · exact .inl (by simpa using q)
            clear hday hbd
            go_wp2_with fail
            rcases hcase with k1 | ⟨k1, k2⟩
            all_goals
              refine wp_region_ext (by kernel_rfl) (by kernel_rfl) ?_
              repeat (go_big_quiet_step (fail))
              refine wpQuiet_nil ?_
              intro w2 hb2
              clear hw
              go_wp2_with fail
              go_roundw
              case rel => exact ⟨j + 1, by go_num, hlt, hbr.trans (hb2.mono hbr.size)⟩
              case measure => simp [intOf]; omega
          · go_wp2_with fail
            refine (hasInt_as M8.out s10).mono ?_
            rintro e w' ⟨rfl, rfl⟩
            go_wp2_with fail
            have C := implAreCalls_any _ MV.1 _ _ s2
            rw [M7.out] at C
            refine C.mono ?_
            clear C
            rintro e w2 ⟨rfl, hb2⟩
            go_wp2_with fail
            go_ret
            exact ⟨rfl, B.trans (hb2.mono B.size)⟩
      · have d1 : (DF.2 == 0) = false := by simpa using eD
        clear eD
        go_wp2_with fail
        have C17 := implIsCourtDay_ok _ hs d w16 _ t1 M4.out M5.out
        rw [M6.out] at C17
        refine C17.mono ?_
        clear C17
        rintro e w17 ⟨rfl, hb17⟩
        have zw17 := hb17.size
        replace t1 := SlR.bel t1 hb17
        replace s2 := SlR.bel s2 hb17
        replace B := B.trans (hb17.mono B.size)
        clear hb17
        go_wp2_with fail
        have hc := calledOnF_ok M7.out M5.out
        have HC := Lib.hid hc
        clear hc
        have C := implCalledOn_any _ MV.1 d w17 _ s2 (by omega)
        rw [HC.out] at C
        refine C.mono ?_
        clear C
        rintro e w18 ⟨v10, rfl, o10, hb18⟩
        have zw18 := hb18.size
        replace t1 := SlR.bel t1 hb18
        replace s2 := SlR.bel s2 hb18
        replace B := B.trans (hb18.mono B.size)
        clear hb18
        have s10 := own_slI o10
        clear o10
        obtain ⟨A10, c10, rfl, _, _⟩ := s10.form
        go_wp2_with fail
        go_loopw [35] (fun i wr => ∃ (j : Nat), i = .int .i64 j ∧ j ≤ MV.1.length ∧ Below w18.heap.size w18 wr) (fun i wr => MV.1.length - (intOf i).toNat)
        case atStart => exact ⟨0, rfl, Nat.zero_le _, Below.refl _ _⟩
        case round =>
          obtain ⟨j, rfl, hj, hbr⟩ := hrel
          have s2 := SlR.bel s2 hbr
          have s10 := SlR.bel s10 hbr
          have B := B.trans (hbr.mono B.size)
          by_cases hlt : j < MV.1.length
          · obtain ⟨x, hx⟩ := some_at hlt
            have hm := List.mem_of_getElem? hx
            have hbd := C4.bounds ((callsOk_all M7.out).1 x hm)
            have hday := M9.out x hm
            obtain ⟨b, off, rfl, _, hbb, c0, c1, c2, c3⟩ := s2.C4_at hx
            clear hx hm
            have hw : IntKind.i64.wrap (x.first + 180) = x.first + 180 := IntWalk.i64_in _ (by omega)
            have hcase : (decide (x.first + 180 < x.day) = false) ∨ (decide (x.first + 180 < x.day) = true ∧ (x.num == n) = false) := by
              by_cases q : x.first + 180 < x.day
              · exact .inr ⟨by simpa using q, by simp; intro e; have := hday e; omega⟩
              · exact .inl (by simpa using q)
            clear hday hbd
            go_wp2_with fail
            rcases hcase with k1 | ⟨k1, k2⟩
            all_goals
              refine wp_region_ext (by kernel_rfl) (by kernel_rfl) ?_
              repeat (go_big_quiet_step (fail))
              refine wpQuiet_nil ?_
              intro w2 hb2
              clear hw
              go_wp2_with fail
              go_roundw
              case rel => exact ⟨j + 1, by go_num, hlt, hbr.trans (hb2.mono hbr.size)⟩
              case measure => simp [intOf]; omega
          · go_wp2_with fail
            refine (hasInt_as M8.out s10).mono ?_
            rintro e w' ⟨rfl, rfl⟩
            go_wp2_with fail
            have C := implAreCalls_any _ MV.1 _ _ s2
            rw [M7.out] at C
            refine C.mono ?_
            clear C
            rintro e w2 ⟨rfl, hb2⟩
            go_wp2_with fail
            go_ret
            exact ⟨rfl, B.trans (hb2.mono B.size)⟩

theorem walk (v0 : Value) (w : World) (g0 : ∃ bs, SlR u8s 1 w 0 w.heap.size v0 bs ∧ ∀ b ∈ bs, 0 ≤ b ∧ b ≤ 255) :
    Calls Try.prog 3 #[v0] w fun e w' => e = .returned (.bool true) ∧ Below w.heap.size w w' := by
  obtain ⟨bs, h, hb⟩ := g0
  exact walkL v0 bs w h hb


theorem own : ownKnob Try.prog.godebug = none := by kernel_rfl
theorem laidOut : laidOutB Try.prog = true := by kernel_rfl

set_option maxRecDepth 100000 in
theorem lifted (os : Os) (started : os.Started) (H : Type) (enc : TypeId × Value → H) :
    ReturnsInHanded {} Try.checked os 3 .any (Rows.fnCallsSpec.pre6 enc Try.prog Try.f3 Rows.fnCallsRow.domain false) (Rows.fnCallsSpec.post enc Try.prog Try.f3 false true false false) := by
  refine returnsInHanded_of_change (C := Try.checked) own started (by kernel_rfl) Try.func3
    (ChangeSpec.witness6 (enc := enc) (C := Try.checked) false ⟨#[], #[.slice none 0 0], []⟩ 8 (by kernel_rfl) (by kernel_rfl) (by kernel_rfl) (by kernel_rfl)) ?_
  intro W base args ds gs before hval0 hW hcnd _
  have hval : ∀ (j : Nat) t v, Try.f3.params[j]? = some t → args[j]? = some v → Value.okWide Try.prog W .any base t v := hval0
  have hW' := hW
  obtain ⟨p, q, hA0, hV, rfl, hfz, hnd⟩ := hW
  have hA : DataW.TrodAll enc Try.prog W 0 (fun _ => true) true Try.f3.params.toList args.toList ds p := hA0
  rw [Try.params3] at hA hval
  obtain ⟨v0, vs0, d0, ds0, p0, q0, hargs, rfl, rfl, h0, r0⟩ := trodAll_cons hA
  obtain ⟨rfl, rfl, rfl⟩ := trodAll_nil r0
  obtain rfl : args = #[v0] := by cases args; simp_all
  obtain ⟨rfl, rfl⟩ := trodVars_none hV
  have lt0 : ∀ x ∈ p0, x.block < W.heap.size := by obtain ⟨m, hm⟩ := h0; exact DataW.trod_lt m _ _ _ hm
  have g0 := open_ByteS (hval 0 22 v0 rfl rfl) h0
  clear hA0 hval0
  refine (walk v0 W g0).mono fun e W' ⟨he, bel⟩ => ?_
  subst he
  exact ⟨_, rfl, _, _, _, [], _, [], hW', trodAll_mk1 (shut_bool Try.underlying4 _), (trodAll_cons_mk (Below.trod laidOut (by kernel_rfl) (of_decide_eq_true (by kernel_rfl)) h0 bel lt0) trodAll_mk0), rfl, bel.frame _, fun h => by cases h⟩

theorem over : Rows.fnCallsRow.holds Try.pinned (OpenSpec.ofChange Rows.fnCallsSpec) :=
  OpenClaim.holds_of_wide 3 Try.f3 rfl rfl rfl rfl rfl rfl rfl ⟨rfl, rfl, rfl, rfl, rfl⟩ rfl rfl rfl rfl rfl (by kernel_rfl) Try.func3 (by kernel_rfl)
    (of_decide_eq_true (by kernel_rfl)) (by unfold Func.isWrapper; first | (rw [if_pos (by decide +kernel)]; kernel_rfl) | (rw [if_neg (by decide +kernel)]; exact ⟨rfl, rfl⟩))
    (fun os started H enc _ => lifted os started H enc)

theorem proved : Rows.FnCallsSaid := over
#print axioms proved
end Go.Proofs.Ytiflpihjffhfhaa.lawFnCalls
