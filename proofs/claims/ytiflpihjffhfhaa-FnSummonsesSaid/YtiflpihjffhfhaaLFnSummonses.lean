/- FnSummonses: for every code the law returns true. No condition. -/
import Derived.Test.YtiflpihjffhfhaaDrawSB
import Derived.Test.YtiflpihjffhfhaaDrawL
import Derived.Test.YtiflpihjffhfhaaSummQ
namespace Go.Proofs.Ytiflpihjffhfhaa.lawFnSummonses
open Go.ChangeShapes Go.WideShapes Go.ChangeAt Go.RowKit
set_option maxHeartbeats 1000000 in
theorem likeSummonses_same (u v : Value) (xs : List S5) (w : World) (lo lo' : Nat) (ha : SlS5 w lo w.heap.size u xs) (hb : SlS5 w lo' w.heap.size v xs) :
    Calls Try.prog 56 #[u, v] w fun e w' => e = .returned (.bool true) ∧ Below w.heap.size w w' := by
  obtain ⟨A, c, rfl, hc1, hc2⟩ := ha.form
  obtain ⟨A', c', rfl, hc1', hc2'⟩ := hb.form
  go_enter Try.func56, Try.ntmps56
  go_wp2_with fail
  go_loopw [5] (fun i wr => ∃ (k : Nat), i = .int .i64 k ∧ k ≤ xs.length ∧ Below w.heap.size w wr) (fun i wr => xs.length - (intOf i).toNat)
  case atStart => exact ⟨0, rfl, Nat.zero_le _, Below.refl _ _⟩
  case round =>
    obtain ⟨k, rfl, hk, hbr⟩ := hrel
    by_cases hlt : k < xs.length
    · obtain ⟨x, hx⟩ := some_at hlt
      obtain ⟨b, off, rfl, _, hbb, c0, c1, c2, c3, c4⟩ := SlR.S5_at ((ha.below hbr (Nat.le_refl _)).more (Nat.le_refl _) hbr.size) hx
      obtain ⟨b', off', rfl, _, hbb', d0, d1, d2, d3, d4⟩ := SlR.S5_at ((hb.below hbr (Nat.le_refl _)).more (Nat.le_refl _) hbr.size) hx
      clear hx
      go_wp2_with fail
      refine wp_region_ext (by kernel_rfl) (by kernel_rfl) ?_
      repeat (go_big_quiet_step (fail))
      refine wpQuiet_nil ?_
      intro w2 hb2
      go_wp2_with fail
      go_roundw
      case rel => exact ⟨k + 1, by go_num, hlt, hbr.trans (hb2.mono hbr.size)⟩
      case measure => simp [intOf]; omega
    · go_wp2_with fail
      go_ret
      exact ⟨rfl, hbr⟩

set_option maxRecDepth 100000 in
set_option maxHeartbeats 16000000 in
theorem walkL (v : Value) (bs : List Int) (w : World) (hv : SlR u8s 1 w 0 w.heap.size v bs) (hb : ∀ b ∈ bs, 0 ≤ b ∧ b ≤ 255) :
    Calls Try.prog 6 #[v] w fun e w' => e = .returned (.bool true) ∧ Below w.heap.size w w' := by
  have B := Below.refl w.heap.size w
  go_enter Try.func6, Try.ntmps6
  go_wp2_with fail
  refine (big_any v bs w 0 _ hv).mono ?_
  rintro e w0 ⟨rfl, rfl⟩
  by_cases hbig : 4096 < bs.length
  · have hd : decide (4096 < bs.length) = true := decide_eq_true hbig
    go_wp2_with fail
    go_ret
    exact ⟨rfl, B⟩
  have hd : decide (4096 < bs.length) = false := decide_eq_false hbig
  clear hbig
  go_wp2_with fail
  clear hd
  refine (DrawSendSummons_any v bs w hv hb).mono ?_
  rintro e w1 ⟨u1, hs, v1, cs, n, d, q, rfl, t1, lt1, s1, ls1, hb1⟩
  have zw1 := hb1.size
  replace hv := SlR.bel hv hb1
  replace B := B.trans (hb1.mono B.size)
  clear hb1
  obtain ⟨Ah1, ch1, rfl, _, _⟩ := t1.form
  obtain ⟨A1, c1, rfl, _, _⟩ := s1.form
  go_wp2_with fail
  have HS := Lib.hid (fun e => send_law (hs := hs) (cs := cs) (n := n) (d := d) (k := q) e)
  have lS := sendF_len hs cs n d q
  refine (implSendSummons_any _ hs _ cs n d q w1 _ t1 _ s1).mono ?_
  rintro e w2 ⟨v2, rfl, o2, hb2⟩
  have zw2 := hb2.size
  replace hv := SlR.bel hv hb2
  replace t1 := SlR.bel t1 hb2
  replace s1 := SlR.bel s1 hb2
  replace B := B.trans (hb2.mono B.size)
  clear hb2
  have s2 := own_slS5 o2
  clear o2
  obtain ⟨A2, c2, rfl, _, _⟩ := s2.form
  go_wp2_with fail
  refine (specSendSummons_any _ hs _ cs n d q w2 _ t1 _ s1).mono ?_
  rintro e w3 ⟨v3, rfl, o3, hb3⟩
  have zw3 := hb3.size
  replace hv := SlR.bel hv hb3
  replace t1 := SlR.bel t1 hb3
  replace s1 := SlR.bel s1 hb3
  replace s2 := SlR.bel s2 hb3
  replace B := B.trans (hb3.mono B.size)
  clear hb3
  have s3 := own_slS5 o3
  clear o3
  obtain ⟨A3, c3, rfl, _, _⟩ := s3.form
  generalize sendF hs cs n d q = SE at *
  clear t1
  go_wp2_with fail
  refine (DrawAnswerSummons_any v bs w3 hv hb).mono ?_
  rintro e w4 ⟨v4, xs, m, a, on, rfl, s4, ls4, hb4⟩
  have zw4 := hb4.size
  replace hv := SlR.bel hv hb4
  replace s1 := SlR.bel s1 hb4
  replace s2 := SlR.bel s2 hb4
  replace s3 := SlR.bel s3 hb4
  replace B := B.trans (hb4.mono B.size)
  clear hb4
  obtain ⟨A4, c4, rfl, _, _⟩ := s4.form
  go_wp2_with fail
  have HA := Lib.hid (fun e => answer_law (cs := xs) (n := m) (a := a) (d := on) e)
  have lA := answerF_len xs m a on
  refine (implAnswerSummons_any _ xs m a on w4 _ s4).mono ?_
  rintro e w5 ⟨v5, rfl, o5, hb5⟩
  have zw5 := hb5.size
  replace hv := SlR.bel hv hb5
  replace s1 := SlR.bel s1 hb5
  replace s2 := SlR.bel s2 hb5
  replace s3 := SlR.bel s3 hb5
  replace s4 := SlR.bel s4 hb5
  replace B := B.trans (hb5.mono B.size)
  clear hb5
  have s5 := own_slS5 o5
  clear o5
  obtain ⟨A5, c5, rfl, _, _⟩ := s5.form
  go_wp2_with fail
  refine (specAnswerSummons_any _ xs m a on w5 _ s4).mono ?_
  rintro e w6 ⟨v6, rfl, o6, hb6⟩
  have zw6 := hb6.size
  replace hv := SlR.bel hv hb6
  replace s1 := SlR.bel s1 hb6
  replace s2 := SlR.bel s2 hb6
  replace s3 := SlR.bel s3 hb6
  replace s4 := SlR.bel s4 hb6
  replace s5 := SlR.bel s5 hb6
  replace B := B.trans (hb6.mono B.size)
  clear hb6
  have s6 := own_slS5 o6
  clear o6
  obtain ⟨A6, c6, rfl, _, _⟩ := s6.form
  generalize answerF xs m a on = AN at *
  clear s4
  go_wp2_with fail
  refine (DrawOverdueOn_any v bs w6 hv hb).mono ?_
  rintro e w7 ⟨v7, ys, e7, rfl, s7, ls7, hb7⟩
  have zw7 := hb7.size
  replace hv := SlR.bel hv hb7
  replace s1 := SlR.bel s1 hb7
  replace s2 := SlR.bel s2 hb7
  replace s3 := SlR.bel s3 hb7
  replace s5 := SlR.bel s5 hb7
  replace s6 := SlR.bel s6 hb7
  replace B := B.trans (hb7.mono B.size)
  clear hb7
  obtain ⟨A7, c7, rfl, _, _⟩ := s7.form
  go_wp2_with fail
  have HO := Lib.hid (fun z hz => pickF_sub (p := overP) (q := openP) (cs := ys) (d := e7) (over_open e7) z hz)
  refine (implOverdueOn_any _ ys e7 w7 _ s7).mono ?_
  rintro e w8 ⟨v8, rfl, o8, hb8⟩
  have zw8 := hb8.size
  replace hv := SlR.bel hv hb8
  replace s1 := SlR.bel s1 hb8
  replace s2 := SlR.bel s2 hb8
  replace s3 := SlR.bel s3 hb8
  replace s5 := SlR.bel s5 hb8
  replace s6 := SlR.bel s6 hb8
  replace s7 := SlR.bel s7 hb8
  replace B := B.trans (hb8.mono B.size)
  clear hb8
  have s8 := own_slI o8
  clear o8
  obtain ⟨A8, c8, rfl, _, _⟩ := s8.form
  go_wp2_with fail
  refine (specOverdueOn_any _ ys e7 w8 _ s7).mono ?_
  rintro e w9 ⟨v9, rfl, o9, hb9⟩
  have zw9 := hb9.size
  replace hv := SlR.bel hv hb9
  replace s1 := SlR.bel s1 hb9
  replace s2 := SlR.bel s2 hb9
  replace s3 := SlR.bel s3 hb9
  replace s5 := SlR.bel s5 hb9
  replace s6 := SlR.bel s6 hb9
  replace s7 := SlR.bel s7 hb9
  replace s8 := SlR.bel s8 hb9
  replace B := B.trans (hb9.mono B.size)
  clear hb9
  have s9 := own_slI o9
  clear o9
  obtain ⟨A9, c9, rfl, _, _⟩ := s9.form
  go_wp2_with fail
  refine (implOpenOn_any _ ys e7 w9 _ s7).mono ?_
  rintro e w10 ⟨v10, rfl, o10, hb10⟩
  have zw10 := hb10.size
  replace hv := SlR.bel hv hb10
  replace s1 := SlR.bel s1 hb10
  replace s2 := SlR.bel s2 hb10
  replace s3 := SlR.bel s3 hb10
  replace s5 := SlR.bel s5 hb10
  replace s6 := SlR.bel s6 hb10
  replace s7 := SlR.bel s7 hb10
  replace s8 := SlR.bel s8 hb10
  replace s9 := SlR.bel s9 hb10
  replace B := B.trans (hb10.mono B.size)
  clear hb10
  have s10 := own_slI o10
  clear o10
  obtain ⟨A10, c10, rfl, _, _⟩ := s10.form
  go_wp2_with fail
  refine (specOpenOn_any _ ys e7 w10 _ s7).mono ?_
  rintro e w11 ⟨v11, rfl, o11, hb11⟩
  have zw11 := hb11.size
  replace hv := SlR.bel hv hb11
  replace s1 := SlR.bel s1 hb11
  replace s2 := SlR.bel s2 hb11
  replace s3 := SlR.bel s3 hb11
  replace s5 := SlR.bel s5 hb11
  replace s6 := SlR.bel s6 hb11
  replace s7 := SlR.bel s7 hb11
  replace s8 := SlR.bel s8 hb11
  replace s9 := SlR.bel s9 hb11
  replace s10 := SlR.bel s10 hb11
  replace B := B.trans (hb11.mono B.size)
  clear hb11
  have s11 := own_slI o11
  clear o11
  obtain ⟨A11, c11, rfl, _, _⟩ := s11.form
  clear hv
  have lO := pickF_len overP ys e7
  generalize pickF overP ys e7 = OV at *
  generalize pickF openP ys e7 = OP at *
  go_wp2_with fail
  refine (likeSummonses_same _ _ SE.1 w11 _ _ s2 s3).mono ?_
  rintro e w12 ⟨rfl, hb12⟩
  have zw12 := hb12.size
  replace s1 := SlR.bel s1 hb12
  replace s2 := SlR.bel s2 hb12
  replace s3 := SlR.bel s3 hb12
  replace s5 := SlR.bel s5 hb12
  replace s6 := SlR.bel s6 hb12
  replace s7 := SlR.bel s7 hb12
  replace s8 := SlR.bel s8 hb12
  replace s9 := SlR.bel s9 hb12
  replace s10 := SlR.bel s10 hb12
  replace s11 := SlR.bel s11 hb12
  replace B := B.trans (hb12.mono B.size)
  clear hb12
  clear s3
  go_wp2_with fail
  refine (likeSummonses_same _ _ AN.1 w12 _ _ s5 s6).mono ?_
  rintro e w13 ⟨rfl, hb13⟩
  have zw13 := hb13.size
  replace s1 := SlR.bel s1 hb13
  replace s2 := SlR.bel s2 hb13
  replace s5 := SlR.bel s5 hb13
  replace s6 := SlR.bel s6 hb13
  replace s7 := SlR.bel s7 hb13
  replace s8 := SlR.bel s8 hb13
  replace s9 := SlR.bel s9 hb13
  replace s10 := SlR.bel s10 hb13
  replace s11 := SlR.bel s11 hb13
  replace B := B.trans (hb13.mono B.size)
  clear hb13
  clear s6
  go_wp2_with fail
  refine (likeInts_same _ _ OV.1 w13 _ _ s8 s9).mono ?_
  rintro e w14 ⟨rfl, hb14⟩
  have zw14 := hb14.size
  replace s1 := SlR.bel s1 hb14
  replace s2 := SlR.bel s2 hb14
  replace s5 := SlR.bel s5 hb14
  replace s7 := SlR.bel s7 hb14
  replace s8 := SlR.bel s8 hb14
  replace s9 := SlR.bel s9 hb14
  replace s10 := SlR.bel s10 hb14
  replace s11 := SlR.bel s11 hb14
  replace B := B.trans (hb14.mono B.size)
  clear hb14
  clear s9
  go_wp2_with fail
  refine (likeInts_same _ _ OP.1 w14 _ _ s10 s11).mono ?_
  rintro e w15 ⟨rfl, hb15⟩
  have zw15 := hb15.size
  replace s1 := SlR.bel s1 hb15
  replace s2 := SlR.bel s2 hb15
  replace s5 := SlR.bel s5 hb15
  replace s7 := SlR.bel s7 hb15
  replace s8 := SlR.bel s8 hb15
  replace s10 := SlR.bel s10 hb15
  replace s11 := SlR.bel s11 hb15
  replace B := B.trans (hb15.mono B.size)
  clear hb15
  clear s11
  go_wp2_with fail
  refine (implAreSummonses_any _ ys w15 _ s7).mono ?_
  rintro e w16 ⟨rfl, hb16⟩
  have zw16 := hb16.size
  replace s1 := SlR.bel s1 hb16
  replace s2 := SlR.bel s2 hb16
  replace s5 := SlR.bel s5 hb16
  replace s7 := SlR.bel s7 hb16
  replace s8 := SlR.bel s8 hb16
  replace s10 := SlR.bel s10 hb16
  replace B := B.trans (hb16.mono B.size)
  clear hb16
  go_wp2_with fail
  refine (specAreSummonses_any _ ys w16 _ s7).mono ?_
  rintro e w17 ⟨rfl, hb17⟩
  have zw17 := hb17.size
  replace s1 := SlR.bel s1 hb17
  replace s2 := SlR.bel s2 hb17
  replace s5 := SlR.bel s5 hb17
  replace s7 := SlR.bel s7 hb17
  replace s8 := SlR.bel s8 hb17
  replace s10 := SlR.bel s10 hb17
  replace B := B.trans (hb17.mono B.size)
  clear hb17
  clear s7
  go_wp2_with fail
  go_loop [30] (fun i => ∃ (k : Nat), i = .int .i64 k ∧ k ≤ OV.1.length) (fun i => OV.1.length - (intOf i).toNat)
  case atStart => exact ⟨0, rfl, Nat.zero_le _⟩
  case round =>
    obtain ⟨k, rfl, hk⟩ := hrel
    by_cases hlt : k < OV.1.length
    · obtain ⟨x, hx⟩ := some_at hlt
      have hh := HO.out x (List.mem_of_getElem? hx)
      have HH := Lib.hid hh
      clear hh
      obtain ⟨b, off, rfl, _, hbb, c0⟩ := s8.int_at hx
      clear hx
      go_wp2_with fail
      refine (hasInt_as HH.out s10).mono ?_
      rintro e w' ⟨rfl, rfl⟩
      go_wp2_with fail
      go_round
      case rel => exact ⟨k + 1, by go_num, hlt⟩
      case measure => simp [intOf]; omega
    · clear s8 s10
      by_cases e1 : AN.2 = 0
      · obtain ⟨g1, g2⟩ := HA.out e1
        have k1 : (AN.2 == 0) = true := by simpa using e1
        have k5 : ((pickF openP AN.1 on).2 != 0) = false := by simp [g1]
        have G2 := Lib.hid g2
        clear e1 g1 g2 HA
        go_wp2_with fail
        refine (implOpenOn_any _ AN.1 on w17 _ s5).mono ?_
        rintro e w18 ⟨v13, rfl, o13, hb18⟩
        have zw18 := hb18.size
        replace s1 := SlR.bel s1 hb18
        replace s2 := SlR.bel s2 hb18
        replace s5 := SlR.bel s5 hb18
        replace B := B.trans (hb18.mono B.size)
        clear hb18
        have s13 := own_slI o13
        clear o13
        obtain ⟨A13, c13, rfl, _, _⟩ := s13.form
        go_wp2_with fail
        refine (hasInt_as G2.out s13).mono ?_
        rintro e w' ⟨rfl, rfl⟩
        clear s13 s5
        by_cases e2 : SE.2 = 0
        · obtain ⟨g1, g2, g3, g4⟩ := HS.out e2
          have k2 : (SE.2 != 0) = false := by simp [e2]
          have G1 := Lib.hid g1
          have G3 := Lib.hid g3
          have k3 : ((pickF openP SE.1 d).2 == 0) = true := by simpa using g2
          have k4 : ((SE.1.length : Int) == (cs.length : Int) + 1) = true := by simp; omega
          clear e2 g1 g2 g3 g4 HS
          go_wp2_with fail
          refine (implOpenOn_any _ SE.1 d w18 _ s2).mono ?_
          rintro e w19 ⟨v12, rfl, o12, hb19⟩
          have zw19 := hb19.size
          replace s1 := SlR.bel s1 hb19
          replace s2 := SlR.bel s2 hb19
          replace B := B.trans (hb19.mono B.size)
          clear hb19
          have s12 := own_slI o12
          clear o12
          obtain ⟨A12, c12, rfl, _, _⟩ := s12.form
          go_wp2_with fail
          refine (hasInt_as G3.out s12).mono ?_
          rintro e w' ⟨rfl, rfl⟩
          go_wp2_with fail
          have C20 := implAreSummonses_any _ SE.1 w19 _ s2
          rw [G1.out] at C20
          refine C20.mono ?_
          clear C20
          rintro e w20 ⟨rfl, hb20⟩
          have zw20 := hb20.size
          replace s1 := SlR.bel s1 hb20
          replace s2 := SlR.bel s2 hb20
          replace s12 := SlR.bel s12 hb20
          replace B := B.trans (hb20.mono B.size)
          clear hb20
          go_wp2_with fail
          go_ret
          exact ⟨rfl, B⟩
        · have k2 : (SE.2 != 0) = true := by simpa [bne] using e2
          clear e2
          go_wp2_with fail
          go_ret
          exact ⟨rfl, B⟩
      · have k1 : (AN.2 == 0) = false := by simpa using e1
        clear e1 HA
        by_cases e2 : SE.2 = 0
        · obtain ⟨g1, g2, g3, g4⟩ := HS.out e2
          have k2 : (SE.2 != 0) = false := by simp [e2]
          have G1 := Lib.hid g1
          have G3 := Lib.hid g3
          have k3 : ((pickF openP SE.1 d).2 == 0) = true := by simpa using g2
          have k4 : ((SE.1.length : Int) == (cs.length : Int) + 1) = true := by simp; omega
          clear e2 g1 g2 g3 g4 HS
          go_wp2_with fail
          refine (implOpenOn_any _ SE.1 d w17 _ s2).mono ?_
          rintro e w18 ⟨v12, rfl, o12, hb18⟩
          have zw18 := hb18.size
          replace s1 := SlR.bel s1 hb18
          replace s2 := SlR.bel s2 hb18
          replace s5 := SlR.bel s5 hb18
          replace B := B.trans (hb18.mono B.size)
          clear hb18
          have s12 := own_slI o12
          clear o12
          obtain ⟨A12, c12, rfl, _, _⟩ := s12.form
          go_wp2_with fail
          refine (hasInt_as G3.out s12).mono ?_
          rintro e w' ⟨rfl, rfl⟩
          go_wp2_with fail
          have C19 := implAreSummonses_any _ SE.1 w18 _ s2
          rw [G1.out] at C19
          refine C19.mono ?_
          clear C19
          rintro e w19 ⟨rfl, hb19⟩
          have zw19 := hb19.size
          replace s1 := SlR.bel s1 hb19
          replace s2 := SlR.bel s2 hb19
          replace s5 := SlR.bel s5 hb19
          replace s12 := SlR.bel s12 hb19
          replace B := B.trans (hb19.mono B.size)
          clear hb19
          go_wp2_with fail
          go_ret
          exact ⟨rfl, B⟩
        · have k2 : (SE.2 != 0) = true := by simpa [bne] using e2
          clear e2
          go_wp2_with fail
          go_ret
          exact ⟨rfl, B⟩

theorem walk (v0 : Value) (w : World) (g0 : ∃ bs, SlR u8s 1 w 0 w.heap.size v0 bs ∧ ∀ b ∈ bs, 0 ≤ b ∧ b ≤ 255) :
    Calls Try.prog 6 #[v0] w fun e w' => e = .returned (.bool true) ∧ Below w.heap.size w w' := by
  obtain ⟨bs, h, hb⟩ := g0
  exact walkL v0 bs w h hb


theorem own : ownKnob Try.prog.godebug = none := by kernel_rfl
theorem laidOut : laidOutB Try.prog = true := by kernel_rfl

set_option maxRecDepth 100000 in
theorem lifted (os : Os) (started : os.Started) (H : Type) (enc : TypeId × Value → H) :
    ReturnsInHanded {} Try.checked os 6 .any (Rows.fnSummonsesSpec.pre6 enc Try.prog Try.f6 Rows.fnSummonsesRow.domain false) (Rows.fnSummonsesSpec.post enc Try.prog Try.f6 false true false false) := by
  refine returnsInHanded_of_change (C := Try.checked) own started (by kernel_rfl) Try.func6
    (ChangeSpec.witness6 (enc := enc) (C := Try.checked) false ⟨#[], #[.slice none 0 0], []⟩ 8 (by kernel_rfl) (by kernel_rfl) (by kernel_rfl) (by kernel_rfl)) ?_
  intro W base args ds gs before hval0 hW hcnd _
  have hval : ∀ (j : Nat) t v, Try.f6.params[j]? = some t → args[j]? = some v → Value.okWide Try.prog W .any base t v := hval0
  have hW' := hW
  obtain ⟨p, q, hA0, hV, rfl, hfz, hnd⟩ := hW
  have hA : DataW.TrodAll enc Try.prog W 0 (fun _ => true) true Try.f6.params.toList args.toList ds p := hA0
  rw [Try.params6] at hA hval
  obtain ⟨v0, vs0, d0, ds0, p0, q0, hargs, rfl, rfl, h0, r0⟩ := trodAll_cons hA
  obtain ⟨rfl, rfl, rfl⟩ := trodAll_nil r0
  obtain rfl : args = #[v0] := by cases args; simp_all
  obtain ⟨rfl, rfl⟩ := trodVars_none hV
  have lt0 : ∀ x ∈ p0, x.block < W.heap.size := by obtain ⟨m, hm⟩ := h0; exact DataW.trod_lt m _ _ _ hm
  have g0 := open_ByteS (hval 0 22 v0 rfl rfl) h0
  clear hA0 hval0
  refine (walk v0 W g0).mono fun e W' ⟨he, bel⟩ => ?_
  subst he
  exact ⟨_, rfl, _, _, _, [], _, [], hW', trodAll_mk1 (shut_bool Try.underlying4 _), (trodAll_cons_mk (Below.trod laidOut (by kernel_rfl) (of_decide_eq_true (by kernel_rfl)) h0 bel lt0) trodAll_mk0), rfl, bel.frame _, fun h => by cases h⟩

theorem over : Rows.fnSummonsesRow.holds Try.pinned (OpenSpec.ofChange Rows.fnSummonsesSpec) :=
  OpenClaim.holds_of_wide 6 Try.f6 rfl rfl rfl rfl rfl rfl rfl ⟨rfl, rfl, rfl, rfl, rfl⟩ rfl rfl rfl rfl rfl (by kernel_rfl) Try.func6 (by kernel_rfl)
    (of_decide_eq_true (by kernel_rfl)) (by unfold Func.isWrapper; first | (rw [if_pos (by decide +kernel)]; kernel_rfl) | (rw [if_neg (by decide +kernel)]; exact ⟨rfl, rfl⟩))
    (fun os started H enc _ => lifted os started H enc)

theorem proved : Rows.FnSummonsesSaid := over
#print axioms proved
end Go.Proofs.Ytiflpihjffhfhaa.lawFnSummonses
