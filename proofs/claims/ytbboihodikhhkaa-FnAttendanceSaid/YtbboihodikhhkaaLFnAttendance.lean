/- FnAttendance: for every code the law returns true. No condition. -/
import Derived.Test.YtbboihodikhhkaaAttP
import Derived.Test.YtbboihodikhhkaaShDm
namespace Go.Proofs.Ytbboihodikhhkaa.lawFnAttendance
open Go.ChangeShapes Go.WideShapes Go.ChangeAt Go.RowKit
theorem hasInt_as' {v : Value} {zs : List Int} {x : Int} {w : World} {lo hi : Nat} {r : Bool} (hr : hasB x zs = r) (h : SlI w lo hi v zs) :
    Calls Try.prog 33 #[v, .int .i64 x] w fun e w' => e = .returned (.bool r) ∧ w = w' := hr ▸ hasInt_any v zs x w lo hi h

set_option maxRecDepth 100000 in
set_option maxHeartbeats 16000000 in
theorem walkL (v : Value) (bs : List Int) (w : World) (hv : SlR u8s 1 w 0 w.heap.size v bs) (hb : ∀ b ∈ bs, 0 ≤ b ∧ b ≤ 255) :
    Calls Try.prog 6 #[v] w fun e w' => e = .returned (.bool true) ∧ Below w.heap.size w w' := by
  have B := Below.refl w.heap.size w
  go_enter Try.func6, Try.ntmps6
  go_wp2_with fail
  refine (big_any v bs w 0 _ hv).mono ?_
  rintro e w0 ⟨rfl, rfl⟩
  by_cases hbig : 4096 < bs.length
  · have hd : decide (4096 < bs.length) = true := decide_eq_true hbig
    go_wp2_with fail
    go_ret
    exact ⟨rfl, B⟩
  have hd : decide (4096 < bs.length) = false := decide_eq_false hbig
  clear hbig
  go_wp2_with fail
  clear hd
  refine (DrawAbsentOn_any v bs w hv hb).mono ?_
  rintro e w1 ⟨y, z, vc, cs, day, rfl, t1, lt1, tc, ltc, hb1⟩
  have zw1 := hb1.size
  replace hv := SlR.bel hv hb1
  replace B := B.trans (hb1.mono B.size)
  clear hb1
  obtain ⟨a, u, c, e1, e2, hc⟩ := att_law z cs day
  have HC := Lib.hid hc
  clear hc
  obtain ⟨A0, c0, rfl, _, _⟩ := t1.len_form
  obtain ⟨Ac, cc, rfl, _, _⟩ := tc.form
  go_wp2_with fail
  have C2 := implAbsentOn_any _ z _ cs day w1 _ t1 _ tc
  rw [e1] at C2
  refine C2.mono ?_
  clear C2
  rintro e w2 ⟨v1, rfl, o1, hb2⟩
  have zw2 := hb2.size
  replace hv := SlR.bel hv hb2
  replace tc := SlR.bel tc hb2
  replace t1 := RdH.bel t1 hb2
  replace B := B.trans (hb2.mono B.size)
  clear hb2
  have s1 := own_slI o1
  clear o1
  obtain ⟨A1, c1, rfl, _, _⟩ := s1.form
  go_wp2_with fail
  have C3 := specAbsentOn_any _ z _ cs day w2 _ t1 _ tc
  rw [e1] at C3
  refine C3.mono ?_
  clear C3
  rintro e w3 ⟨v2, rfl, o2, hb3⟩
  have zw3 := hb3.size
  replace hv := SlR.bel hv hb3
  replace tc := SlR.bel tc hb3
  replace s1 := SlR.bel s1 hb3
  replace t1 := RdH.bel t1 hb3
  replace B := B.trans (hb3.mono B.size)
  clear hb3
  have s2 := own_slI o2
  clear o2
  obtain ⟨A2, c2, rfl, _, _⟩ := s2.form
  go_wp2_with fail
  have C4 := implUncalledOn_any _ z _ cs day w3 _ t1 _ tc
  rw [e2] at C4
  refine C4.mono ?_
  clear C4
  rintro e w4 ⟨v3, rfl, o3, hb4⟩
  have zw4 := hb4.size
  replace hv := SlR.bel hv hb4
  replace tc := SlR.bel tc hb4
  replace s1 := SlR.bel s1 hb4
  replace s2 := SlR.bel s2 hb4
  replace t1 := RdH.bel t1 hb4
  replace B := B.trans (hb4.mono B.size)
  clear hb4
  have s3 := own_slI o3
  clear o3
  obtain ⟨A3, c3, rfl, _, _⟩ := s3.form
  go_wp2_with fail
  have C5 := specUncalledOn_any _ z _ cs day w4 _ t1 _ tc
  rw [e2] at C5
  refine C5.mono ?_
  clear C5
  rintro e w5 ⟨v4, rfl, o4, hb5⟩
  have zw5 := hb5.size
  replace hv := SlR.bel hv hb5
  replace tc := SlR.bel tc hb5
  replace s1 := SlR.bel s1 hb5
  replace s2 := SlR.bel s2 hb5
  replace s3 := SlR.bel s3 hb5
  replace t1 := RdH.bel t1 hb5
  replace B := B.trans (hb5.mono B.size)
  clear hb5
  have s4 := own_slI o4
  clear o4
  obtain ⟨A4, c4, rfl, _, _⟩ := s4.form
  clear e1 e2
  go_wp2_with fail
  refine (DrawMarkPresent_any v bs w5 hv hb).mono ?_
  rintro e w6 ⟨yx, x, d, n, rfl, t3, lt3, hb6⟩
  have zw6 := hb6.size
  replace hv := SlR.bel hv hb6
  replace tc := SlR.bel tc hb6
  replace s1 := SlR.bel s1 hb6
  replace s2 := SlR.bel s2 hb6
  replace s3 := SlR.bel s3 hb6
  replace s4 := SlR.bel s4 hb6
  replace t1 := RdH.bel t1 hb6
  replace B := B.trans (hb6.mono B.size)
  clear hb6
  clear hv
  obtain ⟨m, mc, e3, hm⟩ := mark_law x d n
  have HM := Lib.hid hm
  clear hm
  obtain ⟨A3, c3, rfl, _, _⟩ := t3.len_form
  go_wp2_with fail
  have C7 := implMarkPresent_any _ x d n w6 _ t3
  rw [e3] at C7
  refine C7.mono ?_
  clear C7
  rintro e w7 ⟨v5, rfl, o5, hb7⟩
  have zw7 := hb7.size
  replace tc := SlR.bel tc hb7
  replace s1 := SlR.bel s1 hb7
  replace s2 := SlR.bel s2 hb7
  replace s3 := SlR.bel s3 hb7
  replace s4 := SlR.bel s4 hb7
  replace t1 := RdH.bel t1 hb7
  replace t3 := RdH.bel t3 hb7
  replace B := B.trans (hb7.mono B.size)
  clear hb7
  have t5 := o5.rd
  clear o5
  obtain ⟨A5, c5, rfl, _, _⟩ := t5.len_form
  go_wp2_with fail
  have C8 := specMarkPresent_any _ x d n w7 _ t3
  rw [e3] at C8
  refine C8.mono ?_
  clear C8
  rintro e w8 ⟨v6, rfl, o6, hb8⟩
  have zw8 := hb8.size
  replace tc := SlR.bel tc hb8
  replace s1 := SlR.bel s1 hb8
  replace s2 := SlR.bel s2 hb8
  replace s3 := SlR.bel s3 hb8
  replace s4 := SlR.bel s4 hb8
  replace t1 := RdH.bel t1 hb8
  replace t3 := RdH.bel t3 hb8
  replace t5 := RdH.bel t5 hb8
  replace B := B.trans (hb8.mono B.size)
  clear hb8
  have t6 := o6.rd
  clear o6
  obtain ⟨A6, c6, rfl, _, _⟩ := t6.len_form
  clear e3
  clear t3
  go_wp2_with fail
  refine (likeInts_same _ _ a w8 _ _ s1 s2).mono ?_
  rintro e w9 ⟨rfl, hb9⟩
  have zw9 := hb9.size
  replace tc := SlR.bel tc hb9
  replace s1 := SlR.bel s1 hb9
  replace s2 := SlR.bel s2 hb9
  replace s3 := SlR.bel s3 hb9
  replace s4 := SlR.bel s4 hb9
  replace t1 := RdH.bel t1 hb9
  replace t5 := RdH.bel t5 hb9
  replace t6 := RdH.bel t6 hb9
  replace B := B.trans (hb9.mono B.size)
  clear hb9
  clear s2
  go_wp2_with fail
  refine (likeInts_same _ _ u w9 _ _ s3 s4).mono ?_
  rintro e w10 ⟨rfl, hb10⟩
  have zw10 := hb10.size
  replace tc := SlR.bel tc hb10
  replace s1 := SlR.bel s1 hb10
  replace s3 := SlR.bel s3 hb10
  replace s4 := SlR.bel s4 hb10
  replace t1 := RdH.bel t1 hb10
  replace t5 := RdH.bel t5 hb10
  replace t6 := RdH.bel t6 hb10
  replace B := B.trans (hb10.mono B.size)
  clear hb10
  clear s3 s4
  go_wp2_with fail
  refine (likeSheets_same _ _ m w10 _ _ t5 t6).mono ?_
  rintro e w11 ⟨rfl, hb11⟩
  have zw11 := hb11.size
  replace tc := SlR.bel tc hb11
  replace s1 := SlR.bel s1 hb11
  replace t1 := RdH.bel t1 hb11
  replace t5 := RdH.bel t5 hb11
  replace t6 := RdH.bel t6 hb11
  replace B := B.trans (hb11.mono B.size)
  clear hb11
  clear t6
  go_wp2_with fail
  refine (implAreSheets_z _ z w11 _ t1).mono ?_
  rintro e w12 ⟨rfl, hb12⟩
  have zw12 := hb12.size
  replace tc := SlR.bel tc hb12
  replace s1 := SlR.bel s1 hb12
  replace t1 := RdH.bel t1 hb12
  replace t5 := RdH.bel t5 hb12
  replace B := B.trans (hb12.mono B.size)
  clear hb12
  go_wp2_with fail
  refine (specAreSheets_z _ z w12 _ t1).mono ?_
  rintro e w13 ⟨rfl, hb13⟩
  have zw13 := hb13.size
  replace tc := SlR.bel tc hb13
  replace s1 := SlR.bel s1 hb13
  replace t1 := RdH.bel t1 hb13
  replace t5 := RdH.bel t5 hb13
  replace B := B.trans (hb13.mono B.size)
  clear hb13
  rcases HM.out with m1 | ⟨m1, ds, p1, p2, p3⟩
  · have m2 : (mc == 0) = false := by simpa using m1
    clear HM m1
    rcases HC.out with c1 | ⟨c1, q, q1, ql, hq⟩
    · have c2 : (c == 0) = false := by simpa using c1
      have c3 : (c != 0) = true := by simpa using c1
      clear c1
      go_wp2_with fail
      go_ret
      exact ⟨rfl, B⟩
    · subst c1
      have HQ := Lib.hid hq
      clear hq HC
      go_wp2_with fail
      have C14 := implCalledOn_any _ cs day w13 _ tc (by omega)
      rw [q1] at C14
      refine C14.mono ?_
      clear C14
      rintro e w14 ⟨v8, rfl, o8, hb14⟩
      have zw14 := hb14.size
      replace tc := SlR.bel tc hb14
      replace s1 := SlR.bel s1 hb14
      replace t1 := RdH.bel t1 hb14
      replace t5 := RdH.bel t5 hb14
      replace B := B.trans (hb14.mono B.size)
      clear hb14
      have s8 := own_slI o8
      clear o8
      obtain ⟨A8, c8, rfl, _, _⟩ := s8.form
      go_wp2_with fail
      have C15 := specCalledOn_any _ cs day w14 _ tc (by omega)
      rw [q1] at C15
      refine C15.mono ?_
      clear C15
      rintro e w15 ⟨v9, rfl, o9, hb15⟩
      have zw15 := hb15.size
      replace tc := SlR.bel tc hb15
      replace s1 := SlR.bel s1 hb15
      replace s8 := SlR.bel s8 hb15
      replace t1 := RdH.bel t1 hb15
      replace t5 := RdH.bel t5 hb15
      replace B := B.trans (hb15.mono B.size)
      clear hb15
      have s9 := own_slI o9
      clear o9
      obtain ⟨A9, c9, rfl, _, _⟩ := s9.form
      clear q1
      go_wp2_with fail
      refine (likeInts_same _ _ q w15 _ _ s8 s9).mono ?_
      rintro e w16 ⟨rfl, hb16⟩
      have zw16 := hb16.size
      replace tc := SlR.bel tc hb16
      replace s1 := SlR.bel s1 hb16
      replace s8 := SlR.bel s8 hb16
      replace s9 := SlR.bel s9 hb16
      replace t1 := RdH.bel t1 hb16
      replace t5 := RdH.bel t5 hb16
      replace B := B.trans (hb16.mono B.size)
      clear hb16
      clear s9 tc
      go_wp2_with fail
      go_loopw [27] (fun i wr => ∃ (k : Nat), i = .int .i64 k ∧ k ≤ q.length ∧ Below w16.heap.size w16 wr) (fun i wr => q.length - (intOf i).toNat)
      case atStart => exact ⟨0, rfl, Nat.zero_le _, Below.refl _ _⟩
      case round =>
        obtain ⟨k, rfl, hk, hbr⟩ := hrel
        by_cases hlt : k < q.length
        · obtain ⟨e, he⟩ := some_at hlt
          obtain ⟨ds, hd1, hd2⟩ := HQ.out e (List.mem_of_getElem? he)
          replace t1 := RdH.bel t1 hbr
          replace s1 := SlR.bel s1 hbr
          replace s8 := SlR.bel s8 hbr
          obtain ⟨b8, o8, rfl, _, hb8, k8⟩ := s8.int_at he
          have He := Lib.hid he
          clear he
          go_wp2_with fail
          have CD := implDaysPresent_any _ z e wr _ t1
          rw [hd1] at CD
          refine CD.mono ?_
          clear CD hd1
          rintro e' wd ⟨vd, rfl, od, hbd⟩
          have sd := own_slI od
          clear od
          replace s1 := SlR.bel s1 hbd
          replace s8 := SlR.bel s8 hbd
          have k8d : wd.cell? ⟨b8, o8 + k, none⟩ = some (.int .i64 e) ∧ b8 < wd.heap.size := by
            obtain ⟨b', o', e1, _, h1, h2⟩ := s8.int_at He.out
            injection e1 with e1
            injection e1 with e1 e2
            subst e1 e2
            exact ⟨h2, h1⟩
          obtain ⟨k8d, hb8d⟩ := k8d
          clear k8
          obtain ⟨Ad, cd, rfl, _, _⟩ := sd.form
          have hbrd := hbr.trans (hbd.mono hbr.size)
          cases hx : hasB e a
          all_goals
            rw [hx] at hd2
            have hd2 : hasB day ds = _ := hd2
            go_wp2_with fail
            refine wp_region_ext (by kernel_rfl) (by kernel_rfl) ?_
            repeat (go_big_quiet_step (first | (go_at_call 33; with_reducible exact calls_ext_same (hasInt_as' hx (SlR.ext s1 (Nat.le_refl _) _))) | (go_at_call 33; with_reducible exact calls_ext_same (hasInt_as' hd2 (SlR.ext sd (Nat.le_refl _) _)))))
            refine wpQuiet_nil ?_
            intro w2 hb2
            go_wp2_with fail
            go_roundw
            case rel => exact ⟨k + 1, by go_num, hlt, hbrd.trans (hb2.mono hbrd.size)⟩
            case measure => simp [intOf]; omega
        · replace B := B.trans (hbr.mono B.size)
          go_wp2_with fail
          go_ret
          exact ⟨rfl, B⟩
  · subst m1
    clear HM
    go_wp2_with fail
    have C14 := implDaysPresent_any _ m n w13 _ t5
    rw [p1] at C14
    refine C14.mono ?_
    clear C14
    rintro e w14 ⟨v7, rfl, o7, hb14⟩
    have zw14 := hb14.size
    replace tc := SlR.bel tc hb14
    replace s1 := SlR.bel s1 hb14
    replace t1 := RdH.bel t1 hb14
    replace t5 := RdH.bel t5 hb14
    replace B := B.trans (hb14.mono B.size)
    clear hb14
    have s7 := own_slI o7
    clear o7
    obtain ⟨A7, c7, rfl, _, _⟩ := s7.form
    clear p1
    go_wp2_with fail
    refine (hasInt_as' p2 s7).mono ?_
    rintro e w' ⟨rfl, rfl⟩
    go_wp2_with fail
    have C15 := implAreSheets_z _ m w14 _ t5
    rw [p3] at C15
    refine C15.mono ?_
    clear C15
    rintro e w15 ⟨rfl, hb15⟩
    have zw15 := hb15.size
    replace tc := SlR.bel tc hb15
    replace s1 := SlR.bel s1 hb15
    replace s7 := SlR.bel s7 hb15
    replace t1 := RdH.bel t1 hb15
    replace t5 := RdH.bel t5 hb15
    replace B := B.trans (hb15.mono B.size)
    clear hb15
    clear p2 p3
    rcases HC.out with c1 | ⟨c1, q, q1, ql, hq⟩
    · have c2 : (c == 0) = false := by simpa using c1
      have c3 : (c != 0) = true := by simpa using c1
      clear c1
      go_wp2_with fail
      go_ret
      exact ⟨rfl, B⟩
    · subst c1
      have HQ := Lib.hid hq
      clear hq HC
      go_wp2_with fail
      have C16 := implCalledOn_any _ cs day w15 _ tc (by omega)
      rw [q1] at C16
      refine C16.mono ?_
      clear C16
      rintro e w16 ⟨v8, rfl, o8, hb16⟩
      have zw16 := hb16.size
      replace tc := SlR.bel tc hb16
      replace s1 := SlR.bel s1 hb16
      replace s7 := SlR.bel s7 hb16
      replace t1 := RdH.bel t1 hb16
      replace t5 := RdH.bel t5 hb16
      replace B := B.trans (hb16.mono B.size)
      clear hb16
      have s8 := own_slI o8
      clear o8
      obtain ⟨A8, c8, rfl, _, _⟩ := s8.form
      go_wp2_with fail
      have C17 := specCalledOn_any _ cs day w16 _ tc (by omega)
      rw [q1] at C17
      refine C17.mono ?_
      clear C17
      rintro e w17 ⟨v9, rfl, o9, hb17⟩
      have zw17 := hb17.size
      replace tc := SlR.bel tc hb17
      replace s1 := SlR.bel s1 hb17
      replace s7 := SlR.bel s7 hb17
      replace s8 := SlR.bel s8 hb17
      replace t1 := RdH.bel t1 hb17
      replace t5 := RdH.bel t5 hb17
      replace B := B.trans (hb17.mono B.size)
      clear hb17
      have s9 := own_slI o9
      clear o9
      obtain ⟨A9, c9, rfl, _, _⟩ := s9.form
      clear q1
      go_wp2_with fail
      refine (likeInts_same _ _ q w17 _ _ s8 s9).mono ?_
      rintro e w18 ⟨rfl, hb18⟩
      have zw18 := hb18.size
      replace tc := SlR.bel tc hb18
      replace s1 := SlR.bel s1 hb18
      replace s7 := SlR.bel s7 hb18
      replace s8 := SlR.bel s8 hb18
      replace s9 := SlR.bel s9 hb18
      replace t1 := RdH.bel t1 hb18
      replace t5 := RdH.bel t5 hb18
      replace B := B.trans (hb18.mono B.size)
      clear hb18
      clear s9 tc
      go_wp2_with fail
      go_loopw [27] (fun i wr => ∃ (k : Nat), i = .int .i64 k ∧ k ≤ q.length ∧ Below w18.heap.size w18 wr) (fun i wr => q.length - (intOf i).toNat)
      case atStart => exact ⟨0, rfl, Nat.zero_le _, Below.refl _ _⟩
      case round =>
        obtain ⟨k, rfl, hk, hbr⟩ := hrel
        by_cases hlt : k < q.length
        · obtain ⟨e, he⟩ := some_at hlt
          obtain ⟨ds, hd1, hd2⟩ := HQ.out e (List.mem_of_getElem? he)
          replace t1 := RdH.bel t1 hbr
          replace s1 := SlR.bel s1 hbr
          replace s8 := SlR.bel s8 hbr
          obtain ⟨b8, o8, rfl, _, hb8, k8⟩ := s8.int_at he
          have He := Lib.hid he
          clear he
          go_wp2_with fail
          have CD := implDaysPresent_any _ z e wr _ t1
          rw [hd1] at CD
          refine CD.mono ?_
          clear CD hd1
          rintro e' wd ⟨vd, rfl, od, hbd⟩
          have sd := own_slI od
          clear od
          replace s1 := SlR.bel s1 hbd
          replace s8 := SlR.bel s8 hbd
          have k8d : wd.cell? ⟨b8, o8 + k, none⟩ = some (.int .i64 e) ∧ b8 < wd.heap.size := by
            obtain ⟨b', o', e1, _, h1, h2⟩ := s8.int_at He.out
            injection e1 with e1
            injection e1 with e1 e2
            subst e1 e2
            exact ⟨h2, h1⟩
          obtain ⟨k8d, hb8d⟩ := k8d
          clear k8
          obtain ⟨Ad, cd, rfl, _, _⟩ := sd.form
          have hbrd := hbr.trans (hbd.mono hbr.size)
          cases hx : hasB e a
          all_goals
            rw [hx] at hd2
            have hd2 : hasB day ds = _ := hd2
            go_wp2_with fail
            refine wp_region_ext (by kernel_rfl) (by kernel_rfl) ?_
            repeat (go_big_quiet_step (first | (go_at_call 33; with_reducible exact calls_ext_same (hasInt_as' hx (SlR.ext s1 (Nat.le_refl _) _))) | (go_at_call 33; with_reducible exact calls_ext_same (hasInt_as' hd2 (SlR.ext sd (Nat.le_refl _) _)))))
            refine wpQuiet_nil ?_
            intro w2 hb2
            go_wp2_with fail
            go_roundw
            case rel => exact ⟨k + 1, by go_num, hlt, hbrd.trans (hb2.mono hbrd.size)⟩
            case measure => simp [intOf]; omega
        · replace B := B.trans (hbr.mono B.size)
          go_wp2_with fail
          go_ret
          exact ⟨rfl, B⟩

theorem walk (v0 : Value) (w : World) (g0 : ∃ bs, SlR u8s 1 w 0 w.heap.size v0 bs ∧ ∀ b ∈ bs, 0 ≤ b ∧ b ≤ 255) :
    Calls Try.prog 6 #[v0] w fun e w' => e = .returned (.bool true) ∧ Below w.heap.size w w' := by
  obtain ⟨bs, h, hb⟩ := g0
  exact walkL v0 bs w h hb


theorem own : ownKnob Try.prog.godebug = none := by kernel_rfl
theorem laidOut : laidOutB Try.prog = true := by kernel_rfl

set_option maxRecDepth 100000 in
theorem lifted (os : Os) (started : os.Started) (H : Type) (enc : TypeId × Value → H) :
    ReturnsInHanded {} Try.checked os 6 .any (Rows.fnAttendanceSpec.pre6 enc Try.prog Try.f6 Rows.fnAttendanceRow.domain false) (Rows.fnAttendanceSpec.post enc Try.prog Try.f6 false true false false) := by
  refine returnsInHanded_of_change (C := Try.checked) own started (by kernel_rfl) Try.func6
    (ChangeSpec.witness6 (enc := enc) (C := Try.checked) false ⟨#[], #[.slice none 0 0], []⟩ 8 (by kernel_rfl) (by kernel_rfl) (by kernel_rfl) (by kernel_rfl)) ?_
  intro W base args ds gs before hval0 hW hcnd _
  have hval : ∀ (j : Nat) t v, Try.f6.params[j]? = some t → args[j]? = some v → Value.okWide Try.prog W .any base t v := hval0
  have hW' := hW
  obtain ⟨p, q, hA0, hV, rfl, hfz, hnd⟩ := hW
  have hA : DataW.TrodAll enc Try.prog W 0 (fun _ => true) true Try.f6.params.toList args.toList ds p := hA0
  rw [Try.params6] at hA hval
  obtain ⟨v0, vs0, d0, ds0, p0, q0, hargs, rfl, rfl, h0, r0⟩ := trodAll_cons hA
  obtain ⟨rfl, rfl, rfl⟩ := trodAll_nil r0
  obtain rfl : args = #[v0] := by cases args; simp_all
  obtain ⟨rfl, rfl⟩ := trodVars_none hV
  have lt0 : ∀ x ∈ p0, x.block < W.heap.size := by obtain ⟨m, hm⟩ := h0; exact DataW.trod_lt m _ _ _ hm
  have g0 := open_ByteS (hval 0 34 v0 rfl rfl) h0
  clear hA0 hval0
  refine (walk v0 W g0).mono fun e W' ⟨he, bel⟩ => ?_
  subst he
  exact ⟨_, rfl, _, _, _, [], _, [], hW', trodAll_mk1 (shut_bool Try.underlying4 _), (trodAll_cons_mk (Below.trod laidOut (by kernel_rfl) (of_decide_eq_true (by kernel_rfl)) h0 bel lt0) trodAll_mk0), rfl, bel.frame _, fun h => by cases h⟩

theorem over : Rows.fnAttendanceRow.holds Try.pinned (OpenSpec.ofChange Rows.fnAttendanceSpec) :=
  OpenClaim.holds_of_wide 6 Try.f6 rfl rfl rfl rfl rfl rfl rfl ⟨rfl, rfl, rfl, rfl, rfl⟩ rfl rfl rfl rfl rfl (by kernel_rfl) Try.func6 (by kernel_rfl)
    (of_decide_eq_true (by kernel_rfl)) (by unfold Func.isWrapper; first | (rw [if_pos (by decide +kernel)]; kernel_rfl) | (rw [if_neg (by decide +kernel)]; exact ⟨rfl, rfl⟩))
    (fun os started H enc _ => lifted os started H enc)

theorem proved : Rows.FnAttendanceSaid := over
#print axioms proved
end Go.Proofs.Ytbboihodikhhkaa.lawFnAttendance
