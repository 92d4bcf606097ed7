/- FnRoomForCalls: for every code the law returns true. No condition. -/
import Derived.Test.YtiflpihjffhfhaaDrawKB
import Derived.Test.YtiflpihjffhfhaaDrawL
import Derived.Test.YtiflpihjffhfhaaCallR
namespace Go.Proofs.Ytiflpihjffhfhaa.lawFnRoomForCalls
open Go.ChangeShapes Go.WideShapes Go.ChangeAt Go.RowKit

set_option maxRecDepth 100000 in
set_option maxHeartbeats 16000000 in
theorem walkL (v : Value) (bs : List Int) (w : World) (hv : SlR u8s 1 w 0 w.heap.size v bs) (hb : ∀ b ∈ bs, 0 ≤ b ∧ b ≤ 255) :
    Calls Try.prog 4 #[v] w fun e w' => e = .returned (.bool true) ∧ Below w.heap.size w w' := by
  have B := Below.refl w.heap.size w
  go_enter Try.func4, Try.ntmps4
  go_wp2_with fail
  refine (big_any v bs w 0 _ hv).mono ?_
  rintro e w0 ⟨rfl, rfl⟩
  by_cases hbig : 4096 < bs.length
  · have hd : decide (4096 < bs.length) = true := decide_eq_true hbig
    go_wp2_with fail
    go_ret
    exact ⟨rfl, B⟩
  have hd : decide (4096 < bs.length) = false := decide_eq_false hbig
  clear hbig
  go_wp2_with fail
  clear hd
  refine (DrawFirstRoom_any v bs w hv hb).mono ?_
  rintro e w1 ⟨u1, hs, v1, cs, n, r, rfl, t1, lt1, s1, ls1, hb1⟩
  have zw1 := hb1.size
  replace hv := SlR.bel hv hb1
  replace B := B.trans (hb1.mono B.size)
  clear hb1
  obtain ⟨Ah1, ch1, rfl, _, _⟩ := t1.form
  obtain ⟨A1, c1, rfl, _, _⟩ := s1.form
  go_wp2_with fail
  have HR := Lib.hid (fun e => room_law (hs := hs) (cs := cs) (n := n) (r := r) e)
  refine (implFirstRoom_any _ hs _ cs n r w1 _ t1 _ s1).mono ?_
  rintro e w2 ⟨rfl, hb2⟩
  have zw2 := hb2.size
  replace hv := SlR.bel hv hb2
  replace t1 := SlR.bel t1 hb2
  replace s1 := SlR.bel s1 hb2
  replace B := B.trans (hb2.mono B.size)
  clear hb2
  go_wp2_with fail
  refine (specFirstRoom_any _ hs _ cs n r w2 _ t1 _ s1).mono ?_
  rintro e w3 ⟨rfl, hb3⟩
  have zw3 := hb3.size
  replace hv := SlR.bel hv hb3
  replace t1 := SlR.bel t1 hb3
  replace s1 := SlR.bel s1 hb3
  replace B := B.trans (hb3.mono B.size)
  clear hb3
  generalize firstRoomF hs cs n r = FR at *
  go_wp2_with fail
  refine (DrawCalledOn_any v bs w3 hv hb).mono ?_
  rintro e w4 ⟨v2, xs, d, rfl, s2, ls2, hb4⟩
  have zw4 := hb4.size
  replace hv := SlR.bel hv hb4
  replace t1 := SlR.bel t1 hb4
  replace s1 := SlR.bel s1 hb4
  replace B := B.trans (hb4.mono B.size)
  clear hb4
  obtain ⟨A2, c2, rfl, _, _⟩ := s2.form
  go_wp2_with fail
  refine (implCalledOn_any _ xs d w4 _ s2 (by omega)).mono ?_
  rintro e w5 ⟨v3, rfl, o3, hb5⟩
  have zw5 := hb5.size
  replace hv := SlR.bel hv hb5
  replace t1 := SlR.bel t1 hb5
  replace s1 := SlR.bel s1 hb5
  replace s2 := SlR.bel s2 hb5
  replace B := B.trans (hb5.mono B.size)
  clear hb5
  have s3 := own_slI o3
  clear o3
  obtain ⟨A3, c3, rfl, _, _⟩ := s3.form
  go_wp2_with fail
  refine (specCalledOn_any _ xs d w5 _ s2 (by omega)).mono ?_
  rintro e w6 ⟨v4, rfl, o4, hb6⟩
  have zw6 := hb6.size
  replace hv := SlR.bel hv hb6
  replace t1 := SlR.bel t1 hb6
  replace s1 := SlR.bel s1 hb6
  replace s2 := SlR.bel s2 hb6
  replace s3 := SlR.bel s3 hb6
  replace B := B.trans (hb6.mono B.size)
  clear hb6
  have s4 := own_slI o4
  clear o4
  obtain ⟨A4, c4, rfl, _, _⟩ := s4.form
  clear s2
  generalize calledOnF xs d = CX at *
  go_wp2_with fail
  refine (DrawCrowdedDays_any v bs w6 hv hb).mono ?_
  rintro e w7 ⟨v5, ys, m, rfl, s5, ls5, hb7⟩
  have zw7 := hb7.size
  replace hv := SlR.bel hv hb7
  replace t1 := SlR.bel t1 hb7
  replace s1 := SlR.bel s1 hb7
  replace s3 := SlR.bel s3 hb7
  replace s4 := SlR.bel s4 hb7
  replace B := B.trans (hb7.mono B.size)
  clear hb7
  obtain ⟨A5, c5, rfl, _, _⟩ := s5.form
  go_wp2_with fail
  have HK := Lib.hid (fun e => crowd_law (cs := ys) (r := m) e)
  have lK := crowdF_len ys m
  refine (implCrowdedDays_any _ ys m w7 _ s5).mono ?_
  rintro e w8 ⟨v6, rfl, o6, hb8⟩
  have zw8 := hb8.size
  replace hv := SlR.bel hv hb8
  replace t1 := SlR.bel t1 hb8
  replace s1 := SlR.bel s1 hb8
  replace s3 := SlR.bel s3 hb8
  replace s4 := SlR.bel s4 hb8
  replace s5 := SlR.bel s5 hb8
  replace B := B.trans (hb8.mono B.size)
  clear hb8
  have s6 := own_slI o6
  clear o6
  obtain ⟨A6, c6, rfl, _, _⟩ := s6.form
  go_wp2_with fail
  refine (specCrowdedDays_any _ ys m w8 _ s5).mono ?_
  rintro e w9 ⟨v7, rfl, o7, hb9⟩
  have zw9 := hb9.size
  replace hv := SlR.bel hv hb9
  replace t1 := SlR.bel t1 hb9
  replace s1 := SlR.bel s1 hb9
  replace s3 := SlR.bel s3 hb9
  replace s4 := SlR.bel s4 hb9
  replace s5 := SlR.bel s5 hb9
  replace s6 := SlR.bel s6 hb9
  replace B := B.trans (hb9.mono B.size)
  clear hb9
  have s7 := own_slI o7
  clear o7
  obtain ⟨A7, c7, rfl, _, _⟩ := s7.form
  clear hv
  generalize crowdF ys m = CK at *
  go_wp2_with fail
  refine (likeInts_same _ _ CX.1 w9 _ _ s3 s4).mono ?_
  rintro e w10 ⟨rfl, hb10⟩
  have zw10 := hb10.size
  replace t1 := SlR.bel t1 hb10
  replace s1 := SlR.bel s1 hb10
  replace s3 := SlR.bel s3 hb10
  replace s4 := SlR.bel s4 hb10
  replace s5 := SlR.bel s5 hb10
  replace s6 := SlR.bel s6 hb10
  replace s7 := SlR.bel s7 hb10
  replace B := B.trans (hb10.mono B.size)
  clear hb10
  clear s3 s4
  go_wp2_with fail
  refine (likeInts_same _ _ CK.1 w10 _ _ s6 s7).mono ?_
  rintro e w11 ⟨rfl, hb11⟩
  have zw11 := hb11.size
  replace t1 := SlR.bel t1 hb11
  replace s1 := SlR.bel s1 hb11
  replace s5 := SlR.bel s5 hb11
  replace s6 := SlR.bel s6 hb11
  replace s7 := SlR.bel s7 hb11
  replace B := B.trans (hb11.mono B.size)
  clear hb11
  clear s7
  by_cases e1 : CK.2 = 0
  · have k1 : (CK.2 == 0) = true := by simpa using e1
    replace HK := Lib.hid (HK.out e1)
    clear e1
    go_wp2_with fail
    go_loopw [23] (fun i wr => ∃ (k : Nat), i = .int .i64 k ∧ k ≤ CK.1.length ∧ Below w11.heap.size w11 wr) (fun i wr => CK.1.length - (intOf i).toNat)
    case atStart => exact ⟨0, rfl, Nat.zero_le _, Below.refl _ _⟩
    case round =>
      obtain ⟨k, rfl, hk, hbr⟩ := hrel
      have t1 := SlR.bel t1 hbr
      have s1 := SlR.bel s1 hbr
      have s5 := SlR.bel s5 hbr
      have s6 := SlR.bel s6 hbr
      have B := B.trans (hbr.mono B.size)
      by_cases hlt : k < CK.1.length
      · obtain ⟨x, hx⟩ := some_at hlt
        obtain ⟨y1, y2⟩ := HK.out x (List.mem_of_getElem? hx)
        obtain ⟨b, off, rfl, _, hbb, c0⟩ := s6.int_at hx
        clear hx
        have Y1 := Lib.hid y1
        clear y1
        go_wp2_with fail
        have C := implCalledOn_any _ ys x _ _ s5 (by omega)
        rw [Y1.out] at C
        refine C.mono ?_
        clear C
        rintro e w2 ⟨v8, rfl, o8, hb8⟩
        have s8 := own_slI o8
        clear o8 c0
        obtain ⟨A8, c8, rfl, _, _⟩ := s8.form
        have k6 : ¬ ((onDay ys x).length : Int) ≤ m := by omega
        go_wp2_with fail
        go_roundw
        case rel => exact ⟨k + 1, by go_num, hlt, hbr.trans (hb8.mono hbr.size)⟩
        case measure => simp [intOf]; omega
      · by_cases e2 : FR.2 = 0
        · obtain ⟨f1, f2, f3⟩ := HR.out e2
          have k2 : (FR.2 != 0) = false := by simp [e2]
          have F1 := Lib.hid f1
          have F2 := Lib.hid f2
          clear e2 f1 f2 HR
          go_wp2_with fail
          have C12 := implMayMove_any _ hs _ cs n FR.1 wr _ t1 _ s1
          rw [F1.out] at C12
          refine C12.mono ?_
          clear C12
          rintro e w12 ⟨rfl, hb12⟩
          have zw12 := hb12.size
          replace t1 := SlR.bel t1 hb12
          replace s1 := SlR.bel s1 hb12
          replace B := B.trans (hb12.mono B.size)
          clear hb12
          go_wp2_with fail
          have C := implCalledOn_any _ cs FR.1 w12 _ s1 (by omega)
          rw [F2.out] at C
          refine C.mono ?_
          clear C
          rintro e w13 ⟨v11, rfl, o11, hb13⟩
          have zw13 := hb13.size
          replace t1 := SlR.bel t1 hb13
          replace s1 := SlR.bel s1 hb13
          replace B := B.trans (hb13.mono B.size)
          clear hb13
          have s11 := own_slI o11
          clear o11
          obtain ⟨A11, c11, rfl, _, _⟩ := s11.form
          go_wp2_with fail
          go_ret
          exact ⟨rfl, B⟩
        · have k2 : (FR.2 != 0) = true := by simpa [bne] using e2
          clear e2
          go_wp2_with fail
          go_ret
          exact ⟨rfl, B⟩
  · have k1 : (CK.2 == 0) = false := by simpa using e1
    clear e1 HK
    go_wp2_with fail
    go_loopw [23] (fun i wr => ∃ (k : Nat), i = .int .i64 k ∧ k ≤ CK.1.length ∧ Below w11.heap.size w11 wr) (fun i wr => CK.1.length - (intOf i).toNat)
    case atStart => exact ⟨0, rfl, Nat.zero_le _, Below.refl _ _⟩
    case round =>
      obtain ⟨k, rfl, hk, hbr⟩ := hrel
      have t1 := SlR.bel t1 hbr
      have s1 := SlR.bel s1 hbr
      have s5 := SlR.bel s5 hbr
      have s6 := SlR.bel s6 hbr
      have B := B.trans (hbr.mono B.size)
      by_cases e2 : FR.2 = 0
      · obtain ⟨f1, f2, f3⟩ := HR.out e2
        have k2 : (FR.2 != 0) = false := by simp [e2]
        have F1 := Lib.hid f1
        have F2 := Lib.hid f2
        clear e2 f1 f2 HR
        go_wp2_with fail
        have C12 := implMayMove_any _ hs _ cs n FR.1 wr _ t1 _ s1
        rw [F1.out] at C12
        refine C12.mono ?_
        clear C12
        rintro e w12 ⟨rfl, hb12⟩
        have zw12 := hb12.size
        replace t1 := SlR.bel t1 hb12
        replace s1 := SlR.bel s1 hb12
        replace B := B.trans (hb12.mono B.size)
        clear hb12
        go_wp2_with fail
        have C := implCalledOn_any _ cs FR.1 w12 _ s1 (by omega)
        rw [F2.out] at C
        refine C.mono ?_
        clear C
        rintro e w13 ⟨v11, rfl, o11, hb13⟩
        have zw13 := hb13.size
        replace t1 := SlR.bel t1 hb13
        replace s1 := SlR.bel s1 hb13
        replace B := B.trans (hb13.mono B.size)
        clear hb13
        have s11 := own_slI o11
        clear o11
        obtain ⟨A11, c11, rfl, _, _⟩ := s11.form
        go_wp2_with fail
        go_ret
        exact ⟨rfl, B⟩
      · have k2 : (FR.2 != 0) = true := by simpa [bne] using e2
        clear e2
        go_wp2_with fail
        go_ret
        exact ⟨rfl, B⟩

theorem walk (v0 : Value) (w : World) (g0 : ∃ bs, SlR u8s 1 w 0 w.heap.size v0 bs ∧ ∀ b ∈ bs, 0 ≤ b ∧ b ≤ 255) :
    Calls Try.prog 4 #[v0] w fun e w' => e = .returned (.bool true) ∧ Below w.heap.size w w' := by
  obtain ⟨bs, h, hb⟩ := g0
  exact walkL v0 bs w h hb


theorem own : ownKnob Try.prog.godebug = none := by kernel_rfl
theorem laidOut : laidOutB Try.prog = true := by kernel_rfl

set_option maxRecDepth 100000 in
theorem lifted (os : Os) (started : os.Started) (H : Type) (enc : TypeId × Value → H) :
    ReturnsInHanded {} Try.checked os 4 .any (Rows.fnRoomForCallsSpec.pre6 enc Try.prog Try.f4 Rows.fnRoomForCallsRow.domain false) (Rows.fnRoomForCallsSpec.post enc Try.prog Try.f4 false true false false) := by
  refine returnsInHanded_of_change (C := Try.checked) own started (by kernel_rfl) Try.func4
    (ChangeSpec.witness6 (enc := enc) (C := Try.checked) false ⟨#[], #[.slice none 0 0], []⟩ 8 (by kernel_rfl) (by kernel_rfl) (by kernel_rfl) (by kernel_rfl)) ?_
  intro W base args ds gs before hval0 hW hcnd _
  have hval : ∀ (j : Nat) t v, Try.f4.params[j]? = some t → args[j]? = some v → Value.okWide Try.prog W .any base t v := hval0
  have hW' := hW
  obtain ⟨p, q, hA0, hV, rfl, hfz, hnd⟩ := hW
  have hA : DataW.TrodAll enc Try.prog W 0 (fun _ => true) true Try.f4.params.toList args.toList ds p := hA0
  rw [Try.params4] at hA hval
  obtain ⟨v0, vs0, d0, ds0, p0, q0, hargs, rfl, rfl, h0, r0⟩ := trodAll_cons hA
  obtain ⟨rfl, rfl, rfl⟩ := trodAll_nil r0
  obtain rfl : args = #[v0] := by cases args; simp_all
  obtain ⟨rfl, rfl⟩ := trodVars_none hV
  have lt0 : ∀ x ∈ p0, x.block < W.heap.size := by obtain ⟨m, hm⟩ := h0; exact DataW.trod_lt m _ _ _ hm
  have g0 := open_ByteS (hval 0 22 v0 rfl rfl) h0
  clear hA0 hval0
  refine (walk v0 W g0).mono fun e W' ⟨he, bel⟩ => ?_
  subst he
  exact ⟨_, rfl, _, _, _, [], _, [], hW', trodAll_mk1 (shut_bool Try.underlying4 _), (trodAll_cons_mk (Below.trod laidOut (by kernel_rfl) (of_decide_eq_true (by kernel_rfl)) h0 bel lt0) trodAll_mk0), rfl, bel.frame _, fun h => by cases h⟩

theorem over : Rows.fnRoomForCallsRow.holds Try.pinned (OpenSpec.ofChange Rows.fnRoomForCallsSpec) :=
  OpenClaim.holds_of_wide 4 Try.f4 rfl rfl rfl rfl rfl rfl rfl ⟨rfl, rfl, rfl, rfl, rfl⟩ rfl rfl rfl rfl rfl (by kernel_rfl) Try.func4 (by kernel_rfl)
    (of_decide_eq_true (by kernel_rfl)) (by unfold Func.isWrapper; first | (rw [if_pos (by decide +kernel)]; kernel_rfl) | (rw [if_neg (by decide +kernel)]; exact ⟨rfl, rfl⟩))
    (fun os started H enc _ => lifted os started H enc)

theorem proved : Rows.FnRoomForCallsSaid := over
#print axioms proved
end Go.Proofs.Ytiflpihjffhfhaa.lawFnRoomForCalls
