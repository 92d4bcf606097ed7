/- FnPoolChances: for every code the law returns true. No condition. -/
import Derived.Test.YtfenedoalnieaaaDrawE
import Derived.Test.YtfenedoalnieaaaDrawL
import Derived.Test.YtfenedoalnieaaaPoolD
namespace Go.Proofs.Ytfenedoalnieaaa.lawFnPoolChances
open Go.ChangeShapes Go.WideShapes Go.ChangeAt Go.RowKit

theorem frac (m n : Nat) (h : m ≤ n) (h0 : 0 < n) : m / Nat.gcd m n * n = m * (n / Nat.gcd m n) ∧ m / Nat.gcd m n ≤ n / Nat.gcd m n ∧ n / Nat.gcd m n ≤ n := by
  have hg : 0 < Nat.gcd m n := Nat.gcd_pos_of_pos_right m h0
  obtain ⟨a, ha⟩ := Nat.gcd_dvd_left m n
  obtain ⟨b, hb⟩ := Nat.gcd_dvd_right m n
  refine ⟨?_, Nat.div_le_div_right h, Nat.div_le_self _ _⟩
  generalize Nat.gcd m n = g at *
  rw [ha, hb, Nat.mul_div_cancel_left _ hg, Nat.mul_div_cancel_left _ hg, ← Nat.mul_assoc, Nat.mul_comm a g]
theorem chance_law (p : P3) (k : Int) (h : (chanceF p k).2.2 = 0) : (leftOfF p).2 = 0 ∧ (chanceF p k).1 * ((leftOfF p).1.length : Int) = k * (chanceF p k).2.1 ∧ (chanceF p k).1 ≤ (chanceF p k).2.1 ∧ 0 ≤ (chanceF p k).1 * ((leftOfF p).1.length : Int) ∧ (chanceF p k).1 * ((leftOfF p).1.length : Int) ≤ 10000 := by
  unfold chanceF at h ⊢
  split at h
  · next h1 =>
    rw [if_pos h1]
    split at h
    · next h2 =>
      rw [if_pos h2]
      split at h
      · exact absurd h (by decide)
      · next h3 =>
        rw [if_neg h3]
        split at h
        · exact absurd h (by decide)
        · next h4 =>
          rw [if_neg h4]
          have hl := leftF_length h1
          have hp := poolOk_parts h1
          have hk := inB_iff.1 h2
          have e : leftOfF p = (leftF p, 0) := by simp [leftOfF, h1]
          rw [e]
          have e2 : (leftF p).length = p.nums.length - p.drawn.length := by omega
          obtain ⟨m, rfl⟩ : ∃ m : Nat, k = (m : Int) := ⟨k.toNat, by omega⟩
          have e3 : (m : Int).toNat = m := rfl
          dsimp only
          rw [e2, e3]
          generalize hn : p.nums.length - p.drawn.length = n at *
          obtain ⟨f1, f2, f3⟩ := frac m n (by omega) (by omega)
          have h5 : m / Nat.gcd m n * n ≤ 100 * 100 := Nat.mul_le_mul (by omega) (by omega)
          generalize m / Nat.gcd m n = a at *
          generalize n / Nat.gcd m n = b at *
          have e5 : (a : Int) * (n : Int) = ((a * n : Nat) : Int) := by rw [Int.natCast_mul]
          have e6 : (m : Int) * (b : Int) = ((m * b : Nat) : Int) := by rw [Int.natCast_mul]
          rw [e5, e6]
          generalize a * n = x at *
          generalize m * b = y at *
          exact ⟨rfl, by omega, by omega, by omega, by omega⟩
    · cases h
  · cases h

set_option maxRecDepth 100000 in
set_option maxHeartbeats 4000000 in
theorem walkL (v : Value) (bs : List Int) (w : World) (h : SlR u8s 1 w 0 w.heap.size v bs) (hb : ∀ b ∈ bs, 0 ≤ b ∧ b ≤ 255) :
    Calls Try.prog 10 #[v] w fun e w' => e = .returned (.bool true) ∧ Below w.heap.size w w' := by
  go_enter Try.func10, Try.ntmps10
  go_wp2_with fail
  refine (big_any v bs w 0 _ h).mono ?_
  rintro e w0 ⟨rfl, rfl⟩
  by_cases hbig : 4096 < bs.length
  · have hd : decide (4096 < bs.length) = true := decide_eq_true hbig
    go_wp2_with fail
    go_ret
    exact ⟨rfl, Below.refl _ _⟩
  have hd : decide (4096 < bs.length) = false := decide_eq_false hbig
  clear hbig
  go_wp2_with fail
  refine (DrawChanceOf_any v bs w h hb).mono ?_
  rintro e w1 ⟨vn, vd, p, k, rfl, rn, rd, hl1, hl2, hb1⟩
  obtain ⟨Xn, kn, rfl, _, _⟩ := rn.form
  obtain ⟨Xd, kd, rfl, _, _⟩ := rd.form
  have hl := chance_law p k
  have HL := Lib.hid hl
  have hv := (h.below hb1 (Nat.le_refl _)).more (Nat.le_refl _) hb1.size
  clear hl
  have z1 := hb1.size
  have C0 : ∀ o, (w1.alloc o).heap.size = w1.heap.size + 1 := fun o => by simp
  go_wp2_with fail
  have bP := Blk.new w1 27 #[.slice Xn p.nums.length kn, .slice Xd p.drawn.length kd, .int .i64 p.st]
  have hb2 : Below w1.heap.size w1 (w1.alloc (.cells #[.slice Xn p.nums.length kn, .slice Xd p.drawn.length kd, .int .i64 p.st] 27)) := (Below.refl _ _).alloc (Nat.le_refl _) _
  generalize (w1.alloc (.cells #[.slice Xn p.nums.length kn, .slice Xd p.drawn.length kd, .int .i64 p.st] 27)) = w2 at *
  clear C0
  have rn := (rn.below hb2 (Nat.le_refl _)).more (Nat.le_refl _) hb2.size
  have rd := (rd.below hb2 (Nat.le_refl _)).more (Nat.le_refl _) hb2.size
  have hv := (hv.below hb2 (Nat.le_refl _)).more (Nat.le_refl _) hb2.size
  have B2 := hb1.trans (hb2.mono z1)
  have z2 := B2.size
  refine (implChanceOf_any _ _ p k w2 _ _ rn rd (by omega)).mono ?_
  rintro e w3 ⟨rfl, hb3⟩
  have rn := (rn.below hb3 (Nat.le_refl _)).more (Nat.le_refl _) hb3.size
  have rd := (rd.below hb3 (Nat.le_refl _)).more (Nat.le_refl _) hb3.size
  have hv := (hv.below hb3 (Nat.le_refl _)).more (Nat.le_refl _) hb3.size
  have bP := bP.below' hb3
  have B3 := B2.trans (hb3.mono z2)
  have z3 := B3.size
  obtain ⟨d0, d1, d2⟩ := p3_cells bP
  go_wp2_with fail
  refine (specChanceOf_any _ _ p k w3 _ _ rn rd (by omega) (by omega)).mono ?_
  rintro e w4 ⟨rfl, hb4⟩
  have rn := (rn.below hb4 (Nat.le_refl _)).more (Nat.le_refl _) hb4.size
  have rd := (rd.below hb4 (Nat.le_refl _)).more (Nat.le_refl _) hb4.size
  have hv := (hv.below hb4 (Nat.le_refl _)).more (Nat.le_refl _) hb4.size
  have bP := bP.below' hb4
  have B4 := B3.trans (hb4.mono z3)
  have z4 := B4.size
  clear d0 d1 d2
  go_wp2_with fail
  refine (DrawLeftOf_any v bs w4 hv hb).mono ?_
  rintro e w5 ⟨un, ud, q, rfl, sn, sd, hm1, hm2, hb5⟩
  obtain ⟨Yn, jn, rfl, _, _⟩ := sn.form
  obtain ⟨Yd, jd, rfl, _, _⟩ := sd.form
  have rn := (rn.below hb5 (Nat.le_refl _)).more (Nat.le_refl _) hb5.size
  have rd := (rd.below hb5 (Nat.le_refl _)).more (Nat.le_refl _) hb5.size
  have bP := bP.below' hb5
  have B5 := B4.trans (hb5.mono z4)
  have z5 := B5.size
  go_wp2_with fail
  have bQ := Blk.new w5 27 #[.slice Yn q.nums.length jn, .slice Yd q.drawn.length jd, .int .i64 q.st]
  have hb6 : Below w5.heap.size w5 (w5.alloc (.cells #[.slice Yn q.nums.length jn, .slice Yd q.drawn.length jd, .int .i64 q.st] 27)) := (Below.refl _ _).alloc (Nat.le_refl _) _
  generalize (w5.alloc (.cells #[.slice Yn q.nums.length jn, .slice Yd q.drawn.length jd, .int .i64 q.st] 27)) = w6 at *
  have rn := (rn.below hb6 (Nat.le_refl _)).more (Nat.le_refl _) hb6.size
  have rd := (rd.below hb6 (Nat.le_refl _)).more (Nat.le_refl _) hb6.size
  have sn := (sn.below hb6 (Nat.le_refl _)).more (Nat.le_refl _) hb6.size
  have sd := (sd.below hb6 (Nat.le_refl _)).more (Nat.le_refl _) hb6.size
  have bP := bP.below' hb6
  have B6 := B5.trans (hb6.mono z5)
  have z6 := B6.size
  refine (implLeftOf_any _ _ q w6 _ _ sn sd (by omega)).mono ?_
  rintro e w7 ⟨x7, rfl, o7, hb7⟩
  have rn := (rn.below hb7 (Nat.le_refl _)).more (Nat.le_refl _) hb7.size
  have rd := (rd.below hb7 (Nat.le_refl _)).more (Nat.le_refl _) hb7.size
  have sn := (sn.below hb7 (Nat.le_refl _)).more (Nat.le_refl _) hb7.size
  have sd := (sd.below hb7 (Nat.le_refl _)).more (Nat.le_refl _) hb7.size
  have bP := bP.below' hb7
  have bQ := bQ.below' hb7
  have B7 := B6.trans (hb7.mono z6)
  have z7 := B7.size
  obtain ⟨d0, d1, d2⟩ := p3_cells bQ
  go_wp2_with fail
  refine (specLeftOf_any _ _ q w7 _ _ sn sd (by omega)).mono ?_
  rintro e w8 ⟨x8, rfl, o8, hb8⟩
  have rn := (rn.below hb8 (Nat.le_refl _)).more (Nat.le_refl _) hb8.size
  have rd := (rd.below hb8 (Nat.le_refl _)).more (Nat.le_refl _) hb8.size
  have bP := bP.below' hb8
  have o7 := o7.below hb8
  have B8 := B7.trans (hb8.mono z7)
  have z8 := B8.size
  clear d0 d1 d2
  go_wp2_with fail
  refine (likeInts_same x7 x8 (leftOfF q).1 w8 _ _ (own_slI o7) (own_slI o8)).mono ?_
  rintro e w9 ⟨rfl, hb9⟩
  have rn := (rn.below hb9 (Nat.le_refl _)).more (Nat.le_refl _) hb9.size
  have rd := (rd.below hb9 (Nat.le_refl _)).more (Nat.le_refl _) hb9.size
  have bP := bP.below' hb9
  have B9 := B8.trans (hb9.mono z8)
  have z9 := B9.size
  obtain ⟨d0, d1, d2⟩ := p3_cells bP
  by_cases hc : (chanceF p k).2.2 = 0
  · obtain ⟨f1, f2, f3, f4, f5⟩ := HL.out hc
    have g1 : ((chanceF p k).2.2 != 0) = false := by simp [hc]
    have g2 : ((leftOfF p).2 == 0) = true := by simp [f1]
    have G1 := Lib.hid f1
    have GC := Lib.hid hc
    have f6 : 0 ≤ k * (chanceF p k).2.1 ∧ k * (chanceF p k).2.1 ≤ 10000 := by rw [← f2]; exact ⟨f4, f5⟩
    have g3 : ((chanceF p k).1 * ((leftOfF p).1.length : Int) == k * (chanceF p k).2.1) = true := by simp [f2]
    have F2 := Lib.hid f2
    clear f1 f2 hc
    go_wp2_with fail
    refine (implLeftOf_any _ _ p w9 _ _ rn rd (by omega)).mono ?_
    rintro e w10 ⟨x10, rfl, o10, hb10⟩
    obtain ⟨A10, c10, rfl, _, _, _⟩ := own_form (OwnR.own o10)
    go_wp2_with fail
    go_ret
    exact ⟨rfl, B9.trans (hb10.mono z9)⟩
  · have g1 : ((chanceF p k).2.2 != 0) = true := by simp [hc]
    go_wp2_with fail
    go_ret
    exact ⟨rfl, B9⟩

theorem walk (v0 : Value) (w : World) (g0 : ∃ bs, SlR u8s 1 w 0 w.heap.size v0 bs ∧ ∀ b ∈ bs, 0 ≤ b ∧ b ≤ 255) :
    Calls Try.prog 10 #[v0] w fun e w' => e = .returned (.bool true) ∧ Below w.heap.size w w' := by
  obtain ⟨bs, h, hb⟩ := g0
  exact walkL v0 bs w h hb

theorem own : ownKnob Try.prog.godebug = none := by kernel_rfl
theorem laidOut : laidOutB Try.prog = true := by kernel_rfl

set_option maxRecDepth 100000 in
theorem lifted (os : Os) (started : os.Started) (H : Type) (enc : TypeId × Value → H) :
    ReturnsInHanded {} Try.checked os 10 .any (Rows.fnPoolChancesSpec.pre6 enc Try.prog Try.f10 Rows.fnPoolChancesRow.domain false) (Rows.fnPoolChancesSpec.post enc Try.prog Try.f10 false true false false) := by
  refine returnsInHanded_of_change (C := Try.checked) own started (by kernel_rfl) Try.func10
    (ChangeSpec.witness6 (enc := enc) (C := Try.checked) false ⟨#[], #[.slice none 0 0], []⟩ 8 (by kernel_rfl) (by kernel_rfl) (by kernel_rfl) (by kernel_rfl)) ?_
  intro W base args ds gs before hval0 hW hcnd _
  have hval : ∀ (j : Nat) t v, Try.f10.params[j]? = some t → args[j]? = some v → Value.okWide Try.prog W .any base t v := hval0
  have hW' := hW
  obtain ⟨p, q, hA0, hV, rfl, hfz, hnd⟩ := hW
  have hA : DataW.TrodAll enc Try.prog W 0 (fun _ => true) true Try.f10.params.toList args.toList ds p := hA0
  rw [Try.params10] at hA hval
  obtain ⟨v0, vs0, d0, ds0, p0, q0, hargs, rfl, rfl, h0, r0⟩ := trodAll_cons hA
  obtain ⟨rfl, rfl, rfl⟩ := trodAll_nil r0
  obtain rfl : args = #[v0] := by cases args; simp_all
  obtain ⟨rfl, rfl⟩ := trodVars_none hV
  have lt0 : ∀ x ∈ p0, x.block < W.heap.size := by obtain ⟨m, hm⟩ := h0; exact DataW.trod_lt m _ _ _ hm
  have g0 := open_ByteS (hval 0 49 v0 rfl rfl) h0
  clear hA0 hval0
  refine (walk v0 W g0).mono fun e W' ⟨he, bel⟩ => ?_
  subst he
  exact ⟨_, rfl, _, _, _, [], _, [], hW', trodAll_mk1 (shut_bool Try.underlying4 _), (trodAll_cons_mk (Below.trod laidOut (by kernel_rfl) (of_decide_eq_true (by kernel_rfl)) h0 bel lt0) trodAll_mk0), rfl, bel.frame _, fun h => by cases h⟩

theorem over : Rows.fnPoolChancesRow.holds Try.pinned (OpenSpec.ofChange Rows.fnPoolChancesSpec) :=
  OpenClaim.holds_of_wide 10 Try.f10 rfl rfl rfl rfl rfl rfl rfl ⟨rfl, rfl, rfl, rfl, rfl⟩ rfl rfl rfl rfl rfl (by kernel_rfl) Try.func10 (by kernel_rfl)
    (of_decide_eq_true (by kernel_rfl)) (by unfold Func.isWrapper; first | (rw [if_pos (by decide +kernel)]; kernel_rfl) | (rw [if_neg (by decide +kernel)]; exact ⟨rfl, rfl⟩))
    (fun os started H enc _ => lifted os started H enc)

theorem proved : Rows.FnPoolChancesSaid := over
#print axioms proved
end Go.Proofs.Ytfenedoalnieaaa.lawFnPoolChances
