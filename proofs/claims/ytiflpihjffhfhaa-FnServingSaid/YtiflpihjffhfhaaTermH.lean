/- BusiestDay: the program's and the reference's answer the same function of the list. No condition but the sizes that the law itself asks. -/
import Derived.Test.YtiflpihjffhfhaaTermG
namespace Go.Proofs.Ytiflpihjffhfhaa
open Go.RowKit

/-- The first day on which the most serve, and how many they are. -/
def busyGo (all : List T3) : List T3 → Int × Nat → Int × Nat
  | [], p => p
  | t :: r, p => busyGo all r (if p.2 < (setOf (onP t.beg) all).length ∨ (setOf (onP t.beg) all).length = p.2 ∧ t.beg < p.1 then (t.beg, (setOf (onP t.beg) all).length) else p)
def busiestF (cs : List T3) : Int × Int × Int := if termsOk cs = true then if cs.length = 0 then (0, 0, 4) else ((busyGo cs cs (0, 0)).1, ((busyGo cs cs (0, 0)).2 : Int), 0) else (0, 0, 1)
theorem busy_yes {all r : List T3} {t : T3} {p : Int × Nat} (h : p.2 < (setOf (onP t.beg) all).length ∨ (setOf (onP t.beg) all).length = p.2 ∧ t.beg < p.1) : busyGo all (t :: r) p = busyGo all r (t.beg, (setOf (onP t.beg) all).length) := by
  rw [busyGo, if_pos h]
theorem busy_no {all r : List T3} {t : T3} {p : Int × Nat} (h : ¬ (p.2 < (setOf (onP t.beg) all).length ∨ (setOf (onP t.beg) all).length = p.2 ∧ t.beg < p.1)) : busyGo all (t :: r) p = busyGo all r p := by
  rw [busyGo, if_neg h]

set_option maxRecDepth 100000 in
set_option maxHeartbeats 4000000 in
theorem specBusiestDay_any (v : Value) (cs : List T3) (w : World) (lo : Nat) (h : SlT3 w lo w.heap.size v cs) :
    Calls Try.prog 76 #[v] w fun e w' => e = .returned (.tuple #[.int .i64 (busiestF cs).1, .int .i64 (busiestF cs).2.1, .int .i64 (busiestF cs).2.2]) ∧ Below w.heap.size w w' := by
  obtain ⟨A, c, rfl, hc1, hc2⟩ := h.form
  go_enter Try.func76, Try.ntmps76
  go_wp2_with fail
  refine (l07Code_any _ cs 1 0 w lo h).mono ?_
  rintro e w1 ⟨rfl, hb1⟩
  rw [termsCode_10]
  cases h1 : termsOk cs
  · have hF : busiestF cs = (0, 0, 1) := by simp [busiestF, h1]
    go_wp2_with fail
    all_goals go_ret3
    all_goals exact ⟨by rw [hF]; rfl, hb1⟩
  rcases Nat.eq_zero_or_pos cs.length with h0 | h0
  · have hF : busiestF cs = (0, 0, 4) := by simp [busiestF, h1, h0]
    go_wp2_with fail
    all_goals go_ret3
    all_goals exact ⟨by rw [hF]; rfl, hb1⟩
  have hF : busiestF cs = ((busyGo cs cs (0, 0)).1, ((busyGo cs cs (0, 0)).2 : Int), 0) := by unfold busiestF; rw [if_pos h1, if_neg (by omega)]
  have HF := Lib.hid hF
  clear hF
  have hl := (termsOk_all h1).2
  have z1 := hb1.size
  have h' : SlT3 w1 lo w1.heap.size (.slice A cs.length c) cs := (h.below hb1 (Nat.le_refl _)).more (Nat.le_refl _) hb1.size
  have h0' : ((cs.length : Int) == 0) = false := by rw [beq_eq_false_iff_ne]; omega
  go_wp2_with fail
  obtain ⟨wo, rfl⟩ : ∃ wo : World, wo = w1 := ⟨_, rfl⟩
  go_loopw [6, 7, 8] (fun d m i wr => ∃ (k : Nat) (dz : Int) (mz : Nat), i = .int .i64 k ∧ d = .int .i64 dz ∧ m = .int .i64 mz ∧ mz ≤ 20 ∧ k ≤ cs.length ∧ Hid (busyGo cs cs (0, 0) = busyGo cs (cs.drop k) (dz, mz)) ∧ Below wo.heap.size wo wr) (fun d m i wr => cs.length - (intOf i).toNat)
  case atStart => exact ⟨0, 0, 0, rfl, rfl, rfl, by omega, Nat.zero_le _, Lib.hid rfl, Below.refl _ _⟩
  case round =>
    obtain ⟨k, dz, mz, rfl, rfl, rfl, hm, hk, Hgo, hbr⟩ := hrel
    by_cases hlt : k < cs.length
    · obtain ⟨x, hx⟩ := some_at hlt
      have hsz := hbr.size
      have h2 := (h'.below hbr (Nat.le_refl _)).more (Nat.le_refl _) hbr.size
      obtain ⟨b, off, rfl, _, hb, c0, c1, c2⟩ := h2.T3_at hx
      have Hd := Lib.hid (drop_cons hx)
      clear hx c0 c2
      go_wp2_with fail
      refine (l07Serving_any _ cs x.beg _ lo h2 (by omega)).mono ?_
      rintro e w2 ⟨v2, rfl, ov, hb2⟩
      have hB2 := hbr.trans (hb2.mono hbr.size)
      obtain ⟨A2, cc2, rfl, _⟩ := own_form (OwnR.own ov)
      have hsl := setOf_len (onP x.beg) cs
      by_cases e1 : mz < (setOf (onP x.beg) cs).length
      · go_wp2_with fail
        go_roundw
        case rel => exact ⟨k + 1, x.beg, (setOf (onP x.beg) cs).length, by go_num, rfl, rfl, by omega, hlt, Lib.hid (by rw [Hgo.out, Hd.out, busy_yes (.inl e1)]), hB2⟩
        case measure => simp [intOf]; omega
      by_cases e2 : (setOf (onP x.beg) cs).length = mz
      · by_cases e3 : x.beg < dz
        · have e4 : ((setOf (onP x.beg) cs).length : Int) = (mz : Int) := by omega
          go_wp2_with fail
          go_roundw
          case rel => exact ⟨k + 1, x.beg, mz, by go_num, rfl, rfl, by omega, hlt, Lib.hid (by rw [Hgo.out, Hd.out, busy_yes (.inr ⟨e2, e3⟩), e2]), hB2⟩
          case measure => simp [intOf]; omega
        · go_wp2_with fail
          go_roundw
          case rel => exact ⟨k + 1, dz, mz, by go_num, rfl, rfl, hm, hlt, Lib.hid (by rw [Hgo.out, Hd.out, busy_no (by dsimp only; omega)]), hB2⟩
          case measure => simp [intOf]; omega
      · go_wp2_with fail
        go_roundw
        case rel => exact ⟨k + 1, dz, mz, by go_num, rfl, rfl, hm, hlt, Lib.hid (by rw [Hgo.out, Hd.out, busy_no (by dsimp only; omega)]), hB2⟩
        case measure => simp [intOf]; omega
    · have hkn : k = cs.length := by omega
      subst hkn
      have hgo := Hgo.out
      rw [List.drop_length, busyGo] at hgo
      have HG := Lib.hid hgo
      clear hgo
      go_wp2_with fail
      go_ret3
      exact ⟨by rw [HF.out, HG.out]; rfl, hb1.trans (hbr.mono hb1.size)⟩

set_option maxRecDepth 100000 in
set_option maxHeartbeats 4000000 in
theorem implBusiestDay_any (v : Value) (cs : List T3) (w : World) (lo : Nat) (h : SlT3 w lo w.heap.size v cs) :
    Calls Try.prog 75 #[v] w fun e w' => e = .returned (.tuple #[.int .i64 (busiestF cs).1, .int .i64 (busiestF cs).2.1, .int .i64 (busiestF cs).2.2]) ∧ Below w.heap.size w w' := by
  obtain ⟨A, c, rfl, hc1, hc2⟩ := h.form
  go_enter Try.func75, Try.ntmps75
  go_wp2_with fail
  refine (implAreTerms_any _ cs w lo h).mono ?_
  rintro e w1 ⟨rfl, hb1⟩
  cases h1 : termsOk cs
  · have hF : busiestF cs = (0, 0, 1) := by simp [busiestF, h1]
    go_wp2_with fail
    all_goals go_ret3
    all_goals exact ⟨by rw [hF]; rfl, hb1⟩
  rcases Nat.eq_zero_or_pos cs.length with h0 | h0
  · have hF : busiestF cs = (0, 0, 4) := by simp [busiestF, h1, h0]
    go_wp2_with fail
    all_goals go_ret3
    all_goals exact ⟨by rw [hF]; rfl, hb1⟩
  have hF : busiestF cs = ((busyGo cs cs (0, 0)).1, ((busyGo cs cs (0, 0)).2 : Int), 0) := by unfold busiestF; rw [if_pos h1, if_neg (by omega)]
  have HF := Lib.hid hF
  clear hF
  have hl := (termsOk_all h1).2
  have z1 := hb1.size
  have h' : SlT3 w1 lo w1.heap.size (.slice A cs.length c) cs := (h.below hb1 (Nat.le_refl _)).more (Nat.le_refl _) hb1.size
  have h0' : ((cs.length : Int) == 0) = false := by rw [beq_eq_false_iff_ne]; omega
  go_wp2_with fail
  obtain ⟨wo, rfl⟩ : ∃ wo : World, wo = w1 := ⟨_, rfl⟩
  go_loopw [5, 6, 18] (fun d m i wr => ∃ (k : Nat) (dz : Int) (mz : Nat), i = .int .i64 k ∧ d = .int .i64 dz ∧ m = .int .i64 mz ∧ mz ≤ 20 ∧ k ≤ cs.length ∧ Hid (busyGo cs cs (0, 0) = busyGo cs (cs.drop k) (dz, mz)) ∧ Below wo.heap.size wo wr) (fun d m i wr => cs.length - (intOf i).toNat)
  case atStart => exact ⟨0, 0, 0, rfl, rfl, rfl, by omega, Nat.zero_le _, Lib.hid rfl, Below.refl _ _⟩
  case round =>
    obtain ⟨k, dz, mz, rfl, rfl, rfl, hm, hk, Hgo, hbr⟩ := hrel
    by_cases hlt : k < cs.length
    · obtain ⟨x, hx⟩ := some_at hlt
      have hsz := hbr.size
      obtain ⟨b, off, rfl, _, hb, c0, c1, c2⟩ := ((h'.below hbr (Nat.le_refl _)).more (Nat.le_refl _) hbr.size).T3_at hx
      have hb' : b < wr.heap.size + 1 := by omega
      have hB3 : Below wo.heap.size wo (wr.alloc (.cells #[.int .i64 x.num, .int .i64 x.beg, .int .i64 x.fin] 65)) := hbr.alloc hbr.size _
      have Hd := Lib.hid (drop_cons hx)
      clear hx
      go_wp2_with fail
      have b0 := Blk.new wr 65 #[.int .i64 x.num, .int .i64 x.beg, .int .i64 x.fin]
      generalize (wr.alloc (.cells #[.int .i64 x.num, .int .i64 x.beg, .int .i64 x.fin] 65)) = w3 at *
      refine (serving_any _ cs x.beg _ lo ((h'.below hB3 (Nat.le_refl _)).more (Nat.le_refl _) hB3.size) (by omega)).mono ?_
      rintro e w2 ⟨v2, rfl, ov, hb2⟩
      have hB2 := hB3.trans (hb2.mono hB3.size)
      have d0 : w2.cell? ⟨wr.heap.size, 0 + 1, none⟩ = some (.int .i64 x.beg) := (b0.below' hb2).cell 1
      obtain ⟨A2, cc2, rfl, _⟩ := own_form (OwnR.own ov)
      have hsl := setOf_len (onP x.beg) cs
      by_cases e1 : mz < (setOf (onP x.beg) cs).length
      · go_wp2_with fail
        go_roundw
        case rel => exact ⟨k + 1, x.beg, (setOf (onP x.beg) cs).length, by go_num, rfl, rfl, by omega, hlt, Lib.hid (by rw [Hgo.out, Hd.out, busy_yes (.inl e1)]), hB2⟩
        case measure => simp [intOf]; omega
      by_cases e2 : (setOf (onP x.beg) cs).length = mz
      · by_cases e3 : x.beg < dz
        · have e4 : ((setOf (onP x.beg) cs).length : Int) = (mz : Int) := by omega
          go_wp2_with fail
          go_roundw
          case rel => exact ⟨k + 1, x.beg, mz, by go_num, rfl, rfl, by omega, hlt, Lib.hid (by rw [Hgo.out, Hd.out, busy_yes (.inr ⟨e2, e3⟩), e2]), hB2⟩
          case measure => simp [intOf]; omega
        · go_wp2_with fail
          go_roundw
          case rel => exact ⟨k + 1, dz, mz, by go_num, rfl, rfl, hm, hlt, Lib.hid (by rw [Hgo.out, Hd.out, busy_no (by dsimp only; omega)]), hB2⟩
          case measure => simp [intOf]; omega
      · go_wp2_with fail
        go_roundw
        case rel => exact ⟨k + 1, dz, mz, by go_num, rfl, rfl, hm, hlt, Lib.hid (by rw [Hgo.out, Hd.out, busy_no (by dsimp only; omega)]), hB2⟩
        case measure => simp [intOf]; omega
    · have hkn : k = cs.length := by omega
      subst hkn
      have hgo := Hgo.out
      rw [List.drop_length, busyGo] at hgo
      have HG := Lib.hid hgo
      clear hgo
      go_wp2_with fail
      go_ret3
      exact ⟨by rw [HF.out, HG.out]; rfl, hb1.trans (hbr.mono hb1.size)⟩
end Go.Proofs.Ytiflpihjffhfhaa
