/- What the laws on summonses draw. No condition. -/
import Derived.Test.YtiflpihjffhfhaaDrawSA
import Derived.Test.YtiflpihjffhfhaaDrawH
namespace Go.Proofs.Ytiflpihjffhfhaa
open Go.RowKit
attribute [local go_sem ↓] Go.wp_at_zero Go.wp_at_succ

set_option maxRecDepth 100000 in
set_option maxHeartbeats 4000000 in
theorem DrawOpenOn_any (v : Value) (bs : List Int) (w : World) (hv : SlR u8s 1 w 0 w.heap.size v bs) (hb : ∀ b ∈ bs, 0 ≤ b ∧ b ≤ 255) :
    Calls Try.prog 135 #[v] w fun e w' => ∃ (y : Value) (cs : List S5) (n0 : Int), e = .returned (.tuple #[y, .int .i64 n0]) ∧ SlS5 w' w.heap.size w'.heap.size y cs ∧ cs.length ≤ 30 ∧ Below w.heap.size w w' := by
  go_enter Try.func135, Try.ntmps135
  go_wp2_with fail
  refine (l01From_any v bs w hv hb).mono ?_
  rintro e w1 ⟨rfl, h, B⟩
  have lg := h.lt
  go_wp2_with fail
  refine (l09List_any w.heap.size w1 h).mono ?_
  clear h
  rintro e w2 ⟨vl, cs, rfl, sl, lsl, h, g2⟩
  have z2 := g2.size
  replace B := gr_to_below B g2 (by omega) (by omega)
  clear g2
  have losl : w.heap.size < w1.heap.size := by omega
  obtain ⟨Al, cl, rfl, _, _⟩ := sl.form
  go_wp2_with fail
  refine (l09DrawDay_any w.heap.size w2 h).mono ?_
  clear h
  rintro e w3 ⟨n, rfl, h, g3⟩
  have z3 := g3.size
  replace sl := sl.gr g3 (by omega)
  replace B := gr_to_below B g3 (by omega) (by omega)
  clear g3
  go_wp2_with fail
  go_ret2
  exact ⟨_, cs, n, rfl, sl.more (by omega) (Nat.le_refl _), lsl, B⟩

set_option maxRecDepth 100000 in
set_option maxHeartbeats 4000000 in
theorem DrawOverdueOn_any (v : Value) (bs : List Int) (w : World) (hv : SlR u8s 1 w 0 w.heap.size v bs) (hb : ∀ b ∈ bs, 0 ≤ b ∧ b ≤ 255) :
    Calls Try.prog 52 #[v] w fun e w' => ∃ (y : Value) (cs : List S5) (n0 : Int), e = .returned (.tuple #[y, .int .i64 n0]) ∧ SlS5 w' w.heap.size w'.heap.size y cs ∧ cs.length ≤ 30 ∧ Below w.heap.size w w' := by
  go_enter Try.func52, Try.ntmps52
  go_wp2_with fail
  refine (DrawOpenOn_any v bs w hv hb).mono ?_
  rintro e w' ⟨y, cs, n, rfl, h3, h4, h5⟩
  go_wp2_with fail
  go_ret2
  exact ⟨y, cs, n, rfl, h3, h4, h5⟩

set_option maxRecDepth 100000 in
set_option maxHeartbeats 4000000 in
theorem DrawRemindersOn_any (v : Value) (bs : List Int) (w : World) (hv : SlR u8s 1 w 0 w.heap.size v bs) (hb : ∀ b ∈ bs, 0 ≤ b ∧ b ≤ 255) :
    Calls Try.prog 36 #[v] w fun e w' => ∃ (y : Value) (cs : List S5) (n0 : Int), e = .returned (.tuple #[y, .int .i64 n0]) ∧ SlS5 w' w.heap.size w'.heap.size y cs ∧ cs.length ≤ 30 ∧ Below w.heap.size w w' := by
  go_enter Try.func36, Try.ntmps36
  go_wp2_with fail
  refine (l01From_any v bs w hv hb).mono ?_
  rintro e w1 ⟨rfl, h, B⟩
  have lg := h.lt
  go_wp2_with fail
  refine (l09List_any w.heap.size w1 h).mono ?_
  clear h
  rintro e w2 ⟨vl, cs, rfl, sl, lsl, h, g2⟩
  have z2 := g2.size
  replace B := gr_to_below B g2 (by omega) (by omega)
  clear g2
  have losl : w.heap.size < w1.heap.size := by omega
  obtain ⟨Al, cl, rfl, _, _⟩ := sl.form
  go_wp2_with fail
  refine (l09DrawDay_any w.heap.size w2 h).mono ?_
  clear h
  rintro e w3 ⟨n, rfl, h, g3⟩
  have z3 := g3.size
  replace sl := sl.gr g3 (by omega)
  replace B := gr_to_below B g3 (by omega) (by omega)
  clear g3
  by_cases h0 : 0 < cs.length
  · have h1 : (0 : Int) < (cs.length : Int) := by omega
    go_wp2_with fail
    refine (l01Next_any w.heap.size 3 w3 h).mono ?_
    clear h
    rintro e w4 ⟨r4, rfl, a4, b4, _, h, g4⟩
    replace b4 := b4 (by omega)
    have z4 := g4.size
    replace sl := sl.gr g4 (by omega)
    replace B := gr_to_below B g4 (by omega) (by omega)
    clear g4
    by_cases e0 : 0 < r4
    · obtain ⟨x0, hx0⟩ := some_at h0
      obtain ⟨b, off, rfl, _, hbb, -⟩ := sl.S5_at hx0
      clear hx0 x0
      have KS : Hid (∀ W, SlS5 W w1.heap.size W.heap.size (.slice (some ⟨b, off, none⟩) cs.length cl) cs → ∀ (j : Nat) (hj : j < cs.length), W.cell? ⟨b, off + j * 5 + 2, none⟩ = some (.int .i64 (cs[j]).due)) := Lib.hid fun W hW j hj => by
        obtain ⟨b2, off2, ee, _, _, _, _, d2, _⟩ := hW.S5_at (List.getElem?_eq_getElem hj)
        injection ee with ee
        injection ee with ee1 ee2
        subst ee1 ee2
        exact d2
      have sld : SlS5 w4.drew w1.heap.size w4.drew.heap.size _ _ := sl.drew
      have Bd := B.drew
      have hd := h.drew
      have slE : SlS5 (w4.alloc (.cells #[.int .i64 1, .int .i64 15, .int .i64 29, .int .i64 43, .int .i64 2, .int .i64 0] 2)).drew w1.heap.size (w4.alloc (.cells #[.int .i64 1, .int .i64 15, .int .i64 29, .int .i64 43, .int .i64 2, .int .i64 0] 2)).drew.heap.size _ _ := SlR.drew (SlR.bel sl ((Below.refl _ _).alloc (Nat.le_refl _) _))
      have BE : Below w.heap.size w (w4.alloc (.cells #[.int .i64 1, .int .i64 15, .int .i64 29, .int .i64 43, .int .i64 2, .int .i64 0] 2)).drew := (B.alloc (by omega) _).drew
      have hE : Src (w4.alloc (.cells #[.int .i64 1, .int .i64 15, .int .i64 29, .int .i64 43, .int .i64 2, .int .i64 0] 2)).drew w.heap.size := (h.alloc _).drew
      have tE : SlI (w4.alloc (.cells #[.int .i64 1, .int .i64 15, .int .i64 29, .int .i64 43, .int .i64 2, .int .i64 0] 2)).drew w4.heap.size (w4.heap.size + 1) (.slice (some ⟨w4.heap.size, 0, none⟩) 6 6) [1, 15, 29, 43, 2, 0] := (laid_slI w4 _ _ _ 6 rfl (by decide) rfl).drew
      have CA := fun (w7 : World) (h7 : Src w7 w.heap.size) => pick_any w.heap.size 6 [1, 15, 29, 43, 2, 0] #[.int .i64 1, .int .i64 15, .int .i64 29, .int .i64 43, .int .i64 2, .int .i64 0] w7 h7 rfl (by decide) (by decide) rfl
      have CB := fun (w7 : World) (h7 : Src w7 w.heap.size) (t7 : SlI w7 w4.heap.size (w4.heap.size + 1) (.slice (some ⟨w4.heap.size, 0, none⟩) 6 6) [1, 15, 29, 43, 2, 0]) (zt7 : w4.heap.size + 1 ≤ w7.heap.size) => l01Pick_any w.heap.size _ _ w7 _ _ h7 t7 zt7 h.lt (by decide)
      have zE : w4.heap.size + 1 ≤ (w4.alloc (.cells #[.int .i64 1, .int .i64 15, .int .i64 29, .int .i64 43, .int .i64 2, .int .i64 0] 2)).drew.heap.size := by show _ ≤ (w4.alloc (.cells #[.int .i64 1, .int .i64 15, .int .i64 29, .int .i64 43, .int .i64 2, .int .i64 0] 2)).heap.size; simp
      have lgc : w.heap.size < w4.heap.size := h.lt
      go_wp2_with fail
      go_region_held3 (fun W => ∀ (j : Nat) (hj : j < cs.length), W.cell? ⟨b, off + j * 5 + 2, none⟩ = some (.int .i64 (cs[j]).due)) (first | exact KS.out _ sld | exact KS.out _ slE | exact KS.out _ sl7 | exact KS.out _ (SlR.bel sl7 ((Below.refl _ _).alloc (Nat.le_refl _) _)) | exact KS.out _ sl8 | go_keep) (first
        | (go_at_call 93; (with_reducible refine (l01Next_any w.heap.size cs.length w4.drew hd).mono ?_); rintro e w7 ⟨r7, rfl, a7, b7, d7, h7, g7⟩; have z7 : w4.heap.size ≤ w7.heap.size := g7.size; have sl7 := SlR.gr sld g7 (by omega); have B7 := gr_to_below Bd g7 (by show _ ≤ w4.heap.size; omega) (by omega); obtain ⟨k, rfl⟩ : ∃ k : Nat, r7 = (k : Int) := ⟨r7.toNat, by omega⟩; have hk : k < cs.length := nxt_lt b7 d7 h0)
        | (go_at_call 93; (with_reducible refine (l01Next_any w.heap.size cs.length (w4.alloc (.cells #[.int .i64 1, .int .i64 15, .int .i64 29, .int .i64 43, .int .i64 2, .int .i64 0] 2)).drew hE).mono ?_); rintro e w7 ⟨r7, rfl, a7, b7, d7, h7, g7⟩; have z7 : w4.heap.size ≤ w7.heap.size := Nat.le_trans (Nat.le_trans (Nat.le_succ _) zE) g7.size; have t7 := SlR.grown tE g7 zE (fun k hk => by have := Option.some.inj hk; omega); have zt7 := Nat.le_trans zE g7.size; have sl7 := SlR.gr slE g7 (by omega); have B7 := gr_to_below BE g7 (by omega) (by omega); obtain ⟨k, rfl⟩ : ∃ k : Nat, r7 = (k : Int) := ⟨r7.toNat, by omega⟩; have hk : k < cs.length := nxt_lt b7 d7 h0)
        | (go_at_call 92; (with_reducible refine (CA w7 h7).mono ?_); rintro e w8 ⟨r8, rfl, _, h8, g8⟩; have sl8 := SlR.gr sl7 g8 (by omega); have B8 := gr_to_below B7 g8 (by omega) (by omega); have z8 := g8.size)
        | (go_at_call 92; (with_reducible refine (CB w7 h7 t7 zt7).mono ?_); rintro e w8 ⟨r8, rfl, _, h8, g8⟩; have sl8 := SlR.gr sl7 g8 (by omega); have B8 := gr_to_below B7 g8 (by omega) (by omega); have z8 := g8.size))
      all_goals go_wp2_with fail
      all_goals go_ret2
      all_goals exact ⟨_, cs, _, rfl, sl8.more (by omega) (Nat.le_refl _), lsl, B8⟩
    · go_wp2_with fail
      go_ret2
      exact ⟨_, cs, n, rfl, sl.more (by omega) (Nat.le_refl _), lsl, B⟩
  · have h1 : ¬ (0 : Int) < (cs.length : Int) := by omega
    go_wp2_with fail
    go_ret2
    exact ⟨_, cs, n, rfl, sl.more (by omega) (Nat.le_refl _), lsl, B⟩

set_option maxRecDepth 100000 in
set_option maxHeartbeats 4000000 in
theorem DrawNextReminder_any (v : Value) (bs : List Int) (w : World) (hv : SlR u8s 1 w 0 w.heap.size v bs) (hb : ∀ b ∈ bs, 0 ≤ b ∧ b ≤ 255) :
    Calls Try.prog 41 #[v] w fun e w' => ∃ (y : Value) (cs : List S5) (n0 : Int), e = .returned (.tuple #[y, .int .i64 n0]) ∧ SlS5 w' w.heap.size w'.heap.size y cs ∧ cs.length ≤ 30 ∧ Below w.heap.size w w' := by
  go_enter Try.func41, Try.ntmps41
  go_wp2_with fail
  refine (DrawRemindersOn_any v bs w hv hb).mono ?_
  rintro e w' ⟨y, cs, n, rfl, h3, h4, h5⟩
  go_wp2_with fail
  go_ret2
  exact ⟨y, cs, n, rfl, h3, h4, h5⟩

set_option maxRecDepth 100000 in
set_option maxHeartbeats 4000000 in
theorem DrawSendSummons_any (v : Value) (bs : List Int) (w : World) (hv : SlR u8s 1 w 0 w.heap.size v bs) (hb : ∀ b ∈ bs, 0 ≤ b ∧ b ≤ 255) :
    Calls Try.prog 46 #[v] w fun e w' => ∃ (u : Value) (hs : List Int) (y : Value) (cs : List S5) (n0 n1 n2 : Int), e = .returned (.tuple #[u, y, .int .i64 n0, .int .i64 n1, .int .i64 n2]) ∧ SlI w' w.heap.size w'.heap.size u hs ∧ hs.length ≤ 50 ∧ SlS5 w' w.heap.size w'.heap.size y cs ∧ cs.length ≤ 30 ∧ Below w.heap.size w w' := by
  go_enter Try.func46, Try.ntmps46
  go_wp2_with fail
  refine (l01From_any v bs w hv hb).mono ?_
  rintro e w1 ⟨rfl, h, B⟩
  have lg := h.lt
  go_wp2_with fail
  refine (l02Holidays_any w.heap.size w1 h).mono ?_
  clear h
  rintro e w2 ⟨vh, hs, rfl, sh, lsh, h, g2⟩
  have z2 := g2.size
  replace B := gr_to_below B g2 (by omega) (by omega)
  clear g2
  have losh : w.heap.size < w1.heap.size := by omega
  obtain ⟨Ah, ch, rfl, _, _⟩ := sh.form
  go_wp2_with fail
  refine (l09List_any w.heap.size w2 h).mono ?_
  clear h
  rintro e w3 ⟨vl, cs, rfl, sl, lsl, h, g3⟩
  have z3 := g3.size
  replace sh := sh.gr g3 (by omega)
  replace B := gr_to_below B g3 (by omega) (by omega)
  clear g3
  have losl : w.heap.size < w2.heap.size := by omega
  obtain ⟨Al, cl, rfl, _, _⟩ := sl.form
  go_wp2_with fail
  refine (l01Next_any w.heap.size 40 w3 h).mono ?_
  clear h
  rintro e w4 ⟨r4, rfl, a4, b4, _, h, g4⟩
  replace b4 := b4 (by omega)
  have z4 := g4.size
  replace sh := sh.gr g4 (by omega)
  replace sl := sl.gr g4 (by omega)
  replace B := gr_to_below B g4 (by omega) (by omega)
  clear g4
  go_wp2_with fail
  refine (l01Next_any w.heap.size 8 w4 h).mono ?_
  clear h
  rintro e w5 ⟨r5, rfl, a5, b5, _, h, g5⟩
  replace b5 := b5 (by omega)
  have z5 := g5.size
  replace sh := sh.gr g5 (by omega)
  replace sl := sl.gr g5 (by omega)
  replace B := gr_to_below B g5 (by omega) (by omega)
  clear g5
  by_cases e0 : r5 = 0
  · subst e0
    go_wp2_with fail
    refine (l09Number_any w.heap.size _ cs w5 _ h sl (by omega) lsl).mono ?_
    clear h
    rintro e w6 ⟨n, rfl, h, g6⟩
    have z6 := g6.size
    replace sh := sh.gr g6 (by omega)
    replace sl := sl.gr g6 (by omega)
    replace B := gr_to_below B g6 (by omega) (by omega)
    clear g6
    go_wp2_with fail
    refine (l09DrawDay_any w.heap.size w6 h).mono ?_
    clear h
    rintro e w7 ⟨y, rfl, h, g7⟩
    have z7 := g7.size
    replace sh := sh.gr g7 (by omega)
    replace sl := sl.gr g7 (by omega)
    replace B := gr_to_below B g7 (by omega) (by omega)
    clear g7
    go_wp2_with fail
    refine (l01Next_any w.heap.size 60 w7 h).mono ?_
    clear h
    rintro e w8 ⟨r8, rfl, a8, b8, _, h, g8⟩
    replace b8 := b8 (by omega)
    have z8 := g8.size
    replace sh := sh.gr g8 (by omega)
    replace sl := sl.gr g8 (by omega)
    replace B := gr_to_below B g8 (by omega) (by omega)
    clear g8
    go_wp2_with fail
    refine (pick_any w.heap.size 4 [_, _, _, _] _ w8 h rfl (by decide) (by decide) (by rfl)).mono ?_
    clear h
    rintro e w9 ⟨r9, rfl, m9, h, g9⟩
    clear m9
    have z9 := g9.size
    replace sh := sh.gr g9 (by omega)
    replace sl := sl.gr g9 (by omega)
    replace B := gr_to_below B g9 (by omega) (by omega)
    clear g9
    go_wp2_with fail
    ((try simp only [Exit.inBlock, Exit.then]); refine bodyPost_ret (results_tmp5 rfl _ _ _) rfl ?_)
    exact ⟨_, hs, _, cs, n, y, r9, rfl, sh.more (by omega) (Nat.le_refl _), lsh, sl.more (by omega) (Nat.le_refl _), lsl, B⟩
  · replace e0 : (r5 == 0) = false := by simpa using e0
    go_wp2_with fail
    refine (l09DrawDay_any w.heap.size w5 h).mono ?_
    clear h
    rintro e w6 ⟨y, rfl, h, g6⟩
    have z6 := g6.size
    replace sh := sh.gr g6 (by omega)
    replace sl := sl.gr g6 (by omega)
    replace B := gr_to_below B g6 (by omega) (by omega)
    clear g6
    go_wp2_with fail
    refine (l01Next_any w.heap.size 60 w6 h).mono ?_
    clear h
    rintro e w7 ⟨r7, rfl, a7, b7, _, h, g7⟩
    replace b7 := b7 (by omega)
    have z7 := g7.size
    replace sh := sh.gr g7 (by omega)
    replace sl := sl.gr g7 (by omega)
    replace B := gr_to_below B g7 (by omega) (by omega)
    clear g7
    go_wp2_with fail
    refine (pick_any w.heap.size 4 [_, _, _, _] _ w7 h rfl (by decide) (by decide) (by rfl)).mono ?_
    clear h
    rintro e w8 ⟨r8, rfl, m8, h, g8⟩
    clear m8
    have z8 := g8.size
    replace sh := sh.gr g8 (by omega)
    replace sl := sl.gr g8 (by omega)
    replace B := gr_to_below B g8 (by omega) (by omega)
    clear g8
    go_wp2_with fail
    ((try simp only [Exit.inBlock, Exit.then]); refine bodyPost_ret (results_tmp5 rfl _ _ _) rfl ?_)
    exact ⟨_, hs, _, cs, _, y, r8, rfl, sh.more (by omega) (Nat.le_refl _), lsh, sl.more (by omega) (Nat.le_refl _), lsl, B⟩

set_option maxRecDepth 100000 in
set_option maxHeartbeats 4000000 in
theorem DrawAnswerSummons_any (v : Value) (bs : List Int) (w : World) (hv : SlR u8s 1 w 0 w.heap.size v bs) (hb : ∀ b ∈ bs, 0 ≤ b ∧ b ≤ 255) :
    Calls Try.prog 49 #[v] w fun e w' => ∃ (y : Value) (cs : List S5) (n0 n1 n2 : Int), e = .returned (.tuple #[y, .int .i64 n0, .int .i64 n1, .int .i64 n2]) ∧ SlS5 w' w.heap.size w'.heap.size y cs ∧ cs.length ≤ 30 ∧ Below w.heap.size w w' := by
  go_enter Try.func49, Try.ntmps49
  go_wp2_with fail
  refine (l01From_any v bs w hv hb).mono ?_
  rintro e w1 ⟨rfl, h, B⟩
  have lg := h.lt
  go_wp2_with fail
  refine (l09List_any w.heap.size w1 h).mono ?_
  clear h
  rintro e w2 ⟨vl, cs, rfl, sl, lsl, h, g2⟩
  have z2 := g2.size
  replace B := gr_to_below B g2 (by omega) (by omega)
  clear g2
  have losl : w.heap.size < w1.heap.size := by omega
  obtain ⟨Al, cl, rfl, _, _⟩ := sl.form
  go_wp2_with fail
  refine (l09Number_any w.heap.size _ cs w2 _ h sl (by omega) lsl).mono ?_
  clear h
  rintro e w3 ⟨n, rfl, h, g3⟩
  have z3 := g3.size
  replace sl := sl.gr g3 (by omega)
  replace B := gr_to_below B g3 (by omega) (by omega)
  clear g3
  go_wp2_with fail
  refine (pick_any w.heap.size 7 [_, _, _, _, _, _, _] _ w3 h rfl (by decide) (by decide) (by rfl)).mono ?_
  clear h
  rintro e w4 ⟨r4, rfl, m4, h, g4⟩
  clear m4
  have z4 := g4.size
  replace sl := sl.gr g4 (by omega)
  replace B := gr_to_below B g4 (by omega) (by omega)
  clear g4
  go_wp2_with fail
  refine (l09DrawDay_any w.heap.size w4 h).mono ?_
  clear h
  rintro e w5 ⟨y, rfl, h, g5⟩
  have z5 := g5.size
  replace sl := sl.gr g5 (by omega)
  replace B := gr_to_below B g5 (by omega) (by omega)
  clear g5
  go_wp2_with fail
  ((try simp only [Exit.inBlock, Exit.then]); refine bodyPost_ret (results_tmp4 rfl _ _ _) rfl ?_)
  exact ⟨_, cs, n, r4, y, rfl, sl.more (by omega) (Nat.le_refl _), lsl, B⟩

end Go.Proofs.Ytiflpihjffhfhaa
