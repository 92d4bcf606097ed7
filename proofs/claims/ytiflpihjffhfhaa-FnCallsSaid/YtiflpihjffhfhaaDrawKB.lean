/- What the laws on calls draw. No condition. -/
import Derived.Test.YtiflpihjffhfhaaDrawKA
import Derived.Test.YtiflpihjffhfhaaDrawH
namespace Go.Proofs.Ytiflpihjffhfhaa
open Go.RowKit
attribute [local go_sem ↓] Go.wp_at_zero Go.wp_at_succ

set_option maxRecDepth 100000 in
set_option maxHeartbeats 4000000 in
theorem DrawDropCall_any (v : Value) (bs : List Int) (w : World) (hv : SlR u8s 1 w 0 w.heap.size v bs) (hb : ∀ b ∈ bs, 0 ≤ b ∧ b ≤ 255) :
    Calls Try.prog 18 #[v] w fun e w' => ∃ (y : Value) (cs : List C4) (n0 : Int), e = .returned (.tuple #[y, .int .i64 n0]) ∧ SlC4 w' w.heap.size w'.heap.size y cs ∧ cs.length ≤ 30 ∧ Below w.heap.size w w' := by
  go_enter Try.func18, Try.ntmps18
  go_wp2_with fail
  refine (l01From_any v bs w hv hb).mono ?_
  rintro e w1 ⟨rfl, h, B⟩
  have lg := h.lt
  go_wp2_with fail
  refine (l10List_any w.heap.size w1 h).mono ?_
  clear h
  rintro e w2 ⟨vl, cs, rfl, sl, lsl, h, g2⟩
  have z2 := g2.size
  replace B := gr_to_below B g2 (by omega) (by omega)
  clear g2
  have losl : w.heap.size < w1.heap.size := by omega
  obtain ⟨Al, cl, rfl, _, _⟩ := sl.form
  go_wp2_with fail
  refine (l10Number_any w.heap.size _ cs w2 _ h sl (by omega) lsl).mono ?_
  clear h
  rintro e w3 ⟨n, rfl, h, g3⟩
  have z3 := g3.size
  replace sl := sl.gr g3 (by omega)
  replace B := gr_to_below B g3 (by omega) (by omega)
  clear g3
  go_wp2_with fail
  go_ret2
  exact ⟨_, cs, n, rfl, sl.more (by omega) (Nat.le_refl _), lsl, B⟩

set_option maxRecDepth 100000 in
set_option maxHeartbeats 4000000 in
theorem DrawCrowdedDays_any (v : Value) (bs : List Int) (w : World) (hv : SlR u8s 1 w 0 w.heap.size v bs) (hb : ∀ b ∈ bs, 0 ≤ b ∧ b ≤ 255) :
    Calls Try.prog 32 #[v] w fun e w' => ∃ (y : Value) (cs : List C4) (n0 : Int), e = .returned (.tuple #[y, .int .i64 n0]) ∧ SlC4 w' w.heap.size w'.heap.size y cs ∧ cs.length ≤ 30 ∧ Below w.heap.size w w' := by
  go_enter Try.func32, Try.ntmps32
  go_wp2_with fail
  refine (l01From_any v bs w hv hb).mono ?_
  rintro e w1 ⟨rfl, h, B⟩
  have lg := h.lt
  go_wp2_with fail
  refine (l10List_any w.heap.size w1 h).mono ?_
  clear h
  rintro e w2 ⟨vl, cs, rfl, sl, lsl, h, g2⟩
  have z2 := g2.size
  replace B := gr_to_below B g2 (by omega) (by omega)
  clear g2
  have losl : w.heap.size < w1.heap.size := by omega
  obtain ⟨Al, cl, rfl, _, _⟩ := sl.form
  go_wp2_with fail
  refine (pick_any w.heap.size 6 [_, _, _, _, _, _] _ w2 h rfl (by decide) (by decide) (by rfl)).mono ?_
  clear h
  rintro e w3 ⟨r3, rfl, m3, h, g3⟩
  clear m3
  have z3 := g3.size
  replace sl := sl.gr g3 (by omega)
  replace B := gr_to_below B g3 (by omega) (by omega)
  clear g3
  go_wp2_with fail
  go_ret2
  exact ⟨_, cs, r3, rfl, sl.more (by omega) (Nat.le_refl _), lsl, B⟩

set_option maxRecDepth 100000 in
set_option maxHeartbeats 4000000 in
theorem DrawCalledOn_any (v : Value) (bs : List Int) (w : World) (hv : SlR u8s 1 w 0 w.heap.size v bs) (hb : ∀ b ∈ bs, 0 ≤ b ∧ b ≤ 255) :
    Calls Try.prog 30 #[v] w fun e w' => ∃ (y : Value) (cs : List C4) (n0 : Int), e = .returned (.tuple #[y, .int .i64 n0]) ∧ SlC4 w' w.heap.size w'.heap.size y cs ∧ cs.length ≤ 30 ∧ Below w.heap.size w w' := by
  go_enter Try.func30, Try.ntmps30
  go_wp2_with fail
  refine (l01From_any v bs w hv hb).mono ?_
  rintro e w1 ⟨rfl, h, B⟩
  have lg := h.lt
  go_wp2_with fail
  refine (l10List_any w.heap.size w1 h).mono ?_
  clear h
  rintro e w2 ⟨vl, cs, rfl, sl, lsl, h, g2⟩
  have z2 := g2.size
  replace B := gr_to_below B g2 (by omega) (by omega)
  clear g2
  have losl : w.heap.size < w1.heap.size := by omega
  obtain ⟨Al, cl, rfl, _, _⟩ := sl.form
  by_cases h0 : 0 < cs.length
  · have h1 : (0 : Int) < (cs.length : Int) := by omega
    go_wp2_with fail
    refine (l01Next_any w.heap.size 2 w2 h).mono ?_
    clear h
    rintro e w3 ⟨r3, rfl, a3, b3, _, h, g3⟩
    replace b3 := b3 (by omega)
    have z3 := g3.size
    replace sl := sl.gr g3 (by omega)
    replace B := gr_to_below B g3 (by omega) (by omega)
    clear g3
    by_cases e0 : r3 = 0
    · subst e0
      obtain ⟨x, hx⟩ := some_at h0
      obtain ⟨b, off, rfl, _, hbb, c0, c1, c2, c3⟩ := sl.C4_at hx
      simp only [Nat.zero_mul, Nat.add_zero] at c0 c1 c2 c3
      clear hx
      go_wp2_with fail
      refine wp_region_ext (by kernel_rfl) (by kernel_rfl) ?_
      repeat (go_big_quiet_step (fail))
      refine wpQuiet_nil ?_
      intro w9 hb9
      replace sl := SlR.bel sl hb9
      replace B := B.trans (hb9.mono (by omega))
      go_wp2_with fail
      go_ret2
      exact ⟨_, cs, x.day, rfl, sl.more (by omega) (Nat.le_refl _), lsl, B⟩
    · replace e0 : (r3 == 0) = false := by simpa using e0
      go_wp2_with fail
      refine (l02Day_any w.heap.size w3 h).mono ?_
      clear h
      rintro e w4 ⟨n, rfl, h, g4⟩
      have z4 := g4.size
      replace sl := sl.gr g4 (by omega)
      replace B := gr_to_below B g4 (by omega) (by omega)
      clear g4
      go_wp2_with fail
      go_ret2
      exact ⟨_, cs, n, rfl, sl.more (by omega) (Nat.le_refl _), lsl, B⟩
  · have h1 : ¬ (0 : Int) < (cs.length : Int) := by omega
    go_wp2_with fail
    refine (l02Day_any w.heap.size w2 h).mono ?_
    clear h
    rintro e w3 ⟨n, rfl, h, g3⟩
    have z3 := g3.size
    replace sl := sl.gr g3 (by omega)
    replace B := gr_to_below B g3 (by omega) (by omega)
    clear g3
    go_wp2_with fail
    go_ret2
    exact ⟨_, cs, n, rfl, sl.more (by omega) (Nat.le_refl _), lsl, B⟩

set_option maxRecDepth 100000 in
set_option maxHeartbeats 4000000 in
theorem DrawMayMove_any (v : Value) (bs : List Int) (w : World) (hv : SlR u8s 1 w 0 w.heap.size v bs) (hb : ∀ b ∈ bs, 0 ≤ b ∧ b ≤ 255) :
    Calls Try.prog 82 #[v] w fun e w' => ∃ (u : Value) (hs : List Int) (y : Value) (cs : List C4) (n0 n1 : Int), e = .returned (.tuple #[u, y, .int .i64 n0, .int .i64 n1]) ∧ SlI w' w.heap.size w'.heap.size u hs ∧ hs.length ≤ 50 ∧ SlC4 w' w.heap.size w'.heap.size y cs ∧ cs.length ≤ 30 ∧ Below w.heap.size w w' := by
  go_enter Try.func82, Try.ntmps82
  go_wp2_with fail
  refine (l01From_any v bs w hv hb).mono ?_
  rintro e w1 ⟨rfl, h, B⟩
  have lg := h.lt
  go_wp2_with fail
  refine (l02Holidays_any w.heap.size w1 h).mono ?_
  clear h
  rintro e w2 ⟨vh, hs, rfl, sh, lsh, h, g2⟩
  have z2 := g2.size
  replace B := gr_to_below B g2 (by omega) (by omega)
  clear g2
  have losh : w.heap.size < w1.heap.size := by omega
  obtain ⟨Ah, ch, rfl, _, _⟩ := sh.form
  go_wp2_with fail
  refine (l10List_any w.heap.size w2 h).mono ?_
  clear h
  rintro e w3 ⟨vl, cs, rfl, sl, lsl, h, g3⟩
  have z3 := g3.size
  replace sh := sh.gr g3 (by omega)
  replace B := gr_to_below B g3 (by omega) (by omega)
  clear g3
  have losl : w.heap.size < w2.heap.size := by omega
  obtain ⟨Al, cl, rfl, _, _⟩ := sl.form
  go_wp2_with fail
  refine (l10Number_any w.heap.size _ cs w3 _ h sl (by omega) lsl).mono ?_
  clear h
  rintro e w4 ⟨n, rfl, h, g4⟩
  have z4 := g4.size
  replace sh := sh.gr g4 (by omega)
  replace sl := sl.gr g4 (by omega)
  replace B := gr_to_below B g4 (by omega) (by omega)
  clear g4
  go_wp2_with fail
  have CF := findC4_any _ cs n _ _ _ sl
  rcases C4.atGo_cases n cs 0 with ⟨hz, _⟩ | ⟨i, x, hz, hx, _⟩
  · rw [hz] at CF
    clear hz
    refine CF.mono ?_
    clear CF
    rintro e w' ⟨rfl, rfl⟩
    go_wp2_with fail
    refine (l02Day_any w.heap.size w4 h).mono ?_
    clear h
    rintro e w5 ⟨y, rfl, h, g5⟩
    have z5 := g5.size
    replace sh := sh.gr g5 (by omega)
    replace sl := sl.gr g5 (by omega)
    replace B := gr_to_below B g5 (by omega) (by omega)
    clear g5
    go_wp2_with fail
    ((try simp only [Exit.inBlock, Exit.then]); refine bodyPost_ret (results_tmp4 rfl _ _ _) rfl ?_)
    exact ⟨_, hs, _, cs, n, y, rfl, sh.more (by omega) (Nat.le_refl _), lsh, sl.more (by omega) (Nat.le_refl _), lsl, B⟩
  · rw [hz, Nat.zero_add] at CF
    clear hz
    refine CF.mono ?_
    clear CF
    rintro e w' ⟨rfl, rfl⟩
    have hi := (List.getElem?_eq_some_iff.1 hx).1
    have Hx := Lib.hid hx
    clear hx
    go_wp2_with fail
    refine (l01Next_any w.heap.size 6 w4 h).mono ?_
    clear h
    rintro e w5 ⟨r5, rfl, a5, b5, _, h, g5⟩
    replace b5 := b5 (by omega)
    have z5 := g5.size
    replace sh := sh.gr g5 (by omega)
    replace sl := sl.gr g5 (by omega)
    replace B := gr_to_below B g5 (by omega) (by omega)
    clear g5
    by_cases e0 : 0 < r5
    · obtain ⟨b, off, rfl, _, hbb, c0, c1, c2, c3⟩ := sl.C4_at Hx.out
      clear c0 c3
      have KS : Hid (∀ W, SlC4 W w2.heap.size W.heap.size (.slice (some ⟨b, off, none⟩) cs.length cl) cs → W.cell? ⟨b, off + i * 4 + 1, none⟩ = some (.int .i64 x.first) ∧ W.cell? ⟨b, off + i * 4 + 2, none⟩ = some (.int .i64 x.day)) := Lib.hid fun W hW => by
        obtain ⟨b2, off2, ee, _, _, _, d1, d2, _⟩ := hW.C4_at Hx.out
        injection ee with ee
        injection ee with ee1 ee2
        subst ee1 ee2
        exact ⟨d1, d2⟩
      have sld : SlC4 w5.drew w2.heap.size w5.drew.heap.size _ _ := sl.drew
      have shd := sh.drew
      have Bd := B.drew
      have hd := h.drew
      go_wp2_with fail
      go_region_held3 (fun W => W.cell? ⟨b, off + i * 4 + 1, none⟩ = some (.int .i64 x.first) ∧ W.cell? ⟨b, off + i * 4 + 2, none⟩ = some (.int .i64 x.day)) (first | exact ⟨c1, c2⟩ | exact KS.out _ sld | exact KS.out _ sl7 | exact KS.out _ (SlR.bel sl7 ((Below.refl _ _).alloc (Nat.le_refl _) _)) | exact KS.out _ sl8 | go_keep) (first
        | (go_at_call 93; (with_reducible refine (l01Next_any w.heap.size 20 w5.drew hd).mono ?_); rintro e w7 ⟨r7, rfl, _, _, _, h7, g7⟩; have z7 : w5.heap.size ≤ w7.heap.size := g7.size; have sl7 := SlR.gr sld g7 (by omega); have sh7 := SlR.gr shd g7 (by omega); have B7 := gr_to_below Bd g7 (by show _ ≤ w5.heap.size; omega) (by omega))
        | (go_at_call 92; (refine (pick_any w.heap.size 5 [_, _, _, _, _] _ w7 h7 rfl (by decide) (by decide) (by rfl)).mono ?_); rintro e w8 ⟨r8, rfl, _, h8, g8⟩; have sl8 := SlR.gr sl7 g8 (by omega); have sh8 := SlR.gr sh7 g8 (by omega); have B8 := gr_to_below B7 g8 (by omega) (by omega); have z8 := g8.size))
      all_goals go_wp2_with fail
      all_goals ((try simp only [Exit.inBlock, Exit.then]); refine bodyPost_ret (results_tmp4 rfl _ _ _) rfl ?_)
      all_goals exact ⟨_, hs, _, cs, n, r8, rfl, sh8.more (by omega) (Nat.le_refl _), lsh, sl8.more (by omega) (Nat.le_refl _), lsl, B8⟩
    · go_wp2_with fail
      refine (l02Day_any w.heap.size w5 h).mono ?_
      clear h
      rintro e w6 ⟨y, rfl, h, g6⟩
      have z6 := g6.size
      replace sh := sh.gr g6 (by omega)
      replace sl := sl.gr g6 (by omega)
      replace B := gr_to_below B g6 (by omega) (by omega)
      clear g6
      go_wp2_with fail
      ((try simp only [Exit.inBlock, Exit.then]); refine bodyPost_ret (results_tmp4 rfl _ _ _) rfl ?_)
      exact ⟨_, hs, _, cs, n, y, rfl, sh.more (by omega) (Nat.le_refl _), lsh, sl.more (by omega) (Nat.le_refl _), lsl, B⟩

set_option maxRecDepth 100000 in
set_option maxHeartbeats 4000000 in
theorem DrawMoveCall_any (v : Value) (bs : List Int) (w : World) (hv : SlR u8s 1 w 0 w.heap.size v bs) (hb : ∀ b ∈ bs, 0 ≤ b ∧ b ≤ 255) :
    Calls Try.prog 10 #[v] w fun e w' => ∃ (u : Value) (hs : List Int) (y : Value) (cs : List C4) (n0 n1 : Int), e = .returned (.tuple #[u, y, .int .i64 n0, .int .i64 n1]) ∧ SlI w' w.heap.size w'.heap.size u hs ∧ hs.length ≤ 50 ∧ SlC4 w' w.heap.size w'.heap.size y cs ∧ cs.length ≤ 30 ∧ Below w.heap.size w w' := by
  go_enter Try.func10, Try.ntmps10
  go_wp2_with fail
  refine (DrawMayMove_any v bs w hv hb).mono ?_
  rintro e w' ⟨u, hs, y, cs, n, x, rfl, h1, h2, h3, h4, h5⟩
  go_wp2_with fail
  ((try simp only [Exit.inBlock, Exit.then]); refine bodyPost_ret (results_tmp4 rfl _ _ _) rfl ?_)
  exact ⟨u, hs, y, cs, n, x, rfl, h1, h2, h3, h4, h5⟩

set_option maxRecDepth 100000 in
set_option maxHeartbeats 4000000 in
theorem DrawAddCall_any (v : Value) (bs : List Int) (w : World) (hv : SlR u8s 1 w 0 w.heap.size v bs) (hb : ∀ b ∈ bs, 0 ≤ b ∧ b ≤ 255) :
    Calls Try.prog 15 #[v] w fun e w' => ∃ (u : Value) (hs : List Int) (y : Value) (cs : List C4) (n0 n1 : Int), e = .returned (.tuple #[u, y, .int .i64 n0, .int .i64 n1]) ∧ SlI w' w.heap.size w'.heap.size u hs ∧ hs.length ≤ 50 ∧ SlC4 w' w.heap.size w'.heap.size y cs ∧ cs.length ≤ 30 ∧ Below w.heap.size w w' := by
  go_enter Try.func15, Try.ntmps15
  go_wp2_with fail
  refine (l01From_any v bs w hv hb).mono ?_
  rintro e w1 ⟨rfl, h, B⟩
  have lg := h.lt
  go_wp2_with fail
  refine (l02Holidays_any w.heap.size w1 h).mono ?_
  clear h
  rintro e w2 ⟨vh, hs, rfl, sh, lsh, h, g2⟩
  have z2 := g2.size
  replace B := gr_to_below B g2 (by omega) (by omega)
  clear g2
  have losh : w.heap.size < w1.heap.size := by omega
  obtain ⟨Ah, ch, rfl, _, _⟩ := sh.form
  go_wp2_with fail
  refine (l10List_any w.heap.size w2 h).mono ?_
  clear h
  rintro e w3 ⟨vl, cs, rfl, sl, lsl, h, g3⟩
  have z3 := g3.size
  replace sh := sh.gr g3 (by omega)
  replace B := gr_to_below B g3 (by omega) (by omega)
  clear g3
  have losl : w.heap.size < w2.heap.size := by omega
  obtain ⟨Al, cl, rfl, _, _⟩ := sl.form
  go_wp2_with fail
  refine (l01Next_any w.heap.size 60 w3 h).mono ?_
  clear h
  rintro e w4 ⟨r4, rfl, a4, b4, _, h, g4⟩
  replace b4 := b4 (by omega)
  have z4 := g4.size
  replace sh := sh.gr g4 (by omega)
  replace sl := sl.gr g4 (by omega)
  replace B := gr_to_below B g4 (by omega) (by omega)
  clear g4
  go_wp2_with fail
  refine (l01Next_any w.heap.size 60 w4 h).mono ?_
  clear h
  rintro e w5 ⟨r5, rfl, a5, b5, _, h, g5⟩
  replace b5 := b5 (by omega)
  have z5 := g5.size
  replace sh := sh.gr g5 (by omega)
  replace sl := sl.gr g5 (by omega)
  replace B := gr_to_below B g5 (by omega) (by omega)
  clear g5
  go_wp2_with fail
  refine (l10Number_any w.heap.size _ cs w5 _ h sl (by omega) lsl).mono ?_
  clear h
  rintro e w6 ⟨n, rfl, h, g6⟩
  have z6 := g6.size
  replace sh := sh.gr g6 (by omega)
  replace sl := sl.gr g6 (by omega)
  replace B := gr_to_below B g6 (by omega) (by omega)
  clear g6
  go_wp2_with fail
  refine (pick_any w.heap.size 3 [_, _, _] _ w6 h rfl (by decide) (by decide) (by rfl)).mono ?_
  clear h
  rintro e w7 ⟨r7, rfl, m7, h, g7⟩
  clear m7
  have z7 := g7.size
  replace sh := sh.gr g7 (by omega)
  replace sl := sl.gr g7 (by omega)
  replace B := gr_to_below B g7 (by omega) (by omega)
  clear g7
  go_wp2_with fail
  refine (l02Day_any w.heap.size w7 h).mono ?_
  clear h
  rintro e w8 ⟨y, rfl, h, g8⟩
  have z8 := g8.size
  replace sh := sh.gr g8 (by omega)
  replace sl := sl.gr g8 (by omega)
  replace B := gr_to_below B g8 (by omega) (by omega)
  clear g8
  go_wp2_with fail
  ((try simp only [Exit.inBlock, Exit.then]); refine bodyPost_ret (results_tmp4 rfl _ _ _) rfl ?_)
  exact ⟨_, hs, _, cs, r7, y, rfl, sh.more (by omega) (Nat.le_refl _), lsh, sl.more (by omega) (Nat.le_refl _), lsl, B⟩

set_option maxRecDepth 100000 in
set_option maxHeartbeats 4000000 in
theorem DrawFirstRoom_any (v : Value) (bs : List Int) (w : World) (hv : SlR u8s 1 w 0 w.heap.size v bs) (hb : ∀ b ∈ bs, 0 ≤ b ∧ b ≤ 255) :
    Calls Try.prog 27 #[v] w fun e w' => ∃ (u : Value) (hs : List Int) (y : Value) (cs : List C4) (n0 n1 : Int), e = .returned (.tuple #[u, y, .int .i64 n0, .int .i64 n1]) ∧ SlI w' w.heap.size w'.heap.size u hs ∧ hs.length ≤ 50 ∧ SlC4 w' w.heap.size w'.heap.size y cs ∧ cs.length ≤ 30 ∧ Below w.heap.size w w' := by
  go_enter Try.func27, Try.ntmps27
  go_wp2_with fail
  refine (l01From_any v bs w hv hb).mono ?_
  rintro e w1 ⟨rfl, h, B⟩
  have lg := h.lt
  go_wp2_with fail
  refine (DrawMayMove_any v bs w1 ((hv.below B (Nat.le_refl _)).more (Nat.le_refl _) (by omega)) hb).mono ?_
  rintro e w2 ⟨u, hs, yv, cs, n, x, rfl, sh, lsh, sl, lsl, hb'⟩
  replace h := h.below' hb'
  replace B := B.trans (hb'.mono (by omega))
  have zzw2 := hb'.size
  clear hb'
  obtain ⟨Ah, ch, rfl, _, _⟩ := sh.form
  obtain ⟨Al, cl, rfl, _, _⟩ := sl.form
  go_wp2_with fail
  refine (pick_any w.heap.size 6 [_, _, _, _, _, _] _ w2 h rfl (by decide) (by decide) (by rfl)).mono ?_
  clear h
  rintro e w3 ⟨r3, rfl, m3, h, g3⟩
  clear m3
  have z3 := g3.size
  replace sh := sh.gr g3 (by omega)
  replace sl := sl.gr g3 (by omega)
  replace B := gr_to_below B g3 (by omega) (by omega)
  clear g3
  go_wp2_with fail
  ((try simp only [Exit.inBlock, Exit.then]); refine bodyPost_ret (results_tmp4 rfl _ _ _) rfl ?_)
  exact ⟨_, hs, _, cs, n, r3, rfl, sh.more (by omega) (Nat.le_refl _), lsh, sl.more (by omega) (Nat.le_refl _), lsl, B⟩

end Go.Proofs.Ytiflpihjffhfhaa
