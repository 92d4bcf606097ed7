/- What the laws on terms draw. No condition. -/
import Derived.Test.YtiflpihjffhfhaaDrawTB
namespace Go.Proofs.Ytiflpihjffhfhaa
open Go.RowKit
attribute [local go_sem ↓] Go.wp_at_zero Go.wp_at_succ

set_option maxRecDepth 100000 in
set_option maxHeartbeats 4000000 in
theorem DrawBusiestDay_any (v : Value) (bs : List Int) (w : World) (hv : SlR u8s 1 w 0 w.heap.size v bs) (hb : ∀ b ∈ bs, 0 ≤ b ∧ b ≤ 255) :
    Calls Try.prog 74 #[v] w fun e w' => ∃ (u : Value) (cs : List T3), e = .returned u ∧ SlT3 w' w.heap.size w'.heap.size u cs ∧ cs.length ≤ 30 ∧ Below w.heap.size w w' := by
  go_enter Try.func74, Try.ntmps74
  go_wp2_with fail
  refine (l01From_any v bs w hv hb).mono ?_
  rintro e w1 ⟨rfl, h, B⟩
  have lg := h.lt
  go_wp2_with fail
  refine (l07List_any w.heap.size w1 h).mono ?_
  clear h
  rintro e w2 ⟨u, cs, rfl, sl, hl, h, g2⟩
  have z2 := g2.size
  replace B := gr_to_below B g2 (by omega) (by omega)
  clear g2
  have lo2 : w.heap.size < w1.heap.size := lg
  obtain ⟨Au, cu, rfl, _, _⟩ := sl.form
  go_wp2_with fail
  go_ret
  exact ⟨_, cs, rfl, sl.more (by omega) (Nat.le_refl _), hl, B⟩

set_option maxRecDepth 100000 in
set_option maxHeartbeats 4000000 in
theorem DrawDaysServed_any (v : Value) (bs : List Int) (w : World) (hv : SlR u8s 1 w 0 w.heap.size v bs) (hb : ∀ b ∈ bs, 0 ≤ b ∧ b ≤ 255) :
    Calls Try.prog 68 #[v] w fun e w' => ∃ (u : Value) (cs : List T3) (n : Int), e = .returned (.tuple #[u, .int .i64 n]) ∧ SlT3 w' w.heap.size w'.heap.size u cs ∧ cs.length ≤ 30 ∧ Below w.heap.size w w' := by
  go_enter Try.func68, Try.ntmps68
  go_wp2_with fail
  refine (l01From_any v bs w hv hb).mono ?_
  rintro e w1 ⟨rfl, h, B⟩
  have lg := h.lt
  go_wp2_with fail
  refine (l07List_any w.heap.size w1 h).mono ?_
  clear h
  rintro e w2 ⟨u, cs, rfl, sl, hl, h, g2⟩
  have z2 := g2.size
  replace B := gr_to_below B g2 (by omega) (by omega)
  clear g2
  have lo2 : w.heap.size < w1.heap.size := lg
  obtain ⟨Au, cu, rfl, _, _⟩ := sl.form
  go_wp2_with fail
  refine (pick_any w.heap.size 7 [_, _, _, _, _, _, _] _ w2 h rfl (by decide) (by decide) (by rfl)).mono ?_
  clear h
  rintro e w3 ⟨r3, rfl, m3, h, g3⟩
  clear m3
  have z3 := g3.size
  replace sl := sl.gr g3 (by omega)
  replace B := gr_to_below B g3 (by omega) (by omega)
  clear g3
  go_wp2_with fail
  go_ret2
  exact ⟨_, cs, r3, rfl, sl.more (by omega) (Nat.le_refl _), hl, B⟩

set_option maxRecDepth 100000 in
set_option maxHeartbeats 4000000 in
theorem DrawIsRested_any (v : Value) (bs : List Int) (w : World) (hv : SlR u8s 1 w 0 w.heap.size v bs) (hb : ∀ b ∈ bs, 0 ≤ b ∧ b ≤ 255) :
    Calls Try.prog 62 #[v] w fun e w' => ∃ (u : Value) (cs : List T3) (n x : Int), e = .returned (.tuple #[u, .int .i64 n, .int .i64 x]) ∧ SlT3 w' w.heap.size w'.heap.size u cs ∧ cs.length ≤ 30 ∧ Below w.heap.size w w' := by
  go_enter Try.func62, Try.ntmps62
  go_wp2_with fail
  refine (l01From_any v bs w hv hb).mono ?_
  rintro e w1 ⟨rfl, h, B⟩
  have lg := h.lt
  go_wp2_with fail
  refine (DrawDaysServed_any v bs w1 ((hv.below B (Nat.le_refl _)).more (Nat.le_refl _) (by omega)) hb).mono ?_
  rintro e w2 ⟨u, cs, n, rfl, sl, hl, hb'⟩
  replace h := h.below' hb'
  replace B := B.trans (hb'.mono (by omega))
  have zzw2 := hb'.size
  clear hb'
  obtain ⟨Au, cu, rfl, _, _⟩ := sl.form
  go_wp2_with fail
  refine (l01Next_any w.heap.size 2500 w2 h).mono ?_
  clear h
  rintro e w3 ⟨r3, rfl, a3, b3, _, h, g3⟩
  replace b3 := b3 (by omega)
  have z3 := g3.size
  replace sl := sl.gr g3 (by omega)
  replace B := gr_to_below B g3 (by omega) (by omega)
  clear g3
  by_cases h0 : 0 < cs.length
  · have h1 : (0 : Int) < (cs.length : Int) := by omega
    go_wp2_with fail
    refine (l01Next_any w.heap.size 2 w3 h).mono ?_
    clear h
    rintro e w4 ⟨r4, rfl, a4, b4, _, h, g4⟩
    replace b4 := b4 (by omega)
    have z4 := g4.size
    replace sl := sl.gr g4 (by omega)
    replace B := gr_to_below B g4 (by omega) (by omega)
    clear g4
    by_cases e0 : r4 = 0
    · subst e0
      go_wp2_with fail
      refine (l01Next_any w.heap.size cs.length w4 h).mono ?_
      clear h
      rintro e w5 ⟨r5, rfl, a5, b5, d5, h, g5⟩
      have z5 := g5.size
      replace sl := sl.gr g5 (by omega)
      replace B := gr_to_below B g5 (by omega) (by omega)
      clear g5
      obtain ⟨k, rfl⟩ : ∃ k : Nat, r5 = (k : Int) := ⟨r5.toNat, by omega⟩
      have hk : k < cs.length := by
        by_cases h3 : 1 < (cs.length : Int)
        · have := b5 h3; omega
        · have := d5 (by omega); omega
      clear b5 d5
      obtain ⟨x, hx⟩ := some_at hk
      obtain ⟨b, off, rfl, _, hbb, c0, c1, c2⟩ := sl.T3_at hx
      clear hx
      go_wp2_with fail
      clear c0 c1 c2
      have bT := Blk.new w5 65 #[.int .i64 x.num, .int .i64 x.beg, .int .i64 x.fin]
      have lbT : w.heap.size < w5.heap.size := h.lt
      replace sl := SlR.bel sl ((Below.refl _ _).alloc (Nat.le_refl _) (.cells #[.int .i64 x.num, .int .i64 x.beg, .int .i64 x.fin] 65))
      replace h := h.alloc (.cells #[.int .i64 x.num, .int .i64 x.beg, .int .i64 x.fin] 65)
      replace B := B.alloc (by omega) (.cells #[.int .i64 x.num, .int .i64 x.beg, .int .i64 x.fin] 65)
      have z6 : (w5.alloc (.cells #[.int .i64 x.num, .int .i64 x.beg, .int .i64 x.fin] 65)).heap.size = w5.heap.size + 1 := by simp
      generalize (w5.alloc (.cells #[.int .i64 x.num, .int .i64 x.beg, .int .i64 x.fin] 65)) = w6 at *
      replace z6 : w5.heap.size < w6.heap.size := by omega
      obtain ⟨d0, d1, d2⟩ := r3_cells bT
      have bTd : Blk w6.drew w5.heap.size 65 #[.int .i64 x.num, .int .i64 x.beg, .int .i64 x.fin] := bT
      have sld := sl.drew
      have Bd := B.drew
      have hd := h.drew
      go_region_held3 (fun w' => w'.cell? ⟨w5.heap.size, 0, none⟩ = some (.int .i64 x.num) ∧ w'.cell? ⟨w5.heap.size, 1, none⟩ = some (.int .i64 x.beg) ∧ w'.cell? ⟨w5.heap.size, 2, none⟩ = some (.int .i64 x.fin)) (first | exact ⟨d0, d1, d2⟩ | exact r3_cells bTd | exact r3_cells (bTd.alloc _) | exact r3_cells (bT.alloc _) | exact r3_cells bT9 | go_keep) (first
        | (go_at_call 92; (with_reducible refine (pick_any w.heap.size 4 [_, _, _, _] _ w6.drew hd rfl (by decide) (by decide) (by rfl)).mono ?_); rintro e w9 ⟨r9, rfl, _, h9, g9⟩; have bT9 := bTd.gr g9 lbT; have sl9 := SlR.gr sld g9 (by omega); have B9 := gr_to_below Bd g9 (by show _ ≤ w6.heap.size; omega) (by omega))
        | (go_at_call 92; (refine (pick_drew w.heap.size 4 [_, _, _, _] _ w6 h rfl (by decide) (by decide) (by rfl)).mono ?_); rintro e w9 ⟨r9, rfl, _, h9, g9⟩; have bT9 := bT.gr g9 lbT; have sl9 := SlR.gr sl g9 (by omega); have B9 := gr_to_below B g9 (by omega) (by omega)))
      all_goals go_wp2_with fail
      all_goals go_ret3
      all_goals exact ⟨_, cs, _, r9, rfl, sl9.more (by omega) (Nat.le_refl _), hl, B9⟩
    · replace e0 : (r4 == 0) = false := by simpa using e0
      go_wp2_with fail
      refine (pick_any w.heap.size 4 [_, _, _, _] _ w4 h rfl (by decide) (by decide) (by rfl)).mono ?_
      clear h
      rintro e w5 ⟨r5, rfl, m5, h, g5⟩
      clear m5
      have z5 := g5.size
      replace sl := sl.gr g5 (by omega)
      replace B := gr_to_below B g5 (by omega) (by omega)
      clear g5
      go_wp2_with fail
      go_ret3
      exact ⟨_, cs, n, r5, rfl, sl.more (by omega) (Nat.le_refl _), hl, B⟩
  · have h1 : ¬ (0 : Int) < (cs.length : Int) := by omega
    go_wp2_with fail
    refine (pick_any w.heap.size 4 [_, _, _, _] _ w3 h rfl (by decide) (by decide) (by rfl)).mono ?_
    clear h
    rintro e w4 ⟨r4, rfl, m4, h, g4⟩
    clear m4
    have z4 := g4.size
    replace sl := sl.gr g4 (by omega)
    replace B := gr_to_below B g4 (by omega) (by omega)
    clear g4
    go_wp2_with fail
    go_ret3
    exact ⟨_, cs, n, r4, rfl, sl.more (by omega) (Nat.le_refl _), hl, B⟩

set_option maxRecDepth 100000 in
set_option maxHeartbeats 4000000 in
theorem DrawRestedFrom_any (v : Value) (bs : List Int) (w : World) (hv : SlR u8s 1 w 0 w.heap.size v bs) (hb : ∀ b ∈ bs, 0 ≤ b ∧ b ≤ 255) :
    Calls Try.prog 59 #[v] w fun e w' => ∃ (u : Value) (cs : List T3) (n x : Int), e = .returned (.tuple #[u, .int .i64 n, .int .i64 x]) ∧ SlT3 w' w.heap.size w'.heap.size u cs ∧ cs.length ≤ 30 ∧ Below w.heap.size w w' := by
  go_enter Try.func59, Try.ntmps59
  go_wp2_with fail
  refine (l01From_any v bs w hv hb).mono ?_
  rintro e w1 ⟨rfl, h, B⟩
  have lg := h.lt
  go_wp2_with fail
  refine (DrawIsRested_any v bs w1 ((hv.below B (Nat.le_refl _)).more (Nat.le_refl _) (by omega)) hb).mono ?_
  rintro e w2 ⟨u, cs, n, x, rfl, sl, hl, hb'⟩
  replace h := h.below' hb'
  replace B := B.trans (hb'.mono (by omega))
  have zzw2 := hb'.size
  clear hb'
  obtain ⟨Au, cu, rfl, _, _⟩ := sl.form
  go_wp2_with fail
  refine (l01Next_any w.heap.size 16 w2 h).mono ?_
  clear h
  rintro e w3 ⟨r3, rfl, a3, b3, _, h, g3⟩
  replace b3 := b3 (by omega)
  have z3 := g3.size
  replace sl := sl.gr g3 (by omega)
  replace B := gr_to_below B g3 (by omega) (by omega)
  clear g3
  by_cases e0 : r3 = 0
  · subst e0
    go_wp2_with fail
    go_ret3
    have sN := rec_sl (f := T3.vals) (s := 3) (fun _ => rfl) w3 65 (cx := #[.int .i64 1, .int .i64 19000, .int .i64 19500]) (x := (⟨1, 19000, 19500⟩ : T3)) rfl
    exact ⟨_, [⟨1, 19000, 19500⟩], 1, 19200, rfl, sN.more (by omega) (by simp), by simp, B.alloc (by omega) _⟩
  replace e0 : (r3 == 0) = false := by simpa using e0
  go_wp2_with fail
  go_ret3
  exact ⟨_, cs, n, x, rfl, sl.more (by omega) (Nat.le_refl _), hl, B⟩

set_option maxRecDepth 100000 in
set_option maxHeartbeats 4000000 in
theorem DrawServingOn_any (v : Value) (bs : List Int) (w : World) (hv : SlR u8s 1 w 0 w.heap.size v bs) (hb : ∀ b ∈ bs, 0 ≤ b ∧ b ≤ 255) :
    Calls Try.prog 77 #[v] w fun e w' => ∃ (u : Value) (cs : List T3) (n : Int), e = .returned (.tuple #[u, .int .i64 n]) ∧ SlT3 w' w.heap.size w'.heap.size u cs ∧ cs.length ≤ 30 ∧ Below w.heap.size w w' := by
  go_enter Try.func77, Try.ntmps77
  go_wp2_with fail
  refine (DrawIsRested_any v bs w hv hb).mono ?_
  rintro e w2 ⟨u, cs, n, x, rfl, sl, hl, B⟩
  go_wp2_with fail
  go_ret2
  exact ⟨_, cs, x, rfl, sl, hl, B⟩

set_option maxRecDepth 100000 in
set_option maxHeartbeats 4000000 in
theorem DrawAddTerm_any (v : Value) (bs : List Int) (w : World) (hv : SlR u8s 1 w 0 w.heap.size v bs) (hb : ∀ b ∈ bs, 0 ≤ b ∧ b ≤ 255) :
    Calls Try.prog 65 #[v] w fun e w' => ∃ (u : Value) (cs : List T3) (t : T3), e = .returned (.tuple #[u, .agg #[.int .i64 t.num, .int .i64 t.beg, .int .i64 t.fin]]) ∧ SlT3 w' w.heap.size w'.heap.size u cs ∧ cs.length ≤ 30 ∧ Below w.heap.size w w' := by
  go_enter Try.func65, Try.ntmps65
  go_wp2_with fail
  have bR := Blk.new w 65 #[.int .i64 0, .int .i64 0, .int .i64 0]
  have B : Below w.heap.size w (w.alloc (.cells #[.int .i64 0, .int .i64 0, .int .i64 0] 65)) := (Below.refl _ _).alloc (Nat.le_refl _) _
  have hv0 := (hv.below B (Nat.le_refl _)).more (Nat.le_refl _) B.size
  have z0 : w.heap.size < (w.alloc (.cells #[.int .i64 0, .int .i64 0, .int .i64 0] 65)).heap.size := by simp
  generalize (w.alloc (.cells #[.int .i64 0, .int .i64 0, .int .i64 0] 65)) = w0 at *
  refine (l01From_any v bs w0 hv0 hb).mono ?_
  rintro e w1 ⟨rfl, h, hb1⟩
  replace bR := bR.below' hb1
  replace B := B.trans (hb1.mono (by omega))
  clear hb1 hv0
  generalize w0.heap.size = g at *
  have lg := h.lt
  have nR : some w.heap.size ≠ some g := by intro e; have := Option.some.inj e; omega
  go_wp2_with fail
  refine (l07List_any g w1 h).mono ?_
  clear h
  rintro e w2 ⟨u, cs, rfl, sl, hl, h, g2⟩
  have z2 := g2.size
  replace bR := bR.grown g2 nR
  replace B := gr_to_below B g2 (by omega) (by omega)
  clear g2
  have lo2 : g < w1.heap.size := lg
  obtain ⟨Au, cu, rfl, _, _⟩ := sl.form
  go_wp2_with fail
  refine (l07Draw_any g w2 h).mono ?_
  clear h
  rintro e w3 ⟨q0, q1, q2, rfl, h, g3⟩
  have z3 := g3.size
  replace bR := bR.grown g3 nR
  replace sl := sl.gr g3 (by omega)
  replace B := gr_to_below B g3 (by omega) (by omega)
  obtain ⟨c0, c1, c2⟩ := r3_cells bR
  obtain ⟨f0, f1, f2⟩ := r3_open bR
  go_wp2_with fail
  exact bodyPost_ret (v := .tuple #[.slice Au cs.length cu, .agg #[.int .i64 q0, .int .i64 q1, .int .i64 q2]]) (by simp [results, Try.results65, go_sem, c0, c1, c2]) rfl ⟨_, cs, ⟨q0, q1, q2⟩, rfl, (s3_sl sl (.inl (by omega)) _ _ _).more (by omega) (by rw [s3_size]; exact Nat.le_refl _), hl, s3_below B (Nat.le_refl _) _ _ _⟩

end Go.Proofs.Ytiflpihjffhfhaa
