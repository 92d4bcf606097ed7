/- What the laws draw for IsReplay. No condition. -/
import Derived.Test.YtfenedoalnieaaaDrawF
namespace Go.Proofs.Ytfenedoalnieaaa
open Go.RowKit
attribute [local go_sem ↓] Go.wp_at_zero Go.wp_at_succ

theorem next_le {m n : Nat} (b : (1 : Int) < (n : Int) + 1 → (m : Int) < (n : Int) + 1) (e : (n : Int) + 1 ≤ 1 → (m : Int) = 0) : m ≤ n := by
  by_cases h1 : (1 : Int) < (n : Int) + 1
  · have := b h1
    omega
  · have := e (by omega)
    omega

set_option maxRecDepth 100000 in
set_option maxHeartbeats 8000000 in
theorem DrawIsReplay_any (v : Value) (bs : List Int) (w : World) (h : SlR u8s 1 w 0 w.heap.size v bs) (hb : ∀ b ∈ bs, 0 ≤ b ∧ b ≤ 255) :
    Calls Try.prog 40 #[v] w fun e w' => ∃ vn vd p k, e = .returned (.tuple #[.agg #[vn, vd, .int .i64 (P3.st p)], .int .i64 k]) ∧ SlI w' w.heap.size w'.heap.size vn p.nums ∧ SlI w' w.heap.size w'.heap.size vd p.drawn ∧ p.nums.length ≤ 100 ∧ p.drawn.length ≤ 100 ∧ Below w.heap.size w w' := by
  go_enter Try.func40, Try.ntmps40
  go_wp2_with fail
  have bR := Blk.new w 27 #[.slice none 0 0, .slice none 0 0, .int .i64 0]
  have hB1 : Below w.heap.size w (w.alloc (.cells #[.slice none 0 0, .slice none 0 0, .int .i64 0] 27)) := (Below.refl _ _).alloc (Nat.le_refl _) _
  have hv1 := (h.below hB1 (Nat.le_refl _)).more (Nat.le_refl _) hB1.size
  generalize (w.alloc (.cells #[.slice none 0 0, .slice none 0 0, .int .i64 0] 27)) = w1 at *
  have z1 := hB1.size
  have lR := bR.lt
  refine (l01From_any v bs w1 hv1 hb).mono ?_
  rintro e w2 ⟨rfl, h2, hb2⟩
  have bR := bR.below' hb2
  have hB2 := hB1.trans (hb2.mono z1)
  have z2 := hb2.size
  have lg2 := h2.lt
  generalize hg : w1.heap.size = g at *
  go_wp2_with fail
  refine (l08Good_any g w2 h2).mono ?_
  rintro e w3 ⟨vn, vd, p, rfl, rn, rd, hl1, hl2, hgd, h3, g3⟩
  obtain ⟨Xn, kn, rfl, _, _⟩ := rn.form
  obtain ⟨Xd, kd, rfl, _, _⟩ := rd.form
  have ngR : some w.heap.size ≠ some g := by intro e; have := Option.some.inj e; omega
  have bR := bR.grown g3 ngR
  have hB3 := gr_to_below hB2 g3 (by omega) (by omega)
  have z3 := g3.size
  go_wp2_with fail
  have bP := Blk.new w3 27 #[.slice Xn p.nums.length kn, .slice Xd p.drawn.length kd, .int .i64 p.st]
  have bR := bR.alloc (.cells #[.slice Xn p.nums.length kn, .slice Xd p.drawn.length kd, .int .i64 p.st] 27)
  have h4 := h3.alloc (.cells #[.slice Xn p.nums.length kn, .slice Xd p.drawn.length kd, .int .i64 p.st] 27)
  have hB4 := hB3.alloc hB3.size (.cells #[.slice Xn p.nums.length kn, .slice Xd p.drawn.length kd, .int .i64 p.st] 27)
  have rn := rn.alloc (Nat.le_refl _) (.cells #[.slice Xn p.nums.length kn, .slice Xd p.drawn.length kd, .int .i64 p.st] 27)
  have rd := rd.alloc (Nat.le_refl _) (.cells #[.slice Xn p.nums.length kn, .slice Xd p.drawn.length kd, .int .i64 p.st] 27)
  have hz4 : w3.heap.size + 1 ≤ (w3.alloc (.cells #[.slice Xn p.nums.length kn, .slice Xd p.drawn.length kd, .int .i64 p.st] 27)).heap.size := by simp
  have lgP : g < w3.heap.size := h3.lt
  generalize (w3.alloc (.cells #[.slice Xn p.nums.length kn, .slice Xd p.drawn.length kd, .int .i64 p.st] 27)) = w4 at *
  refine (l01Next_any g 2000000000 w4 h4).mono ?_
  rintro e w5 ⟨r5, rfl, a5, b5, _, h5, g5⟩
  have b5 := b5 (by omega)
  have bP := bP.grown g5 (ne_src lgP)
  have bR := bR.grown g5 ngR
  have z5 := g5.size
  have rn := rn.grown g5 (by omega) (fun k hk => by have := Option.some.inj hk; omega)
  have rd := rd.grown g5 (by omega) (fun k hk => by have := Option.some.inj hk; omega)
  have hB5 := gr_to_below hB4 g5 (by have := hB4.size; omega) (by omega)
  go_wp2_with fail
  refine (l01Next_any g 3 w5 h5).mono ?_
  rintro e wT ⟨r6, rfl, a6, b6, _, hsT, g6⟩
  have b6 := b6 (by omega)
  have bPT := bP.grown g6 (ne_src lgP)
  have bRT := bR.grown g6 ngR
  have z6 := g6.size
  have qnT := rn.grown g6 (by omega) (fun k hk => by have := Option.some.inj hk; omega)
  have qdT := rd.grown g6 (by omega) (fun k hk => by have := Option.some.inj hk; omega)
  have hBT := gr_to_below hB5 g6 (by have := hB5.size; omega) (by omega)
  clear g3 g5 g6 h2 h3 h4 h5 hB1 hB2 hB3 hB4 hB5 bP bR rn rd
  have zBT := hBT.size
  by_cases hq : 0 < r6
  · have hdq : decide (0 < r6) = true := decide_eq_true hq
    clear hq
    obtain ⟨d0, d1, d2⟩ := p3_cells bPT
    go_wp2_with fail
    have bT := Blk.new wT 27 #[.slice Xn p.nums.length kn, .slice none 0 0, .int .i64 (1 + r5)]
    have bP7 := bPT.alloc (.cells #[.slice Xn p.nums.length kn, .slice none 0 0, .int .i64 (1 + r5)] 27)
    have bR7 := bRT.alloc (.cells #[.slice Xn p.nums.length kn, .slice none 0 0, .int .i64 (1 + r5)] 27)
    have h7 := hsT.alloc (.cells #[.slice Xn p.nums.length kn, .slice none 0 0, .int .i64 (1 + r5)] 27)
    have hB7 := hBT.alloc hBT.size (.cells #[.slice Xn p.nums.length kn, .slice none 0 0, .int .i64 (1 + r5)] 27)
    have qn7 := qnT.alloc (by omega) (.cells #[.slice Xn p.nums.length kn, .slice none 0 0, .int .i64 (1 + r5)] 27)
    have hz7 : wT.heap.size + 1 ≤ (wT.alloc (.cells #[.slice Xn p.nums.length kn, .slice none 0 0, .int .i64 (1 + r5)] 27)).heap.size := by simp
    have lgT : g < wT.heap.size := hsT.lt
    clear d0 d1 d2
    generalize (wT.alloc (.cells #[.slice Xn p.nums.length kn, .slice none 0 0, .int .i64 (1 + r5)] 27)) = w7 at *
    have lP7 := bPT.lt
    have nTP : wT.heap.size ≠ w3.heap.size := by omega
    have nPT : w3.heap.size ≠ wT.heap.size := by omega
    have nRP : w.heap.size ≠ w3.heap.size := by omega
    have bT7 : Blk w7.drew wT.heap.size 27 #[.slice Xn p.nums.length kn, .slice none 0 0, .int .i64 (1 + r5)] := bT
    have bPd : Blk w7.drew w3.heap.size 27 #[.slice Xn p.nums.length kn, .slice Xd p.drawn.length kd, .int .i64 p.st] := bP7
    have bRd : Blk w7.drew w.heap.size 27 #[.slice none 0 0, .slice none 0 0, .int .i64 0] := bR7
    have hwr : IntKind.i64.wrap ((p.nums.length : Int) + 1) = (p.nums.length : Int) + 1 := IntWalk.i64_in _ (by omega)
    have C1 := l01Next_any g (IntKind.i64.wrap ((p.nums.length : Int) + 1)) w7.drew h7.drew
    have Hwr := Lib.hid hwr
    clear hwr
    have hzd : w7.drew.heap.size = w7.heap.size := rfl
    obtain ⟨t0, t1, t2⟩ := p3_cells bT
    have o0 : w7.drew.cell? ⟨w3.heap.size, 0, none⟩ = some (.slice Xn p.nums.length kn) := (p3_cells bPd).1
    have o0' : w7.cell? ⟨w3.heap.size, 0, none⟩ = some (.slice Xn p.nums.length kn) := (p3_cells bP7).1
    have qnd : SlR i64s 1 w7.drew w2.heap.size w3.heap.size (.slice Xn p.nums.length kn) p.nums := qn7.drew
    have hnd := Lib.hid hgd.1
    have hl6 := hgd.2
    try refine region_np ?_
    go_region_with (first
      | (go_at_call 69; (with_reducible refine C1.mono ?_); rintro e w8 ⟨r8, rfl, a8, b8, e8, h8, g8⟩; obtain ⟨m8, rfl⟩ : ∃ m : Nat, r8 = (m : Int) := ⟨r8.toNat, by omega⟩; rw [Hwr.out] at b8 e8; have hm8 := next_le b8 e8; have bT8 := bT7.grown g8 (ne_src lgT); have y0 := bT8.cell 0; have y1 := bT8.cell 1; have y2 := bT8.cell 2; have bP8 := bPd.grown g8 (ne_src lgP); have bR8 := bRd.grown g8 ngR; have qn8 := qnd.grown g8 (by omega) (fun k hk => by have := Option.some.inj hk; omega); have z8 := g8.size; clear b8 e8)
      | (go_at_call 62; have C2 := l08Draw_any (.slice Xn p.nums.length kn) (.slice none 0 0) ⟨p.nums, [], 1 + r5⟩ m8 w8 w2.heap.size 0 (qn8.more (Nat.le_refl _) (by omega)) (slI_nil _ _ _) hnd.out (by show m8 ≤ (leftOf p.nums []).length; rw [leftOf_nil]; exact hm8) ⟨by show 0 ≤ 1 + r5; omega, by show 1 + r5 ≤ 2147483646; omega⟩ hl6 (Nat.zero_le _); dsimp only at C2; (with_reducible refine C2.mono ?_); rintro e w9 ⟨xn, xd, xo, rfl, on9, od9, _, hb9⟩; obtain ⟨Zn, zn, rfl, _, _⟩ := on9.form; obtain ⟨Zd, zd, rfl, _, _⟩ := od9.form; have bT9 := bT8.below' hb9; have bP9 := bP8.below' hb9; have bR9 := bR8.below' hb9; have h9' := h8.below' hb9; have fp0 := bP9.frozen 0; have fp1 := bP9.frozen 1; have fp2 := bP9.frozen 2; have cp0 := bP9.cell 0; have cp1 := bP9.cell 1; have cp2 := bP9.cell 2; have z9 := hb9.size))
    all_goals
      have hdl := drawGo_len p.nums m8 [] (1 + r5)
      generalize drawGo p.nums m8 [] (1 + r5) = q at *
      have hB8 := gr_to_below hB7.drew g8 (by have := hB7.size; omega) (by omega)
      have hB9 := hB8.trans (hb9.mono (by have := hB8.size; omega))
      have bPT' := set3_own bP9 (.slice Zn p.nums.length zn) (.slice Zd q.1.length zd) (.int .i64 q.2)
      have bRT' := set3_blk bR9 nRP (.slice Zn p.nums.length zn) (.slice Zd q.1.length zd) (.int .i64 q.2)
      have hsT' := set3_src h9' lgP (.slice Zn p.nums.length zn) (.slice Zd q.1.length zd) (.int .i64 q.2)
      have qnT' := set3_sl on9 (R := w3.heap.size) (.inl (by omega)) (.slice Zn p.nums.length zn) (.slice Zd q.1.length zd) (.int .i64 q.2)
      have qdT' := set3_sl od9 (R := w3.heap.size) (.inl (by omega)) (.slice Zn p.nums.length zn) (.slice Zd q.1.length zd) (.int .i64 q.2)
      have hBT' : Below w.heap.size w (((w9.setCell ⟨w3.heap.size, 0, none⟩ (.slice Zn p.nums.length zn)).setCell ⟨w3.heap.size, 1, none⟩ (.slice Zd q.1.length zd)).setCell ⟨w3.heap.size, 2, none⟩ (.int .i64 q.2)) := Below.setCell (Below.setCell (Below.setCell hB9 (show w.heap.size ≤ w3.heap.size by omega) _) (show w.heap.size ≤ w3.heap.size by omega) _) (show w.heap.size ≤ w3.heap.size by omega) _
      have zT' := set3_size w9 w3.heap.size (.slice Zn p.nums.length zn) (.slice Zd q.1.length zd) (.int .i64 q.2)
      have hl3 : q.1.length ≤ 100 := by rw [hdl]; show 0 + m8 ≤ 100; omega
      have HDL := Lib.hid hdl
      clear hdl hsT bPT bRT qnT qdT hBT t0 t1 t2 o0 o0' fp0 fp1 fp2 cp0 cp1 cp2 y0 y1 y2 C1 g8 hb9 bT9 bP9 bR9 h9' on9 od9
      go_wp2_with fail
      generalize (((w9.setCell ⟨w3.heap.size, 0, none⟩ (.slice Zn p.nums.length zn)).setCell ⟨w3.heap.size, 1, none⟩ (.slice Zd q.1.length zd)).setCell ⟨w3.heap.size, 2, none⟩ (.int .i64 q.2)) = wX at *
      have bPT := bPT'
      have bRT := bRT'
      have qnT := qnT'
      have qdT := qdT'
      have hBT := hBT'
      have zwT : wX.heap.size = w9.heap.size := zT'
      clear zT'
      have HZ := Lib.hid zwT
      have zX : w9.heap.size ≤ wX.heap.size := by omega
      clear zwT bPT' bRT' qnT' qdT' hBT'
      refine (l01Next_any g 16 wX hsT').mono ?_
      rintro e wU ⟨r9, rfl, a9, b9, _, h9, g9⟩
      have b9 := b9 (by omega)
      have zU := g9.size
      have bPU := bPT.grown g9 (ne_src lgP)
      have bRU := bRT.grown g9 ngR
      have qnU := qnT.grown g9 (by omega) (fun k hk => by have := Option.some.inj hk; omega)
      have qdU := qdT.grown g9 (by omega) (fun k hk => by have := Option.some.inj hk; omega)
      have hBU := gr_to_below hBT g9 (by have := hBT.size; omega) (by omega)
      have zBU := hBU.size
      by_cases h0 : r9 = 0
      · have hd0 : (r9 == 0) = true := by simpa using h0
        clear h0
        go_wp2_with fail
        refine (l08Pool_any g wU h9).mono ?_
        rintro e wV ⟨vn2, vd2, p2, rfl, sn, sd, hm1, hm2, _, hV, gV⟩
        obtain ⟨Yn, yn, rfl, _, _⟩ := sn.form
        obtain ⟨Yd, yd, rfl, _, _⟩ := sd.form
        have bRV := bRU.grown gV ngR
        have hBV := gr_to_below hBU gV (by omega) (by omega)
        have zV := gV.size
        go_wp2_with fail
        refine (l03State_any g wV hV).mono ?_
        rintro e wW ⟨rW, rfl, hW, gW⟩
        have bRW := bRV.grown gW ngR
        have hBW := gr_to_below hBV gW (by omega) (by omega)
        have zW := gW.size
        have lgU := h9.lt
        have sn := sn.grown gW (Nat.le_refl _) (fun k hk => by have := Option.some.inj hk; omega)
        have sd := sd.grown gW (Nat.le_refl _) (fun k hk => by have := Option.some.inj hk; omega)
        obtain ⟨c0, c1, c2'⟩ := p3_cells bRW
        obtain ⟨f0, f1, f2⟩ := p3_open bRW
        have E := p3_store (p := p2) (R := w.heap.size) sn sd hBW (by omega) (by omega) (Nat.le_refl _) (by omega) (by omega)
        go_wp2_with fail
        exact bodyPost_ret (v := .tuple #[.agg #[.slice Yn p2.nums.length yn, .slice Yd p2.drawn.length yd, .int .i64 p2.st], .int .i64 rW]) (by simp [results, Try.results40, go_sem, c0, c1, c2']) rfl ⟨_, _, p2, rW, rfl, (E _ _ _).1, (E _ _ _).2.1, hm1, hm2, (E _ _ _).2.2⟩
      · have hd0 : (r9 == 0) = false := by simpa using h0
        clear h0
        obtain ⟨d0, d1, d2⟩ := p3_cells bPU
        obtain ⟨c0, c1, c2'⟩ := p3_cells bRU
        obtain ⟨f0, f1, f2⟩ := p3_open bRU
        have E := p3_store (p := ⟨p.nums, q.1, q.2⟩) (R := w.heap.size) qnU qdU hBU (by omega) (by omega) (Nat.le_refl _) (by omega) (by omega)
        go_wp2_with fail
        exact bodyPost_ret (v := .tuple #[.agg #[.slice Zn p.nums.length zn, .slice Zd q.1.length zd, .int .i64 q.2], .int .i64 (1 + r5)]) (by simp [results, Try.results40, go_sem, c0, c1, c2']) rfl ⟨_, _, ⟨p.nums, q.1, q.2⟩, 1 + r5, rfl, (E _ _ _).1, (E _ _ _).2.1, hl1, hl3, (E _ _ _).2.2⟩
  · have hdq : decide (0 < r6) = false := decide_eq_false hq
    clear hq
    go_wp2_with fail
    refine (l01Next_any g 16 wT hsT).mono ?_
    rintro e wU ⟨r9, rfl, a9, b9, _, h9, g9⟩
    have b9 := b9 (by omega)
    have zU := g9.size
    have bPU := bPT.grown g9 (ne_src lgP)
    have bRU := bRT.grown g9 ngR
    have qnU := qnT.grown g9 (by omega) (fun k hk => by have := Option.some.inj hk; omega)
    have qdU := qdT.grown g9 (by omega) (fun k hk => by have := Option.some.inj hk; omega)
    have hBU := gr_to_below hBT g9 (by have := hBT.size; omega) (by omega)
    have zBU := hBU.size
    by_cases h0 : r9 = 0
    · have hd0 : (r9 == 0) = true := by simpa using h0
      clear h0
      go_wp2_with fail
      refine (l08Pool_any g wU h9).mono ?_
      rintro e wV ⟨vn2, vd2, p2, rfl, sn, sd, hm1, hm2, _, hV, gV⟩
      obtain ⟨Yn, yn, rfl, _, _⟩ := sn.form
      obtain ⟨Yd, yd, rfl, _, _⟩ := sd.form
      have bRV := bRU.grown gV ngR
      have hBV := gr_to_below hBU gV (by omega) (by omega)
      have zV := gV.size
      go_wp2_with fail
      refine (l03State_any g wV hV).mono ?_
      rintro e wW ⟨rW, rfl, hW, gW⟩
      have bRW := bRV.grown gW ngR
      have hBW := gr_to_below hBV gW (by omega) (by omega)
      have zW := gW.size
      have lgU := h9.lt
      have sn := sn.grown gW (Nat.le_refl _) (fun k hk => by have := Option.some.inj hk; omega)
      have sd := sd.grown gW (Nat.le_refl _) (fun k hk => by have := Option.some.inj hk; omega)
      obtain ⟨c0, c1, c2'⟩ := p3_cells bRW
      obtain ⟨f0, f1, f2⟩ := p3_open bRW
      have E := p3_store (p := p2) (R := w.heap.size) sn sd hBW (by omega) (by omega) (Nat.le_refl _) (by omega) (by omega)
      go_wp2_with fail
      exact bodyPost_ret (v := .tuple #[.agg #[.slice Yn p2.nums.length yn, .slice Yd p2.drawn.length yd, .int .i64 p2.st], .int .i64 rW]) (by simp [results, Try.results40, go_sem, c0, c1, c2']) rfl ⟨_, _, p2, rW, rfl, (E _ _ _).1, (E _ _ _).2.1, hm1, hm2, (E _ _ _).2.2⟩
    · have hd0 : (r9 == 0) = false := by simpa using h0
      clear h0
      obtain ⟨d0, d1, d2⟩ := p3_cells bPU
      obtain ⟨c0, c1, c2'⟩ := p3_cells bRU
      obtain ⟨f0, f1, f2⟩ := p3_open bRU
      have E := p3_store (p := p) (R := w.heap.size) qnU qdU hBU (by omega) (by omega) (Nat.le_refl _) (by omega) (by omega)
      go_wp2_with fail
      exact bodyPost_ret (v := .tuple #[.agg #[.slice Xn p.nums.length kn, .slice Xd p.drawn.length kd, .int .i64 p.st], .int .i64 (1 + r5)]) (by simp [results, Try.results40, go_sem, c0, c1, c2']) rfl ⟨_, _, p, 1 + r5, rfl, (E _ _ _).1, (E _ _ _).2.1, hl1, hl2, (E _ _ _).2.2⟩
end Go.Proofs.Ytfenedoalnieaaa
