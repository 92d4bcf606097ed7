/- What the laws draw for MakePool, PutBack, IsReplay. No condition. -/
import Derived.Test.YtfenedoalnieaaaDrawE
import Derived.IntWalk
namespace Go.Proofs.Ytfenedoalnieaaa
open Go.RowKit
attribute [local go_sem ↓] Go.wp_at_zero Go.wp_at_succ

set_option maxRecDepth 100000 in
set_option maxHeartbeats 4000000 in
theorem DrawMakePool_any (v : Value) (bs : List Int) (w : World) (h : SlR u8s 1 w 0 w.heap.size v bs) (hb : ∀ b ∈ bs, 0 ≤ b ∧ b ≤ 255) :
    Calls Try.prog 41 #[v] w fun e w' => ∃ vn ns k, e = .returned (.tuple #[vn, .int .i64 k]) ∧ SlI w' w.heap.size w'.heap.size vn ns ∧ ns.length ≤ 100 ∧ Below w.heap.size w w' := by
  go_enter Try.func41, Try.ntmps41
  go_wp2_with fail
  refine (l01From_any v bs w h hb).mono ?_
  rintro e w2 ⟨rfl, h2, hB2⟩
  have z2 := hB2.size
  have lg2 := h2.lt
  go_wp2_with fail
  refine (l08Pool_any w.heap.size w2 h2).mono ?_
  rintro e w3 ⟨vn, vd, p, rfl, rn, rd, hl1, hl2, _, h3, g3⟩
  obtain ⟨Xn, kn, rfl, _, _⟩ := rn.form
  obtain ⟨Xd, kd, rfl, _, _⟩ := rd.form
  have hB3 := gr_to_below hB2 g3 (by omega) (by omega)
  have z3 := g3.size
  go_wp2_with fail
  have bP := Blk.new w3 27 #[.slice Xn p.nums.length kn, .slice Xd p.drawn.length kd, .int .i64 p.st]
  have h4 := h3.alloc (.cells #[.slice Xn p.nums.length kn, .slice Xd p.drawn.length kd, .int .i64 p.st] 27)
  have hB4 := hB3.alloc hB3.size (.cells #[.slice Xn p.nums.length kn, .slice Xd p.drawn.length kd, .int .i64 p.st] 27)
  have rn := rn.alloc (Nat.le_refl _) (.cells #[.slice Xn p.nums.length kn, .slice Xd p.drawn.length kd, .int .i64 p.st] 27)
  have hz4 : w3.heap.size ≤ (w3.alloc (.cells #[.slice Xn p.nums.length kn, .slice Xd p.drawn.length kd, .int .i64 p.st] 27)).heap.size := by simp
  have lgP : w.heap.size < w3.heap.size := h3.lt
  generalize (w3.alloc (.cells #[.slice Xn p.nums.length kn, .slice Xd p.drawn.length kd, .int .i64 p.st] 27)) = w4 at *
  have bP4 : Blk w4.drew w3.heap.size 27 #[.slice Xn p.nums.length kn, .slice Xd p.drawn.length kd, .int .i64 p.st] := bP
  have C1 := l03State_any w.heap.size w4.drew h4.drew
  have d0 := (p3_cells bP).1
  try refine region_np ?_
  go_region_held3 (fun w' => w'.cell? ⟨w3.heap.size, 0, none⟩ = some (.slice Xn p.nums.length kn)) (first | exact d0 | exact (p3_cells bP4).1 | exact (p3_cells bP7).1 | go_keep) (first
    | (go_at_call 71; (with_reducible refine C1.mono ?_); rintro e w7 ⟨r7, rfl, h7, g7⟩; have bP7 := bP4.grown g7 (ne_src lgP)))
  have hzd : w4.drew.heap.size = w4.heap.size := rfl
  have z7 := g7.size
  have rn7 := rn.drew.grown g7 (by omega) (fun k hk => by have := Option.some.inj hk; omega)
  have hB7 := gr_to_below hB4.drew g7 (by omega) (by omega)
  go_wp2_with fail
  go_ret2
  exact ⟨_, p.nums, r7, rfl, rn7.more (by omega) (by omega), hl1, hB7⟩

set_option maxRecDepth 100000 in
set_option maxHeartbeats 4000000 in
theorem DrawPutBack_any (v : Value) (bs : List Int) (w : World) (h : SlR u8s 1 w 0 w.heap.size v bs) (hb : ∀ b ∈ bs, 0 ≤ b ∧ b ≤ 255) :
    Calls Try.prog 42 #[v] w fun e w' => ∃ vn vd p vo ns, e = .returned (.tuple #[.agg #[vn, vd, .int .i64 (P3.st p)], vo]) ∧ SlI w' w.heap.size w'.heap.size vn p.nums ∧ SlI w' w.heap.size w'.heap.size vd p.drawn ∧ SlI w' w.heap.size w'.heap.size vo ns ∧ p.nums.length ≤ 100 ∧ p.drawn.length ≤ 100 ∧ ns.length ≤ 101 ∧ Below w.heap.size w w' := by
  go_enter Try.func42, Try.ntmps42
  go_wp2_with fail
  have bR := Blk.new w 27 #[.slice none 0 0, .slice none 0 0, .int .i64 0]
  have hB1 : Below w.heap.size w (w.alloc (.cells #[.slice none 0 0, .slice none 0 0, .int .i64 0] 27)) := (Below.refl _ _).alloc (Nat.le_refl _) _
  have hv1 := (h.below hB1 (Nat.le_refl _)).more (Nat.le_refl _) hB1.size
  generalize (w.alloc (.cells #[.slice none 0 0, .slice none 0 0, .int .i64 0] 27)) = w1 at *
  have z1 := hB1.size
  have lR := bR.lt
  refine (l01From_any v bs w1 hv1 hb).mono ?_
  rintro e w2 ⟨rfl, h2, hb2⟩
  have bR := bR.below' hb2
  have hB2 := hB1.trans (hb2.mono z1)
  have z2 := hb2.size
  have lg2 := h2.lt
  generalize hg : w1.heap.size = g at *
  go_wp2_with fail
  refine (l08Pool_any g w2 h2).mono ?_
  rintro e w3 ⟨vn, vd, p, rfl, rn, rd, hl1, hl2, _, h3, g3⟩
  obtain ⟨Xn, kn, rfl, _, _⟩ := rn.form
  obtain ⟨Xd, kd, rfl, _, _⟩ := rd.form
  have ngR : some w.heap.size ≠ some g := by intro e; have := Option.some.inj e; omega
  have bR := bR.grown g3 ngR
  have hB3 := gr_to_below hB2 g3 (by omega) (by omega)
  have z3 := g3.size
  go_wp2_with fail
  have bP := (Blk.new w3 27 #[.slice Xn p.nums.length kn, .slice Xd p.drawn.length kd, .int .i64 p.st]).alloc (.cells #[] 2)
  have bR := (bR.alloc (.cells #[.slice Xn p.nums.length kn, .slice Xd p.drawn.length kd, .int .i64 p.st] 27)).alloc (.cells #[] 2)
  have h4 := (h3.alloc (.cells #[.slice Xn p.nums.length kn, .slice Xd p.drawn.length kd, .int .i64 p.st] 27)).alloc (.cells #[] 2)
  have ha : (w3.alloc (.cells #[.slice Xn p.nums.length kn, .slice Xd p.drawn.length kd, .int .i64 p.st] 27)).heap.size = w3.heap.size + 1 := by simp
  have hB4 := (hB3.alloc hB3.size (.cells #[.slice Xn p.nums.length kn, .slice Xd p.drawn.length kd, .int .i64 p.st] 27)).alloc (by have := hB3.size; omega) (.cells #[] 2)
  have rn := (rn.alloc (Nat.le_refl _) (.cells #[.slice Xn p.nums.length kn, .slice Xd p.drawn.length kd, .int .i64 p.st] 27)).alloc (by omega) (.cells #[] 2)
  have rd := (rd.alloc (Nat.le_refl _) (.cells #[.slice Xn p.nums.length kn, .slice Xd p.drawn.length kd, .int .i64 p.st] 27)).alloc (by omega) (.cells #[] 2)
  have oE := own_empty (w3.alloc (.cells #[.slice Xn p.nums.length kn, .slice Xd p.drawn.length kd, .int .i64 p.st] 27)) 2 1 i64s
  have hz4 : ((w3.alloc (.cells #[.slice Xn p.nums.length kn, .slice Xd p.drawn.length kd, .int .i64 p.st] 27)).alloc (.cells #[] 2)).heap.size = w3.heap.size + 1 + 1 := by simp
  rw [ha] at oE
  have lgP : g < w3.heap.size := h3.lt
  clear ha
  generalize ((w3.alloc (.cells #[.slice Xn p.nums.length kn, .slice Xd p.drawn.length kd, .int .i64 p.st] 27)).alloc (.cells #[] 2)) = w4 at *
  have hz4' : w3.heap.size + 1 ≤ w4.heap.size := by omega
  clear hz4
  have nRP : w.heap.size ≠ w3.heap.size := by omega
  go_loopw [6, 7] (fun q i wr => ∃ (k : Nat) (xs : List Int), i = .int .i64 k ∧ k ≤ p.drawn.length ∧ xs.length ≤ k ∧ OwnR i64s 1 wr (w3.heap.size + 1) 2 q xs ∧ Blk wr w3.heap.size 27 #[.slice Xn p.nums.length kn, .slice Xd p.drawn.length kd, .int .i64 p.st] ∧ Blk wr w.heap.size 27 #[.slice none 0 0, .slice none 0 0, .int .i64 0] ∧ Src wr g ∧ SlI wr w2.heap.size w3.heap.size (.slice Xn p.nums.length kn) p.nums ∧ SlI wr w2.heap.size w3.heap.size (.slice Xd p.drawn.length kd) p.drawn ∧ Below w.heap.size w wr ∧ w3.heap.size + 1 ≤ wr.heap.size) (fun q i wr => p.drawn.length - (intOf i).toNat)
  case atStart => exact ⟨0, [], rfl, Nat.zero_le _, Nat.zero_le _, oE, bP, bR, h4, rn, rd, hB4, hz4'⟩
  case round =>
    obtain ⟨k, xs, rfl, hk, hxl, oq, bP, bR, hs, rn, rd, hB, zr⟩ := hrel
    obtain ⟨AQ, cQ, rfl, hcQ1, hcQ2, _⟩ := own_form (OwnR.own oq)
    obtain ⟨d0, d1, d2⟩ := p3_cells bP
    by_cases hlt : k < p.drawn.length
    · obtain ⟨x, hx⟩ := some_at hlt
      go_wp2_with fail
      refine (l01Next_any g 2 wr hs).mono ?_
      rintro e w5 ⟨r5, rfl, a5, b5, _, h5, g5⟩
      have b5 := b5 (by omega)
      have z5 := g5.size
      have bP5 := bP.grown g5 (ne_src lgP)
      have bR5 := bR.grown g5 ngR
      have oq5 := oq.grown g5 (fun k hk => by have := Option.some.inj hk; omega)
      have rn5 := rn.grown g5 (by omega) (fun k hk => by have := Option.some.inj hk; omega)
      have rd5 := rd.grown g5 (by omega) (fun k hk => by have := Option.some.inj hk; omega)
      have hB5 := gr_to_below hB g5 (by have := hB.size; omega) (by omega)
      clear d0 d1 d2
      obtain ⟨d0, d1, d2⟩ := p3_cells bP5
      obtain ⟨b, off, rfl, _, hbb, e0⟩ := rd5.int_at hx
      have hbb5 : b < w5.heap.size := by omega
      clear hx
      by_cases h0 : r5 = 0
      · have hd0 : (r5 == 0) = true := by simpa using h0
        clear h0
        go_wp2_with (at_builtin; refine wpList_append_rec (f := i64s) (s := 1) 2 _ _ (fun _ => rfl) i64s_one rfl _ _ 22 rfl (w3.heap.size + 1) Try.infoI Try.underlying22 rfl (by decide) _ _ x rfl oq5 rfl rfl rfl (by omega) (by omega) (by omega) ?_)
        intro v6 w6 o6 hb6
        have hB6 := hb6 (w3.heap.size + 1) w5 (Below.refl _ _) (Nat.le_refl _)
        have z6 := hB6.size
        have bP6 := bP5.below hB6 (by omega)
        have bR6 := bR5.below hB6 (by omega)
        have h6 := h5.below hB6 (by omega)
        have rn6 := rn5.below hB6 (by omega)
        have rd6 := rd5.below hB6 (by omega)
        have hBB := hB5.trans (hB6.mono (by omega))
        go_wp2_with fail
        go_roundw
        case rel => exact ⟨k + 1, xs ++ [x], by go_num, hlt, by rw [List.length_append]; exact Nat.add_le_add_right hxl 1, o6, bP6, bR6, h6, rn6, rd6, hBB, by omega⟩
        case measure => simp [intOf]; omega
      · have hd0 : (r5 == 0) = false := by simpa using h0
        clear h0
        go_wp2_with fail
        go_roundw
        case rel => exact ⟨k + 1, xs, by go_num, hlt, by omega, oq5, bP5, bR5, h5, rn5, rd5, hB5, by omega⟩
        case measure => simp [intOf]; omega
    · have hkn : k = p.drawn.length := by omega
      go_wp2_with fail
      refine (l01Next_any g 8 wr hs).mono ?_
      rintro e w5 ⟨r5, rfl, a5, b5, _, h5, g5⟩
      have b5 := b5 (by omega)
      have z5 := g5.size
      have bP5 := bP.grown g5 (ne_src lgP)
      have bR5 := bR.grown g5 ngR
      have oq5 := oq.grown g5 (fun k hk => by have := Option.some.inj hk; omega)
      have rn5 := rn.grown g5 (by omega) (fun k hk => by have := Option.some.inj hk; omega)
      have rd5 := rd.grown g5 (by omega) (fun k hk => by have := Option.some.inj hk; omega)
      have hB5 := gr_to_below hB g5 (by have := hB.size; omega) (by omega)
      clear d0 d1 d2
      by_cases h0 : r5 = 0
      · have hd0 : (r5 == 0) = true := by simpa using h0
        clear h0
        go_wp2_with fail
        refine (l01Next_any g 20 w5 h5).mono ?_
        rintro e w6 ⟨r6, rfl, a6, b6, _, h6, g6⟩
        have b6 := b6 (by omega)
        have z6 := g6.size
        have bP6 := bP5.grown g6 (ne_src lgP)
        have bR6 := bR5.grown g6 ngR
        have oq6 := oq5.grown g6 (fun k hk => by have := Option.some.inj hk; omega)
        have rn6 := rn5.grown g6 (by omega) (fun k hk => by have := Option.some.inj hk; omega)
        have rd6 := rd5.grown g6 (by omega) (fun k hk => by have := Option.some.inj hk; omega)
        have hB6 := gr_to_below hB5 g6 (by have := hB5.size; omega) (by omega)
        go_wp2_with (at_builtin; refine wpList_append_rec (f := i64s) (s := 1) 2 _ _ (fun _ => rfl) i64s_one rfl _ _ 22 rfl (w3.heap.size + 1) Try.infoI Try.underlying22 rfl (by decide) _ _ (1 + r6) rfl oq6 rfl rfl rfl (by omega) (by omega) (by omega) ?_)
        intro v7 w7 o7 hb7
        have hB7 := hb7 (w3.heap.size + 1) w6 (Below.refl _ _) (Nat.le_refl _)
        have z7 := hB7.size
        have bP7 := bP6.below hB7 (by omega)
        have bR7 := bR6.below hB7 (by omega)
        have rn7 := rn6.below hB7 (by omega)
        have rd7 := rd6.below hB7 (by omega)
        have hBB := hB6.trans (hB7.mono (by omega))
        obtain ⟨A7, c7, rfl, _, _, _⟩ := own_form (OwnR.own o7)
        obtain ⟨d0, d1, d2⟩ := p3_cells bP7
        obtain ⟨c0, c1, c2'⟩ := p3_cells bR7
        obtain ⟨f0, f1, f2⟩ := p3_open bR7
        have E := p3_store (p := p) (R := w.heap.size) rn7 rd7 hBB (by omega) (by omega) (Nat.le_refl _) (by omega) (by omega)
        have E2 := fun a b c => set3_sl (R := w.heap.size) (own_slI o7) (.inl (by omega)) a b c
        have E3 := set3_size w7 w.heap.size
        have hol : (xs ++ [1 + r6]).length ≤ 101 := by rw [List.length_append]; show xs.length + 1 ≤ 101; omega
        have eL : (xs ++ [1 + r6]).length = xs.length + 1 := by rw [List.length_append]; rfl
        have HE2 := Lib.hid E2
        have HE3 := Lib.hid E3
        have HE := Lib.hid E
        have Hol := Lib.hid hol
        clear E E2 E3 hol
        rw [eL] at HE2
        clear eL
        go_wp2_with fail
        exact bodyPost_ret (v := .tuple #[.agg #[.slice Xn p.nums.length kn, .slice Xd p.drawn.length kd, .int .i64 p.st], .slice A7 (xs.length + 1) c7]) (by simp [results, Try.results42, go_sem, c0, c1, c2']) rfl ⟨_, _, p, _, xs ++ [1 + r6], rfl, (HE.out _ _ _).1, (HE.out _ _ _).2.1, (HE2.out _ _ _).more (by omega) (by rw [HE3.out]; exact Nat.le_refl _), hl1, hl2, Hol.out, (HE.out _ _ _).2.2⟩
      · have hd0 : (r5 == 0) = false := by simpa using h0
        clear h0
        obtain ⟨d0, d1, d2⟩ := p3_cells bP5
        obtain ⟨c0, c1, c2'⟩ := p3_cells bR5
        obtain ⟨f0, f1, f2⟩ := p3_open bR5
        have E := p3_store (p := p) (R := w.heap.size) rn5 rd5 hB5 (by omega) (by omega) (Nat.le_refl _) (by omega) (by omega)
        have E2 := fun a b c => set3_sl (R := w.heap.size) (own_slI oq5) (.inl (by omega)) a b c
        have E3 := set3_size w5 w.heap.size
        have HE2 := Lib.hid E2
        have HE3 := Lib.hid E3
        have HE := Lib.hid E
        clear E E2 E3
        go_wp2_with fail
        exact bodyPost_ret (v := .tuple #[.agg #[.slice Xn p.nums.length kn, .slice Xd p.drawn.length kd, .int .i64 p.st], .slice AQ xs.length cQ]) (by simp [results, Try.results42, go_sem, c0, c1, c2']) rfl ⟨_, _, p, _, xs, rfl, (HE.out _ _ _).1, (HE.out _ _ _).2.1, (HE2.out _ _ _).more (by omega) (by rw [HE3.out]; exact Nat.le_refl _), hl1, hl2, by omega, (HE.out _ _ _).2.2⟩
end Go.Proofs.Ytfenedoalnieaaa
