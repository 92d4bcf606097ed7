/- Pools that the laws draw, good ones and others: whatever is drawn, a pool comes back, in memory of its own. No condition. -/
import Derived.Test.YtodfkbgifoecbaaGreatDoorDrawB
namespace Go.Proofs.YtodfkbgifoecbaaGreatDoor
open Go.RowKit
attribute [local go_sem ↓] Go.wp_at_zero Go.wp_at_succ

theorem p3_cells {W : World} {T : Nat} {ty : TypeId} {x y z : Value} (b : Blk W T ty #[x, y, z]) : W.cell? ⟨T, 0, none⟩ = some x ∧ W.cell? ⟨T, 1, none⟩ = some y ∧ W.cell? ⟨T, 2, none⟩ = some z := ⟨b.cell 0, b.cell 1, b.cell 2⟩
theorem p3_open {W : World} {T : Nat} {ty : TypeId} {x y z : Value} (b : Blk W T ty #[x, y, z]) : W.frozen? ⟨T, 0, none⟩ = false ∧ W.frozen? ⟨T, 1, none⟩ = false ∧ W.frozen? ⟨T, 2, none⟩ = false := ⟨b.frozen 0, b.frozen 1, b.frozen 2⟩

/-- The same where the last list lies in the newest block. -/
theorem set3_endL (Q : P3 → Prop) {w W : World} {R g lo hi : Nat} {v : Value} {xs : List Int} (cs : Array Value) (e : TypeId) (ys : List Int) (n N : Nat) (hn : ys.length = n) (hm : n ≤ 100) (hc : cs.toList = ys.flatMap i64s) (hN : W.heap.size = N) (hv : SlI W lo hi v xs) (hs : Src W g) (hg : w.grownBy W (some g)) (hR : R < lo) (hgR : g < R) (hw : w.heap.size ≤ R) (h1 : hi ≤ W.heap.size) (a b c : Value) :
    SlI ((((W.setCell ⟨R, 0, none⟩ a).setCell ⟨R, 1, none⟩ b).setCell ⟨R, 2, none⟩ c).alloc (.cells cs e)) w.heap.size ((((W.setCell ⟨R, 0, none⟩ a).setCell ⟨R, 1, none⟩ b).setCell ⟨R, 2, none⟩ c).alloc (.cells cs e)).heap.size v xs ∧ SlI ((((W.setCell ⟨R, 0, none⟩ a).setCell ⟨R, 1, none⟩ b).setCell ⟨R, 2, none⟩ c).alloc (.cells cs e)) w.heap.size ((((W.setCell ⟨R, 0, none⟩ a).setCell ⟨R, 1, none⟩ b).setCell ⟨R, 2, none⟩ c).alloc (.cells cs e)).heap.size (.slice (some ⟨N, 0, none⟩) n n) ys ∧ Src ((((W.setCell ⟨R, 0, none⟩ a).setCell ⟨R, 1, none⟩ b).setCell ⟨R, 2, none⟩ c).alloc (.cells cs e)) g ∧ w.grownBy ((((W.setCell ⟨R, 0, none⟩ a).setCell ⟨R, 1, none⟩ b).setCell ⟨R, 2, none⟩ c).alloc (.cells cs e)) (some g) := by
  have hz := set3_size W R a b c
  have hW := hg.size
  generalize hWW : (((W.setCell ⟨R, 0, none⟩ a).setCell ⟨R, 1, none⟩ b).setCell ⟨R, 2, none⟩ c) = WW at *
  have k1 : SlI WW lo hi v xs := hWW ▸ set3_sl hv (.inl hR) a b c
  have k2 : Src WW g := hWW ▸ set3_src hs hgR a b c
  have k3 : w.grownBy WW (some g) := hWW ▸ set3_gr hg hw a b c
  have k4 := laid_slI WW e cs ys n hn (by omega) hc
  rw [hz, hN] at k4
  have ha : (WW.alloc (.cells cs e)).heap.size = WW.heap.size + 1 := by simp
  exact ⟨(k1.alloc (by omega) _).more (by omega) (by omega), k4.more (by omega) (by omega), k2.alloc _, gr_alloc k3 _⟩

set_option maxRecDepth 100000 in
set_option maxHeartbeats 4000000 in
theorem l08Pool_any (g : Nat) (w : World) (h : Src w g) :
    Calls Tryz.prog 13 #[.pointer (some ⟨g, 0, none⟩)] w fun e w' => ∃ vn vd p, e = .returned (.agg #[vn, vd, .int .i64 (P3.st p)]) ∧ SlI w' w.heap.size w'.heap.size vn p.nums ∧ SlI w' w.heap.size w'.heap.size vd p.drawn ∧ p.nums.length ≤ 100 ∧ p.drawn.length ≤ 100 ∧ True ∧ Src w' g ∧ w.grownBy w' (some g) := by
  have lg := h.lt
  go_enter Tryz.func13, Tryz.ntmps13
  go_wp2_with fail
  have bR := Blk.new w 26 #[.slice none 0 0, .slice none 0 0, .int .i64 0]
  have h1 := h.alloc (.cells #[.slice none 0 0, .slice none 0 0, .int .i64 0] 26)
  have G1 := gr_alloc (World.grownBy.refl w (some g)) (.cells #[.slice none 0 0, .slice none 0 0, .int .i64 0] 26)
  have hz1 : (w.alloc (.cells #[.slice none 0 0, .slice none 0 0, .int .i64 0] 26)).heap.size = w.heap.size + 1 := by simp
  generalize (w.alloc (.cells #[.slice none 0 0, .slice none 0 0, .int .i64 0] 26)) = w1 at *
  refine (l08Good_any g w1 h1).mono ?_
  rintro e w2 ⟨vn, vd, p, rfl, rn, rd, hl1, hl2, _, h2, g2⟩
  obtain ⟨Xn, kn, rfl, _, _⟩ := rn.form
  obtain ⟨Xd, kd, rfl, _, _⟩ := rd.form
  have bR := bR.grown g2 (ne_src lg)
  have G2 := grownBy_trans G1 g2
  have z2 := g2.size
  go_wp2_with fail
  have bP := Blk.new w2 26 #[.slice Xn p.nums.length kn, .slice Xd p.drawn.length kd, .int .i64 p.st]
  have bR := bR.alloc (.cells #[.slice Xn p.nums.length kn, .slice Xd p.drawn.length kd, .int .i64 p.st] 26)
  have h3 := h2.alloc (.cells #[.slice Xn p.nums.length kn, .slice Xd p.drawn.length kd, .int .i64 p.st] 26)
  have G3 := gr_alloc G2 (.cells #[.slice Xn p.nums.length kn, .slice Xd p.drawn.length kd, .int .i64 p.st] 26)
  have rn := rn.alloc (Nat.le_refl _) (.cells #[.slice Xn p.nums.length kn, .slice Xd p.drawn.length kd, .int .i64 p.st] 26)
  have rd := rd.alloc (Nat.le_refl _) (.cells #[.slice Xn p.nums.length kn, .slice Xd p.drawn.length kd, .int .i64 p.st] 26)
  have hz3 : (w2.alloc (.cells #[.slice Xn p.nums.length kn, .slice Xd p.drawn.length kd, .int .i64 p.st] 26)).heap.size = w2.heap.size + 1 := by simp
  have lgP : g < w2.heap.size := h2.lt
  generalize (w2.alloc (.cells #[.slice Xn p.nums.length kn, .slice Xd p.drawn.length kd, .int .i64 p.st] 26)) = w3 at *
  refine (l01Next_any g 30 w3 h3).mono ?_
  rintro e w4 ⟨r4, rfl, a4, b4, _, h4, g4⟩
  have b4 := b4 (by omega)
  have bR := bR.grown g4 (ne_src lg)
  have bP := bP.grown g4 (ne_src lgP)
  have rn := rn.grown g4 (by omega) (fun k hk => by have := Option.some.inj hk; omega)
  have rd := rd.grown g4 (by omega) (fun k hk => by have := Option.some.inj hk; omega)
  have z4 := g4.size
  have G4 := grownBy_trans G3 g4
  have n1 : w.heap.size ≠ w2.heap.size := by omega
  have n2 : w2.heap.size ≠ w.heap.size := by omega
  have lP := bP.lt
  have lR := bR.lt
  clear g2 g4 h1 h2 h3 G1 G2 G3
  by_cases q0 : r4 = 0
  · subst q0
    obtain ⟨p0, p1, p2⟩ := p3_cells bP
    obtain ⟨_, fp1, _⟩ := p3_open bP
    obtain ⟨c0, c1, c2'⟩ := p3_cells bR
    obtain ⟨f0, f1, f2⟩ := p3_open bR
    have n3 : w2.heap.size ≠ w4.heap.size := by omega
    have n4 : w.heap.size ≠ w4.heap.size := by omega
    have h6 := h4.setCell (p := ⟨w2.heap.size, 1, none⟩) lgP (.slice (some ⟨w4.heap.size, 0, none⟩) 2 2)
    have G6 := gr_set G4 (p := ⟨w2.heap.size, 1, none⟩) (show w.heap.size ≤ w2.heap.size by omega) (.slice (some ⟨w4.heap.size, 0, none⟩) 2 2)
    have rn6 := rn.setCell ⟨w2.heap.size, 1, none⟩ (.slice (some ⟨w4.heap.size, 0, none⟩) 2 2) (.inr (Nat.le_refl _))
    have hz6 := size_setCell w4 ⟨w2.heap.size, 1, none⟩ (.slice (some ⟨w4.heap.size, 0, none⟩) 2 2)
    have E := set3_endL (fun _ => True) (R := w.heap.size) #[.int .i64 1, .int .i64 1] 2 [1, 1] 2 w4.heap.size rfl (by omega) rfl hz6 rn6 h6 G6 (by omega) lg (Nat.le_refl _) (by omega)
    have HE := Lib.hid E
    clear E rn6 h6 G6 hz6 rn rd
    go_wp2_with fail
    refine bodyPost_ret (v := .agg #[.slice Xn p.nums.length kn, .slice (some ⟨w4.heap.size, 0, none⟩) 2 2, .int .i64 p.st]) ?_ rfl ?_
    · have bF := (set3_own (bR.far (p := ⟨w2.heap.size, 1, none⟩) n1 (.slice (some ⟨w4.heap.size, 0, none⟩) 2 2)) (.slice Xn p.nums.length kn) (.slice (some ⟨w4.heap.size, 0, none⟩) 2 2) (.int .i64 p.st)).alloc (.cells #[.int .i64 1, .int .i64 1] 2)
      obtain ⟨r0, r1, r2⟩ := p3_cells bF
      simp [results, Tryz.results13, go_sem, r0, r1, r2]
    exact ⟨_, _, ⟨p.nums, [1, 1], p.st⟩, rfl, (HE.out _ _ _).1, (HE.out _ _ _).2.1, hl1, by show 2 ≤ 100; omega, trivial, (HE.out _ _ _).2.2.1, (HE.out _ _ _).2.2.2⟩
  have e0 : (r4 == 0) = false := by simpa using q0
  by_cases q1 : r4 = 1
  · subst q1
    obtain ⟨p0, p1, p2⟩ := p3_cells bP
    go_wp2_with fail
    refine (l03State_any g w4 h4).mono ?_
    rintro e w5 ⟨r5, rfl, h5, g5⟩
    have bR := bR.grown g5 (ne_src lg)
    have bP := bP.grown g5 (ne_src lgP)
    have rn := rn.grown g5 (by omega) (fun k hk => by have := Option.some.inj hk; omega)
    have rd := rd.grown g5 (by omega) (fun k hk => by have := Option.some.inj hk; omega)
    have z5 := g5.size
    have G5 := grownBy_trans G4 g5
    clear p0 p1 p2
    obtain ⟨p0, p1, p2⟩ := p3_cells bP
    obtain ⟨_, _, fp2⟩ := p3_open bP
    have bP6 : Blk (w5.setCell ⟨w2.heap.size, 2, none⟩ (.int .i64 r5)) w2.heap.size 26 #[.slice Xn p.nums.length kn, .slice Xd p.drawn.length kd, .int .i64 r5] := by
      have := bP.set_ 2 (.int .i64 r5)
      simpa using this
    have bR6 := bR.far (p := ⟨w2.heap.size, 2, none⟩) n1 (.int .i64 r5)
    obtain ⟨c0, c1, c2'⟩ := p3_cells bR
    obtain ⟨f0, f1, f2⟩ := p3_open bR
    have h6 := h5.setCell (p := ⟨w2.heap.size, 2, none⟩) lgP (.int .i64 r5)
    have G6 := gr_set G5 (p := ⟨w2.heap.size, 2, none⟩) (show w.heap.size ≤ w2.heap.size by omega) (.int .i64 r5)
    have rn6 := rn.setCell ⟨w2.heap.size, 2, none⟩ (.int .i64 r5) (.inr (Nat.le_refl _))
    have rd6 := rd.setCell ⟨w2.heap.size, 2, none⟩ (.int .i64 r5) (.inr (Nat.le_refl _))
    have hz6 := size_setCell w5 ⟨w2.heap.size, 2, none⟩ (.int .i64 r5)
    go_wp2_with fail
    exact bodyPost_ret (v := .agg #[.slice Xn p.nums.length kn, .slice Xd p.drawn.length kd, .int .i64 r5]) (by simp [results, Tryz.results13, go_sem, c0, c1, c2', n1, n2]) rfl (set3_end (fun _ => True) (p := ⟨p.nums, p.drawn, r5⟩) trivial rn6 rd6 h6 G6 (by omega) (by omega) lg (Nat.le_refl _) (by omega) (by omega) ⟨hl1, hl2⟩ _ _ _)
  have e1 : (r4 == 1) = false := by simpa using q1
  by_cases q2 : r4 = 2
  · subst q2
    obtain ⟨p0, p1, p2⟩ := p3_cells bP
    go_wp2_with fail
    refine (l01Pick_any g _ [_, _, _] _ _ _ (h4.alloc _) (laid_slI w4 _ _ _ 3 (by rfl) (by simp) (by rfl)) (by simp) h4.lt (by simp)).mono ?_
    rintro e w5 ⟨r5, rfl, _, h5, g5⟩
    have zA : (w4.alloc (.cells #[.int .i64 0, .int .i64 1000000, .int .i64 1000001] 2)).heap.size = w4.heap.size + 1 := by simp
    have bR := (bR.alloc (.cells #[.int .i64 0, .int .i64 1000000, .int .i64 1000001] 2)).grown g5 (ne_src lg)
    have bP := (bP.alloc (.cells #[.int .i64 0, .int .i64 1000000, .int .i64 1000001] 2)).grown g5 (ne_src lgP)
    have rd := (rd.alloc (by omega) (.cells #[.int .i64 0, .int .i64 1000000, .int .i64 1000001] 2)).grown g5 (by omega) (fun k hk => by have := Option.some.inj hk; omega)
    have z5 := g5.size
    have G5 := grownBy_trans (gr_alloc G4 _) g5
    clear p0 p1 p2
    have lP5 := bP.lt
    have lR5 := bR.lt
    obtain ⟨p0, p1, p2⟩ := p3_cells bP
    obtain ⟨fp0, _, _⟩ := p3_open bP
    obtain ⟨c0, c1, c2'⟩ := p3_cells bR
    obtain ⟨f0, f1, f2⟩ := p3_open bR
    have n3 : w2.heap.size ≠ w5.heap.size := by omega
    have n4 : w.heap.size ≠ w5.heap.size := by omega
    have h6 := h5.setCell (p := ⟨w2.heap.size, 0, none⟩) lgP (.slice (some ⟨w5.heap.size, 0, none⟩) 1 1)
    have G6 := gr_set G5 (p := ⟨w2.heap.size, 0, none⟩) (show w.heap.size ≤ w2.heap.size by omega) (.slice (some ⟨w5.heap.size, 0, none⟩) 1 1)
    have rd6 := rd.setCell ⟨w2.heap.size, 0, none⟩ (.slice (some ⟨w5.heap.size, 0, none⟩) 1 1) (.inr (Nat.le_refl _))
    have hz6 := size_setCell w5 ⟨w2.heap.size, 0, none⟩ (.slice (some ⟨w5.heap.size, 0, none⟩) 1 1)
    have E := set3_endL (fun _ => True) (R := w.heap.size) #[.int .i64 r5] 2 [r5] 1 w5.heap.size rfl (by omega) rfl hz6 rd6 h6 G6 (by omega) lg (Nat.le_refl _) (by omega)
    have HE := Lib.hid E
    clear E rd6 h6 G6 hz6 rd rn
    go_wp2_with fail
    refine bodyPost_ret (v := .agg #[.slice (some ⟨w5.heap.size, 0, none⟩) 1 1, .slice Xd p.drawn.length kd, .int .i64 p.st]) ?_ rfl ?_
    · have bF := (set3_own (bR.far (p := ⟨w2.heap.size, 0, none⟩) n1 (.slice (some ⟨w5.heap.size, 0, none⟩) 1 1)) (.slice (some ⟨w5.heap.size, 0, none⟩) 1 1) (.slice Xd p.drawn.length kd) (.int .i64 p.st)).alloc (.cells #[.int .i64 r5] 2)
      obtain ⟨r0, r1, r2⟩ := p3_cells bF
      simp [results, Tryz.results13, go_sem, r0, r1, r2]
    exact ⟨_, _, ⟨[r5], p.drawn, p.st⟩, rfl, (HE.out _ _ _).2.1, (HE.out _ _ _).1, by show 1 ≤ 100; omega, hl2, trivial, (HE.out _ _ _).2.2.1, (HE.out _ _ _).2.2.2⟩
  have e2 : (r4 == 2) = false := by simpa using q2
  by_cases q3 : r4 = 3
  · subst q3
    obtain ⟨p0, p1, p2⟩ := p3_cells bP
    obtain ⟨fp0, fp1, fp2⟩ := p3_open bP
    have bP6 := set3_own bP (.slice none 0 0) (.slice none 0 0) (.int .i64 77)
    have bR6 := set3_blk bR n1 (.slice none 0 0) (.slice none 0 0) (.int .i64 77)
    have h6 := set3_src h4 lgP (.slice none 0 0) (.slice none 0 0) (.int .i64 77)
    have G6 := set3_gr G4 (R := w2.heap.size) (by omega) (.slice none 0 0) (.slice none 0 0) (.int .i64 77)
    have hz6 := set3_size w4 w2.heap.size (.slice none 0 0) (.slice none 0 0) (.int .i64 77)
    go_wp2_with fail
    generalize (((w4.setCell ⟨w2.heap.size, 0, none⟩ (.slice none 0 0)).setCell ⟨w2.heap.size, 1, none⟩ (.slice none 0 0)).setCell ⟨w2.heap.size, 2, none⟩ (.int .i64 77)) = w6 at *
    clear p0 p1 p2 fp0 fp1 fp2
    go_loopw [4] (fun i wr => ∃ (m : Nat) (v : Value) (xs : List Int), i = .int .i64 m ∧ 1 ≤ m ∧ m ≤ 62 ∧ xs.length + 1 = m ∧ Blk wr w2.heap.size 26 #[v, .slice none 0 0, .int .i64 77] ∧ OwnR i64s 1 wr w4.heap.size 2 v xs ∧ Blk wr w.heap.size 26 #[.slice none 0 0, .slice none 0 0, .int .i64 0] ∧ Src wr g ∧ w.grownBy wr (some g) ∧ w4.heap.size ≤ wr.heap.size) (fun i wr => 62 - (intOf i).toNat)
    case atStart => exact ⟨1, .slice none 0 0, [], rfl, by omega, by omega, rfl, bP6, own_nil _ _ _ _ _, bR6, h6, G6, by omega⟩
    case round =>
      obtain ⟨m, v, xs, rfl, hm1, hm2, hxl, bP, ov, bR, hs, G, zr⟩ := hrel
      obtain ⟨Av, cv, rfl, hcv1, hcv2, _⟩ := own_form (OwnR.own ov)
      go_wp2_with fail
      refine (l01Next_any g 2 wr hs).mono ?_
      rintro e w7 ⟨r7, rfl, a7, b7, _, h7, g7⟩
      have b7 := b7 (by omega)
      have bR := bR.grown g7 (ne_src lg)
      have bP := bP.grown g7 (ne_src lgP)
      have ov := ov.grown g7 (fun k hk => by have := Option.some.inj hk; omega)
      have z7 := g7.size
      have G7 := grownBy_trans G g7
      obtain ⟨p0, p1, p2⟩ := p3_cells bP
      obtain ⟨fp0, fp1, fp2⟩ := p3_open bP
      by_cases hlt : (m : Int) ≤ 60 + r7
      · go_wp2_with (at_builtin; refine wpList_append_rec (f := i64s) (s := 1) 2 _ _ (fun _ => rfl) i64s_one rfl _ _ 24 rfl w4.heap.size Tryz.infoI Tryz.underlying24 rfl (by decide) _ _ (m : Int) rfl ov rfl rfl rfl (by omega) (by omega) (by omega) ?_)
        intro v8 w8 o8 hb8
        have hB8 := hb8 w4.heap.size w7 (Below.refl _ _) (Nat.le_refl _)
        have bP8 := bP.below hB8 (by omega)
        have bR8 := bR.below hB8 (by omega)
        have h8 := h7.below hB8 (by omega)
        have G8 := gr_belowB G7 hB8 (by omega)
        have z8 := hB8.size
        obtain ⟨s0, s1, s2⟩ := p3_cells bP8
        obtain ⟨fs0, fs1, fs2⟩ := p3_open bP8
        have hin := fun k hk => (World.ownsRow.lt (OwnR.own o8) k hk).1
        have bP9 : Blk (w8.setCell ⟨w2.heap.size, 0, none⟩ v8) w2.heap.size 26 #[v8, .slice none 0 0, .int .i64 77] := by
          have := bP8.set_ 0 v8
          simpa using this
        have bR9 := bR8.far (p := ⟨w2.heap.size, 0, none⟩) n1 v8
        have h9 := h8.setCell (p := ⟨w2.heap.size, 0, none⟩) lgP v8
        have G9 := gr_set G8 (p := ⟨w2.heap.size, 0, none⟩) (show w.heap.size ≤ w2.heap.size by omega) v8
        have o9 := o8.setCell ⟨w2.heap.size, 0, none⟩ v8 (fun k hk => by have := hin k hk; show k ≠ w2.heap.size; omega)
        have z9 := size_setCell w8 ⟨w2.heap.size, 0, none⟩ v8
        obtain ⟨A8, c8, rfl, _, _, _⟩ := own_form (OwnR.own o8)
        have eL : (xs ++ [(m : Int)]).length = xs.length + 1 := by rw [List.length_append]; rfl
        rw [eL, hxl] at bP9 o9 bR9 h9 G9 z9
        clear eL
        go_wp2_with fail
        go_roundw
        case rel => exact ⟨m + 1, _, xs ++ [(m : Int)], by go_num, by omega, by omega, by rw [List.length_append]; show xs.length + 1 + 1 = _; omega, bP9, o9, bR9, h9, G9, by omega⟩
        case measure => simp [intOf]; omega
      · obtain ⟨c0, c1, c2'⟩ := p3_cells bR
        obtain ⟨f0, f1, f2⟩ := p3_open bR
        go_wp2_with fail
        exact bodyPost_ret (v := .agg #[.slice Av xs.length cv, .slice none 0 0, .int .i64 77]) (by simp [results, Tryz.results13, go_sem, c0, c1, c2']) rfl (set3_end (fun _ => True) (p := ⟨xs, [], 77⟩) (lo := w4.heap.size) (hi := w7.heap.size) (lo' := w4.heap.size) (hi' := w7.heap.size) trivial (own_slI ov) (slI_nil _ _ _) h7 G7 (by omega) (by omega) lg (Nat.le_refl _) (by omega) (by omega) ⟨by show xs.length ≤ 100; omega, Nat.zero_le _⟩ _ _ _)
  have e3 : (r4 == 3) = false := by simpa using q3
  obtain ⟨p0, p1, p2⟩ := p3_cells bP
  obtain ⟨c0, c1, c2'⟩ := p3_cells bR
  obtain ⟨f0, f1, f2⟩ := p3_open bR
  go_wp2_with fail
  exact bodyPost_ret (v := .agg #[.slice Xn p.nums.length kn, .slice Xd p.drawn.length kd, .int .i64 p.st]) (by simp [results, Tryz.results13, go_sem, c0, c1, c2']) rfl (set3_end (fun _ => True) (p := p) trivial rn rd h4 G4 (by omega) (by omega) lg (Nat.le_refl _) (by omega) (by omega) ⟨hl1, hl2⟩ _ _ _)
end Go.Proofs.YtodfkbgifoecbaaGreatDoor
