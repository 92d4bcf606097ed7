/- Sheets that the laws draw: whatever is drawn, a sheet comes back, in memory of its own. No condition. -/
import Derived.Test.YtodfkbgifoecbaaDoorShE
import Derived.Test.YtodfkbgifoecbaaDoorSortE
import Derived.Test.YtodfkbgifoecbaaDoorDrawM
import Derived.Deep.RegionLaw
namespace Go.Proofs.YtodfkbgifoecbaaDoor
open Go.RowKit
attribute [local go_sem ↓] Go.wp_at_zero Go.wp_at_succ

theorem own_ne_blk {α : Type} {f : α → List Value} {s : Nat} {w : World} {base O : Nat} {e T : TypeId} {v : Value} {xs : List α} {cs : Array Value} (h : OwnR f s w base e v xs) (b : Blk w O T cs) (hT : T ≠ e) : ∀ g, v.ownBlock = some g → g ≠ O := by
  intro g hg e1
  subst e1
  rcases (show _ ∨ _ from And.right h) with ⟨h2, _⟩ | ⟨g', cap, cur, rfl, h3, h4, r⟩
  · subst h2; cases hg
  · have e2 : g' = g := Option.some.inj hg
    subst e2
    have b' : w.heap[g']? = _ := b
    rw [b'] at h4
    injection h4 with h4
    injection h4 with _ h5
    exact hT h5
theorem s2_cells {W : World} {T : Nat} {ty : TypeId} {x y : Value} (b : Blk W T ty #[x, y]) : W.cell? ⟨T, 0, none⟩ = some x ∧ W.cell? ⟨T, 1, none⟩ = some y := ⟨b.cell 0, b.cell 1⟩
theorem s2_open {W : World} {T : Nat} {ty : TypeId} {x y : Value} (b : Blk W T ty #[x, y]) : W.frozen? ⟨T, 0, none⟩ = false ∧ W.frozen? ⟨T, 1, none⟩ = false := ⟨b.frozen 0, b.frozen 1⟩
theorem s2_set1 {W : World} {T : Nat} {ty : TypeId} {x y : Value} (b : Blk W T ty #[x, y]) (u : Value) : Blk (W.setCell ⟨T, 1, none⟩ u) T ty #[x, u] := by
  have := b.set_ 1 u
  simpa using this
theorem s2_set0 {W : World} {T : Nat} {ty : TypeId} {x y : Value} (b : Blk W T ty #[x, y]) (u : Value) : Blk (W.setCell ⟨T, 0, none⟩ u) T ty #[u, y] := by
  have := b.set_ 0 u
  simpa using this
/-- What a function that hands a sheet back by value says at its end. -/
theorem s2_end {w W : World} {R g lo hi : Nat} {v : Value} {xs : List Int} (d : Int) (hn : SlI W lo hi v xs) (hs : Src W g) (hg : w.grownBy W (some g)) (hR : R < lo) (hgR : g < R) (hw : w.heap.size ≤ R) (h1 : hi ≤ W.heap.size) (hl : xs.length ≤ 100) (a b : Value) :
    ∃ (d' : Int) (v' : Value) (xs' : List Int), Ending.returned (.agg #[.int .i64 d, v]) = .returned (.agg #[.int .i64 d', v']) ∧ SlI ((W.setCell ⟨R, 0, none⟩ a).setCell ⟨R, 1, none⟩ b) w.heap.size ((W.setCell ⟨R, 0, none⟩ a).setCell ⟨R, 1, none⟩ b).heap.size v' xs' ∧ xs'.length ≤ 100 ∧ Src ((W.setCell ⟨R, 0, none⟩ a).setCell ⟨R, 1, none⟩ b) g ∧ w.grownBy ((W.setCell ⟨R, 0, none⟩ a).setCell ⟨R, 1, none⟩ b) (some g) :=
  ⟨d, v, xs, rfl, ((hn.setCell ⟨R, 0, none⟩ a (.inl hR)).setCell ⟨R, 1, none⟩ b (.inl hR)).more (by omega) (by rw [size_setCell, size_setCell]; exact h1), hl, (hs.setCell (p := ⟨R, 0, none⟩) hgR a).setCell (p := ⟨R, 1, none⟩) hgR b, gr_set (gr_set hg (p := ⟨R, 0, none⟩) hw a) (p := ⟨R, 1, none⟩) hw b⟩

/-- The same where the last list lies in the newest block. -/
theorem s2_endL {w W : World} {R g : Nat} (cs : Array Value) (e : TypeId) (ys : List Int) (n N : Nat) (d : Int) (hn : ys.length = n) (hm : n ≤ 100) (hc : cs.toList = ys.flatMap i64s) (hN : W.heap.size = N) (hs : Src W g) (hg : w.grownBy W (some g)) (hgR : g < R) (hw : w.heap.size ≤ R) (a b : Value) :
    ∃ (d' : Int) (v' : Value) (xs' : List Int), Ending.returned (.agg #[.int .i64 d, .slice (some ⟨N, 0, none⟩) n n]) = .returned (.agg #[.int .i64 d', v']) ∧ SlI (((W.setCell ⟨R, 0, none⟩ a).setCell ⟨R, 1, none⟩ b).alloc (.cells cs e)) w.heap.size (((W.setCell ⟨R, 0, none⟩ a).setCell ⟨R, 1, none⟩ b).alloc (.cells cs e)).heap.size v' xs' ∧ xs'.length ≤ 100 ∧ Src (((W.setCell ⟨R, 0, none⟩ a).setCell ⟨R, 1, none⟩ b).alloc (.cells cs e)) g ∧ w.grownBy (((W.setCell ⟨R, 0, none⟩ a).setCell ⟨R, 1, none⟩ b).alloc (.cells cs e)) (some g) := by
  have hz : ((W.setCell ⟨R, 0, none⟩ a).setCell ⟨R, 1, none⟩ b).heap.size = W.heap.size := by rw [size_setCell, size_setCell]
  have hW := hg.size
  have k2 : Src ((W.setCell ⟨R, 0, none⟩ a).setCell ⟨R, 1, none⟩ b) g := (hs.setCell (p := ⟨R, 0, none⟩) hgR a).setCell (p := ⟨R, 1, none⟩) hgR b
  have k3 : w.grownBy ((W.setCell ⟨R, 0, none⟩ a).setCell ⟨R, 1, none⟩ b) (some g) := gr_set (gr_set hg (p := ⟨R, 0, none⟩) hw a) (p := ⟨R, 1, none⟩) hw b
  generalize ((W.setCell ⟨R, 0, none⟩ a).setCell ⟨R, 1, none⟩ b) = WW at *
  have k4 := laid_slI WW e cs ys n hn (by omega) hc
  rw [hz, hN] at k4
  have ha : (WW.alloc (.cells cs e)).heap.size = WW.heap.size + 1 := by simp
  exact ⟨d, _, ys, rfl, k4.more (by omega) (by omega), by omega, k2.alloc _, gr_alloc k3 _⟩

set_option maxRecDepth 100000 in
set_option maxHeartbeats 4000000 in
theorem l11Sheet_any (g : Nat) (day : Int) (w : World) (h : Src w g) :
    Calls Tryd.prog 46 #[.pointer (some ⟨g, 0, none⟩), .int .i64 day] w fun e w' => ∃ (d : Int) (v : Value) (xs : List Int), e = .returned (.agg #[.int .i64 d, v]) ∧ SlI w' w.heap.size w'.heap.size v xs ∧ xs.length ≤ 100 ∧ Src w' g ∧ w.grownBy w' (some g) := by
  have lg := h.lt
  go_enter Tryd.func46, Tryd.ntmps46
  go_wp2_with fail
  have bR : Blk (((w.alloc (.cells #[.int .i64 0, .slice none 0 0] 28)).alloc (.cells #[] 2)).alloc (.cells #[.int .i64 day, .slice (some ⟨w.heap.size + 1, 0, none⟩) 0 0] 28)) w.heap.size _ _ := ((Blk.new w _ _).alloc _).alloc _
  have bP : Blk (((w.alloc (.cells #[.int .i64 0, .slice none 0 0] 28)).alloc (.cells #[] 2)).alloc (.cells #[.int .i64 day, .slice (some ⟨w.heap.size + 1, 0, none⟩) 0 0] 28)) (w.heap.size + 1 + 1) _ _ := Blk.new' (by simp)
  have oE : OwnR i64s 1 (((w.alloc (.cells #[.int .i64 0, .slice none 0 0] 28)).alloc (.cells #[] 2)).alloc (.cells #[.int .i64 day, .slice (some ⟨w.heap.size + 1, 0, none⟩) 0 0] 28)) (w.heap.size + 1) 2 (.slice (some ⟨w.heap.size + 1, 0, none⟩) 0 0) ([] : List Int) := by
    have := (own_empty (w.alloc (.cells #[.int .i64 0, .slice none 0 0] 28)) 2 1 i64s).alloc (.cells #[.int .i64 day, .slice (some ⟨w.heap.size + 1, 0, none⟩) 0 0] 28)
    simpa using this
  have h1 : Src (((w.alloc (.cells #[.int .i64 0, .slice none 0 0] 28)).alloc (.cells #[] 2)).alloc (.cells #[.int .i64 day, .slice (some ⟨w.heap.size + 1, 0, none⟩) 0 0] 28)) g := ((h.alloc _).alloc _).alloc _
  have g1 : w.grownBy (((w.alloc (.cells #[.int .i64 0, .slice none 0 0] 28)).alloc (.cells #[] 2)).alloc (.cells #[.int .i64 day, .slice (some ⟨w.heap.size + 1, 0, none⟩) 0 0] 28)) (some g) := gr_alloc (gr_alloc (gr_alloc (World.grownBy.refl _ _) _) _) _
  generalize (((w.alloc (.cells #[.int .i64 0, .slice none 0 0] 28)).alloc (.cells #[] 2)).alloc (.cells #[.int .i64 day, .slice (some ⟨w.heap.size + 1, 0, none⟩) 0 0] 28)) = w1 at *
  refine (l01Next_any g 6 w1 h1).mono ?_
  rintro e w2 ⟨r2, rfl, a2, b2, _, h2, g2⟩
  have b2 := b2 (by omega)
  have lP := bP.lt
  have lgP : g < w.heap.size + 1 + 1 := by omega
  have oE := oE.grown g2 (fun k hk => by have := Option.some.inj hk; omega)
  have bR := bR.grown g2 (ne_src lg)
  have bP := bP.grown g2 (ne_src lgP)
  have g2 := grownBy_trans g1 g2
  obtain ⟨m0, rfl⟩ : ∃ m0 : Nat, r2 = (m0 : Int) := ⟨r2.toNat, by omega⟩
  go_wp2_with fail
  go_loopw [6] (fun i wr => ∃ (m : Nat) (v : Value) (xs : List Int), i = .int .i64 m ∧ m ≤ 5 ∧ xs.length + m ≤ 5 ∧ Blk wr (w.heap.size + 1 + 1) 28 #[.int .i64 day, v] ∧ OwnR i64s 1 wr (w.heap.size + 1) 2 v xs ∧ Blk wr w.heap.size 28 #[.int .i64 0, .slice none 0 0] ∧ Src wr g ∧ w.grownBy wr (some g)) (fun i wr => (intOf i).toNat)
  case atStart => exact ⟨m0, _, [], rfl, by omega, by simp; omega, bP, oE, bR, h2, g2⟩
  case round =>
    obtain ⟨m, v, xs, rfl, hm, hxl, bP, ov, bR, hs, G⟩ := hrel
    have zr := G.size
    have lPr := bP.lt
    obtain ⟨Av, cv, rfl, hcv1, hcv2, _⟩ := own_form (OwnR.own ov)
    rcases m with _ | m
    · go_wp2_with fail
      refine (l01Next_any g 60 wr hs).mono ?_
      rintro e w4 ⟨r4, rfl, a4, b4, _, h4, g4⟩
      have b4 := b4 (by omega)
      have bR := bR.grown g4 (ne_src lg)
      have bP := bP.grown g4 (ne_src lgP)
      have ov := ov.grown g4 (fun k hk => by have := Option.some.inj hk; omega)
      have z4 := g4.size
      have G4 := grownBy_trans G g4
      have lP4 := bP.lt
      have nP := own_ne_blk ov bP (by decide)
      have n1 : w.heap.size ≠ w.heap.size + 1 + 1 := by omega
      have n2 : w.heap.size + 1 + 1 ≠ w.heap.size := by omega
      have n3 : w.heap.size + 1 + 1 ≠ w4.heap.size := by omega
      have n4 : w.heap.size ≠ w4.heap.size := by omega
      have hxl : xs.length ≤ 5 := by omega
      clear hs g4 G
      by_cases q0 : r4 = 0
      · subst q0
        obtain ⟨p0, p1⟩ := s2_cells bP
        obtain ⟨fp0, fp1⟩ := s2_open bP
        obtain ⟨c0, c1⟩ := s2_cells bR
        obtain ⟨f0, f1⟩ := s2_open bR
        have h6 := h4.setCell (p := ⟨w.heap.size + 1 + 1, 1, none⟩) lgP (.slice (some ⟨w4.heap.size, 0, none⟩) 2 2)
        have G6 := gr_set G4 (p := ⟨w.heap.size + 1 + 1, 1, none⟩) (show w.heap.size ≤ w.heap.size + 1 + 1 by omega) (.slice (some ⟨w4.heap.size, 0, none⟩) 2 2)
        have hz6 := size_setCell w4 ⟨w.heap.size + 1 + 1, 1, none⟩ (.slice (some ⟨w4.heap.size, 0, none⟩) 2 2)
        have kL := laid_slI (w4.setCell ⟨w.heap.size + 1 + 1, 1, none⟩ (.slice (some ⟨w4.heap.size, 0, none⟩) 2 2)) 2 #[.int .i64 5, .int .i64 5] [5, 5] 2 rfl (by omega) rfl
        rw [hz6] at kL
        have HE := Lib.hid (s2_end (R := w.heap.size) day kL (h6.alloc (.cells #[.int .i64 5, .int .i64 5] 2)) (gr_alloc G6 (.cells #[.int .i64 5, .int .i64 5] 2)) (by omega) lg (Nat.le_refl _) (by simp [size_setCell]) (by simp))
        have bRx := (bR.far (p := ⟨w.heap.size + 1 + 1, 1, none⟩) n1 (.slice (some ⟨w4.heap.size, 0, none⟩) 2 2)).alloc (.cells #[.int .i64 5, .int .i64 5] 2)
        obtain ⟨cx0, cx1⟩ := s2_cells bRx
        obtain ⟨fx0, fx1⟩ := s2_open bRx
        clear h6 G6 hz6 kL
        go_wp2_with fail
        exact bodyPost_ret (v := .agg #[.int .i64 day, .slice (some ⟨w4.heap.size, 0, none⟩) 2 2]) (by simp [results, Tryd.results46, go_sem, cx0, cx1]) rfl (HE.out _ _)
      have e0 : (r4 == 0) = false := by simpa using q0
      by_cases q1 : r4 = 1
      · subst q1
        obtain ⟨p0, p1⟩ := s2_cells bP
        go_wp2_with fail
        refine (l01Pick_any g _ [_, _, _] _ _ _ (h4.alloc _) (laid_slI w4 _ _ _ 3 (by rfl) (by simp) (by rfl)) (by simp) h4.lt (by simp)).mono ?_
        rintro e w5 ⟨r5, rfl, _, h5, g5⟩
        have zA : (w4.alloc (.cells #[.int .i64 20000, .int .i64 20001, .int .i64 (-1)] 2)).heap.size = w4.heap.size + 1 := by simp
        have bR5 := (bR.alloc (.cells #[.int .i64 20000, .int .i64 20001, .int .i64 (-1)] 2)).grown g5 (ne_src lg)
        have bP5 := (bP.alloc (.cells #[.int .i64 20000, .int .i64 20001, .int .i64 (-1)] 2)).grown g5 (ne_src lgP)
        have ov5 := (ov.alloc (.cells #[.int .i64 20000, .int .i64 20001, .int .i64 (-1)] 2)).grown g5 (fun k hk => by have := Option.some.inj hk; omega)
        have z5 := g5.size
        have G5 := grownBy_trans (gr_alloc G4 _) g5
        have nP5 := own_ne_blk ov5 bP5 (by decide)
        clear p0 p1
        obtain ⟨p0, p1⟩ := s2_cells bP5
        obtain ⟨fp0, fp1⟩ := s2_open bP5
        obtain ⟨c0, c1⟩ := s2_cells bR5
        obtain ⟨f0, f1⟩ := s2_open bR5
        have o6 := ov5.setCell ⟨w.heap.size + 1 + 1, 0, none⟩ (.int .i64 r5) (fun k hk => nP5 k hk)
        have h6 := h5.setCell (p := ⟨w.heap.size + 1 + 1, 0, none⟩) lgP (.int .i64 r5)
        have G6 := gr_set G5 (p := ⟨w.heap.size + 1 + 1, 0, none⟩) (show w.heap.size ≤ w.heap.size + 1 + 1 by omega) (.int .i64 r5)
        have HE := Lib.hid (s2_end (R := w.heap.size) r5 (own_slI o6) h6 G6 (by omega) lg (Nat.le_refl _) (Nat.le_refl _) (by omega))
        clear o6 h6 G6
        go_wp2_with fail
        exact bodyPost_ret (v := .agg #[.int .i64 r5, .slice Av xs.length cv]) (by simp [results, Tryd.results46, go_sem, c0, c1, n1, n2]) rfl (HE.out _ _)
      have e1 : (r4 == 1) = false := by simpa using q1
      by_cases q2 : r4 = 2
      · subst q2
        have hz6 := size_setCell w4 ⟨w.heap.size + 1 + 1, 1, none⟩ (.slice (some ⟨w4.heap.size, 0, none⟩) 0 0)
        have hza : ((w4.setCell ⟨w.heap.size + 1 + 1, 1, none⟩ (.slice (some ⟨w4.heap.size, 0, none⟩) 0 0)).alloc (.cells #[] 2)).heap.size = w4.heap.size + 1 := by simp [size_setCell]
        have o6 := own_empty (w4.setCell ⟨w.heap.size + 1 + 1, 1, none⟩ (.slice (some ⟨w4.heap.size, 0, none⟩) 0 0)) 2 1 i64s
        rw [hz6] at o6
        have bP6 := (s2_set1 bP (.slice (some ⟨w4.heap.size, 0, none⟩) 0 0)).alloc (.cells #[] 2)
        have bR6 := (bR.far (p := ⟨w.heap.size + 1 + 1, 1, none⟩) n1 (.slice (some ⟨w4.heap.size, 0, none⟩) 0 0)).alloc (.cells #[] 2)
        have h6 := (h4.setCell (p := ⟨w.heap.size + 1 + 1, 1, none⟩) lgP (.slice (some ⟨w4.heap.size, 0, none⟩) 0 0)).alloc (.cells #[] 2)
        have G6 := gr_alloc (gr_set G4 (p := ⟨w.heap.size + 1 + 1, 1, none⟩) (show w.heap.size ≤ w.heap.size + 1 + 1 by omega) (.slice (some ⟨w4.heap.size, 0, none⟩) 0 0)) (.cells #[] 2)
        obtain ⟨p0, p1⟩ := s2_cells bP
        obtain ⟨fp0, fp1⟩ := s2_open bP
        clear hz6
        go_wp2_with fail
        generalize ((w4.setCell ⟨w.heap.size + 1 + 1, 1, none⟩ (.slice (some ⟨w4.heap.size, 0, none⟩) 0 0)).alloc (.cells #[] 2)) = w6 at *
        have hza' : w4.heap.size ≤ w6.heap.size := by omega
        clear p0 p1 fp0 fp1 hza
        go_loopw [7] (fun i wr => ∃ (m : Nat) (v : Value) (xs : List Int), i = .int .i64 m ∧ 1 ≤ m ∧ m ≤ 62 ∧ xs.length + 1 = m ∧ Blk wr (w.heap.size + 1 + 1) 28 #[.int .i64 day, v] ∧ OwnR i64s 1 wr w4.heap.size 2 v xs ∧ Blk wr w.heap.size 28 #[.int .i64 0, .slice none 0 0] ∧ Src wr g ∧ w.grownBy wr (some g) ∧ w4.heap.size ≤ wr.heap.size) (fun i wr => 62 - (intOf i).toNat)
        case atStart => exact ⟨1, _, [], rfl, by omega, by omega, rfl, bP6, o6, bR6, h6, G6, hza'⟩
        case round =>
          obtain ⟨m, v, ys, rfl, hm1, hm2, hyl, bP, ov, bR, hs, G, zr⟩ := hrel
          obtain ⟨Av2, cv2, rfl, hcv1, hcv2, _⟩ := own_form (OwnR.own ov)
          go_wp2_with fail
          refine (l01Next_any g 2 _ hs).mono ?_
          rintro e w7 ⟨r7, rfl, a7, b7, _, h7, g7⟩
          have b7 := b7 (by omega)
          have bR := bR.grown g7 (ne_src lg)
          have bP := bP.grown g7 (ne_src lgP)
          have ov := ov.grown g7 (fun k hk => by have := Option.some.inj hk; omega)
          have z7 := g7.size
          have G7 := grownBy_trans G g7
          obtain ⟨p0, p1⟩ := s2_cells bP
          obtain ⟨fp0, fp1⟩ := s2_open bP
          by_cases hlt : (m : Int) ≤ 60 + r7
          · go_wp2_with (at_builtin; refine wpList_append_rec (f := i64s) (s := 1) 2 _ _ (fun _ => rfl) i64s_one rfl _ _ 22 rfl w4.heap.size Tryd.infoI Tryd.underlying22 rfl (by decide) _ _ (m : Int) rfl ov rfl rfl rfl (by omega) (by omega) (by omega) ?_)
            intro v8 w8 o8 hb8
            have hB8 := hb8 w4.heap.size w7 (Below.refl _ _) (Nat.le_refl _)
            have bP8 := bP.below hB8 (by omega)
            have bR8 := bR.below hB8 (by omega)
            have h8 := h7.below hB8 (by omega)
            have G8 := gr_belowB G7 hB8 (by omega)
            have z8 := hB8.size
            obtain ⟨A8, c8, rfl, _, _, _⟩ := own_form (OwnR.own o8)
            have eL : (ys ++ [(m : Int)]).length = ys.length + 1 := by rw [List.length_append]; rfl
            rw [eL, hyl] at o8
            obtain ⟨s0, s1⟩ := s2_cells bP8
            obtain ⟨fs0, fs1⟩ := s2_open bP8
            have hin := fun k hk => (World.ownsRow.lt (OwnR.own o8) k hk).1
            have bP9 := s2_set1 bP8 (.slice A8 m c8)
            have bR9 := bR8.far (p := ⟨w.heap.size + 1 + 1, 1, none⟩) n1 (.slice A8 m c8)
            have h9 := h8.setCell (p := ⟨w.heap.size + 1 + 1, 1, none⟩) lgP (.slice A8 m c8)
            have G9 := gr_set G8 (p := ⟨w.heap.size + 1 + 1, 1, none⟩) (show w.heap.size ≤ w.heap.size + 1 + 1 by omega) (.slice A8 m c8)
            have o9 := o8.setCell ⟨w.heap.size + 1 + 1, 1, none⟩ (.slice A8 m c8) (fun k hk => by have := hin k hk; show k ≠ w.heap.size + 1 + 1; omega)
            have z9 := size_setCell w8 ⟨w.heap.size + 1 + 1, 1, none⟩ (.slice A8 m c8)
            have z9' : w4.heap.size ≤ (w8.setCell ⟨w.heap.size + 1 + 1, 1, none⟩ (.slice A8 m c8)).heap.size := by omega
            clear eL z9
            go_wp2_with fail
            go_roundw
            case rel => exact ⟨m + 1, _, ys ++ [(m : Int)], by go_num, by omega, by omega, by rw [List.length_append]; show ys.length + 1 + 1 = _; omega, bP9, o9, bR9, h9, G9, z9'⟩
            case measure => simp [intOf]; omega
          · obtain ⟨c0, c1⟩ := s2_cells bR
            obtain ⟨f0, f1⟩ := s2_open bR
            have HE := Lib.hid (s2_end (R := w.heap.size) day (own_slI ov) h7 G7 (by omega) lg (Nat.le_refl _) (Nat.le_refl _) (by omega))
            go_wp2_with fail
            exact bodyPost_ret (v := .agg #[.int .i64 day, .slice Av2 ys.length cv2]) (by simp [results, Tryd.results46, go_sem, c0, c1]) rfl (HE.out _ _)
      have e2 : (r4 == 2) = false := by simpa using q2
      obtain ⟨p0, p1⟩ := s2_cells bP
      obtain ⟨c0, c1⟩ := s2_cells bR
      obtain ⟨f0, f1⟩ := s2_open bR
      have HE := Lib.hid (s2_end (R := w.heap.size) day (own_slI ov) h4 G4 (by omega) lg (Nat.le_refl _) (Nat.le_refl _) (by omega))
      go_wp2_with fail
      exact bodyPost_ret (v := .agg #[.int .i64 day, .slice Av xs.length cv]) (by simp [results, Tryd.results46, go_sem, c0, c1]) rfl (HE.out _ _)
    · have hm0 : (0 : Int) < ((m + 1 : Nat) : Int) := by omega
      have y0 : wr.cell? ⟨w.heap.size + 1 + 1, 0, none⟩ = some (.int .i64 day) := bP.cell 0
      have y1 : wr.cell? ⟨w.heap.size + 1 + 1, 1, none⟩ = some (.slice Av xs.length cv) := bP.cell 1
      go_wp2_with fail
      have bPd : Blk wr.drew (w.heap.size + 1 + 1) 28 #[.int .i64 day, .slice Av xs.length cv] := bP
      have bRd : Blk wr.drew w.heap.size 28 #[.int .i64 0, .slice none 0 0] := bR
      have y1d : wr.drew.cell? ⟨w.heap.size + 1 + 1, 1, none⟩ = some (.slice Av xs.length cv) := bPd.cell 1
      have ovd := ov.drew
      have Gd := gr_draw G
      have hzd : wr.drew.heap.size = wr.heap.size := rfl
      have C1 := l01Next_any g 20 wr.drew hs.drew
      try refine region_np ?_
      go_region_with (first
        | (go_at_call 48; (with_reducible refine C1.mono ?_); rintro e w5 ⟨r5, rfl, a5, b5, _, h5, g5⟩; have bP5 := bPd.grown g5 (ne_src lgP); have bR5 := bRd.grown g5 (ne_src lg); have o5 := ovd.grown g5 (fun k hk => by have := Option.some.inj hk; omega); have G5 := grownBy_trans Gd g5; have u0 := bP5.cell 0; have u1 := bP5.cell 1; have z5 := g5.size)
        | (go_at_call 67; refine (l07Insert_any _ xs _ w5 (w.heap.size + 1) o5 (by omega) (by omega)).mono ?_; rintro e w6 ⟨v6, rfl, o6', hb6⟩; obtain ⟨ys, hys, o6⟩ : ∃ ys : List Int, ys.length ≤ xs.length + 1 ∧ OwnR i64s 1 w6 (w.heap.size + 1) 2 v6 ys := ⟨_, insU_len _ _, o6'⟩; clear o6'; have bP6 := bP5.below' hb6; have bR6 := bR5.below' hb6; have h6 := h5.below' hb6; have G6 := gr_below G5 hb6; have fp0 := bP6.frozen 0; have fp1 := bP6.frozen 1; have x0 := bP6.cell 0; have x1 := bP6.cell 1; obtain ⟨A6, c6, rfl, _, _, _⟩ := own_form (OwnR.own o6)))
      all_goals
        have i6 := o6.own.lt
        have nP := own_ne_blk o6 bP6 (by decide)
        have z6 := hb6.size
        have bP7 := s2_set1 bP6 (.slice A6 ys.length c6)
        have bR7 := bR6.far (p := ⟨w.heap.size + 1 + 1, 1, none⟩) (show w.heap.size ≠ w.heap.size + 1 + 1 by omega) (.slice A6 ys.length c6)
        have o7 := o6.setCell ⟨w.heap.size + 1 + 1, 1, none⟩ (.slice A6 ys.length c6) (fun k hk => nP k hk)
        have h7 := h6.setCell (p := ⟨w.heap.size + 1 + 1, 1, none⟩) lgP (.slice A6 ys.length c6)
        have G7 := gr_set G6 (p := ⟨w.heap.size + 1 + 1, 1, none⟩) (show w.heap.size ≤ w.heap.size + 1 + 1 by omega) (.slice A6 ys.length c6)
        clear y0 y1 y1d u0 u1 x0 x1
        go_wp2_with fail
        go_roundw
      all_goals first
        | exact ⟨m, _, _, by go_num, by omega, by omega, bP7, o7, bR7, h7, G7⟩
        | (simp [intOf])
end Go.Proofs.YtodfkbgifoecbaaDoor
