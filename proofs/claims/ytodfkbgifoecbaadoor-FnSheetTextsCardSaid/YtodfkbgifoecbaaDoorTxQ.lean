/- Sheets, and texts of sheets, that the laws draw. No condition. -/
import Derived.Test.YtodfkbgifoecbaaDoorTxY
import Derived.Test.YtodfkbgifoecbaaDoorTxH
import Derived.Test.YtodfkbgifoecbaaDoorShDr
namespace Go.Proofs.YtodfkbgifoecbaaDoor
open Go.RowKit
open Go.Lib hiding intOf
attribute [local go_sem ↓] Go.wp_at_zero Go.wp_at_succ

theorem s2_store {w W : World} {R lo hi : Nat} {v : Value} {xs : List Int} (hn : SlI W lo hi v xs) (hB : Below w.heap.size w W) (hR : R < lo) (hw : w.heap.size ≤ R) (h1 : hi ≤ W.heap.size) (a b : Value) :
    SlI ((W.setCell ⟨R, 0, none⟩ a).setCell ⟨R, 1, none⟩ b) w.heap.size ((W.setCell ⟨R, 0, none⟩ a).setCell ⟨R, 1, none⟩ b).heap.size v xs ∧ Below w.heap.size w ((W.setCell ⟨R, 0, none⟩ a).setCell ⟨R, 1, none⟩ b) :=
  ⟨((hn.setCell ⟨R, 0, none⟩ a (.inl hR)).setCell ⟨R, 1, none⟩ b (.inl hR)).more (by omega) (by rw [size_setCell, size_setCell]; exact h1), Below.setCell (Below.setCell hB hw a) hw b⟩
theorem textH_size {d : Int} {ps : List Int} (h : okH d ps = true) : (str (textH d ps)).size ≤ 1400 := by
  obtain ⟨hd, hl, hi⟩ := okH_parts h
  have h1 := numT_len (zs := ps) (fun z hz' => by have := incGo_in ps none hi z hz'; omega)
  have h2 := itoa_len (v := d) (by omega) (by omega)
  rw [str_size, textH, List.length_append, List.length_cons]
  omega
set_option maxRecDepth 100000 in
set_option maxHeartbeats 2000000 in
theorem DrawSheetText_any (v : Value) (bs : List Int) (w : World) (h : SlR u8s 1 w 0 w.heap.size v bs) (hb : ∀ b ∈ bs, 0 ≤ b ∧ b ≤ 255) :
    Calls Tryd.prog 18 #[v] w fun e w' => ∃ (d : Int) (x : Value) (xs : List Int), e = .returned (.agg #[.int .i64 d, x]) ∧ SlI w' w.heap.size w'.heap.size x xs ∧ xs.length ≤ 100 ∧ Below w.heap.size w w' := by
  go_enter Tryd.func18, Tryd.ntmps18
  go_wp2_with fail
  have bR := Blk.new w 28 #[.int .i64 0, .slice none 0 0]
  have hB1 : Below w.heap.size w (w.alloc (.cells #[.int .i64 0, .slice none 0 0] 28)) := (Below.refl _ _).alloc (Nat.le_refl _) _
  have hv1 := (h.below hB1 (Nat.le_refl _)).more (Nat.le_refl _) hB1.size
  generalize (w.alloc (.cells #[.int .i64 0, .slice none 0 0] 28)) = w1 at *
  have z1 := hB1.size
  have lR := bR.lt
  refine (l01From_any v bs w1 hv1 hb).mono ?_
  rintro e w2 ⟨rfl, h2, hb2⟩
  have bR := bR.below' hb2
  have hB2 := hB1.trans (hb2.mono z1)
  have z2 := hb2.size
  go_wp2_with fail
  refine (l11Sheet_any w1.heap.size 125 w2 h2).mono ?_
  rintro e w3 ⟨d, x, xs, rfl, sx, hl, h3, g3⟩
  obtain ⟨X, k, rfl, _, _⟩ := sx.form
  have bR := bR.grown g3 (by intro e; have := Option.some.inj e; omega)
  have hB3 := gr_to_below hB2 g3 (by omega) (by omega)
  obtain ⟨c0, c1⟩ := s2_cells bR
  obtain ⟨f0, f1⟩ := s2_open bR
  have E := s2_store (R := w.heap.size) sx hB3 (by omega) (Nat.le_refl _) (Nat.le_refl _)
  go_wp2_with fail
  exact bodyPost_ret (v := .agg #[.int .i64 d, .slice X xs.length k]) (by simp [results, Tryd.results18, go_sem, c0, c1]) rfl ⟨d, _, xs, rfl, (E _ _).1, hl, (E _ _).2⟩

set_option maxRecDepth 100000 in
set_option maxHeartbeats 4000000 in
theorem DrawReadSheet_any (v : Value) (bs : List Int) (w : World) (h : SlR u8s 1 w 0 w.heap.size v bs) (hb : ∀ b ∈ bs, 0 ≤ b ∧ b ≤ 255) :
    Calls Tryd.prog 19 #[v] w fun e w' => ∃ s : ByteArray, e = .returned (.string s) ∧ s.size ≤ 1048576 ∧ Below w.heap.size w w' := by
  go_enter Tryd.func19, Tryd.ntmps19
  go_wp2_with fail
  refine (l01From_any v bs w h hb).mono ?_
  rintro e w1 ⟨rfl, h1, B1⟩
  go_wp2_with fail
  refine (l11Sheet_any w.heap.size 126 w1 h1).mono ?_
  rintro e w2 ⟨d, x, xs, rfl, sx, hl, h2, g2⟩
  obtain ⟨X, k, rfl, _, _⟩ := sx.form
  have B2 : Below w.heap.size w w2 := gr_to_below B1 g2 B1.size (Nat.le_refl _)
  have bX := Blk.new w2 28 #[.int .i64 d, .slice X xs.length k]
  have hb3 : Below w2.heap.size w2 (w2.alloc (.cells #[.int .i64 d, .slice X xs.length k] 28)) := (Below.refl _ _).alloc (Nat.le_refl _) _
  have h3 := h2.alloc (.cells #[.int .i64 d, .slice X xs.length k] 28)
  clear g2 h2
  go_wp2_with fail
  generalize (w2.alloc (.cells #[.int .i64 d, .slice X xs.length k] 28)) = w3 at *
  have sx3 := sx.bel hb3
  have B3 := B2.trans (hb3.mono B2.size)
  refine (vspecH2_any ⟨d, X, k, xs⟩ w3 _ _ sx3 (Nat.le_refl _)).mono ?_
  rintro e w4 ⟨rfl, hb4⟩
  have bX4 := bX.below' hb4
  have sx4 := sx3.bel hb4
  have h4 := h3.below' hb4
  have B4 := B3.trans (hb4.mono B3.size)
  rw [show (H2.mk d X k xs).ok = okH d xs from rfl]
  clear hb4 hb3 sx sx3 bX h3 h1
  cases hk : okH d xs
  · clear hk
    go_wp2_with fail
    refine (l01Next_any w.heap.size 3 w4 h4).mono ?_
    rintro e w5 ⟨r, rfl, _, _, _, h5, g5⟩
    have B5 : Below w.heap.size w w5 := gr_to_below B4 g5 B4.size (Nat.le_refl _)
    by_cases q : r = 0
    · subst q
      go_wp2_with fail
      refine (l01Damage_any w.heap.size _ w5 h5 (by decide)).mono ?_
      rintro e w6 ⟨s, rfl, sz, h6, g6⟩
      go_wp2_with fail
      go_ret
      exact ⟨s, rfl, Nat.le_trans sz (by decide), gr_to_below B5 g6 B5.size (Nat.le_refl _)⟩
    · have e0 : (r == 0) = false := by simpa using q
      go_wp2_with fail
      go_ret
      exact ⟨_, rfl, by decide, B5⟩
  · have C := l11Text_any d _ xs w4 _ sx4 hk
    have hsz := textH_size hk
    clear hk
    generalize str (textH d xs) = ts at *
    obtain ⟨k0, k1⟩ := s2_cells bX4
    go_wp2_with fail
    refine C.mono ?_
    clear C
    rintro e w5 ⟨rfl, hb5⟩
    have h5 := h4.below' hb5
    have B5 := B4.trans (hb5.mono B4.size)
    go_wp2_with fail
    refine (l01Next_any w.heap.size 3 w5 h5).mono ?_
    rintro e w6 ⟨r, rfl, _, _, _, h6, g6⟩
    have B6 : Below w.heap.size w w6 := gr_to_below B5 g6 B5.size (Nat.le_refl _)
    by_cases q : r = 0
    · subst q
      go_wp2_with fail
      refine (l01Damage_any w.heap.size _ w6 h6 (by omega)).mono ?_
      rintro e w7 ⟨s, rfl, sz, h7, g7⟩
      go_wp2_with fail
      go_ret
      exact ⟨s, rfl, by omega, gr_to_below B6 g7 B6.size (Nat.le_refl _)⟩
    · have e0 : (r == 0) = false := by simpa using q
      go_wp2_with fail
      go_ret
      exact ⟨_, rfl, by omega, B6⟩
end Go.Proofs.YtodfkbgifoecbaaDoor
