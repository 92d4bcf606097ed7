/- Pools, and texts of pools, that the laws draw; pools that are alike. No condition. -/
import Derived.Test.YtodfkbgifoecbaaGreatDoorTxY
import Derived.Test.YtodfkbgifoecbaaGreatDoorTxV
import Derived.Test.YtodfkbgifoecbaaGreatDoorDrawC
namespace Go.Proofs.YtodfkbgifoecbaaGreatDoor
open Go.RowKit
open Go.Lib hiding intOf
attribute [local go_sem ↓] Go.wp_at_zero Go.wp_at_succ

theorem p3_storeT {w W : World} {R lo hi lo' hi' : Nat} {vn vd : Value} {p : P3} (hn : SlI W lo hi vn p.nums) (hd : SlI W lo' hi' vd p.drawn) (hB : Below w.heap.size w W) (hR : R < lo) (hR' : R < lo') (hw : w.heap.size ≤ R) (h1 : hi ≤ W.heap.size) (h2 : hi' ≤ W.heap.size) (a b c : Value) :
    SlI (((W.setCell ⟨R, 0, none⟩ a).setCell ⟨R, 1, none⟩ b).setCell ⟨R, 2, none⟩ c) w.heap.size (((W.setCell ⟨R, 0, none⟩ a).setCell ⟨R, 1, none⟩ b).setCell ⟨R, 2, none⟩ c).heap.size vn p.nums ∧ SlI (((W.setCell ⟨R, 0, none⟩ a).setCell ⟨R, 1, none⟩ b).setCell ⟨R, 2, none⟩ c) w.heap.size (((W.setCell ⟨R, 0, none⟩ a).setCell ⟨R, 1, none⟩ b).setCell ⟨R, 2, none⟩ c).heap.size vd p.drawn ∧ Below w.heap.size w (((W.setCell ⟨R, 0, none⟩ a).setCell ⟨R, 1, none⟩ b).setCell ⟨R, 2, none⟩ c) := by
  refine ⟨(set3_sl hn (.inl hR) a b c).more (by omega) (by rw [set3_size]; exact h1), (set3_sl hd (.inl hR') a b c).more (by omega) (by rw [set3_size]; exact h2), ?_⟩
  exact Below.setCell (Below.setCell (Below.setCell hB hw a) hw b) hw c
theorem textP_size {p : P3} (h : poolOk p = true) : (str (textP p)).size ≤ 3000 := by
  obtain ⟨p1, p2, p3, p4, p5, p6⟩ := tp_parts h
  have l1 := numT_len (zs := p.nums) (fun z hz' => by have := p1 z hz'; omega)
  have l2 := numT_len (zs := p.drawn) (fun z hz' => by have := p3 z hz'; omega)
  have l3 := itoa_len (v := p.st) (by omega) (by omega)
  rw [str_size, textP, List.length_append, List.length_cons, List.length_append, List.length_cons]
  omega
set_option maxRecDepth 100000 in
set_option maxHeartbeats 2000000 in
theorem DrawPoolText_any (v : Value) (bs : List Int) (w : World) (h : SlR u8s 1 w 0 w.heap.size v bs) (hb : ∀ b ∈ bs, 0 ≤ b ∧ b ≤ 255) :
    Calls Tryz.prog 5 #[v] w fun e w' => ∃ vn vd p, e = .returned (.agg #[vn, vd, .int .i64 (P3.st p)]) ∧ SlI w' w.heap.size w'.heap.size vn p.nums ∧ SlI w' w.heap.size w'.heap.size vd p.drawn ∧ p.nums.length ≤ 100 ∧ p.drawn.length ≤ 100 ∧ Below w.heap.size w w' := by
  go_enter Tryz.func5, Tryz.ntmps5
  go_wp2_with fail
  have bR := Blk.new w 26 #[.slice none 0 0, .slice none 0 0, .int .i64 0]
  have hB1 : Below w.heap.size w (w.alloc (.cells #[.slice none 0 0, .slice none 0 0, .int .i64 0] 26)) := (Below.refl _ _).alloc (Nat.le_refl _) _
  have hv1 := (h.below hB1 (Nat.le_refl _)).more (Nat.le_refl _) hB1.size
  generalize (w.alloc (.cells #[.slice none 0 0, .slice none 0 0, .int .i64 0] 26)) = w1 at *
  have z1 := hB1.size
  have lR := bR.lt
  refine (l01From_any v bs w1 hv1 hb).mono ?_
  rintro e w2 ⟨rfl, h2, hb2⟩
  have bR := bR.below' hb2
  have hB2 := hB1.trans (hb2.mono z1)
  have z2 := hb2.size
  go_wp2_with fail
  refine (l08Pool_any w1.heap.size w2 h2).mono ?_
  rintro e w3 ⟨vn, vd, p, rfl, rn, rd, hl1, hl2, _, h3, g3⟩
  obtain ⟨Xn, kn, rfl, _, _⟩ := rn.form
  obtain ⟨Xd, kd, rfl, _, _⟩ := rd.form
  have bR := bR.grown g3 (by intro e; have := Option.some.inj e; omega)
  have hB3 := gr_to_below hB2 g3 (by omega) (by omega)
  obtain ⟨c0, c1, c2'⟩ := p3_cells bR
  obtain ⟨f0, f1, f2⟩ := p3_open bR
  have E := p3_storeT (p := p) (R := w.heap.size) rn rd hB3 (by omega) (by omega) (Nat.le_refl _) (Nat.le_refl _) (Nat.le_refl _)
  go_wp2_with fail
  exact bodyPost_ret (v := .agg #[.slice Xn p.nums.length kn, .slice Xd p.drawn.length kd, .int .i64 p.st]) (by simp [results, Tryz.results5, go_sem, c0, c1, c2']) rfl ⟨_, _, p, rfl, (E _ _ _).1, (E _ _ _).2.1, hl1, hl2, (E _ _ _).2.2⟩

set_option maxRecDepth 100000 in
set_option maxHeartbeats 4000000 in
theorem DrawReadPool_any (v : Value) (bs : List Int) (w : World) (h : SlR u8s 1 w 0 w.heap.size v bs) (hb : ∀ b ∈ bs, 0 ≤ b ∧ b ≤ 255) :
    Calls Tryz.prog 8 #[v] w fun e w' => ∃ s : ByteArray, e = .returned (.string s) ∧ s.size ≤ 1048576 ∧ Below w.heap.size w w' := by
  go_enter Tryz.func8, Tryz.ntmps8
  go_wp2_with fail
  refine (l01From_any v bs w h hb).mono ?_
  rintro e w1 ⟨rfl, h1, B1⟩
  go_wp2_with fail
  refine (l08Good_any w.heap.size w1 h1).mono ?_
  rintro e w2 ⟨vn, vd, p, rfl, rn, rd, hl1, hl2, hok, h2, g2⟩
  have B2 : Below w.heap.size w w2 := gr_to_below B1 g2 B1.size (Nat.le_refl _)
  have C := l08Text_any vn vd p w2 _ _ rn rd hok.2
  have hsz := textP_size hok.2
  generalize str (textP p) = ts at *
  clear g2 h1
  go_wp2_with fail
  refine C.mono ?_
  clear C
  rintro e w3 ⟨rfl, hb3⟩
  have h3 := h2.below' hb3
  have B3 := B2.trans (hb3.mono B2.size)
  go_wp2_with fail
  refine (l01Next_any w.heap.size 3 w3 h3).mono ?_
  rintro e w4 ⟨r, rfl, _, _, _, h4, g4⟩
  have B4 : Below w.heap.size w w4 := gr_to_below B3 g4 B3.size (Nat.le_refl _)
  by_cases q : r = 0
  · subst q
    go_wp2_with fail
    refine (l01Damage_any w.heap.size _ w4 h4 (by omega)).mono ?_
    rintro e w5 ⟨s, rfl, sz, h5, g5⟩
    go_wp2_with fail
    go_ret
    exact ⟨s, rfl, by omega, gr_to_below B4 g5 B4.size (Nat.le_refl _)⟩
  · have e0 : (r == 0) = false := by simpa using q
    go_wp2_with fail
    go_ret
    exact ⟨_, rfl, by omega, B4⟩

set_option maxRecDepth 100000 in
set_option maxHeartbeats 2000000 in
theorem likePool_same (un ud vn vd : Value) (q : P3) (w : World) (l1 l2 l3 l4 : Nat) (h1 : SlI w l1 w.heap.size un q.nums) (h2 : SlI w l2 w.heap.size ud q.drawn) (h3 : SlI w l3 w.heap.size vn q.nums) (h4 : SlI w l4 w.heap.size vd q.drawn) :
    Calls Tryz.prog 11 #[.agg #[un, ud, .int .i64 q.st], .agg #[vn, vd, .int .i64 q.st]] w fun e w' => e = .returned (.bool true) ∧ Below w.heap.size w w' := by
  obtain ⟨A1, c1, rfl, _, _⟩ := h1.form
  obtain ⟨A2, c2, rfl, _, _⟩ := h2.form
  obtain ⟨A3, c3, rfl, _, _⟩ := h3.form
  obtain ⟨A4, c4, rfl, _, _⟩ := h4.form
  have up : ∀ {v : Value} {zs : List Int} {lo : Nat} {w1 : World}, SlI w lo w.heap.size v zs → Below w.heap.size w w1 → SlI w1 lo w1.heap.size v zs := fun h hb => (h.below hb (Nat.le_refl _)).more (Nat.le_refl _) hb.size
  go_enter Tryz.func11, Tryz.ntmps11
  go_wp2_with fail
  have bA : Blk ((w.alloc (.cells #[.slice A1 q.nums.length c1, .slice A2 q.drawn.length c2, .int .i64 q.st] 26)).alloc (.cells #[.slice A3 q.nums.length c3, .slice A4 q.drawn.length c4, .int .i64 q.st] 26)) w.heap.size _ _ := (Blk.new w _ _).alloc _
  have bB : Blk ((w.alloc (.cells #[.slice A1 q.nums.length c1, .slice A2 q.drawn.length c2, .int .i64 q.st] 26)).alloc (.cells #[.slice A3 q.nums.length c3, .slice A4 q.drawn.length c4, .int .i64 q.st] 26)) (w.heap.size + 1) _ _ := Blk.new' (by simp)
  have hB : Below w.heap.size w ((w.alloc (.cells #[.slice A1 q.nums.length c1, .slice A2 q.drawn.length c2, .int .i64 q.st] 26)).alloc (.cells #[.slice A3 q.nums.length c3, .slice A4 q.drawn.length c4, .int .i64 q.st] 26)) := ((Below.refl _ _).alloc (Nat.le_refl _) _).alloc (by simp) _
  generalize ((w.alloc (.cells #[.slice A1 q.nums.length c1, .slice A2 q.drawn.length c2, .int .i64 q.st] 26)).alloc (.cells #[.slice A3 q.nums.length c3, .slice A4 q.drawn.length c4, .int .i64 q.st] 26)) = w1 at *
  refine (likeInts_same _ _ q.nums w1 _ _ (up h1 hB) (up h3 hB)).mono ?_
  rintro e w2 ⟨rfl, hb2⟩
  have bA := bA.below' hb2
  have bB := bB.below' hb2
  have hB := hB.trans (hb2.mono hB.size)
  obtain ⟨d0, d1, d2⟩ := p3_cells bA
  obtain ⟨e0, e1, e2⟩ := p3_cells bB
  go_wp2_with fail
  refine (likeInts_same _ _ q.drawn w2 _ _ (up h2 hB) (up h4 hB)).mono ?_
  rintro e w3 ⟨rfl, hb3⟩
  have hB := hB.trans (hb3.mono hB.size)
  go_wp2_with fail
  go_ret
  exact ⟨rfl, hB⟩
end Go.Proofs.YtodfkbgifoecbaaGreatDoor
