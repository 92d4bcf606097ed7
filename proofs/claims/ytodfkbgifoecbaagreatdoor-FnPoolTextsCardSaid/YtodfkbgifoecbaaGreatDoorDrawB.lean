/- Pools that the laws draw: whatever is drawn, a pool comes back, in memory of its own. No condition. -/
import Derived.Test.YtodfkbgifoecbaaGreatDoorPoolQ
import Derived.Test.YtodfkbgifoecbaaGreatDoorDrawA
namespace Go.Proofs.YtodfkbgifoecbaaGreatDoor
open Go.RowKit
attribute [local go_sem ↓] Go.wp_at_zero Go.wp_at_succ

theorem gr_belowB {w w' w2 : World} {g B : Nat} (h : w.grownBy w' (some g)) (hb : Below B w' w2) (hB : w.heap.size ≤ B) : w.grownBy w2 (some g) :=
  ⟨hb.os.trans h.os, hb.tape.trans h.tape, hb.output.trans h.output, Nat.le_trans h.size hb.size, fun i hi hne => (hb.block i (by omega)).trans (h.block i hi hne)⟩
theorem ne_src {g b : Nat} (h : g < b) : some b ≠ some g := fun e => by have := Option.some.inj e; omega

theorem takeF_nums (p : P3) (k : Int) : (takeF p k).2.2 = 0 → (takeF p k).1.nums = p.nums := by
  unfold takeF
  split
  · split
    · intro h; cases h
    · split
      · intro h; cases h
      · intro _; rfl
  · intro h; cases h
theorem incGo_snoc {lo hi z : Int} (hz : inB z lo hi = true) : ∀ (xs : List Int) (p : Option Int), incGo lo hi p xs = true → (∀ y ∈ xs, y < z) → (∀ q, p = some q → q < z) → incGo lo hi p (xs ++ [z]) = true
  | [], p, _, _, hp => by
    have : afterB p z = true := by
      cases p with
      | none => rfl
      | some q => simpa [afterB] using hp q rfl
    simp [incGo, hz, this]
  | x :: t, p, h, hy, _ => by
    rw [incGo] at h
    simp only [Bool.and_eq_true] at h
    rw [List.cons_append, incGo, h.1.1, h.1.2, incGo_snoc hz t (some x) h.2 (fun y hyt => hy y (List.mem_cons_of_mem _ hyt)) (fun q hq => by have := hy x (List.mem_cons_self ..); have := Option.some.inj hq; omega)]
    rfl
theorem snoc_nodup {xs : List Int} {z z' : Int} (h : (∀ y ∈ xs, y < z) ∧ xs.Nodup) (hz : z < z') : (∀ y ∈ xs ++ [z], y < z') ∧ (xs ++ [z]).Nodup := by
  refine ⟨fun y hy => ?_, ?_⟩
  · rcases List.mem_append.1 hy with hy | hy
    · have := h.1 y hy; omega
    · simp at hy; omega
  · rw [List.nodup_append]
    refine ⟨h.2, by simp, fun a ha b hb => ?_⟩
    have := h.1 a ha
    simp at hb
    omega
def GoodAt (z : Int) (xs : List Int) : Prop := ((∀ y ∈ xs, y < z) ∧ xs.Nodup) ∧ 1 ≤ z ∧ incGo 1 1000000 none xs = true
theorem goodAt_nil {z : Int} (h : 1 ≤ z) : GoodAt z [] := ⟨by simp, h, rfl⟩
theorem goodAt_snoc {z z' : Int} {xs : List Int} (h : GoodAt z xs) (hz : z < z') (hb : z ≤ 1000000) : GoodAt z' (xs ++ [z]) :=
  ⟨snoc_nodup h.1 hz, by have := h.2.1; omega, incGo_snoc (inB_iff.2 ⟨h.2.1, hb⟩) xs none h.2.2 h.1.1 (fun q hq => by cases hq)⟩
theorem goodAt_pool {z st : Int} {xs : List Int} (h : GoodAt z xs) (hl : xs.length ≤ 60) (h1 : 1 ≤ st) (h2 : st ≤ 2147483646) : poolOk ⟨xs, [], st⟩ = true := by
  simp only [poolOk, Bool.and_eq_true, decide_eq_true_eq]
  exact ⟨⟨⟨h.2.2, rfl⟩, hl⟩, inB_iff.2 ⟨h1, h2⟩⟩
theorem set3_sl {W : World} {R lo hi : Nat} {v : Value} {zs : List Int} (h : SlI W lo hi v zs) (hR : R < lo ∨ hi ≤ R) (a b c : Value) : SlI (((W.setCell ⟨R, 0, none⟩ a).setCell ⟨R, 1, none⟩ b).setCell ⟨R, 2, none⟩ c) lo hi v zs :=
  ((h.setCell ⟨R, 0, none⟩ a hR).setCell ⟨R, 1, none⟩ b hR).setCell ⟨R, 2, none⟩ c hR
theorem set3_size (W : World) (R : Nat) (a b c : Value) : (((W.setCell ⟨R, 0, none⟩ a).setCell ⟨R, 1, none⟩ b).setCell ⟨R, 2, none⟩ c).heap.size = W.heap.size := by rw [size_setCell, size_setCell, size_setCell]
theorem set3_src {W : World} {R g : Nat} (h : Src W g) (hR : g < R) (a b c : Value) : Src (((W.setCell ⟨R, 0, none⟩ a).setCell ⟨R, 1, none⟩ b).setCell ⟨R, 2, none⟩ c) g :=
  ((h.setCell (p := ⟨R, 0, none⟩) hR a).setCell (p := ⟨R, 1, none⟩) hR b).setCell (p := ⟨R, 2, none⟩) hR c
theorem set3_gr {w W : World} {R g : Nat} (h : w.grownBy W (some g)) (hR : w.heap.size ≤ R) (a b c : Value) : w.grownBy (((W.setCell ⟨R, 0, none⟩ a).setCell ⟨R, 1, none⟩ b).setCell ⟨R, 2, none⟩ c) (some g) :=
  gr_set (gr_set (gr_set h (p := ⟨R, 0, none⟩) hR a) (p := ⟨R, 1, none⟩) hR b) (p := ⟨R, 2, none⟩) hR c
theorem set3_blk {W : World} {R T : Nat} {ty : TypeId} {cs : Array Value} (h : Blk W T ty cs) (hR : T ≠ R) (a b c : Value) : Blk (((W.setCell ⟨R, 0, none⟩ a).setCell ⟨R, 1, none⟩ b).setCell ⟨R, 2, none⟩ c) T ty cs :=
  ((h.far (p := ⟨R, 0, none⟩) hR a).far (p := ⟨R, 1, none⟩) hR b).far (p := ⟨R, 2, none⟩) hR c
theorem set3_own {W : World} {R : Nat} {ty : TypeId} {x y z : Value} (h : Blk W R ty #[x, y, z]) (a b c : Value) : Blk (((W.setCell ⟨R, 0, none⟩ a).setCell ⟨R, 1, none⟩ b).setCell ⟨R, 2, none⟩ c) R ty #[a, b, c] := by
  have := ((h.set_ 0 a).set_ 1 b).set_ 2 c
  simpa using this
/-- What a function that hands a pool back by value says at its end. -/
theorem set3_end (Q : P3 → Prop) {w W : World} {R g lo hi lo' hi' : Nat} {vn vd : Value} {p : P3} (hQ : Q p) (hn : SlI W lo hi vn p.nums) (hd : SlI W lo' hi' vd p.drawn) (hs : Src W g) (hg : w.grownBy W (some g)) (hR : R < lo) (hR' : R < lo') (hgR : g < R) (hw : w.heap.size ≤ R) (h1 : hi ≤ W.heap.size) (h2 : hi' ≤ W.heap.size) (hl : p.nums.length ≤ 100 ∧ p.drawn.length ≤ 100) (a b c : Value) :
    ∃ vn' vd' q, Ending.returned (.agg #[vn, vd, .int .i64 p.st]) = .returned (.agg #[vn', vd', .int .i64 (P3.st q)]) ∧ SlI (((W.setCell ⟨R, 0, none⟩ a).setCell ⟨R, 1, none⟩ b).setCell ⟨R, 2, none⟩ c) w.heap.size (((W.setCell ⟨R, 0, none⟩ a).setCell ⟨R, 1, none⟩ b).setCell ⟨R, 2, none⟩ c).heap.size vn' q.nums ∧ SlI (((W.setCell ⟨R, 0, none⟩ a).setCell ⟨R, 1, none⟩ b).setCell ⟨R, 2, none⟩ c) w.heap.size (((W.setCell ⟨R, 0, none⟩ a).setCell ⟨R, 1, none⟩ b).setCell ⟨R, 2, none⟩ c).heap.size vd' q.drawn ∧ q.nums.length ≤ 100 ∧ q.drawn.length ≤ 100 ∧ Q q ∧ Src (((W.setCell ⟨R, 0, none⟩ a).setCell ⟨R, 1, none⟩ b).setCell ⟨R, 2, none⟩ c) g ∧ w.grownBy (((W.setCell ⟨R, 0, none⟩ a).setCell ⟨R, 1, none⟩ b).setCell ⟨R, 2, none⟩ c) (some g) :=
  ⟨vn, vd, p, rfl, (set3_sl hn (.inl hR) a b c).more (by omega) (by rw [set3_size]; exact h1), (set3_sl hd (.inl hR') a b c).more (by omega) (by rw [set3_size]; exact h2), hl.1, hl.2, hQ, set3_src hs hgR a b c, set3_gr hg hw a b c⟩

set_option maxHeartbeats 2000000 in
theorem l03State_any (g : Nat) (w : World) (h : Src w g) :
    Calls Tryz.prog 32 #[.pointer (some ⟨g, 0, none⟩)] w fun e w' => ∃ r : Int, e = .returned (.int .i64 r) ∧ Src w' g ∧ w.grownBy w' (some g) := by
  go_enter Tryz.func32, Tryz.ntmps32
  go_wp2_with fail
  refine (l01Next_any g 2000000000 w h).mono ?_
  rintro e w1 ⟨r1, rfl, a1, b1, _, h1, g1⟩
  have b1 := b1 (by omega)
  go_wp2_with fail
  refine (l01Next_any g 2000000000 w1 h1).mono ?_
  rintro e w2 ⟨r2, rfl, a2, b2, _, h2, g2⟩
  have b2 := b2 (by omega)
  have g2 := grownBy_trans g1 g2
  go_wp2_with fail
  refine (l01Next_any g 1000 w2 h2).mono ?_
  rintro e w3 ⟨r3, rfl, a3, b3, _, h3, g3⟩
  have b3 := b3 (by omega)
  have g3 := grownBy_trans g2 g3
  go_wp2_with fail
  refine (l01Next_any g 20 w3 h3).mono ?_
  rintro e w4 ⟨r4, rfl, a4, b4, _, h4, g4⟩
  have b4 := b4 (by omega)
  have g4 := grownBy_trans g3 g4
  go_wp2_with fail
  refine (l01Pick_any g _ [_, _, _, _, _] _ _ _ (h4.alloc _) (laid_slI w4 _ _ _ 5 (by rfl) (by simp) (by rfl)) (by simp) h4.lt (by simp)).mono ?_
  rintro e w5 ⟨r5, rfl, _, h5, g5⟩
  have g5 := grownBy_trans (gr_alloc g4 _) g5
  go_wp2_with fail
  refine (l01Next_any g 2000000000 w5 h5).mono ?_
  rintro e w6 ⟨r6, rfl, a6, b6, _, h6, g6⟩
  have b6 := b6 (by omega)
  have g6 := grownBy_trans g5 g6
  go_wp2_with fail
  refine (l01Pick_any g _ [_, _, _, _, _, _] _ _ _ (h6.alloc _) (laid_slI w6 _ _ _ 6 (by rfl) (by simp) (by rfl)) (by simp) h6.lt (by simp)).mono ?_
  rintro e w7 ⟨r7, rfl, _, h7, g7⟩
  have g7 := grownBy_trans (gr_alloc g6 _) g7
  go_wp2_with fail
  go_ret
  exact ⟨r7, rfl, h7, g7⟩

set_option maxRecDepth 100000 in
set_option maxHeartbeats 4000000 in
theorem l08Good_any (g : Nat) (w : World) (h : Src w g) :
    Calls Tryz.prog 19 #[.pointer (some ⟨g, 0, none⟩)] w fun e w' => ∃ vn vd p, e = .returned (.agg #[vn, vd, .int .i64 (P3.st p)]) ∧ SlI w' w.heap.size w'.heap.size vn p.nums ∧ SlI w' w.heap.size w'.heap.size vd p.drawn ∧ p.nums.length ≤ 100 ∧ p.drawn.length ≤ 100 ∧ ((p.nums.Nodup ∧ p.nums.length ≤ 60) ∧ poolOk p = true) ∧ Src w' g ∧ w.grownBy w' (some g) := by
  have lg := h.lt
  go_enter Tryz.func19, Tryz.ntmps19
  go_wp2_with fail
  have bR : Blk ((w.alloc (.cells #[.slice none 0 0, .slice none 0 0, .int .i64 0] 26)).alloc (.cells #[] 2)) w.heap.size _ _ := (Blk.new w _ _).alloc _
  have o1 := own_empty (w.alloc (.cells #[.slice none 0 0, .slice none 0 0, .int .i64 0] 26)) 2 1 i64s
  have h1 : Src ((w.alloc (.cells #[.slice none 0 0, .slice none 0 0, .int .i64 0] 26)).alloc (.cells #[] 2)) g := (h.alloc _).alloc _
  have g1 : w.grownBy ((w.alloc (.cells #[.slice none 0 0, .slice none 0 0, .int .i64 0] 26)).alloc (.cells #[] 2)) (some g) := gr_alloc (gr_alloc (World.grownBy.refl _ _) _) _
  have hz1 : (w.alloc (.cells #[.slice none 0 0, .slice none 0 0, .int .i64 0] 26)).heap.size = w.heap.size + 1 := by simp
  have hz2 : ((w.alloc (.cells #[.slice none 0 0, .slice none 0 0, .int .i64 0] 26)).alloc (.cells #[] 2)).heap.size = w.heap.size + 1 + 1 := by simp
  rw [hz1] at o1
  clear hz1
  generalize ((w.alloc (.cells #[.slice none 0 0, .slice none 0 0, .int .i64 0] 26)).alloc (.cells #[] 2)) = w1 at *
  refine (l01Next_any g 9 w1 h1).mono ?_
  rintro e w2 ⟨r2, rfl, a2, b2, _, h2, g2⟩
  have b2 := b2 (by omega)
  have o2 := o1.grown g2 (fun k hk => by have := Option.some.inj hk; omega)
  have bR := bR.grown g2 (ne_src lg)
  have g2 := grownBy_trans g1 g2
  go_wp2_with fail
  refine (l01Next_any g 10 w2 h2).mono ?_
  rintro e w3 ⟨r3, rfl, a3, b3, _, h3, g3⟩
  have b3 := b3 (by omega)
  have o3 := o2.grown g3 (fun k hk => by have := Option.some.inj hk; omega)
  have bR := bR.grown g3 (ne_src lg)
  have g3 := grownBy_trans g2 g3
  obtain ⟨m0, rfl⟩ : ∃ m0 : Nat, r3 = (m0 : Int) := ⟨r3.toNat, by omega⟩
  go_wp2_with fail
  go_loopw [3, 4, 5] (fun q x i wr => ∃ (m : Nat) (z : Int) (xs : List Int), i = .int .i64 m ∧ x = .int .i64 z ∧ m ≤ 9 ∧ 0 ≤ z ∧ z + 10 * m ≤ 200 ∧ xs.length + m ≤ 9 ∧ Hid (GoodAt z xs) ∧ OwnR i64s 1 wr (w.heap.size + 1) 2 q xs ∧ Src wr g ∧ w.grownBy wr (some g) ∧ Blk wr w.heap.size 26 #[.slice none 0 0, .slice none 0 0, .int .i64 0]) (fun q x i wr => (intOf i).toNat)
  case atStart => exact ⟨m0, _, [], rfl, rfl, by omega, by omega, by omega, by simp; omega, Lib.hid (goodAt_nil (by omega)), o3, h3, g3, bR⟩
  case round =>
    obtain ⟨m, z, xs, rfl, rfl, hm, hz1, hz2, hxl, Hnd, oq, hs, hg, bR⟩ := hrel
    have zr := hg.size
    have lR := bR.lt
    obtain ⟨AQ, cQ, rfl, hcQ1, hcQ2, _⟩ := own_form (OwnR.own oq)
    rcases m with _ | m
    · go_wp2_with fail
      refine (l01Next_any g 2000000000 _ (hs.alloc _)).mono ?_
      rintro e w5 ⟨r5, rfl, a5, b5, _, h5, g5⟩
      have b5 := b5 (by omega)
      have e5 := own_empty wr 2 1 i64s
      have e5 := e5.grown g5 (fun k hk => by have := Option.some.inj hk; omega)
      have oq5 := (oq.alloc (.cells #[] 2)).grown g5 (fun k hk => by have := Option.some.inj hk; omega)
      have bR5 := (bR.alloc (.cells #[] 2)).grown g5 (ne_src lg)
      have z5 : wr.heap.size + 1 ≤ w5.heap.size := by have := g5.size; simpa using this
      have hg5 := grownBy_trans (gr_alloc hg _) g5
      go_wp2_with fail
      have bP := Blk.new w5 26 #[.slice AQ xs.length cQ, .slice (some ⟨wr.heap.size, 0, none⟩) 0 0, .int .i64 (1 + r5)]
      have h6 := h5.alloc (.cells #[.slice AQ xs.length cQ, .slice (some ⟨wr.heap.size, 0, none⟩) 0 0, .int .i64 (1 + r5)] 26)
      have bR6 := bR5.alloc (.cells #[.slice AQ xs.length cQ, .slice (some ⟨wr.heap.size, 0, none⟩) 0 0, .int .i64 (1 + r5)] 26)
      have e6 := e5.alloc (.cells #[.slice AQ xs.length cQ, .slice (some ⟨wr.heap.size, 0, none⟩) 0 0, .int .i64 (1 + r5)] 26)
      have oq6 := oq5.alloc (.cells #[.slice AQ xs.length cQ, .slice (some ⟨wr.heap.size, 0, none⟩) 0 0, .int .i64 (1 + r5)] 26)
      have hg6 := gr_alloc hg5 (.cells #[.slice AQ xs.length cQ, .slice (some ⟨wr.heap.size, 0, none⟩) 0 0, .int .i64 (1 + r5)] 26)
      have rN6 := (own_slI oq5).alloc (Nat.le_refl _) (.cells #[.slice AQ xs.length cQ, .slice (some ⟨wr.heap.size, 0, none⟩) 0 0, .int .i64 (1 + r5)] 26)
      have rE6 := (own_slI e5).alloc (Nat.le_refl _) (.cells #[.slice AQ xs.length cQ, .slice (some ⟨wr.heap.size, 0, none⟩) 0 0, .int .i64 (1 + r5)] 26)
      generalize (w5.alloc (.cells #[.slice AQ xs.length cQ, .slice (some ⟨wr.heap.size, 0, none⟩) 0 0, .int .i64 (1 + r5)] 26)) = w6 at *
      have lP := bP.lt
      have z6 : w5.heap.size < w6.heap.size := lP
      have lgP : g < w5.heap.size := h5.lt
      have bPd : Blk w6.drew _ _ _ := bP
      have d0 : w6.cell? ⟨w5.heap.size, 0, none⟩ = some (.slice AQ xs.length cQ) := bP.cell 0
      have d1 : w6.cell? ⟨w5.heap.size, 1, none⟩ = some (.slice (some ⟨wr.heap.size, 0, none⟩) 0 0) := bP.cell 1
      have d2 : w6.cell? ⟨w5.heap.size, 2, none⟩ = some (.int .i64 (1 + r5)) := bP.cell 2
      have C1 := l01Next_any g (IntKind.i64.wrap ((xs.length : Int) + 1)) w6.drew h6.drew
      have en6 : SlR i64s 1 w6.drew wr.heap.size w6.drew.heap.size (.slice (some ⟨wr.heap.size, 0, none⟩) 0 0) ([] : List Int) := (own_slI e6).drew
      have on6 : SlR i64s 1 w6.drew (w.heap.size + 1) w6.drew.heap.size (.slice AQ xs.length cQ) xs := (own_slI oq6).drew
      have hgd6 := gr_draw hg6
      have hzd : w6.drew.heap.size = w6.heap.size := rfl
      have C1b := l01Next_any g (IntKind.i64.wrap ((xs.length : Int) + 1)) (w6.alloc (.cells #[.slice none 0 0, .slice none 0 0, .int .i64 0] 26)).drew (h6.alloc (.cells #[.slice none 0 0, .slice none 0 0, .int .i64 0] 26)).drew
      have bPe : Blk (w6.alloc (.cells #[.slice none 0 0, .slice none 0 0, .int .i64 0] 26)).drew _ _ _ := bP.alloc (.cells #[.slice none 0 0, .slice none 0 0, .int .i64 0] 26)
      have bRe : Blk (w6.alloc (.cells #[.slice none 0 0, .slice none 0 0, .int .i64 0] 26)).drew _ _ _ := bR6.alloc (.cells #[.slice none 0 0, .slice none 0 0, .int .i64 0] 26)
      have bTe : Blk (w6.alloc (.cells #[.slice none 0 0, .slice none 0 0, .int .i64 0] 26)).drew w6.heap.size 26 #[.slice none 0 0, .slice none 0 0, .int .i64 0] := Blk.new w6 _ _
      have lTe : g < w6.heap.size := h6.lt
      have hge6 := gr_draw (gr_alloc hg6 (.cells #[.slice none 0 0, .slice none 0 0, .int .i64 0] 26))
      have hP0 : ∀ (w7 : World), Blk w7 w5.heap.size 26 #[.slice AQ xs.length cQ, .slice (some ⟨wr.heap.size, 0, none⟩) 0 0, .int .i64 (1 + r5)] → w7.cell? ⟨w5.heap.size, 0, none⟩ = some (.slice AQ xs.length cQ) ∧ w7.cell? ⟨w5.heap.size, 1, none⟩ = some (.slice (some ⟨wr.heap.size, 0, none⟩) 0 0) ∧ w7.cell? ⟨w5.heap.size, 2, none⟩ = some (.int .i64 (1 + r5)) := fun _ b => ⟨b.cell 0, b.cell 1, b.cell 2⟩
      have HP0 := Lib.hid hP0
      clear hP0
      have CT : ∀ (r7 : Int) (w7 : World), SlR i64s 1 w7 (w.heap.size + 1) w7.heap.size (.slice AQ xs.length cQ) xs → SlR i64s 1 w7 wr.heap.size w7.heap.size (.slice (some ⟨wr.heap.size, 0, none⟩) 0 0) ([] : List Int) → _ := fun r7 w7 hx hy => specTakeFrom_any (.slice AQ xs.length cQ) (.slice (some ⟨wr.heap.size, 0, none⟩) 0 0) ⟨xs, [], 1 + r5⟩ r7 w7 (w.heap.size + 1) wr.heap.size hx hy (by show xs.length ≤ _; omega) (Nat.zero_le _)
      dsimp only at CT
      have gg : ∀ {W W' : World} {v : Value} {zs : List Int} {lo : Nat}, SlR i64s 1 W lo W.heap.size v zs → W.grownBy W' (some g) → g < lo → SlR i64s 1 W' lo W'.heap.size v zs := fun h hg hl => (h.grown hg (Nat.le_refl _) (fun k hk => by have := Option.some.inj hk; omega)).more (Nat.le_refl _) hg.size
      have ga : ∀ {W : World} {v : Value} {zs : List Int} {lo : Nat} (o : Obj), SlR i64s 1 W lo W.heap.size v zs → SlR i64s 1 (W.alloc o) lo (W.alloc o).heap.size v zs := fun o h => (h.alloc (Nat.le_refl _) o).more (Nat.le_refl _) (by simp)
      have one6 : SlR i64s 1 (w6.alloc (.cells #[.slice none 0 0, .slice none 0 0, .int .i64 0] 26)).drew (w.heap.size + 1) (w6.alloc (.cells #[.slice none 0 0, .slice none 0 0, .int .i64 0] 26)).drew.heap.size (.slice AQ xs.length cQ) xs := (ga (.cells #[.slice none 0 0, .slice none 0 0, .int .i64 0] 26) (own_slI oq6)).drew
      have ene6 : SlR i64s 1 (w6.alloc (.cells #[.slice none 0 0, .slice none 0 0, .int .i64 0] 26)).drew wr.heap.size (w6.alloc (.cells #[.slice none 0 0, .slice none 0 0, .int .i64 0] 26)).drew.heap.size (.slice (some ⟨wr.heap.size, 0, none⟩) 0 0) ([] : List Int) := (ga (.cells #[.slice none 0 0, .slice none 0 0, .int .i64 0] 26) (own_slI e6)).drew
      have lg1 : g < w.heap.size + 1 := by omega
      have lg2 : g < wr.heap.size := by omega
      have bRd : Blk w6.drew _ _ _ := bR6
      try refine region_np ?_
      go_region_held3 (fun w' => w'.cell? ⟨w5.heap.size, 0, none⟩ = some (.slice AQ xs.length cQ) ∧ w'.cell? ⟨w5.heap.size, 1, none⟩ = some (.slice (some ⟨wr.heap.size, 0, none⟩) 0 0) ∧ w'.cell? ⟨w5.heap.size, 2, none⟩ = some (.int .i64 (1 + r5))) (first | exact ⟨d0, d1, d2⟩ | exact HP0.out _ bP7 | exact HP0.out _ (bP7.alloc _) | exact HP0.out _ bP8 | exact HP0.out _ (bP8.alloc _) | exact HP0.out _ bPe | go_keep) (first
        | (go_at_call 20; (with_reducible refine C1.mono ?_); rintro e w7 ⟨r7, rfl, a7, b7, _, h7, g7⟩; have bP7 := bPd.grown g7 (ne_src lgP); have bR7 := bRd.grown g7 (ne_src lg); have on7 := gg on6 g7 lg1; have en7 := gg en6 g7 lg2; have G7 := grownBy_trans hgd6 g7)
        | (go_at_call 20; (with_reducible refine C1b.mono ?_); rintro e w7 ⟨r7, rfl, a7, b7, _, h7, g7⟩; have bP7 := bPe.grown g7 (ne_src lgP); have bR7 := bRe.grown g7 (ne_src lg); have on7 := gg one6 g7 lg1; have en7 := gg ene6 g7 lg2; have G7 := grownBy_trans hge6 g7; have bT7 := bTe.grown g7 (ne_src lTe))
        | (go_at_call 41; have bT8' := bT7; (with_reducible refine (CT r7 w7 on7 en7).mono ?_); rintro e w8 ⟨xn, xd, xo, rfl, on8, od8, oo8, hb8⟩; obtain ⟨Xn, kn, rfl, _, _⟩ := on8.form; obtain ⟨Xd, kd, rfl, _, _⟩ := od8.form; have z8 := hb8.size; have bT8 := bT7.below' hb8; have t0 := bT8.cell 0; have t1 := bT8.cell 1; have t2 := bT8.cell 2; have u0 := bT8.frozen 0; have u1 := bT8.frozen 1; have u2 := bT8.frozen 2; have bP8 := bP7.below' hb8; have bR8 := bR7.below' hb8; have h8 := h7.below' hb8; have G8 := gr_below G7 hb8; have on9 := (on7.below hb8 (Nat.le_refl _)).more (Nat.le_refl _) hb8.size; have en9 := (en7.below hb8 (Nat.le_refl _)).more (Nat.le_refl _) hb8.size; have n1 : w5.heap.size ≠ w6.heap.size := (by omega); have n2 : w6.heap.size ≠ w5.heap.size := (by omega))
        | (go_at_call 41; (with_reducible refine (CT r7 w7 on7 en7).mono ?_); rintro e w8 ⟨xn, xd, xo, rfl, on8, od8, oo8, hb8⟩; obtain ⟨Xn, kn, rfl, _, _⟩ := on8.form; obtain ⟨Xd, kd, rfl, _, _⟩ := od8.form; have z8 := hb8.size; have bP8 := bP7.below' hb8; have bR8 := bR7.below' hb8; have h8 := h7.below' hb8; have G8 := gr_below G7 hb8; have on9 := (on7.below hb8 (Nat.le_refl _)).more (Nat.le_refl _) hb8.size; have en9 := (en7.below hb8 (Nat.le_refl _)).more (Nat.le_refl _) hb8.size; have n1 : w5.heap.size ≠ w8.heap.size := (by have := bP8.lt; omega); have n2 : w8.heap.size ≠ w5.heap.size := (by have := bP8.lt; omega))
        | (go_at_call 41; (with_reducible refine (CT r7 (w7.alloc (.cells #[.slice none 0 0, .slice none 0 0, .int .i64 0] 26)) (ga (.cells #[.slice none 0 0, .slice none 0 0, .int .i64 0] 26) on7) (ga (.cells #[.slice none 0 0, .slice none 0 0, .int .i64 0] 26) en7)).mono ?_); rintro e w8 ⟨xn, xd, xo, rfl, on8, od8, oo8, hb8⟩; obtain ⟨Xn, kn, rfl, _, _⟩ := on8.form; obtain ⟨Xd, kd, rfl, _, _⟩ := od8.form; have z8 := hb8.size; have bT8 := (Blk.new w7 26 #[.slice none 0 0, .slice none 0 0, .int .i64 0]).below' hb8; have t0 := bT8.cell 0; have t1 := bT8.cell 1; have t2 := bT8.cell 2; have u0 := bT8.frozen 0; have u1 := bT8.frozen 1; have u2 := bT8.frozen 2; have bP8 := (bP7.alloc (.cells #[.slice none 0 0, .slice none 0 0, .int .i64 0] 26)).below' hb8; have bR8 := (bR7.alloc (.cells #[.slice none 0 0, .slice none 0 0, .int .i64 0] 26)).below' hb8; have h8 := (h7.alloc (.cells #[.slice none 0 0, .slice none 0 0, .int .i64 0] 26)).below' hb8; have G8 := gr_below (gr_alloc G7 (.cells #[.slice none 0 0, .slice none 0 0, .int .i64 0] 26)) hb8; have on9 := ((ga (.cells #[.slice none 0 0, .slice none 0 0, .int .i64 0] 26) on7).below hb8 (Nat.le_refl _)).more (Nat.le_refl _) hb8.size; have en9 := ((ga (.cells #[.slice none 0 0, .slice none 0 0, .int .i64 0] 26) en7).below hb8 (Nat.le_refl _)).more (Nat.le_refl _) hb8.size; have n1 : w5.heap.size ≠ w7.heap.size := (by have := bP7.lt; omega); have n2 : w7.heap.size ≠ w5.heap.size := (by have := bP7.lt; omega)))
      · have hq := takeF_len ⟨xs, [], 1 + r5⟩ r7
        have Hqn := Lib.hid (takeF_nums ⟨xs, [], 1 + r5⟩ r7)
        have Hqk := Lib.hid (fun h : (takeF ⟨xs, [], 1 + r5⟩ r7).2.2 = 0 => (take_law h).1)
        clear C1 C1b CT HP0
        have z7 := g7.size
        have zz7 : w6.heap.size ≤ w7.heap.size := z7
        have zz6 : w.heap.size + 1 ≤ w5.heap.size := by have := hg5.size; have := bR5.lt; omega
        have zz8 : w7.heap.size ≤ w8.heap.size := z8
        have rN := ((rN6.drew.grown g7 (Nat.le_of_lt z6) (fun k hk => by have := Option.some.inj hk; omega)).below hb8 (by omega)).alloc (by omega) (.cells #[.slice Xn (takeF ⟨xs, [], 1 + r5⟩ r7).1.nums.length kn, .slice Xd (takeF ⟨xs, [], 1 + r5⟩ r7).1.drawn.length kd, .int .i64 (takeF ⟨xs, [], 1 + r5⟩ r7).1.st] 26)
        have rE := ((rE6.drew.grown g7 (Nat.le_of_lt z6) (fun k hk => by have := Option.some.inj hk; omega)).below hb8 (by omega)).alloc (by omega) (.cells #[.slice Xn (takeF ⟨xs, [], 1 + r5⟩ r7).1.nums.length kn, .slice Xd (takeF ⟨xs, [], 1 + r5⟩ r7).1.drawn.length kd, .int .i64 (takeF ⟨xs, [], 1 + r5⟩ r7).1.st] 26)
        clear hb8 g7
        generalize takeF ⟨xs, [], 1 + r5⟩ r7 = q at *
        have bT := Blk.new w8 26 #[.slice Xn q.1.nums.length kn, .slice Xd q.1.drawn.length kd, .int .i64 q.1.st]
        have bP := bP8.alloc (.cells #[.slice Xn q.1.nums.length kn, .slice Xd q.1.drawn.length kd, .int .i64 q.1.st] 26)
        have bR := bR8.alloc (.cells #[.slice Xn q.1.nums.length kn, .slice Xd q.1.drawn.length kd, .int .i64 q.1.st] 26)
        have hsF := h8.alloc (.cells #[.slice Xn q.1.nums.length kn, .slice Xd q.1.drawn.length kd, .int .i64 q.1.st] 26)
        have G := gr_alloc G8 (.cells #[.slice Xn q.1.nums.length kn, .slice Xd q.1.drawn.length kd, .int .i64 q.1.st] 26)
        have qN := on8.alloc (Nat.le_refl _) (.cells #[.slice Xn q.1.nums.length kn, .slice Xd q.1.drawn.length kd, .int .i64 q.1.st] 26)
        have qD := od8.alloc (Nat.le_refl _) (.cells #[.slice Xn q.1.nums.length kn, .slice Xd q.1.drawn.length kd, .int .i64 q.1.st] 26)
        have zW : (w8.alloc (.cells #[.slice Xn q.1.nums.length kn, .slice Xd q.1.drawn.length kd, .int .i64 q.1.st] 26)).heap.size = w8.heap.size + 1 := by simp
        have lgT : g < w8.heap.size := h8.lt
        generalize (w8.alloc (.cells #[.slice Xn q.1.nums.length kn, .slice Xd q.1.drawn.length kd, .int .i64 q.1.st] 26)) = wF at *
        have lR := bR.lt
        have zF := G.size
        have c0 : wF.cell? ⟨w.heap.size, 0, none⟩ = some (.slice none 0 0) := bR.cell 0
        have c1 : wF.cell? ⟨w.heap.size, 1, none⟩ = some (.slice none 0 0) := bR.cell 1
        have c2' : wF.cell? ⟨w.heap.size, 2, none⟩ = some (.int .i64 0) := bR.cell 2
        have f0 : wF.frozen? ⟨w.heap.size, 0, none⟩ = false := bR.frozen 0
        have f1 : wF.frozen? ⟨w.heap.size, 1, none⟩ = false := bR.frozen 1
        have f2 : wF.frozen? ⟨w.heap.size, 2, none⟩ = false := bR.frozen 2
        have p0 : wF.cell? ⟨w5.heap.size, 0, none⟩ = some (.slice AQ xs.length cQ) := bP.cell 0
        have p1 : wF.cell? ⟨w5.heap.size, 1, none⟩ = some (.slice (some ⟨wr.heap.size, 0, none⟩) 0 0) := bP.cell 1
        have p2 : wF.cell? ⟨w5.heap.size, 2, none⟩ = some (.int .i64 (1 + r5)) := bP.cell 2
        have hl1 : xs.length ≤ 100 ∧ ([] : List Int).length ≤ 100 := ⟨by omega, Nat.zero_le _⟩
        cases hc : q.2.2 == 0
        · go_wp2_with fail
          exact bodyPost_ret (v := .agg #[.slice AQ xs.length cQ, .slice (some ⟨wr.heap.size, 0, none⟩) 0 0, .int .i64 (1 + r5)]) (by simp [results, Tryz.results19, go_sem, c0, c1, c2']) rfl (set3_end (fun p => (p.nums.Nodup ∧ p.nums.length ≤ 60) ∧ poolOk p = true) (p := ⟨xs, [], 1 + r5⟩) ⟨⟨Hnd.out.1.2, by show xs.length ≤ 60; omega⟩, goodAt_pool Hnd.out (by omega) (by omega) (by omega)⟩ rN rE hsF G (by omega) (by omega) lg (Nat.le_refl _) (by omega) (by omega) hl1 _ _ _)
        · clear c0 c1 c2' f0 f1 f2 p0 p1 p2
          go_wp2_with fail
          refine (l01Next_any g 3 wF hsF).mono ?_
          rintro e wG ⟨r9, rfl, a9, b9, _, h9, g9⟩
          have b9 := b9 (by omega)
          have bR := bR.grown g9 (ne_src lg)
          have bP := bP.grown g9 (ne_src lgP)
          have bT := bT.grown g9 (ne_src lgT)
          have rN := rN.grown g9 (by omega) (fun k hk => by have := Option.some.inj hk; omega)
          have rE := rE.grown g9 (by omega) (fun k hk => by have := Option.some.inj hk; omega)
          have qN := qN.grown g9 (by omega) (fun k hk => by have := Option.some.inj hk; omega)
          have qD := qD.grown g9 (by omega) (fun k hk => by have := Option.some.inj hk; omega)
          have zG := g9.size
          have G := grownBy_trans G g9
          have c0 : wG.cell? ⟨w.heap.size, 0, none⟩ = some (.slice none 0 0) := bR.cell 0
          have c1 : wG.cell? ⟨w.heap.size, 1, none⟩ = some (.slice none 0 0) := bR.cell 1
          have c2' : wG.cell? ⟨w.heap.size, 2, none⟩ = some (.int .i64 0) := bR.cell 2
          have f0 : wG.frozen? ⟨w.heap.size, 0, none⟩ = false := bR.frozen 0
          have f1 : wG.frozen? ⟨w.heap.size, 1, none⟩ = false := bR.frozen 1
          have f2 : wG.frozen? ⟨w.heap.size, 2, none⟩ = false := bR.frozen 2
          have p0 : wG.cell? ⟨w5.heap.size, 0, none⟩ = some (.slice AQ xs.length cQ) := bP.cell 0
          have p1 : wG.cell? ⟨w5.heap.size, 1, none⟩ = some (.slice (some ⟨wr.heap.size, 0, none⟩) 0 0) := bP.cell 1
          have p2 : wG.cell? ⟨w5.heap.size, 2, none⟩ = some (.int .i64 (1 + r5)) := bP.cell 2
          have t0 : wG.cell? ⟨w8.heap.size, 0, none⟩ = some (.slice Xn q.1.nums.length kn) := bT.cell 0
          have t1 : wG.cell? ⟨w8.heap.size, 1, none⟩ = some (.slice Xd q.1.drawn.length kd) := bT.cell 1
          have t2 : wG.cell? ⟨w8.heap.size, 2, none⟩ = some (.int .i64 q.1.st) := bT.cell 2
          by_cases h0 : 0 < r9
          · have hd0 : decide (0 < r9) = true := decide_eq_true h0
            clear h0
            go_wp2_with fail
            exact bodyPost_ret (v := .agg #[.slice Xn q.1.nums.length kn, .slice Xd q.1.drawn.length kd, .int .i64 q.1.st]) (by simp [results, Tryz.results19, go_sem, c0, c1, c2']) rfl (set3_end (fun p => (p.nums.Nodup ∧ p.nums.length ≤ 60) ∧ poolOk p = true) (p := q.1) ⟨⟨by rw [Hqn.out (by simpa using hc)]; exact Hnd.out.1.2, hq.1⟩, Hqk.out (by simpa using hc)⟩ qN qD h9 G (by omega) (by omega) lg (Nat.le_refl _) (by omega) (by omega) ⟨by omega, by omega⟩ _ _ _)
          · have hd0 : decide (0 < r9) = false := decide_eq_false h0
            clear h0
            go_wp2_with fail
            exact bodyPost_ret (v := .agg #[.slice AQ xs.length cQ, .slice (some ⟨wr.heap.size, 0, none⟩) 0 0, .int .i64 (1 + r5)]) (by simp [results, Tryz.results19, go_sem, c0, c1, c2']) rfl (set3_end (fun p => (p.nums.Nodup ∧ p.nums.length ≤ 60) ∧ poolOk p = true) (p := ⟨xs, [], 1 + r5⟩) ⟨⟨Hnd.out.1.2, by show xs.length ≤ 60; omega⟩, goodAt_pool Hnd.out (by omega) (by omega) (by omega)⟩ rN rE h9 G (by omega) (by omega) lg (Nat.le_refl _) (by omega) (by omega) hl1 _ _ _)
      · have hq := takeF_len ⟨xs, [], 1 + r5⟩ r7
        have Hqn := Lib.hid (takeF_nums ⟨xs, [], 1 + r5⟩ r7)
        have Hqk := Lib.hid (fun h : (takeF ⟨xs, [], 1 + r5⟩ r7).2.2 = 0 => (take_law h).1)
        clear C1 C1b CT HP0
        have z7 := g7.size
        have zz6 : w.heap.size + 1 ≤ w5.heap.size := by have := hg5.size; have := bR5.lt; omega
        have zz7 : w6.heap.size ≤ w7.heap.size := z7
        have zA : (w7.alloc (.cells #[.slice none 0 0, .slice none 0 0, .int .i64 0] 26)).heap.size = w7.heap.size + 1 := by simp
        have rN8 := ((rN6.drew.grown g7 (Nat.le_of_lt z6) (fun k hk => by have := Option.some.inj hk; omega)).alloc (by omega) (.cells #[.slice none 0 0, .slice none 0 0, .int .i64 0] 26)).below hb8 (by omega)
        have rE8 := ((rE6.drew.grown g7 (Nat.le_of_lt z6) (fun k hk => by have := Option.some.inj hk; omega)).alloc (by omega) (.cells #[.slice none 0 0, .slice none 0 0, .int .i64 0] 26)).below hb8 (by omega)
        clear hb8 g7
        generalize takeF ⟨xs, [], 1 + r5⟩ r7 = q at *
        have lgT : g < w7.heap.size := by omega
        have rN := set3_sl rN8 (R := w7.heap.size) (.inr (by omega)) (.slice Xn q.1.nums.length kn) (.slice Xd q.1.drawn.length kd) (.int .i64 q.1.st)
        have rE := set3_sl rE8 (R := w7.heap.size) (.inr (by omega)) (.slice Xn q.1.nums.length kn) (.slice Xd q.1.drawn.length kd) (.int .i64 q.1.st)
        have bT := set3_own bT8 (.slice Xn q.1.nums.length kn) (.slice Xd q.1.drawn.length kd) (.int .i64 q.1.st)
        have bP := set3_blk bP8 n1 (.slice Xn q.1.nums.length kn) (.slice Xd q.1.drawn.length kd) (.int .i64 q.1.st)
        have bR := set3_blk bR8 (R := w7.heap.size) (by omega) (.slice Xn q.1.nums.length kn) (.slice Xd q.1.drawn.length kd) (.int .i64 q.1.st)
        have hsF := set3_src h8 (R := w7.heap.size) (by omega) (.slice Xn q.1.nums.length kn) (.slice Xd q.1.drawn.length kd) (.int .i64 q.1.st)
        have G := set3_gr G8 (R := w7.heap.size) (by omega) (.slice Xn q.1.nums.length kn) (.slice Xd q.1.drawn.length kd) (.int .i64 q.1.st)
        have qN := set3_sl on8 (R := w7.heap.size) (.inl (by omega)) (.slice Xn q.1.nums.length kn) (.slice Xd q.1.drawn.length kd) (.int .i64 q.1.st)
        have qD := set3_sl od8 (R := w7.heap.size) (.inl (by omega)) (.slice Xn q.1.nums.length kn) (.slice Xd q.1.drawn.length kd) (.int .i64 q.1.st)
        have zW := set3_size w8 w7.heap.size (.slice Xn q.1.nums.length kn) (.slice Xd q.1.drawn.length kd) (.int .i64 q.1.st)
        clear t0 t1 t2 u0 u1 u2
        generalize (((w8.setCell ⟨w7.heap.size, 0, none⟩ (.slice Xn q.1.nums.length kn)).setCell ⟨w7.heap.size, 1, none⟩ (.slice Xd q.1.drawn.length kd)).setCell ⟨w7.heap.size, 2, none⟩ (.int .i64 q.1.st)) = wF at *
        have lR := bR.lt
        have zF := G.size
        have c0 : wF.cell? ⟨w.heap.size, 0, none⟩ = some (.slice none 0 0) := bR.cell 0
        have c1 : wF.cell? ⟨w.heap.size, 1, none⟩ = some (.slice none 0 0) := bR.cell 1
        have c2' : wF.cell? ⟨w.heap.size, 2, none⟩ = some (.int .i64 0) := bR.cell 2
        have f0 : wF.frozen? ⟨w.heap.size, 0, none⟩ = false := bR.frozen 0
        have f1 : wF.frozen? ⟨w.heap.size, 1, none⟩ = false := bR.frozen 1
        have f2 : wF.frozen? ⟨w.heap.size, 2, none⟩ = false := bR.frozen 2
        have p0 : wF.cell? ⟨w5.heap.size, 0, none⟩ = some (.slice AQ xs.length cQ) := bP.cell 0
        have p1 : wF.cell? ⟨w5.heap.size, 1, none⟩ = some (.slice (some ⟨wr.heap.size, 0, none⟩) 0 0) := bP.cell 1
        have p2 : wF.cell? ⟨w5.heap.size, 2, none⟩ = some (.int .i64 (1 + r5)) := bP.cell 2
        have hl1 : xs.length ≤ 100 ∧ ([] : List Int).length ≤ 100 := ⟨by omega, Nat.zero_le _⟩
        cases hc : q.2.2 == 0
        · go_wp2_with fail
          exact bodyPost_ret (v := .agg #[.slice AQ xs.length cQ, .slice (some ⟨wr.heap.size, 0, none⟩) 0 0, .int .i64 (1 + r5)]) (by simp [results, Tryz.results19, go_sem, c0, c1, c2']) rfl (set3_end (fun p => (p.nums.Nodup ∧ p.nums.length ≤ 60) ∧ poolOk p = true) (p := ⟨xs, [], 1 + r5⟩) ⟨⟨Hnd.out.1.2, by show xs.length ≤ 60; omega⟩, goodAt_pool Hnd.out (by omega) (by omega) (by omega)⟩ rN rE hsF G (by omega) (by omega) lg (Nat.le_refl _) (by omega) (by omega) hl1 _ _ _)
        · clear c0 c1 c2' f0 f1 f2 p0 p1 p2
          go_wp2_with fail
          refine (l01Next_any g 3 wF hsF).mono ?_
          rintro e wG ⟨r9, rfl, a9, b9, _, h9, g9⟩
          have b9 := b9 (by omega)
          have bR := bR.grown g9 (ne_src lg)
          have bP := bP.grown g9 (ne_src lgP)
          have bT := bT.grown g9 (ne_src lgT)
          have rN := rN.grown g9 (by omega) (fun k hk => by have := Option.some.inj hk; omega)
          have rE := rE.grown g9 (by omega) (fun k hk => by have := Option.some.inj hk; omega)
          have qN := qN.grown g9 (by omega) (fun k hk => by have := Option.some.inj hk; omega)
          have qD := qD.grown g9 (by omega) (fun k hk => by have := Option.some.inj hk; omega)
          have zG := g9.size
          have G := grownBy_trans G g9
          have c0 : wG.cell? ⟨w.heap.size, 0, none⟩ = some (.slice none 0 0) := bR.cell 0
          have c1 : wG.cell? ⟨w.heap.size, 1, none⟩ = some (.slice none 0 0) := bR.cell 1
          have c2' : wG.cell? ⟨w.heap.size, 2, none⟩ = some (.int .i64 0) := bR.cell 2
          have f0 : wG.frozen? ⟨w.heap.size, 0, none⟩ = false := bR.frozen 0
          have f1 : wG.frozen? ⟨w.heap.size, 1, none⟩ = false := bR.frozen 1
          have f2 : wG.frozen? ⟨w.heap.size, 2, none⟩ = false := bR.frozen 2
          have p0 : wG.cell? ⟨w5.heap.size, 0, none⟩ = some (.slice AQ xs.length cQ) := bP.cell 0
          have p1 : wG.cell? ⟨w5.heap.size, 1, none⟩ = some (.slice (some ⟨wr.heap.size, 0, none⟩) 0 0) := bP.cell 1
          have p2 : wG.cell? ⟨w5.heap.size, 2, none⟩ = some (.int .i64 (1 + r5)) := bP.cell 2
          have t0 : wG.cell? ⟨w7.heap.size, 0, none⟩ = some (.slice Xn q.1.nums.length kn) := bT.cell 0
          have t1 : wG.cell? ⟨w7.heap.size, 1, none⟩ = some (.slice Xd q.1.drawn.length kd) := bT.cell 1
          have t2 : wG.cell? ⟨w7.heap.size, 2, none⟩ = some (.int .i64 q.1.st) := bT.cell 2
          by_cases h0 : 0 < r9
          · have hd0 : decide (0 < r9) = true := decide_eq_true h0
            clear h0
            go_wp2_with fail
            exact bodyPost_ret (v := .agg #[.slice Xn q.1.nums.length kn, .slice Xd q.1.drawn.length kd, .int .i64 q.1.st]) (by simp [results, Tryz.results19, go_sem, c0, c1, c2']) rfl (set3_end (fun p => (p.nums.Nodup ∧ p.nums.length ≤ 60) ∧ poolOk p = true) (p := q.1) ⟨⟨by rw [Hqn.out (by simpa using hc)]; exact Hnd.out.1.2, hq.1⟩, Hqk.out (by simpa using hc)⟩ qN qD h9 G (by omega) (by omega) lg (Nat.le_refl _) (by omega) (by omega) ⟨by omega, by omega⟩ _ _ _)
          · have hd0 : decide (0 < r9) = false := decide_eq_false h0
            clear h0
            go_wp2_with fail
            exact bodyPost_ret (v := .agg #[.slice AQ xs.length cQ, .slice (some ⟨wr.heap.size, 0, none⟩) 0 0, .int .i64 (1 + r5)]) (by simp [results, Tryz.results19, go_sem, c0, c1, c2']) rfl (set3_end (fun p => (p.nums.Nodup ∧ p.nums.length ≤ 60) ∧ poolOk p = true) (p := ⟨xs, [], 1 + r5⟩) ⟨⟨Hnd.out.1.2, by show xs.length ≤ 60; omega⟩, goodAt_pool Hnd.out (by omega) (by omega) (by omega)⟩ rN rE h9 G (by omega) (by omega) lg (Nat.le_refl _) (by omega) (by omega) hl1 _ _ _)
      · have hq := takeF_len ⟨xs, [], 1 + r5⟩ r7
        have Hqn := Lib.hid (takeF_nums ⟨xs, [], 1 + r5⟩ r7)
        have Hqk := Lib.hid (fun h : (takeF ⟨xs, [], 1 + r5⟩ r7).2.2 = 0 => (take_law h).1)
        clear C1 C1b CT HP0
        have z7 := g7.size
        have zz6 : w.heap.size + 1 ≤ w5.heap.size := by have := hg5.size; have := bR5.lt; omega
        have zA : (w6.alloc (.cells #[.slice none 0 0, .slice none 0 0, .int .i64 0] 26)).drew.heap.size = w6.heap.size + 1 := by show (w6.alloc (.cells #[.slice none 0 0, .slice none 0 0, .int .i64 0] 26)).heap.size = _; simp
        have rN8 := ((rN6.alloc (by omega) (.cells #[.slice none 0 0, .slice none 0 0, .int .i64 0] 26)).drew.grown g7 (by omega) (fun k hk => by have := Option.some.inj hk; omega)).below hb8 (by omega)
        have rE8 := ((rE6.alloc (by omega) (.cells #[.slice none 0 0, .slice none 0 0, .int .i64 0] 26)).drew.grown g7 (by omega) (fun k hk => by have := Option.some.inj hk; omega)).below hb8 (by omega)
        clear hb8 g7
        generalize takeF ⟨xs, [], 1 + r5⟩ r7 = q at *
        have lgT : g < w6.heap.size := by omega
        have rN := set3_sl rN8 (R := w6.heap.size) (.inr (by omega)) (.slice Xn q.1.nums.length kn) (.slice Xd q.1.drawn.length kd) (.int .i64 q.1.st)
        have rE := set3_sl rE8 (R := w6.heap.size) (.inr (by omega)) (.slice Xn q.1.nums.length kn) (.slice Xd q.1.drawn.length kd) (.int .i64 q.1.st)
        have bT := set3_own bT8 (.slice Xn q.1.nums.length kn) (.slice Xd q.1.drawn.length kd) (.int .i64 q.1.st)
        have bP := set3_blk bP8 n1 (.slice Xn q.1.nums.length kn) (.slice Xd q.1.drawn.length kd) (.int .i64 q.1.st)
        have bR := set3_blk bR8 (R := w6.heap.size) (by omega) (.slice Xn q.1.nums.length kn) (.slice Xd q.1.drawn.length kd) (.int .i64 q.1.st)
        have hsF := set3_src h8 (R := w6.heap.size) (by omega) (.slice Xn q.1.nums.length kn) (.slice Xd q.1.drawn.length kd) (.int .i64 q.1.st)
        have G := set3_gr G8 (R := w6.heap.size) (by omega) (.slice Xn q.1.nums.length kn) (.slice Xd q.1.drawn.length kd) (.int .i64 q.1.st)
        have qN := set3_sl on8 (R := w6.heap.size) (.inl (by omega)) (.slice Xn q.1.nums.length kn) (.slice Xd q.1.drawn.length kd) (.int .i64 q.1.st)
        have qD := set3_sl od8 (R := w6.heap.size) (.inl (by omega)) (.slice Xn q.1.nums.length kn) (.slice Xd q.1.drawn.length kd) (.int .i64 q.1.st)
        have zW := set3_size w8 w6.heap.size (.slice Xn q.1.nums.length kn) (.slice Xd q.1.drawn.length kd) (.int .i64 q.1.st)
        clear t0 t1 t2 u0 u1 u2
        generalize (((w8.setCell ⟨w6.heap.size, 0, none⟩ (.slice Xn q.1.nums.length kn)).setCell ⟨w6.heap.size, 1, none⟩ (.slice Xd q.1.drawn.length kd)).setCell ⟨w6.heap.size, 2, none⟩ (.int .i64 q.1.st)) = wF at *
        have lR := bR.lt
        have zF := G.size
        have c0 : wF.cell? ⟨w.heap.size, 0, none⟩ = some (.slice none 0 0) := bR.cell 0
        have c1 : wF.cell? ⟨w.heap.size, 1, none⟩ = some (.slice none 0 0) := bR.cell 1
        have c2' : wF.cell? ⟨w.heap.size, 2, none⟩ = some (.int .i64 0) := bR.cell 2
        have f0 : wF.frozen? ⟨w.heap.size, 0, none⟩ = false := bR.frozen 0
        have f1 : wF.frozen? ⟨w.heap.size, 1, none⟩ = false := bR.frozen 1
        have f2 : wF.frozen? ⟨w.heap.size, 2, none⟩ = false := bR.frozen 2
        have p0 : wF.cell? ⟨w5.heap.size, 0, none⟩ = some (.slice AQ xs.length cQ) := bP.cell 0
        have p1 : wF.cell? ⟨w5.heap.size, 1, none⟩ = some (.slice (some ⟨wr.heap.size, 0, none⟩) 0 0) := bP.cell 1
        have p2 : wF.cell? ⟨w5.heap.size, 2, none⟩ = some (.int .i64 (1 + r5)) := bP.cell 2
        have hl1 : xs.length ≤ 100 ∧ ([] : List Int).length ≤ 100 := ⟨by omega, Nat.zero_le _⟩
        cases hc : q.2.2 == 0
        · go_wp2_with fail
          exact bodyPost_ret (v := .agg #[.slice AQ xs.length cQ, .slice (some ⟨wr.heap.size, 0, none⟩) 0 0, .int .i64 (1 + r5)]) (by simp [results, Tryz.results19, go_sem, c0, c1, c2']) rfl (set3_end (fun p => (p.nums.Nodup ∧ p.nums.length ≤ 60) ∧ poolOk p = true) (p := ⟨xs, [], 1 + r5⟩) ⟨⟨Hnd.out.1.2, by show xs.length ≤ 60; omega⟩, goodAt_pool Hnd.out (by omega) (by omega) (by omega)⟩ rN rE hsF G (by omega) (by omega) lg (Nat.le_refl _) (by omega) (by omega) hl1 _ _ _)
        · clear c0 c1 c2' f0 f1 f2 p0 p1 p2
          go_wp2_with fail
          refine (l01Next_any g 3 wF hsF).mono ?_
          rintro e wG ⟨r9, rfl, a9, b9, _, h9, g9⟩
          have b9 := b9 (by omega)
          have bR := bR.grown g9 (ne_src lg)
          have bP := bP.grown g9 (ne_src lgP)
          have bT := bT.grown g9 (ne_src lgT)
          have rN := rN.grown g9 (by omega) (fun k hk => by have := Option.some.inj hk; omega)
          have rE := rE.grown g9 (by omega) (fun k hk => by have := Option.some.inj hk; omega)
          have qN := qN.grown g9 (by omega) (fun k hk => by have := Option.some.inj hk; omega)
          have qD := qD.grown g9 (by omega) (fun k hk => by have := Option.some.inj hk; omega)
          have zG := g9.size
          have G := grownBy_trans G g9
          have c0 : wG.cell? ⟨w.heap.size, 0, none⟩ = some (.slice none 0 0) := bR.cell 0
          have c1 : wG.cell? ⟨w.heap.size, 1, none⟩ = some (.slice none 0 0) := bR.cell 1
          have c2' : wG.cell? ⟨w.heap.size, 2, none⟩ = some (.int .i64 0) := bR.cell 2
          have f0 : wG.frozen? ⟨w.heap.size, 0, none⟩ = false := bR.frozen 0
          have f1 : wG.frozen? ⟨w.heap.size, 1, none⟩ = false := bR.frozen 1
          have f2 : wG.frozen? ⟨w.heap.size, 2, none⟩ = false := bR.frozen 2
          have p0 : wG.cell? ⟨w5.heap.size, 0, none⟩ = some (.slice AQ xs.length cQ) := bP.cell 0
          have p1 : wG.cell? ⟨w5.heap.size, 1, none⟩ = some (.slice (some ⟨wr.heap.size, 0, none⟩) 0 0) := bP.cell 1
          have p2 : wG.cell? ⟨w5.heap.size, 2, none⟩ = some (.int .i64 (1 + r5)) := bP.cell 2
          have t0 : wG.cell? ⟨w6.heap.size, 0, none⟩ = some (.slice Xn q.1.nums.length kn) := bT.cell 0
          have t1 : wG.cell? ⟨w6.heap.size, 1, none⟩ = some (.slice Xd q.1.drawn.length kd) := bT.cell 1
          have t2 : wG.cell? ⟨w6.heap.size, 2, none⟩ = some (.int .i64 q.1.st) := bT.cell 2
          by_cases h0 : 0 < r9
          · have hd0 : decide (0 < r9) = true := decide_eq_true h0
            clear h0
            go_wp2_with fail
            exact bodyPost_ret (v := .agg #[.slice Xn q.1.nums.length kn, .slice Xd q.1.drawn.length kd, .int .i64 q.1.st]) (by simp [results, Tryz.results19, go_sem, c0, c1, c2']) rfl (set3_end (fun p => (p.nums.Nodup ∧ p.nums.length ≤ 60) ∧ poolOk p = true) (p := q.1) ⟨⟨by rw [Hqn.out (by simpa using hc)]; exact Hnd.out.1.2, hq.1⟩, Hqk.out (by simpa using hc)⟩ qN qD h9 G (by omega) (by omega) lg (Nat.le_refl _) (by omega) (by omega) ⟨by omega, by omega⟩ _ _ _)
          · have hd0 : decide (0 < r9) = false := decide_eq_false h0
            clear h0
            go_wp2_with fail
            exact bodyPost_ret (v := .agg #[.slice AQ xs.length cQ, .slice (some ⟨wr.heap.size, 0, none⟩) 0 0, .int .i64 (1 + r5)]) (by simp [results, Tryz.results19, go_sem, c0, c1, c2']) rfl (set3_end (fun p => (p.nums.Nodup ∧ p.nums.length ≤ 60) ∧ poolOk p = true) (p := ⟨xs, [], 1 + r5⟩) ⟨⟨Hnd.out.1.2, by show xs.length ≤ 60; omega⟩, goodAt_pool Hnd.out (by omega) (by omega) (by omega)⟩ rN rE h9 G (by omega) (by omega) lg (Nat.le_refl _) (by omega) (by omega) hl1 _ _ _)
    · have hm0 : (0 : Int) < ((m + 1 : Nat) : Int) := by omega
      go_wp2_with (at_builtin; refine wpList_append_rec (f := i64s) (s := 1) 2 _ _ (fun _ => rfl) i64s_one rfl _ _ 24 rfl (w.heap.size + 1) Tryz.infoI Tryz.underlying24 rfl (by decide) _ _ z rfl oq rfl rfl rfl (by omega) (by omega) (by omega) ?_)
      intro v6 w6 o6 hb6
      have hB6 := hb6 (w.heap.size + 1) wr (Below.refl _ _) (Nat.le_refl _)
      have h6 := hs.below hB6 (by omega)
      have bR6 := bR.below hB6 (by omega)
      have hg6 := gr_belowB hg hB6 (by omega)
      go_wp2_with fail
      refine (l01Next_any g 5 w6 h6).mono ?_
      rintro e w7 ⟨r7, rfl, a7, b7, _, h7, g7⟩
      have b7 := b7 (by omega)
      have o7 := o6.grown g7 (fun k hk => by have := Option.some.inj hk; omega)
      have bR7 := bR6.grown g7 (ne_src lg)
      have hg7 := grownBy_trans hg6 g7
      go_wp2_with fail
      go_roundw
      case rel => exact ⟨m, z + 1 + r7, xs ++ [z], by go_num, rfl, by omega, by omega, by omega, by rw [List.length_append]; show xs.length + 1 + m ≤ 9; omega, Lib.hid (goodAt_snoc Hnd.out (by omega) (by omega)), o7, h7, hg7, bR7⟩
      case measure => simp [intOf]
end Go.Proofs.YtodfkbgifoecbaaGreatDoor
