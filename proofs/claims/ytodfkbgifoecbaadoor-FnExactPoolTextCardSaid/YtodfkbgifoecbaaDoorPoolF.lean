/- Pools: copies, comparisons, sizes, the reading of one. No condition but the sizes that the law itself asks. -/
import Derived.Test.YtodfkbgifoecbaaDoorPoolA
import Derived.Test.YtodfkbgifoecbaaDoorFrame
namespace Go.Proofs.YtodfkbgifoecbaaDoor
open Go.ChangeShapes Go.WideShapes Go.ChangeAt Go.RowKit

set_option maxHeartbeats 1000000 in
theorem toPool_any (vn vd : Value) (nums drawn : List Int) (st : Int) (w : World) (lo lo' : Nat) (hn : SlI w lo w.heap.size vn nums) (hd : SlI w lo' w.heap.size vd drawn) (hl : nums.length ≤ 1048576) (hl' : drawn.length ≤ 1048576) :
    Calls Tryd.prog 23 #[.agg #[vn, vd, .int .i64 st]] w fun e w' => ∃ xn xd B, e = .returned (.agg #[xn, xd, .int .i64 st]) ∧ OwnR i64s 1 w' w.heap.size 2 xn nums ∧ OwnR i64s 1 w' B 2 xd drawn ∧ w.heap.size ≤ B ∧ (∀ g, xn.ownBlock = some g → g < B) ∧ Below w.heap.size w w' := by
  go_enter Tryd.func23, Tryd.ntmps23
  go_wp2_with fail
  have b1 : Blk (((w.alloc (.cells #[vn, vd, .int .i64 st] 42)).alloc (.cells #[.slice none 0 0, .slice none 0 0, .int .i64 0] 45)).alloc (.cells #[.slice none 0 0, .slice none 0 0, .int .i64 0] 45)) w.heap.size _ _ := ((Blk.new w _ _).alloc _).alloc _
  have b2 : Blk (((w.alloc (.cells #[vn, vd, .int .i64 st] 42)).alloc (.cells #[.slice none 0 0, .slice none 0 0, .int .i64 0] 45)).alloc (.cells #[.slice none 0 0, .slice none 0 0, .int .i64 0] 45)) (w.heap.size + 1) _ _ := (Blk.new' (by simp)).alloc _
  have b3 : Blk (((w.alloc (.cells #[vn, vd, .int .i64 st] 42)).alloc (.cells #[.slice none 0 0, .slice none 0 0, .int .i64 0] 45)).alloc (.cells #[.slice none 0 0, .slice none 0 0, .int .i64 0] 45)) (w.heap.size + 1 + 1) _ _ := Blk.new' (by simp)
  have hB0 : Below w.heap.size w (((w.alloc (.cells #[vn, vd, .int .i64 st] 42)).alloc (.cells #[.slice none 0 0, .slice none 0 0, .int .i64 0] 45)).alloc (.cells #[.slice none 0 0, .slice none 0 0, .int .i64 0] 45)) := (((Below.refl _ _).alloc (Nat.le_refl _) _).alloc (by simp) _).alloc (by simp; omega) _
  generalize (((w.alloc (.cells #[vn, vd, .int .i64 st] 42)).alloc (.cells #[.slice none 0 0, .slice none 0 0, .int .i64 0] 45)).alloc (.cells #[.slice none 0 0, .slice none 0 0, .int .i64 0] 45)) = W0 at *
  have hn0 := (hn.below hB0 (Nat.le_refl _)).more (hi' := W0.heap.size) (Nat.le_refl _) hB0.size
  have hd0 := hd.below hB0 (Nat.le_refl _)
  have l3 := b3.lt
  refine (toInt64S_any vn nums W0 lo hn0 hl).mono ?_
  rintro e w1 ⟨xn, rfl, o1, hb1⟩
  obtain ⟨X1, k1, rfl, _, _, _⟩ := own_form (OwnR.own o1)
  have z1 := hb1.size
  have bd1 := Lib.hid (World.ownsRow.lt (OwnR.own o1))
  have b1 := b1.below' hb1
  have b2 := b2.below' hb1
  have b3 := b3.below' hb1
  have hd1 := hd0.below hb1 (by omega)
  have hB1 := hB0.trans (hb1.mono (by omega))
  clear hB0 hd0 hn0 hb1
  have c11 : w1.cell? ⟨w.heap.size, 1, none⟩ = some vd := b1.cell 1
  have c12 : w1.cell? ⟨w.heap.size, 2, none⟩ = some (.int .i64 st) := b1.cell 2
  have c30 : w1.cell? ⟨w.heap.size + 1 + 1, 0, none⟩ = some (.slice none 0 0) := b3.cell 0
  have f30 : w1.frozen? ⟨w.heap.size + 1 + 1, 0, none⟩ = false := b3.frozen 0
  go_wp2_with fail
  clear c11 c12 c30 f30
  have hB2 : Below w.heap.size w (w1.setCell ⟨w.heap.size + 1 + 1, 0, none⟩ (.slice X1 nums.length k1)) := hB1.setCell (by simp; omega) _
  have b1 := b1.far (p := ⟨w.heap.size + 1 + 1, 0, none⟩) (by simp; omega) (.slice X1 nums.length k1)
  have b2 := b2.far (p := ⟨w.heap.size + 1 + 1, 0, none⟩) (by simp) (.slice X1 nums.length k1)
  have b3 := b3.set_ 0 (.slice X1 nums.length k1)
  have o1 := o1.setCell ⟨w.heap.size + 1 + 1, 0, none⟩ (.slice X1 nums.length k1) (fun k hk => by have := bd1.out k hk; simp; omega)
  have hd1 := hd1.setCell ⟨w.heap.size + 1 + 1, 0, none⟩ (.slice X1 nums.length k1) (.inr (by simp; omega))
  have z2 := size_setCell w1 ⟨w.heap.size + 1 + 1, 0, none⟩ (.slice X1 nums.length k1)
  generalize w1.setCell ⟨w.heap.size + 1 + 1, 0, none⟩ (.slice X1 nums.length k1) = W2 at *
  have hd2 := hd1.more (hi' := W2.heap.size) (Nat.le_refl _) (by omega)
  refine (toInt64S_any vd drawn W2 lo' hd2 hl').mono ?_
  rintro e w3 ⟨xd, rfl, o2, hb3⟩
  obtain ⟨X2, k2, rfl, _, _, _⟩ := own_form (OwnR.own o2)
  have z3 := hb3.size
  have b1 := b1.below' hb3
  have b2 := b2.below' hb3
  have b3 := b3.below' hb3
  have o1 := o1.below hb3
  have hB3 := hB2.trans (hb3.mono (by omega))
  have bd2 := Lib.hid (World.ownsRow.lt (OwnR.own o2))
  clear hd2 hd1 hd hn hb3 hB2 hB1
  have c12 : w3.cell? ⟨w.heap.size, 2, none⟩ = some (.int .i64 st) := b1.cell 2
  have c30 : w3.cell? ⟨w.heap.size + 1 + 1, 0, none⟩ = some (.slice X1 nums.length k1) := b3.cell 0
  have c31 : w3.cell? ⟨w.heap.size + 1 + 1, 1, none⟩ = some (.slice none 0 0) := b3.cell 1
  have c32 : w3.cell? ⟨w.heap.size + 1 + 1, 2, none⟩ = some (.int .i64 0) := b3.cell 2
  have f31 : w3.frozen? ⟨w.heap.size + 1 + 1, 1, none⟩ = false := b3.frozen 1
  have f32 : w3.frozen? ⟨w.heap.size + 1 + 1, 2, none⟩ = false := b3.frozen 2
  have c20 : w3.cell? ⟨w.heap.size + 1, 0, none⟩ = some (.slice none 0 0) := b2.cell 0
  have c21 : w3.cell? ⟨w.heap.size + 1, 1, none⟩ = some (.slice none 0 0) := b2.cell 1
  have c22 : w3.cell? ⟨w.heap.size + 1, 2, none⟩ = some (.int .i64 0) := b2.cell 2
  have f20 : w3.frozen? ⟨w.heap.size + 1, 0, none⟩ = false := b2.frozen 0
  have f21 : w3.frozen? ⟨w.heap.size + 1, 1, none⟩ = false := b2.frozen 1
  have f22 : w3.frozen? ⟨w.heap.size + 1, 2, none⟩ = false := b2.frozen 2
  go_wp2_with fail
  refine bodyPost_ret (v := .agg #[.slice X1 nums.length k1, .slice X2 drawn.length k2, .int .i64 st]) (by simp [results, Tryd.results23, go_sem, c30, c31, c32, c20, c21, c22]) rfl ⟨_, _, W2.heap.size, rfl, ?_, ?_, by omega, fun g hg => by have := bd1.out g hg; omega, ?_⟩
  · repeat' refine OwnR.setCell ?_ _ _ (fun k hk => by have := bd1.out k hk; simp; omega)
    exact o1.more (by omega)
  · repeat' refine OwnR.setCell ?_ _ _ (fun k hk => by have := bd2.out k hk; simp; omega)
    exact o2
  · repeat' refine Below.setCell ?_ (by simp; try omega) _
    exact hB3

theorem szPool_small (vn vd : Value) (nums drawn : List Int) (st : Int) (w : World) {lo hi lo' hi' : Nat} (hn : SlI w lo hi vn nums) (hd : SlI w lo' hi' vd drawn) (hh : hi ≤ w.heap.size) (hh' : hi' ≤ w.heap.size) (hs : nums.length + drawn.length ≤ 1048576) :
    Calls Tryd.prog 21 #[.agg #[vn, vd, .int .i64 st], .int .i64 1048576] w fun e w' => e = .returned (.int .i64 (1048576 - (nums.length : Int) - (drawn.length : Int))) ∧ Below w.heap.size w w' := by
  have q0 : ¬ (1048576 : Int) - nums.length < 0 := by omega
  have q1 : ¬ (1048576 : Int) - nums.length - drawn.length < 0 := by omega
  go_enter Tryd.func21, Tryd.ntmps21
  go_wp2_with fail
  have hB : Below w.heap.size w (w.alloc (.cells #[vn, vd, .int .i64 st] 42)) := (Below.refl _ _).alloc (Nat.le_refl _) _
  refine (szInt64S_any vn nums _ _ (hn.below hB hh) (by omega) (by omega)).mono ?_
  rintro e w1 ⟨rfl, rfl⟩
  rw [if_neg (by omega)]
  go_wp2_with fail
  refine (szInt64S_any vd drawn _ _ (hd.below hB hh') (by omega) (by omega)).mono ?_
  rintro e w1 ⟨rfl, rfl⟩
  rw [if_neg (by omega)]
  go_wp2_with fail
  go_ret
  exact ⟨rfl, hB⟩

theorem szPool_big (vn vd : Value) (nums drawn : List Int) (st : Int) (w : World) {lo hi lo' hi' : Nat} (hn : SlI w lo hi vn nums) (hd : SlI w lo' hi' vd drawn) (hh : hi ≤ w.heap.size) (hh' : hi' ≤ w.heap.size) (hs : 1048576 < nums.length + drawn.length) :
    Calls Tryd.prog 21 #[.agg #[vn, vd, .int .i64 st], .int .i64 1048576] w fun e w' => e = .returned (.int .i64 (-1)) ∧ Below w.heap.size w w' := by
  have hB : Below w.heap.size w (w.alloc (.cells #[vn, vd, .int .i64 st] 42)) := (Below.refl _ _).alloc (Nat.le_refl _) _
  by_cases q0 : (1048576 : Int) - nums.length < 0
  · go_enter Tryd.func21, Tryd.ntmps21
    go_wp2_with fail
    refine (szInt64S_any vn nums _ _ (hn.below hB hh) (by omega) (by omega)).mono ?_
    rintro e w1 ⟨rfl, rfl⟩
    rw [if_pos (by omega)]
    go_wp2_with fail
    go_ret
    exact ⟨rfl, hB⟩
  · have q1 : (1048576 : Int) - nums.length - drawn.length < 0 := by omega
    go_enter Tryd.func21, Tryd.ntmps21
    go_wp2_with fail
    refine (szInt64S_any vn nums _ _ (hn.below hB hh) (by omega) (by omega)).mono ?_
    rintro e w1 ⟨rfl, rfl⟩
    rw [if_neg (by omega)]
    go_wp2_with fail
    refine (szInt64S_any vd drawn _ _ (hd.below hB hh') (by omega) (by omega)).mono ?_
    rintro e w1 ⟨rfl, rfl⟩
    rw [if_pos (by omega)]
    go_wp2_with fail
    go_ret
    exact ⟨rfl, hB⟩

set_option maxHeartbeats 1000000 in
theorem eqPool_any (un ud vn vd : Value) (n1 d1 n2 d2 : List Int) (s1 s2 : Int) (w : World) (l1 l2 l3 l4 : Nat) (h1 : SlI w l1 w.heap.size un n1) (h2 : SlI w l2 w.heap.size ud d1) (h3 : SlI w l3 w.heap.size vn n2) (h4 : SlI w l4 w.heap.size vd d2) :
    Calls Tryd.prog 25 #[.agg #[un, ud, .int .i64 s1], .agg #[vn, vd, .int .i64 s2]] w fun e w' => e = .returned (.bool (decide (n1 = n2) && decide (d1 = d2) && s1 == s2)) ∧ Below w.heap.size w w' := by
  go_enter Tryd.func25, Tryd.ntmps25
  go_wp2_with fail
  have b1 : Blk ((w.alloc (.cells #[un, ud, .int .i64 s1] 45)).alloc (.cells #[vn, vd, .int .i64 s2] 45)) w.heap.size _ _ := (Blk.new w _ _).alloc _
  have b2 : Blk ((w.alloc (.cells #[un, ud, .int .i64 s1] 45)).alloc (.cells #[vn, vd, .int .i64 s2] 45)) (w.heap.size + 1) _ _ := Blk.new' (by simp)
  have hB : Below w.heap.size w ((w.alloc (.cells #[un, ud, .int .i64 s1] 45)).alloc (.cells #[vn, vd, .int .i64 s2] 45)) := ((Below.refl _ _).alloc (Nat.le_refl _) _).alloc (by simp) _
  generalize ((w.alloc (.cells #[un, ud, .int .i64 s1] 45)).alloc (.cells #[vn, vd, .int .i64 s2] 45)) = W at *
  have z0 := hB.size
  have up : ∀ {v : Value} {l : Nat} {zs : List Int} {w1 : World}, SlI w l w.heap.size v zs → Below w.heap.size w w1 → SlI w1 l w1.heap.size v zs := fun h hb => (h.below hb (Nat.le_refl _)).more (Nat.le_refl _) hb.size
  refine (eqInt64S_any un vn n1 n2 W _ _ (up h1 hB) (up h3 hB)).mono ?_
  rintro e w1 ⟨rfl, hb1⟩
  have hB1 := hB.trans (hb1.mono z0)
  have c01 : w1.cell? ⟨w.heap.size, 1, none⟩ = some ud := (b1.below' hb1).cell 1
  have c02 : w1.cell? ⟨w.heap.size, 2, none⟩ = some (.int .i64 s1) := (b1.below' hb1).cell 2
  have c11 : w1.cell? ⟨w.heap.size + 1, 1, none⟩ = some vd := (b2.below' hb1).cell 1
  have c12 : w1.cell? ⟨w.heap.size + 1, 2, none⟩ = some (.int .i64 s2) := (b2.below' hb1).cell 2
  cases e1 : decide (n1 = n2)
  · go_wp2_with fail
    go_ret
    exact ⟨ret_bool (by simp_all), hB1⟩
  · go_wp2_with fail
    refine (eqInt64S_any ud vd d1 d2 _ _ _ (up h2 hB1) (up h4 hB1)).mono ?_
    rintro e w2 ⟨rfl, hb2⟩
    have hB2 := hB1.trans (hb2.mono hB1.size)
    clear c01 c02 c11 c12
    have c02 : w2.cell? ⟨w.heap.size, 2, none⟩ = some (.int .i64 s1) := ((b1.below' hb1).below' hb2).cell 2
    have c12 : w2.cell? ⟨w.heap.size + 1, 2, none⟩ = some (.int .i64 s2) := ((b2.below' hb1).below' hb2).cell 2
    cases e2 : decide (d1 = d2)
    · go_wp2_with fail
      go_ret
      exact ⟨ret_bool (by simp_all), hB2⟩
    · go_wp2_with fail
      all_goals go_ret
      all_goals exact ⟨ret_bool (by simp_all), hB2⟩

theorem cells_lawsPool : Tryd.prog.cellsOf 42 = 3 := by kernel_rfl
set_option maxRecDepth 100000 in
theorem open_PoolV {H : Type} {enc : TypeId × Value → H} {w : World} {base : Nat} {v : Value} {d : DataW H} {p : List MemPlace} (hv : Value.okWide Tryd.prog w .any base 42 v) (h : DataW.Trod enc Tryd.prog w 0 (fun _ => true) true 42 v d p) :
    ∃ (vn vd : Value) (q : P3), v = .agg #[vn, vd, .int .i64 q.st] ∧ SlI w 0 w.heap.size vn q.nums ∧ SlI w 0 w.heap.size vd q.drawn := by
  obtain ⟨cs, rfl, hsz⟩ := okWide_struct Tryd.underlying42 hv
  rw [cells_lawsPool] at hsz
  obtain ⟨fuel, hf⟩ := h
  obtain ⟨m0, z0, v0, e0, g0⟩ := open_field Tryd.underlying42 hf 0 0 22 rfl rfl rfl cells_slI (by simp [Value.cells, hsz])
  obtain ⟨m1, z1, v1, e1, g1⟩ := open_field Tryd.underlying42 hf 1 1 22 rfl rfl rfl cells_slI (by simp [Value.cells, hsz])
  obtain ⟨a2, e2, _⟩ := field_i64 Tryd.underlying42 hf 2 2 2 rfl rfl rfl Tryd.underlying2 cells_i64 (by simp [Value.cells, hsz])
  obtain ⟨n, hn, _⟩ := open_slI Tryd.underlying22 Tryd.underlying2 cells_i64 g0
  obtain ⟨d, hd, _⟩ := open_slI Tryd.underlying22 Tryd.underlying2 cells_i64 g1
  refine ⟨v0, v1, ⟨n, d, a2⟩, ?_, hn, hd⟩
  obtain ⟨l⟩ := cs
  match l, hsz with
  | [x0, x1, x2], _ =>
    simp [Value.cells] at e0 e1 e2
    subst e0 e1 e2
    rfl
end Go.Proofs.YtodfkbgifoecbaaDoor
