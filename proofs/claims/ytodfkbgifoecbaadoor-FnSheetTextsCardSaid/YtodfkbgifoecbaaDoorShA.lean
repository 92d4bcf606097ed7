/- Sheets (a day and the numbers that were present): copies, comparisons, sizes, the reading of a list of them. No condition but the sizes that the law itself asks. -/
import Derived.Test.YtodfkbgifoecbaaDoorIntC
namespace Go.Proofs.YtodfkbgifoecbaaDoor
open Go.ChangeShapes Go.WideShapes Go.ChangeAt Go.RowKit

/-- A sheet as it lies: its day, the slice, and what the slice reads. -/
structure H2 where
  day : Int
  A : Option Addr
  c : Nat
  pres : List Int
def H2.vals (x : H2) : List Value := [.int .i64 x.day, (.slice x.A x.pres.length x.c)]
def H2.ct (x : H2) : Int × List Int := (x.day, x.pres)
structure SlH (w : World) (lo hi : Nat) (v : Value) (xs : List H2) : Prop where
  outer : SlR H2.vals 2 w lo hi v xs
  inner : ∀ x ∈ xs, SlI w lo hi (.slice x.A x.pres.length x.c) x.pres
section
variable {w w' : World} {lo hi lo' hi' : Nat} {v : Value} {xs : List H2}
theorem SlH.form (h : SlH w lo hi v xs) : ∃ A c, v = .slice A xs.length c ∧ xs.length ≤ c ∧ c ≤ 9223372036854775807 := h.outer.form
theorem SlH.below {B : Nat} (h : SlH w lo hi v xs) (hb : Below B w w') (hB : hi ≤ B) : SlH w' lo hi v xs := ⟨h.outer.below hb hB, fun x hx => (h.inner x hx).below hb hB⟩
theorem SlH.more (h : SlH w lo hi v xs) (h1 : lo' ≤ lo) (h2 : hi ≤ hi') : SlH w lo' hi' v xs := ⟨h.outer.more h1 h2, fun x hx => (h.inner x hx).more h1 h2⟩
theorem SlH.grown {row : Option Nat} (h : SlH w lo hi v xs) (hg : w.grownBy w' row) (hh : hi ≤ w.heap.size) (hr : ∀ g, row = some g → g < lo ∨ hi ≤ g) : SlH w' lo hi v xs := ⟨h.outer.grown hg hh hr, fun x hx => (h.inner x hx).grown hg hh hr⟩
theorem SlH.at_ {A : Option Addr} {n c k : Nat} {x : H2} (h : SlH w lo hi (.slice A n c) xs) (hk : xs[k]? = some x) :
    ∃ b off, A = some ⟨b, off, none⟩ ∧ lo ≤ b ∧ b < hi ∧ w.cell? ⟨b, off + k * 2, none⟩ = some (.int .i64 x.day) ∧ w.cell? ⟨b, off + k * 2 + 1, none⟩ = some (.slice x.A x.pres.length x.c) ∧ SlI w lo hi (.slice x.A x.pres.length x.c) x.pres := by
  obtain ⟨b, off, e, h1, h2, h3⟩ := h.outer.at_ hk
  exact ⟨b, off, e, h1, h2, h3 0 _ rfl, h3 1 _ rfl, h.inner x (List.mem_of_getElem? hk)⟩
theorem SlH.ext (h : SlH w lo hi v xs) (hh : hi ≤ w.heap.size) (e : Ext) : SlH (World.ext w e) lo (World.ext w e).heap.size v xs := ⟨h.outer.ext hh e, fun x hx => (h.inner x hx).ext hh e⟩
end

/-- The call owns the row, and each list in it, and these lie apart. -/
structure OwnH (w : World) (base : Nat) (v : Value) (xs : List H2) : Prop where
  outer : OwnR H2.vals 2 w base 28 v xs
  inner : ∀ x ∈ xs, OwnR i64s 1 w base 2 (.slice x.A x.pres.length x.c) x.pres
  apart : xs.Pairwise (fun x y => ∀ g, (Value.slice x.A x.pres.length x.c).ownBlock = some g → (Value.slice y.A y.pres.length y.c).ownBlock ≠ some g)
  off : ∀ x ∈ xs, ∀ g, v.ownBlock = some g → (Value.slice x.A x.pres.length x.c).ownBlock ≠ some g
section
variable {w w' : World} {base : Nat} {v : Value} {xs : List H2}
theorem OwnH.sl (h : OwnH w base v xs) : SlH w base w.heap.size v xs := ⟨own_slR (f := H2.vals) (s := 2) (fun _ => rfl) h.outer, fun x hx => own_slI (h.inner x hx)⟩
theorem OwnH.below (h : OwnH w base v xs) (hb : Below w.heap.size w w') : OwnH w' base v xs := ⟨h.outer.below hb, fun x hx => (h.inner x hx).below hb, h.apart, h.off⟩
theorem OwnH.more {base' : Nat} (h : OwnH w base v xs) (hb : base' ≤ base) : OwnH w base' v xs := ⟨h.outer.more hb, fun x hx => (h.inner x hx).more hb, h.apart, h.off⟩
theorem OwnH.grown {row : Option Nat} (h : OwnH w base v xs) (hg : w.grownBy w' row) (hne : ∀ g, row = some g → g < base ∨ w.heap.size ≤ g) : OwnH w' base v xs := ⟨h.outer.grown hg hne, fun x hx => (h.inner x hx).grown hg hne, h.apart, h.off⟩
end

set_option maxHeartbeats 1000000 in
theorem toSheet_any (pv : Value) (day : Int) (pres : List Int) (w : World) (lo : Nat) (h : SlI w lo w.heap.size pv pres) (hl : pres.length ≤ 1048576) :
    Calls Tryd.prog 10 #[.agg #[.int .i64 day, pv]] w fun e w' => ∃ xv, e = .returned (.agg #[.int .i64 day, xv]) ∧ OwnR i64s 1 w' w.heap.size 2 xv pres ∧ Below w.heap.size w w' := by
  go_enter Tryd.func10, Tryd.ntmps10
  go_wp2_with fail
  have b1 : Blk (((w.alloc (.cells #[.int .i64 day, pv] 24)).alloc (.cells #[.int .i64 0, .slice none 0 0] 28)).alloc (.cells #[.int .i64 day, .slice none 0 0] 28)) w.heap.size _ _ := ((Blk.new w _ _).alloc _).alloc _
  have b2 : Blk (((w.alloc (.cells #[.int .i64 day, pv] 24)).alloc (.cells #[.int .i64 0, .slice none 0 0] 28)).alloc (.cells #[.int .i64 day, .slice none 0 0] 28)) (w.heap.size + 1) _ _ := (Blk.new' (by simp)).alloc _
  have b3 : Blk (((w.alloc (.cells #[.int .i64 day, pv] 24)).alloc (.cells #[.int .i64 0, .slice none 0 0] 28)).alloc (.cells #[.int .i64 day, .slice none 0 0] 28)) (w.heap.size + 1 + 1) _ _ := Blk.new' (by simp)
  have hB0 : Below w.heap.size w (((w.alloc (.cells #[.int .i64 day, pv] 24)).alloc (.cells #[.int .i64 0, .slice none 0 0] 28)).alloc (.cells #[.int .i64 day, .slice none 0 0] 28)) := (((Below.refl _ _).alloc (Nat.le_refl _) _).alloc (by simp) _).alloc (by simp; omega) _
  generalize (((w.alloc (.cells #[.int .i64 day, pv] 24)).alloc (.cells #[.int .i64 0, .slice none 0 0] 28)).alloc (.cells #[.int .i64 day, .slice none 0 0] 28)) = W0 at *
  have h0 := (h.below hB0 (Nat.le_refl _)).more (hi' := W0.heap.size) (Nat.le_refl _) hB0.size
  have l3 := b3.lt
  refine (toInt64S_any pv pres W0 lo h0 hl).mono ?_
  rintro e w1 ⟨xn, rfl, o1, hb1⟩
  obtain ⟨X1, k1, rfl, _, _, _⟩ := own_form (OwnR.own o1)
  have z1 := hb1.size
  have bd1 := Lib.hid (World.ownsRow.lt (OwnR.own o1))
  have b1 := b1.below' hb1
  have b2 := b2.below' hb1
  have b3 := b3.below' hb1
  have hB1 := hB0.trans (hb1.mono (by omega))
  clear hB0 h0 hb1
  have c30 : w1.cell? ⟨w.heap.size + 1 + 1, 0, none⟩ = some (.int .i64 day) := b3.cell 0
  have c31 : w1.cell? ⟨w.heap.size + 1 + 1, 1, none⟩ = some (.slice none 0 0) := b3.cell 1
  have f31 : w1.frozen? ⟨w.heap.size + 1 + 1, 1, none⟩ = false := b3.frozen 1
  have c20 : w1.cell? ⟨w.heap.size + 1, 0, none⟩ = some (.int .i64 0) := b2.cell 0
  have c21 : w1.cell? ⟨w.heap.size + 1, 1, none⟩ = some (.slice none 0 0) := b2.cell 1
  have f20 : w1.frozen? ⟨w.heap.size + 1, 0, none⟩ = false := b2.frozen 0
  have f21 : w1.frozen? ⟨w.heap.size + 1, 1, none⟩ = false := b2.frozen 1
  go_wp2_with fail
  refine bodyPost_ret (v := .agg #[.int .i64 day, .slice X1 pres.length k1]) (by simp [results, Tryd.results10, go_sem, c30, c31, c20, c21]) rfl ⟨_, rfl, ?_, ?_⟩
  · repeat' refine OwnR.setCell ?_ _ _ (fun k hk => by have := bd1.out k hk; simp; omega)
    exact o1.more (by omega)
  · repeat' refine Below.setCell ?_ (by simp; try omega) _
    exact hB1

set_option maxHeartbeats 1000000 in
theorem eqSheet_any (u v : Value) (d e : Int) (xs ys : List Int) (w : World) (lo lo' : Nat) (h1 : SlI w lo w.heap.size u xs) (h2 : SlI w lo' w.heap.size v ys) :
    Calls Tryd.prog 12 #[.agg #[.int .i64 d, u], .agg #[.int .i64 e, v]] w fun x w' => x = .returned (.bool (decide ((d, xs) = (e, ys)))) ∧ Below w.heap.size w w' := by
  rw [show decide ((d, xs) = (e, ys)) = (d == e && decide (xs = ys)) by rw [Bool.eq_iff_iff]; simp]
  cases he : d == e
  · have hne : (d != e) = true := by simp [bne, he]
    go_enter Tryd.func12, Tryd.ntmps12
    go_wp2_with fail
    go_ret
    exact ⟨rfl, ((Below.refl _ _).alloc (Nat.le_refl _) _).alloc (by simp) _⟩
  · have hne : (d != e) = false := by simp [bne, he]
    go_enter Tryd.func12, Tryd.ntmps12
    go_wp2_with fail
    have hB : Below w.heap.size w ((w.alloc (.cells #[.int .i64 d, u] 28)).alloc (.cells #[.int .i64 e, v] 28)) := ((Below.refl _ _).alloc (Nat.le_refl _) _).alloc (by simp) _
    generalize ((w.alloc (.cells #[.int .i64 d, u] 28)).alloc (.cells #[.int .i64 e, v] 28)) = W at *
    have up : ∀ {v : Value} {l : Nat} {zs : List Int} {w1 : World}, SlI w l w.heap.size v zs → Below w.heap.size w w1 → SlI w1 l w1.heap.size v zs := fun h hb => (h.below hb (Nat.le_refl _)).more (Nat.le_refl _) hb.size
    refine (eqInt64S_any u v xs ys W _ _ (up h1 hB) (up h2 hB)).mono ?_
    rintro e1 w1 ⟨rfl, hb1⟩
    have hB1 := hB.trans (hb1.mono hB.size)
    cases e1 : decide (xs = ys)
    all_goals go_wp2_with fail
    all_goals go_ret
    all_goals exact ⟨by rw [e1]; rfl, hB1⟩

theorem eqSheet_as {u v : Value} {d e : Int} {xs ys : List Int} {r : Bool} (hr : decide ((d, xs) = (e, ys)) = r) {w : World} {lo lo' : Nat} (h1 : SlI w lo w.heap.size u xs) (h2 : SlI w lo' w.heap.size v ys) :
    Calls Tryd.prog 12 #[.agg #[.int .i64 d, u], .agg #[.int .i64 e, v]] w fun x w' => x = .returned (.bool r) ∧ Below w.heap.size w w' := hr ▸ eqSheet_any u v d e xs ys w lo lo' h1 h2

set_option maxHeartbeats 1000000 in
theorem szSheet_any (pv : Value) (day : Int) (pres : List Int) (l : Int) (w : World) {lo hi : Nat} (h : SlI w lo hi pv pres) (hh : hi ≤ w.heap.size) (hl : 0 ≤ l) (hl1 : l ≤ 1048576) :
    Calls Tryd.prog 8 #[.agg #[.int .i64 day, pv], .int .i64 l] w fun e w' => e = .returned (.int .i64 (if l - pres.length < 0 then -1 else l - pres.length)) ∧ Below w.heap.size w w' := by
  have hB : Below w.heap.size w (w.alloc (.cells #[.int .i64 day, pv] 24)) := (Below.refl _ _).alloc (Nat.le_refl _) _
  go_enter Tryd.func8, Tryd.ntmps8
  go_wp2_with fail
  refine (szInt64S_any pv pres _ _ (h.below hB hh) (by omega) (by omega)).mono ?_
  rintro e w1 ⟨rfl, rfl⟩
  by_cases q0 : l - (pres.length : Int) < 0
  · rw [if_pos q0]
    go_wp2_with fail
    go_ret
    exact ⟨rfl, hB⟩
  · rw [if_neg q0]
    go_wp2_with fail
    go_ret
    exact ⟨rfl, hB⟩

theorem Tryd.infoH2 : (Tryd.prog.info? 28).map (fun i => (i.zero, i.size, i.bytes)) = some (some (.agg #[.int .i64 0, .slice none 0 0]), 2, 32) := by kernel_rfl
theorem own_rowH2 {w : World} {base : Nat} {e : TypeId} {g n c : Nat} {xs : List Value} (h : w.ownsRow base e 2 (.slice (some ⟨g, 0, none⟩) n c) n xs) {k : Nat} (hk : k < n) :
    (∃ u, w.cell? ⟨g, k * 2, none⟩ = some u) ∧ (∃ u, w.cell? ⟨g, k * 2 + 1, none⟩ = some u) ∧ w.frozen? ⟨g, k * 2, none⟩ = false ∧ w.frozen? ⟨g, k * 2 + 1, none⟩ = false :=
  ⟨(own_cellAt h (k * 2) (by omega)).1, (own_cellAt h (k * 2 + 1) (by omega)).1, (own_cellAt h (k * 2) (by omega)).2, (own_cellAt h (k * 2 + 1) (by omega)).2⟩

/-- v reads as sheets with these days and numbers. -/
def RdH (w : World) (lo hi : Nat) (v : Value) (z : List (Int × List Int)) : Prop := ∃ xs, SlH w lo hi v xs ∧ xs.map H2.ct = z
def OwH (w : World) (lo hi : Nat) (v : Value) (z : List (Int × List Int)) : Prop := ∃ xs, OwnH w lo v xs ∧ xs.map H2.ct = z ∧ (∀ g, v.ownBlock = some g → g < hi) ∧ ∀ x ∈ xs, ∀ g, (Value.slice x.A x.pres.length x.c).ownBlock = some g → g < hi
section
variable {w w' : World} {lo hi lo' hi' : Nat} {v : Value} {z : List (Int × List Int)}
theorem RdH.form (h : RdH w lo hi v z) : ∃ A c, v = .slice A z.length c ∧ z.length ≤ c ∧ c ≤ 9223372036854775807 := by
  obtain ⟨xs, h, rfl⟩ := h
  rw [List.length_map]; exact h.form
theorem RdH.below {B : Nat} (h : RdH w lo hi v z) (hb : Below B w w') (hB : hi ≤ B) : RdH w' lo hi v z := h.imp fun _ h => ⟨h.1.below hb hB, h.2⟩
theorem RdH.more (h : RdH w lo hi v z) (h1 : lo' ≤ lo) (h2 : hi ≤ hi') : RdH w lo' hi' v z := h.imp fun _ h => ⟨h.1.more h1 h2, h.2⟩
theorem RdH.chg (h : RdH w lo' hi' v z) (hc : Chg lo hi w w') (hh : hi' ≤ w.heap.size) (hd : hi' ≤ lo ∨ hi ≤ lo') : RdH w' lo' hi' v z := h.imp fun _ h => ⟨⟨h.1.outer.chg hc hh hd, fun x hx => (h.1.inner x hx).chg hc hh hd⟩, h.2⟩
theorem OwH.of {xs : List H2} (h : OwnH w lo v xs) (hz : xs.map H2.ct = z) : OwH w lo w.heap.size v z :=
  ⟨xs, h, hz, fun g hg => (World.ownsRow.lt (OwnR.own h.outer) g hg).2, fun x hx g hg => (World.ownsRow.lt (OwnR.own (h.inner x hx)) g hg).2⟩
theorem OwH.below (h : OwH w lo hi v z) (hb : Below w.heap.size w w') : OwH w' lo hi v z := h.imp fun _ h => ⟨h.1.below hb, h.2⟩
theorem OwH.rd (h : OwH w lo hi v z) : RdH w lo w.heap.size v z := h.imp fun _ h => ⟨h.1.sl, h.2.1⟩
theorem OwH.chg (h : OwH w lo hi v z) (hc : Chg lo' hi' w w') (hd : hi ≤ lo' ∨ hi' ≤ lo) : OwH w' lo hi v z := by
  obtain ⟨xs, h, hz, h1, h2⟩ := h
  refine ⟨xs, ⟨h.outer.keep fun g hg => ?_, fun x hx => (h.inner x hx).keep fun g hg => ?_, h.apart, h.off⟩, hz, h1, h2⟩
  · have := World.ownsRow.lt (OwnR.own h.outer) g hg
    have := h1 g hg
    exact hc.block g (by omega) (by omega)
  · have := World.ownsRow.lt (OwnR.own (h.inner x hx)) g hg
    have := h2 x hx g hg
    exact hc.block g (by omega) (by omega)
end

theorem cells_lawsSheet : Tryd.prog.cellsOf 24 = 2 := by kernel_rfl
set_option maxRecDepth 100000 in
theorem open_H2 {H : Type} {enc : TypeId × Value → H} {w : World} {spare : Nat → Bool} {held : Bool} {n : Nat} {cs : List Value} {y : DataW H × List MemPlace} (h : DataW.trod enc Tryd.prog w 0 spare held n 24 cs = some y) :
    ∃ a : H2, cs = a.vals ∧ SlI w 0 w.heap.size (.slice a.A a.pres.length a.c) a.pres := by
  have hl := struct_len Tryd.underlying24 h
  rw [cells_lawsSheet] at hl
  obtain ⟨a0, e0, _⟩ := field_i64 Tryd.underlying24 h 0 0 2 rfl rfl rfl Tryd.underlying2 cells_i64 (by omega)
  obtain ⟨m1, z1, v1, e1, g1⟩ := open_field Tryd.underlying24 h 1 1 22 rfl rfl rfl cells_slI (by omega)
  obtain ⟨n1, hn1, _⟩ := open_slI Tryd.underlying22 Tryd.underlying2 cells_i64 g1
  obtain ⟨A, c, rfl, _, _⟩ := hn1.form
  match cs, hl with
  | [x0, x1], _ =>
    simp at e0 e1
    subst e0 e1
    exact ⟨⟨a0, A, c, n1⟩, rfl, hn1⟩

end Go.Proofs.YtodfkbgifoecbaaDoor
