/- The source of numbers that the laws' inputs are drawn from: its block, and what handing out a number does. No condition. -/
import Derived.Test.YtkhojhgcopnenaaIntC
import Derived.Test.YtkhojhgcopnenaaReg
namespace Go.Proofs.Ytkhojhgcopnenaa
open Go.RowKit
attribute [local go_sem ↓] Go.wp_at_zero Go.wp_at_succ

def u8s (z : Int) : List Value := [.int .u8 z]
theorem SlU.at_ {w : World} {lo hi : Nat} {zs : List Int} {A : Option Addr} {n c k : Nat} {x : Int} (h : SlR u8s 1 w lo hi (.slice A n c) zs) (hk : zs[k]? = some x) :
    ∃ b off, A = some ⟨b, off, none⟩ ∧ lo ≤ b ∧ b < hi ∧ w.cell? ⟨b, off + k, none⟩ = some (.int .u8 x) := by
  obtain ⟨b, off, e, h1, h2, h3⟩ := h.at_ hk
  exact ⟨b, off, e, h1, h2, by simpa using h3 0 _ rfl⟩

/-- Block g is a source: the bytes that it draws from lie below it. -/
def Src (w : World) (g : Nat) : Prop :=
  ∃ (v : Value) (bs : List Int) (k : Nat) (s : Int), Blk w g 106 #[v, .int .i64 k, .int .i64 s] ∧ k ≤ bs.length ∧ 0 ≤ s ∧ s ≤ 2147483646 ∧ SlR u8s 1 w 0 g v bs ∧ ∀ b ∈ bs, 0 ≤ b ∧ b ≤ 255
section
variable {w w' : World} {g : Nat}
theorem Src.lt (h : Src w g) : g < w.heap.size := by obtain ⟨_, _, _, _, h, _⟩ := h; exact h.lt
theorem Src.keep (h : Src w g) (hk : ∀ k, k ≤ g → w'.heap[k]? = w.heap[k]?) : Src w' g := by
  obtain ⟨v, bs, k, s, h1, h2, h3, h4, h5, h6⟩ := h
  exact ⟨v, bs, k, s, (hk g (Nat.le_refl _)).trans h1, h2, h3, h4, h5.keep fun k _ hlt => hk k (by omega), h6⟩
theorem Src.below {B : Nat} (h : Src w g) (hb : Below B w w') (hB : g < B) : Src w' g := h.keep fun k hk => hb.block k (by omega)
theorem Src.below' (h : Src w g) (hb : Below w.heap.size w w') : Src w' g := h.below hb h.lt
theorem Src.alloc (h : Src w g) (o : Obj) : Src (w.alloc o) g := h.below' ((Below.refl _ _).alloc (Nat.le_refl _) o)
theorem Src.drew (h : Src w g) : Src w.drew g := h.keep fun _ _ => rfl
theorem Src.grown {row : Option Nat} (h : Src w g) (hg : w.grownBy w' row) (hr : ∀ b, row = some b → g < b) : Src w' g :=
  h.keep fun k hk => hg.block k (by have := h.lt; omega) (fun e => by have := hr k e.symm; omega)
theorem Src.setCell (h : Src w g) {p : Addr} (hp : g < p.block) (u : Value) : Src (w.setCell p u) g := h.keep fun k hk => Below.heap_setCell w p u k (by omega)
end

/-- A world in which the draws have gone on: what lay before lies as it lay, but for the source. -/
theorem gr_alloc {w w' : World} {g : Nat} (h : w.grownBy w' (some g)) (o : Obj) : w.grownBy (w'.alloc o) (some g) :=
  grownBy_trans h ⟨rfl, rfl, rfl, by simp, fun k hk _ => heap_alloc_old w' o hk⟩
theorem gr_below {w w' w2 : World} {g : Nat} (h : w.grownBy w' (some g)) (hb : Below w'.heap.size w' w2) : w.grownBy w2 (some g) := grownBy_trans h (grownBy_of_below hb)
theorem gr_row {w w' w2 : World} {g : Nat} {row : Option Nat} (h : w.grownBy w' (some g)) (hb : w'.grownBy w2 row) (hr : ∀ b, row = some b → w.heap.size ≤ b) : w.grownBy w2 (some g) :=
  ⟨hb.os.trans h.os, hb.tape.trans h.tape, hb.output.trans h.output, Nat.le_trans h.size hb.size, fun i hi hne => (hb.block i (Nat.lt_of_lt_of_le hi h.size) (fun e => by have := hr i e.symm; omega)).trans (h.block i hi hne)⟩
theorem gr_set {w w' : World} {g : Nat} (h : w.grownBy w' (some g)) {p : Addr} (hp : w.heap.size ≤ p.block) (u : Value) : w.grownBy (w'.setCell p u) (some g) :=
  gr_row h (grownBy_setCell w' p u) (fun b hb => by have := Option.some.inj hb; omega)
theorem gr_draw {w w' : World} {g : Nat} (h : w.grownBy w' (some g)) : w.grownBy w'.drew (some g) := grownBy_trans h ⟨rfl, rfl, rfl, Nat.le_refl _, fun _ _ _ => rfl⟩
theorem gr_to_below {w w1 w' : World} {g B : Nat} (hb : Below B w w1) (h : w1.grownBy w' (some g)) (hB : B ≤ w1.heap.size) (hg : B ≤ g) : Below B w w' := hb.grown h hB (fun k hk => by have := Option.some.inj hk; omega)

set_option maxRecDepth 100000 in
set_option maxHeartbeats 4000000 in
theorem l01From_any (v : Value) (bs : List Int) (w : World) (h : SlR u8s 1 w 0 w.heap.size v bs) (hb : ∀ b ∈ bs, 0 ≤ b ∧ b ≤ 255) :
    Calls Try.prog 68 #[v] w fun e w' => e = .returned (.pointer (some ⟨w.heap.size, 0, none⟩)) ∧ Src w' w.heap.size ∧ Below w.heap.size w w' := by
  obtain ⟨A, c, rfl, hc1, hc2⟩ := h.form
  go_enter Try.func68, Try.ntmps68
  go_wp2_with fail
  go_loopw [4] (fun i wr => ∃ (k : Nat) (s : Int), i = .int .i64 k ∧ k ≤ bs.length ∧ k ≤ 64 ∧ 0 ≤ s ∧ s ≤ 2147483646 ∧ Blk wr w.heap.size 106 #[.slice A bs.length c, .int .i64 0, .int .i64 s] ∧ Below w.heap.size w wr) (fun i wr => bs.length - (intOf i).toNat)
  case atStart => exact ⟨0, 61043, rfl, Nat.zero_le _, by omega, by omega, by omega, Blk.new w _ _, (Below.refl _ _).alloc (Nat.le_refl _) _⟩
  case round =>
    obtain ⟨k, s, rfl, hk, hk64, hs1, hs2, bG, hbr⟩ := hrel
    have zr := hbr.size
    have lG := bG.lt
    have hend : Src wr w.heap.size := ⟨_, bs, 0, s, bG, Nat.zero_le _, hs1, hs2, h.below hbr (Nat.le_refl _), hb⟩
    have Hend := Lib.hid hend
    clear hend
    by_cases hlt : k < bs.length
    · by_cases hlt2 : k < 64
      · obtain ⟨x, hx⟩ := some_at hlt
        have hxb := hb x (List.mem_of_getElem? hx)
        obtain ⟨b, off, rfl, _, hbb, e0⟩ := SlU.at_ (h.below hbr (Nat.le_refl _)) hx
        clear hx
        have q2 : wr.cell? ⟨w.heap.size, 2, none⟩ = some (.int .i64 s) := bG.cell 2
        have f2 : wr.frozen? ⟨w.heap.size, 2, none⟩ = false := bG.frozen 2
        have t1 : (s * 83 + x).tmod 2147483647 = (s * 83 + x) % 2147483647 := Int.tmod_eq_emod_of_nonneg (by omega)
        have t2 : 0 ≤ (s * 83 + x) % 2147483647 ∧ (s * 83 + x) % 2147483647 ≤ 2147483646 := by omega
        have bG2 : Blk (wr.drew.setCell ⟨w.heap.size, 2, none⟩ (.int .i64 ((s * 83 + x) % 2147483647))) w.heap.size 106 #[.slice (some ⟨b, off, none⟩) bs.length c, .int .i64 0, .int .i64 ((s * 83 + x) % 2147483647)] := by
          have := Blk.set_ (w := wr.drew) bG 2 (.int .i64 ((s * 83 + x) % 2147483647))
          simpa using this
        have hB2 : Below w.heap.size w (wr.drew.setCell ⟨w.heap.size, 2, none⟩ (.int .i64 ((s * 83 + x) % 2147483647))) := hbr.drew.setCell (Nat.le_refl _) _
        generalize ht : (s * 83 + x) % 2147483647 = t at *
        have Ht := Lib.hid ht
        clear ht
        go_wp2_with fail
        go_region
        all_goals go_wp2_with fail
        all_goals go_roundw
        all_goals first | exact ⟨k + 1, t, by go_num, hlt, hlt2, t2.1, t2.2, bG2, hB2⟩ | (simp [intOf]; omega)
      · have hk2 : ¬ (k : Int) < 64 := by omega
        go_wp2_with fail
        go_ret
        exact ⟨rfl, Hend.out, hbr⟩
    · go_wp2_with fail
      go_ret
      exact ⟨rfl, Hend.out, hbr⟩

set_option maxRecDepth 100000 in
set_option maxHeartbeats 4000000 in
theorem l01Next_any (g : Nat) (n : Int) (w : World) (h : Src w g) :
    Calls Try.prog 72 #[.pointer (some ⟨g, 0, none⟩), .int .i64 n] w fun e w' => ∃ r : Int, e = .returned (.int .i64 r) ∧ 0 ≤ r ∧ (1 < n → r < n) ∧ (n ≤ 1 → r = 0) ∧ Src w' g ∧ w.grownBy w' (some g) := by
  by_cases hn : n ≤ 1
  · go_enter Try.func72, Try.ntmps72
    go_wp2_with fail
    go_ret
    exact ⟨0, rfl, by omega, by omega, fun _ => rfl, h, World.grownBy.refl _ _⟩
  obtain ⟨v, bs, k, s, bG, hk, hs1, hs2, hv, hb⟩ := h
  obtain ⟨A, c, rfl, hc1, hc2⟩ := hv.form
  have q0 : w.cell? ⟨g, 0, none⟩ = some (.slice A bs.length c) := bG.cell 0
  have q1 : w.cell? ⟨g, 1, none⟩ = some (.int .i64 k) := bG.cell 1
  have q2 : w.cell? ⟨g, 2, none⟩ = some (.int .i64 s) := bG.cell 2
  have f2 : w.frozen? ⟨g, 2, none⟩ = false := bG.frozen 2
  have t1 : (s * 48271 + 29).tmod 2147483647 = (s * 48271 + 29) % 2147483647 := Int.tmod_eq_emod_of_nonneg (by omega)
  have t2 : 0 ≤ (s * 48271 + 29) % 2147483647 ∧ (s * 48271 + 29) % 2147483647 ≤ 2147483646 := by omega
  generalize ht : (s * 48271 + 29) % 2147483647 = t at *
  have Ht := Lib.hid ht
  clear ht
  have bG1 : Blk (w.setCell ⟨g, 2, none⟩ (.int .i64 t)) g 106 #[.slice A bs.length c, .int .i64 k, .int .i64 t] := by
    have := bG.set_ 2 (.int .i64 t)
    simpa using this
  have r2 : (w.setCell ⟨g, 2, none⟩ (.int .i64 t)).cell? ⟨g, 2, none⟩ = some (.int .i64 t) := bG1.cell 2
  have x0 : 0 ≤ t.tdiv 31 ∧ t.tdiv 31 ≤ 2147483646 := by rw [Int.tdiv_eq_ediv_of_nonneg t2.1]; omega
  have lG := bG.lt
  have hg1 : w.grownBy (w.setCell ⟨g, 2, none⟩ (.int .i64 t)) (some g) := grownBy_setCell w ⟨g, 2, none⟩ _
  have hv1 : SlR u8s 1 (w.setCell ⟨g, 2, none⟩ (.int .i64 t)) 0 g (.slice A bs.length c) bs := hv.setCell _ _ (.inr (Nat.le_refl _))
  go_enter Try.func72, Try.ntmps72
  go_wp2_with fail
  generalize hx : t.tdiv 31 = x at *
  have Hx := Lib.hid hx
  clear hx
  generalize (w.setCell ⟨g, 2, none⟩ (.int .i64 t)) = w1 at *
  have lG1 := bG1.lt
  have p0 : w1.cell? ⟨g, 0, none⟩ = some (.slice A bs.length c) := bG1.cell 0
  have p1 : w1.cell? ⟨g, 1, none⟩ = some (.int .i64 k) := bG1.cell 1
  clear q0 q1 q2 f2 r2
  have hn0 : n ≠ 0 := by omega
  have hn1 : (1 : Int) < n := by omega
  have hmod : ∀ y : Int, 0 ≤ y → 0 ≤ y % n ∧ (1 < n → y % n < n) ∧ (n ≤ 1 → y % n = 0) := by
    intro y hy
    exact ⟨Int.emod_nonneg _ hn0, fun _ => Int.emod_lt_of_pos _ (by omega), fun h => absurd h (by omega)⟩
  have Hmod := Lib.hid hmod
  clear hmod
  by_cases hlt : k < bs.length
  · obtain ⟨y, hy⟩ := some_at hlt
    have hyb := hb y (List.mem_of_getElem? hy)
    obtain ⟨b, off, rfl, _, hbb, e0⟩ := SlU.at_ hv1 hy
    have Hy := Lib.hid hy
    have bG2 := bG1
    clear hy
    refine wp_region_ext (by kernel_rfl) (by kernel_rfl) ?_
    repeat (go_big_quiet_step (fail))
    refine wpQuiet_nil ?_
    intro w2 hb2
    have bG2 := bG1.below' hb2
    have hg2 := gr_below hg1 hb2
    have hv2 := hv1.below hb2 (by omega)
    obtain ⟨b', off', ee, _, hbb', e0'⟩ := SlU.at_ hv2 Hy.out
    injection ee with ee
    injection ee with ee1 ee2
    subst ee1 ee2
    have lG2 := bG2.lt
    have hbb2 : b < w2.heap.size := by omega
    have s0 : w2.cell? ⟨g, 0, none⟩ = some (.slice (some ⟨b, off, none⟩) bs.length c) := bG2.cell 0
    have s1 : w2.cell? ⟨g, 1, none⟩ = some (.int .i64 k) := bG2.cell 1
    go_wp2_with fail
    refine wp_region_ext (by kernel_rfl) (by kernel_rfl) ?_
    repeat (go_big_quiet_step (fail))
    refine wpQuiet_nil ?_
    intro w3 hb3
    have bG3 := bG2.below' hb3
    have hg3 := gr_below hg2 hb3
    have hv3 := hv2.below hb3 (by have := bG2.lt; omega)
    have lG3 := bG3.lt
    have u1 : w3.cell? ⟨g, 1, none⟩ = some (.int .i64 k) := bG3.cell 1
    have uf : w3.frozen? ⟨g, 1, none⟩ = false := bG3.frozen 1
    have bG4 : Blk (w3.setCell ⟨g, 1, none⟩ (.int .i64 ((k : Int) + 1))) g 106 #[.slice (some ⟨b, off, none⟩) bs.length c, .int .i64 ((k : Int) + 1), .int .i64 t] := by
      have := bG3.set_ 1 (.int .i64 ((k : Int) + 1))
      simpa using this
    have hg4 : w.grownBy (w3.setCell ⟨g, 1, none⟩ (.int .i64 ((k : Int) + 1))) (some g) := grownBy_trans hg3 (grownBy_setCell w3 ⟨g, 1, none⟩ _)
    have hv4 : SlR u8s 1 (w3.setCell ⟨g, 1, none⟩ (.int .i64 ((k : Int) + 1))) 0 g (.slice (some ⟨b, off, none⟩) bs.length c) bs := hv3.setCell _ _ (.inr (Nat.le_refl _))
    have v1 : (w3.setCell ⟨g, 1, none⟩ (.int .i64 ((k : Int) + 1))).cell? ⟨g, 1, none⟩ = some (.int .i64 ((k : Int) + 1)) := bG4.cell 1
    have m0 : ((k : Int) + 1).tmod 2 = ((k : Int) + 1) % 2 := Int.tmod_eq_emod_of_nonneg (by omega)
    have hend : ∀ W, Blk W g 106 #[.slice (some ⟨b, off, none⟩) bs.length c, .int .i64 ((k : Int) + 1), .int .i64 t] → SlR u8s 1 W 0 g (.slice (some ⟨b, off, none⟩) bs.length c) bs → Src W g := fun W h1 h2 => ⟨_, bs, k + 1, t, h1, hlt, t2.1, t2.2, h2, hb⟩
    have Hend := Lib.hid hend
    clear hend
    by_cases h256 : n ≤ 256
    · by_cases hev : ((k : Int) + 1) % 2 = 0
      · have hz : (((k : Int) + 1) % 2 == 0) = true := by simpa using hev
        have HE := Lib.hid hev
        clear hev
        go_wp2_with fail
        generalize (w3.setCell ⟨g, 1, none⟩ (.int .i64 ((k : Int) + 1))) = w4 at *
        have lG4 := bG4.lt
        have hbb4 : b < w4.heap.size := by omega
        obtain ⟨b', off', ee, _, hbb', e4⟩ := SlU.at_ hv4 Hy.out
        injection ee with ee
        injection ee with ee1 ee2
        subst ee1 ee2
        have y0 : w4.cell? ⟨g, 0, none⟩ = some (.slice (some ⟨b, off, none⟩) bs.length c) := bG4.cell 0
        have y1 : w4.cell? ⟨g, 1, none⟩ = some (.int .i64 ((k : Int) + 1)) := bG4.cell 1
        have hk0 : (k : Int) + 1 - 1 = k := by omega
        refine wp_region_ext (by kernel_rfl) (by kernel_rfl) ?_
        repeat (go_big_quiet_step (fail))
        refine wpQuiet_nil ?_
        intro w5 hb5
        have bG5 := bG4.below' hb5
        have hg5 := gr_below hg4 hb5
        have hv5 := hv4.below hb5 (by omega)
        go_wp2_with fail
        go_ret
        exact ⟨_, rfl, (Hmod.out _ hyb.1).1, by first | exact (Hmod.out _ hyb.1).2.1 | exact (Hmod.out _ hyb.1).2.1 hn1, by first | exact (Hmod.out _ hyb.1).2.2 | (intro h; omega), Hend.out _ bG5 hv5, hg5⟩
      · have hz : (((k : Int) + 1) % 2 == 0) = false := by simpa using hev
        have HE := Lib.hid hev
        clear hev
        go_wp2_with fail
        go_ret
        exact ⟨_, rfl, (Hmod.out _ (by omega)).1, by first | exact (Hmod.out _ (by omega)).2.1 | exact (Hmod.out _ (by omega)).2.1 hn1, by first | exact (Hmod.out _ (by omega)).2.2 | (intro h; omega), Hend.out _ bG4 hv4, hg4⟩
    · go_wp2_with fail
      go_ret
      exact ⟨_, rfl, (Hmod.out _ (by omega)).1, by first | exact (Hmod.out _ (by omega)).2.1 | exact (Hmod.out _ (by omega)).2.1 hn1, by first | exact (Hmod.out _ (by omega)).2.2 | (intro h; omega), Hend.out _ bG4 hv4, hg4⟩
  · refine wp_region_ext (by kernel_rfl) (by kernel_rfl) ?_
    repeat (go_big_quiet_step (fail))
    refine wpQuiet_nil ?_
    intro w2 hb2
    have bG2 := bG1.below' hb2
    have hg2 := gr_below hg1 hb2
    have hv2 := hv1.below hb2 (by omega)
    go_wp2_with fail
    go_ret
    exact ⟨_, rfl, (Hmod.out _ x0.1).1, (Hmod.out _ x0.1).2.1, (Hmod.out _ x0.1).2.2, ⟨_, bs, k, t, bG2, hk, t2.1, t2.2, hv2, hb⟩, hg2⟩

/-- One of some numbers. -/
theorem l01Pick_any (g : Nat) (v : Value) (xs : List Int) (w : World) (lo hi : Nat) (h : Src w g) (hx : SlI w lo hi v xs) (hh : hi ≤ w.heap.size) (hd : g < lo) (hne : 0 < xs.length) :
    Calls Try.prog 82 #[.pointer (some ⟨g, 0, none⟩), v] w fun e w' => ∃ r : Int, e = .returned (.int .i64 r) ∧ r ∈ xs ∧ Src w' g ∧ w.grownBy w' (some g) := by
  obtain ⟨A, c, rfl, hc1, hc2⟩ := hx.form
  go_enter Try.func82, Try.ntmps82
  go_wp2_with fail
  refine (l01Next_any g xs.length w h).mono ?_
  rintro e w1 ⟨r, rfl, h0, h1, h2, hs, hg⟩
  obtain ⟨k, rfl⟩ : ∃ k : Nat, r = (k : Int) := ⟨r.toNat, by omega⟩
  have hk : k < xs.length := by
    by_cases h3 : 1 < (xs.length : Int)
    · have := h1 h3; omega
    · have := h2 (by omega); omega
  obtain ⟨x, hx1⟩ := some_at hk
  obtain ⟨b, off, rfl, _, hb, e0⟩ := (hx.grown hg hh (fun k hk => by have := Option.some.inj hk; omega)).int_at hx1
  have Hm := Lib.hid (List.mem_of_getElem? hx1)
  clear hx1 h1 h2
  go_wp2_with fail
  go_ret
  exact ⟨x, rfl, Hm.out, hs, hg⟩

/-- A list that a statement lays out, one number behind the other. -/
theorem laid_slI (w : World) (e : TypeId) (cs : Array Value) (xs : List Int) (n : Nat) (hn : xs.length = n) (hm : n ≤ 1000) (h : cs.toList = xs.flatMap i64s) : SlI (w.alloc (.cells cs e)) w.heap.size (w.heap.size + 1) (.slice (some ⟨w.heap.size, 0, none⟩) n n) xs := by
  subst hn
  have hl := flatMap_len (f := i64s) (s := 1) (fun _ => rfl) xs
  refine ⟨fun _ => rfl, some ⟨w.heap.size, 0, none⟩, xs.length, rfl, Nat.le_refl _, ?_, hl, fun hn => ⟨w.heap.size, 0, rfl, Nat.le_refl _, by omega, fun j u hu => ?_⟩⟩
  · unfold maxLen; omega
  · have := cell_of_row (w.alloc (.cells cs e)) w.heap.size (0 + j) cs e (0, 0) (heap_alloc_new w _)
    rw [this, Nat.zero_add, ← Array.getElem?_toList, h]
    exact hu
end Go.Proofs.Ytkhojhgcopnenaa
