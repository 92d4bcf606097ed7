/- Records of 4 numbers (Call): copies, comparisons, marks, the reading of a list of them. No condition but the sizes that the law itself asks. -/
import Derived.Test.YtemnodbffkcjcaaLeaf
import Derived.Test.YtemnodbffkcjcaaFrame
namespace Go.Proofs.Ytemnodbffkcjcaa
open Go.ChangeShapes Go.WideShapes Go.ChangeAt Go.RowKit

structure C4 where
  num : Int
  first : Int
  day : Int
  moves : Int
  deriving DecidableEq

def C4.vals (c : C4) : List Value := [.int .i64 c.num, .int .i64 c.first, .int .i64 c.day, .int .i64 c.moves]
def C4.val (c : C4) : Value := .agg #[.int .i64 c.num, .int .i64 c.first, .int .i64 c.day, .int .i64 c.moves]
abbrev SlC4 (w : World) (lo hi : Nat) (v : Value) (cs : List C4) : Prop := SlR C4.vals 4 w lo hi v cs

theorem SlR.C4_at {w : World} {lo hi : Nat} {cs : List C4} {A : Option Addr} {n c k : Nat} {x : C4} (h : SlC4 w lo hi (.slice A n c) cs) (hk : cs[k]? = some x) :
    ∃ b off, A = some ⟨b, off, none⟩ ∧ lo ≤ b ∧ b < hi ∧ w.cell? ⟨b, off + k * 4, none⟩ = some (.int .i64 x.num) ∧ w.cell? ⟨b, off + k * 4 + 1, none⟩ = some (.int .i64 x.first) ∧ w.cell? ⟨b, off + k * 4 + 2, none⟩ = some (.int .i64 x.day) ∧ w.cell? ⟨b, off + k * 4 + 3, none⟩ = some (.int .i64 x.moves) := by
  obtain ⟨b, off, e, h1, h2, h3⟩ := h.at_ hk
  exact ⟨b, off, e, h1, h2, h3 0 _ rfl, h3 1 _ rfl, h3 2 _ rfl, h3 3 _ rfl⟩
theorem own_slC4 {w : World} {base : Nat} {e : TypeId} {v : Value} {xs : List C4} (h : OwnR C4.vals 4 w base e v xs) : SlC4 w base w.heap.size v xs := own_slR (f := C4.vals) (s := 4) (fun _ => rfl) h

set_option maxHeartbeats 400000 in
theorem toCall_any (c : C4) (w : World) :
    Calls Try.prog 64 #[c.val] w fun e w' => e = .returned c.val ∧ Below w.heap.size w w' := by
  obtain ⟨p0, p1, p2, p3⟩ := c
  unfold C4.val
  dsimp only
  go_enter Try.func64, Try.ntmps64
  go_wp2
  exact bodyPost_ret (v := .agg #[.int .i64 p0, .int .i64 p1, .int .i64 p2, .int .i64 p3]) (by simp [results, Try.results64, go_sem]) rfl ⟨rfl, (((Below.refl _ _).alloc (Nat.le_refl _) _).alloc (by simp) _).alloc (by simp; omega) _⟩

theorem C4.eq_iff (a b : C4) : decide (a = b) = (a.num == b.num && a.first == b.first && a.day == b.day && a.moves == b.moves) := by
  cases a; cases b; rw [Bool.eq_iff_iff]; simp [and_assoc]

set_option maxHeartbeats 400000 in
theorem eqCall_any (a b : C4) (w : World) :
    Calls Try.prog 67 #[a.val, b.val] w fun e w' => e = .returned (.bool (decide (a = b))) ∧ Below w.heap.size w w' := by
  rw [C4.eq_iff]
  obtain ⟨p0, p1, p2, p3⟩ := a
  obtain ⟨q0, q1, q2, q3⟩ := b
  unfold C4.val
  dsimp only
  go_enter Try.func67, Try.ntmps67
  go_wp2
  all_goals go_ret
  all_goals exact ⟨by simp_all, ((Below.refl _ _).alloc (Nat.le_refl _) _).alloc (by simp) _⟩

theorem Try.infoC4 : (Try.prog.info? 80).map (fun i => (i.zero, i.size, i.bytes)) = some (some (.agg #[.int .i64 0, .int .i64 0, .int .i64 0, .int .i64 0]), 4, 32) := by kernel_rfl

theorem own_rowC4 {w : World} {base : Nat} {e : TypeId} {g n c : Nat} {xs : List Value} (h : w.ownsRow base e 4 (.slice (some ⟨g, 0, none⟩) n c) n xs) {k : Nat} (hk : k < n) :
    (∃ u, w.cell? ⟨g, k * 4, none⟩ = some u) ∧ (∃ u, w.cell? ⟨g, k * 4 + 1, none⟩ = some u) ∧ (∃ u, w.cell? ⟨g, k * 4 + 2, none⟩ = some u) ∧ (∃ u, w.cell? ⟨g, k * 4 + 3, none⟩ = some u) ∧ w.frozen? ⟨g, k * 4, none⟩ = false ∧ w.frozen? ⟨g, k * 4 + 1, none⟩ = false ∧ w.frozen? ⟨g, k * 4 + 2, none⟩ = false ∧ w.frozen? ⟨g, k * 4 + 3, none⟩ = false :=
  ⟨(own_cellAt h (k * 4) (by omega)).1, (own_cellAt h (k * 4 + 1) (by omega)).1, (own_cellAt h (k * 4 + 2) (by omega)).1, (own_cellAt h (k * 4 + 3) (by omega)).1, (own_cellAt h (k * 4) (by omega)).2, (own_cellAt h (k * 4 + 1) (by omega)).2, (own_cellAt h (k * 4 + 2) (by omega)).2, (own_cellAt h (k * 4 + 3) (by omega)).2⟩

set_option maxHeartbeats 1000000 in
theorem toCallS_any (v : Value) (cs : List C4) (w : World) (lo : Nat) (h : SlC4 w lo w.heap.size v cs) (hn : cs.length ≤ 1048576) :
    Calls Try.prog 33 #[v] w fun e w' => ∃ v', e = .returned v' ∧ OwnR C4.vals 4 w' w.heap.size 80 v' cs ∧ Below w.heap.size w w' := by
  obtain ⟨i0, hi, hz0, hz1, hz2⟩ := info_parts Try.infoC4
  obtain ⟨A, c, rfl, hc1, hc2⟩ := h.form
  go_enter Try.func33, Try.ntmps33
  go_wp2_with (first | (at_make; refine wpList_make_full _ rfl _ _ 48 rfl w.heap.size 80 i0 _ 4 Try.underlying48 hi hz0 hz1 _ _ _ _ cs.length rfl rfl rfl rfl ?c1 ?c2 ?c3 ?_))
  case c1 => rw [hz2]; omega
  case c2 => unfold maxLen; omega
  case c3 => exact Nat.le_refl _
  intro w1 hown hgrow
  have hb1 : Below w.heap.size w w1 := (Below.refl _ _).grown hgrow (Nat.le_refl _) (by intro k h; cases h)
  clear hgrow hi hz0 hz1 hz2 i0
  go_wp2_with fail
  go_loopw [4] (fun i wr => ∃ (k : Nat) (xs : List Value), i = .int .i64 k ∧ k ≤ cs.length ∧ wr.ownsRow w.heap.size 80 4 (.slice (some ⟨w.heap.size, 0, none⟩) cs.length cs.length) cs.length xs ∧ xs.take (k * 4) = (cs.take k).flatMap C4.vals ∧ Below w.heap.size w wr) (fun i wr => cs.length - (intOf i).toNat)
  case atStart => exact ⟨0, _, rfl, Nat.zero_le _, hown, by simp, hb1⟩
  case round =>
    obtain ⟨k, xs, rfl, hk, hown2, hxs, hbr⟩ := hrel
    clear hown hb1
    by_cases hlt : k < cs.length
    · obtain ⟨x, hx⟩ := some_at hlt
      obtain ⟨b, off, rfl, _, hb, c0, c1, c2, c3⟩ := SlR.C4_at (h.below hbr (Nat.le_refl _)) hx
      have Hx := Lib.hid hx
      have Hxs := Lib.hid hxs
      clear hx hxs
      go_wp2_with (go_at_call 64; refine (toCall_any x _).mono ?_; rintro e w2 ⟨rfl, hb2⟩; unfold C4.val; obtain ⟨⟨_, g0⟩, ⟨_, g1⟩, ⟨_, g2⟩, ⟨_, g3⟩, f0, f1, f2, f3⟩ := own_rowC4 (own_below' hown2 hb2) hlt)
      obtain ⟨r1, r2, r3⟩ := own_putR (f := C4.vals) (s := 4) (fun _ => rfl) (own_below' hown2 hb2) hlt Hx.out Hxs.out
      go_roundw
      case rel => exact ⟨k + 1, _, by go_num, hlt, r1, r2, below_put (hbr.trans (hb2.mono hbr.size)) r3 (Nat.le_trans hbr.size hb2.size) (Nat.le_refl _)⟩
      case measure => simp [intOf]; omega
    · have hkn : k = cs.length := by omega
      subst hkn
      go_wp2_with fail
      go_ret
      exact ⟨_, rfl, by rw [List.take_of_length_le (by rw [hown2.1]; exact Nat.le_refl _), List.take_length] at hxs; rw [hxs] at hown2; exact hown2, hbr⟩


set_option maxHeartbeats 1000000 in
theorem eqCallS_any (u v : Value) (xs ys : List C4) (w : World) (lo lo' : Nat) (ha : SlC4 w lo w.heap.size u xs) (hb : SlC4 w lo' w.heap.size v ys) :
    Calls Try.prog 35 #[u, v] w fun e w' => e = .returned (.bool (decide (xs = ys))) ∧ Below w.heap.size w w' := by
  obtain ⟨A, c, rfl, hc1, hc2⟩ := ha.form
  obtain ⟨A', c', rfl, hc1', hc2'⟩ := hb.form
  by_cases hl : xs.length = ys.length
  · have hne : ((xs.length : Int) != (ys.length : Int)) = false := by simp [hl]
    have Hl := Lib.hid hl
    clear hl
    go_enter Try.func35, Try.ntmps35
    go_wp2_with fail
    go_loopw [5] (fun i wr => ∃ (k : Nat), i = .int .i64 k ∧ k ≤ xs.length ∧ xs.take k = ys.take k ∧ Below w.heap.size w wr) (fun i wr => xs.length - (intOf i).toNat)
    case atStart => exact ⟨0, rfl, Nat.zero_le _, rfl, Below.refl _ _⟩
    case round =>
      obtain ⟨k, rfl, hk, htk, hbr⟩ := hrel
      have Htk := Lib.hid htk
      clear htk
      by_cases hlt : k < xs.length
      · have hlt' : k < ys.length := by have := Hl.out; omega
        obtain ⟨x, hx⟩ := some_at hlt
        obtain ⟨y, hy⟩ := some_at hlt'
        obtain ⟨b, off, rfl, _, hbb, c0, c1, c2, c3⟩ := SlR.C4_at ((ha.below hbr (Nat.le_refl _)).more (Nat.le_refl _) hbr.size) hx
        obtain ⟨b', off', rfl, _, hbb', d0, d1, d2, d3⟩ := SlR.C4_at ((hb.below hbr (Nat.le_refl _)).more (Nat.le_refl _) hbr.size) hy
        have Hx := Lib.hid hx
        have Hy := Lib.hid hy
        clear hx hy
        go_wp2_with fail
        refine wp_region_ext (by kernel_rfl) (by kernel_rfl) ?_
        repeat (go_big_quiet_step (((go_at_call 67; exact calls_ext (eqCall_any x y _)))))
        refine wpQuiet_nil ?_
        intro w2 hb2
        go_wp2_with fail
        · have hne2 : (!decide (x = y)) = true := by assumption
          go_ret
          exact ⟨ret_no (by intro e; have h1 := Hx.out; rw [e, Hy.out] at h1; simp [Option.some.inj h1] at hne2), hbr.trans (hb2.mono hbr.size)⟩
        · have heq2 : (!decide (x = y)) = false := by assumption
          go_roundw
          case rel => exact ⟨k + 1, by go_num, hlt, by rw [take_snoc Hx.out, take_snoc Hy.out, Htk.out]; simp at heq2; rw [heq2], hbr.trans (hb2.mono hbr.size)⟩
          case measure => simp [intOf]; omega
      · go_wp2_with fail
        go_ret
        exact ⟨ret_bool (by have h1 := Htk.out; have h2 := Hl.out; rw [List.take_of_length_le (by omega), List.take_of_length_le (by omega)] at h1; simp [h1]), hbr⟩
  · have hne : ((xs.length : Int) != (ys.length : Int)) = true := by simp; omega
    have Hl := Lib.hid hl
    clear hl
    go_enter Try.func35, Try.ntmps35
    go_wp2_with fail
    go_ret
    exact ⟨ret_no (by intro e; exact Hl.out (by rw [e])), Below.refl _ _⟩

def C4.mk1 (q : Int) : C4 := ⟨q, q + 1, q + 1 + 1, q + 1 + 1 + 1⟩
set_option maxHeartbeats 1000000 in
theorem markCallS_any (v : Value) (n : Nat) (ys : List Value) (k0 : Int) (w : World) (base : Nat) (h : w.ownsRow base 80 4 v n ys) (hk0 : 0 ≤ k0) (hk1 : k0 ≤ 1152921504606846976) (hn : n ≤ 72057594037927936) :
    Calls Try.prog 36 #[v, .int .i64 k0] w fun e w' => e = .returned (.int .i64 (k0 + 4 * n)) ∧ OwnR C4.vals 4 w' base 80 v (marks C4.mk1 4 k0 n) ∧ w.grownBy w' v.ownBlock := by
  obtain ⟨A, c, rfl, hc1, hc2, hA⟩ := own_form h
  go_enter Try.func36, Try.ntmps36
  go_wp2_with fail
  go_loopw [1, 5] (fun q i wr => ∃ (k : Nat) (xs : List Value) (z : Int), i = .int .i64 k ∧ q = .int .i64 z ∧ Hid (z = k0 + 4 * k) ∧ k ≤ n ∧ wr.ownsRow base 80 4 (.slice A n c) n xs ∧ xs.take (k * 4) = ((marks C4.mk1 4 k0 n).take k).flatMap C4.vals ∧ w.grownBy wr (Value.slice A n c).ownBlock) (fun q i wr => n - (intOf i).toNat)
  case atStart => exact ⟨0, _, _, rfl, rfl, Lib.hid (by omega), Nat.zero_le _, h, by simp, World.grownBy.refl _ _⟩
  case round =>
    obtain ⟨k, xs, z, rfl, rfl, Hz, hk, hown2, hxs, hgr⟩ := hrel
    by_cases hlt : k < n
    · obtain ⟨g, rfl, hbg, _⟩ := hA (by omega)
      obtain ⟨⟨_, g0⟩, ⟨_, g1⟩, ⟨_, g2⟩, ⟨_, g3⟩, f0, f1, f2, f3⟩ := own_rowC4 hown2 hlt
      have hz0 : 0 ≤ z := by have := Hz.out; omega
      have hz1 : z ≤ 4611686018427387904 := by have := Hz.out; omega
      have Hxs := Lib.hid hxs
      clear hxs
      have hm := marks_at C4.mk1 4 k0 hlt
      rw [show k0 + ((4 : Nat) : Int) * (k : Int) = z from by have := Hz.out; omega] at hm
      have Hm := Lib.hid hm
      clear hm
      go_wp2_with fail
      obtain ⟨r1, r2, r3⟩ := own_putR (f := C4.vals) (s := 4) (fun _ => rfl) hown2 hlt Hm.out Hxs.out
      go_roundw
      case rel => exact ⟨k + 1, _, _, by go_num, rfl, Lib.hid (by have := Hz.out; omega), hlt, r1, r2, grownBy_trans hgr r3⟩
      case measure => simp [intOf]; omega
    · have hkn : k = n := by omega
      subst hkn
      go_wp2_with fail
      go_ret
      refine ⟨ret_int Hz.out, ?_, hgr⟩
      unfold OwnR
      rw [marks_len]
      rw [List.take_of_length_le (by rw [hown2.1]; exact Nat.le_refl _), List.take_of_length_le (by rw [marks_len]; exact Nat.le_refl _)] at hxs
      rw [← hxs]; exact hown2


theorem szCallS_small (v : Value) (cs : List C4) (w : World) {lo hi : Nat} (h : SlC4 w lo hi v cs) (hn : cs.length ≤ 1048576) :
    Calls Try.prog 31 #[v, .int .i64 1048576] w fun e w' => e = .returned (.int .i64 (1048576 - (cs.length : Int))) ∧ w = w' := by
  obtain ⟨A, c, rfl, hc1, hc2⟩ := h.form
  go_enter Try.func31, Try.ntmps31
  go_wp2
  go_ret
  exact ⟨rfl, rfl⟩
theorem szCallS_big (v : Value) (cs : List C4) (w : World) {lo hi : Nat} (h : SlC4 w lo hi v cs) (hn : 1048576 < cs.length) :
    Calls Try.prog 31 #[v, .int .i64 1048576] w fun e w' => e = .returned (.int .i64 (-1)) ∧ w = w' := by
  obtain ⟨A, c, rfl, hc1, hc2⟩ := h.form
  go_enter Try.func31, Try.ntmps31
  go_wp2
  go_ret
  exact ⟨rfl, rfl⟩
theorem szCallS_u (v : Value) (cs : List C4) (l : Int) (w : World) {lo hi : Nat} (h : SlC4 w lo hi v cs) (_ : hi ≤ w.heap.size) (hl : 0 ≤ l) (hl1 : l ≤ 1048576) :
    Calls Try.prog 31 #[v, .int .i64 l] w fun e w' => ∃ r : Int, e = .returned (.int .i64 r) ∧ r ≤ l ∧ (0 ≤ r → cs.length ≤ 1048576) ∧ Below w.heap.size w w' := by
  obtain ⟨A, c, rfl, hc1, hc2⟩ := h.form
  by_cases q : l - (cs.length : Int) < 0
  · go_enter Try.func31, Try.ntmps31
    go_wp2
    go_ret
    exact ⟨_, rfl, by omega, fun h => by omega, Below.refl _ _⟩
  · go_enter Try.func31, Try.ntmps31
    go_wp2
    go_ret
    exact ⟨_, rfl, by omega, fun h => by omega, Below.refl _ _⟩

theorem cells_lawsCall : Try.prog.cellsOf 82 = 4 := by kernel_rfl
theorem cells_i64_C4 : Try.prog.cellsOf 2 = 1 := by kernel_rfl

set_option maxRecDepth 100000 in
theorem open_C4 {H : Type} {enc : TypeId × Value → H} {w : World} {spare : Nat → Bool} {held : Bool} {n : Nat} {cs : List Value} {y : DataW H × List MemPlace} (h : DataW.trod enc Try.prog w 0 spare held n 82 cs = some y) :
    ∃ a : C4, cs = a.vals ∧ True := by
  have hl := struct_len Try.underlying82 h
  rw [cells_lawsCall] at hl
  obtain ⟨a0, e0, _⟩ := field_i64 Try.underlying82 h 0 0 2 rfl rfl rfl Try.underlying2 cells_i64_C4 (by omega)
  obtain ⟨a1, e1, _⟩ := field_i64 Try.underlying82 h 1 1 2 rfl rfl rfl Try.underlying2 cells_i64_C4 (by omega)
  obtain ⟨a2, e2, _⟩ := field_i64 Try.underlying82 h 2 2 2 rfl rfl rfl Try.underlying2 cells_i64_C4 (by omega)
  obtain ⟨a3, e3, _⟩ := field_i64 Try.underlying82 h 3 3 2 rfl rfl rfl Try.underlying2 cells_i64_C4 (by omega)
  match cs, hl with
  | [x0, x1, x2, x3], _ =>
    simp at e0 e1 e2 e3
    subst e0 e1 e2 e3
    exact ⟨⟨a0, a1, a2, a3⟩, rfl, trivial⟩

set_option maxRecDepth 100000 in
theorem open_CallS {H : Type} {enc : TypeId × Value → H} {w : World} {base : Nat} {v : Value} {d : DataW H} {p : List MemPlace} (hv : Value.okWide Try.prog w .any base 45 v) (h : DataW.Trod enc Try.prog w 0 (fun _ => true) true 45 v d p) :
    ∃ cs : List C4, SlC4 w 0 w.heap.size v cs := by
  obtain ⟨A, n, c, rfl⟩ := okWide_slice Try.underlying45 hv
  obtain ⟨fuel, hf⟩ := h
  obtain ⟨xs, h1, _⟩ := open_slR (f := C4.vals) (s := 4) (fun _ => rfl) (by decide) Try.underlying45 cells_lawsCall hf fun _ _ _ hy => open_C4 hy
  exact ⟨xs, h1⟩
end Go.Proofs.Ytemnodbffkcjcaa
