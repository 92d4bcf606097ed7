/- Records of 3 numbers (Term): copies, comparisons, marks, the reading of a list of them. No condition but the sizes that the law itself asks. -/
import Derived.Test.YtacoimlccibdfaaLeaf
import Derived.Test.YtacoimlccibdfaaFrame
namespace Go.Proofs.Ytacoimlccibdfaa
open Go.ChangeShapes Go.WideShapes Go.ChangeAt Go.RowKit

structure T3 where
  num : Int
  beg : Int
  fin : Int
  deriving DecidableEq

def T3.vals (c : T3) : List Value := [.int .i64 c.num, .int .i64 c.beg, .int .i64 c.fin]
def T3.val (c : T3) : Value := .agg #[.int .i64 c.num, .int .i64 c.beg, .int .i64 c.fin]
abbrev SlT3 (w : World) (lo hi : Nat) (v : Value) (cs : List T3) : Prop := SlR T3.vals 3 w lo hi v cs

theorem SlR.T3_at {w : World} {lo hi : Nat} {cs : List T3} {A : Option Addr} {n c k : Nat} {x : T3} (h : SlT3 w lo hi (.slice A n c) cs) (hk : cs[k]? = some x) :
    ∃ b off, A = some ⟨b, off, none⟩ ∧ lo ≤ b ∧ b < hi ∧ w.cell? ⟨b, off + k * 3, none⟩ = some (.int .i64 x.num) ∧ w.cell? ⟨b, off + k * 3 + 1, none⟩ = some (.int .i64 x.beg) ∧ w.cell? ⟨b, off + k * 3 + 2, none⟩ = some (.int .i64 x.fin) := by
  obtain ⟨b, off, e, h1, h2, h3⟩ := h.at_ hk
  exact ⟨b, off, e, h1, h2, h3 0 _ rfl, h3 1 _ rfl, h3 2 _ rfl⟩
theorem own_slT3 {w : World} {base : Nat} {e : TypeId} {v : Value} {xs : List T3} (h : OwnR T3.vals 3 w base e v xs) : SlT3 w base w.heap.size v xs := own_slR (f := T3.vals) (s := 3) (fun _ => rfl) h

set_option maxHeartbeats 400000 in
theorem toTerm_any (c : T3) (w : World) :
    Calls Try.prog 21 #[c.val] w fun e w' => e = .returned c.val ∧ Below w.heap.size w w' := by
  obtain ⟨p0, p1, p2⟩ := c
  unfold T3.val
  dsimp only
  go_enter Try.func21, Try.ntmps21
  go_wp2
  exact bodyPost_ret (v := .agg #[.int .i64 p0, .int .i64 p1, .int .i64 p2]) (by simp [results, Try.results21, go_sem]) rfl ⟨rfl, (((Below.refl _ _).alloc (Nat.le_refl _) _).alloc (by simp) _).alloc (by simp; omega) _⟩

theorem T3.eq_iff (a b : T3) : decide (a = b) = (a.num == b.num && a.beg == b.beg && a.fin == b.fin) := by
  cases a; cases b; rw [Bool.eq_iff_iff]; simp [and_assoc]

set_option maxHeartbeats 400000 in
theorem eqTerm_any (a b : T3) (w : World) :
    Calls Try.prog 51 #[a.val, b.val] w fun e w' => e = .returned (.bool (decide (a = b))) ∧ Below w.heap.size w w' := by
  rw [T3.eq_iff]
  obtain ⟨p0, p1, p2⟩ := a
  obtain ⟨q0, q1, q2⟩ := b
  unfold T3.val
  dsimp only
  go_enter Try.func51, Try.ntmps51
  go_wp2
  all_goals go_ret
  all_goals exact ⟨by simp_all, ((Below.refl _ _).alloc (Nat.le_refl _) _).alloc (by simp) _⟩

theorem Try.infoT3 : (Try.prog.info? 36).map (fun i => (i.zero, i.size, i.bytes)) = some (some (.agg #[.int .i64 0, .int .i64 0, .int .i64 0]), 3, 24) := by kernel_rfl

theorem own_rowT3 {w : World} {base : Nat} {e : TypeId} {g n c : Nat} {xs : List Value} (h : w.ownsRow base e 3 (.slice (some ⟨g, 0, none⟩) n c) n xs) {k : Nat} (hk : k < n) :
    (∃ u, w.cell? ⟨g, k * 3, none⟩ = some u) ∧ (∃ u, w.cell? ⟨g, k * 3 + 1, none⟩ = some u) ∧ (∃ u, w.cell? ⟨g, k * 3 + 2, none⟩ = some u) ∧ w.frozen? ⟨g, k * 3, none⟩ = false ∧ w.frozen? ⟨g, k * 3 + 1, none⟩ = false ∧ w.frozen? ⟨g, k * 3 + 2, none⟩ = false :=
  ⟨(own_cellAt h (k * 3) (by omega)).1, (own_cellAt h (k * 3 + 1) (by omega)).1, (own_cellAt h (k * 3 + 2) (by omega)).1, (own_cellAt h (k * 3) (by omega)).2, (own_cellAt h (k * 3 + 1) (by omega)).2, (own_cellAt h (k * 3 + 2) (by omega)).2⟩

set_option maxHeartbeats 1000000 in
theorem toTermS_any (v : Value) (cs : List T3) (w : World) (lo : Nat) (h : SlT3 w lo w.heap.size v cs) (hn : cs.length ≤ 1048576) :
    Calls Try.prog 15 #[v] w fun e w' => ∃ v', e = .returned v' ∧ OwnR T3.vals 3 w' w.heap.size 36 v' cs ∧ Below w.heap.size w w' := by
  obtain ⟨i0, hi, hz0, hz1, hz2⟩ := info_parts Try.infoT3
  obtain ⟨A, c, rfl, hc1, hc2⟩ := h.form
  go_enter Try.func15, Try.ntmps15
  go_wp2_with (first | (at_make; refine wpList_make_full _ rfl _ _ 25 rfl w.heap.size 36 i0 _ 3 Try.underlying25 hi hz0 hz1 _ _ _ _ cs.length rfl rfl rfl rfl ?c1 ?c2 ?c3 ?_))
  case c1 => rw [hz2]; omega
  case c2 => unfold maxLen; omega
  case c3 => exact Nat.le_refl _
  intro w1 hown hgrow
  have hb1 : Below w.heap.size w w1 := (Below.refl _ _).grown hgrow (Nat.le_refl _) (by intro k h; cases h)
  clear hgrow hi hz0 hz1 hz2 i0
  go_wp2_with fail
  go_loopw [4] (fun i wr => ∃ (k : Nat) (xs : List Value), i = .int .i64 k ∧ k ≤ cs.length ∧ wr.ownsRow w.heap.size 36 3 (.slice (some ⟨w.heap.size, 0, none⟩) cs.length cs.length) cs.length xs ∧ xs.take (k * 3) = (cs.take k).flatMap T3.vals ∧ Below w.heap.size w wr) (fun i wr => cs.length - (intOf i).toNat)
  case atStart => exact ⟨0, _, rfl, Nat.zero_le _, hown, by simp, hb1⟩
  case round =>
    obtain ⟨k, xs, rfl, hk, hown2, hxs, hbr⟩ := hrel
    clear hown hb1
    by_cases hlt : k < cs.length
    · obtain ⟨x, hx⟩ := some_at hlt
      obtain ⟨b, off, rfl, _, hb, c0, c1, c2⟩ := SlR.T3_at (h.below hbr (Nat.le_refl _)) hx
      have Hx := Lib.hid hx
      have Hxs := Lib.hid hxs
      clear hx hxs
      go_wp2_with (go_at_call 21; refine (toTerm_any x _).mono ?_; rintro e w2 ⟨rfl, hb2⟩; unfold T3.val; obtain ⟨⟨_, g0⟩, ⟨_, g1⟩, ⟨_, g2⟩, f0, f1, f2⟩ := own_rowT3 (own_below' hown2 hb2) hlt)
      obtain ⟨r1, r2, r3⟩ := own_putR (f := T3.vals) (s := 3) (fun _ => rfl) (own_below' hown2 hb2) hlt Hx.out Hxs.out
      go_roundw
      case rel => exact ⟨k + 1, _, by go_num, hlt, r1, r2, below_put (hbr.trans (hb2.mono hbr.size)) r3 (Nat.le_trans hbr.size hb2.size) (Nat.le_refl _)⟩
      case measure => simp [intOf]; omega
    · have hkn : k = cs.length := by omega
      subst hkn
      go_wp2_with fail
      go_ret
      exact ⟨_, rfl, by rw [List.take_of_length_le (by rw [hown2.1]; exact Nat.le_refl _), List.take_length] at hxs; rw [hxs] at hown2; exact hown2, hbr⟩

theorem oneCellT3 : ∀ x : T3, ∀ u ∈ T3.vals x, u.oneCell' = true := by intro x u hu; simp [T3.vals] at hu; rcases hu with rfl | rfl | rfl <;> rfl
set_option maxHeartbeats 1000000 in
theorem cloneT3_any (v : Value) (cs : List T3) (w : World) (lo : Nat) (h : SlT3 w lo w.heap.size v cs) (hn : cs.length ≤ 2097152) :
    Calls Try.prog 56 #[v] w fun e w' => ∃ v', e = .returned v' ∧ OwnR T3.vals 3 w' w.heap.size 36 v' cs ∧ Below w.heap.size w w' := by
  obtain ⟨i0, hi, hz0, hz1, hz2⟩ := info_parts Try.infoT3
  obtain ⟨A, c, rfl, hc1, hc2⟩ := h.form
  go_enter Try.func56, Try.ntmps56
  go_wp2_with (first | (at_make; refine wpList_make_own _ rfl _ _ 25 rfl w.heap.size 36 i0 _ 3 Try.underlying25 hi hz0 hz1 _ _ _ cs.length rfl rfl rfl ?c2 ?c3 ?c4 ?_))
  case c2 => rw [hz2]; omega
  case c3 => unfold maxLen; omega
  case c4 => exact Nat.le_refl _
  intro w1 hown hgrow
  have hb1 : Below w.heap.size w w1 := (Below.refl _ _).grown hgrow (Nat.le_refl _) (by intro k h; cases h)
  have h1 := h.below hb1 (Nat.le_refl _)
  have o1 : OwnR T3.vals 3 w1 w.heap.size 36 (.slice (some ⟨w.heap.size, 0, none⟩) 0 cs.length) ([] : List T3) := hown
  clear hgrow hi hz0 hz1 hz2 i0 hown
  have hsz := hb1.size
  go_wp2_with (at_builtin; refine wpList_append_sl (f := T3.vals) (s := 3) _ (fun _ => rfl) oneCellT3 rfl _ _ 25 rfl w.heap.size 36 Try.infoT3 Try.underlying25 rfl (by decide) _ ([] : List T3) cs _ _ _ rfl o1 rfl h1 (by simp; omega) (by simp; omega) hsz ?_)
  intro v' w' o2 hbel _
  go_wp2_with fail
  go_ret
  exact ⟨v', rfl, o2, hbel _ _ hb1 (Nat.le_refl _)⟩

set_option maxHeartbeats 1000000 in
theorem eqTermS_any (u v : Value) (xs ys : List T3) (w : World) (lo lo' : Nat) (ha : SlT3 w lo w.heap.size u xs) (hb : SlT3 w lo' w.heap.size v ys) :
    Calls Try.prog 17 #[u, v] w fun e w' => e = .returned (.bool (decide (xs = ys))) ∧ Below w.heap.size w w' := by
  obtain ⟨A, c, rfl, hc1, hc2⟩ := ha.form
  obtain ⟨A', c', rfl, hc1', hc2'⟩ := hb.form
  by_cases hl : xs.length = ys.length
  · have hne : ((xs.length : Int) != (ys.length : Int)) = false := by simp [hl]
    have Hl := Lib.hid hl
    clear hl
    go_enter Try.func17, Try.ntmps17
    go_wp2_with fail
    go_loopw [5] (fun i wr => ∃ (k : Nat), i = .int .i64 k ∧ k ≤ xs.length ∧ xs.take k = ys.take k ∧ Below w.heap.size w wr) (fun i wr => xs.length - (intOf i).toNat)
    case atStart => exact ⟨0, rfl, Nat.zero_le _, rfl, Below.refl _ _⟩
    case round =>
      obtain ⟨k, rfl, hk, htk, hbr⟩ := hrel
      have Htk := Lib.hid htk
      clear htk
      by_cases hlt : k < xs.length
      · have hlt' : k < ys.length := by have := Hl.out; omega
        obtain ⟨x, hx⟩ := some_at hlt
        obtain ⟨y, hy⟩ := some_at hlt'
        obtain ⟨b, off, rfl, _, hbb, c0, c1, c2⟩ := SlR.T3_at ((ha.below hbr (Nat.le_refl _)).more (Nat.le_refl _) hbr.size) hx
        obtain ⟨b', off', rfl, _, hbb', d0, d1, d2⟩ := SlR.T3_at ((hb.below hbr (Nat.le_refl _)).more (Nat.le_refl _) hbr.size) hy
        have Hx := Lib.hid hx
        have Hy := Lib.hid hy
        clear hx hy
        go_wp2_with fail
        refine wp_region_ext (by kernel_rfl) (by kernel_rfl) ?_
        repeat (go_big_quiet_step (((go_at_call 51; exact calls_ext (eqTerm_any x y _)))))
        refine wpQuiet_nil ?_
        intro w2 hb2
        go_wp2_with fail
        · have hne2 : (!decide (x = y)) = true := by assumption
          go_ret
          exact ⟨ret_no (by intro e; have h1 := Hx.out; rw [e, Hy.out] at h1; simp [Option.some.inj h1] at hne2), hbr.trans (hb2.mono hbr.size)⟩
        · have heq2 : (!decide (x = y)) = false := by assumption
          go_roundw
          case rel => exact ⟨k + 1, by go_num, hlt, by rw [take_snoc Hx.out, take_snoc Hy.out, Htk.out]; simp at heq2; rw [heq2], hbr.trans (hb2.mono hbr.size)⟩
          case measure => simp [intOf]; omega
      · go_wp2_with fail
        go_ret
        exact ⟨ret_bool (by have h1 := Htk.out; have h2 := Hl.out; rw [List.take_of_length_le (by omega), List.take_of_length_le (by omega)] at h1; simp [h1]), hbr⟩
  · have hne : ((xs.length : Int) != (ys.length : Int)) = true := by simp; omega
    have Hl := Lib.hid hl
    clear hl
    go_enter Try.func17, Try.ntmps17
    go_wp2_with fail
    go_ret
    exact ⟨ret_no (by intro e; exact Hl.out (by rw [e])), Below.refl _ _⟩

def T3.mk1 (q : Int) : T3 := ⟨q, q + 1, q + 1 + 1⟩
set_option maxHeartbeats 1000000 in
theorem markTermS_any (v : Value) (n : Nat) (ys : List Value) (k0 : Int) (w : World) (base : Nat) (h : w.ownsRow base 36 3 v n ys) (hk0 : 0 ≤ k0) (hk1 : k0 ≤ 1152921504606846976) (hn : n ≤ 72057594037927936) :
    Calls Try.prog 23 #[v, .int .i64 k0] w fun e w' => e = .returned (.int .i64 (k0 + 3 * n)) ∧ OwnR T3.vals 3 w' base 36 v (marks T3.mk1 3 k0 n) ∧ w.grownBy w' v.ownBlock := by
  obtain ⟨A, c, rfl, hc1, hc2, hA⟩ := own_form h
  go_enter Try.func23, Try.ntmps23
  go_wp2_with fail
  go_loopw [1, 5] (fun q i wr => ∃ (k : Nat) (xs : List Value) (z : Int), i = .int .i64 k ∧ q = .int .i64 z ∧ Hid (z = k0 + 3 * k) ∧ k ≤ n ∧ wr.ownsRow base 36 3 (.slice A n c) n xs ∧ xs.take (k * 3) = ((marks T3.mk1 3 k0 n).take k).flatMap T3.vals ∧ w.grownBy wr (Value.slice A n c).ownBlock) (fun q i wr => n - (intOf i).toNat)
  case atStart => exact ⟨0, _, _, rfl, rfl, Lib.hid (by omega), Nat.zero_le _, h, by simp, World.grownBy.refl _ _⟩
  case round =>
    obtain ⟨k, xs, z, rfl, rfl, Hz, hk, hown2, hxs, hgr⟩ := hrel
    by_cases hlt : k < n
    · obtain ⟨g, rfl, hbg, _⟩ := hA (by omega)
      obtain ⟨⟨_, g0⟩, ⟨_, g1⟩, ⟨_, g2⟩, f0, f1, f2⟩ := own_rowT3 hown2 hlt
      have hz0 : 0 ≤ z := by have := Hz.out; omega
      have hz1 : z ≤ 4611686018427387904 := by have := Hz.out; omega
      have Hxs := Lib.hid hxs
      clear hxs
      have hm := marks_at T3.mk1 3 k0 hlt
      rw [show k0 + ((3 : Nat) : Int) * (k : Int) = z from by have := Hz.out; omega] at hm
      have Hm := Lib.hid hm
      clear hm
      go_wp2_with fail
      obtain ⟨r1, r2, r3⟩ := own_putR (f := T3.vals) (s := 3) (fun _ => rfl) hown2 hlt Hm.out Hxs.out
      go_roundw
      case rel => exact ⟨k + 1, _, _, by go_num, rfl, Lib.hid (by have := Hz.out; omega), hlt, r1, r2, grownBy_trans hgr r3⟩
      case measure => simp [intOf]; omega
    · have hkn : k = n := by omega
      subst hkn
      go_wp2_with fail
      go_ret
      refine ⟨ret_int Hz.out, ?_, hgr⟩
      unfold OwnR
      rw [marks_len]
      rw [List.take_of_length_le (by rw [hown2.1]; exact Nat.le_refl _), List.take_of_length_le (by rw [marks_len]; exact Nat.le_refl _)] at hxs
      rw [← hxs]; exact hown2

set_option maxHeartbeats 1000000 in
theorem heldTermS_any (v : Value) (n : Nat) (k0 : Int) (w : World) (lo hi : Nat) (h : SlT3 w lo hi v (marks T3.mk1 3 k0 n)) (hk0 : 0 ≤ k0) (hk1 : k0 ≤ 1152921504606846976) (hn : n ≤ 72057594037927936) :
    Calls Try.prog 24 #[v, .int .i64 k0] w fun e w' => e = .returned (.int .i64 (k0 + 3 * n)) ∧ w = w' := by
  obtain ⟨A, c, rfl, hc1, hc2⟩ := h.form
  rw [marks_len] at hc1 h ⊢
  go_enter Try.func24, Try.ntmps24
  go_wp2_with fail
  go_loop [1, 5] (fun q i => ∃ (k : Nat) (z : Int), i = .int .i64 k ∧ q = .int .i64 z ∧ Hid (z = k0 + 3 * k) ∧ k ≤ n) (fun q i => n - (intOf i).toNat)
  case atStart => exact ⟨0, _, rfl, rfl, Lib.hid (by omega), Nat.zero_le _⟩
  case round =>
    obtain ⟨k, z, rfl, rfl, Hz, hk⟩ := hrel
    by_cases hlt : k < n
    · have hm := marks_at T3.mk1 3 k0 hlt
      rw [show k0 + ((3 : Nat) : Int) * (k : Int) = z from by have := Hz.out; omega] at hm
      obtain ⟨b, off, rfl, _, _, c0, c1, c2⟩ := SlR.T3_at h hm
      unfold T3.mk1 at c0 c1 c2
      dsimp only at c0 c1 c2
      clear hm
      have hz0 : 0 ≤ z := by have := Hz.out; omega
      have hz1 : z ≤ 4611686018427387904 := by have := Hz.out; omega
      have hne0 : ((z : Int) != (z : Int)) = false := by simp
      have hne1 : ((z + 1 : Int) != (z + 1 : Int)) = false := by simp
      have hne2 : ((z + 1 + 1 : Int) != (z + 1 + 1 : Int)) = false := by simp
      go_wp2_with fail
      go_round
      case rel => exact ⟨k + 1, _, by go_num, rfl, Lib.hid (by have := Hz.out; omega), hlt⟩
      case measure => simp [intOf]; omega
    · have hkn : k = n := by omega
      subst hkn
      go_wp2_with fail
      go_ret
      exact ⟨ret_int Hz.out, rfl⟩

theorem szTermS_small (v : Value) (cs : List T3) (w : World) {lo hi : Nat} (h : SlT3 w lo hi v cs) (hn : cs.length ≤ 1048576) :
    Calls Try.prog 13 #[v, .int .i64 1048576] w fun e w' => e = .returned (.int .i64 (1048576 - (cs.length : Int))) ∧ w = w' := by
  obtain ⟨A, c, rfl, hc1, hc2⟩ := h.form
  go_enter Try.func13, Try.ntmps13
  go_wp2
  go_ret
  exact ⟨rfl, rfl⟩
theorem szTermS_big (v : Value) (cs : List T3) (w : World) {lo hi : Nat} (h : SlT3 w lo hi v cs) (hn : 1048576 < cs.length) :
    Calls Try.prog 13 #[v, .int .i64 1048576] w fun e w' => e = .returned (.int .i64 (-1)) ∧ w = w' := by
  obtain ⟨A, c, rfl, hc1, hc2⟩ := h.form
  go_enter Try.func13, Try.ntmps13
  go_wp2
  go_ret
  exact ⟨rfl, rfl⟩
theorem szTermS_u (v : Value) (cs : List T3) (l : Int) (w : World) {lo hi : Nat} (h : SlT3 w lo hi v cs) (_ : hi ≤ w.heap.size) (hl : 0 ≤ l) (hl1 : l ≤ 1048576) :
    Calls Try.prog 13 #[v, .int .i64 l] w fun e w' => ∃ r : Int, e = .returned (.int .i64 r) ∧ r ≤ l ∧ (0 ≤ r → cs.length ≤ 1048576) ∧ Below w.heap.size w w' := by
  obtain ⟨A, c, rfl, hc1, hc2⟩ := h.form
  by_cases q : l - (cs.length : Int) < 0
  · go_enter Try.func13, Try.ntmps13
    go_wp2
    go_ret
    exact ⟨_, rfl, by omega, fun h => by omega, Below.refl _ _⟩
  · go_enter Try.func13, Try.ntmps13
    go_wp2
    go_ret
    exact ⟨_, rfl, by omega, fun h => by omega, Below.refl _ _⟩

theorem cells_lawsTerm : Try.prog.cellsOf 33 = 3 := by kernel_rfl
theorem cells_i64_T3 : Try.prog.cellsOf 2 = 1 := by kernel_rfl

set_option maxRecDepth 100000 in
theorem open_T3 {H : Type} {enc : TypeId × Value → H} {w : World} {spare : Nat → Bool} {held : Bool} {n : Nat} {cs : List Value} {y : DataW H × List MemPlace} (h : DataW.trod enc Try.prog w 0 spare held n 33 cs = some y) :
    ∃ a : T3, cs = a.vals ∧ True := by
  have hl := struct_len Try.underlying33 h
  rw [cells_lawsTerm] at hl
  obtain ⟨a0, e0, _⟩ := field_i64 Try.underlying33 h 0 0 2 rfl rfl rfl Try.underlying2 cells_i64_T3 (by omega)
  obtain ⟨a1, e1, _⟩ := field_i64 Try.underlying33 h 1 1 2 rfl rfl rfl Try.underlying2 cells_i64_T3 (by omega)
  obtain ⟨a2, e2, _⟩ := field_i64 Try.underlying33 h 2 2 2 rfl rfl rfl Try.underlying2 cells_i64_T3 (by omega)
  match cs, hl with
  | [x0, x1, x2], _ =>
    simp at e0 e1 e2
    subst e0 e1 e2
    exact ⟨⟨a0, a1, a2⟩, rfl, trivial⟩

set_option maxRecDepth 100000 in
theorem open_TermS {H : Type} {enc : TypeId × Value → H} {w : World} {base : Nat} {v : Value} {d : DataW H} {p : List MemPlace} (hv : Value.okWide Try.prog w .any base 22 v) (h : DataW.Trod enc Try.prog w 0 (fun _ => true) true 22 v d p) :
    ∃ cs : List T3, SlT3 w 0 w.heap.size v cs := by
  obtain ⟨A, n, c, rfl⟩ := okWide_slice Try.underlying22 hv
  obtain ⟨fuel, hf⟩ := h
  obtain ⟨xs, h1, _⟩ := open_slR (f := T3.vals) (s := 3) (fun _ => rfl) (by decide) Try.underlying22 cells_lawsTerm hf fun _ _ _ hy => open_T3 hy
  exact ⟨xs, h1⟩
end Go.Proofs.Ytacoimlccibdfaa
