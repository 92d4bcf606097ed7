/- Sheets (a day and the numbers that were present): copies, comparisons, sizes, the reading of a list of them. No condition but the sizes that the law itself asks. -/
import Derived.Test.YtbboihodikhhkaaIntC
namespace Go.Proofs.Ytbboihodikhhkaa
open Go.ChangeShapes Go.WideShapes Go.ChangeAt Go.RowKit

/-- A sheet as it lies: its day, the slice, and what the slice reads. -/
structure H2 where
  day : Int
  A : Option Addr
  c : Nat
  pres : List Int
def H2.vals (x : H2) : List Value := [.int .i64 x.day, (.slice x.A x.pres.length x.c)]
def H2.ct (x : H2) : Int × List Int := (x.day, x.pres)
structure SlH (w : World) (lo hi : Nat) (v : Value) (xs : List H2) : Prop where
  outer : SlR H2.vals 2 w lo hi v xs
  inner : ∀ x ∈ xs, SlI w lo hi (.slice x.A x.pres.length x.c) x.pres
section
variable {w w' : World} {lo hi lo' hi' : Nat} {v : Value} {xs : List H2}
theorem SlH.form (h : SlH w lo hi v xs) : ∃ A c, v = .slice A xs.length c ∧ xs.length ≤ c ∧ c ≤ 9223372036854775807 := h.outer.form
theorem SlH.below {B : Nat} (h : SlH w lo hi v xs) (hb : Below B w w') (hB : hi ≤ B) : SlH w' lo hi v xs := ⟨h.outer.below hb hB, fun x hx => (h.inner x hx).below hb hB⟩
theorem SlH.more (h : SlH w lo hi v xs) (h1 : lo' ≤ lo) (h2 : hi ≤ hi') : SlH w lo' hi' v xs := ⟨h.outer.more h1 h2, fun x hx => (h.inner x hx).more h1 h2⟩
theorem SlH.grown {row : Option Nat} (h : SlH w lo hi v xs) (hg : w.grownBy w' row) (hh : hi ≤ w.heap.size) (hr : ∀ g, row = some g → g < lo ∨ hi ≤ g) : SlH w' lo hi v xs := ⟨h.outer.grown hg hh hr, fun x hx => (h.inner x hx).grown hg hh hr⟩
theorem SlH.at_ {A : Option Addr} {n c k : Nat} {x : H2} (h : SlH w lo hi (.slice A n c) xs) (hk : xs[k]? = some x) :
    ∃ b off, A = some ⟨b, off, none⟩ ∧ lo ≤ b ∧ b < hi ∧ w.cell? ⟨b, off + k * 2, none⟩ = some (.int .i64 x.day) ∧ w.cell? ⟨b, off + k * 2 + 1, none⟩ = some (.slice x.A x.pres.length x.c) ∧ SlI w lo hi (.slice x.A x.pres.length x.c) x.pres := by
  obtain ⟨b, off, e, h1, h2, h3⟩ := h.outer.at_ hk
  exact ⟨b, off, e, h1, h2, h3 0 _ rfl, h3 1 _ rfl, h.inner x (List.mem_of_getElem? hk)⟩
theorem SlH.ext (h : SlH w lo hi v xs) (hh : hi ≤ w.heap.size) (e : Ext) : SlH (World.ext w e) lo (World.ext w e).heap.size v xs := ⟨h.outer.ext hh e, fun x hx => (h.inner x hx).ext hh e⟩
end

/-- The call owns the row, and each list in it, and these lie apart. -/
structure OwnH (w : World) (base : Nat) (v : Value) (xs : List H2) : Prop where
  outer : OwnR H2.vals 2 w base 56 v xs
  inner : ∀ x ∈ xs, OwnR i64s 1 w base 2 (.slice x.A x.pres.length x.c) x.pres
  apart : xs.Pairwise (fun x y => ∀ g, (Value.slice x.A x.pres.length x.c).ownBlock = some g → (Value.slice y.A y.pres.length y.c).ownBlock ≠ some g)
  off : ∀ x ∈ xs, ∀ g, v.ownBlock = some g → (Value.slice x.A x.pres.length x.c).ownBlock ≠ some g
section
variable {w w' : World} {base : Nat} {v : Value} {xs : List H2}
theorem OwnH.sl (h : OwnH w base v xs) : SlH w base w.heap.size v xs := ⟨own_slR (f := H2.vals) (s := 2) (fun _ => rfl) h.outer, fun x hx => own_slI (h.inner x hx)⟩
theorem OwnH.below (h : OwnH w base v xs) (hb : Below w.heap.size w w') : OwnH w' base v xs := ⟨h.outer.below hb, fun x hx => (h.inner x hx).below hb, h.apart, h.off⟩
theorem OwnH.more {base' : Nat} (h : OwnH w base v xs) (hb : base' ≤ base) : OwnH w base' v xs := ⟨h.outer.more hb, fun x hx => (h.inner x hx).more hb, h.apart, h.off⟩
theorem OwnH.grown {row : Option Nat} (h : OwnH w base v xs) (hg : w.grownBy w' row) (hne : ∀ g, row = some g → g < base ∨ w.heap.size ≤ g) : OwnH w' base v xs := ⟨h.outer.grown hg hne, fun x hx => (h.inner x hx).grown hg hne, h.apart, h.off⟩
end

set_option maxHeartbeats 1000000 in
theorem toSheet_any (pv : Value) (day : Int) (pres : List Int) (w : World) (lo : Nat) (h : SlI w lo w.heap.size pv pres) (hl : pres.length ≤ 1048576) :
    Calls Try.prog 38 #[.agg #[.int .i64 day, pv]] w fun e w' => ∃ xv, e = .returned (.agg #[.int .i64 day, xv]) ∧ OwnR i64s 1 w' w.heap.size 2 xv pres ∧ Below w.heap.size w w' := by
  go_enter Try.func38, Try.ntmps38
  go_wp2_with fail
  have b1 : Blk (((w.alloc (.cells #[.int .i64 day, pv] 55)).alloc (.cells #[.int .i64 0, .slice none 0 0] 56)).alloc (.cells #[.int .i64 day, .slice none 0 0] 56)) w.heap.size _ _ := ((Blk.new w _ _).alloc _).alloc _
  have b2 : Blk (((w.alloc (.cells #[.int .i64 day, pv] 55)).alloc (.cells #[.int .i64 0, .slice none 0 0] 56)).alloc (.cells #[.int .i64 day, .slice none 0 0] 56)) (w.heap.size + 1) _ _ := (Blk.new' (by simp)).alloc _
  have b3 : Blk (((w.alloc (.cells #[.int .i64 day, pv] 55)).alloc (.cells #[.int .i64 0, .slice none 0 0] 56)).alloc (.cells #[.int .i64 day, .slice none 0 0] 56)) (w.heap.size + 1 + 1) _ _ := Blk.new' (by simp)
  have hB0 : Below w.heap.size w (((w.alloc (.cells #[.int .i64 day, pv] 55)).alloc (.cells #[.int .i64 0, .slice none 0 0] 56)).alloc (.cells #[.int .i64 day, .slice none 0 0] 56)) := (((Below.refl _ _).alloc (Nat.le_refl _) _).alloc (by simp) _).alloc (by simp; omega) _
  generalize (((w.alloc (.cells #[.int .i64 day, pv] 55)).alloc (.cells #[.int .i64 0, .slice none 0 0] 56)).alloc (.cells #[.int .i64 day, .slice none 0 0] 56)) = W0 at *
  have h0 := (h.below hB0 (Nat.le_refl _)).more (hi' := W0.heap.size) (Nat.le_refl _) hB0.size
  have l3 := b3.lt
  refine (toInt64S_any pv pres W0 lo h0 hl).mono ?_
  rintro e w1 ⟨xn, rfl, o1, hb1⟩
  obtain ⟨X1, k1, rfl, _, _, _⟩ := own_form (OwnR.own o1)
  have z1 := hb1.size
  have bd1 := Lib.hid (World.ownsRow.lt (OwnR.own o1))
  have b1 := b1.below' hb1
  have b2 := b2.below' hb1
  have b3 := b3.below' hb1
  have hB1 := hB0.trans (hb1.mono (by omega))
  clear hB0 h0 hb1
  have c30 : w1.cell? ⟨w.heap.size + 1 + 1, 0, none⟩ = some (.int .i64 day) := b3.cell 0
  have c31 : w1.cell? ⟨w.heap.size + 1 + 1, 1, none⟩ = some (.slice none 0 0) := b3.cell 1
  have f31 : w1.frozen? ⟨w.heap.size + 1 + 1, 1, none⟩ = false := b3.frozen 1
  have c20 : w1.cell? ⟨w.heap.size + 1, 0, none⟩ = some (.int .i64 0) := b2.cell 0
  have c21 : w1.cell? ⟨w.heap.size + 1, 1, none⟩ = some (.slice none 0 0) := b2.cell 1
  have f20 : w1.frozen? ⟨w.heap.size + 1, 0, none⟩ = false := b2.frozen 0
  have f21 : w1.frozen? ⟨w.heap.size + 1, 1, none⟩ = false := b2.frozen 1
  go_wp2_with fail
  refine bodyPost_ret (v := .agg #[.int .i64 day, .slice X1 pres.length k1]) (by simp [results, Try.results38, go_sem, c30, c31, c20, c21]) rfl ⟨_, rfl, ?_, ?_⟩
  · repeat' refine OwnR.setCell ?_ _ _ (fun k hk => by have := bd1.out k hk; simp; omega)
    exact o1.more (by omega)
  · repeat' refine Below.setCell ?_ (by simp; try omega) _
    exact hB1

set_option maxHeartbeats 1000000 in
theorem eqSheet_any (u v : Value) (d e : Int) (xs ys : List Int) (w : World) (lo lo' : Nat) (h1 : SlI w lo w.heap.size u xs) (h2 : SlI w lo' w.heap.size v ys) :
    Calls Try.prog 39 #[.agg #[.int .i64 d, u], .agg #[.int .i64 e, v]] w fun x w' => x = .returned (.bool (decide ((d, xs) = (e, ys)))) ∧ Below w.heap.size w w' := by
  rw [show decide ((d, xs) = (e, ys)) = (d == e && decide (xs = ys)) by rw [Bool.eq_iff_iff]; simp]
  cases he : d == e
  · have hne : (d != e) = true := by simp [bne, he]
    go_enter Try.func39, Try.ntmps39
    go_wp2_with fail
    go_ret
    exact ⟨rfl, ((Below.refl _ _).alloc (Nat.le_refl _) _).alloc (by simp) _⟩
  · have hne : (d != e) = false := by simp [bne, he]
    go_enter Try.func39, Try.ntmps39
    go_wp2_with fail
    have hB : Below w.heap.size w ((w.alloc (.cells #[.int .i64 d, u] 56)).alloc (.cells #[.int .i64 e, v] 56)) := ((Below.refl _ _).alloc (Nat.le_refl _) _).alloc (by simp) _
    generalize ((w.alloc (.cells #[.int .i64 d, u] 56)).alloc (.cells #[.int .i64 e, v] 56)) = W at *
    have up : ∀ {v : Value} {l : Nat} {zs : List Int} {w1 : World}, SlI w l w.heap.size v zs → Below w.heap.size w w1 → SlI w1 l w1.heap.size v zs := fun h hb => (h.below hb (Nat.le_refl _)).more (Nat.le_refl _) hb.size
    refine (eqInt64S_any u v xs ys W _ _ (up h1 hB) (up h2 hB)).mono ?_
    rintro e1 w1 ⟨rfl, hb1⟩
    have hB1 := hB.trans (hb1.mono hB.size)
    cases e1 : decide (xs = ys)
    all_goals go_wp2_with fail
    all_goals go_ret
    all_goals exact ⟨by rw [e1]; rfl, hB1⟩

theorem eqSheet_as {u v : Value} {d e : Int} {xs ys : List Int} {r : Bool} (hr : decide ((d, xs) = (e, ys)) = r) {w : World} {lo lo' : Nat} (h1 : SlI w lo w.heap.size u xs) (h2 : SlI w lo' w.heap.size v ys) :
    Calls Try.prog 39 #[.agg #[.int .i64 d, u], .agg #[.int .i64 e, v]] w fun x w' => x = .returned (.bool r) ∧ Below w.heap.size w w' := hr ▸ eqSheet_any u v d e xs ys w lo lo' h1 h2

set_option maxHeartbeats 1000000 in
theorem szSheet_any (pv : Value) (day : Int) (pres : List Int) (l : Int) (w : World) {lo hi : Nat} (h : SlI w lo hi pv pres) (hh : hi ≤ w.heap.size) (hl : 0 ≤ l) (hl1 : l ≤ 1048576) :
    Calls Try.prog 36 #[.agg #[.int .i64 day, pv], .int .i64 l] w fun e w' => e = .returned (.int .i64 (if l - pres.length < 0 then -1 else l - pres.length)) ∧ Below w.heap.size w w' := by
  have hB : Below w.heap.size w (w.alloc (.cells #[.int .i64 day, pv] 55)) := (Below.refl _ _).alloc (Nat.le_refl _) _
  go_enter Try.func36, Try.ntmps36
  go_wp2_with fail
  refine (szInt64S_any pv pres _ _ (h.below hB hh) (by omega) (by omega)).mono ?_
  rintro e w1 ⟨rfl, rfl⟩
  by_cases q0 : l - (pres.length : Int) < 0
  · rw [if_pos q0]
    go_wp2_with fail
    go_ret
    exact ⟨rfl, hB⟩
  · rw [if_neg q0]
    go_wp2_with fail
    go_ret
    exact ⟨rfl, hB⟩

set_option maxHeartbeats 1000000 in
theorem szSheetS_any (v : Value) (cs : List H2) (l : Int) (w : World) {lo hi : Nat} (h : SlH w lo hi v cs) (hh : hi ≤ w.heap.size) (hl : 0 ≤ l) (hl1 : l ≤ 1048576) :
    Calls Try.prog 7 #[v, .int .i64 l] w fun e w' => ∃ r : Int, e = .returned (.int .i64 r) ∧ r ≤ l ∧ (0 ≤ r → cs.length ≤ 1048576 ∧ ∀ x ∈ cs, x.pres.length ≤ 1048576) ∧ Below w.heap.size w w' := by
  obtain ⟨A, c, rfl, hc1, hc2⟩ := h.form
  by_cases hb : l - (cs.length : Int) < 0
  · go_enter Try.func7, Try.ntmps7
    go_wp2_with fail
    go_ret
    exact ⟨-1, rfl, by omega, fun h => absurd h (by omega), Below.refl _ _⟩
  · have hcl : cs.length ≤ 1048576 := by omega
    go_enter Try.func7, Try.ntmps7
    go_wp2_with fail
    go_loopw [1, 5] (fun q i wr => ∃ (k : Nat) (z : Int), i = .int .i64 k ∧ q = .int .i64 z ∧ Hid (0 ≤ z ∧ z ≤ l) ∧ k ≤ cs.length ∧ (∀ x ∈ cs.take k, x.pres.length ≤ 1048576) ∧ Below w.heap.size w wr) (fun q i wr => cs.length - (intOf i).toNat)
    case atStart => exact ⟨0, _, rfl, rfl, Lib.hid (by omega), Nat.zero_le _, by simp, Below.refl _ _⟩
    case round =>
      obtain ⟨k, z, rfl, rfl, Hz, hk, hxs, hbr⟩ := hrel
      have Hxs := Lib.hid hxs
      clear hxs
      by_cases hlt : k < cs.length
      · obtain ⟨x, hx⟩ := some_at hlt
        obtain ⟨b, off, rfl, _, hbb, c0, c1, hi1⟩ := (h.below hbr hh).at_ hx
        have Hx := Lib.hid hx
        clear hx
        go_wp2_with fail
        have Hz1 := Hz.out
        refine (szSheet_any _ x.day x.pres z _ hi1 (Nat.le_trans hh hbr.size) Hz1.1 (by omega)).mono ?_
        rintro e w2 ⟨rfl, hb2⟩
        have hB2 := hbr.trans (hb2.mono hbr.size)
        by_cases q0 : z - (x.pres.length : Int) < 0
        · rw [if_pos q0]
          go_wp2_with fail
          go_ret
          exact ⟨-1, rfl, by omega, fun h => absurd h (by omega), hB2⟩
        · rw [if_neg q0]
          go_wp2_with fail
          go_roundw
          case rel => exact ⟨k + 1, _, by go_num, rfl, Lib.hid (by omega), hlt, by rw [take_snoc Hx.out]; intro y hy; rcases List.mem_append.1 hy with hy | hy; exact Hxs.out y hy; simp at hy; subst hy; omega, hB2⟩
          case measure => simp [intOf]; omega
      · have hkn : k = cs.length := by omega
        subst hkn
        go_wp2_with fail
        go_ret
        have Hz1 := Hz.out
        have hx := Hxs.out
        rw [List.take_length] at hx
        exact ⟨z, rfl, Hz1.2, fun _ => ⟨hcl, hx⟩, hbr⟩

theorem Try.infoH2 : (Try.prog.info? 56).map (fun i => (i.zero, i.size, i.bytes)) = some (some (.agg #[.int .i64 0, .slice none 0 0]), 2, 32) := by kernel_rfl
theorem own_rowH2 {w : World} {base : Nat} {e : TypeId} {g n c : Nat} {xs : List Value} (h : w.ownsRow base e 2 (.slice (some ⟨g, 0, none⟩) n c) n xs) {k : Nat} (hk : k < n) :
    (∃ u, w.cell? ⟨g, k * 2, none⟩ = some u) ∧ (∃ u, w.cell? ⟨g, k * 2 + 1, none⟩ = some u) ∧ w.frozen? ⟨g, k * 2, none⟩ = false ∧ w.frozen? ⟨g, k * 2 + 1, none⟩ = false :=
  ⟨(own_cellAt h (k * 2) (by omega)).1, (own_cellAt h (k * 2 + 1) (by omega)).1, (own_cellAt h (k * 2) (by omega)).2, (own_cellAt h (k * 2 + 1) (by omega)).2⟩

set_option maxHeartbeats 1000000 in
theorem toSheetS_any (v : Value) (cs : List H2) (w : World) (lo : Nat) (h : SlH w lo w.heap.size v cs) (hn : cs.length ≤ 1048576) (hp : ∀ x ∈ cs, x.pres.length ≤ 1048576) :
    Calls Try.prog 9 #[v] w fun e w' => ∃ v' ys, e = .returned v' ∧ OwnH w' w.heap.size v' ys ∧ ys.map H2.ct = cs.map H2.ct ∧ Below w.heap.size w w' := by
  obtain ⟨i0, hi, hz0, hz1, hz2⟩ := info_parts Try.infoH2
  obtain ⟨A, c, rfl, hc1, hc2⟩ := h.form
  go_enter Try.func9, Try.ntmps9
  go_wp2_with (first | (at_make; refine wpList_make_full _ rfl _ _ 26 rfl w.heap.size 56 i0 _ 2 Try.underlying26 hi hz0 hz1 _ _ _ _ cs.length rfl rfl rfl rfl ?c1 ?c2 ?c3 ?_))
  case c1 => rw [hz2]; omega
  case c2 => unfold maxLen; omega
  case c3 => exact Nat.le_refl _
  intro w1 hown hgrow
  have hb1 : Below w.heap.size w w1 := (Below.refl _ _).grown hgrow (Nat.le_refl _) (by intro k h; cases h)
  clear hgrow hi hz0 hz1 hz2 i0
  go_wp2_with fail
  go_loopw [4] (fun i wr => ∃ (k : Nat) (xs : List Value) (ys : List H2), i = .int .i64 k ∧ k ≤ cs.length ∧ wr.ownsRow w.heap.size 56 2 (.slice (some ⟨w.heap.size, 0, none⟩) cs.length cs.length) cs.length xs ∧ ys.length = k ∧ xs.take (k * 2) = ys.flatMap H2.vals ∧ Hid (ys.map H2.ct = (cs.take k).map H2.ct) ∧ Hid (∀ x ∈ ys, OwnR i64s 1 wr (w.heap.size + 1) 2 (.slice x.A x.pres.length x.c) x.pres) ∧ Hid (ys.Pairwise (fun x y => ∀ g, (Value.slice x.A x.pres.length x.c).ownBlock = some g → (Value.slice y.A y.pres.length y.c).ownBlock ≠ some g)) ∧ Below w.heap.size w wr) (fun i wr => cs.length - (intOf i).toNat)
  case atStart => exact ⟨0, _, [], rfl, Nat.zero_le _, hown, rfl, by simp, Lib.hid (by simp), Lib.hid (by simp), Lib.hid (by simp), hb1⟩
  case round =>
    obtain ⟨k, xs, ys, rfl, hk, hown2, hyl, hxs, Hct, Hin, Hap, hbr⟩ := hrel
    clear hown hb1
    by_cases hlt : k < cs.length
    · obtain ⟨x, hx⟩ := some_at hlt
      obtain ⟨b, off, rfl, _, hb, c0, c1, hin⟩ := (h.below hbr (Nat.le_refl _)).at_ hx
      have hpx := hp x (List.mem_of_getElem? hx)
      have Hx := Lib.hid hx
      have Hxs := Lib.hid hxs
      have Hp := Lib.hid hp
      clear hx hxs hp
      have hgl := (World.ownsRow.lt hown2 w.heap.size rfl).2
      go_wp2_with fail
      refine (toSheet_any _ x.day x.pres _ lo (hin.more (Nat.le_refl _) hbr.size) hpx).mono ?_
      rintro e w2 ⟨xv, rfl, o1, hb2⟩
      obtain ⟨X1, k1, rfl, _, _, _⟩ := own_form (OwnR.own o1)
      obtain ⟨⟨_, g0⟩, ⟨_, g1⟩, f0, f1⟩ := own_rowH2 (own_below' hown2 hb2) hlt
      go_wp2_with fail
      have hy : (ys ++ [H2.mk x.day X1 k1 x.pres])[k]? = some (H2.mk x.day X1 k1 x.pres) := by rw [← hyl]; simp
      have ht : xs.take (k * 2) = ((ys ++ [H2.mk x.day X1 k1 x.pres]).take k).flatMap H2.vals := by rw [Hxs.out, List.take_append_of_le_length (by omega), List.take_of_length_le (by omega)]
      obtain ⟨r1, r2, r3⟩ := own_putR (f := H2.vals) (s := 2) (fun _ => rfl) (own_below' hown2 hb2) hlt hy ht
      rw [List.take_of_length_le (l := ys ++ [H2.mk x.day X1 k1 x.pres]) (by simp [hyl])] at r2
      have ob : ∀ g, (Value.slice X1 x.pres.length k1).ownBlock = some g → wr.heap.size ≤ g := fun g hg => (World.ownsRow.lt (OwnR.own o1) g hg).1
      go_roundw
      case rel =>
        refine ⟨k + 1, _, ys ++ [H2.mk x.day X1 k1 x.pres], by go_num, hlt, r1, by simp [hyl], r2, Lib.hid (by rw [take_snoc Hx.out, List.map_append, List.map_append, Hct.out]; rfl), Lib.hid ?_, Lib.hid ?_, below_put (hbr.trans (hb2.mono hbr.size)) r3 (Nat.le_trans hbr.size hb2.size) (Nat.le_refl _)⟩
        · intro y hy
          rcases List.mem_append.1 hy with hy | hy
          · exact ((Hin.out y hy).below hb2).grown r3 (fun g hg => by injection hg with hg; omega)
          · simp at hy; subst hy
            exact (o1.more (by omega)).grown r3 (fun g hg => by injection hg with hg; omega)
        · rw [List.pairwise_append]
          refine ⟨Hap.out, by simp, fun y hy z hz g hg he => ?_⟩
          simp at hz; subst hz
          have h1 := (World.ownsRow.lt (OwnR.own (Hin.out y hy)) g hg).2
          have h2 := ob g he
          omega
      case measure => simp [intOf]; omega
    · have hkn : k = cs.length := by omega
      subst hkn
      go_wp2_with fail
      go_ret
      refine ⟨_, ys, rfl, ⟨?_, fun y hy => (Hin.out y hy).more (by omega), Hap.out, fun y hy g hg he => ?_⟩, ?_, hbr⟩
      · unfold OwnR
        rw [List.take_of_length_le (by rw [hown2.1]; exact Nat.le_refl _)] at hxs; rw [← hxs, hyl]; exact hown2
      · have h1 := (World.ownsRow.lt (OwnR.own (Hin.out y hy)) g he).1
        have hg := Option.some.inj hg; dsimp only at hg; omega
      · have := Hct.out; rw [List.take_length] at this; exact this

set_option maxHeartbeats 1000000 in
theorem eqSheetS_raw (u v : Value) (xs ys : List H2) (w : World) (lo lo' : Nat) (ha : SlH w lo w.heap.size u xs) (hb : SlH w lo' w.heap.size v ys) :
    Calls Try.prog 11 #[u, v] w fun e w' => e = .returned (.bool (decide (xs.map H2.ct = ys.map H2.ct))) ∧ Below w.heap.size w w' := by
  obtain ⟨A, c, rfl, hc1, hc2⟩ := ha.form
  obtain ⟨A', c', rfl, hc1', hc2'⟩ := hb.form
  by_cases hl : xs.length = ys.length
  · have hne : ((xs.length : Int) != (ys.length : Int)) = false := by simp [hl]
    have Hl := Lib.hid hl
    clear hl
    go_enter Try.func11, Try.ntmps11
    go_wp2_with fail
    go_loopw [5] (fun i wr => ∃ (k : Nat), i = .int .i64 k ∧ k ≤ xs.length ∧ Hid ((xs.take k).map H2.ct = (ys.take k).map H2.ct) ∧ Below w.heap.size w wr) (fun i wr => xs.length - (intOf i).toNat)
    case atStart => exact ⟨0, rfl, Nat.zero_le _, Lib.hid rfl, Below.refl _ _⟩
    case round =>
      obtain ⟨k, rfl, hk, Htk, hbr⟩ := hrel
      by_cases hlt : k < xs.length
      · have hlt' : k < ys.length := by have := Hl.out; omega
        obtain ⟨x, hx⟩ := some_at hlt
        obtain ⟨y, hy⟩ := some_at hlt'
        obtain ⟨b, off, rfl, _, hbb, c0, c1, hin⟩ := ((ha.below hbr (Nat.le_refl _)).more (Nat.le_refl _) hbr.size).at_ hx
        obtain ⟨b', off', rfl, _, hbb', d0, d1, hin'⟩ := ((hb.below hbr (Nat.le_refl _)).more (Nat.le_refl _) hbr.size).at_ hy
        have Hx := Lib.hid hx
        have Hy := Lib.hid hy
        clear hx hy
        cases hq : decide ((x.day, x.pres) = (y.day, y.pres))
        · have hq' := of_decide_eq_false hq
          go_wp2_with fail
          refine wp_region_ext (by kernel_rfl) (by kernel_rfl) ?_
          repeat (go_big_quiet_step ((go_at_call 39; exact calls_ext (eqSheet_as hq (SlR.ext hin (Nat.le_refl _) _) (SlR.ext hin' (Nat.le_refl _) _)))))
          refine wpQuiet_nil ?_
          intro w2 hb2
          go_wp2_with fail
          go_ret
          exact ⟨ret_no (by intro e; have h1 := congrArg (fun l => l[k]?) e; simp only [List.getElem?_map, Hx.out, Hy.out, Option.map_some, H2.ct] at h1; exact hq' (Option.some.inj h1)), hbr.trans (hb2.mono hbr.size)⟩
        · have hq' := of_decide_eq_true hq
          have Hq := Lib.hid hq'
          clear hq'
          go_wp2_with fail
          refine wp_region_ext (by kernel_rfl) (by kernel_rfl) ?_
          repeat (go_big_quiet_step ((go_at_call 39; exact calls_ext (eqSheet_as hq (SlR.ext hin (Nat.le_refl _) _) (SlR.ext hin' (Nat.le_refl _) _)))))
          refine wpQuiet_nil ?_
          intro w2 hb2
          go_wp2_with fail
          go_roundw
          case rel => exact ⟨k + 1, by go_num, hlt, Lib.hid (by rw [take_snoc Hx.out, take_snoc Hy.out, List.map_append, List.map_append, Htk.out]; simp only [List.map_cons, List.map_nil, H2.ct, Hq.out]), hbr.trans (hb2.mono hbr.size)⟩
          case measure => simp [intOf]; omega
      · go_wp2_with fail
        go_ret
        exact ⟨ret_bool (by have h1 := Htk.out; have h2 := Hl.out; rw [List.take_of_length_le (by omega), List.take_of_length_le (by omega)] at h1; simp [h1]), hbr⟩
  · have hne : ((xs.length : Int) != (ys.length : Int)) = true := by simp; omega
    have Hl := Lib.hid hl
    clear hl
    go_enter Try.func11, Try.ntmps11
    go_wp2_with fail
    go_ret
    exact ⟨ret_no (by intro e; have := congrArg List.length e; simp at this; exact Hl.out this), Below.refl _ _⟩

/-- v reads as sheets with these days and numbers. -/
def RdH (w : World) (lo hi : Nat) (v : Value) (z : List (Int × List Int)) : Prop := ∃ xs, SlH w lo hi v xs ∧ xs.map H2.ct = z
def OwH (w : World) (lo hi : Nat) (v : Value) (z : List (Int × List Int)) : Prop := ∃ xs, OwnH w lo v xs ∧ xs.map H2.ct = z ∧ (∀ g, v.ownBlock = some g → g < hi) ∧ ∀ x ∈ xs, ∀ g, (Value.slice x.A x.pres.length x.c).ownBlock = some g → g < hi
section
variable {w w' : World} {lo hi lo' hi' : Nat} {v : Value} {z : List (Int × List Int)}
theorem RdH.form (h : RdH w lo hi v z) : ∃ A c, v = .slice A z.length c ∧ z.length ≤ c ∧ c ≤ 9223372036854775807 := by
  obtain ⟨xs, h, rfl⟩ := h
  rw [List.length_map]; exact h.form
theorem RdH.below {B : Nat} (h : RdH w lo hi v z) (hb : Below B w w') (hB : hi ≤ B) : RdH w' lo hi v z := h.imp fun _ h => ⟨h.1.below hb hB, h.2⟩
theorem RdH.more (h : RdH w lo hi v z) (h1 : lo' ≤ lo) (h2 : hi ≤ hi') : RdH w lo' hi' v z := h.imp fun _ h => ⟨h.1.more h1 h2, h.2⟩
theorem RdH.chg (h : RdH w lo' hi' v z) (hc : Chg lo hi w w') (hh : hi' ≤ w.heap.size) (hd : hi' ≤ lo ∨ hi ≤ lo') : RdH w' lo' hi' v z := h.imp fun _ h => ⟨⟨h.1.outer.chg hc hh hd, fun x hx => (h.1.inner x hx).chg hc hh hd⟩, h.2⟩
theorem OwH.of {xs : List H2} (h : OwnH w lo v xs) (hz : xs.map H2.ct = z) : OwH w lo w.heap.size v z :=
  ⟨xs, h, hz, fun g hg => (World.ownsRow.lt (OwnR.own h.outer) g hg).2, fun x hx g hg => (World.ownsRow.lt (OwnR.own (h.inner x hx)) g hg).2⟩
theorem OwH.below (h : OwH w lo hi v z) (hb : Below w.heap.size w w') : OwH w' lo hi v z := h.imp fun _ h => ⟨h.1.below hb, h.2⟩
theorem OwH.rd (h : OwH w lo hi v z) : RdH w lo w.heap.size v z := h.imp fun _ h => ⟨h.1.sl, h.2.1⟩
theorem OwH.chg (h : OwH w lo hi v z) (hc : Chg lo' hi' w w') (hd : hi ≤ lo' ∨ hi' ≤ lo) : OwH w' lo hi v z := by
  obtain ⟨xs, h, hz, h1, h2⟩ := h
  refine ⟨xs, ⟨h.outer.keep fun g hg => ?_, fun x hx => (h.inner x hx).keep fun g hg => ?_, h.apart, h.off⟩, hz, h1, h2⟩
  · have := World.ownsRow.lt (OwnR.own h.outer) g hg
    have := h1 g hg
    exact hc.block g (by omega) (by omega)
  · have := World.ownsRow.lt (OwnR.own (h.inner x hx)) g hg
    have := h2 x hx g hg
    exact hc.block g (by omega) (by omega)
end

theorem szSheetS_u (v : Value) (z : List (Int × List Int)) (l : Int) (w : World) {lo hi : Nat} (h : RdH w lo hi v z) (hh : hi ≤ w.heap.size) (hl : 0 ≤ l) (hl1 : l ≤ 1048576) :
    Calls Try.prog 7 #[v, .int .i64 l] w fun e w' => ∃ r : Int, e = .returned (.int .i64 r) ∧ r ≤ l ∧ (0 ≤ r → z.length ≤ 1048576 ∧ ∀ x ∈ z, x.2.length ≤ 1048576) ∧ Below w.heap.size w w' := by
  obtain ⟨xs, h, rfl⟩ := h
  refine (szSheetS_any v xs l w h hh hl hl1).mono ?_
  rintro e w' ⟨r, h1, h2, h3, h4⟩
  exact ⟨r, h1, h2, fun hr => ⟨by rw [List.length_map]; exact (h3 hr).1, fun x hx => by obtain ⟨y, hy, rfl⟩ := List.mem_map.1 hx; exact (h3 hr).2 y hy⟩, h4⟩
theorem toSheetS_z (v : Value) (z : List (Int × List Int)) (w : World) (lo : Nat) (h : RdH w lo w.heap.size v z) (hn : z.length ≤ 1048576 ∧ ∀ x ∈ z, x.2.length ≤ 1048576) :
    Calls Try.prog 9 #[v] w fun e w' => ∃ v', e = .returned v' ∧ OwH w' w.heap.size w'.heap.size v' z ∧ Below w.heap.size w w' := by
  obtain ⟨xs, h, rfl⟩ := h
  rw [List.length_map] at hn
  refine (toSheetS_any v xs w lo h hn.1 (fun x hx => hn.2 _ (List.mem_map_of_mem hx))).mono ?_
  rintro e w' ⟨v', ys, h1, h2, h3, h4⟩
  exact ⟨v', h1, OwH.of h2 h3, h4⟩
theorem eqSheetS_z (u v : Value) (xs ys : List (Int × List Int)) (w : World) (lo lo' : Nat) (ha : RdH w lo w.heap.size u xs) (hb : RdH w lo' w.heap.size v ys) :
    Calls Try.prog 11 #[u, v] w fun e w' => e = .returned (.bool (decide (xs = ys))) ∧ Below w.heap.size w w' := by
  obtain ⟨xs, ha, rfl⟩ := ha
  obtain ⟨ys, hb, rfl⟩ := hb
  exact eqSheetS_raw u v xs ys w lo lo' ha hb

theorem cells_lawsSheet : Try.prog.cellsOf 55 = 2 := by kernel_rfl
set_option maxRecDepth 100000 in
theorem open_H2 {H : Type} {enc : TypeId × Value → H} {w : World} {spare : Nat → Bool} {held : Bool} {n : Nat} {cs : List Value} {y : DataW H × List MemPlace} (h : DataW.trod enc Try.prog w 0 spare held n 55 cs = some y) :
    ∃ a : H2, cs = a.vals ∧ SlI w 0 w.heap.size (.slice a.A a.pres.length a.c) a.pres := by
  have hl := struct_len Try.underlying55 h
  rw [cells_lawsSheet] at hl
  obtain ⟨a0, e0, _⟩ := field_i64 Try.underlying55 h 0 0 2 rfl rfl rfl Try.underlying2 cells_i64 (by omega)
  obtain ⟨m1, z1, v1, e1, g1⟩ := open_field Try.underlying55 h 1 1 39 rfl rfl rfl cells_slI (by omega)
  obtain ⟨n1, hn1, _⟩ := open_slI Try.underlying39 Try.underlying2 cells_i64 g1
  obtain ⟨A, c, rfl, _, _⟩ := hn1.form
  match cs, hl with
  | [x0, x1], _ =>
    simp at e0 e1
    subst e0 e1
    exact ⟨⟨a0, A, c, n1⟩, rfl, hn1⟩

set_option maxRecDepth 100000 in
theorem open_SheetS {H : Type} {enc : TypeId × Value → H} {w : World} {base : Nat} {v : Value} {d : DataW H} {p : List MemPlace} (hv : Value.okWide Try.prog w .any base 22 v) (h : DataW.Trod enc Try.prog w 0 (fun _ => true) true 22 v d p) :
    ∃ z, RdH w 0 w.heap.size v z := by
  obtain ⟨A, n, c, rfl⟩ := okWide_slice Try.underlying22 hv
  obtain ⟨fuel, hf⟩ := h
  obtain ⟨xs, h1, h2⟩ := open_slR (f := H2.vals) (s := 2) (fun _ => rfl) (by decide) Try.underlying22 cells_lawsSheet hf fun _ _ _ hy => open_H2 hy
  exact ⟨_, xs, ⟨h1, h2⟩, rfl⟩
end Go.Proofs.Ytbboihodikhhkaa
