/- Lists of candidates: copies, comparison of equal ones, sizes, marks. No condition but the sizes that the law itself asks. -/
import Derived.Test.YtkhojhgcopnenaaQualF
import Derived.Test.YtkhojhgcopnenaaQualG
import Derived.Laws.BytesArg
namespace Go.Proofs.Ytkhojhgcopnenaa
open Go.ChangeShapes Go.WideShapes Go.ChangeAt Go.RowKit
attribute [local go_sem ↓] Go.wp_at_zero Go.wp_at_succ

abbrev SlK (w : World) (lo hi : Nat) (v : Value) (cs : List K9) : Prop := SlR K9.vals 9 w lo hi v cs
theorem own_slK {w : World} {base : Nat} {e : TypeId} {v : Value} {xs : List K9} (h : OwnR K9.vals 9 w base e v xs) : SlK w base w.heap.size v xs := own_slR (f := K9.vals) (s := 9) (fun _ => rfl) h
theorem Try.infoK9 : (Try.prog.info? 45).map (fun i => (i.zero, i.size, i.bytes)) = some (some (.agg #[.int .i64 0, .string ⟨#[]⟩, .string ⟨#[]⟩, .int .i64 0, .int .i64 0, .bool false, .bool false, .bool false, .int .i64 0]), 9, 72) := by kernel_rfl
theorem own_rowK9 {w : World} {base : Nat} {e : TypeId} {g n c : Nat} {xs : List Value} (h : w.ownsRow base e 9 (.slice (some ⟨g, 0, none⟩) n c) n xs) {k : Nat} (hk : k < n) :
    (∃ u, w.cell? ⟨g, k * 9, none⟩ = some u) ∧ (∃ u, w.cell? ⟨g, k * 9 + 1, none⟩ = some u) ∧ (∃ u, w.cell? ⟨g, k * 9 + 2, none⟩ = some u) ∧ (∃ u, w.cell? ⟨g, k * 9 + 3, none⟩ = some u) ∧ (∃ u, w.cell? ⟨g, k * 9 + 4, none⟩ = some u) ∧ (∃ u, w.cell? ⟨g, k * 9 + 5, none⟩ = some u) ∧ (∃ u, w.cell? ⟨g, k * 9 + 6, none⟩ = some u) ∧ (∃ u, w.cell? ⟨g, k * 9 + 7, none⟩ = some u) ∧ (∃ u, w.cell? ⟨g, k * 9 + 8, none⟩ = some u) ∧ w.frozen? ⟨g, k * 9, none⟩ = false ∧ w.frozen? ⟨g, k * 9 + 1, none⟩ = false ∧ w.frozen? ⟨g, k * 9 + 2, none⟩ = false ∧ w.frozen? ⟨g, k * 9 + 3, none⟩ = false ∧ w.frozen? ⟨g, k * 9 + 4, none⟩ = false ∧ w.frozen? ⟨g, k * 9 + 5, none⟩ = false ∧ w.frozen? ⟨g, k * 9 + 6, none⟩ = false ∧ w.frozen? ⟨g, k * 9 + 7, none⟩ = false ∧ w.frozen? ⟨g, k * 9 + 8, none⟩ = false :=
  ⟨(own_cellAt h (k * 9) (by omega)).1, (own_cellAt h (k * 9 + 1) (by omega)).1, (own_cellAt h (k * 9 + 2) (by omega)).1, (own_cellAt h (k * 9 + 3) (by omega)).1, (own_cellAt h (k * 9 + 4) (by omega)).1, (own_cellAt h (k * 9 + 5) (by omega)).1, (own_cellAt h (k * 9 + 6) (by omega)).1, (own_cellAt h (k * 9 + 7) (by omega)).1, (own_cellAt h (k * 9 + 8) (by omega)).1, (own_cellAt h (k * 9) (by omega)).2, (own_cellAt h (k * 9 + 1) (by omega)).2, (own_cellAt h (k * 9 + 2) (by omega)).2, (own_cellAt h (k * 9 + 3) (by omega)).2, (own_cellAt h (k * 9 + 4) (by omega)).2, (own_cellAt h (k * 9 + 5) (by omega)).2, (own_cellAt h (k * 9 + 6) (by omega)).2, (own_cellAt h (k * 9 + 7) (by omega)).2, (own_cellAt h (k * 9 + 8) (by omega)).2⟩

set_option maxRecDepth 100000 in
set_option maxHeartbeats 4000000 in
theorem toCandidateS_any (v : Value) (cs : List K9) (w : World) (lo : Nat) (h : SlK w lo w.heap.size v cs) (hn : cs.length ≤ 1048576) :
    Calls Try.prog 25 #[v] w fun e w' => ∃ v', e = .returned v' ∧ OwnR K9.vals 9 w' w.heap.size 45 v' cs ∧ Below w.heap.size w w' := by
  obtain ⟨i0, hi, hz0, hz1, hz2⟩ := info_parts Try.infoK9
  obtain ⟨A, c, rfl, hc1, hc2⟩ := h.form
  go_enter Try.func25, Try.ntmps25
  go_wp2_with (first | (at_make; refine wpList_make_full _ rfl _ _ 55 rfl w.heap.size 45 i0 _ 9 Try.underlying55 hi hz0 hz1 _ _ _ _ cs.length rfl rfl rfl rfl ?c1 ?c2 ?c3 ?_))
  case c1 => rw [hz2]; omega
  case c2 => unfold maxLen; omega
  case c3 => exact Nat.le_refl _
  intro w1 hown hgrow
  have hb1 : Below w.heap.size w w1 := (Below.refl _ _).grown hgrow (Nat.le_refl _) (by intro k h; cases h)
  clear hgrow hi hz0 hz1 hz2 i0
  go_wp2_with fail
  go_loopw [4] (fun i wr => ∃ (k : Nat) (xs : List Value), i = .int .i64 k ∧ k ≤ cs.length ∧ wr.ownsRow w.heap.size 45 9 (.slice (some ⟨w.heap.size, 0, none⟩) cs.length cs.length) cs.length xs ∧ xs.take (k * 9) = (cs.take k).flatMap K9.vals ∧ Below w.heap.size w wr) (fun i wr => cs.length - (intOf i).toNat)
  case atStart => exact ⟨0, _, rfl, Nat.zero_le _, hown, by simp, hb1⟩
  case round =>
    obtain ⟨k, xs, rfl, hk, hown2, hxs, hbr⟩ := hrel
    clear hown hb1
    by_cases hlt : k < cs.length
    · obtain ⟨x, hx⟩ := some_at hlt
      obtain ⟨b, off, rfl, _, hb, c0, c1, c2, c3, c4, c5, c6, c7, c8⟩ := at_K9 (h.below hbr (Nat.le_refl _)) hx
      have Hx := Lib.hid hx
      have Hxs := Lib.hid hxs
      clear hx hxs
      go_wp2_with (go_at_call 18; refine (toCandidate_any x _).mono ?_; rintro e w2 ⟨rfl, hb2⟩; obtain ⟨⟨_, g0⟩, ⟨_, g1⟩, ⟨_, g2⟩, ⟨_, g3⟩, ⟨_, g4⟩, ⟨_, g5⟩, ⟨_, g6⟩, ⟨_, g7⟩, ⟨_, g8⟩, f0, f1, f2, f3, f4, f5, f6, f7, f8⟩ := own_rowK9 (own_below' hown2 hb2) hlt)
      obtain ⟨r1, r2, r3⟩ := own_putR (f := K9.vals) (s := 9) (fun _ => rfl) (own_below' hown2 hb2) hlt Hx.out Hxs.out
      go_roundw
      case rel => exact ⟨k + 1, _, by go_num, hlt, r1, r2, below_put (hbr.trans (hb2.mono hbr.size)) r3 (Nat.le_trans hbr.size hb2.size) (Nat.le_refl _)⟩
      case measure => simp [intOf]; omega
    · have hkn : k = cs.length := by omega
      subst hkn
      go_wp2_with fail
      go_ret
      exact ⟨_, rfl, by rw [List.take_of_length_le (by rw [hown2.1]; exact Nat.le_refl _), List.take_length] at hxs; rw [hxs] at hown2; exact hown2, hbr⟩

set_option maxRecDepth 100000 in
set_option maxHeartbeats 4000000 in
theorem eqPerson_same (c : K9) (w : World) :
    Calls Try.prog 81 #[.agg #[.int .i64 c.num, .string c.first, .string c.last, .int .i64 c.born, .int .i64 c.zone], .agg #[.int .i64 c.num, .string c.first, .string c.last, .int .i64 c.born, .int .i64 c.zone]] w fun e w' => e = .returned (.bool true) ∧ Below w.heap.size w w' := by
  go_enter Try.func81, Try.ntmps81
  go_wp2
  go_ret
  exact ⟨by simp, ((Below.refl _ _).alloc (Nat.le_refl _) _).alloc (by simp) _⟩
set_option maxRecDepth 100000 in
set_option maxHeartbeats 4000000 in
theorem eqCandidate_same (c : K9) (w : World) :
    Calls Try.prog 66 #[.agg #[.int .i64 c.num, .string c.first, .string c.last, .int .i64 c.born, .int .i64 c.zone, .bool c.cit, .bool c.conv, .bool c.flu, .int .i64 c.job], .agg #[.int .i64 c.num, .string c.first, .string c.last, .int .i64 c.born, .int .i64 c.zone, .bool c.cit, .bool c.conv, .bool c.flu, .int .i64 c.job]] w fun e w' => e = .returned (.bool true) ∧ Below w.heap.size w w' := by
  have b1 : Blk ((w.alloc (.cells #[.int .i64 c.num, .string c.first, .string c.last, .int .i64 c.born, .int .i64 c.zone, .bool c.cit, .bool c.conv, .bool c.flu, .int .i64 c.job] 45)).alloc (.cells #[.int .i64 c.num, .string c.first, .string c.last, .int .i64 c.born, .int .i64 c.zone, .bool c.cit, .bool c.conv, .bool c.flu, .int .i64 c.job] 45)) w.heap.size 45 #[.int .i64 c.num, .string c.first, .string c.last, .int .i64 c.born, .int .i64 c.zone, .bool c.cit, .bool c.conv, .bool c.flu, .int .i64 c.job] := (Blk.new w _ _).alloc _
  have b2 : Blk ((w.alloc (.cells #[.int .i64 c.num, .string c.first, .string c.last, .int .i64 c.born, .int .i64 c.zone, .bool c.cit, .bool c.conv, .bool c.flu, .int .i64 c.job] 45)).alloc (.cells #[.int .i64 c.num, .string c.first, .string c.last, .int .i64 c.born, .int .i64 c.zone, .bool c.cit, .bool c.conv, .bool c.flu, .int .i64 c.job] 45)) (w.heap.size + 1) 45 #[.int .i64 c.num, .string c.first, .string c.last, .int .i64 c.born, .int .i64 c.zone, .bool c.cit, .bool c.conv, .bool c.flu, .int .i64 c.job] := Blk.new' (by simp)
  have hB : Below w.heap.size w ((w.alloc (.cells #[.int .i64 c.num, .string c.first, .string c.last, .int .i64 c.born, .int .i64 c.zone, .bool c.cit, .bool c.conv, .bool c.flu, .int .i64 c.job] 45)).alloc (.cells #[.int .i64 c.num, .string c.first, .string c.last, .int .i64 c.born, .int .i64 c.zone, .bool c.cit, .bool c.conv, .bool c.flu, .int .i64 c.job] 45)) := ((Below.refl _ _).alloc (Nat.le_refl _) _).alloc (by simp) _
  go_enter Try.func66, Try.ntmps66
  go_wp2_with fail
  generalize ((w.alloc (.cells #[.int .i64 c.num, .string c.first, .string c.last, .int .i64 c.born, .int .i64 c.zone, .bool c.cit, .bool c.conv, .bool c.flu, .int .i64 c.job] 45)).alloc (.cells #[.int .i64 c.num, .string c.first, .string c.last, .int .i64 c.born, .int .i64 c.zone, .bool c.cit, .bool c.conv, .bool c.flu, .int .i64 c.job] 45)) = w1 at *
  refine (eqPerson_same c w1).mono ?_
  rintro e w2 ⟨rfl, hb2⟩
  replace hB := hB.trans (hb2.mono hB.size)
  obtain ⟨_, _, _, _, _, c5, c6, c7, c8⟩ := r9_cells (b1.below' hb2)
  obtain ⟨_, _, _, _, _, d5, d6, d7, d8⟩ := r9_cells (b2.below' hb2)
  clear hb2 b1 b2
  go_wp2_with fail
  go_ret
  exact ⟨by simp, hB⟩

set_option maxRecDepth 100000 in
set_option maxHeartbeats 4000000 in
theorem eqCandidateS_same (u v : Value) (xs : List K9) (w : World) (lo lo' : Nat) (ha : SlK w lo w.heap.size u xs) (hb : SlK w lo' w.heap.size v xs) :
    Calls Try.prog 28 #[u, v] w fun e w' => e = .returned (.bool true) ∧ Below w.heap.size w w' := by
  obtain ⟨A, c, rfl, hc1, hc2⟩ := ha.form
  obtain ⟨A', c', rfl, hc1', hc2'⟩ := hb.form
  go_enter Try.func28, Try.ntmps28
  go_wp2_with fail
  go_loopw [5] (fun i wr => ∃ (k : Nat), i = .int .i64 k ∧ k ≤ xs.length ∧ Below w.heap.size w wr) (fun i wr => xs.length - (intOf i).toNat)
  case atStart => exact ⟨0, rfl, Nat.zero_le _, Below.refl _ _⟩
  case round =>
    obtain ⟨k, rfl, hk, hbr⟩ := hrel
    by_cases hlt : k < xs.length
    · obtain ⟨x, hx⟩ := some_at hlt
      obtain ⟨b, off, rfl, _, hbb, c0, c1, c2, c3, c4, c5, c6, c7, c8⟩ := at_K9 ((ha.below hbr (Nat.le_refl _)).more (Nat.le_refl _) hbr.size) hx
      obtain ⟨b', off', rfl, _, hbb', d0, d1, d2, d3, d4, d5, d6, d7, d8⟩ := at_K9 ((hb.below hbr (Nat.le_refl _)).more (Nat.le_refl _) hbr.size) hx
      clear hx
      go_wp2_with fail
      refine wp_region_ext (by kernel_rfl) (by kernel_rfl) ?_
      repeat (go_big_quiet_step ((go_at_call 66; with_reducible exact calls_ext (eqCandidate_same x _))))
      refine wpQuiet_nil ?_
      intro w2 hb2
      go_wp2_with fail
      go_roundw
      case rel => exact ⟨k + 1, by go_num, hlt, hbr.trans (hb2.mono hbr.size)⟩
      case measure => simp [intOf]; omega
    · go_wp2_with fail
      go_ret
      exact ⟨rfl, hbr⟩

set_option maxRecDepth 100000 in
set_option maxHeartbeats 4000000 in
theorem szCandidateS_u (v : Value) (cs : List K9) (l : Int) (w : World) {lo hi : Nat} (h : SlK w lo hi v cs) (hs : ∀ x ∈ cs, x.small) (hh : hi ≤ w.heap.size) (hl : 0 ≤ l) (hl1 : l ≤ 1048576) :
    Calls Try.prog 23 #[v, .int .i64 l] w fun e w' => ∃ r : Int, e = .returned (.int .i64 r) ∧ r ≤ l ∧ (0 ≤ r → cs.length ≤ 1048576) ∧ Below w.heap.size w w' := by
  obtain ⟨A, c, rfl, hc1, hc2⟩ := h.form
  have Hs := Lib.hid hs
  clear hs
  by_cases hb : l - (cs.length : Int) < 0
  · go_enter Try.func23, Try.ntmps23
    go_wp2_with fail
    go_ret
    exact ⟨-1, rfl, by omega, fun h => absurd h (by omega), Below.refl _ _⟩
  · have hcl : cs.length ≤ 1048576 := by omega
    go_enter Try.func23, Try.ntmps23
    go_wp2_with fail
    go_loopw [1, 5] (fun q i wr => ∃ (k : Nat) (z : Int), i = .int .i64 k ∧ q = .int .i64 z ∧ Hid (0 ≤ z ∧ z ≤ l) ∧ k ≤ cs.length ∧ Below w.heap.size w wr) (fun q i wr => cs.length - (intOf i).toNat)
    case atStart => exact ⟨0, _, rfl, rfl, Lib.hid (by omega), Nat.zero_le _, Below.refl _ _⟩
    case round =>
      obtain ⟨k, z, rfl, rfl, Hz, hk, hbr⟩ := hrel
      by_cases hlt : k < cs.length
      · obtain ⟨x, hx⟩ := some_at hlt
        obtain ⟨b, off, rfl, _, hbb, c0, c1, c2, c3, c4, c5, c6, c7, c8⟩ := at_K9 (h.below hbr hh) hx
        have hsx := Hs.out x (List.mem_of_getElem? hx)
        clear hx
        go_wp2_with fail
        have Hz1 := Hz.out
        refine (szCandidate_u x z _ hsx Hz1.1 (by omega)).mono ?_
        rintro e w2 ⟨q, rfl, hq, hb2⟩
        have hB2 := hbr.trans (hb2.mono hbr.size)
        by_cases q0 : q < 0
        · go_wp2_with fail
          go_ret
          exact ⟨-1, rfl, by omega, fun h => absurd h (by omega), hB2⟩
        · go_wp2_with fail
          go_roundw
          case rel => exact ⟨k + 1, q, by go_num, rfl, Lib.hid (by omega), hlt, hB2⟩
          case measure => simp [intOf]; omega
      · go_wp2_with fail
        go_ret
        have Hz1 := Hz.out
        exact ⟨z, rfl, Hz1.2, fun _ => hcl, hbr⟩

set_option maxRecDepth 100000 in
set_option maxHeartbeats 4000000 in
theorem markText_any (k : Int) (w : World) (h0 : 0 ≤ k) (h1 : k < 4611686018427387904) :
    Calls Try.prog 67 #[.int .i64 k] w fun e w' => ∃ s : ByteArray, e = .returned (.string s) ∧ Below w.heap.size w w' := by
  by_cases hk : k ≤ 0
  · go_enter Try.func67, Try.ntmps67
    go_wp2_with fail
    go_ret
    exact ⟨_, rfl, Below.refl _ _⟩
  · go_enter Try.func67, Try.ntmps67
    go_wp2_with fail
    go_loopw [0, 3] (fun q o wr => ∃ (z : Int) (s : ByteArray), q = .int .i64 z ∧ o = .string s ∧ 0 ≤ z ∧ (s.size : Int) + z ≤ k ∧ Below w.heap.size w wr) (fun q o wr => (intOf q).toNat)
    case atStart => exact ⟨k, _, rfl, rfl, h0, by simp [ByteArray.size], Below.refl _ _⟩
    case round =>
      obtain ⟨z, s, rfl, rfl, hz0, hz1, hbr⟩ := hrel
      by_cases hz : 0 < z
      · have hcv : ∀ d : Int, (convert 63 9 (.slice (some ⟨wr.heap.size, 0, none⟩) 1 1)).run Try.prog (wr.alloc (.cells #[.int .u8 d] 5)) = .ok (.string (strOfNums [d])) (wr.alloc (.cells #[.int .u8 d] 5)) := fun d =>
          run_convert_bytes_arg _ _ _ Try.underlying63 Try.underlying5 wr.heap.size 0 1 1 [d] rfl (fun i hi => by
            have : i = 0 := by omega
            subst this
            exact (Blk.new wr 5 #[.int .u8 d]).cell 0) _ Try.underlying9
        have hsz : ∀ d : Int, (strOfNums [d]).size = 1 := fun d => by rw [strOfNums_size]; rfl
        have hb3 : Below w.heap.size w (wr.alloc (.cells #[.int .u8 (48 + z % 10)] 5)) := hbr.alloc hbr.size _
        go_wp2_with (simp only [hcv, hsz])
        go_roundw
        case rel => exact ⟨z / 10, strOfNums [48 + z % 10] ++ s, rfl, rfl, by omega, by rw [ByteArray.size_append, hsz]; omega, hb3⟩
        case measure => simp [intOf]; omega
      · have hlt : ¬ (9223372036854775807 < 1 + s.size) := by omega
        go_wp2_with fail
        go_ret
        exact ⟨⟨_, rfl⟩, hbr⟩

set_option maxRecDepth 100000 in
set_option maxHeartbeats 8000000 in
theorem markCandidateS_any (v : Value) (n : Nat) (xs0 : List Value) (k0 : Int) (w : World) (base : Nat) (h : w.ownsRow base 45 9 v n xs0) (hk0 : 0 ≤ k0) (hk1 : k0 ≤ 1152921504606846976) (hn : n ≤ 72057594037927936) :
    Calls Try.prog 30 #[v, .int .i64 k0] w fun e w' => e = .returned (.int .i64 (k0 + 9 * n)) ∧ w.grownBy w' v.ownBlock := by
  obtain ⟨A, c, rfl, hc1, hc2, hA⟩ := own_form h
  go_enter Try.func30, Try.ntmps30
  go_wp2_with fail
  go_loopw [1, 5] (fun q i wr => ∃ (k : Nat) (xs : List Value) (z : Int), i = .int .i64 k ∧ q = .int .i64 z ∧ Hid (z = k0 + 9 * k) ∧ k ≤ n ∧ wr.ownsRow base 45 9 (.slice A n c) n xs ∧ w.grownBy wr (Value.slice A n c).ownBlock) (fun q i wr => n - (intOf i).toNat)
  case atStart => exact ⟨0, _, _, rfl, rfl, Lib.hid (by omega), Nat.zero_le _, h, World.grownBy.refl _ _⟩
  case round =>
    obtain ⟨k, xs, z, rfl, rfl, Hz, hk, o, hgr⟩ := hrel
    by_cases hlt : k < n
    · obtain ⟨g, rfl, hbg, _⟩ := hA (by omega)
      have hz0 : 0 ≤ z := by have := Hz.out; omega
      have hz1 : z ≤ 2305843009213693952 := by have := Hz.out; omega
      obtain ⟨⟨_, g0⟩, ⟨_, g1⟩, ⟨_, g2⟩, ⟨_, g3⟩, ⟨_, g4⟩, ⟨_, g5⟩, ⟨_, g6⟩, ⟨_, g7⟩, ⟨_, g8⟩, f0, f1, f2, f3, f4, f5, f6, f7, f8⟩ := own_rowK9 o hlt
      go_wp2_with fail
      have o1 := (World.ownsRow.stored o (k * 9) (.int .i64 z)).1
      have G1 : w.grownBy _ (some g) := grownBy_trans hgr (grownBy_setCell wr ⟨g, k * 9, none⟩ (.int .i64 z))
      clear g0 g1 g2 g3 g4 g5 g6 g7 g8 f0 f1 f2 f3 f4 f5 f6 f7 f8 hgr
      generalize wr.setCell ⟨g, k * 9, none⟩ (.int .i64 z) = wa at *
      refine (markText_any _ _ (by omega) (by omega)).mono ?_
      rintro e wb ⟨s1, rfl, hb⟩
      have o2 := own_below' o1 hb
      have G2 := grownBy_trans G1 (grownBy_of_below hb)
      clear o1 G1 hb
      obtain ⟨⟨_, g0⟩, ⟨_, g1⟩, ⟨_, g2⟩, ⟨_, g3⟩, ⟨_, g4⟩, ⟨_, g5⟩, ⟨_, g6⟩, ⟨_, g7⟩, ⟨_, g8⟩, f0, f1, f2, f3, f4, f5, f6, f7, f8⟩ := own_rowK9 o2 hlt
      go_wp2_with fail
      have o3 := (World.ownsRow.stored o2 (k * 9 + 1) (.string s1)).1
      have G3 : w.grownBy _ (some g) := grownBy_trans G2 (grownBy_setCell wb ⟨g, k * 9 + 1, none⟩ (.string s1))
      clear g0 g1 g2 g3 g4 g5 g6 g7 g8 f0 f1 f2 f3 f4 f5 f6 f7 f8 o2 G2
      generalize wb.setCell ⟨g, k * 9 + 1, none⟩ (.string s1) = wc at *
      refine (markText_any _ _ (by omega) (by omega)).mono ?_
      rintro e wd ⟨s2, rfl, hb⟩
      have o4 := own_below' o3 hb
      have G4 := grownBy_trans G3 (grownBy_of_below hb)
      clear o3 G3 hb
      obtain ⟨⟨_, g0⟩, ⟨_, g1⟩, ⟨_, g2⟩, ⟨_, g3⟩, ⟨_, g4⟩, ⟨_, g5⟩, ⟨_, g6⟩, ⟨_, g7⟩, ⟨_, g8⟩, f0, f1, f2, f3, f4, f5, f6, f7, f8⟩ := own_rowK9 o4 hlt
      go_wp2_with fail
      go_roundw
      case rel =>
        have p2 := (World.ownsRow.stored o4 (k * 9 + 2) (.string s2)).1
        have G12 : w.grownBy _ (some g) := grownBy_trans G4 (grownBy_setCell _ ⟨g, k * 9 + 2, none⟩ (.string s2))
        have p3 := (World.ownsRow.stored p2 (k * 9 + 3) (.int .i64 (z + 1 + 1 + 1))).1
        have G13 : w.grownBy _ (some g) := grownBy_trans G12 (grownBy_setCell _ ⟨g, k * 9 + 3, none⟩ (.int .i64 (z + 1 + 1 + 1)))
        have p4 := (World.ownsRow.stored p3 (k * 9 + 4) (.int .i64 (z + 1 + 1 + 1 + 1))).1
        have G14 : w.grownBy _ (some g) := grownBy_trans G13 (grownBy_setCell _ ⟨g, k * 9 + 4, none⟩ (.int .i64 (z + 1 + 1 + 1 + 1)))
        have p5 := (World.ownsRow.stored p4 (k * 9 + 5) (.bool ((z + 1 + 1 + 1 + 1 + 1) % 3 == 0))).1
        have G15 : w.grownBy _ (some g) := grownBy_trans G14 (grownBy_setCell _ ⟨g, k * 9 + 5, none⟩ (.bool ((z + 1 + 1 + 1 + 1 + 1) % 3 == 0)))
        have p6 := (World.ownsRow.stored p5 (k * 9 + 6) (.bool ((z + 1 + 1 + 1 + 1 + 1 + 1) % 3 == 0))).1
        have G16 : w.grownBy _ (some g) := grownBy_trans G15 (grownBy_setCell _ ⟨g, k * 9 + 6, none⟩ (.bool ((z + 1 + 1 + 1 + 1 + 1 + 1) % 3 == 0)))
        have p7 := (World.ownsRow.stored p6 (k * 9 + 7) (.bool ((z + 1 + 1 + 1 + 1 + 1 + 1 + 1) % 3 == 0))).1
        have G17 : w.grownBy _ (some g) := grownBy_trans G16 (grownBy_setCell _ ⟨g, k * 9 + 7, none⟩ (.bool ((z + 1 + 1 + 1 + 1 + 1 + 1 + 1) % 3 == 0)))
        have p8 := (World.ownsRow.stored p7 (k * 9 + 8) (.int .i64 (z + 1 + 1 + 1 + 1 + 1 + 1 + 1 + 1))).1
        have G18 : w.grownBy _ (some g) := grownBy_trans G17 (grownBy_setCell _ ⟨g, k * 9 + 8, none⟩ (.int .i64 (z + 1 + 1 + 1 + 1 + 1 + 1 + 1 + 1)))
        exact ⟨k + 1, _, z + 9, by go_num, congrArg (Value.int IntKind.i64) (by omega), Lib.hid (by have := Hz.out; omega), hlt, p8, G18⟩
      case measure => simp [intOf]; omega
    · have hkn : k = n := by omega
      subst hkn
      go_wp2_with fail
      go_ret
      exact ⟨ret_int Hz.out, hgr⟩
end Go.Proofs.Ytkhojhgcopnenaa
