/- Contracts of clone, with its capacity, and of slices.Insert. No condition but the sizes that the law itself asks. -/
import Derived.Test.YtiflpihjffhfhaaCallA
import Derived.Test.YtiflpihjffhfhaaIns
namespace Go.Proofs.Ytiflpihjffhfhaa
open Go.RowKit
attribute [local go_sem ↓] Go.wp_at_zero Go.wp_at_succ

set_option maxHeartbeats 1000000 in
theorem cloneC4_cap (v : Value) (cs : List C4) (w : World) (lo : Nat) (h : SlR C4.vals 4 w lo w.heap.size v cs) (hn : cs.length ≤ 2097152) :
    Calls Try.prog 85 #[v] w fun e w' => e = .returned (.slice (some ⟨w.heap.size, 0, none⟩) cs.length cs.length) ∧ OwnR C4.vals 4 w' w.heap.size 41 (.slice (some ⟨w.heap.size, 0, none⟩) cs.length cs.length) cs ∧ Below w.heap.size w w' := by
  obtain ⟨i0, hi, hz0, hz1, hz2⟩ := info_parts Try.infoC4
  obtain ⟨A, c, rfl, hc1, hc2⟩ := h.form
  go_enter Try.func85, Try.ntmps85
  go_wp2_with (first | (at_make; refine wpList_make_own _ rfl _ _ 25 rfl w.heap.size 41 i0 _ 4 Try.underlying25 hi hz0 hz1 _ _ _ cs.length rfl rfl rfl ?c2 ?c3 ?c4 ?_))
  case c2 => rw [hz2]; omega
  case c3 => unfold maxLen; omega
  case c4 => exact Nat.le_refl _
  intro w1 hown hgrow
  have hb1 : Below w.heap.size w w1 := (Below.refl _ _).grown hgrow (Nat.le_refl _) (by intro k h; cases h)
  have h1 := h.below hb1 (Nat.le_refl _)
  have o1 : OwnR C4.vals 4 w1 w.heap.size 41 (.slice (some ⟨w.heap.size, 0, none⟩) 0 cs.length) ([] : List C4) := hown
  clear hgrow hi hz0 hz1 hz2 i0 hown
  have hsz := hb1.size
  go_wp2_with (at_builtin; refine wpList_append_in (f := C4.vals) (s := 4) _ (fun _ => rfl) oneCellC4 rfl _ _ 25 rfl w.heap.size 41 Try.infoC4 Try.underlying25 w.heap.size 0 cs.length ([] : List C4) cs _ _ _ rfl o1 rfl h1 cs.length (Nat.zero_add _) (Nat.le_refl _) ?_)
  intro w' o2 hg2
  have hb2 := Below.grown hb1 hg2 hb1.size (by intro q hq; have hq := Option.some.inj hq; omega)
  go_wp2_with fail
  go_ret
  exact ⟨rfl, o2, hb2⟩

set_option maxRecDepth 100000 in
set_option maxHeartbeats 4000000 in
theorem insC4_any (g h n k : Nat) (cs : List C4) (x : C4) (w : World) (base hl hh : Nat) (hn : cs.length = n) (hk : k ≤ n) (hn2 : n ≤ 1048576) (hown : OwnR C4.vals 4 w base 41 (.slice (some ⟨g, 0, none⟩) n n) cs) (hx : SlR C4.vals 4 w hl hh (.slice (some ⟨h, 0, none⟩) 1 1) [x]) (hhh : hh ≤ w.heap.size) (hB : base ≤ w.heap.size) :
    Calls Try.prog 101 #[.slice (some ⟨g, 0, none⟩) n n, .int .i64 (k : Int), .slice (some ⟨h, 0, none⟩) 1 1] w fun e w' => ∃ v', e = .returned v' ∧ OwnR C4.vals 4 w' base 41 v' (cs.take k ++ [x] ++ cs.drop k) ∧ (∀ B a0, Below B a0 w → B ≤ base → Below B a0 w') := by
  have Hn := Lib.hid hn
  have hlx : ([x] : List C4).length = 1 := rfl
  rcases Nat.lt_or_ge k n with hlt | hge
  · have s0 := own_slR (f := C4.vals) (s := 4) (fun _ => rfl) (OwnR.own hown)
    have s1 : SlR C4.vals 4 w base w.heap.size (.slice (some ⟨g, 0, none⟩) k n) (cs.take k) := s0.take (by omega)
    have s2 : SlR C4.vals 4 w base w.heap.size (.slice (some ⟨g, 0 + k * 4, none⟩) (n - k) (n - k)) (cs.drop k) := SlR.drop s0 (by omega)
    rw [Nat.zero_add] at s2
    have l2 : (cs.drop k).length = n - k := by rw [List.length_drop, hn]
    have L2 := Lib.hid l2
    have l1 : ((cs.take k).flatMap C4.vals).length = k * 4 := by rw [flatMap_len (s := 4) (fun _ => rfl), List.length_take, hn, Nat.min_eq_left hk]
    have L1 := Lib.hid l1
    clear hn l1 l2 hlx
    have d1 : ((k : Int) == (n : Int)) = false := by simp; omega
    have d2 : (k : Int) ≤ (n : Int) := by omega
    have d3 : (0 : Int) ≤ (k : Int) := by omega
    have d4 : ¬ n = k := by omega
    have d5 : ¬ n = 0 := by omega
    have d6 : (n : Int) < (n : Int) + 1 := by omega
    have d7 : IntKind.i64.wrap ((n : Int) + 1) = (n : Int) + 1 := IntWalk.i64_in _ (by omega)
    have d8 : IntKind.i64.wrap ((n : Int) + 1 - (k : Int)) = (n : Int) + 1 - (k : Int) := IntWalk.i64_in _ (by omega)
    have d9 : IntKind.i64.wrap ((k : Int) + 1) = (k : Int) + 1 := IntWalk.i64_in _ (by omega)
    go_enter Try.func101, Try.ntmps101
    go_wp2_with (at_builtin; refine wpList_append_zeros (f := C4.vals) (s := 4) _ (fun _ => rfl) rfl _ _ 25 3 rfl 41 .i64 Try.infoC4 Try.underlying25 Try.underlying3 rfl (by decide) base _ g k n _ s1 (n + 1 - k) (n + 1) rfl _ rfl (by omega) (by omega) (by omega) (by omega) (by omega) (by omega) ?_)
    intro G w1 xs g1 g2 o1 hxs hb1
    have s2 := s2.below hb1 (Nat.le_refl _)
    have hx1 := hx.below hb1 hhh
    have Hxs := Lib.hid hxs
    clear hxs s1
    have z1 := hb1.size
    have e1 : ¬ G = k := by omega
    have e2 : ¬ G = k + 1 := by omega
    have e3 : (k : Int) ≤ (n : Int) + 1 := by omega
    have e4 : (n : Int) + 1 ≤ (G : Int) := by omega
    have e5 : (k : Int) + 1 ≤ (n : Int) + 1 := by omega
    have e6 : (0 : Int) ≤ (k : Int) + 1 := by omega
    have e7 : ((k : Int) + 1).toNat = k + 1 := by omega
    obtain ⟨w2, hr, o2, hg2⟩ := run_copy_own (P := Try.prog) (f := C4.vals) (s := 4) w1 (fun _ => rfl) oneCellC4 25 3 w.heap.size 41 Try.infoC4 Try.underlying25 o1 [x] _ _ _ hx1 Nat.zero_lt_one (k * 4) (n + 1 - k) (G - k) (by show 1 ≤ _; omega) (by show k * 4 + 1 * 4 ≤ (n + 1) * 4; omega)
    go_wp2_with fail
    have hb2 := Below.grown hb1 hg2 hb1.size (by intro q hq; have hq := Option.some.inj hq; omega)
    have s3 := (s2.keep (w' := w2) (fun q _ h2 => by have hne : q ≠ w.heap.size := by omega
                                                     exact hg2.block q (by omega) (fun e => hne (Option.some.inj e))))
    obtain ⟨w3, hr3, o3, hg3⟩ := run_copy_own (P := Try.prog) (f := C4.vals) (s := 4) w2.drew (fun _ => rfl) oneCellC4 25 3 w.heap.size 41 Try.infoC4 Try.underlying25 (ownsRow_drew o2) (cs.drop k) _ _ _ (SlR.drew s3) (by rw [L2.out]; omega) ((k + 1) * 4) (n - k) (G - (k + 1)) (by rw [L2.out]; exact Nat.le_refl _) (by rw [L2.out]; omega)
    go_region_held3 (fun _ => True) (trivial) (fail)
    go_wp2_with fail
    go_ret
    have hb3 : Below w.heap.size w w3 := Below.grown hb2.drew hg3 (Nat.le_trans hb2.size (Nat.le_refl _)) (by intro q hq; have hq := Option.some.inj hq; omega)
    have hl2 := And.left o2
    have hld : (cs.drop k).length = n - k := L2.out
    have hlf : ((cs.drop k).flatMap C4.vals).length = (n - k) * 4 := by rw [flatMap_len (s := 4) (fun _ => rfl), hld]
    have hlt1 : (cs.take k).length = k := by rw [List.length_take, Hn.out]; omega
    rw [Hxs.out] at hl2 o3
    have hfin : List.length (cs.take k ++ [x] ++ cs.drop k) = n + 1 := by rw [List.length_append, List.length_append, hlt1, hld]; show k + 1 + (n - k) = n + 1; omega
    refine ⟨_, rfl, OwnR.more (base := w.heap.size) ?_ hB, fun B a0 h1 h2 => h1.trans (hb3.mono (Nat.le_trans h2 hB))⟩
    unfold OwnR
    rw [hfin, List.flatMap_append, List.flatMap_append]
    have hone : ([x] : List C4).flatMap C4.vals = C4.vals x := by simp
    rw [ins_fin (by rw [List.length_append, L1.out, hone]; show k * 4 + 4 = _; omega) (by rw [hl2, hld]; omega)] at o3
    exact o3
  · obtain rfl : k = n := by omega
    have hdrop : cs.drop k = [] := List.drop_of_length_le (by omega)
    have htake : cs.take k = cs := List.take_of_length_le (by omega)
    rw [hdrop, htake, List.append_nil]
    clear hn hdrop htake
    have d1 : ((k : Int) == (k : Int)) = true := by simp
    go_enter Try.func101, Try.ntmps101
    go_wp2_with (at_builtin; refine wpList_append_sl (f := C4.vals) (s := 4) _ (fun _ => rfl) oneCellC4 rfl _ _ 25 rfl base 41 Try.infoC4 Try.underlying25 rfl (by decide) _ cs [x] _ _ _ rfl hown rfl hx (by rw [Hn.out, hlx]; omega) (by rw [Hn.out, hlx]; omega) hB ?_)
    intro v' w2 o2 hbel _
    go_wp2_with fail
    go_ret
    exact ⟨_, rfl, o2, hbel⟩
end Go.Proofs.Ytiflpihjffhfhaa
