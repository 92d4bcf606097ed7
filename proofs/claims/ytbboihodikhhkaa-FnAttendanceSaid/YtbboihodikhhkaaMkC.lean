/- The insertion of a number into a row of the call's own that is full. No condition but the sizes that the law itself asks. -/
import Derived.Test.YtbboihodikhhkaaMkB
import Derived.Deep.RegionHeld3
namespace Go.Proofs.Ytbboihodikhhkaa
open Go.RowKit
attribute [local go_sem ↓] Go.wp_at_zero Go.wp_at_succ
theorem oneCellI : ∀ x : Int, ∀ u ∈ i64s x, u.oneCell' = true := i64s_one
set_option maxRecDepth 100000 in
set_option maxHeartbeats 4000000 in
theorem insI_any (g h n k : Nat) (cs : List Int) (x : Int) (w : World) (base hl hh : Nat) (hn : cs.length = n) (hk : k ≤ n) (hn2 : n ≤ 1048576) (hown : OwnR i64s 1 w base 2 (.slice (some ⟨g, 0, none⟩) n n) cs) (hx : SlR i64s 1 w hl hh (.slice (some ⟨h, 0, none⟩) 1 1) [x]) (hhh : hh ≤ w.heap.size) (hB : base ≤ w.heap.size) :
    Calls Try.prog 51 #[.slice (some ⟨g, 0, none⟩) n n, .int .i64 (k : Int), .slice (some ⟨h, 0, none⟩) 1 1] w fun e w' => ∃ v', e = .returned v' ∧ OwnR i64s 1 w' base 2 v' (cs.take k ++ [x] ++ cs.drop k) ∧ (∀ B a0, Below B a0 w → B ≤ base → Below B a0 w') := by
  have Hn := Lib.hid hn
  have hlx : ([x] : List Int).length = 1 := rfl
  rcases Nat.lt_or_ge k n with hlt | hge
  · have s0 := own_slR (f := i64s) (s := 1) (fun _ => rfl) (OwnR.own hown)
    have s1 : SlR i64s 1 w base w.heap.size (.slice (some ⟨g, 0, none⟩) k n) (cs.take k) := s0.take (by omega)
    have s2 : SlR i64s 1 w base w.heap.size (.slice (some ⟨g, 0 + k * 1, none⟩) (n - k) (n - k)) (cs.drop k) := SlR.drop s0 (by omega)
    rw [Nat.zero_add, Nat.mul_one] at s2
    have l2 : (cs.drop k).length = n - k := by rw [List.length_drop, hn]
    have L2 := Lib.hid l2
    have l1 : ((cs.take k).flatMap i64s).length = k * 1 := by rw [flatMap_len (s := 1) (fun _ => rfl), List.length_take, hn, Nat.min_eq_left hk]
    have L1 := Lib.hid l1
    clear hn l1 l2 hlx
    have d1 : ((k : Int) == (n : Int)) = false := by simp; omega
    have d2 : (k : Int) ≤ (n : Int) := by omega
    have d3 : (0 : Int) ≤ (k : Int) := by omega
    have d4 : ¬ n = k := by omega
    have d5 : ¬ n = 0 := by omega
    have d6 : (n : Int) < (n : Int) + 1 := by omega
    have d7 : IntKind.i64.wrap ((n : Int) + 1) = (n : Int) + 1 := IntWalk.i64_in _ (by omega)
    have d8 : IntKind.i64.wrap ((n : Int) + 1 - (k : Int)) = (n : Int) + 1 - (k : Int) := IntWalk.i64_in _ (by omega)
    have d9 : IntKind.i64.wrap ((k : Int) + 1) = (k : Int) + 1 := IntWalk.i64_in _ (by omega)
    go_enter Try.func51, Try.ntmps51
    go_wp2_with (at_builtin; refine wpList_append_zeros (f := i64s) (s := 1) _ (fun _ => rfl) rfl _ _ 39 3 rfl 2 .i64 Try.infoI Try.underlying39 Try.underlying3 rfl (by decide) base _ g k n _ s1 (n + 1 - k) (n + 1) rfl _ rfl (by omega) (by omega) (by omega) (by omega) (by omega) (by omega) ?_)
    intro G w1 xs g1 g2 o1 hxs hb1
    have s2 := s2.below hb1 (Nat.le_refl _)
    have hx1 := hx.below hb1 hhh
    have Hxs := Lib.hid hxs
    clear hxs s1
    have z1 := hb1.size
    have e1 : ¬ G = k := by omega
    have e2 : ¬ G = k + 1 := by omega
    have e3 : (k : Int) ≤ (n : Int) + 1 := by omega
    have e4 : (n : Int) + 1 ≤ (G : Int) := by omega
    have e5 : (k : Int) + 1 ≤ (n : Int) + 1 := by omega
    have e6 : (0 : Int) ≤ (k : Int) + 1 := by omega
    have e7 : ((k : Int) + 1).toNat = k + 1 := by omega
    obtain ⟨w2, hr, o2, hg2⟩ := run_copy_own (P := Try.prog) (f := i64s) (s := 1) w1 (fun _ => rfl) oneCellI 39 3 w.heap.size 2 Try.infoI Try.underlying39 o1 [x] _ _ _ hx1 Nat.zero_lt_one k (n + 1 - k) (G - k) (by show 1 ≤ _; omega) (by show k + 1 * 1 ≤ (n + 1) * 1; omega)
    go_wp2_with fail
    have hb2 := Below.grown hb1 hg2 hb1.size (by intro q hq; have hq := Option.some.inj hq; omega)
    have s3 := (s2.keep (w' := w2) (fun q _ h2 => by have hne : q ≠ w.heap.size := by omega
                                                     exact hg2.block q (by omega) (fun e => hne (Option.some.inj e))))
    obtain ⟨w3, hr3, o3, hg3⟩ := run_copy_own (P := Try.prog) (f := i64s) (s := 1) w2.drew (fun _ => rfl) oneCellI 39 3 w.heap.size 2 Try.infoI Try.underlying39 (ownsRow_drew o2) (cs.drop k) _ _ _ (SlR.drew s3) (by rw [L2.out]; omega) (k + 1) (n - k) (G - (k + 1)) (by rw [L2.out]; exact Nat.le_refl _) (by rw [L2.out]; omega)
    go_region_held3 (fun _ => True) (trivial) (fail)
    go_wp2_with fail
    go_ret
    have hb3 : Below w.heap.size w w3 := Below.grown hb2.drew hg3 (Nat.le_trans hb2.size (Nat.le_refl _)) (by intro q hq; have hq := Option.some.inj hq; omega)
    have hl2 := And.left o2
    have hld : (cs.drop k).length = n - k := L2.out
    have hlf : ((cs.drop k).flatMap i64s).length = (n - k) * 1 := by rw [flatMap_len (s := 1) (fun _ => rfl), hld]
    have hlt1 : (cs.take k).length = k := by rw [List.length_take, Hn.out]; omega
    rw [Hxs.out] at hl2 o3
    have hfin : List.length (cs.take k ++ [x] ++ cs.drop k) = n + 1 := by rw [List.length_append, List.length_append, hlt1, hld]; show k + 1 + (n - k) = n + 1; omega
    refine ⟨_, rfl, OwnR.more (base := w.heap.size) ?_ hB, fun B a0 h1 h2 => h1.trans (hb3.mono (Nat.le_trans h2 hB))⟩
    unfold OwnR
    rw [hfin, List.flatMap_append, List.flatMap_append]
    have hone : ([x] : List Int).flatMap i64s = i64s x := by simp
    rw [ins_fin (by rw [List.length_append, L1.out, hone]; show k * 1 + 1 = _; omega) (by rw [hl2, hld]; omega)] at o3
    exact o3
  · obtain rfl : k = n := by omega
    have hdrop : cs.drop k = [] := List.drop_of_length_le (by omega)
    have htake : cs.take k = cs := List.take_of_length_le (by omega)
    rw [hdrop, htake, List.append_nil]
    clear hn hdrop htake
    have d1 : ((k : Int) == (k : Int)) = true := by simp
    go_enter Try.func51, Try.ntmps51
    go_wp2_with (at_builtin; refine wpList_append_sl (f := i64s) (s := 1) _ (fun _ => rfl) oneCellI rfl _ _ 39 rfl base 2 Try.infoI Try.underlying39 rfl (by decide) _ cs [x] _ _ _ rfl hown rfl hx (by rw [Hn.out, hlx]; omega) (by rw [Hn.out, hlx]; omega) hB ?_)
    intro v' w2 o2 hbel _
    go_wp2_with fail
    go_ret
    exact ⟨_, rfl, o2, hbel⟩
end Go.Proofs.Ytbboihodikhhkaa
