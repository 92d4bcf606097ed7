/- The place of a number in a sorted list (slices.BinarySearch), the insertion of a number into a full list (slices.Insert). No condition but the sizes that the law itself asks. -/
import Derived.Test.YtbboihodikhhkaaMkC
import Derived.Test.YtbboihodikhhkaaSortE
import Derived.Deep.LoopGhost
import Derived.Deep.Draws
import Derived.Lib.SlicesSearch
import Derived.Maps.AppendAt
namespace Go.Proofs.Ytbboihodikhhkaa
open Go.RowKit
attribute [local go_sem ↓] Go.wp_at_zero Go.wp_at_succ

theorem placeI_split (x : Int) : ∀ (zs : List Int) (k : Nat), k ≤ zs.length → (∀ t, t < k → zs.getD t 0 < x) → (∀ t, k ≤ t → t < zs.length → x ≤ zs.getD t 0) → placeI x zs = k
  | [], k, hk, _, _ => by have : k = 0 := by simpa using hk
                          subst this; rfl
  | z :: t, 0, _, _, h2 => placeI_stop (by have := h2 0 (Nat.le_refl _) (by simp); simp at this; omega)
  | z :: t, k + 1, hk, h1, h2 => by
    have h0 := h1 0 (by omega)
    rw [placeI_head (by simpa using h0), placeI_split x t k (by simpa using hk) (fun j hj => by have := h1 (j + 1) (by omega); simpa using this) (fun j hj hl => by have := h2 (j + 1) (by omega) (by simpa using hl); simpa using this)]

theorem isNaN2_any (x : Int) (w : World) : Calls Try.prog 92 #[.int .i64 x] w fun e w' => e = .returned (.bool false) ∧ w' = w := by
  go_enter Try.func92, Try.ntmps92
  go_wp2_with fail
  go_ret
  exact ⟨by simp, rfl⟩
theorem isNaN_any (x : Int) (w : World) : Calls Try.prog 82 #[.int .i64 x] w fun e w' => e = .returned (.bool false) ∧ w' = w := by
  go_enter Try.func82, Try.ntmps82
  go_wp2_with fail
  go_ret
  exact ⟨by simp, rfl⟩
theorem cmpLess_any (x y : Int) (w : World) : Calls Try.prog 81 #[.int .i64 x, .int .i64 y] w fun e w' => e = .returned (.bool (decide (x < y))) ∧ w' = w := by
  go_enter Try.func81, Try.ntmps81
  go_wp2_with (go_at_call 92; refine (isNaN2_any _ _).mono ?_; rintro e w' ⟨rfl, rfl⟩)
  go_ret
  exact ⟨rfl, rfl⟩

set_option maxHeartbeats 4000000 in
set_option maxRecDepth 1000000 in
theorem search_any (v : Value) (zs : List Int) (x : Int) (w : World) (lo hi : Nat) (h : SlI w lo hi v zs) (hh : hi ≤ w.heap.size) (hs : zs.Pairwise (· < ·)) (hn : zs.length ≤ 1048576) :
    Calls Try.prog 50 #[v, .int .i64 x] w fun e w' => e = .returned (.tuple #[.int .i64 (placeI x zs : Nat), .bool (hasB x zs)]) ∧ Below w.heap.size w w' := by
  obtain ⟨A, c, rfl, hc1, hc2⟩ := h.form
  have S : Aside (∀ a b, a ≤ b → b < zs.length → zs.getD a 0 ≤ zs.getD b 0) := Lib.sorted_at zs zs.length (Nat.le_refl _) (by rw [List.take_length]; exact hs.imp (fun h => Int.le_of_lt h))
  have HC : Aside (∀ wr, Below w.heap.size w wr → ∀ j, j < zs.length → ∃ b off, A = some ⟨b, off, none⟩ ∧ wr.cell? ⟨b, off + j, none⟩ = some (.int .i64 (zs.getD j 0))) := by
    intro wr hbr j hj
    obtain ⟨y, hy⟩ := some_at hj
    obtain ⟨b, off, e, _, _, hc⟩ := (h.below hbr hh).int_at hy
    exact ⟨b, off, e, by rw [hc, List.getD_eq_getElem?_getD, hy]; rfl⟩
  have HN := Lib.hid hn
  generalize hL : zs.length = n at *
  have HL := Lib.hid hL
  clear hs h hn hL
  have hn := HN.out
  go_enter Try.func50, Try.ntmps50
  go_wp2_with fail
  go_loopg [7, 8] n (fun g s7 s8 wr => ∃ lo hi : Nat, s7 = .int .i64 lo ∧ s8 = .int .i64 hi ∧ lo ≤ hi ∧ hi ≤ n ∧ hi - lo ≤ g ∧ Below w.heap.size w wr ∧ (∀ t, t < lo → zs.getD t 0 < x) ∧ (∀ t, hi ≤ t → t < n → x ≤ zs.getD t 0))
  case atStart => exact ⟨0, n, rfl, rfl, Nat.zero_le _, Nat.le_refl _, by omega, Below.refl _ _, fun t ht => absurd ht (Nat.not_lt_zero _), fun t h1 h2 => by omega⟩
  case round =>
    obtain ⟨lo, hi, rfl, rfl, hlh, hin, hg, hbr, h1, h2⟩ := hrel
    have I : Aside ((∀ t, t < lo → zs.getD t 0 < x) ∧ (∀ t, hi ≤ t → t < n → x ≤ zs.getD t 0)) := ⟨h1, h2⟩
    clear h1 h2
    by_cases hlt : lo < hi
    · obtain ⟨b, off, rfl, cm⟩ := HC.out wr hbr ((lo + hi) / 2) (by omega)
      generalize hy : zs.getD ((lo + hi) / 2) 0 = y at cm
      have Y : Aside (zs.getD ((lo + hi) / 2) 0 = y) := hy
      clear hy
      by_cases hyx : y < x
      · go_wp2_with (first | (go_at_call 81; refine (cmpLess_any _ _ _).mono ?_; rintro e w' ⟨rfl, rfl⟩) | (go_at_call 82; refine (isNaN_any _ _).mono ?_; rintro e w' ⟨rfl, rfl⟩))
        go_roundg (hi - ((lo + hi) / 2 + 1))
        case measure => omega
        case rel =>
          refine ⟨(lo + hi) / 2 + 1, hi, by rw [show ((lo : Int) + (hi : Int)) / 2 + 1 = (((lo + hi) / 2 + 1 : Nat) : Int) by omega], rfl, by omega, hin, Nat.le_refl _, hbr, fun t ht => ?_, I.out.2⟩
          have := S.out t ((lo + hi) / 2) (by omega) (by omega)
          rw [Y.out] at this
          omega
      · go_wp2_with (first | (go_at_call 81; refine (cmpLess_any _ _ _).mono ?_; rintro e w' ⟨rfl, rfl⟩) | (go_at_call 82; refine (isNaN_any _ _).mono ?_; rintro e w' ⟨rfl, rfl⟩))
        go_roundg ((lo + hi) / 2 - lo)
        case measure => omega
        case rel =>
          refine ⟨lo, (lo + hi) / 2, rfl, by rw [show ((lo : Int) + (hi : Int)) / 2 = (((lo + hi) / 2 : Nat) : Int) by omega], by omega, by omega, Nat.le_refl _, hbr, I.out.1, fun t ht htn => ?_⟩
          have := S.out ((lo + hi) / 2) t ht htn
          rw [Y.out] at this
          omega
    · have : hi = lo := by omega
      subst this
      have E : Aside (placeI x zs = hi ∧ hasB x zs = decide (hi < n ∧ zs.getD hi 0 = x)) := by
        obtain ⟨e1, e2⟩ := Lib.search_end zs n hi x (by rw [HL.out]; exact Nat.le_refl _) hin I.out.1 I.out.2 S.out
        refine ⟨placeI_split x zs hi (by rw [HL.out]; exact hin) I.out.1 (by rw [HL.out]; exact I.out.2), ?_⟩
        rw [← e2, List.take_of_length_le (by rw [HL.out]; exact Nat.le_refl _)]
        rw [Bool.eq_iff_iff, hasB_iff, List.contains_iff_mem]
      by_cases hn : hi < n
      · obtain ⟨b, off, rfl, cl⟩ := HC.out wr hbr hi hn
        generalize hy : zs.getD hi 0 = y at cl
        have Y : Aside (zs.getD hi 0 = y) := hy
        clear hy
        by_cases hyx : y = x
        · go_wp2_with (first | (go_at_call 81; refine (cmpLess_any _ _ _).mono ?_; rintro e w' ⟨rfl, rfl⟩) | (go_at_call 82; refine (isNaN_any _ _).mono ?_; rintro e w' ⟨rfl, rfl⟩))
          go_ret2
          refine ⟨?_, hbr⟩
          rw [E.out.1, E.out.2, Y.out, decide_eq_true (show hi < n ∧ y = x from ⟨hn, hyx⟩)]
          first | rfl | simp [*]
        · go_wp2_with (first | (go_at_call 81; refine (cmpLess_any _ _ _).mono ?_; rintro e w' ⟨rfl, rfl⟩) | (go_at_call 82; refine (isNaN_any _ _).mono ?_; rintro e w' ⟨rfl, rfl⟩))
          go_ret2
          refine ⟨?_, hbr⟩
          rw [E.out.1, E.out.2, Y.out, decide_eq_false (show ¬ (hi < n ∧ y = x) from fun h => hyx h.2)]
          first | rfl | simp [*]
      · go_wp2_with (first | (go_at_call 81; refine (cmpLess_any _ _ _).mono ?_; rintro e w' ⟨rfl, rfl⟩) | (go_at_call 82; refine (isNaN_any _ _).mono ?_; rintro e w' ⟨rfl, rfl⟩))
        go_ret2
        refine ⟨?_, hbr⟩
        rw [E.out.1, E.out.2, decide_eq_false (show ¬ (hi < n ∧ zs.getD hi 0 = x) from fun h => hn h.1)]
        first | rfl | simp [*]
set_option maxRecDepth 100000 in
set_option maxHeartbeats 4000000 in
theorem insI_at (v : Value) (A : Option Addr) (h n k : Nat) (cs : List Int) (x : Int) (w : World) (base hl hh : Nat) (hv : v = .slice A n n) (hn : cs.length = n) (hk : k ≤ n) (hn2 : n ≤ 1048576) (hown : OwnR i64s 1 w base 2 v cs) (hx : SlR i64s 1 w hl hh (.slice (some ⟨h, 0, none⟩) 1 1) [x]) (hhh : hh ≤ w.heap.size) (hB : base ≤ w.heap.size) :
    Calls Try.prog 51 #[v, .int .i64 (k : Int), .slice (some ⟨h, 0, none⟩) 1 1] w fun e w' => ∃ v', e = .returned v' ∧ OwnR i64s 1 w' base 2 v' (cs.take k ++ [x] ++ cs.drop k) ∧ w.grownBy w' v.ownBlock ∧ (v'.ownBlock = v.ownBlock ∨ v'.ownBlock = some w.heap.size) := by
  have Hn := Lib.hid hn
  have hlx : ([x] : List Int).length = 1 := rfl
  rcases Nat.lt_or_ge k n with hlt | hge
  · obtain ⟨g, rfl⟩ : ∃ g, A = some ⟨g, 0, none⟩ := by
      rcases (OwnR.own hown).2 with ⟨h2, _⟩ | ⟨g, cap, cur, e1, _⟩
      · subst hv; injection h2 with _ h3 _; omega
      · subst hv; injection e1 with e1 _ _; exact ⟨g, e1⟩
    subst hv
    have s0 := own_slR (f := i64s) (s := 1) (fun _ => rfl) (OwnR.own hown)
    have s1 : SlR i64s 1 w base w.heap.size (.slice (some ⟨g, 0, none⟩) k n) (cs.take k) := s0.take (by omega)
    have s2 : SlR i64s 1 w base w.heap.size (.slice (some ⟨g, 0 + k * 1, none⟩) (n - k) (n - k)) (cs.drop k) := SlR.drop s0 (by omega)
    rw [Nat.zero_add, Nat.mul_one] at s2
    have l2 : (cs.drop k).length = n - k := by rw [List.length_drop, hn]
    have L2 := Lib.hid l2
    have l1 : ((cs.take k).flatMap i64s).length = k * 1 := by rw [flatMap_len (s := 1) (fun _ => rfl), List.length_take, hn, Nat.min_eq_left hk]
    have L1 := Lib.hid l1
    clear hn l1 l2 hlx
    have d1 : ((k : Int) == (n : Int)) = false := by simp; omega
    have d2 : (k : Int) ≤ (n : Int) := by omega
    have d3 : (0 : Int) ≤ (k : Int) := by omega
    have d4 : ¬ n = k := by omega
    have d5 : ¬ n = 0 := by omega
    have d6 : (n : Int) < (n : Int) + 1 := by omega
    have d7 : IntKind.i64.wrap ((n : Int) + 1) = (n : Int) + 1 := IntWalk.i64_in _ (by omega)
    have d8 : IntKind.i64.wrap ((n : Int) + 1 - (k : Int)) = (n : Int) + 1 - (k : Int) := IntWalk.i64_in _ (by omega)
    have d9 : IntKind.i64.wrap ((k : Int) + 1) = (k : Int) + 1 := IntWalk.i64_in _ (by omega)
    go_enter Try.func51, Try.ntmps51
    go_wp2_with (at_builtin; refine wpList_append_zeros (f := i64s) (s := 1) _ (fun _ => rfl) rfl _ _ 39 3 rfl 2 .i64 Try.infoI Try.underlying39 Try.underlying3 rfl (by decide) base _ g k n _ s1 (n + 1 - k) (n + 1) rfl _ rfl (by omega) (by omega) (by omega) (by omega) (by omega) (by omega) ?_)
    intro G w1 xs g1 g2 o1 hxs hb1
    have s2 := s2.below hb1 (Nat.le_refl _)
    have hx1 := hx.below hb1 hhh
    have Hxs := Lib.hid hxs
    clear hxs s1
    have z1 := hb1.size
    have e1 : ¬ G = k := by omega
    have e2 : ¬ G = k + 1 := by omega
    have e3 : (k : Int) ≤ (n : Int) + 1 := by omega
    have e4 : (n : Int) + 1 ≤ (G : Int) := by omega
    have e5 : (k : Int) + 1 ≤ (n : Int) + 1 := by omega
    have e6 : (0 : Int) ≤ (k : Int) + 1 := by omega
    have e7 : ((k : Int) + 1).toNat = k + 1 := by omega
    obtain ⟨w2, hr, o2, hg2⟩ := run_copy_own (P := Try.prog) (f := i64s) (s := 1) w1 (fun _ => rfl) oneCellI 39 3 w.heap.size 2 Try.infoI Try.underlying39 o1 [x] _ _ _ hx1 Nat.zero_lt_one k (n + 1 - k) (G - k) (by show 1 ≤ _; omega) (by show k + 1 * 1 ≤ (n + 1) * 1; omega)
    go_wp2_with fail
    have hb2 := Below.grown hb1 hg2 hb1.size (by intro q hq; have hq := Option.some.inj hq; omega)
    have s3 := (s2.keep (w' := w2) (fun q _ h2 => by have hne : q ≠ w.heap.size := by omega
                                                     exact hg2.block q (by omega) (fun e => hne (Option.some.inj e))))
    obtain ⟨w3, hr3, o3, hg3⟩ := run_copy_own (P := Try.prog) (f := i64s) (s := 1) w2.drew (fun _ => rfl) oneCellI 39 3 w.heap.size 2 Try.infoI Try.underlying39 (ownsRow_drew o2) (cs.drop k) _ _ _ (SlR.drew s3) (by rw [L2.out]; omega) (k + 1) (n - k) (G - (k + 1)) (by rw [L2.out]; exact Nat.le_refl _) (by rw [L2.out]; omega)
    go_region_held3 (fun _ => True) (trivial) (fail)
    go_wp2_with fail
    go_ret
    have hb3 : Below w.heap.size w w3 := Below.grown hb2.drew hg3 (Nat.le_trans hb2.size (Nat.le_refl _)) (by intro q hq; have hq := Option.some.inj hq; omega)
    have hl2 := And.left o2
    have hld : (cs.drop k).length = n - k := L2.out
    have hlf : ((cs.drop k).flatMap i64s).length = (n - k) * 1 := by rw [flatMap_len (s := 1) (fun _ => rfl), hld]
    have hlt1 : (cs.take k).length = k := by rw [List.length_take, Hn.out]; omega
    rw [Hxs.out] at hl2 o3
    have hfin : List.length (cs.take k ++ [x] ++ cs.drop k) = n + 1 := by rw [List.length_append, List.length_append, hlt1, hld]; show k + 1 + (n - k) = n + 1; omega
    refine ⟨_, rfl, OwnR.more (base := w.heap.size) ?_ hB, grownBy_of_below hb3, Or.inr rfl⟩
    unfold OwnR
    rw [hfin, List.flatMap_append, List.flatMap_append]
    have hone : ([x] : List Int).flatMap i64s = i64s x := by simp
    rw [ins_fin (by rw [List.length_append, L1.out, hone]; show k * 1 + 1 = _; omega) (by rw [hl2, hld]; omega)] at o3
    exact o3
  · obtain rfl : k = n := by omega
    have hdrop : cs.drop k = [] := List.drop_of_length_le (by omega)
    have htake : cs.take k = cs := List.take_of_length_le (by omega)
    rw [hdrop, htake, List.append_nil]
    clear hn hdrop htake
    have d1 : ((k : Int) == (k : Int)) = true := by simp
    go_enter Try.func51, Try.ntmps51
    obtain ⟨i, hi0, hi1, hi2, hi3⟩ := info_parts Try.infoI
    have hnews : ∀ j u, (([x] : List Int).flatMap i64s)[j]? = some u → w.cell? ((⟨h, 0, none⟩ : Addr).add j) = some u := by
      obtain ⟨A1, c1, e1, _, hxl, hxc, hx5⟩ := hx.2
      injection e1 with e1 _ _
      subst e1
      obtain ⟨b, off, e2, _, _, hat⟩ := hx5 Nat.zero_lt_one
      injection e2 with e2
      injection e2 with e2 e3
      subst e2 e3
      intro j u hu
      rw [Addr.add_lit]
      exact hat j u hu
    have hown2 : w.ownsRow base 2 1 v k (cs.flatMap i64s) := by have := OwnR.own hown; rwa [Hn.out] at this
    have HI := Lib.hid (And.intro hi0 (And.intro hi1 (And.intro hi2 hi3)))
    have HW := Lib.hid hnews
    have HO2 := Lib.hid hown2
    clear hlx hx hi0 hi1 hi2 hi3 hnews hown2
    rcases (OwnR.own hown).2 with ⟨h2, _⟩ | ⟨g, cap, cur, eg, _⟩
    · subst hv
      obtain ⟨rfl, rfl⟩ : A = none ∧ k = 0 := by injection h2 with h3 h4 _; exact ⟨h3, h4⟩
      clear h2 hown
      go_wp2_with (at_builtin; refine wpList_append_own_at _ rfl _ _ 39 rfl base 2 i _ 1 _ Try.underlying39 HI.out.1 HI.out.2.1 HI.out.2.2.1 HI.out.2.2.2 rfl Nat.zero_lt_one _ _ (cs.flatMap i64s) rfl HO2.out ⟨h, 0, none⟩ 1 1 (([x] : List Int).flatMap i64s) rfl rfl HW.out (fun u hu => by simp [i64s] at hu; subst hu; rfl) (by unfold maxLen; omega) (by omega) hB ?_)
      intro v' w2 o2 hbel _ hat2
      have HA := Lib.hid hat2
      clear hat2
      go_wp2_with fail
      go_ret
      refine ⟨_, rfl, ?_, hbel, HA.out⟩
      unfold OwnR
      rw [List.length_append, List.flatMap_append, Hn.out]
      exact o2
    · subst hv
      obtain rfl : A = some ⟨g, 0, none⟩ := by injection eg with h3 _ _
      clear eg hown
      go_wp2_with (at_builtin; refine wpList_append_own_at _ rfl _ _ 39 rfl base 2 i _ 1 _ Try.underlying39 HI.out.1 HI.out.2.1 HI.out.2.2.1 HI.out.2.2.2 rfl Nat.zero_lt_one _ _ (cs.flatMap i64s) rfl HO2.out ⟨h, 0, none⟩ 1 1 (([x] : List Int).flatMap i64s) rfl rfl HW.out (fun u hu => by simp [i64s] at hu; subst hu; rfl) (by unfold maxLen; omega) (by omega) hB ?_)
      intro v' w2 o2 hbel _ hat2
      have HA := Lib.hid hat2
      clear hat2
      go_wp2_with fail
      go_ret
      refine ⟨_, rfl, ?_, hbel, HA.out⟩
      unfold OwnR
      rw [List.length_append, List.flatMap_append, Hn.out]
      exact o2

end Go.Proofs.Ytbboihodikhhkaa
