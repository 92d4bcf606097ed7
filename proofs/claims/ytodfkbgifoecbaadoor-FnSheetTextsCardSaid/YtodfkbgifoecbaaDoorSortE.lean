/- The reference's insertion of a number into a sorted set: contract. No condition but the sizes that the law itself asks. -/
import Derived.Test.YtodfkbgifoecbaaDoorSetP
import Derived.Test.YtodfkbgifoecbaaDoorIntC
import Derived.Test.YtodfkbgifoecbaaDoorReg
import Derived.Deep.RegionLaw
namespace Go.Proofs.YtodfkbgifoecbaaDoor
open Go.RowKit
attribute [local go_sem ↓] Go.wp_at_zero Go.wp_at_succ
def placeI (n : Int) : List Int → Nat
  | [] => 0
  | x :: t => if x < n then placeI n t + 1 else 0
theorem placeI_le (n : Int) : ∀ l : List Int, placeI n l ≤ l.length
  | [] => Nat.le_refl _
  | x :: t => by
    have := placeI_le n t
    rw [placeI]; split <;> simp <;> omega
theorem placeI_head {n x : Int} {t : List Int} (h : x < n) : placeI n (x :: t) = placeI n t + 1 := by rw [placeI, if_pos h]
theorem placeI_stop {n x : Int} {t : List Int} (h : ¬ x < n) : placeI n (x :: t) = 0 := by rw [placeI, if_neg h]
theorem insU_there (n : Int) : ∀ (l : List Int) (k : Nat), placeI n l = k → l[k]? = some n → insU n l = l
  | [], _, _, h => by simp at h
  | x :: t, k, hk, h => by
    by_cases h1 : x < n
    · rw [placeI_head h1] at hk
      subst hk
      rw [insU, if_pos h1, insU_there n t _ rfl (by simpa using h)]
    · rw [placeI_stop h1] at hk
      subst hk
      have : x = n := by simpa using h
      rw [insU, if_neg h1, if_pos this]
theorem insU_new (n : Int) : ∀ (l : List Int) (k : Nat), placeI n l = k → l[k]? ≠ some n → insU n l = l.take k ++ [n] ++ l.drop k
  | [], k, _, _ => by simp [insU]
  | x :: t, k, hk, h => by
    by_cases h1 : x < n
    · rw [placeI_head h1] at hk
      subst hk
      rw [insU, if_pos h1, insU_new n t _ rfl (by simpa using h)]
      simp
    · rw [placeI_stop h1] at hk
      subst hk
      have : ¬ x = n := by simpa using h
      rw [insU, if_neg h1, if_neg this]
      simp

set_option maxRecDepth 100000 in
set_option maxHeartbeats 8000000 in
theorem l07Insert_any (v : Value) (zs : List Int) (n : Int) (w : World) (base : Nat) (h : OwnR i64s 1 w base 2 v zs) (hl : zs.length ≤ 100000) (hB : base ≤ w.heap.size) :
    Calls Tryd.prog 67 #[v, .int .i64 n] w fun e w' => ∃ v', e = .returned v' ∧ OwnR i64s 1 w' base 2 v' (insU n zs) ∧ Below w.heap.size w w' := by
  have h' := own_slI h
  obtain ⟨A, c, rfl, hc1, hc2⟩ := h'.form
  go_enter Tryd.func67, Tryd.ntmps67
  go_wp2_with fail
  go_loop [5] (fun i => ∃ (k : Nat), i = .int .i64 k ∧ k ≤ zs.length ∧ Hid (placeI n zs = k + placeI n (zs.drop k))) (fun i => zs.length - (intOf i).toNat)
  case atStart => exact ⟨0, rfl, Nat.zero_le _, Lib.hid (by simp)⟩
  case round =>
    obtain ⟨k, rfl, hk, Hgo⟩ := hrel
    have hgoal : (∃ x : Int, k < zs.length ∧ zs[k]? = some x ∧ x < n) ∨ (∃ x : Int, k < zs.length ∧ zs[k]? = some x ∧ ¬ x < n ∧ placeI n zs = k) ∨ (zs.length ≤ k ∧ placeI n zs = k) := by
      rcases Nat.lt_or_ge k zs.length with hlt | hge
      · obtain ⟨x, hx⟩ := some_at hlt
        by_cases e1 : x < n
        · exact .inl ⟨x, hlt, hx, e1⟩
        · exact .inr (.inl ⟨x, hlt, hx, e1, by rw [Hgo.out, drop_cons hx, placeI_stop e1]; rfl⟩)
      · exact .inr (.inr ⟨hge, by rw [Hgo.out, List.drop_of_length_le hge]; rfl⟩)
    rcases hgoal with ⟨x, hlt, hx, e1⟩ | hgoal
    · obtain ⟨b, off, rfl, _, hb, c0⟩ := h'.int_at hx
      have Hd := Lib.hid (drop_cons hx)
      clear hx
      go_wp2_with fail
      go_round
      case rel => exact ⟨k + 1, by go_num, hlt, Lib.hid (by rw [Hgo.out, Hd.out, placeI_head e1]; omega)⟩
      case measure => simp [intOf]; omega
    have hkp : placeI n zs = k := by rcases hgoal with ⟨x, _, _, _, h⟩ | ⟨_, h⟩ <;> exact h
    have Hkp := Lib.hid hkp
    clear hkp Hgo
    have q1 : (0 : Int) ≤ (k : Int) := by omega
    have q2 : (k : Int) ≤ (c : Int) := by omega
    have q3 : (k : Int) ≤ (zs.length : Int) := by omega
    obtain ⟨S1, r1, s1⟩ := run_slice_to (P := Tryd.prog) h' (k := k) hk 22 2 Tryd.infoI Tryd.underlying22
    obtain ⟨S2, r2, s2⟩ := run_slice_from (P := Tryd.prog) h' (k := k) hk 22 2 Tryd.infoI Tryd.underlying22
    have l1 : (zs.take k).length ≤ 100000 := by rw [List.length_take]; omega
    have l2 : (zs.drop k).length ≤ 100000 := by rw [List.length_drop]; omega
    rcases hgoal with ⟨x, hlt, hx, e1, _⟩ | ⟨hge, _⟩
    · by_cases e2 : x = n
      · have hthere := insU_there n zs k Hkp.out (e2 ▸ hx)
        have e3 : (x == n) = true := by simpa using e2
        obtain ⟨b, off, rfl, _, hb, c0⟩ := h'.int_at hx
        clear hx e2
        have Hthere := Lib.hid hthere
        clear hthere
        go_wp2_with fail
        go_ret
        exact ⟨_, rfl, by rw [Hthere.out]; exact h, Below.refl _ _⟩
      · have hnew := insU_new n zs k Hkp.out (by rw [hx]; intro e; exact e2 (Option.some.inj e))
        have e3 : (x == n) = false := by simpa using e2
        obtain ⟨b, off, rfl, _, hb, c0⟩ := h'.int_at hx
        clear hx e2
        have Hnew := Lib.hid hnew
        clear hnew
        have q4 : (k : Int) < (zs.length : Int) := by omega
        go_wp2_with fail
        have hAA : Below w.heap.size w ((w.alloc (.cells #[] 2)).drew) := (((Below.refl _ _).alloc (Nat.le_refl _) _)).drew
        have hAB : Below w.heap.size w (((w.alloc (.cells #[] 2)).alloc (.cells #[.int .i64 n] 2)).drew) := ((((Below.refl _ _).alloc (Nat.le_refl _) _)).alloc (by simp) _).drew
        have hAC : Below w.heap.size w (((w.alloc (.cells #[.int .i64 n] 2)).alloc (.cells #[] 2)).drew) := ((((Below.refl _ _).alloc (Nat.le_refl _) _)).alloc (by simp) _).drew
        have oA : OwnR i64s 1 ((w.alloc (.cells #[] 2)).drew) w.heap.size 2 (.slice (some ⟨w.heap.size, 0, none⟩) 0 0) ([] : List _) := (own_empty w _ 1 i64s).drew
        have oB : OwnR i64s 1 (((w.alloc (.cells #[] 2)).alloc (.cells #[.int .i64 n] 2)).drew) w.heap.size 2 (.slice (some ⟨w.heap.size, 0, none⟩) 0 0) ([] : List _) := ((own_empty w _ 1 i64s).alloc _).drew
        have tB : SlR i64s 1 (((w.alloc (.cells #[] 2)).alloc (.cells #[.int .i64 n] 2)).drew) (w.heap.size + 1) (w.heap.size + 1 + 1) (.slice (some ⟨w.heap.size + 1, 0, none⟩) 1 1) [n] := by have := (rec_sl (f := i64s) (s := 1) (fun _ => rfl) (w.alloc (.cells #[] 2)) 2 (cx := #[.int .i64 n]) (x := n) rfl).drew; simpa using this
        have oC : OwnR i64s 1 (((w.alloc (.cells #[.int .i64 n] 2)).alloc (.cells #[] 2)).drew) w.heap.size 2 (.slice (some ⟨w.heap.size + 1, 0, none⟩) 0 0) ([] : List _) := by have := ((own_empty (w.alloc (.cells #[.int .i64 n] 2)) 2 1 i64s).drew).more (base' := w.heap.size) (by simp); simpa using this
        have tC : SlR i64s 1 (((w.alloc (.cells #[.int .i64 n] 2)).alloc (.cells #[] 2)).drew) w.heap.size (w.heap.size + 1) (.slice (some ⟨w.heap.size, 0, none⟩) 1 1) [n] := ((rec_sl (f := i64s) (s := 1) (fun _ => rfl) w 2 (cx := #[.int .i64 n]) (x := n) rfl).alloc (by simp) _).drew
        have zTB : w.heap.size + 1 + 1 ≤ (((w.alloc (.cells #[] 2)).alloc (.cells #[.int .i64 n] 2)).drew).heap.size := by simp
        have zTC : w.heap.size + 1 + 1 ≤ (((w.alloc (.cells #[.int .i64 n] 2)).alloc (.cells #[] 2)).drew).heap.size := by simp
        go_region_held3 (fun _ => True) (trivial) (first
          | ((with_reducible refine at_world ((w.alloc (.cells #[] 2)).drew) ?_); refine step_append_sl (f := i64s) (s := 1) ((w.alloc (.cells #[] 2)).drew) (fun _ => rfl) i64s_one (by rfl) _ _ 22 (by rfl) w.heap.size 2 Tryd.infoI Tryd.underlying22 rfl (by decide) _ ([] : List _) (zs.take k) _ base _ (by rfl) oA (by rfl) (s1.below hAA (Nat.le_refl _)) (by simp; omega) (by simp; omega) (by simp; try omega) ?_; intro v2 w2 o2 hB2 hg2; have hb2 := hB2 _ _ hAA (Nat.le_refl _); have z2 := hb2.size)
          | ((with_reducible refine at_world (((w.alloc (.cells #[] 2)).alloc (.cells #[.int .i64 n] 2)).drew) ?_); refine step_append_sl (f := i64s) (s := 1) (((w.alloc (.cells #[] 2)).alloc (.cells #[.int .i64 n] 2)).drew) (fun _ => rfl) i64s_one (by rfl) _ _ 22 (by rfl) w.heap.size 2 Tryd.infoI Tryd.underlying22 rfl (by decide) _ ([] : List _) (zs.take k) _ base _ (by rfl) oB (by rfl) (s1.below hAB (Nat.le_refl _)) (by simp; omega) (by simp; omega) (by simp; try omega) ?_; intro v2 w2 o2 hB2 hg2; have hb2 := hB2 _ _ hAB (Nat.le_refl _); have z2 := hb2.size; have t2 := tB.grown hg2 zTB (by intro q hq; have hq := Option.some.inj hq; dsimp only at hq; omega); have zt2 : w.heap.size + 1 + 1 ≤ w2.heap.size := Nat.le_trans zTB hg2.size)
          | ((with_reducible refine at_world (((w.alloc (.cells #[.int .i64 n] 2)).alloc (.cells #[] 2)).drew) ?_); refine step_append_sl (f := i64s) (s := 1) (((w.alloc (.cells #[.int .i64 n] 2)).alloc (.cells #[] 2)).drew) (fun _ => rfl) i64s_one (by rfl) _ _ 22 (by rfl) w.heap.size 2 Tryd.infoI Tryd.underlying22 rfl (by decide) _ ([] : List _) (zs.take k) _ base _ (by rfl) oC (by rfl) (s1.below hAC (Nat.le_refl _)) (by simp; omega) (by simp; omega) (by simp; try omega) ?_; intro v2 w2 o2 hB2 hg2; have hb2 := hB2 _ _ hAC (Nat.le_refl _); have z2 := hb2.size; have t2 := tC.grown hg2 (Nat.le_trans (Nat.le_succ _) zTC) (by intro q hq; have hq := Option.some.inj hq; dsimp only at hq; omega); have zt2 : w.heap.size + 1 ≤ w2.heap.size := Nat.le_trans (Nat.le_trans (Nat.le_succ _) zTC) hg2.size)
          | ((with_reducible refine at_world w2 ?_); refine step_append_sl (f := i64s) (s := 1) w2 (fun _ => rfl) i64s_one (by rfl) _ _ 22 (by rfl) w.heap.size 2 Tryd.infoI Tryd.underlying22 rfl (by decide) _ _ [n] _ _ _ (by rfl) o2 (by rfl) t2 (by simp; omega) (by simp; omega) z2 ?_; intro v3 w3 o3 hB3 hg3; have hb3 := hB3 _ _ hb2 (Nat.le_refl _); have z3 := hb3.size)
          | ((with_reducible refine at_world (w2.alloc (.cells #[.int .i64 n] 2)) ?_); refine step_append_sl (f := i64s) (s := 1) (w2.alloc (.cells #[.int .i64 n] 2)) (fun _ => rfl) i64s_one (by rfl) _ _ 22 (by rfl) w.heap.size 2 Tryd.infoI Tryd.underlying22 rfl (by decide) _ _ [n] _ _ _ (by rfl) (o2.alloc _) (by rfl) (rec_sl (f := i64s) (s := 1) (fun _ => rfl) w2 2 (cx := #[.int .i64 n]) (x := n) rfl) (by simp; omega) (by simp; omega) (Nat.le_trans z2 (by simp)) ?_; intro v3 w3 o3 hB3 hg3; have hb3 := hB3 _ _ (hb2.alloc z2 _) (Nat.le_refl _); have z3 := hb3.size)
          | ((with_reducible refine at_world w3 ?_); refine step_append_sl (f := i64s) (s := 1) w3 (fun _ => rfl) i64s_one (by rfl) _ _ 22 (by rfl) w.heap.size 2 Tryd.infoI Tryd.underlying22 rfl (by decide) _ _ (zs.drop k) _ base _ (by rfl) o3 (by rfl) (s2.below hb3 (Nat.le_refl _)) (by simp; omega) (by simp; omega) z3 ?_; intro v4 w4 o4 hB4 hg4; have hb4 := hB4 _ _ hb3 (Nat.le_refl _); have z4 := hb4.size))
        all_goals go_wp2_with fail
        all_goals go_ret
        all_goals exact ⟨_, rfl, by rw [Hnew.out]; exact OwnR.more (base := w.heap.size) o4 hB, hb4⟩
    · have hnew := insU_new n zs k Hkp.out (by rw [List.getElem?_eq_none hge]; simp)
      have Hnew := Lib.hid hnew
      clear hnew
      go_wp2_with fail
      have hAA : Below w.heap.size w ((w.alloc (.cells #[] 2)).drew) := (((Below.refl _ _).alloc (Nat.le_refl _) _)).drew
      have hAB : Below w.heap.size w (((w.alloc (.cells #[] 2)).alloc (.cells #[.int .i64 n] 2)).drew) := ((((Below.refl _ _).alloc (Nat.le_refl _) _)).alloc (by simp) _).drew
      have hAC : Below w.heap.size w (((w.alloc (.cells #[.int .i64 n] 2)).alloc (.cells #[] 2)).drew) := ((((Below.refl _ _).alloc (Nat.le_refl _) _)).alloc (by simp) _).drew
      have oA : OwnR i64s 1 ((w.alloc (.cells #[] 2)).drew) w.heap.size 2 (.slice (some ⟨w.heap.size, 0, none⟩) 0 0) ([] : List _) := (own_empty w _ 1 i64s).drew
      have oB : OwnR i64s 1 (((w.alloc (.cells #[] 2)).alloc (.cells #[.int .i64 n] 2)).drew) w.heap.size 2 (.slice (some ⟨w.heap.size, 0, none⟩) 0 0) ([] : List _) := ((own_empty w _ 1 i64s).alloc _).drew
      have tB : SlR i64s 1 (((w.alloc (.cells #[] 2)).alloc (.cells #[.int .i64 n] 2)).drew) (w.heap.size + 1) (w.heap.size + 1 + 1) (.slice (some ⟨w.heap.size + 1, 0, none⟩) 1 1) [n] := by have := (rec_sl (f := i64s) (s := 1) (fun _ => rfl) (w.alloc (.cells #[] 2)) 2 (cx := #[.int .i64 n]) (x := n) rfl).drew; simpa using this
      have oC : OwnR i64s 1 (((w.alloc (.cells #[.int .i64 n] 2)).alloc (.cells #[] 2)).drew) w.heap.size 2 (.slice (some ⟨w.heap.size + 1, 0, none⟩) 0 0) ([] : List _) := by have := ((own_empty (w.alloc (.cells #[.int .i64 n] 2)) 2 1 i64s).drew).more (base' := w.heap.size) (by simp); simpa using this
      have tC : SlR i64s 1 (((w.alloc (.cells #[.int .i64 n] 2)).alloc (.cells #[] 2)).drew) w.heap.size (w.heap.size + 1) (.slice (some ⟨w.heap.size, 0, none⟩) 1 1) [n] := ((rec_sl (f := i64s) (s := 1) (fun _ => rfl) w 2 (cx := #[.int .i64 n]) (x := n) rfl).alloc (by simp) _).drew
      have zTB : w.heap.size + 1 + 1 ≤ (((w.alloc (.cells #[] 2)).alloc (.cells #[.int .i64 n] 2)).drew).heap.size := by simp
      have zTC : w.heap.size + 1 + 1 ≤ (((w.alloc (.cells #[.int .i64 n] 2)).alloc (.cells #[] 2)).drew).heap.size := by simp
      go_region_held3 (fun _ => True) (trivial) (first
        | ((with_reducible refine at_world ((w.alloc (.cells #[] 2)).drew) ?_); refine step_append_sl (f := i64s) (s := 1) ((w.alloc (.cells #[] 2)).drew) (fun _ => rfl) i64s_one (by rfl) _ _ 22 (by rfl) w.heap.size 2 Tryd.infoI Tryd.underlying22 rfl (by decide) _ ([] : List _) (zs.take k) _ base _ (by rfl) oA (by rfl) (s1.below hAA (Nat.le_refl _)) (by simp; omega) (by simp; omega) (by simp; try omega) ?_; intro v2 w2 o2 hB2 hg2; have hb2 := hB2 _ _ hAA (Nat.le_refl _); have z2 := hb2.size)
        | ((with_reducible refine at_world (((w.alloc (.cells #[] 2)).alloc (.cells #[.int .i64 n] 2)).drew) ?_); refine step_append_sl (f := i64s) (s := 1) (((w.alloc (.cells #[] 2)).alloc (.cells #[.int .i64 n] 2)).drew) (fun _ => rfl) i64s_one (by rfl) _ _ 22 (by rfl) w.heap.size 2 Tryd.infoI Tryd.underlying22 rfl (by decide) _ ([] : List _) (zs.take k) _ base _ (by rfl) oB (by rfl) (s1.below hAB (Nat.le_refl _)) (by simp; omega) (by simp; omega) (by simp; try omega) ?_; intro v2 w2 o2 hB2 hg2; have hb2 := hB2 _ _ hAB (Nat.le_refl _); have z2 := hb2.size; have t2 := tB.grown hg2 zTB (by intro q hq; have hq := Option.some.inj hq; dsimp only at hq; omega); have zt2 : w.heap.size + 1 + 1 ≤ w2.heap.size := Nat.le_trans zTB hg2.size)
        | ((with_reducible refine at_world (((w.alloc (.cells #[.int .i64 n] 2)).alloc (.cells #[] 2)).drew) ?_); refine step_append_sl (f := i64s) (s := 1) (((w.alloc (.cells #[.int .i64 n] 2)).alloc (.cells #[] 2)).drew) (fun _ => rfl) i64s_one (by rfl) _ _ 22 (by rfl) w.heap.size 2 Tryd.infoI Tryd.underlying22 rfl (by decide) _ ([] : List _) (zs.take k) _ base _ (by rfl) oC (by rfl) (s1.below hAC (Nat.le_refl _)) (by simp; omega) (by simp; omega) (by simp; try omega) ?_; intro v2 w2 o2 hB2 hg2; have hb2 := hB2 _ _ hAC (Nat.le_refl _); have z2 := hb2.size; have t2 := tC.grown hg2 (Nat.le_trans (Nat.le_succ _) zTC) (by intro q hq; have hq := Option.some.inj hq; dsimp only at hq; omega); have zt2 : w.heap.size + 1 ≤ w2.heap.size := Nat.le_trans (Nat.le_trans (Nat.le_succ _) zTC) hg2.size)
        | ((with_reducible refine at_world w2 ?_); refine step_append_sl (f := i64s) (s := 1) w2 (fun _ => rfl) i64s_one (by rfl) _ _ 22 (by rfl) w.heap.size 2 Tryd.infoI Tryd.underlying22 rfl (by decide) _ _ [n] _ _ _ (by rfl) o2 (by rfl) t2 (by simp; omega) (by simp; omega) z2 ?_; intro v3 w3 o3 hB3 hg3; have hb3 := hB3 _ _ hb2 (Nat.le_refl _); have z3 := hb3.size)
        | ((with_reducible refine at_world (w2.alloc (.cells #[.int .i64 n] 2)) ?_); refine step_append_sl (f := i64s) (s := 1) (w2.alloc (.cells #[.int .i64 n] 2)) (fun _ => rfl) i64s_one (by rfl) _ _ 22 (by rfl) w.heap.size 2 Tryd.infoI Tryd.underlying22 rfl (by decide) _ _ [n] _ _ _ (by rfl) (o2.alloc _) (by rfl) (rec_sl (f := i64s) (s := 1) (fun _ => rfl) w2 2 (cx := #[.int .i64 n]) (x := n) rfl) (by simp; omega) (by simp; omega) (Nat.le_trans z2 (by simp)) ?_; intro v3 w3 o3 hB3 hg3; have hb3 := hB3 _ _ (hb2.alloc z2 _) (Nat.le_refl _); have z3 := hb3.size)
        | ((with_reducible refine at_world w3 ?_); refine step_append_sl (f := i64s) (s := 1) w3 (fun _ => rfl) i64s_one (by rfl) _ _ 22 (by rfl) w.heap.size 2 Tryd.infoI Tryd.underlying22 rfl (by decide) _ _ (zs.drop k) _ base _ (by rfl) o3 (by rfl) (s2.below hb3 (Nat.le_refl _)) (by simp; omega) (by simp; omega) z3 ?_; intro v4 w4 o4 hB4 hg4; have hb4 := hB4 _ _ hb3 (Nat.le_refl _); have z4 := hb4.size))
      all_goals go_wp2_with fail
      all_goals go_ret
      all_goals exact ⟨_, rfl, by rw [Hnew.out]; exact OwnR.more (base := w.heap.size) o4 hB, hb4⟩
end Go.Proofs.YtodfkbgifoecbaaDoor
