/- The two IsPanel: contracts. No condition but the sizes that the law itself asks. -/
import Derived.Test.YtkhojhgcopnenaaPanA
import Derived.Deep.RegionHeld3
import Derived.Deep.DeepCutAuto
import Derived.Deep.RegionLaw
namespace Go.Proofs.Ytkhojhgcopnenaa
open Go.RowKit
attribute [local go_sem ↓] Go.wp_at_zero Go.wp_at_succ

set_option maxRecDepth 100000 in
set_option maxHeartbeats 8000000 in
theorem implIsPanel_any (vs vw vg : Value) (p : N3) (w : World) (lo : Nat) (hs : SlI w lo w.heap.size vs p.seats) (hw : SlI w lo w.heap.size vw p.wait) (hg : SlI w lo w.heap.size vg p.gone) (hn : p.seats.length + p.wait.length + p.gone.length ≤ 1048576) :
    Calls Try.prog 12 #[.agg #[vs, vw, vg]] w fun e w' => e = .returned (.bool (panelOk p)) ∧ Below w.heap.size w w' := by
  obtain ⟨seats, wait, gone⟩ := p
  dsimp only at hs hw hg hn ⊢
  obtain ⟨A, c, rfl, _, _⟩ := hs.form
  obtain ⟨A', c', rfl, _, _⟩ := hw.form
  obtain ⟨A'', c'', rfl, _, _⟩ := hg.form
  go_enter Try.func12, Try.ntmps12
  go_wp2_with fail
  have bP := Blk.new w 27 #[.slice A seats.length c, .slice A' wait.length c', .slice A'' gone.length c'']
  have hB1 : Below w.heap.size w (w.alloc (.cells #[.slice A seats.length c, .slice A' wait.length c', .slice A'' gone.length c''] 27)) := (Below.refl _ _).alloc (Nat.le_refl _) _
  generalize w.alloc (.cells #[.slice A seats.length c, .slice A' wait.length c', .slice A'' gone.length c''] 27) = w1 at *
  have hBd : Below w.heap.size w w1.drew := hB1.drew
  have hz := hB1.size
  replace hs : SlI w1.drew 0 w1.drew.heap.size (.slice A seats.length c) seats := (hs.below hBd (Nat.le_refl _)).more (Nat.zero_le _) hBd.size
  replace hw : SlI w1.drew 0 w1.drew.heap.size (.slice A' wait.length c') wait := (hw.below hBd (Nat.le_refl _)).more (Nat.zero_le _) hBd.size
  replace hg : SlI w1.drew 0 w1.drew.heap.size (.slice A'' gone.length c'') gone := (hg.below hBd (Nat.le_refl _)).more (Nat.zero_le _) hBd.size
  have bd : Blk w1.drew w.heap.size 27 #[.slice A seats.length c, .slice A' wait.length c', .slice A'' gone.length c''] := bP
  have a0 : w1.cell? ⟨w.heap.size, 0, none⟩ = some (.slice A seats.length c) := bP.cell 0
  have a1 : w1.cell? ⟨w.heap.size, 1, none⟩ = some (.slice A' wait.length c') := bP.cell 1
  have a2 : w1.cell? ⟨w.heap.size, 2, none⟩ = some (.slice A'' gone.length c'') := bP.cell 2
  have d0 : w1.drew.cell? ⟨w.heap.size, 0, none⟩ = some (.slice A seats.length c) := bP.cell 0
  have d1 : w1.drew.cell? ⟨w.heap.size, 1, none⟩ = some (.slice A' wait.length c') := bP.cell 1
  have d2 : w1.drew.cell? ⟨w.heap.size, 2, none⟩ = some (.slice A'' gone.length c'') := bP.cell 2
  have CS := seated_any _ seats w1.drew 0 hs (by omega)
  have CJ : ∀ (w2 : World) (v2 : Value), Below w1.drew.heap.size w1.drew w2 → OwnR i64s 1 w2 w1.drew.heap.size 2 v2 (seatedF seats) → Calls Try.prog 53 #[.slice (some ⟨w2.heap.size, 0, none⟩) 3 3] (w2.alloc (.cells #[v2, .slice A' wait.length c', .slice A'' gone.length c''] 22)) fun e w' => ∃ v', e = .returned v' ∧ OwnR i64s 1 w' w.heap.size 2 v' (seatedF seats ++ wait ++ gone) ∧ Below w2.heap.size w2 w' := by
    intro w2 v2 hb o2
    have z2 := hb.size
    have hB2 : Below w2.heap.size w2 (w2.alloc (.cells #[v2, .slice A' wait.length c', .slice A'' gone.length c''] 22)) := (Below.refl _ _).alloc (Nat.le_refl _) _
    have up : ∀ {v : Value} {zs : List Int}, SlI w2 0 w2.heap.size v zs → SlI (w2.alloc (.cells #[v2, .slice A' wait.length c', .slice A'' gone.length c''] 22)) 0 (w2.alloc (.cells #[v2, .slice A' wait.length c', .slice A'' gone.length c''] 22)).heap.size v zs := fun h => (h.below hB2 (Nat.le_refl _)).more (Nat.le_refl _) hB2.size
    have hl := seatedF_len seats
    refine (joined_any w2.heap.size _ _ _ (seatedF seats) wait gone _ 0 (Blk.new w2 22 #[v2, .slice A' wait.length c', .slice A'' gone.length c'']) (up ((own_slI o2).more (Nat.zero_le _) (Nat.le_refl _))) (up ((hw.below hb (Nat.le_refl _)).more (Nat.le_refl _) z2)) (up ((hg.below hb (Nat.le_refl _)).more (Nat.le_refl _) z2)) (by omega)).mono ?_
    rintro e w' ⟨v', rfl, o3, hb3⟩
    exact ⟨v', rfl, o3.more (by have := hB2.size; have e : w1.drew.heap.size = w1.heap.size := rfl; omega), hB2.trans (hb3.mono hB2.size)⟩
  have HJ := Lib.hid CJ
  clear CJ
  go_upto_region 1 with fail
  go_cut [3] (fun v3 w3 => OwnR i64s 1 w3 w.heap.size 2 v3 (seatedF seats ++ wait ++ gone) ∧ Below w1.drew.heap.size w1.drew w3)
  case first =>
    go_region_held3 (fun w' => w'.cell? ⟨w.heap.size, 0, none⟩ = some (.slice A seats.length c) ∧ w'.cell? ⟨w.heap.size, 1, none⟩ = some (.slice A' wait.length c') ∧ w'.cell? ⟨w.heap.size, 2, none⟩ = some (.slice A'' gone.length c'')) (first | exact ⟨d0, d1, d2⟩ | exact ⟨e0, e1, e2⟩ | exact ⟨f0, f1, f2⟩ | exact ⟨g0, g1, g2⟩) (first
      | (go_at_call 54; (with_reducible refine CS.mono ?_); rintro e w2 ⟨v2, rfl, o2, hb2⟩; obtain ⟨A2, c2, rfl, _, _, _⟩ := own_form (OwnR.own o2); have b2 := bd.below' hb2; have e0 := b2.cell 0; have e1 := b2.cell 1; have e2 := b2.cell 2; have b3 := b2.alloc (.cells #[.slice A2 (seatedF seats).length c2, .slice A' wait.length c', .slice A'' gone.length c''] 22); have f0 := b3.cell 0; have f1 := b3.cell 1; have f2 := b3.cell 2)
      | (go_at_call 53; refine (HJ.out w2 _ hb2 o2).mono ?_; rintro e w3 ⟨v3, rfl, o3, hb3⟩; have b4 := b2.below' hb3; have g0 := b4.cell 0; have g1 := b4.cell 1; have g2 := b4.cell 2))
    all_goals (go_wp2_with fail; go_meet; exact ⟨o3, hb2.trans (hb3.mono hb2.size)⟩)
  case rest =>
    obtain ⟨o3, hb3⟩ := hcut
    obtain ⟨v3, rfl⟩ : ∃ x : Value, x = u3 := ⟨_, rfl⟩
    obtain ⟨w3, rfl⟩ : ∃ w3 : World, w3 = wc := ⟨_, rfl⟩
    have b3 := bd.below' hb3
    have f0 := b3.cell 0
    have f1 := b3.cell 1
    have f2 := b3.cell 2
    have s1 := (hs.below hb3 (Nat.le_refl _)).more (Nat.le_refl _) hb3.size
    have hB3 : Below w.heap.size w w3 := hBd.trans (hb3.mono hBd.size)
    have hl : (seatedF seats ++ wait ++ gone).length = (seatedF seats).length + wait.length + gone.length := by simp; omega
    have s3 := own_slI o3
    clear o3 CS HJ a0 a1 a2 d0 d1 d2 hs hw hg
    have HP : Hid (panelOk ⟨seats, wait, gone⟩ = (inB seats.length 1 12 && decide ((seatedF seats ++ wait ++ gone).length ≤ 60) && !(hasB 0 seats && decide (0 < wait.length)) && distGo [] (seatedF seats ++ wait ++ gone))) := Lib.hid (by rw [hl]; rfl)
    clear hl
    generalize (seatedF seats ++ wait ++ gone) = all at *
    obtain ⟨A3, c3, rfl, _, _⟩ := s3.form
    have D := distinct_any _ all w3 _ _ s3
    have I := isSeats_any seats.length w3
    cases e0 : hasB 0 seats
    all_goals cases e1 : inB seats.length 1 12
    all_goals cases e2 : distGo [] all
    all_goals rw [e1] at I
    all_goals rw [e2] at D
    all_goals go_wp2_with (first
      | (go_at_call 55; refine (has_as e0 s1).mono ?_; rintro e w' ⟨rfl, rfl⟩)
      | (go_at_call 56; refine I.mono ?_; rintro e w' ⟨rfl, rfl⟩)
      | (go_at_call 57; refine (few_any _ _ _).mono ?_; rintro e w' ⟨rfl, rfl⟩)
      | (go_at_call 58; refine D.mono ?_; rintro e w' ⟨rfl, rfl⟩))
    all_goals go_ret
    all_goals refine ⟨ret_bool ?_, hB3⟩
    all_goals rw [HP.out, e0, e1, e2]
    all_goals rcases Decidable.em (0 < wait.length) with q1 | q1
    all_goals rcases Decidable.em (all.length ≤ 60) with q2 | q2
    all_goals first
      | (rw [decide_eq_true q1, decide_eq_true q2]; first | rfl | (exfalso; omega) | (symm; apply decide_eq_true; omega) | (symm; apply decide_eq_false; omega) | (apply decide_eq_true; omega) | (apply decide_eq_false; omega))
      | (rw [decide_eq_true q1, decide_eq_false q2]; first | rfl | (exfalso; omega) | (apply decide_eq_true; omega) | (apply decide_eq_false; omega))
      | (rw [decide_eq_false q1, decide_eq_true q2]; first | rfl | (exfalso; omega) | (apply decide_eq_true; omega) | (apply decide_eq_false; omega))
      | (rw [decide_eq_false q1, decide_eq_false q2]; first | rfl | (exfalso; omega) | (apply decide_eq_true; omega) | (apply decide_eq_false; omega))

theorem allS_perm (s w g : List Int) : ((w ++ g) ++ s).Perm (s ++ w ++ g) := by
  rw [List.append_assoc s w g]
  exact List.perm_append_comm

theorem hasB_snoc (y x : Int) : ∀ l : List Int, hasB y (l ++ [x]) = (hasB y l || y == x)
  | [] => by simp [hasB]
  | z :: t => by rw [List.cons_append, hasB, hasB, hasB_snoc y x t, Bool.or_assoc]
theorem l01In_as' {a b c : Int} {r : Bool} (hr : inB a b c = r) (w : World) :
    Calls Try.prog 50 #[.int .i64 a, .int .i64 b, .int .i64 c] w fun e w' => e = .returned (.bool r) ∧ w = w' := hr ▸ l01In_any a b c w

set_option maxRecDepth 100000 in
set_option maxHeartbeats 8000000 in
theorem specIsPanel_any (vs vw vg : Value) (p : N3) (w : World) (lo : Nat) (hs : SlI w lo w.heap.size vs p.seats) (hw : SlI w lo w.heap.size vw p.wait) (hg : SlI w lo w.heap.size vg p.gone) (hn : p.seats.length + p.wait.length + p.gone.length ≤ 1048576) :
    Calls Try.prog 10 #[.agg #[vs, vw, vg]] w fun e w' => e = .returned (.bool (panelOk p)) ∧ Below w.heap.size w w' := by
  obtain ⟨seats, wait, gone⟩ := p
  dsimp only at hs hw hg hn ⊢
  obtain ⟨A, c, rfl, _, _⟩ := hs.form
  obtain ⟨A', c', rfl, _, _⟩ := hw.form
  obtain ⟨A'', c'', rfl, _, _⟩ := hg.form
  go_enter Try.func10, Try.ntmps10
  go_wp2_with fail
  have bP := Blk.new w 27 #[.slice A seats.length c, .slice A' wait.length c', .slice A'' gone.length c'']
  have hB1 : Below w.heap.size w (w.alloc (.cells #[.slice A seats.length c, .slice A' wait.length c', .slice A'' gone.length c''] 27)) := (Below.refl _ _).alloc (Nat.le_refl _) _
  generalize w.alloc (.cells #[.slice A seats.length c, .slice A' wait.length c', .slice A'' gone.length c''] 27) = w1 at *
  have lP := bP.lt
  have hz := hB1.size
  have ss1 : SlI w1 lo w1.heap.size (.slice A seats.length c) seats := (hs.below hB1 (Nat.le_refl _)).more (Nat.le_refl _) hB1.size
  have sw1 : SlI w1 lo w1.heap.size (.slice A' wait.length c') wait := (hw.below hB1 (Nat.le_refl _)).more (Nat.le_refl _) hB1.size
  have sg1 : SlI w1 lo w1.heap.size (.slice A'' gone.length c'') gone := (hg.below hB1 (Nat.le_refl _)).more (Nat.le_refl _) hB1.size
  clear hs hw hg
  have a0 : w1.cell? ⟨w.heap.size, 0, none⟩ = some (.slice A seats.length c) := bP.cell 0
  have a1 : w1.cell? ⟨w.heap.size, 1, none⟩ = some (.slice A' wait.length c') := bP.cell 1
  have a2 : w1.cell? ⟨w.heap.size, 2, none⟩ = some (.slice A'' gone.length c'') := bP.cell 2
  have d0 : w1.drew.cell? ⟨w.heap.size, 0, none⟩ = some (.slice A seats.length c) := bP.cell 0
  have d1 : w1.drew.cell? ⟨w.heap.size, 1, none⟩ = some (.slice A' wait.length c') := bP.cell 1
  have d2 : w1.drew.cell? ⟨w.heap.size, 2, none⟩ = some (.slice A'' gone.length c'') := bP.cell 2
  have bE : Blk (w1.alloc (.cells #[] 2)).drew w.heap.size 27 #[.slice A seats.length c, .slice A' wait.length c', .slice A'' gone.length c''] := bP.alloc _
  have e0 := bE.cell 0
  have e1 := bE.cell 1
  have e2 := bE.cell 2
  have hAA : Below w1.heap.size w1 ((w1.alloc (.cells #[] 2)).drew) := (((Below.refl _ _).alloc (Nat.le_refl _) _)).drew
  have oA : OwnR i64s 1 ((w1.alloc (.cells #[] 2)).drew) w1.heap.size 2 (.slice (some ⟨w1.heap.size, 0, none⟩) 0 0) ([] : List _) := (own_empty w1 _ 1 i64s).drew
  go_upto_region 1 with fail
  go_cut [3] (fun v3 w3 => OwnR i64s 1 w3 w1.heap.size 2 v3 (wait ++ gone) ∧ Below w1.heap.size w1 w3)
  case first =>
    go_region_held3 (fun w' => w'.cell? ⟨w.heap.size, 0, none⟩ = some (.slice A seats.length c) ∧ w'.cell? ⟨w.heap.size, 1, none⟩ = some (.slice A' wait.length c') ∧ w'.cell? ⟨w.heap.size, 2, none⟩ = some (.slice A'' gone.length c'')) (first | exact ⟨d0, d1, d2⟩ | exact ⟨e0, e1, e2⟩ | exact ⟨f0, f1, f2⟩ | exact ⟨g0, g1, g2⟩ | exact ⟨a0, a1, a2⟩) (first
      | ((with_reducible refine at_world ((w1.alloc (.cells #[] 2)).drew) ?_); refine step_append_sl (f := i64s) (s := 1) ((w1.alloc (.cells #[] 2)).drew) (fun _ => rfl) i64s_one (by rfl) _ _ 22 (by rfl) w1.heap.size 2 Try.infoI Try.underlying22 rfl (by decide) _ ([] : List _) wait _ lo _ (by rfl) oA (by rfl) (sw1.below hAA (Nat.le_refl _)) (by simp; omega) (by simp; omega) (by simp; try omega) ?_; intro v2 w2 o2 hB2 hg2; have hb2 := hB2 _ _ hAA (Nat.le_refl _); have z2 := hb2.size; have b2 := bP.below hb2 lP; have f0 := b2.cell 0; have f1 := b2.cell 1; have f2 := b2.cell 2)
      | ((with_reducible refine at_world w2 ?_); refine step_append_sl (f := i64s) (s := 1) w2 (fun _ => rfl) i64s_one (by rfl) _ _ 22 (by rfl) w1.heap.size 2 Try.infoI Try.underlying22 rfl (by decide) _ _ gone _ lo _ (by rfl) o2 (by rfl) (sg1.below hb2 (Nat.le_refl _)) (by simp; omega) (by simp; omega) z2 ?_; intro v3 w3 o3 hB3 hg3; have hb3 := hB3 _ _ hb2 (Nat.le_refl _); have z3 := hb3.size; have b4 := bP.below hb3 lP; have g0 := b4.cell 0; have g1 := b4.cell 1; have g2 := b4.cell 2))
    all_goals (go_wp2_with fail; go_meet; exact ⟨by simpa using o3, hb3⟩)
  case rest =>
    obtain ⟨o3, hb3⟩ := hcut
    obtain ⟨v3, rfl⟩ : ∃ x : Value, x = u3 := ⟨_, rfl⟩
    obtain ⟨w3, rfl⟩ : ∃ w3 : World, w3 = wc := ⟨_, rfl⟩
    have hl : (wait ++ gone ++ seatedF seats).length = (seatedF seats).length + wait.length + gone.length := by simp; omega
    have HP : Hid (panelOk ⟨seats, wait, gone⟩ = (inB seats.length 1 12 && decide ((wait ++ gone ++ seatedF seats).length ≤ 60) && !(hasB 0 seats && decide (0 < wait.length)) && distGo [] (wait ++ gone ++ seatedF seats))) := Lib.hid (by rw [hl, distGo_perm (allS_perm (seatedF seats) wait gone)]; rfl)
    have hwg : (wait ++ gone).length = wait.length + gone.length := List.length_append
    clear a0 a1 a2 d0 d1 d2 e0 e1 e2 bE oA hAA hl
    go_wp2_with fail
    go_loopw [3, 4, 5] (fun q em i wr => ∃ (k : Nat), em = .bool (hasB 0 (seats.take k)) ∧ i = .int .i64 k ∧ k ≤ seats.length ∧ OwnR i64s 1 wr w1.heap.size 2 q (wait ++ gone ++ seatedF (seats.take k)) ∧ Below w1.heap.size w1 wr) (fun q em i wr => seats.length - (intOf i).toNat)
    case atStart => exact ⟨0, rfl, rfl, Nat.zero_le _, by simpa [seatedF] using o3, hb3⟩
    case round =>
      obtain ⟨k, rfl, rfl, hk, ow, hbr⟩ := hrel
      have hsz := hbr.size
      have br := bP.below hbr lP
      have r0 : wr.cell? ⟨w.heap.size, 0, none⟩ = some (.slice A seats.length c) := br.cell 0
      have r1 : wr.cell? ⟨w.heap.size, 1, none⟩ = some (.slice A' wait.length c') := br.cell 1
      have sr := (ss1.below hbr (Nat.le_refl _)).more (Nat.le_refl _) hbr.size
      by_cases hlt : k < seats.length
      · obtain ⟨x, hx⟩ := some_at hlt
        obtain ⟨b, off, rfl, _, hb, c0⟩ := sr.int_at hx
        have Hx := Lib.hid hx
        have Hs := Lib.hid (hasB_snoc 0 x (seats.take k))
        have Ht := Lib.hid (take_snoc hx)
        clear hx
        have hl := seatedF_len (seats.take k)
        rw [List.length_take] at hl
        have hl2 : (wait ++ gone ++ seatedF (seats.take k)).length = (wait ++ gone).length + (seatedF (seats.take k)).length := List.length_append
        cases he : hasB 0 (seats.take k)
        all_goals cases hd : (x != 0)
        · have hd2 : (x == 0) = true := by simpa using hd
          have hd3 : (0 == x) = true := by have e : x = 0 := by simpa using hd2
                                           rw [e]; rfl
          go_wp2_with fail
          go_roundw
          case rel => exact ⟨k + 1, by rw [Ht.out, Hs.out, he, hd3]; rfl, by go_num, hlt, by rw [seatedF_no Hx.out hd]; exact ow, hbr⟩
          case measure => simp [intOf]; omega
        · have hd2 : (x == 0) = false := by simpa using hd
          have hd3 : (0 == x) = false := by have e : x ≠ 0 := by simpa using hd2
                                            exact beq_false_of_ne fun q => e q.symm
          go_wp2_with (at_builtin; refine wpList_append_rec (f := i64s) (s := 1) 2 _ _ (fun _ => rfl) i64s_one rfl _ _ 22 rfl w1.heap.size Try.infoI Try.underlying22 rfl (by decide) _ _ x rfl ow rfl rfl rfl (by omega) (by omega) hsz ?_)
          intro v' w' ow' hbel
          go_wp2_with fail
          go_roundw
          case rel => exact ⟨k + 1, by rw [Ht.out, Hs.out, he, hd3]; rfl, by go_num, hlt, by rw [seatedF_yes Hx.out hd]; simpa using ow', hbel _ _ hbr (Nat.le_refl _)⟩
          case measure => simp [intOf]; omega
        · have hd2 : (x == 0) = true := by simpa using hd
          go_wp2_with fail
          go_roundw
          case rel => exact ⟨k + 1, by rw [Ht.out, Hs.out, he]; rfl, by go_num, hlt, by rw [seatedF_no Hx.out hd]; exact ow, hbr⟩
          case measure => simp [intOf]; omega
        · have hd2 : (x == 0) = false := by simpa using hd
          go_wp2_with (at_builtin; refine wpList_append_rec (f := i64s) (s := 1) 2 _ _ (fun _ => rfl) i64s_one rfl _ _ 22 rfl w1.heap.size Try.infoI Try.underlying22 rfl (by decide) _ _ x rfl ow rfl rfl rfl (by omega) (by omega) hsz ?_)
          intro v' w' ow' hbel
          go_wp2_with fail
          go_roundw
          case rel => exact ⟨k + 1, by rw [Ht.out, Hs.out, he]; rfl, by go_num, hlt, by rw [seatedF_yes Hx.out hd]; simpa using ow', hbel _ _ hbr (Nat.le_refl _)⟩
          case measure => simp [intOf]; omega
      · have hkn : k = seats.length := by omega
        subst hkn
        rw [List.take_length] at ow ⊢
        have hl := seatedF_len seats
        have hl2 : (wait ++ gone ++ seatedF seats).length = (wait ++ gone).length + (seatedF seats).length := List.length_append
        have sA := own_slI ow
        clear ow
        generalize (wait ++ gone ++ seatedF seats) = all at *
        obtain ⟨Aq, cq, rfl, _, _⟩ := sA.form
        obtain ⟨wo, rfl⟩ : ∃ wo : World, wo = wr := ⟨_, rfl⟩
        have hBo : Below w.heap.size w wo := hB1.trans (hbr.mono hB1.size)
        go_wp2_with fail
        go_loopw [6] (fun i wr2 => ∃ (k : Nat), i = .int .i64 k ∧ k ≤ all.length ∧ distGo [] all = distGo (all.take k) (all.drop k) ∧ Below wo.heap.size wo wr2) (fun i wr2 => all.length - (intOf i).toNat)
        case atStart => exact ⟨0, rfl, Nat.zero_le _, rfl, Below.refl _ _⟩
        case round =>
          obtain ⟨k, rfl, hk2, hgo, hb4⟩ := hrel
          have hs4 := hb4.size
          clear r0 r1
          have br := br.below' hb4
          have r0 : wr.cell? ⟨w.heap.size, 0, none⟩ = some (.slice A seats.length c) := br.cell 0
          have r1 : wr.cell? ⟨w.heap.size, 1, none⟩ = some (.slice A' wait.length c') := br.cell 1
          have hB4 : Below w.heap.size w wr := hBo.trans (hb4.mono hBo.size)
          have sB := (sA.below hb4 (Nat.le_refl _)).more (Nat.le_refl _) hb4.size
          by_cases hlt2 : k < all.length
          · obtain ⟨x, hx⟩ := some_at hlt2
            rw [drop_cons hx, distGo, ← take_snoc hx] at hgo
            obtain ⟨b, off, rfl, _, hb, c0⟩ := sB.int_at hx
            have hdk := sB.take (k := k) (by omega)
            have Hgo := Lib.hid hgo
            clear hx hgo
            cases e1 : inB x 1 1000000
            · go_wp2_with fail
              refine wp_region_ext (by kernel_rfl) (by kernel_rfl) ?_
              repeat (go_big_quiet_step ((go_at_call 50; exact calls_ext_same (l01In_as' e1 _))))
              refine wpQuiet_nil ?_
              intro w2 hb2
              go_wp2_with fail
              go_ret
              exact ⟨ret_bool (by simp [HP.out, Hgo.out, e1]), hB4.trans (hb2.mono hB4.size)⟩
            · cases e2 : hasB x (all.take k)
              · go_wp2_with fail
                refine wp_region_ext (by kernel_rfl) (by kernel_rfl) ?_
                repeat (go_big_quiet_step (first | (go_at_call 50; exact calls_ext_same (l01In_as' e1 _)) | (go_at_call 51; exact calls_ext_same (l01Has_as e2 (SlR.ext hdk (by omega) _)))))
                refine wpQuiet_nil ?_
                intro w2 hb2
                go_wp2_with fail
                go_roundw
                case rel => exact ⟨k + 1, by go_num, hlt2, by rw [Hgo.out, e1, e2]; rfl, hb4.trans (hb2.mono hs4)⟩
                case measure => simp [intOf]; omega
              · go_wp2_with fail
                refine wp_region_ext (by kernel_rfl) (by kernel_rfl) ?_
                repeat (go_big_quiet_step (first | (go_at_call 50; exact calls_ext_same (l01In_as' e1 _)) | (go_at_call 51; exact calls_ext_same (l01Has_as e2 (SlR.ext hdk (by omega) _)))))
                refine wpQuiet_nil ?_
                intro w2 hb2
                go_wp2_with fail
                go_ret
                exact ⟨ret_bool (by simp [HP.out, Hgo.out, e1, e2]), hB4.trans (hb2.mono hB4.size)⟩
          · have hkn : k = all.length := by omega
            subst hkn
            rw [List.drop_length, distGo] at hgo
            have Hgo := Lib.hid hgo
            clear hgo
            cases e0 : hasB 0 seats
            all_goals cases e1 : inB seats.length 1 12
            all_goals go_wp2_with (go_at_call 50; refine (l01In_as' e1 _).mono ?_; rintro e w' ⟨rfl, rfl⟩)
            all_goals go_ret
            all_goals refine ⟨ret_bool ?_, hB4⟩
            all_goals rw [HP.out, e0, e1, Hgo.out]
            all_goals rcases Decidable.em (0 < wait.length) with q1 | q1
            all_goals rcases Decidable.em (all.length ≤ 60) with q2 | q2
            all_goals first
              | (rw [decide_eq_true q1, decide_eq_true q2]; first | rfl | (exfalso; omega) | (apply decide_eq_true; omega) | (apply decide_eq_false; omega))
              | (rw [decide_eq_true q1, decide_eq_false q2]; first | rfl | (exfalso; omega) | (apply decide_eq_true; omega) | (apply decide_eq_false; omega))
              | (rw [decide_eq_false q1, decide_eq_true q2]; first | rfl | (exfalso; omega) | (apply decide_eq_true; omega) | (apply decide_eq_false; omega))
              | (rw [decide_eq_false q1, decide_eq_false q2]; first | rfl | (exfalso; omega) | (apply decide_eq_true; omega) | (apply decide_eq_false; omega))
end Go.Proofs.Ytkhojhgcopnenaa
