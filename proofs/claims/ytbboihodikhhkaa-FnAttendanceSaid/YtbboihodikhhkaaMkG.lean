/- spec.MarkPresent: contract. No condition but the sizes that the law itself asks. -/
import Derived.Test.YtbboihodikhhkaaMkF
import Derived.Deep.CutBlock
import Derived.Deep.DeepCutAuto
namespace Go.Proofs.Ytbboihodikhhkaa
open Go.RowKit
attribute [local go_sem ↓] Go.wp_at_zero Go.wp_at_succ

set_option maxHeartbeats 1000000 in
theorem l01OwnS (v : Value) (cs : List Int) (w : World) (lo : Nat) (h : SlI w lo w.heap.size v cs) (hn : cs.length ≤ 2097152) :
    Calls Try.prog 44 #[v] w fun e w' => ∃ v', e = .returned v' ∧ OwnR i64s 1 w' w.heap.size 2 v' cs ∧ Below w.heap.size w w' := by
  obtain ⟨A, c, rfl, hc1, hc2⟩ := h.form
  go_enter Try.func44, Try.ntmps44
  have hAA : Below w.heap.size w (w.alloc (.cells #[] 2)) := (Below.refl _ _).alloc (Nat.le_refl _) _
  go_wp2_with (at_builtin; refine wpList_append_sl (f := i64s) (s := 1) _ (fun _ => rfl) i64s_one rfl _ _ 39 rfl w.heap.size 2 Try.infoI Try.underlying39 rfl (by decide) _ ([] : List Int) cs _ _ _ rfl (own_empty _ _ 1 i64s) rfl (h.below hAA (Nat.le_refl _)) (by simp; omega) (by simp; omega) (by simp) ?_)
  intro v' w2 o2 hbel _
  go_wp2_with fail
  go_ret
  exact ⟨v', rfl, o2, hbel _ _ hAA (Nat.le_refl _)⟩

theorem own_at1 {w : World} {base : Nat} {e : TypeId} {g n c k : Nat} {ys : List H2} {y : H2} (h : OwnR H2.vals 2 w base e (.slice (some ⟨g, 0, none⟩) n c) ys) (hy : ys[k]? = some y) : w.cell? ⟨g, k * 2 + 1, none⟩ = some (.slice y.A y.pres.length y.c) := by
  obtain ⟨b, off, e, _, _, h3⟩ := (own_slR (f := H2.vals) (s := 2) (fun _ => rfl) (OwnR.own h)).at_ hy
  injection e with e
  injection e with e1 e2
  subst e1 e2
  have := h3 1 _ rfl
  rw [Nat.zero_add] at this
  exact this
theorem spec_new {day n : Int} {ys : List H2} (hf : foundB day (ys.map H2.ct) = false) (A' : Option Addr) (c' : Nat) :
    (ys.take (ltLen day (ys.map H2.ct)) ++ [H2.mk day A' c' [n]] ++ ys.drop (ltLen day (ys.map H2.ct))).map H2.ct = marked day n (ys.map H2.ct) := by
  simp only [marked, putDay, hf, Bool.false_eq_true, if_false]
  simp [H2.ct, List.map_take, List.map_drop, insU]
theorem spec_there {day n : Int} {ys : List H2} (hf : foundB day (ys.map H2.ct) = true) {p : List Int} (hp : p = presAt day (ys.map H2.ct)) (A' : Option Addr) (c' : Nat) :
    (ys.take (ltLen day (ys.map H2.ct)) ++ [H2.mk day A' c' (insU n p)] ++ ys.drop (ltLen day (ys.map H2.ct) + 1)).map H2.ct = marked day n (ys.map H2.ct) := by
  subst hp
  simp only [marked, putDay, hf, if_true]
  simp [H2.ct, List.map_take, List.map_drop]
theorem set_mid {α : Type} {yy zs : List α} {k : Nat} (h : yy.length = k) (x : α) (hk : k < zs.length) : (yy ++ zs.drop k).set k x = yy ++ [x] ++ zs.drop (k + 1) := by
  subst h
  rw [List.set_append_right _ _ (Nat.le_refl _), Nat.sub_self, List.drop_eq_getElem_cons hk, List.set_cons_zero, List.append_assoc]; rfl
theorem at_mid {α : Type} {yy zs : List α} {k : Nat} (h : yy.length = k) {x : α} (hx : zs[k]? = some x) : (yy ++ zs.drop k)[k]? = some x := by
  subst h
  rw [List.getElem?_append_right (Nat.le_refl _), Nat.sub_self, List.getElem?_drop]; simpa using hx

theorem mid_all {ys : List H2} {x : H2} {i j : Nat} {Q : H2 → Prop} (h : ∀ y ∈ ys, Q y) (hx : Q x) : ∀ y ∈ ys.take i ++ [x] ++ ys.drop j, Q y := by
  intro y hy
  rcases List.mem_append.1 hy with hy | hy
  · rcases List.mem_append.1 hy with hy | hy
    · exact h y (List.mem_of_mem_take hy)
    · exact List.mem_singleton.1 hy ▸ hx
  · exact h y (List.mem_of_mem_drop hy)
theorem ltLen_drop (day : Int) : ∀ z : List (Int × List Int), ltLen day z = ltLen day z + ltLen day (z.drop (ltLen day z))
  | [] => rfl
  | x :: t => by
    rw [ltLen]
    split
    · have := ltLen_drop day t
      rw [List.drop_succ_cons]; omega
    · rename_i h
      rw [List.drop_zero, ltLen, if_neg h]
theorem ltLen_drop0 (day : Int) (z : List (Int × List Int)) : ltLen day (z.drop (ltLen day z)) = 0 := by have := ltLen_drop day z; omega
set_option maxRecDepth 100000 in
set_option maxHeartbeats 8000000 in
theorem specMarkPresent_any (v : Value) (z : List (Int × List Int)) (day n : Int) (w : World) (lo : Nat) (h : RdH w lo w.heap.size v z) :
    Calls Try.prog 12 #[v, .int .i64 day, .int .i64 n] w fun e w' => ∃ v', e = .returned (.tuple #[v', .int .i64 (markF z day n).2]) ∧ OwH w' w.heap.size w'.heap.size v' (markF z day n).1 ∧ Below w.heap.size w w' := by
  go_enter Try.func12, Try.ntmps12
  go_wp2_with fail
  refine (specAreSheets_z v z w lo h).mono ?_
  rintro e w1 ⟨rfl, hb1⟩
  have h1' := (h.below hb1 (Nat.le_refl _)).more (Nat.le_refl _) hb1.size
  cases h1 : sheetsOk z
  · have hF : markF z day n = ([], 1) := by simp [markF, h1]
    go_wp2_with fail
    go_ret2
    exact ⟨_, by rw [hF]; rfl, by rw [hF]; exact OwH.nil _ _ _, hb1⟩
  cases h2 : inB day 0 20000
  · have hF : markF z day n = ([], 2) := by simp [markF, h1, h2]
    go_wp2_with (first | (go_at_call 40; refine (l02Is_any _ _).mono ?_; rintro e w' ⟨rfl, rfl⟩))
    go_ret2
    exact ⟨_, by rw [hF]; rfl, by rw [hF]; exact OwH.nil _ _ _, hb1⟩
  cases h3 : inB n 1 1000000
  · have hF : markF z day n = ([], 2) := by simp [markF, h1, h2, h3]
    go_wp2_with (first | (go_at_call 40; refine (l02Is_any _ _).mono ?_; rintro e w' ⟨rfl, rfl⟩) | (go_at_call 41; refine (l01In_any _ _ _ _).mono ?_; rintro e w' ⟨rfl, rfl⟩))
    go_ret2
    exact ⟨_, by rw [hF]; rfl, by rw [hF]; exact OwH.nil _ _ _, hb1⟩
  have h23 : (inB day 0 20000 && inB n 1 1000000) = true := by rw [h2, h3]; rfl
  have hzl := sheetsOk_len h1
  obtain ⟨ys, h1', rfl⟩ := h1'
  obtain ⟨A, c, rfl, hc1, hc2⟩ := h1'.form


  have hixz0 := ltLen_le day (ys.map H2.ct)
  rw [List.length_map] at hixz0 hzl
  have H2' := Lib.hid h2
  clear h2 h23
  have h23 : Hid ((inB day 0 20000 && inB n 1 1000000) = true) := Lib.hid (by rw [H2'.out, h3]; rfl)
  have H3' := Lib.hid h3
  have H1 := Lib.hid h1
  clear h1 h3
  have H2b := H2'.out
  have H3b := H3'.out
  go_upto_block 0 with (first | (go_at_call 40; refine (l02Is_as H2b _).mono ?_; rintro e w' ⟨rfl, rfl⟩) | (go_at_call 41; refine (l01In_as H3b _).mono ?_; rintro e w' ⟨rfl, rfl⟩))
  clear H2b H3b
  go_cut [8] (fun s wx => s = .int .i64 (ltLen day (ys.map H2.ct) : Nat) ∧ wx = w1)
  case first =>
    go_wp2_with fail
    go_loop [8] (fun i => ∃ (k : Nat), i = .int .i64 k ∧ k ≤ ys.length ∧ Hid (ltLen day (ys.map H2.ct) = k + ltLen day ((ys.map H2.ct).drop k))) (fun i => ys.length - (intOf i).toNat)
    case atStart => exact ⟨0, rfl, Nat.zero_le _, Lib.hid (by simp)⟩
    case round =>
      obtain ⟨k, rfl, hk, Hgo⟩ := hrel
      have hml : (ys.map H2.ct).length = ys.length := List.length_map _
      by_cases hlt : k < ys.length
      · obtain ⟨x, hx⟩ := some_at hlt
        obtain ⟨b, off, rfl, _, hb, c0, c1, hin⟩ := h1'.at_ hx
        have hmx : (ys.map H2.ct)[k]? = some x.ct := by rw [List.getElem?_map, hx]; rfl
        have Hd := Lib.hid (drop_cons hmx)
        clear hx hmx hml c1 hin
        have hd1 : decide ((k : Int) < (ys.length : Int)) = true := by simp; omega
        by_cases hlt2 : x.day < day
        · have hd2 : decide (x.day < day) = true := decide_eq_true hlt2
          have Hs := Lib.hid (show ltLen day ((ys.map H2.ct).drop k) = ltLen day ((ys.map H2.ct).drop (k + 1)) + 1 by rw [Hd.out, ltLen, if_pos (show x.ct.1 < day from hlt2)])
          go_wp2_with fail
          go_round
          case rel => exact ⟨k + 1, by go_num, hlt, Lib.hid (by rw [Hgo.out, Hs.out]; omega)⟩
          case measure => simp [intOf]; omega
        · have hd2 : decide (x.day < day) = false := decide_eq_false hlt2
          have Hs := Lib.hid (show ltLen day ((ys.map H2.ct).drop k) = 0 by rw [Hd.out, ltLen, if_neg (show ¬ x.ct.1 < day from hlt2)])
          go_wp2_with fail
          go_meet
          exact ⟨by rw [Hgo.out, Hs.out]; rfl, rfl⟩
      · have hkn : k = ys.length := by omega
        subst hkn
        have Hs := Lib.hid (show ltLen day ((ys.map H2.ct).drop ys.length) = 0 by rw [List.drop_of_length_le (by omega)]; rfl)
        clear hml
        go_wp2_with fail
        go_meet
        exact ⟨by rw [Hgo.out, Hs.out]; rfl, rfl⟩
  case rest =>
    obtain ⟨rfl, rfl⟩ := hcut
    have hwc := hb1.size
    have HM0 : Hid (∀ A' c', foundB day (ys.map H2.ct) = false → (ys.take (ltLen day (ys.map H2.ct)) ++ [H2.mk day A' c' [n]] ++ ys.drop (ltLen day (ys.map H2.ct))).map H2.ct = marked day n (ys.map H2.ct)) := Lib.hid fun A' c' hf => spec_new hf A' c'
    have HM1 : Hid (∀ A' c' p, foundB day (ys.map H2.ct) = true → p = presAt day (ys.map H2.ct) → (ys.take (ltLen day (ys.map H2.ct)) ++ [H2.mk day A' c' (insU n p)] ++ ys.drop (ltLen day (ys.map H2.ct) + 1)).map H2.ct = marked day n (ys.map H2.ct)) := Lib.hid fun A' c' p hf hp => spec_there hf hp A' c'
    have hall : Hid (∀ y ∈ ys, y.pres.length ≤ 60) := Lib.hid (by
      have h1 := H1.out
      simp only [sheetsOk, Bool.and_eq_true] at h1
      intro y hy
      have := (sheetsGo_rises _ none h1.1).2.2 y.ct (List.mem_map_of_mem hy)
      simp only [okH, Bool.and_eq_true, decide_eq_true_eq] at this
      exact this.2)
    have Hfnd : Hid (foundB day (ys.map H2.ct) = true → ∃ PA pc p, ys[ltLen day (ys.map H2.ct)]? = some (H2.mk day PA pc p) ∧ p = presAt day (ys.map H2.ct)) := Lib.hid fun hf => found_H2 rfl rfl hf
    have Hno : Hid (foundB day (ys.map H2.ct) = false → ∀ y, ys[ltLen day (ys.map H2.ct)]? = some y → ¬ y.day = day) := Lib.hid fun hf y hy e => by
      have hq := (stop_at day (ys.map H2.ct) (ltLen day (ys.map H2.ct)) (ltLen_le _ _) ?q ?r).2
      case q => exact ltLen_drop _ _
      case r => exact ltLen_drop0 _ _
      rw [hf, findAt, List.getElem?_map, hy] at hq
      have hq : false = (y.day == day) := hq
      rw [e] at hq
      simp at hq
    generalize hix : ltLen day (ys.map H2.ct) = ix at *
    clear hix
    have bS : Blk ((wc.alloc (.cells #[.int .i64 n] 2)).alloc (.cells #[.int .i64 day, .slice (some ⟨wc.heap.size, 0, none⟩) 1 1] 56)) (wc.heap.size + 1) 56 #[.int .i64 day, .slice (some ⟨wc.heap.size, 0, none⟩) 1 1] := by
      have := Blk.new (wc.alloc (.cells #[.int .i64 n] 2)) 56 #[.int .i64 day, .slice (some ⟨wc.heap.size, 0, none⟩) 1 1]
      simpa using this
    have hnS : SlI ((wc.alloc (.cells #[.int .i64 n] 2)).alloc (.cells #[.int .i64 day, .slice (some ⟨wc.heap.size, 0, none⟩) 1 1] 56)) wc.heap.size (wc.heap.size + 1) (.slice (some ⟨wc.heap.size, 0, none⟩) 1 1) [n] := (num_sl wc n).alloc (by simp) _
    have hbS : Below wc.heap.size wc ((wc.alloc (.cells #[.int .i64 n] 2)).alloc (.cells #[.int .i64 day, .slice (some ⟨wc.heap.size, 0, none⟩) 1 1] 56)) := ((Below.refl _ _).alloc (Nat.le_refl _) _).alloc (by simp) _
    go_upto_region 9 with fail
    generalize (wc.alloc (.cells #[.int .i64 n] 2)).alloc (.cells #[.int .i64 day, .slice (some ⟨wc.heap.size, 0, none⟩) 1 1] 56) = w2 at *
    generalize hB2 : wc.heap.size + 1 = B2 at *
    have hB2' : wc.heap.size < B2 := by omega
    clear hB2
    have hsl2 : SlH w2 lo wc.heap.size (.slice A ys.length c) ys := h1'.below hbS (Nat.le_refl _)
    have HB2 := Lib.hid (hb1.trans (hbS.mono hwc))
    have hb2l := bS.lt
    have hBw := hbS.size
    clear hbS
    generalize wc.heap.size = B1 at *
    clear hb1 h1'
    go_upto_region 10 with fail
    go_cut [56] (fun s wx => s = .bool (foundB day (ys.map H2.ct)) ∧ wx = w2)
    case first =>
      cases hf : foundB day (ys.map H2.ct)
      all_goals have Hf := Lib.hid hf
      · have Hno' := Hno.out hf
        rcases Nat.lt_or_ge ix ys.length with hlt | hge
        · obtain ⟨x, hx⟩ := some_at hlt
          have hne : (x.day == day) = false := by simpa using Hno' x hx
          obtain ⟨b, off, rfl, _, hb, c0, _⟩ := hsl2.at_ hx
          clear hx Hno' hf
          go_wp2_with fail
          go_meet
          exact ⟨by rw [Hf.out], rfl⟩
        · have e : ix = ys.length := by omega
          subst e
          clear Hno' hf hge
          go_wp2_with fail
          go_meet
          exact ⟨by rw [Hf.out], rfl⟩
      · obtain ⟨PA, pc, p, hx, _⟩ := Hfnd.out hf
        have hlt := (List.getElem?_eq_some_iff.1 hx).1
        obtain ⟨b, off, rfl, _, hb, c0, _⟩ := hsl2.at_ hx
        clear hx hf
        go_wp2_with fail
        go_meet
        exact ⟨by rw [Hf.out], rfl⟩
    case rest =>
      obtain ⟨rfl, rfl⟩ := hcut
      cases hf : foundB day (ys.map H2.ct)
      · have HM : Hid (∀ A' c', _) := Lib.hid (fun A' c' => HM0.out A' c' hf)
        have HE : Hid ((foundB day (ys.map H2.ct) && hasB n (presAt day (ys.map H2.ct))) = false) := Lib.hid (by rw [hf]; rfl)
        have HB5 := HB2
        have bS5 := bS
        have h5 := hsl2.more (Nat.le_refl _) hBw
        have hp5 := hnS.more (Nat.le_refl _) (show B2 ≤ wc.heap.size by omega)
        clear hf bS hnS hsl2 HM0 HM1 Hno Hfnd HB2
        obtain ⟨w5, rfl⟩ : ∃ x : World, x = wc := ⟨_, rfl⟩
        have HPL : Hid (∀ y ∈ ys.take ix ++ [H2.mk day (some ⟨B1, 0, none⟩) 1 [n]] ++ ys.drop ix, y.pres.length ≤ 2097152) := Lib.hid (mid_all (fun y hy => Nat.le_trans (hall.out y hy) (by decide)) (by show 1 ≤ _; omega))
        obtain ⟨S1, r1, s1⟩ := run_slice_to (P := Try.prog) h5.outer (k := ix) hixz0 26 56 Try.infoH2 Try.underlying26
        obtain ⟨S2, r2, s2⟩ := run_slice_from (P := Try.prog) h5.outer (k := ix) hixz0 26 56 Try.infoH2 Try.underlying26
        have l1 : (ys.take ix).length ≤ 15 := by rw [List.length_take]; omega
        have l2 : (ys.drop ix).length ≤ 15 := by rw [List.length_drop]; omega
        have KS : Hid (∀ W, Below w5.heap.size w5 W → W.cell? ⟨B2, 0, none⟩ = some (.int .i64 day) ∧ W.cell? ⟨B2, 1, none⟩ = some (.slice (some ⟨B1, 0, none⟩) 1 1)) := Lib.hid fun W hW => ⟨(bS5.below' hW).cell 0, (bS5.below' hW).cell 1⟩
        obtain ⟨k0, k1⟩ := KS.out _ (Below.refl _ _)
        go_upto_region 15 with fail
        go_cut [11] (fun v4 wx => OwnR H2.vals 2 wx w5.heap.size 56 v4 (ys.take ix ++ [(H2.mk day (some ⟨B1, 0, none⟩) 1 [n])] ++ ys.drop ix) ∧ Below w5.heap.size w5 wx)
        case first =>
          have hAA : Below w5.heap.size w5 ((w5.alloc (.cells #[] 56)).drew) := (((Below.refl _ _).alloc (Nat.le_refl _) _)).drew
          have hAB : Below w5.heap.size w5 (((w5.alloc (.cells #[] 56)).alloc (.cells #[.int .i64 day, .slice (some ⟨B1, 0, none⟩) 1 1] 56)).drew) := ((((Below.refl _ _).alloc (Nat.le_refl _) _)).alloc (by simp) _).drew
          have hAC : Below w5.heap.size w5 (((w5.alloc (.cells #[.int .i64 day, .slice (some ⟨B1, 0, none⟩) 1 1] 56)).alloc (.cells #[] 56)).drew) := ((((Below.refl _ _).alloc (Nat.le_refl _) _)).alloc (by simp) _).drew
          have oA : OwnR H2.vals 2 ((w5.alloc (.cells #[] 56)).drew) w5.heap.size 56 (.slice (some ⟨w5.heap.size, 0, none⟩) 0 0) ([] : List _) := (own_empty w5 _ 2 H2.vals).drew
          have oB : OwnR H2.vals 2 (((w5.alloc (.cells #[] 56)).alloc (.cells #[.int .i64 day, .slice (some ⟨B1, 0, none⟩) 1 1] 56)).drew) w5.heap.size 56 (.slice (some ⟨w5.heap.size, 0, none⟩) 0 0) ([] : List _) := ((own_empty w5 _ 2 H2.vals).alloc _).drew
          have tB : SlR H2.vals 2 (((w5.alloc (.cells #[] 56)).alloc (.cells #[.int .i64 day, .slice (some ⟨B1, 0, none⟩) 1 1] 56)).drew) (w5.heap.size + 1) (w5.heap.size + 1 + 1) (.slice (some ⟨w5.heap.size + 1, 0, none⟩) 1 1) [(H2.mk day (some ⟨B1, 0, none⟩) 1 [n])] := by have := (rec_sl (f := H2.vals) (s := 2) (fun _ => rfl) (w5.alloc (.cells #[] 56)) 56 (cx := #[.int .i64 day, .slice (some ⟨B1, 0, none⟩) 1 1]) (x := (H2.mk day (some ⟨B1, 0, none⟩) 1 [n])) rfl).drew; simpa using this
          have oC : OwnR H2.vals 2 (((w5.alloc (.cells #[.int .i64 day, .slice (some ⟨B1, 0, none⟩) 1 1] 56)).alloc (.cells #[] 56)).drew) w5.heap.size 56 (.slice (some ⟨w5.heap.size + 1, 0, none⟩) 0 0) ([] : List _) := by have := ((own_empty (w5.alloc (.cells #[.int .i64 day, .slice (some ⟨B1, 0, none⟩) 1 1] 56)) 56 2 H2.vals).drew).more (base' := w5.heap.size) (by simp); simpa using this
          have tC : SlR H2.vals 2 (((w5.alloc (.cells #[.int .i64 day, .slice (some ⟨B1, 0, none⟩) 1 1] 56)).alloc (.cells #[] 56)).drew) w5.heap.size (w5.heap.size + 1) (.slice (some ⟨w5.heap.size, 0, none⟩) 1 1) [(H2.mk day (some ⟨B1, 0, none⟩) 1 [n])] := ((rec_sl (f := H2.vals) (s := 2) (fun _ => rfl) w5 56 (cx := #[.int .i64 day, .slice (some ⟨B1, 0, none⟩) 1 1]) (x := (H2.mk day (some ⟨B1, 0, none⟩) 1 [n])) rfl).alloc (by simp) _).drew
          have zTB : w5.heap.size + 1 + 1 ≤ (((w5.alloc (.cells #[] 56)).alloc (.cells #[.int .i64 day, .slice (some ⟨B1, 0, none⟩) 1 1] 56)).drew).heap.size := by simp
          have zTC : w5.heap.size + 1 + 1 ≤ (((w5.alloc (.cells #[.int .i64 day, .slice (some ⟨B1, 0, none⟩) 1 1] 56)).alloc (.cells #[] 56)).drew).heap.size := by simp
          have hAD : Below w5.heap.size w5 ((w5.alloc (.cells #[.int .i64 day, .slice (some ⟨B1, 0, none⟩) 1 1] 56)).drew) := ((Below.refl _ _).alloc (Nat.le_refl _) _).drew
          go_region_held3 (fun w' => w'.cell? ⟨B2, 0, none⟩ = some (.int .i64 day) ∧ w'.cell? ⟨B2, 1, none⟩ = some (.slice (some ⟨B1, 0, none⟩) 1 1)) (first | exact KS.out _ hAA | exact KS.out _ hAB | exact KS.out _ hAC | exact KS.out _ hAD | exact KS.out _ ((Below.refl _ _).drew) | exact KS.out _ hb3 | exact KS.out _ hb2 | exact KS.out _ (hb2.alloc z2 _) | exact KS.out _ hb4 | go_keep) (first
            | ((with_reducible refine at_world ((w5.alloc (.cells #[] 56)).drew) ?_); refine step_append_sl (f := H2.vals) (s := 2) ((w5.alloc (.cells #[] 56)).drew) (fun _ => rfl) oneCell_H2 (by rfl) _ _ 26 (by rfl) w5.heap.size 56 Try.infoH2 Try.underlying26 rfl (by decide) _ ([] : List _) (ys.take ix) _ lo _ (by rfl) oA (by rfl) (s1.below hAA (Nat.le_refl _)) (by simp; omega) (by simp; omega) (by simp; try omega) ?_; intro v2 w2 o2 hB2 hg2; have hb2 := hB2 _ _ hAA (Nat.le_refl _); have z2 := hb2.size)
            | ((with_reducible refine at_world (((w5.alloc (.cells #[] 56)).alloc (.cells #[.int .i64 day, .slice (some ⟨B1, 0, none⟩) 1 1] 56)).drew) ?_); refine step_append_sl (f := H2.vals) (s := 2) (((w5.alloc (.cells #[] 56)).alloc (.cells #[.int .i64 day, .slice (some ⟨B1, 0, none⟩) 1 1] 56)).drew) (fun _ => rfl) oneCell_H2 (by rfl) _ _ 26 (by rfl) w5.heap.size 56 Try.infoH2 Try.underlying26 rfl (by decide) _ ([] : List _) (ys.take ix) _ lo _ (by rfl) oB (by rfl) (s1.below hAB (Nat.le_refl _)) (by simp; omega) (by simp; omega) (by simp; try omega) ?_; intro v2 w2 o2 hB2 hg2; have hb2 := hB2 _ _ hAB (Nat.le_refl _); have z2 := hb2.size; have t2 := tB.grown hg2 zTB (by intro q hq; have hq := Option.some.inj hq; dsimp only at hq; omega); have zt2 : w5.heap.size + 1 + 1 ≤ w2.heap.size := Nat.le_trans zTB hg2.size)
            | ((with_reducible refine at_world (((w5.alloc (.cells #[.int .i64 day, .slice (some ⟨B1, 0, none⟩) 1 1] 56)).alloc (.cells #[] 56)).drew) ?_); refine step_append_sl (f := H2.vals) (s := 2) (((w5.alloc (.cells #[.int .i64 day, .slice (some ⟨B1, 0, none⟩) 1 1] 56)).alloc (.cells #[] 56)).drew) (fun _ => rfl) oneCell_H2 (by rfl) _ _ 26 (by rfl) w5.heap.size 56 Try.infoH2 Try.underlying26 rfl (by decide) _ ([] : List _) (ys.take ix) _ lo _ (by rfl) oC (by rfl) (s1.below hAC (Nat.le_refl _)) (by simp; omega) (by simp; omega) (by simp; try omega) ?_; intro v2 w2 o2 hB2 hg2; have hb2 := hB2 _ _ hAC (Nat.le_refl _); have z2 := hb2.size; have t2 := tC.grown hg2 (Nat.le_trans (Nat.le_succ _) zTC) (by intro q hq; have hq := Option.some.inj hq; dsimp only at hq; omega); have zt2 : w5.heap.size + 1 ≤ w2.heap.size := Nat.le_trans (Nat.le_trans (Nat.le_succ _) zTC) hg2.size)
            | ((with_reducible refine at_world w2 ?_); refine step_append_sl (f := H2.vals) (s := 2) w2 (fun _ => rfl) oneCell_H2 (by rfl) _ _ 26 (by rfl) w5.heap.size 56 Try.infoH2 Try.underlying26 rfl (by decide) _ _ [(H2.mk day (some ⟨B1, 0, none⟩) 1 [n])] _ _ _ (by rfl) o2 (by rfl) t2 (by simp; omega) (by simp; omega) z2 ?_; intro v3 w3 o3 hB3 hg3; have hb3 := hB3 _ _ hb2 (Nat.le_refl _); have z3 := hb3.size)
            | ((with_reducible refine at_world (w2.alloc (.cells #[.int .i64 day, .slice (some ⟨B1, 0, none⟩) 1 1] 56)) ?_); refine step_append_sl (f := H2.vals) (s := 2) (w2.alloc (.cells #[.int .i64 day, .slice (some ⟨B1, 0, none⟩) 1 1] 56)) (fun _ => rfl) oneCell_H2 (by rfl) _ _ 26 (by rfl) w5.heap.size 56 Try.infoH2 Try.underlying26 rfl (by decide) _ _ [(H2.mk day (some ⟨B1, 0, none⟩) 1 [n])] _ _ _ (by rfl) (o2.alloc _) (by rfl) (rec_sl (f := H2.vals) (s := 2) (fun _ => rfl) w2 56 (cx := #[.int .i64 day, .slice (some ⟨B1, 0, none⟩) 1 1]) (x := (H2.mk day (some ⟨B1, 0, none⟩) 1 [n])) rfl) (by simp; omega) (by simp; omega) (Nat.le_trans z2 (by simp)) ?_; intro v3 w3 o3 hB3 hg3; have hb3 := hB3 _ _ (hb2.alloc z2 _) (Nat.le_refl _); have z3 := hb3.size)
            | ((with_reducible refine at_world w3 ?_); refine step_append_sl (f := H2.vals) (s := 2) w3 (fun _ => rfl) oneCell_H2 (by rfl) _ _ 26 (by rfl) w5.heap.size 56 Try.infoH2 Try.underlying26 rfl (by decide) _ _ (ys.drop ix) _ lo _ (by rfl) o3 (by rfl) (s2.below hb3 (Nat.le_refl _)) (by simp; omega) (by simp; omega) z3 ?_; intro v4 w4 o4 hB4 hg4; have hb4 := hB4 _ _ hb3 (Nat.le_refl _); have z4 := hb4.size))
          all_goals (go_wp2_with fail; go_meet; exact ⟨o4, hb4⟩)
        case rest =>
          obtain ⟨o4, hb4⟩ := hcut
          obtain ⟨v4, rfl⟩ : ∃ x : Value, x = u11 := ⟨_, rfl⟩
          obtain ⟨w4, rfl⟩ : ∃ w4 : World, w4 = wc := ⟨_, rfl⟩
          have hpl4 := HPL.out
          clear HPL
          clear k0 k1 KS r1 r2 s1 s2
          have hin4 : ∀ y ∈ ys.take ix ++ [(H2.mk day (some ⟨B1, 0, none⟩) 1 [n])] ++ ys.drop ix, SlI w4 0 w5.heap.size (.slice y.A y.pres.length y.c) y.pres := by
            intro y hy
            have : y ∈ ys ∨ y = (H2.mk day (some ⟨B1, 0, none⟩) 1 [n]) := by
              rcases List.mem_append.1 hy with hy | hy
              · rcases List.mem_append.1 hy with hy | hy
                · exact Or.inl (List.mem_of_mem_take hy)
                · exact Or.inr (List.mem_singleton.1 hy)
              · exact Or.inl (List.mem_of_mem_drop hy)
            rcases this with hy | rfl
            · exact ((h5.inner y hy).below hb4 (Nat.le_refl _)).more (Nat.zero_le _) (Nat.le_refl _)
            · exact (hp5.below hb4 (Nat.le_refl _)).more (Nat.zero_le _) (Nat.le_refl _)
          have hct4 : (ys.take ix ++ [(H2.mk day (some ⟨B1, 0, none⟩) 1 [n])] ++ ys.drop ix).map H2.ct = marked day n (ys.map H2.ct) := HM.out _ _
          have hlen4 : (ys.take ix ++ [(H2.mk day (some ⟨B1, 0, none⟩) 1 [n])] ++ ys.drop ix).length ≤ 31 := by simp only [List.length_append, List.length_singleton]; omega
          have hne4 : 0 < (ys.take ix ++ [(H2.mk day (some ⟨B1, 0, none⟩) 1 [n])] ++ ys.drop ix).length := by simp only [List.length_append, List.length_singleton]; omega
          generalize ys.take ix ++ [(H2.mk day (some ⟨B1, 0, none⟩) 1 [n])] ++ ys.drop ix = zs at *
          have hsl4 : SlH w4 0 w4.heap.size v4 zs := ⟨(own_slR (f := H2.vals) (s := 2) (fun _ => rfl) (OwnR.own o4)).more (Nat.zero_le _) (Nat.le_refl _), fun y hy => (hin4 y hy).more (Nat.le_refl _) hb4.size⟩
          go_wp2_with fail
          refine (specAreSheets_z v4 (marked day n (ys.map H2.ct)) w4 0 ⟨zs, hsl4, hct4⟩).mono ?_
          rintro e w6 ⟨rfl, hb6⟩
          have HB6 := Lib.hid ((HB5.out.trans (hb4.mono HB5.out.size)).trans (hb6.mono (Nat.le_trans HB5.out.size hb4.size)))
          cases h7 : sheetsOk (marked day n (ys.map H2.ct))
          · have hF : markF (ys.map H2.ct) day n = ([], 3) := by simp only [markF]; rw [if_pos H1.out, if_pos h23.out, if_neg (by rw [HE.out]; simp), h7]; rfl
            go_wp2_with fail
            go_ret2
            exact ⟨.slice none 0 0, by rw [hF]; rfl, by rw [hF]; exact OwH.nil _ _ _, HB6.out⟩
          · have HF : Hid (markF (ys.map H2.ct) day n = (marked day n (ys.map H2.ct), 0)) := Lib.hid (by simp only [markF]; rw [if_pos H1.out, if_pos h23.out, if_neg (by rw [HE.out]; simp), if_pos h7])
            have o6 := o4.below hb6
            have hs6 : w5.heap.size ≤ w6.heap.size := Nat.le_trans hb4.size hb6.size
            obtain ⟨A4, c4, rfl, hc41, hc42, hA4⟩ := own_form (OwnR.own o6)
            obtain ⟨g8, rfl, hg1, hg2⟩ := hA4 hne4
            have hin6 : Hid (∀ y ∈ zs, SlI w6 0 w5.heap.size (.slice y.A y.pres.length y.c) y.pres) := Lib.hid (fun y hy => (hin4 y hy).below hb6 (hb4.size))
            have HC4 := Lib.hid hct4
            have HP4 := Lib.hid hpl4
            have hs5 := HB5.out.size
            clear hsl4 hin4 o4 hb4 hb6 hA4 hct4 hpl4
            go_wp2_with fail
            go_loopw [12] (fun i wr => ∃ (k : Nat) (yy : List H2), i = .int .i64 k ∧ k ≤ zs.length ∧ Hid (OwnR H2.vals 2 wr w5.heap.size 56 (.slice (some ⟨g8, 0, none⟩) zs.length c4) (yy ++ zs.drop k) ∧ yy.length = k ∧ yy.map H2.ct = (zs.take k).map H2.ct ∧ (∀ y ∈ yy, OwnR i64s 1 wr w6.heap.size 2 (.slice y.A y.pres.length y.c) y.pres) ∧ yy.Pairwise (fun x y => ∀ b, (Value.slice x.A x.pres.length x.c).ownBlock = some b → (Value.slice y.A y.pres.length y.c).ownBlock ≠ some b)) ∧ w6.grownBy wr (some g8)) (fun i wr => zs.length - (intOf i).toNat)
            case atStart => exact ⟨0, [], rfl, Nat.zero_le _, Lib.hid ⟨by simpa using o6, rfl, rfl, fun y hy => (by cases hy), List.Pairwise.nil⟩, World.grownBy.refl _ _⟩
            case round =>
              clear o6
              obtain ⟨k, yy, rfl, hk, HY, hgr⟩ := hrel
              have hsr := hgr.size
              by_cases hlt : k < zs.length
              · obtain ⟨y, hy⟩ := some_at hlt
                have HYk := Lib.hid (at_mid HY.out.2.1 hy)
                have Hy := Lib.hid hy
                have c1 := own_at1 HY.out.1 HYk.out
                have hin := (hin6.out y (List.mem_of_getElem? hy)).grown hgr hs6 (fun g hg => Or.inr (by have := Option.some.inj hg; omega))
                have hpy := HP4.out y (List.mem_of_getElem? hy)
                clear hy
                go_wp2_with fail
                refine (l01OwnS _ y.pres wr 0 (hin.more (Nat.le_refl _) (by omega)) hpy).mono ?_
                rintro e w7 ⟨v', rfl, o7, hb7⟩
                obtain ⟨A', c', rfl⟩ : ∃ A' c', v' = .slice A' y.pres.length c' := by obtain ⟨A', c', e, _⟩ := own_form (OwnR.own o7); exact ⟨A', c', e⟩
                have hlz : (yy ++ zs.drop k).length = zs.length := by rw [List.length_append, List.length_drop, HY.out.2.1]; omega
                obtain ⟨_, ⟨_, g1⟩, _, f1⟩ := row_of (HY.out.1.below hb7) hlz hlt
                clear hlz c1
                have HO7 := Lib.hid o7
                have HB7 := Lib.hid hb7
                have hs7 := hb7.size
                clear o7 hb7
                generalize hpl : y.pres.length = pl at *
                go_wp2_with fail
                subst hpl
                have hset := own_setField (f := H2.vals) (s := 2) (fun _ => rfl) (j := 1) (u := .slice A' y.pres.length c') (x' := ⟨y.day, A', c', y.pres⟩) (HY.out.1.below HB7.out) HYk.out (by omega) rfl
                rw [set_mid HY.out.2.1 _ hlt] at hset
                have hnew : ∀ b, (Value.slice A' y.pres.length c').ownBlock = some b → wr.heap.size ≤ b := fun b hb => (World.ownsRow.lt (OwnR.own HO7.out) b hb).1
                go_roundw
                case rel =>
                  refine ⟨k + 1, yy ++ [⟨y.day, A', c', y.pres⟩], by go_num, hlt, Lib.hid ⟨hset, by rw [List.length_append, HY.out.2.1]; rfl, by rw [take_snoc Hy.out, List.map_append, List.map_append, HY.out.2.2.1]; rfl, fun q hq => ?_, ?_⟩, (grownBy_trans hgr (grownBy_of_below HB7.out)).trans (grownBy_setCell _ _ _)⟩
                  · rcases List.mem_append.1 hq with hq | hq
                    · exact ((HY.out.2.2.2.1 q hq).below HB7.out).setCell _ _ (fun b hb => by have := (World.ownsRow.lt (OwnR.own (HY.out.2.2.2.1 q hq)) b hb).1; show b ≠ g8; omega)
                    · have e := List.mem_singleton.1 hq
                      subst e
                      exact (HO7.out.more hsr).setCell _ _ (fun b hb => by have := hnew b hb; show b ≠ g8; omega)
                  · rw [List.pairwise_append]
                    refine ⟨HY.out.2.2.2.2, List.pairwise_singleton _ _, fun q hq x hx b hb he => ?_⟩
                    have e := List.mem_singleton.1 hx
                    subst e
                    have h1 := (World.ownsRow.lt (OwnR.own (HY.out.2.2.2.1 q hq)) b hb).2
                    have h2 := hnew b he
                    omega
                case measure => simp [intOf]; omega
              · have hkn : k = zs.length := by omega
                subst hkn
                have HBr := Lib.hid (HB6.out.grown hgr HB6.out.size (fun q hq => by have := Option.some.inj hq; omega))
                go_wp2_with fail
                go_ret2
                obtain ⟨y1, y2, y3, y4, y5⟩ := HY.out
                rw [List.drop_of_length_le (Nat.le_refl _), List.append_nil] at y1
                rw [List.take_length, HC4.out] at y3
                have hfin : OwnH wr w5.heap.size (.slice (some ⟨g8, 0, none⟩) zs.length c4) yy := ⟨y1, fun x hx => (y4 x hx).more hs6, y5, fun x hx g hg he => by
                  have h1 := (World.ownsRow.lt (OwnR.own (y4 x hx)) g he).1
                  have h2 : g8 = g := Option.some.inj hg
                  omega⟩
                exact ⟨.slice (some ⟨g8, 0, none⟩) zs.length c4, by rw [HF.out]; rfl, by rw [HF.out]; exact OwH.of (hfin.more hs5) y3, HBr.out⟩


      · obtain ⟨PA, pc, p, hx, hp⟩ := Hfnd.out hf
        have hlt := (List.getElem?_eq_some_iff.1 hx).1
        have hlp : p.length ≤ 60 := hall.out _ (List.mem_of_getElem? hx)
        have HM : Hid (∀ A' c', _) := Lib.hid (fun A' c' => HM1.out A' c' p hf hp)
        have HE0 : Hid ((foundB day (ys.map H2.ct) && hasB n (presAt day (ys.map H2.ct))) = hasB n p) := Lib.hid (by rw [hf, hp]; rfl)
        obtain ⟨b, off, rfl, _, hb, c0, c1, hin⟩ := hsl2.at_ hx
        dsimp only at c0 c1 hin
        clear hx hf hp c0 HM0 HM1 Hno Hfnd
        go_wp2_with fail
        refine (l01Has_any _ p n wc lo B1 hin).mono ?_
        rintro e w3 ⟨rfl, rfl⟩
        have hin2 := hin.more (Nat.le_refl _) hBw
        cases h6 : hasB n p
        · have HE : Hid ((foundB day (ys.map H2.ct) && hasB n (presAt day (ys.map H2.ct))) = false) := Lib.hid (by rw [HE0.out, h6])
          clear h6
          go_wp2_with fail
          refine (l01OwnS _ p wc lo hin2 (by omega)).mono ?_
          rintro e w3 ⟨v3, rfl, o3, hb3⟩
          go_wp2_with fail
          refine (l07Insert_any v3 p n w3 wc.heap.size o3 (by omega) hb3.size).mono ?_
          rintro e w4 ⟨v4, rfl, o4, hb4⟩
          obtain ⟨SA, SC, rfl⟩ : ∃ A' c', v4 = .slice A' (insU n p).length c' := by obtain ⟨A', c', e, _⟩ := own_form (OwnR.own o4); exact ⟨A', c', e⟩
          have bS4 := (bS.below' hb3).below' hb4
          have f1 := bS4.frozen 1
          have g1 := bS4.cell 1
          have hB4 := hb3.trans (hb4.mono hb3.size)
          have hs4 := hB4.size
          have bS5 := bS4.set_ 1 (.slice SA (insU n p).length SC)
          have h5 := ((hsl2.below hB4 hBw).grown (grownBy_setCell w4 ⟨B2, 1, none⟩ (.slice SA (insU n p).length SC)) (by omega) (fun g hg => Or.inr (by have := Option.some.inj hg; dsimp only at this; omega))).more (Nat.le_refl _) (show B1 ≤ (w4.setCell ⟨B2, 1, none⟩ (.slice SA (insU n p).length SC)).heap.size by rw [size_setCell]; omega)
          have hp5 := own_slI (o4.setCell ⟨B2, 1, none⟩ (.slice SA (insU n p).length SC) (fun k hk => by have := (World.ownsRow.lt (OwnR.own o4) k hk).1; show k ≠ B2; omega))
          have HB5 : Hid (Below w.heap.size w (w4.setCell ⟨B2, 1, none⟩ (.slice SA (insU n p).length SC))) := Lib.hid ((HB2.out.trans (hB4.mono HB2.out.size)).trans (below_setCell' _ _ _ (by show w.heap.size ≤ B2; omega)))
          clear o3 o4 hb3 hb4 hB4 bS4 hsl2 hin hin2 c1 bS HB2 hnS
          have hixz1 : ix + 1 ≤ ys.length := hlt
          have HPL : Hid (∀ y ∈ ys.take ix ++ [H2.mk day SA SC (insU n p)] ++ ys.drop (ix + 1), y.pres.length ≤ 2097152) := Lib.hid (mid_all (fun y hy => Nat.le_trans (hall.out y hy) (by decide)) (by show (insU n p).length ≤ _; have := insU_len n p; omega))
          generalize hil : (insU n p).length = il at bS5 h5 HB5 ⊢
          go_upto_region 14 with fail
          subst hil
          generalize w4.setCell ⟨B2, 1, none⟩ (.slice SA (insU n p).length SC) = w5 at *
          clear f1 g1 hs4
          have bS5 : Blk w5 B2 56 #[.int .i64 day, .slice SA (insU n p).length SC] := bS5
          have hil2 := insU_len n p
          generalize hr : ix + 1 = r at *
          have hwq : IntKind.i64.wrap ((ix : Int) + 1) = (r : Int) := by rw [IntWalk.i64_in _ (by omega)]; omega
          clear hr
          obtain ⟨S1, r1, s1⟩ := run_slice_to (P := Try.prog) h5.outer (k := ix) hixz0 26 56 Try.infoH2 Try.underlying26
          obtain ⟨S2, r2, s2⟩ := run_slice_from (P := Try.prog) h5.outer (k := r) hixz1 26 56 Try.infoH2 Try.underlying26
          have l1 : (ys.take ix).length ≤ 15 := by rw [List.length_take]; omega
          have l2 : (ys.drop r).length ≤ 15 := by rw [List.length_drop]; omega
          have KS : Hid (∀ W, Below w5.heap.size w5 W → W.cell? ⟨B2, 0, none⟩ = some (.int .i64 day) ∧ W.cell? ⟨B2, 1, none⟩ = some (.slice SA (insU n p).length SC)) := Lib.hid fun W hW => ⟨(bS5.below' hW).cell 0, (bS5.below' hW).cell 1⟩
          obtain ⟨k0, k1⟩ := KS.out _ (Below.refl _ _)
          go_upto_region 15 with fail
          go_cut [11] (fun v4 wx => OwnR H2.vals 2 wx w5.heap.size 56 v4 (ys.take ix ++ [(H2.mk day SA SC (insU n p))] ++ ys.drop r) ∧ Below w5.heap.size w5 wx)
          case first =>
            have hAA : Below w5.heap.size w5 ((w5.alloc (.cells #[] 56)).drew) := (((Below.refl _ _).alloc (Nat.le_refl _) _)).drew
            have hAB : Below w5.heap.size w5 (((w5.alloc (.cells #[] 56)).alloc (.cells #[.int .i64 day, .slice SA (insU n p).length SC] 56)).drew) := ((((Below.refl _ _).alloc (Nat.le_refl _) _)).alloc (by simp) _).drew
            have hAC : Below w5.heap.size w5 (((w5.alloc (.cells #[.int .i64 day, .slice SA (insU n p).length SC] 56)).alloc (.cells #[] 56)).drew) := ((((Below.refl _ _).alloc (Nat.le_refl _) _)).alloc (by simp) _).drew
            have oA : OwnR H2.vals 2 ((w5.alloc (.cells #[] 56)).drew) w5.heap.size 56 (.slice (some ⟨w5.heap.size, 0, none⟩) 0 0) ([] : List _) := (own_empty w5 _ 2 H2.vals).drew
            have oB : OwnR H2.vals 2 (((w5.alloc (.cells #[] 56)).alloc (.cells #[.int .i64 day, .slice SA (insU n p).length SC] 56)).drew) w5.heap.size 56 (.slice (some ⟨w5.heap.size, 0, none⟩) 0 0) ([] : List _) := ((own_empty w5 _ 2 H2.vals).alloc _).drew
            have tB : SlR H2.vals 2 (((w5.alloc (.cells #[] 56)).alloc (.cells #[.int .i64 day, .slice SA (insU n p).length SC] 56)).drew) (w5.heap.size + 1) (w5.heap.size + 1 + 1) (.slice (some ⟨w5.heap.size + 1, 0, none⟩) 1 1) [(H2.mk day SA SC (insU n p))] := by have := (rec_sl (f := H2.vals) (s := 2) (fun _ => rfl) (w5.alloc (.cells #[] 56)) 56 (cx := #[.int .i64 day, .slice SA (insU n p).length SC]) (x := (H2.mk day SA SC (insU n p))) rfl).drew; simpa using this
            have oC : OwnR H2.vals 2 (((w5.alloc (.cells #[.int .i64 day, .slice SA (insU n p).length SC] 56)).alloc (.cells #[] 56)).drew) w5.heap.size 56 (.slice (some ⟨w5.heap.size + 1, 0, none⟩) 0 0) ([] : List _) := by have := ((own_empty (w5.alloc (.cells #[.int .i64 day, .slice SA (insU n p).length SC] 56)) 56 2 H2.vals).drew).more (base' := w5.heap.size) (by simp); simpa using this
            have tC : SlR H2.vals 2 (((w5.alloc (.cells #[.int .i64 day, .slice SA (insU n p).length SC] 56)).alloc (.cells #[] 56)).drew) w5.heap.size (w5.heap.size + 1) (.slice (some ⟨w5.heap.size, 0, none⟩) 1 1) [(H2.mk day SA SC (insU n p))] := ((rec_sl (f := H2.vals) (s := 2) (fun _ => rfl) w5 56 (cx := #[.int .i64 day, .slice SA (insU n p).length SC]) (x := (H2.mk day SA SC (insU n p))) rfl).alloc (by simp) _).drew
            have zTB : w5.heap.size + 1 + 1 ≤ (((w5.alloc (.cells #[] 56)).alloc (.cells #[.int .i64 day, .slice SA (insU n p).length SC] 56)).drew).heap.size := by simp
            have zTC : w5.heap.size + 1 + 1 ≤ (((w5.alloc (.cells #[.int .i64 day, .slice SA (insU n p).length SC] 56)).alloc (.cells #[] 56)).drew).heap.size := by simp
            have hAD : Below w5.heap.size w5 ((w5.alloc (.cells #[.int .i64 day, .slice SA (insU n p).length SC] 56)).drew) := ((Below.refl _ _).alloc (Nat.le_refl _) _).drew
            go_region_held3 (fun w' => w'.cell? ⟨B2, 0, none⟩ = some (.int .i64 day) ∧ w'.cell? ⟨B2, 1, none⟩ = some (.slice SA (insU n p).length SC)) (first | exact KS.out _ hAA | exact KS.out _ hAB | exact KS.out _ hAC | exact KS.out _ hAD | exact KS.out _ ((Below.refl _ _).drew) | exact KS.out _ hb3 | exact KS.out _ hb2 | exact KS.out _ (hb2.alloc z2 _) | exact KS.out _ hb4 | go_keep) (first
              | ((with_reducible refine at_world ((w5.alloc (.cells #[] 56)).drew) ?_); refine step_append_sl (f := H2.vals) (s := 2) ((w5.alloc (.cells #[] 56)).drew) (fun _ => rfl) oneCell_H2 (by rfl) _ _ 26 (by rfl) w5.heap.size 56 Try.infoH2 Try.underlying26 rfl (by decide) _ ([] : List _) (ys.take ix) _ lo _ (by rfl) oA (by rfl) (s1.below hAA (Nat.le_refl _)) (by simp; omega) (by simp; omega) (by simp; try omega) ?_; intro v2 w2 o2 hB2 hg2; have hb2 := hB2 _ _ hAA (Nat.le_refl _); have z2 := hb2.size)
              | ((with_reducible refine at_world (((w5.alloc (.cells #[] 56)).alloc (.cells #[.int .i64 day, .slice SA (insU n p).length SC] 56)).drew) ?_); refine step_append_sl (f := H2.vals) (s := 2) (((w5.alloc (.cells #[] 56)).alloc (.cells #[.int .i64 day, .slice SA (insU n p).length SC] 56)).drew) (fun _ => rfl) oneCell_H2 (by rfl) _ _ 26 (by rfl) w5.heap.size 56 Try.infoH2 Try.underlying26 rfl (by decide) _ ([] : List _) (ys.take ix) _ lo _ (by rfl) oB (by rfl) (s1.below hAB (Nat.le_refl _)) (by simp; omega) (by simp; omega) (by simp; try omega) ?_; intro v2 w2 o2 hB2 hg2; have hb2 := hB2 _ _ hAB (Nat.le_refl _); have z2 := hb2.size; have t2 := tB.grown hg2 zTB (by intro q hq; have hq := Option.some.inj hq; dsimp only at hq; omega); have zt2 : w5.heap.size + 1 + 1 ≤ w2.heap.size := Nat.le_trans zTB hg2.size)
              | ((with_reducible refine at_world (((w5.alloc (.cells #[.int .i64 day, .slice SA (insU n p).length SC] 56)).alloc (.cells #[] 56)).drew) ?_); refine step_append_sl (f := H2.vals) (s := 2) (((w5.alloc (.cells #[.int .i64 day, .slice SA (insU n p).length SC] 56)).alloc (.cells #[] 56)).drew) (fun _ => rfl) oneCell_H2 (by rfl) _ _ 26 (by rfl) w5.heap.size 56 Try.infoH2 Try.underlying26 rfl (by decide) _ ([] : List _) (ys.take ix) _ lo _ (by rfl) oC (by rfl) (s1.below hAC (Nat.le_refl _)) (by simp; omega) (by simp; omega) (by simp; try omega) ?_; intro v2 w2 o2 hB2 hg2; have hb2 := hB2 _ _ hAC (Nat.le_refl _); have z2 := hb2.size; have t2 := tC.grown hg2 (Nat.le_trans (Nat.le_succ _) zTC) (by intro q hq; have hq := Option.some.inj hq; dsimp only at hq; omega); have zt2 : w5.heap.size + 1 ≤ w2.heap.size := Nat.le_trans (Nat.le_trans (Nat.le_succ _) zTC) hg2.size)
              | ((with_reducible refine at_world w2 ?_); refine step_append_sl (f := H2.vals) (s := 2) w2 (fun _ => rfl) oneCell_H2 (by rfl) _ _ 26 (by rfl) w5.heap.size 56 Try.infoH2 Try.underlying26 rfl (by decide) _ _ [(H2.mk day SA SC (insU n p))] _ _ _ (by rfl) o2 (by rfl) t2 (by simp; omega) (by simp; omega) z2 ?_; intro v3 w3 o3 hB3 hg3; have hb3 := hB3 _ _ hb2 (Nat.le_refl _); have z3 := hb3.size)
              | ((with_reducible refine at_world (w2.alloc (.cells #[.int .i64 day, .slice SA (insU n p).length SC] 56)) ?_); refine step_append_sl (f := H2.vals) (s := 2) (w2.alloc (.cells #[.int .i64 day, .slice SA (insU n p).length SC] 56)) (fun _ => rfl) oneCell_H2 (by rfl) _ _ 26 (by rfl) w5.heap.size 56 Try.infoH2 Try.underlying26 rfl (by decide) _ _ [(H2.mk day SA SC (insU n p))] _ _ _ (by rfl) (o2.alloc _) (by rfl) (rec_sl (f := H2.vals) (s := 2) (fun _ => rfl) w2 56 (cx := #[.int .i64 day, .slice SA (insU n p).length SC]) (x := (H2.mk day SA SC (insU n p))) rfl) (by simp; omega) (by simp; omega) (Nat.le_trans z2 (by simp)) ?_; intro v3 w3 o3 hB3 hg3; have hb3 := hB3 _ _ (hb2.alloc z2 _) (Nat.le_refl _); have z3 := hb3.size)
              | ((with_reducible refine at_world w3 ?_); refine step_append_sl (f := H2.vals) (s := 2) w3 (fun _ => rfl) oneCell_H2 (by rfl) _ _ 26 (by rfl) w5.heap.size 56 Try.infoH2 Try.underlying26 rfl (by decide) _ _ (ys.drop r) _ lo _ (by rfl) o3 (by rfl) (s2.below hb3 (Nat.le_refl _)) (by simp; omega) (by simp; omega) z3 ?_; intro v4 w4 o4 hB4 hg4; have hb4 := hB4 _ _ hb3 (Nat.le_refl _); have z4 := hb4.size))
            all_goals (go_wp2_with fail; go_meet; exact ⟨o4, hb4⟩)
          case rest =>
            obtain ⟨o4, hb4⟩ := hcut
            obtain ⟨v4, rfl⟩ : ∃ x : Value, x = u11 := ⟨_, rfl⟩
            obtain ⟨w4, rfl⟩ : ∃ w4 : World, w4 = wc := ⟨_, rfl⟩
            have hpl4 := HPL.out
            clear HPL
            clear k0 k1 KS r1 r2 s1 s2
            have hin4 : ∀ y ∈ ys.take ix ++ [(H2.mk day SA SC (insU n p))] ++ ys.drop r, SlI w4 0 w5.heap.size (.slice y.A y.pres.length y.c) y.pres := by
              intro y hy
              have : y ∈ ys ∨ y = (H2.mk day SA SC (insU n p)) := by
                rcases List.mem_append.1 hy with hy | hy
                · rcases List.mem_append.1 hy with hy | hy
                  · exact Or.inl (List.mem_of_mem_take hy)
                  · exact Or.inr (List.mem_singleton.1 hy)
                · exact Or.inl (List.mem_of_mem_drop hy)
              rcases this with hy | rfl
              · exact ((h5.inner y hy).below hb4 (Nat.le_refl _)).more (Nat.zero_le _) (Nat.le_refl _)
              · exact (hp5.below hb4 (Nat.le_refl _)).more (Nat.zero_le _) (Nat.le_refl _)
            have hct4 : (ys.take ix ++ [(H2.mk day SA SC (insU n p))] ++ ys.drop r).map H2.ct = marked day n (ys.map H2.ct) := HM.out _ _
            have hlen4 : (ys.take ix ++ [(H2.mk day SA SC (insU n p))] ++ ys.drop r).length ≤ 31 := by simp only [List.length_append, List.length_singleton]; omega
            have hne4 : 0 < (ys.take ix ++ [(H2.mk day SA SC (insU n p))] ++ ys.drop r).length := by simp only [List.length_append, List.length_singleton]; omega
            generalize ys.take ix ++ [(H2.mk day SA SC (insU n p))] ++ ys.drop r = zs at *
            have hsl4 : SlH w4 0 w4.heap.size v4 zs := ⟨(own_slR (f := H2.vals) (s := 2) (fun _ => rfl) (OwnR.own o4)).more (Nat.zero_le _) (Nat.le_refl _), fun y hy => (hin4 y hy).more (Nat.le_refl _) hb4.size⟩
            go_wp2_with fail
            refine (specAreSheets_z v4 (marked day n (ys.map H2.ct)) w4 0 ⟨zs, hsl4, hct4⟩).mono ?_
            rintro e w6 ⟨rfl, hb6⟩
            have HB6 := Lib.hid ((HB5.out.trans (hb4.mono HB5.out.size)).trans (hb6.mono (Nat.le_trans HB5.out.size hb4.size)))
            cases h7 : sheetsOk (marked day n (ys.map H2.ct))
            · have hF : markF (ys.map H2.ct) day n = ([], 3) := by simp only [markF]; rw [if_pos H1.out, if_pos h23.out, if_neg (by rw [HE.out]; simp), h7]; rfl
              go_wp2_with fail
              go_ret2
              exact ⟨.slice none 0 0, by rw [hF]; rfl, by rw [hF]; exact OwH.nil _ _ _, HB6.out⟩
            · have HF : Hid (markF (ys.map H2.ct) day n = (marked day n (ys.map H2.ct), 0)) := Lib.hid (by simp only [markF]; rw [if_pos H1.out, if_pos h23.out, if_neg (by rw [HE.out]; simp), if_pos h7])
              have o6 := o4.below hb6
              have hs6 : w5.heap.size ≤ w6.heap.size := Nat.le_trans hb4.size hb6.size
              obtain ⟨A4, c4, rfl, hc41, hc42, hA4⟩ := own_form (OwnR.own o6)
              obtain ⟨g8, rfl, hg1, hg2⟩ := hA4 hne4
              have hin6 : Hid (∀ y ∈ zs, SlI w6 0 w5.heap.size (.slice y.A y.pres.length y.c) y.pres) := Lib.hid (fun y hy => (hin4 y hy).below hb6 (hb4.size))
              have HC4 := Lib.hid hct4
              have HP4 := Lib.hid hpl4
              have hs5 := HB5.out.size
              clear hsl4 hin4 o4 hb4 hb6 hA4 hct4 hpl4
              go_wp2_with fail
              go_loopw [12] (fun i wr => ∃ (k : Nat) (yy : List H2), i = .int .i64 k ∧ k ≤ zs.length ∧ Hid (OwnR H2.vals 2 wr w5.heap.size 56 (.slice (some ⟨g8, 0, none⟩) zs.length c4) (yy ++ zs.drop k) ∧ yy.length = k ∧ yy.map H2.ct = (zs.take k).map H2.ct ∧ (∀ y ∈ yy, OwnR i64s 1 wr w6.heap.size 2 (.slice y.A y.pres.length y.c) y.pres) ∧ yy.Pairwise (fun x y => ∀ b, (Value.slice x.A x.pres.length x.c).ownBlock = some b → (Value.slice y.A y.pres.length y.c).ownBlock ≠ some b)) ∧ w6.grownBy wr (some g8)) (fun i wr => zs.length - (intOf i).toNat)
              case atStart => exact ⟨0, [], rfl, Nat.zero_le _, Lib.hid ⟨by simpa using o6, rfl, rfl, fun y hy => (by cases hy), List.Pairwise.nil⟩, World.grownBy.refl _ _⟩
              case round =>
                clear o6
                obtain ⟨k, yy, rfl, hk, HY, hgr⟩ := hrel
                have hsr := hgr.size
                by_cases hlt : k < zs.length
                · obtain ⟨y, hy⟩ := some_at hlt
                  have HYk := Lib.hid (at_mid HY.out.2.1 hy)
                  have Hy := Lib.hid hy
                  have c1 := own_at1 HY.out.1 HYk.out
                  have hin := (hin6.out y (List.mem_of_getElem? hy)).grown hgr hs6 (fun g hg => Or.inr (by have := Option.some.inj hg; omega))
                  have hpy := HP4.out y (List.mem_of_getElem? hy)
                  clear hy
                  go_wp2_with fail
                  refine (l01OwnS _ y.pres wr 0 (hin.more (Nat.le_refl _) (by omega)) hpy).mono ?_
                  rintro e w7 ⟨v', rfl, o7, hb7⟩
                  obtain ⟨A', c', rfl⟩ : ∃ A' c', v' = .slice A' y.pres.length c' := by obtain ⟨A', c', e, _⟩ := own_form (OwnR.own o7); exact ⟨A', c', e⟩
                  have hlz : (yy ++ zs.drop k).length = zs.length := by rw [List.length_append, List.length_drop, HY.out.2.1]; omega
                  obtain ⟨_, ⟨_, g1⟩, _, f1⟩ := row_of (HY.out.1.below hb7) hlz hlt
                  clear hlz c1
                  have HO7 := Lib.hid o7
                  have HB7 := Lib.hid hb7
                  have hs7 := hb7.size
                  clear o7 hb7
                  generalize hpl : y.pres.length = pl at *
                  go_wp2_with fail
                  subst hpl
                  have hset := own_setField (f := H2.vals) (s := 2) (fun _ => rfl) (j := 1) (u := .slice A' y.pres.length c') (x' := ⟨y.day, A', c', y.pres⟩) (HY.out.1.below HB7.out) HYk.out (by omega) rfl
                  rw [set_mid HY.out.2.1 _ hlt] at hset
                  have hnew : ∀ b, (Value.slice A' y.pres.length c').ownBlock = some b → wr.heap.size ≤ b := fun b hb => (World.ownsRow.lt (OwnR.own HO7.out) b hb).1
                  go_roundw
                  case rel =>
                    refine ⟨k + 1, yy ++ [⟨y.day, A', c', y.pres⟩], by go_num, hlt, Lib.hid ⟨hset, by rw [List.length_append, HY.out.2.1]; rfl, by rw [take_snoc Hy.out, List.map_append, List.map_append, HY.out.2.2.1]; rfl, fun q hq => ?_, ?_⟩, (grownBy_trans hgr (grownBy_of_below HB7.out)).trans (grownBy_setCell _ _ _)⟩
                    · rcases List.mem_append.1 hq with hq | hq
                      · exact ((HY.out.2.2.2.1 q hq).below HB7.out).setCell _ _ (fun b hb => by have := (World.ownsRow.lt (OwnR.own (HY.out.2.2.2.1 q hq)) b hb).1; show b ≠ g8; omega)
                      · have e := List.mem_singleton.1 hq
                        subst e
                        exact (HO7.out.more hsr).setCell _ _ (fun b hb => by have := hnew b hb; show b ≠ g8; omega)
                    · rw [List.pairwise_append]
                      refine ⟨HY.out.2.2.2.2, List.pairwise_singleton _ _, fun q hq x hx b hb he => ?_⟩
                      have e := List.mem_singleton.1 hx
                      subst e
                      have h1 := (World.ownsRow.lt (OwnR.own (HY.out.2.2.2.1 q hq)) b hb).2
                      have h2 := hnew b he
                      omega
                  case measure => simp [intOf]; omega
                · have hkn : k = zs.length := by omega
                  subst hkn
                  have HBr := Lib.hid (HB6.out.grown hgr HB6.out.size (fun q hq => by have := Option.some.inj hq; omega))
                  go_wp2_with fail
                  go_ret2
                  obtain ⟨y1, y2, y3, y4, y5⟩ := HY.out
                  rw [List.drop_of_length_le (Nat.le_refl _), List.append_nil] at y1
                  rw [List.take_length, HC4.out] at y3
                  have hfin : OwnH wr w5.heap.size (.slice (some ⟨g8, 0, none⟩) zs.length c4) yy := ⟨y1, fun x hx => (y4 x hx).more hs6, y5, fun x hx g hg he => by
                    have h1 := (World.ownsRow.lt (OwnR.own (y4 x hx)) g he).1
                    have h2 : g8 = g := Option.some.inj hg
                    omega⟩
                  exact ⟨.slice (some ⟨g8, 0, none⟩) zs.length c4, by rw [HF.out]; rfl, by rw [HF.out]; exact OwH.of (hfin.more hs5) y3, HBr.out⟩

        · have HF : Hid (markF (ys.map H2.ct) day n = ([], 5)) := Lib.hid (by simp only [markF]; rw [if_pos H1.out, if_pos h23.out, if_pos (by rw [HE0.out, h6])])
          go_wp2_with fail
          go_ret2
          exact ⟨.slice none 0 0, by rw [HF.out]; rfl, by rw [HF.out]; exact OwH.nil _ _ _, HB2.out⟩
end Go.Proofs.Ytbboihodikhhkaa
