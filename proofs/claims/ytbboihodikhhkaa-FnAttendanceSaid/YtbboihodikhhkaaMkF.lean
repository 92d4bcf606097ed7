/- impl.MarkPresent: contract. No condition but the sizes that the law itself asks. -/
import Derived.Test.YtbboihodikhhkaaMkE
namespace Go.Proofs.Ytbboihodikhhkaa
open Go.RowKit
attribute [local go_sem ↓] Go.wp_at_zero Go.wp_at_succ

theorem insH_any (g h n k : Nat) (cs : List H2) (x : H2) (day : Int) (sv : Value) (w : World) (base : Nat) (hn : cs.length = n) (hk : k ≤ n) (hn2 : n ≤ 1048576) (hown : OwnR H2.vals 2 w base 56 (.slice (some ⟨g, 0, none⟩) n (n + 1)) cs) (hb : Blk w h 56 #[.int .i64 day, sv]) (hx : H2.vals x = [.int .i64 day, sv]) (hgh : h ≠ g) :
    Calls Try.prog 49 #[.slice (some ⟨g, 0, none⟩) n (n + 1), .int .i64 (k : Int), .slice (some ⟨h, 0, none⟩) 1 1] w fun e w' => e = .returned (.slice (some ⟨g, 0, none⟩) (n + 1) (n + 1)) ∧ OwnR H2.vals 2 w' base 56 (.slice (some ⟨g, 0, none⟩) (n + 1) (n + 1)) (cs.take k ++ [x] ++ cs.drop k) ∧ w.grownBy w' (some g) := by
  rcases Nat.lt_or_ge k n with hlt | hge
  · exact insH_shift g h n k cs x day sv w base hn hlt hn2 hown hb hx hgh
  · obtain rfl : k = n := by omega
    rw [List.take_of_length_le (by omega), List.drop_of_length_le (by omega), List.append_nil]
    exact insH_end g h k cs x day sv w base hn hn2 hown hb hx

theorem SlH.outer_at {w : World} {lo hi : Nat} {g n c k : Nat} {y : H2} {ys : List H2} (h : SlH w lo hi (.slice (some ⟨g, 0, none⟩) n c) ys) (hy : ys[k]? = some y) :
    w.cell? ⟨g, k * 2, none⟩ = some (.int .i64 y.day) ∧ w.cell? ⟨g, k * 2 + 1, none⟩ = some (.slice y.A y.pres.length y.c) := by
  obtain ⟨b, off, e, _, _, c0, c1, _⟩ := h.at_ hy
  injection e with e
  injection e with e1 e2
  subst e1 e2
  rw [Nat.zero_add] at c0 c1
  exact ⟨c0, c1⟩
theorem row_of {w : World} {base : Nat} {e : TypeId} {g n c : Nat} {ys : List H2} (h : OwnR H2.vals 2 w base e (.slice (some ⟨g, 0, none⟩) n c) ys) (hl : ys.length = n) {k : Nat} (hk : k < n) :
    (∃ u, w.cell? ⟨g, k * 2, none⟩ = some u) ∧ (∃ u, w.cell? ⟨g, k * 2 + 1, none⟩ = some u) ∧ w.frozen? ⟨g, k * 2, none⟩ = false ∧ w.frozen? ⟨g, k * 2 + 1, none⟩ = false := by
  subst hl
  exact own_rowH2 (OwnR.own h) hk
theorem num_sl (w : World) (n : Int) : SlR i64s 1 (w.alloc (.cells #[.int .i64 n] 2)) w.heap.size (w.heap.size + 1) (.slice (some ⟨w.heap.size, 0, none⟩) 1 1) [n] := by
  refine ⟨fun _ => rfl, some ⟨w.heap.size, 0, none⟩, 1, rfl, Nat.le_refl _, by unfold maxLen; omega, rfl, fun _ => ⟨w.heap.size, 0, rfl, Nat.le_refl _, by omega, fun j u hu => ?_⟩⟩
  have := cell_of_row (w.alloc (.cells #[.int .i64 n] 2)) w.heap.size (0 + j) #[.int .i64 n] 2 (0, 0) (heap_alloc_new w _)
  rw [this, Nat.zero_add, ← Array.getElem?_toList]
  simpa [i64s] using hu
theorem below_setCell' (w : World) (p : Addr) (u : Value) {B : Nat} (h : B ≤ p.block) : Below B w (w.setCell p u) := by
  have hg := grownBy_setCell w p u
  exact ⟨hg.os, hg.tape, hg.output, hg.size, fun k hk => Below.heap_setCell w p u k (by omega)⟩

/-- The list that is changed. -/
theorem marked_there {z : List (Int × List Int)} {day n : Int} {ys : List H2} {ix : Nat} {y : H2} (hct : ys.map H2.ct = z) (hix : ltLen day z = ix) (hf : foundB day z = true) (hy : ys[ix]? = some y) (hd : y.day = day) (hp : y.pres = presAt day z) (A' : Option Addr) (c' : Nat) :
    (ys.set ix (H2.mk y.day A' c' (insU n y.pres))).map H2.ct = marked day n z := by
  have hlt : ix < ys.length := (List.getElem?_eq_some_iff.1 hy).1
  subst hct hix
  simp only [marked, putDay, hf, if_true]
  rw [List.map_set, List.set_eq_take_append_cons_drop, if_pos (by rw [List.length_map]; exact hlt), List.append_assoc, hp, hd]
  rfl
theorem marked_new {z : List (Int × List Int)} {day n : Int} {ys : List H2} {ix : Nat} (hct : ys.map H2.ct = z) (hix : ltLen day z = ix) (hf : foundB day z = false) (A' : Option Addr) (c' : Nat) :
    ((ys.take ix ++ [H2.mk day none 0 []] ++ ys.drop ix).set ix (H2.mk day A' c' (insU n []))).map H2.ct = marked day n z := by
  have hl := ltLen_le day z
  have hlt : (ys.take ix).length = ix := by rw [List.length_take]; subst hct hix; rw [List.length_map] at hl; omega
  subst hct hix
  simp only [marked, putDay, hf, Bool.false_eq_true, if_false]
  rw [List.append_assoc, List.set_append_right _ _ (by rw [hlt]; exact Nat.le_refl _), hlt, Nat.sub_self]
  simp [H2.ct, List.map_take, List.map_drop]
theorem at_new {ys : List H2} {ix : Nat} (x : H2) (h : ix ≤ ys.length) : (ys.take ix ++ [x] ++ ys.drop ix)[ix]? = some x := by
  have hlt : (ys.take ix).length = ix := by rw [List.length_take]; omega
  rw [List.append_assoc, List.getElem?_append_right (by omega), hlt, Nat.sub_self]
  rfl

theorem found_H2 {z : List (Int × List Int)} {day : Int} {ys : List H2} {ix : Nat} (hct : ys.map H2.ct = z) (hix : ltLen day z = ix) (hf : foundB day z = true) :
    ∃ PA pc p, ys[ix]? = some ⟨day, PA, pc, p⟩ ∧ p = presAt day z := by
  obtain ⟨x, h1, h2, h3⟩ := found_at day z hf
  rw [hix, ← hct, List.getElem?_map] at h1
  cases ey : ys[ix]? with
  | none => rw [ey] at h1; cases h1
  | some y =>
    rw [ey] at h1
    have h1 : y.ct = x := Option.some.inj h1
    subst h1
    obtain ⟨yd, PA, pc, p⟩ := y
    have h2 : yd = day := h2
    subst h2
    exact ⟨PA, pc, p, rfl, h3⟩

set_option maxRecDepth 100000 in
set_option maxHeartbeats 8000000 in
theorem implMarkPresent_any (v : Value) (z : List (Int × List Int)) (day n : Int) (w : World) (lo : Nat) (h : RdH w lo w.heap.size v z) :
    Calls Try.prog 13 #[v, .int .i64 day, .int .i64 n] w fun e w' => ∃ v', e = .returned (.tuple #[v', .int .i64 (markF z day n).2]) ∧ OwH w' w.heap.size w'.heap.size v' (markF z day n).1 ∧ Below w.heap.size w w' := by
  go_enter Try.func13, Try.ntmps13
  go_wp2_with fail
  refine (implAreSheets_z v z w lo h).mono ?_
  rintro e w1 ⟨rfl, hb1⟩
  have h1' := (h.below hb1 (Nat.le_refl _)).more (Nat.le_refl _) hb1.size
  cases h1 : sheetsOk z
  · have hF : markF z day n = ([], 1) := by simp [markF, h1]
    go_wp2_with fail
    go_ret2
    exact ⟨.slice none 0 0, by rw [hF]; rfl, by rw [hF]; exact OwH.nil _ _ _, hb1⟩
  cases h2 : inB day 0 20000
  · have hF : markF z day n = ([], 2) := by simp [markF, h1, h2]
    go_wp2_with (first | (go_at_call 45; refine (isDay_any _ _).mono ?_; rintro e w' ⟨rfl, rfl⟩))
    go_ret2
    exact ⟨.slice none 0 0, by rw [hF]; rfl, by rw [hF]; exact OwH.nil _ _ _, hb1⟩
  cases h3 : inB n 1 1000000
  · have hF : markF z day n = ([], 2) := by simp [markF, h1, h2, h3]
    go_wp2_with (first | (go_at_call 45; refine (isDay_any _ _).mono ?_; rintro e w' ⟨rfl, rfl⟩) | (go_at_call 46; refine (isNumber_any _ _).mono ?_; rintro e w' ⟨rfl, rfl⟩))
    go_ret2
    exact ⟨.slice none 0 0, by rw [hF]; rfl, by rw [hF]; exact OwH.nil _ _ _, hb1⟩
  have h23 : (inB day 0 20000 && inB n 1 1000000) = true := by rw [h2, h3]; rfl
  have hzl := sheetsOk_len h1
  go_wp2_with (first | (go_at_call 45; refine (isDay_any _ _).mono ?_; rintro e w' ⟨rfl, rfl⟩) | (go_at_call 46; refine (isNumber_any _ _).mono ?_; rintro e w' ⟨rfl, rfl⟩) | (go_at_call 47; refine (copySheets_any v z w1 lo h1' (by omega) (fun x hx => ?hp)).mono ?_))
  case hp =>
    simp only [sheetsOk, Bool.and_eq_true] at h1
    have := (sheetsGo_rises z none h1.1).2.2 x hx
    simp only [okH, Bool.and_eq_true, decide_eq_true_eq] at this
    omega
  rintro e w2 ⟨ys, rfl, og, hct, hb2⟩
  have OM := og.toM
  have Hct := Lib.hid hct
  have hgw := hb1.size
  have HB2 := Lib.hid (hb1.trans (hb2.mono hb1.size))
  clear og h1' hb2 hct
  have hgl := OM.lt
  generalize hgg : w1.heap.size = gg at *
  generalize hm : z.length = m at *
  have Hm := Lib.hid hm
  clear hgg hm hb1
  go_wp2_with fail
  refine (sheetOf_any _ z day w2 gg ⟨ys, OM.sl, Hct.out⟩).mono ?_
  rintro e w3 ⟨rfl, hb3⟩
  have OM3 := OM.below hb3
  have HB3 := Lib.hid (HB2.out.trans (hb3.mono HB2.out.size))
  have hixz := ltLen_le day z
  rw [Hm.out] at hixz
  clear OM hgl
  generalize hix : ltLen day z = ix at *
  have Hix := Lib.hid hix
  clear hix hb3
  have h23' := Lib.hid h23
  cases h4 : foundB day z
  · have H4 := Lib.hid h4
    have hg3 := OM3.lt
    go_wp2_with fail
    refine (insH_any gg w3.heap.size m ix ys ⟨day, none, 0, []⟩ day (.slice none 0 0) _ gg OM3.len hixz (by omega) (OM3.outer.alloc _) (Blk.new w3 _ _) rfl (by omega)).mono ?_
    rintro e w4 ⟨rfl, o4, g4⟩
    have HOM := Lib.hid ((OM3.alloc _).insert g4 rfl hixz o4)
    have hs3 := HB3.out.size
    have HB4 : Hid (Below w.heap.size w w4) := Lib.hid ((HB3.out.alloc hs3 _).grown g4 (by simp; omega) (fun q hq => by have := Option.some.inj hq; omega))
    have HY := Lib.hid (at_new (ys := ys) (ix := ix) ⟨day, none, 0, []⟩ (by rw [OM3.len]; exact hixz))
    have HM : Hid (∀ A' c', _) := Lib.hid (marked_new (n := n) Hct.out Hix.out h4)
    have HE : Hid (hasB n [] = (foundB day z && hasB n (presAt day z))) := Lib.hid (by rw [h4]; rfl)
    have HU : Hid (([] : List Int).Pairwise (· < ·)) := Lib.hid List.Pairwise.nil
    have HL : Hid (([] : List Int).length ≤ 60) := Lib.hid (by simp)
    have HC : Hid (Value.slice none ([] : List Int).length 0 = .slice none ([] : List Int).length ([] : List Int).length) := Lib.hid rfl
    have hixm : ix < m + 1 := by omega
    obtain ⟨c0, c1⟩ := (HOM.out.sl).outer_at HY.out
    have hin := (HOM.out.sl).inner _ (List.mem_of_getElem? HY.out)
    have hsw := HB4.out.size
    clear o4 g4 OM3 h4 hs3
    go_wp2_with fail
    refine (search_any _ ([] : List Int) n w4 gg _ hin (Nat.le_refl _) HU.out (by have := HL.out; omega)).mono ?_
    rintro e w5 ⟨rfl, hb5⟩
    have HB5 := Lib.hid (HB4.out.trans (hb5.mono HB4.out.size))
    have HOM5 := Lib.hid (HOM.out.below hb5)
    clear hin c0 c1
    have c1 := ((HOM5.out.sl).outer_at HY.out).2
    have hs5 : gg < w5.heap.size := HOM5.out.lt
    clear hb5
    cases h6 : hasB n ([] : List Int)
    · have HH := Lib.hid h6
      clear h6
      go_wp2_with fail
      refine (insI_at (.slice none ([] : List Int).length 0) none w5.heap.size ([] : List Int).length (placeI n ([] : List Int)) ([] : List Int) n _ (gg + 1) w5.heap.size (w5.heap.size + 1) HC.out rfl (placeI_le n ([] : List Int)) (by have := HL.out; omega) ((HOM5.out.inner _ (List.mem_of_getElem? HY.out)).1.alloc _) (num_sl w5 n) (by simp) (by simp; omega)).mono ?_
      rintro e w6 ⟨v', rfl, o6, g6, hat⟩
      rw [← insU_new n ([] : List Int) _ rfl (fun e => by have e2 := HH.out; rw [(hasB_iff n ([] : List Int)).2 (List.mem_of_getElem? e)] at e2; cases e2)] at o6
      obtain ⟨A', c', rfl⟩ : ∃ A' c', v' = .slice A' (insU n ([] : List Int)).length c' := by obtain ⟨A', c', e, _⟩ := own_form (OwnR.own o6); exact ⟨A', c', e⟩
      have ho6 := (HOM5.out.alloc (.cells #[.int .i64 n] 2)).put HY.out o6 g6 (hat.imp id (fun e => ⟨_, e, Nat.le_refl _⟩))
      have hgg6 := ((HOM5.out.alloc (.cells #[.int .i64 n] 2)).outer.grown' g6 (fun a b ha hb => by
        have h1 := (World.ownsRow.lt (OwnR.own (HOM5.out.inner _ (List.mem_of_getElem? HY.out)).1) a ha).1
        have h2 : gg = b := Option.some.inj hb
        omega))
      obtain ⟨⟨_, g0⟩, ⟨_, g1⟩, f0, f1⟩ := row_of hgg6 HOM5.out.len hixm
      have hB6 : Below w.heap.size w w6 := (HB5.out.alloc (HB5.out.size) _).grown g6 (by simp; have := HB5.out.size; omega) (fun q hq => by have := (World.ownsRow.lt (OwnR.own (HOM5.out.inner _ (List.mem_of_getElem? HY.out)).1) q hq).1; omega)
      have HO6 := Lib.hid ho6
      have HB6 := Lib.hid hB6
      have hsz6 := hB6.size
      clear o6 g6 hat hgg6 ho6 hB6 g0
      generalize hnv : (insU n ([] : List Int)).length = nl at *
      clear hnv
      go_wp2_with fail
      refine (implAreSheets_z _ (marked day n z) _ gg ⟨_, HO6.out.sl, HM.out _ _⟩).mono ?_
      rintro e w7 ⟨rfl, hb7⟩
      have HO7 := Lib.hid (HO6.out.below hb7)
      have HB7 := Lib.hid ((HB6.out.trans (below_setCell' w6 ⟨gg, ix * 2 + 1, none⟩ _ (by omega))).trans (hb7.mono (by rw [size_setCell]; exact hsz6)))
      cases h7 : sheetsOk (marked day n z)
      · have hF : markF z day n = ([], 3) := by simp only [markF]; rw [if_pos h1, if_pos h23, if_neg (by rw [← HE.out, HH.out]; simp), h7]; rfl
        go_wp2_with fail
        go_ret2
        exact ⟨.slice none 0 0, by rw [hF]; rfl, by rw [hF]; exact OwH.nil _ _ _, HB7.out⟩
      · have hF : markF z day n = (marked day n z, 0) := by simp only [markF]; rw [if_pos h1, if_pos h23, if_neg (by rw [← HE.out, HH.out]; simp), if_pos h7]
        go_wp2_with fail
        go_ret2
        exact ⟨.slice (some ⟨gg, 0, none⟩) (m + 1) (m + 1), by rw [hF]; rfl, by rw [hF]; exact OwH.of (HO7.out.more hgw) (HM.out _ _), HB7.out⟩
    · have hF : markF z day n = ([], 5) := by simp only [markF]; rw [if_pos h1, if_pos h23, if_pos (by rw [← HE.out, h6])]
      go_wp2_with fail
      go_ret2
      exact ⟨.slice none 0 0, by rw [hF]; rfl, by rw [hF]; exact OwH.nil _ _ _, HB5.out⟩
  · have H4 := Lib.hid h4
    obtain ⟨PA, pc, p, ey, hpe⟩ := found_H2 Hct.out Hix.out h4
    have hixm : ix < m := by have := (List.getElem?_eq_some_iff.1 ey).1; rw [OM3.len] at this; exact this
    have hok : okH day p = true := by
      simp only [sheetsOk, Bool.and_eq_true] at h1
      exact (sheetsGo_rises z none h1.1).2.2 (day, p) (by rw [← Hct.out]; exact List.mem_map_of_mem (f := H2.ct) (List.mem_of_getElem? ey))
    simp only [okH, Bool.and_eq_true, decide_eq_true_eq] at hok
    have HM : Hid (∀ A' c', _) := Lib.hid (marked_there (n := n) Hct.out Hix.out h4 ey rfl hpe)
    have HE : Hid (hasB n p = (foundB day z && hasB n (presAt day z))) := Lib.hid (by rw [h4, hpe]; rfl)
    have HU : Hid (p.Pairwise (· < ·)) := Lib.hid (incGo_up p none hok.1.1).2.1
    have HL : Hid (p.length ≤ 60) := Lib.hid hok.2
    have HC0 : pc = p.length := (OM3.inner _ (List.mem_of_getElem? ey)).2
    have HC : Hid (Value.slice PA p.length pc = .slice PA p.length p.length) := Lib.hid (by rw [HC0])
    have HOM := Lib.hid OM3
    have HY := Lib.hid ey
    have HB4 := HB3
    obtain ⟨c0, c1⟩ := (HOM.out.sl).outer_at HY.out
    have hin := (HOM.out.sl).inner _ (List.mem_of_getElem? HY.out)
    have hsw := HB4.out.size
    dsimp only at c0 c1 hin
    clear OM3 h4 hok HC0 hpe ey HB3
    go_wp2_with fail
    refine (search_any _ p n w3 gg _ hin (Nat.le_refl _) HU.out (by have := HL.out; omega)).mono ?_
    rintro e w5 ⟨rfl, hb5⟩
    have HB5 := Lib.hid (HB4.out.trans (hb5.mono HB4.out.size))
    have HOM5 := Lib.hid (HOM.out.below hb5)
    clear hin c0 c1
    have c1 := ((HOM5.out.sl).outer_at HY.out).2
    have hs5 : gg < w5.heap.size := HOM5.out.lt
    clear hb5
    cases h6 : hasB n p
    · have HH := Lib.hid h6
      clear h6
      go_wp2_with fail
      refine (insI_at (.slice PA p.length pc) PA w5.heap.size p.length (placeI n p) p n _ (gg + 1) w5.heap.size (w5.heap.size + 1) HC.out rfl (placeI_le n p) (by have := HL.out; omega) ((HOM5.out.inner _ (List.mem_of_getElem? HY.out)).1.alloc _) (num_sl w5 n) (by simp) (by simp; omega)).mono ?_
      rintro e w6 ⟨v', rfl, o6, g6, hat⟩
      rw [← insU_new n p _ rfl (fun e => by have e2 := HH.out; rw [(hasB_iff n p).2 (List.mem_of_getElem? e)] at e2; cases e2)] at o6
      obtain ⟨A', c', rfl⟩ : ∃ A' c', v' = .slice A' (insU n p).length c' := by obtain ⟨A', c', e, _⟩ := own_form (OwnR.own o6); exact ⟨A', c', e⟩
      have ho6 := (HOM5.out.alloc (.cells #[.int .i64 n] 2)).put HY.out o6 g6 (hat.imp id (fun e => ⟨_, e, Nat.le_refl _⟩))
      have hgg6 := ((HOM5.out.alloc (.cells #[.int .i64 n] 2)).outer.grown' g6 (fun a b ha hb => by
        have h1 := (World.ownsRow.lt (OwnR.own (HOM5.out.inner _ (List.mem_of_getElem? HY.out)).1) a ha).1
        have h2 : gg = b := Option.some.inj hb
        omega))
      obtain ⟨⟨_, g0⟩, ⟨_, g1⟩, f0, f1⟩ := row_of hgg6 HOM5.out.len hixm
      have hB6 : Below w.heap.size w w6 := (HB5.out.alloc (HB5.out.size) _).grown g6 (by simp; have := HB5.out.size; omega) (fun q hq => by have := (World.ownsRow.lt (OwnR.own (HOM5.out.inner _ (List.mem_of_getElem? HY.out)).1) q hq).1; omega)
      have HO6 := Lib.hid ho6
      have HB6 := Lib.hid hB6
      have hsz6 := hB6.size
      clear o6 g6 hat hgg6 ho6 hB6 g0
      generalize hnv : (insU n p).length = nl at *
      clear hnv
      go_wp2_with fail
      refine (implAreSheets_z _ (marked day n z) _ gg ⟨_, HO6.out.sl, HM.out _ _⟩).mono ?_
      rintro e w7 ⟨rfl, hb7⟩
      have HO7 := Lib.hid (HO6.out.below hb7)
      have HB7 := Lib.hid ((HB6.out.trans (below_setCell' w6 ⟨gg, ix * 2 + 1, none⟩ _ (by omega))).trans (hb7.mono (by rw [size_setCell]; exact hsz6)))
      cases h7 : sheetsOk (marked day n z)
      · have hF : markF z day n = ([], 3) := by simp only [markF]; rw [if_pos h1, if_pos h23, if_neg (by rw [← HE.out, HH.out]; simp), h7]; rfl
        go_wp2_with fail
        go_ret2
        exact ⟨.slice none 0 0, by rw [hF]; rfl, by rw [hF]; exact OwH.nil _ _ _, HB7.out⟩
      · have hF : markF z day n = (marked day n z, 0) := by simp only [markF]; rw [if_pos h1, if_pos h23, if_neg (by rw [← HE.out, HH.out]; simp), if_pos h7]
        go_wp2_with fail
        go_ret2
        exact ⟨.slice (some ⟨gg, 0, none⟩) m (m + 1), by rw [hF]; rfl, by rw [hF]; exact OwH.of (HO7.out.more hgw) (HM.out _ _), HB7.out⟩
    · have hF : markF z day n = ([], 5) := by simp only [markF]; rw [if_pos h1, if_pos h23, if_pos (by rw [← HE.out, h6])]
      go_wp2_with fail
      go_ret2
      exact ⟨.slice none 0 0, by rw [hF]; rfl, by rw [hF]; exact OwH.nil _ _ _, HB5.out⟩
end Go.Proofs.Ytbboihodikhhkaa
