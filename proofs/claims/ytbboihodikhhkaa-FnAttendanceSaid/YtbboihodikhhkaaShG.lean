/- AbsentOn, UncalledOn: the program's and the reference's answer the same functions. No condition but the sizes that the law itself asks. -/
import Derived.Test.YtbboihodikhhkaaShF
namespace Go.Proofs.Ytbboihodikhhkaa
open Go.RowKit
attribute [local go_sem ↓] Go.wp_at_zero Go.wp_at_succ

def findAt (day : Int) (z : List (Int × List Int)) (k : Nat) : Bool := match z[k]? with | some x => x.1 == day | none => false
theorem stop_at (day : Int) : ∀ (z : List (Int × List Int)) (k : Nat), k ≤ z.length → ltLen day z = k + ltLen day (z.drop k) → ltLen day (z.drop k) = 0 → ltLen day z = k ∧ foundB day z = findAt day z k
  | [], k, hk, h1, h2 => by
    have : k = 0 := by simpa using hk
    subst this
    exact ⟨rfl, rfl⟩
  | x :: t, 0, hk, h1, h2 => by
    refine ⟨by simpa using h2, ?_⟩
    have h2 : ltLen day (x :: t) = 0 := h2
    rw [ltLen] at h2
    by_cases e : x.1 < day
    · rw [if_pos e] at h2; omega
    · rw [foundB, if_neg e]; rfl
  | x :: t, k + 1, hk, h1, h2 => by
    rw [List.drop_succ_cons] at h1 h2
    rw [ltLen] at h1
    by_cases e : x.1 < day
    · rw [if_pos e] at h1
      obtain ⟨a1, a2⟩ := stop_at day t k (by simpa using hk) (by omega) h2
      refine ⟨by rw [ltLen, if_pos e, a1], ?_⟩
      rw [foundB, if_pos e, a2]; rfl
    · rw [if_neg e] at h1; omega

set_option maxRecDepth 100000 in
set_option maxHeartbeats 2000000 in
theorem sheetOf_any (v : Value) (z : List (Int × List Int)) (day : Int) (w : World) (lo : Nat) (h : RdH w lo w.heap.size v z) :
    Calls Try.prog 48 #[v, .int .i64 day] w fun e w' => e = .returned (.tuple #[.int .i64 (ltLen day z : Nat), .bool (foundB day z)]) ∧ Below w.heap.size w w' := by
  obtain ⟨xs, h, rfl⟩ := h
  obtain ⟨A, c, rfl, hc1, hc2⟩ := h.form
  go_enter Try.func48, Try.ntmps48
  go_wp2_with fail
  go_loop [6] (fun i => ∃ (k : Nat), i = .int .i64 k ∧ k ≤ xs.length ∧ Hid (ltLen day (xs.map H2.ct) = k + ltLen day ((xs.map H2.ct).drop k))) (fun i => xs.length - (intOf i).toNat)
  case atStart => exact ⟨0, rfl, Nat.zero_le _, Lib.hid (by simp)⟩
  case round =>
    obtain ⟨k, rfl, hk, Hgo⟩ := hrel
    have hml : (xs.map H2.ct).length = xs.length := List.length_map _
    by_cases hlt : k < xs.length
    · obtain ⟨x, hx⟩ := some_at hlt
      obtain ⟨b, off, rfl, _, hb, c0, c1, hin⟩ := h.at_ hx
      have hmx : (xs.map H2.ct)[k]? = some x.ct := by rw [List.getElem?_map, hx]; rfl
      have Hd := Lib.hid (drop_cons hmx)
      have Hmx := Lib.hid hmx
      have Hml := Lib.hid hml
      clear hx hmx hml
      have hd1 : decide ((k : Int) < (xs.length : Int)) = true := by simp; omega
      by_cases hlt2 : x.day < day
      · have hd2 : decide (x.day < day) = true := decide_eq_true hlt2
        have hs : ltLen day ((xs.map H2.ct).drop k) = ltLen day ((xs.map H2.ct).drop (k + 1)) + 1 := by rw [Hd.out, ltLen, if_pos (show x.ct.1 < day from hlt2)]
        have Hs := Lib.hid hs
        clear hs
        go_wp2_with fail
        go_round
        case rel => exact ⟨k + 1, by go_num, hlt, Lib.hid (by rw [Hgo.out, Hs.out]; omega)⟩
        case measure => simp [intOf]; omega
      · have hd2 : decide (x.day < day) = false := decide_eq_false hlt2
        have hs : ltLen day ((xs.map H2.ct).drop k) = 0 := by rw [Hd.out, ltLen, if_neg (show ¬ x.ct.1 < day from hlt2)]
        obtain ⟨e1, e2⟩ := stop_at day _ k (by rw [Hml.out]; exact hk) Hgo.out hs
        have e3 : foundB day (xs.map H2.ct) = (x.day == day) := by rw [e2, findAt, Hmx.out]; rfl
        have E1 := Lib.hid e1
        have E3 := Lib.hid e3
        clear hs e1 e2 e3 hlt2
        go_wp2_with fail
        refine wp_region_ext (by kernel_rfl) (by kernel_rfl) ?_
        repeat (go_big_quiet_step (fail))
        refine wpQuiet_nil ?_
        intro w2 hb2
        go_wp2_with fail
        go_ret2
        exact ⟨by rw [E1.out, E3.out]; rfl, hb2⟩
    · have hkn : k = xs.length := by omega
      have hd1 : decide ((k : Int) < (xs.length : Int)) = false := by simp; omega
      have hs : ltLen day ((xs.map H2.ct).drop k) = 0 := by rw [List.drop_eq_nil_of_le (by rw [hml]; omega)]; rfl
      obtain ⟨e1, e2⟩ := stop_at day _ k (by rw [hml]; exact hk) Hgo.out hs
      have e3 : foundB day (xs.map H2.ct) = false := by rw [e2, findAt, List.getElem?_eq_none (by rw [hml]; omega)]
      have E1 := Lib.hid e1
      have E3 := Lib.hid e3
      clear hs e1 e2 e3 hml hkn
      go_wp2_with fail
      refine wp_region_ext (by kernel_rfl) (by kernel_rfl) ?_
      repeat (go_big_quiet_step (fail))
      refine wpQuiet_nil ?_
      intro w2 hb2
      go_wp2_with fail
      go_ret2
      exact ⟨by rw [E1.out, E3.out]; rfl, hb2⟩

set_option maxRecDepth 100000 in
set_option maxHeartbeats 2000000 in
theorem l11Find_raw (v : Value) (z : List (Int × List Int)) (day : Int) (w : World) (lo hi : Nat) (h : RdH w lo hi v z) :
    Calls Try.prog 66 #[v, .int .i64 day] w fun e w' => e = .returned (.int .i64 (findGo day 0 z)) ∧ w = w' := by
  obtain ⟨xs, h, rfl⟩ := h
  obtain ⟨A, c, rfl, hc1, hc2⟩ := h.form
  go_enter Try.func66, Try.ntmps66
  go_wp2_with fail
  go_loop [5] (fun i => ∃ (k : Nat), i = .int .i64 k ∧ k ≤ xs.length ∧ Hid (findGo day 0 (xs.map H2.ct) = findGo day k ((xs.map H2.ct).drop k))) (fun i => xs.length - (intOf i).toNat)
  case atStart => exact ⟨0, rfl, Nat.zero_le _, Lib.hid rfl⟩
  case round =>
    obtain ⟨k, rfl, hk, Hgo⟩ := hrel
    by_cases hlt : k < xs.length
    · obtain ⟨x, hx⟩ := some_at hlt
      obtain ⟨b, off, rfl, _, hb, c0, c1, hin⟩ := h.at_ hx
      have hmx : (xs.map H2.ct)[k]? = some x.ct := by rw [List.getElem?_map, hx]; rfl
      have Hd := Lib.hid (drop_cons hmx)
      clear hx hmx
      cases e1 : x.day == day
      · have hs : findGo day 0 (xs.map H2.ct) = findGo day (k + 1) ((xs.map H2.ct).drop (k + 1)) := by rw [Hgo.out, Hd.out, findGo, if_neg (by show ¬ (x.day == day) = true; rw [e1]; simp)]
        have Hs := Lib.hid hs
        clear hs
        go_wp2_with fail
        go_round
        case rel => exact ⟨k + 1, by go_num, hlt, Lib.hid (by rw [Hs.out]; simp)⟩
        case measure => simp [intOf]; omega
      · have hs : findGo day 0 (xs.map H2.ct) = k := by rw [Hgo.out, Hd.out, findGo, if_pos (by show (x.day == day) = true; exact e1)]
        have Hs := Lib.hid hs
        clear hs
        go_wp2_with fail
        go_ret
        exact ⟨ret_int Hs.out.symm, rfl⟩
    · have hs : findGo day 0 (xs.map H2.ct) = -1 := by rw [Hgo.out, List.drop_eq_nil_of_le (by rw [List.length_map]; omega)]; rfl
      have Hs := Lib.hid hs
      clear hs
      go_wp2_with fail
      go_ret
      exact ⟨ret_int Hs.out.symm, rfl⟩

theorem l11Find_any (v : Value) (z : List (Int × List Int)) (day : Int) (w : World) (lo hi : Nat) (h : RdH w lo hi v z) (hz : z.Pairwise (fun a b => a.1 < b.1)) {b : Bool} (hb : foundB day z = b) :
    Calls Try.prog 66 #[v, .int .i64 day] w fun e w' => e = .returned (.int .i64 (if b = true then (ltLen day z : Int) else -1)) ∧ w = w' := by
  have := l11Find_raw v z day w lo hi h
  rw [findGo_eq day z 0 hz, hb, Int.zero_add] at this
  exact this

theorem sheetsOk_rises {z : List (Int × List Int)} (h : sheetsOk z = true) : z.Pairwise (fun a b => a.1 < b.1) := by
  simp only [sheetsOk, Bool.and_eq_true] at h
  exact (sheetsGo_rises z none h.1).1

set_option maxRecDepth 100000 in
set_option maxHeartbeats 2000000 in
theorem l11Code_any (v vc : Value) (z : List (Int × List Int)) (cs : List C4) (day : Int) (w : World) (lo lo' : Nat) (h : RdH w lo w.heap.size v z) (hc : SlC4 w lo' w.heap.size vc cs) :
    Calls Try.prog 63 #[v, vc, .int .i64 day] w fun e w' => e = .returned (.int .i64 (attCode z cs day)) ∧ Below w.heap.size w w' := by
  go_enter Try.func63, Try.ntmps63
  go_wp2_with fail
  refine (specAreSheets_z v z w lo h).mono ?_
  rintro e w1 ⟨rfl, hb1⟩
  have h1' := (h.below hb1 (Nat.le_refl _)).more (Nat.le_refl _) hb1.size
  have hc1' := (hc.below hb1 (Nat.le_refl _)).more (Nat.le_refl _) hb1.size
  cases h1 : sheetsOk z
  · have hF : attCode z cs day = 1 := by simp [attCode, h1]
    go_wp2_with fail
    go_ret
    exact ⟨ret_int hF.symm, hb1⟩
  go_wp2_with fail
  refine (specAreCalls_any vc cs w1 lo' hc1').mono ?_
  rintro e w2 ⟨rfl, hb2⟩
  have hB2 := hb1.trans (hb2.mono hb1.size)
  cases h2 : callsOk cs
  · have hF : attCode z cs day = 1 := by simp [attCode, h1, h2]
    go_wp2_with fail
    go_ret
    exact ⟨ret_int hF.symm, hB2⟩
  go_wp2_with fail
  refine (l02Is_any day _).mono ?_
  rintro e w3 ⟨rfl, rfl⟩
  cases h3 : inB day 0 20000
  · have hF : attCode z cs day = 2 := by simp [attCode, h1, h2, h3]
    go_wp2_with fail
    go_ret
    exact ⟨ret_int hF.symm, hB2⟩
  go_wp2_with fail
  cases h4 : foundB day z
  · refine (l11Find_any v z day w2 _ _ (h1'.below hb2 (Nat.le_refl _)) (sheetsOk_rises h1) h4).mono ?_
    rintro e w3 ⟨rfl, rfl⟩
    have hF : attCode z cs day = 4 := by simp [attCode, h1, h2, h3, h4]
    go_wp2_with fail
    go_ret
    exact ⟨ret_int hF.symm, hB2⟩
  · refine (l11Find_any v z day w2 _ _ (h1'.below hb2 (Nat.le_refl _)) (sheetsOk_rises h1) h4).mono ?_
    rintro e w3 ⟨rfl, rfl⟩
    have hF : attCode z cs day = 0 := by simp [attCode, h1, h2, h3, h4]
    go_wp2_with fail
    go_ret
    exact ⟨ret_int hF.symm, hB2⟩

def dayL (z : List (Int × List Int)) (cs : List C4) (day : Int) : List Int × List Int := if attCode z cs day = 0 then (onDay cs day, presAt day z) else ([], [])
theorem attCode_parts {z : List (Int × List Int)} {cs : List C4} {day : Int} (h : attCode z cs day = 0) : sheetsOk z = true ∧ callsOk cs = true ∧ inB day 0 20000 = true ∧ foundB day z = true := by
  unfold attCode at h
  split at h
  · next h1 =>
    rw [Bool.and_eq_true] at h1
    split at h
    · next h2 =>
      split at h
      · next h3 => exact ⟨h1.1, h1.2, h2, h3⟩
      · omega
    · omega
  · omega
theorem callsOk_len {cs : List C4} (h : callsOk cs = true) : cs.length ≤ 20 := by
  simp only [callsOk, Bool.and_eq_true, decide_eq_true_eq] at h
  exact h.2
theorem presAt_len {z : List (Int × List Int)} {day : Int} (h : sheetsOk z = true) (hf : foundB day z = true) : (presAt day z).length ≤ 60 := by
  obtain ⟨x, h1, _, h3⟩ := found_at day z hf
  simp only [sheetsOk, Bool.and_eq_true] at h
  have := (sheetsGo_rises z none h.1).2.2 x (List.mem_of_getElem? h1)
  simp only [okH, Bool.and_eq_true, decide_eq_true_eq] at this
  rw [← h3]; exact this.2
theorem dayL_len (z : List (Int × List Int)) (cs : List C4) (day : Int) : (dayL z cs day).1.length ≤ 20 ∧ (dayL z cs day).2.length ≤ 60 := by
  unfold dayL
  split
  · next h =>
    obtain ⟨h1, h2, h3, h4⟩ := attCode_parts h
    exact ⟨Nat.le_trans (onDay_len cs day) (callsOk_len h2), presAt_len h1 h4⟩
  · exact ⟨Nat.zero_le _, Nat.zero_le _⟩

/-- Where the list of those present lies. -/
theorem pres_cell {w : World} {lo hi : Nat} {v : Value} {z : List (Int × List Int)} {day : Int} (h : RdH w lo hi v z) (hf : foundB day z = true) :
    ∃ b off n c A' c', v = .slice (some ⟨b, off, none⟩) n c ∧ ltLen day z < n ∧ n = z.length ∧ lo ≤ b ∧ b < hi ∧ w.cell? ⟨b, off + ltLen day z * 2 + 1, none⟩ = some (.slice A' (presAt day z).length c') ∧ SlI w lo hi (.slice A' (presAt day z).length c') (presAt day z) := by
  obtain ⟨x, h1, h2, h3⟩ := found_at day z hf
  obtain ⟨xs, h, rfl⟩ := h
  obtain ⟨A, c, rfl, _, _⟩ := h.form
  rw [List.getElem?_map] at h1
  cases e : xs[ltLen day (xs.map H2.ct)]? with
  | none => rw [e] at h1; cases h1
  | some y =>
    rw [e] at h1
    have h1 : y.ct = x := Option.some.inj h1
    obtain ⟨b, off, rfl, hl, hb, c0, c1, hin⟩ := h.at_ e
    have hp : y.pres = presAt day (xs.map H2.ct) := by rw [← h3, ← h1]; rfl
    rw [hp] at c1 hin
    exact ⟨b, off, _, c, y.A, y.c, rfl, (List.getElem?_eq_some_iff.1 e).1, by rw [List.length_map], hl, hb, c1, hin⟩

set_option maxRecDepth 100000 in
set_option maxHeartbeats 4000000 in
theorem dayLists_any (v vc : Value) (z : List (Int × List Int)) (cs : List C4) (day : Int) (w : World) (lo lo' : Nat) (h : RdH w lo w.heap.size v z) (hc : SlC4 w lo' w.heap.size vc cs) :
    Calls Try.prog 61 #[v, vc, .int .i64 day] w fun e w' => ∃ x1 x2, e = .returned (.tuple #[x1, x2, .int .i64 (attCode z cs day)]) ∧ SlI w' w.heap.size w'.heap.size x1 (dayL z cs day).1 ∧ SlI w' w.heap.size w'.heap.size x2 (dayL z cs day).2 ∧ Below w.heap.size w w' := by
  go_enter Try.func61, Try.ntmps61
  go_wp2_with fail
  refine (implAreSheets_z v z w lo h).mono ?_
  rintro e w1 ⟨rfl, hb1⟩
  have h1' := (h.below hb1 (Nat.le_refl _)).more (Nat.le_refl _) hb1.size
  have hc1' := (hc.below hb1 (Nat.le_refl _)).more (Nat.le_refl _) hb1.size
  cases h1 : sheetsOk z
  · have hF : attCode z cs day = 1 := by simp [attCode, h1]
    have hG : dayL z cs day = ([], []) := by simp [dayL, hF]
    go_wp2_with fail
    go_ret3
    exact ⟨_, _, by rw [hF]; rfl, by rw [hG]; exact slI_nil _ _ _, by rw [hG]; exact slI_nil _ _ _, hb1⟩
  go_wp2_with fail
  refine (implAreCalls_any vc cs w1 lo' hc1').mono ?_
  rintro e w2 ⟨rfl, hb2⟩
  have hB2 := hb1.trans (hb2.mono hb1.size)
  have h2' := (h1'.below hb2 (Nat.le_refl _)).more (Nat.le_refl _) hb2.size
  have hc2' := (hc1'.below hb2 (Nat.le_refl _)).more (Nat.le_refl _) hb2.size
  cases h2 : callsOk cs
  · have hF : attCode z cs day = 1 := by simp [attCode, h1, h2]
    have hG : dayL z cs day = ([], []) := by simp [dayL, hF]
    go_wp2_with fail
    go_ret3
    exact ⟨_, _, by rw [hF]; rfl, by rw [hG]; exact slI_nil _ _ _, by rw [hG]; exact slI_nil _ _ _, hB2⟩
  go_wp2_with fail
  refine (isDay_any day _).mono ?_
  rintro e w3 ⟨rfl, rfl⟩
  cases h3 : inB day 0 20000
  · have hF : attCode z cs day = 2 := by simp [attCode, h1, h2, h3]
    have hG : dayL z cs day = ([], []) := by simp [dayL, hF]
    go_wp2_with fail
    go_ret3
    exact ⟨_, _, by rw [hF]; rfl, by rw [hG]; exact slI_nil _ _ _, by rw [hG]; exact slI_nil _ _ _, hB2⟩
  go_wp2_with fail
  refine (sheetOf_any v z day w2 _ h2').mono ?_
  rintro e w3 ⟨rfl, hb3⟩
  have hB3 := hB2.trans (hb3.mono hB2.size)
  have h3' := (h2'.below hb3 (Nat.le_refl _)).more (Nat.le_refl _) hb3.size
  have hc3' := (hc2'.below hb3 (Nat.le_refl _)).more (Nat.le_refl _) hb3.size
  cases h4 : foundB day z
  · have hF : attCode z cs day = 4 := by simp [attCode, h1, h2, h3, h4]
    have hG : dayL z cs day = ([], []) := by simp [dayL, hF]
    go_wp2_with fail
    go_ret3
    exact ⟨_, _, by rw [hF]; rfl, by rw [hG]; exact slI_nil _ _ _, by rw [hG]; exact slI_nil _ _ _, hB3⟩
  have hF : attCode z cs day = 0 := by simp [attCode, h1, h2, h3, h4]
  have hG : dayL z cs day = (onDay cs day, presAt day z) := by simp [dayL, hF]
  have HF := Lib.hid hF
  have HG := Lib.hid hG
  obtain ⟨b, off, n, c, A', c', rfl, hix, hn, hbl, hbh, q1, hsl⟩ := pres_cell h3' h4
  have hpl := presAt_len h1 h4
  have hcl := callsOk_len h2
  have hzl := sheetsOk_len h1
  have hn15 : n ≤ 15 := by omega
  have Hn := Lib.hid hn
  obtain ⟨An, cn, en, hcn1, hcn2⟩ := h3'.form
  injection en with en1 en2 en3
  subst en3
  clear hF hG hn en1 en2
  generalize hix2 : ltLen day z = ix at *
  have Hix := Lib.hid hix2
  generalize hpr : presAt day z = pr at *
  have Hpr := Lib.hid hpr
  clear hix2 hpr
  go_wp2_with fail
  have C1 := calledOn_any vc cs day w3.drew lo' (show SlC4 w3.drew lo' w3.drew.heap.size vc cs from hc3'.drew) (by omega)
  have hs3 : SlR i64s 1 w3.drew lo w3.drew.heap.size (.slice A' pr.length c') pr := hsl.drew
  refine region_np ?_
  go_region_held3 (fun w' => w'.cell? ⟨b, off + ix * 2 + 1, none⟩ = some (.slice A' pr.length c')) (first | exact q1 | exact e1 | exact g1 | go_keep) (first
    | (go_at_call 72; (with_reducible refine C1.mono ?_); rintro e w4 ⟨x4, rfl, o4, hb4⟩; have e1 := (World.cell?_of_block (w := w3.drew) (hb4.block b hbh)).trans q1)
    | (go_at_call 78; (with_reducible refine (cloneI_cap (.slice A' pr.length c') pr w4 lo ((hs3.below hb4 (Nat.le_refl _)).more (Nat.le_refl _) hb4.size) (by omega)).mono ?_); rintro e w5 ⟨rfl, o5, hb5⟩; have g1 := (World.cell?_of_block (w := w4) (hb5.block b (Nat.lt_of_lt_of_le hbh hb4.size))).trans e1))
  have hz3 : w3.drew.heap.size = w3.heap.size := rfl
  have z4 : w3.heap.size ≤ w4.heap.size := hb4.size
  have z5 := hb5.size
  have o4 := own_slI (o4.below hb5)
  have o5 := own_slI o5
  have hB4 : Below w.heap.size w w4 := hB3.drew.trans (hb4.mono (show w.heap.size ≤ w3.drew.heap.size from hB3.size))
  have hB5 := hB4.trans (hb5.mono hB4.size)
  have zw := hB3.size
  go_wp2_with fail
  go_ret3
  exact ⟨x4, _, by rw [HF.out]; rfl, by rw [HG.out]; exact o4.more (by omega) (Nat.le_refl _), by rw [HG.out]; exact o5.more (by omega) (Nat.le_refl _), hB5⟩

def absF (z : List (Int × List Int)) (cs : List C4) (day : Int) : List Int × Int := (lessOut (dayL z cs day).1 (dayL z cs day).2, attCode z cs day)
def uncF (z : List (Int × List Int)) (cs : List C4) (day : Int) : List Int × Int := (lessOut (dayL z cs day).2 (dayL z cs day).1, attCode z cs day)
theorem absF_len (z : List (Int × List Int)) (cs : List C4) (day : Int) : (absF z cs day).1.length ≤ 60 := Nat.le_trans (lessOut_len _ _) (Nat.le_trans (dayL_len z cs day).1 (by omega))
theorem uncF_len (z : List (Int × List Int)) (cs : List C4) (day : Int) : (uncF z cs day).1.length ≤ 60 := Nat.le_trans (lessOut_len _ _) (dayL_len z cs day).2

set_option maxRecDepth 100000 in
set_option maxHeartbeats 2000000 in
theorem implAbsentOn_any (v : Value) (z : List (Int × List Int)) (vc : Value) (cs : List C4) (day : Int) (w : World) (lo : Nat) (h : RdH w lo w.heap.size v z) (lo' : Nat) (hc : SlC4 w lo' w.heap.size vc cs) :
    Calls Try.prog 25 #[v, vc, .int .i64 day] w fun e w' => ∃ v', e = .returned (.tuple #[v', .int .i64 (absF z cs day).2]) ∧ OwnR i64s 1 w' w.heap.size 2 v' (absF z cs day).1 ∧ Below w.heap.size w w' := by
  have hL := dayL_len z cs day
  go_enter Try.func25, Try.ntmps25
  go_wp2_with fail
  refine (dayLists_any v vc z cs day w lo lo' h hc).mono ?_
  rintro e w1 ⟨x1, x2, rfl, h1, h2, hb1⟩
  go_wp2_with fail
  refine (without_any x1 x2 _ _ w1 _ _ h1 h2 (by omega)).mono ?_
  rintro e w2 ⟨v', rfl, o2, hb2⟩
  go_wp2_with fail
  go_ret2
  exact ⟨v', rfl, o2.more hb1.size, hb1.trans (hb2.mono hb1.size)⟩

set_option maxRecDepth 100000 in
set_option maxHeartbeats 2000000 in
theorem implUncalledOn_any (v : Value) (z : List (Int × List Int)) (vc : Value) (cs : List C4) (day : Int) (w : World) (lo : Nat) (h : RdH w lo w.heap.size v z) (lo' : Nat) (hc : SlC4 w lo' w.heap.size vc cs) :
    Calls Try.prog 27 #[v, vc, .int .i64 day] w fun e w' => ∃ v', e = .returned (.tuple #[v', .int .i64 (uncF z cs day).2]) ∧ OwnR i64s 1 w' w.heap.size 2 v' (uncF z cs day).1 ∧ Below w.heap.size w w' := by
  have hL := dayL_len z cs day
  go_enter Try.func27, Try.ntmps27
  go_wp2_with fail
  refine (dayLists_any v vc z cs day w lo lo' h hc).mono ?_
  rintro e w1 ⟨x1, x2, rfl, h1, h2, hb1⟩
  go_wp2_with fail
  refine (without_any x2 x1 _ _ w1 _ _ h2 h1 (by omega)).mono ?_
  rintro e w2 ⟨v', rfl, o2, hb2⟩
  go_wp2_with fail
  go_ret2
  exact ⟨v', rfl, o2.more hb1.size, hb1.trans (hb2.mono hb1.size)⟩

set_option maxRecDepth 100000 in
set_option maxHeartbeats 4000000 in
theorem specAbsentOn_any (v : Value) (z : List (Int × List Int)) (vc : Value) (cs : List C4) (day : Int) (w : World) (lo : Nat) (h : RdH w lo w.heap.size v z) (lo' : Nat) (hc : SlC4 w lo' w.heap.size vc cs) :
    Calls Try.prog 26 #[v, vc, .int .i64 day] w fun e w' => ∃ v', e = .returned (.tuple #[v', .int .i64 (absF z cs day).2]) ∧ OwnR i64s 1 w' w.heap.size 2 v' (absF z cs day).1 ∧ Below w.heap.size w w' := by
  have C := l11Code_any v vc z cs day w lo lo' h hc
  by_cases h0 : attCode z cs day = 0
  · rw [h0] at C
    obtain ⟨k1, k2, k3, k4⟩ := attCode_parts h0
    have hF : absF z cs day = (lessOut (onDay cs day) (presAt day z), 0) := by simp [absF, dayL, h0]
    have HF := Lib.hid hF
    have hr := sheetsOk_rises k1
    obtain ⟨b, off, n, c, A', c', rfl, hix, hn, hbl, hbh, q1, hsl⟩ := pres_cell h k4
    have hpl := presAt_len k1 k4
    have hcl := callsOk_len k2
    have hol := onDay_len cs day
    have hzl := sheetsOk_len k1
    have hn15 : n ≤ 15 := by omega
    have Hn := Lib.hid hn
    obtain ⟨An, cn, en, hcn1, hcn2⟩ := h.form
    injection en with en1 en2 en3
    subst en3
    clear hF hn en1 en2 h0
    have CF := fun (W : World) (lo hi : Nat) (h : RdH W lo hi (.slice (some ⟨b, off, none⟩) n c) z) => l11Find_any (.slice (some ⟨b, off, none⟩) n c) z day W lo hi h hr k4
    simp only [if_true] at CF
    generalize hix2 : ltLen day z = ix at *
    generalize hpr : presAt day z = pr at *
    have Hix := Lib.hid hix2
    have Hpr := Lib.hid hpr
    have HR := Lib.hid hr
    have HCF := Lib.hid CF
    clear hix2 hpr hr CF
    have hix' : (ix : Int) < (n : Int) := by omega
    go_enter Try.func26, Try.ntmps26
    go_wp2_with fail
    refine C.mono ?_
    rintro e w1 ⟨rfl, hb1⟩
    have h1 := (h.below hb1 (Nat.le_refl _)).more (Nat.le_refl _) hb1.size
    have hc1 := (hc.below hb1 (Nat.le_refl _)).more (Nat.le_refl _) hb1.size
    have s1 := (hsl.below hb1 (Nat.le_refl _)).more (Nat.le_refl _) hb1.size
    have q1 : w1.cell? ⟨b, off + ix * 2 + 1, none⟩ = some (.slice A' pr.length c') := (World.cell?_of_block (w := w) (hb1.block b hbh)).trans q1
    have z1 := hb1.size
    have hbh : b < w1.heap.size := by omega
    go_wp2_with fail
    refine (l10On_any vc cs day w1 _ hc1 (by omega)).mono ?_
    rintro e w2 ⟨x2, rfl, o2, hb2⟩
    have z2 := hb2.size
    have hB2 := hb1.trans (hb2.mono hb1.size)
    have q2 : w2.cell? ⟨b, off + ix * 2 + 1, none⟩ = some (.slice A' pr.length c') := (World.cell?_of_block (w := w1) (hb2.block b hbh)).trans q1
    have s2 := (s1.below hb2 (Nat.le_refl _)).more (Nat.le_refl _) z2
    go_wp2_with fail
    refine (HCF.out w2 _ _ (h1.below hb2 (Nat.le_refl _))).mono ?_
    rintro e w3 ⟨rfl, rfl⟩
    go_wp2_with fail
    refine (l11Without_any x2 _ _ pr w2 _ _ (own_slI o2) s2 (by omega)).mono ?_
    rintro e w4 ⟨v', rfl, o4, hb4⟩
    go_wp2_with fail
    go_ret2
    exact ⟨v', by rw [HF.out]; rfl, by rw [HF.out]; exact o4.more (by omega), hB2.trans (hb4.mono hB2.size)⟩
  · have hG : dayL z cs day = ([], []) := by simp [dayL, h0]
    have hF : absF z cs day = ([], attCode z cs day) := by simp [absF, hG, lessOut]
    have HF := Lib.hid hF
    have hne : (attCode z cs day != 0) = true := by simpa [bne] using h0
    clear hF hG
    go_enter Try.func26, Try.ntmps26
    go_wp2_with fail
    refine C.mono ?_
    rintro e w1 ⟨rfl, hb1⟩
    go_wp2_with fail
    go_ret2
    exact ⟨.slice none 0 0, by rw [HF.out]; rfl, by rw [HF.out]; exact own_nil _ _ _ _ _, hb1⟩

set_option maxRecDepth 100000 in
set_option maxHeartbeats 4000000 in
theorem specUncalledOn_any (v : Value) (z : List (Int × List Int)) (vc : Value) (cs : List C4) (day : Int) (w : World) (lo : Nat) (h : RdH w lo w.heap.size v z) (lo' : Nat) (hc : SlC4 w lo' w.heap.size vc cs) :
    Calls Try.prog 28 #[v, vc, .int .i64 day] w fun e w' => ∃ v', e = .returned (.tuple #[v', .int .i64 (uncF z cs day).2]) ∧ OwnR i64s 1 w' w.heap.size 2 v' (uncF z cs day).1 ∧ Below w.heap.size w w' := by
  have C := l11Code_any v vc z cs day w lo lo' h hc
  by_cases h0 : attCode z cs day = 0
  · rw [h0] at C
    obtain ⟨k1, k2, k3, k4⟩ := attCode_parts h0
    have hF : uncF z cs day = (lessOut (presAt day z) (onDay cs day), 0) := by simp [uncF, dayL, h0]
    have HF := Lib.hid hF
    have hr := sheetsOk_rises k1
    obtain ⟨b, off, n, c, A', c', rfl, hix, hn, hbl, hbh, q1, hsl⟩ := pres_cell h k4
    have hpl := presAt_len k1 k4
    have hcl := callsOk_len k2
    have hol := onDay_len cs day
    have hzl := sheetsOk_len k1
    have hn15 : n ≤ 15 := by omega
    have Hn := Lib.hid hn
    obtain ⟨An, cn, en, hcn1, hcn2⟩ := h.form
    injection en with en1 en2 en3
    subst en3
    clear hF hn en1 en2 h0
    have CF := fun (W : World) (lo hi : Nat) (h : RdH W lo hi (.slice (some ⟨b, off, none⟩) n c) z) => l11Find_any (.slice (some ⟨b, off, none⟩) n c) z day W lo hi h hr k4
    simp only [if_true] at CF
    generalize hix2 : ltLen day z = ix at *
    generalize hpr : presAt day z = pr at *
    have Hix := Lib.hid hix2
    have Hpr := Lib.hid hpr
    have HR := Lib.hid hr
    have HCF := Lib.hid CF
    clear hix2 hpr hr CF
    have hix' : (ix : Int) < (n : Int) := by omega
    go_enter Try.func28, Try.ntmps28
    go_wp2_with fail
    refine C.mono ?_
    rintro e w1 ⟨rfl, hb1⟩
    have h1 := (h.below hb1 (Nat.le_refl _)).more (Nat.le_refl _) hb1.size
    have hc1 := (hc.below hb1 (Nat.le_refl _)).more (Nat.le_refl _) hb1.size
    have s1 := (hsl.below hb1 (Nat.le_refl _)).more (Nat.le_refl _) hb1.size
    have q1 : w1.cell? ⟨b, off + ix * 2 + 1, none⟩ = some (.slice A' pr.length c') := (World.cell?_of_block (w := w) (hb1.block b hbh)).trans q1
    have z1 := hb1.size
    have hbh : b < w1.heap.size := by omega
    go_wp2_with fail
    have CFd := HCF.out w1.drew lo w1.heap.size (h1.below (show Below w1.heap.size w1 w1.drew from (Below.refl _ _).drew) (Nat.le_refl _))
    have C1 := l10On_any vc cs day w1.drew lo' (show SlC4 w1.drew lo' w1.drew.heap.size vc cs from hc1.drew) (by omega)
    have s1d : SlR i64s 1 w1.drew lo w1.drew.heap.size (.slice A' pr.length c') pr := s1.drew
    refine region_np ?_
    go_region_held3 (fun w' => w'.cell? ⟨b, off + ix * 2 + 1, none⟩ = some (.slice A' pr.length c')) (first | exact q1 | exact e1 | exact g1 | go_keep) (first
      | (go_at_call 66; (with_reducible refine CFd.mono ?_); rintro e w3 ⟨rfl, rfl⟩)
      | (go_at_call 65; (with_reducible refine C1.mono ?_); rintro e w4 ⟨x4, rfl, o4, hb4⟩; have e1 := (World.cell?_of_block (w := w1.drew) (hb4.block b hbh)).trans q1)
      | (go_at_call 64; (with_reducible refine (l11Without_any (.slice A' pr.length c') x4 pr (onDay cs day) w4 lo w1.drew.heap.size ((s1d.below hb4 (Nat.le_refl _)).more (Nat.le_refl _) hb4.size) (own_slI o4) (by omega)).mono ?_); rintro e w5 ⟨v', rfl, o5, hb5⟩; have g1 := (World.cell?_of_block (w := w4) (hb5.block b (Nat.lt_of_lt_of_le hbh hb4.size))).trans e1))
    have hz1 : w1.drew.heap.size = w1.heap.size := rfl
    have z4 : w1.heap.size ≤ w4.heap.size := hb4.size
    have hB4 : Below w.heap.size w w4 := hb1.drew.trans (hb4.mono (show w.heap.size ≤ w1.drew.heap.size from hb1.size))
    go_wp2_with fail
    go_ret2
    exact ⟨v', by rw [HF.out]; rfl, by rw [HF.out]; exact o5.more (by omega), hB4.trans (hb5.mono hB4.size)⟩
  · have hG : dayL z cs day = ([], []) := by simp [dayL, h0]
    have hF : uncF z cs day = ([], attCode z cs day) := by simp [uncF, hG, lessOut]
    have HF := Lib.hid hF
    have hne : (attCode z cs day != 0) = true := by simpa [bne] using h0
    clear hF hG
    go_enter Try.func28, Try.ntmps28
    go_wp2_with fail
    refine C.mono ?_
    rintro e w1 ⟨rfl, hb1⟩
    go_wp2_with fail
    go_ret2
    exact ⟨.slice none 0 0, by rw [HF.out]; rfl, by rw [HF.out]; exact own_nil _ _ _ _ _, hb1⟩

end Go.Proofs.Ytbboihodikhhkaa
