/- All candidates who are qualified: the program's and the reference's answer the same function. No condition but the sizes that the law itself asks. -/
import Derived.Test.YtkhojhgcopnenaaQualE
namespace Go.Proofs.Ytkhojhgcopnenaa
open Go.RowKit
attribute [local go_sem ↓] Go.wp_at_zero Go.wp_at_succ

set_option maxRecDepth 100000 in
set_option maxHeartbeats 4000000 in
theorem candidatesOk_any (r : R5) (vz vj v : Value) (cs : List K9) (w : World) (lo lo' lo2 : Nat) (hz : SlI w lo w.heap.size vz r.zones) (hj : SlI w lo' w.heap.size vj r.jobs) (hc : SlR K9.vals 9 w lo2 w.heap.size v cs) (hs : ∀ x ∈ cs, x.small) :
    Calls Try.prog 65 #[.agg #[.int .i64 r.yr, .int .i64 r.lo, .int .i64 r.hi, vz, vj], v] w fun e w' => e = .returned (.bool (candOk r cs)) ∧ Below w.heap.size w w' := by
  obtain ⟨A, ca, rfl, _, _⟩ := hz.form
  obtain ⟨B, d, rfl, _, _⟩ := hj.form
  obtain ⟨C, cc, rfl, _, _⟩ := hc.form
  have Hs := Lib.hid hs
  clear hs
  have bR := Blk.new w 41 #[.int .i64 r.yr, .int .i64 r.lo, .int .i64 r.hi, .slice A r.zones.length ca, .slice B r.jobs.length d]
  have hB : Below w.heap.size w (w.alloc (.cells #[.int .i64 r.yr, .int .i64 r.lo, .int .i64 r.hi, .slice A r.zones.length ca, .slice B r.jobs.length d] 41)) := (Below.refl _ _).alloc (Nat.le_refl _) _
  go_enter Try.func65, Try.ntmps65
  go_wp2_with fail
  generalize (w.alloc (.cells #[.int .i64 r.yr, .int .i64 r.lo, .int .i64 r.hi, .slice A r.zones.length ca, .slice B r.jobs.length d] 41)) = w1 at *
  replace hz := hz.bel hB
  replace hj := hj.bel hB
  replace hc := hc.bel hB
  go_loopw [9] (fun i wr => ∃ (k : Nat), i = .int .i64 k ∧ k ≤ cs.length ∧ Hid (codeGo cs = codeGo (cs.drop k)) ∧ Below w1.heap.size w1 wr) (fun i wr => cs.length - (intOf i).toNat)
  case atStart => exact ⟨0, rfl, Nat.zero_le _, Lib.hid rfl, Below.refl _ _⟩
  case round =>
    obtain ⟨k, rfl, hk, Hgo, hbr⟩ := hrel
    have bR := bR.below' hbr
    have hz := hz.bel hbr
    have hj := hj.bel hbr
    have hc := hc.bel hbr
    have hB := hB.trans (hbr.mono hB.size)
    by_cases hlt : k < cs.length
    · obtain ⟨x, hx⟩ := some_at hlt
      have hxs := Hs.out x (List.mem_of_getElem? hx)
      obtain ⟨b, off, rfl, _, hbb, c0, c1, c2, c3, c4, c5, c6, c7, c8⟩ := at_K9 hc hx
      have Hd := Lib.hid (drop_cons hx)
      clear hx
      have hAl : Below wr.heap.size wr (wr.alloc (.cells #[.int .i64 x.num, .string x.first, .string x.last, .int .i64 x.born, .int .i64 x.zone, .bool x.cit, .bool x.conv, .bool x.flu, .int .i64 x.job] 45)) := (Below.refl _ _).alloc (Nat.le_refl _) _
      go_wp2_with fail
      refine (implIsCandidate_any x _ hxs).mono ?_
      rintro e w2 ⟨rfl, hb2'⟩
      have hb2 := hAl.trans (hb2'.mono hAl.size)
      clear c0 c1 c2 c3 c4 c5 c6 c7 c8 hb2' hAl
      cases hok : x.ok
      · have e : candOk r cs = false := by simp [candOk, Hgo.out, Hd.out, codeGo, hok]
        have E := Lib.hid e
        clear e
        go_wp2_with fail
        go_ret
        exact ⟨by rw [E.out]; rfl, hB.trans (hb2.mono hB.size)⟩
      · go_wp2_with fail
        go_roundw
        case rel => exact ⟨k + 1, by go_num, hlt, Lib.hid (by rw [Hgo.out, Hd.out, codeGo, hok]; rfl), hbr.trans (hb2.mono hbr.size)⟩
        case measure => simp [intOf]; omega
    · have hgo : codeGo cs = true := by rw [Hgo.out, List.drop_of_length_le (by omega)]; rfl
      have HG := Lib.hid hgo
      clear hgo Hgo
      obtain ⟨d0, d1, d2, d3, d4⟩ := r5_cells bR
      go_wp2_with fail
      refine (implAreRules_any r _ _ wr _ _ hz hj).mono ?_
      rintro e w2 ⟨rfl, hb2⟩
      clear d0 d1 d2 d3 d4
      have hB2 := hB.trans (hb2.mono hB.size)
      cases hr : r.ok
      · have e : candOk r cs = false := by simp [candOk, hr]
        have E := Lib.hid e
        clear e
        go_wp2_with fail
        go_ret
        exact ⟨by rw [E.out]; rfl, hB2⟩
      · have e : candOk r cs = decide ((cs.length : Int) ≤ 60) := by simp only [candOk, HG.out, hr, Bool.true_and]; exact decide_eq_decide.2 (by omega)
        have E := Lib.hid e
        clear e
        go_wp2_with (go_at_call 57; refine (few_any _ _ _).mono ?_; rintro e w' ⟨rfl, rfl⟩)
        go_ret
        exact ⟨by rw [E.out]; rfl, hB2⟩

def qualGo (r : R5) : Int → List K9 → List Int
  | _, [] => []
  | j, c :: t => if r.against c = 0 then j :: qualGo r (j + 1) t else qualGo r (j + 1) t
theorem qualGo_snoc (r : R5) (x : K9) : ∀ (l : List K9) (j : Int), qualGo r j (l ++ [x]) = qualGo r j l ++ if r.against x = 0 then [j + l.length] else []
  | [], j => by simp only [List.nil_append, qualGo]; split <;> simp
  | c :: t, j => by
    have ih := qualGo_snoc r x t (j + 1)
    have e : j + 1 + (t.length : Int) = j + ((c :: t).length : Int) := by simp; omega
    rw [e] at ih
    simp only [List.cons_append, qualGo]
    split
    · rw [ih]; rfl
    · exact ih
theorem qualGo_yes {r : R5} {cs : List K9} {k : Nat} {x : K9} (hx : cs[k]? = some x) (h : r.against x = 0) : qualGo r 0 (cs.take (k + 1)) = qualGo r 0 (cs.take k) ++ [(k : Int)] := by
  have hk : k < cs.length := (List.getElem?_eq_some_iff.1 hx).1
  rw [take_snoc hx, qualGo_snoc, if_pos h, List.length_take, Nat.min_eq_left (by omega), Int.zero_add]
theorem qualGo_no {r : R5} {cs : List K9} {k : Nat} {x : K9} (hx : cs[k]? = some x) (h : ¬ r.against x = 0) : qualGo r 0 (cs.take (k + 1)) = qualGo r 0 (cs.take k) := by
  rw [take_snoc hx, qualGo_snoc, if_neg h, List.append_nil]
theorem qualGo_len (r : R5) : ∀ (l : List K9) (j : Int), (qualGo r j l).length ≤ l.length
  | [], _ => Nat.le_refl _
  | c :: t, j => by
    have := qualGo_len r t (j + 1)
    rw [qualGo]
    split <;> simp <;> omega
def qualOfF (r : R5) (cs : List K9) : List Int × Int := if candOk r cs = true then (qualGo r 0 cs, 0) else ([], 1)
theorem candOk_parts {r : R5} {cs : List K9} (h : candOk r cs = true) : r.ok = true ∧ (∀ x ∈ cs, x.ok = true) ∧ cs.length ≤ 60 := by
  simp only [candOk, Bool.and_eq_true, decide_eq_true_eq] at h
  exact ⟨h.1.2, codeGo_all h.1.1, h.2⟩
theorem qualOfF_len (r : R5) (cs : List K9) : (qualOfF r cs).1.length ≤ 60 := by
  unfold qualOfF
  split
  · next h => exact Nat.le_trans (qualGo_len r cs 0) (candOk_parts h).2.2
  · simp

set_option maxRecDepth 100000 in
set_option maxHeartbeats 8000000 in
theorem implQualifiedOf_any (r : R5) (vz vj v : Value) (cs : List K9) (w : World) (lo lo' lo2 : Nat) (hz : SlI w lo w.heap.size vz r.zones) (hj : SlI w lo' w.heap.size vj r.jobs) (hc : SlR K9.vals 9 w lo2 w.heap.size v cs) (hs : ∀ x ∈ cs, x.small) :
    Calls Try.prog 34 #[.agg #[.int .i64 r.yr, .int .i64 r.lo, .int .i64 r.hi, vz, vj], v] w fun e w' => ∃ v', e = .returned (.tuple #[v', .int .i64 (qualOfF r cs).2]) ∧ OwnR i64s 1 w' w.heap.size 2 v' (qualOfF r cs).1 ∧ Below w.heap.size w w' := by
  obtain ⟨A, ca, rfl, _, _⟩ := hz.form
  obtain ⟨B, d, rfl, _, _⟩ := hj.form
  obtain ⟨C, cc, rfl, _, _⟩ := hc.form
  have bR := Blk.new w 41 #[.int .i64 r.yr, .int .i64 r.lo, .int .i64 r.hi, .slice A r.zones.length ca, .slice B r.jobs.length d]
  have hB : Below w.heap.size w (w.alloc (.cells #[.int .i64 r.yr, .int .i64 r.lo, .int .i64 r.hi, .slice A r.zones.length ca, .slice B r.jobs.length d] 41)) := (Below.refl _ _).alloc (Nat.le_refl _) _
  go_enter Try.func34, Try.ntmps34
  go_wp2_with fail
  generalize (w.alloc (.cells #[.int .i64 r.yr, .int .i64 r.lo, .int .i64 r.hi, .slice A r.zones.length ca, .slice B r.jobs.length d] 41)) = w1 at *
  replace hz := hz.bel hB
  replace hj := hj.bel hB
  replace hc := hc.bel hB
  refine (candidatesOk_any r _ _ _ cs w1 _ _ _ hz hj hc hs).mono ?_
  rintro e w2 ⟨rfl, hb2⟩
  replace hz := hz.bel hb2
  replace hj := hj.bel hb2
  replace hc := hc.bel hb2
  replace bR := bR.below' hb2
  replace hB := hB.trans (hb2.mono hB.size)
  clear hb2 hs
  cases hok : candOk r cs
  · have E := Lib.hid (show qualOfF r cs = ([], 1) by simp [qualOfF, hok])
    have hcd : candCode r cs = 1 := by simp [candCode, hok]
    clear hcd
    go_wp2_with fail
    go_ret2
    exact ⟨.slice none 0 0, by rw [E.out]; rfl, by rw [E.out]; exact own_nil _ _ _ _ _, hB⟩
  have E := Lib.hid (show qualOfF r cs = (qualGo r 0 cs, 0) by simp [qualOfF, hok])
  have hcd : candCode r cs = 0 := by simp [candCode, hok]
  clear hcd
  obtain ⟨hrok, hall, hlen⟩ := candOk_parts hok
  have HR := Lib.hid hrok
  have HA := Lib.hid hall
  clear hok hrok hall
  have hw2 := hB.size
  go_wp2_with fail
  go_loopw [6, 16] (fun q i wr => ∃ (k : Nat), i = .int .i64 k ∧ k ≤ cs.length ∧ OwnR i64s 1 wr w2.heap.size 2 q (qualGo r 0 (cs.take k)) ∧ Below w2.heap.size w2 wr) (fun q i wr => cs.length - (intOf i).toNat)
  case atStart => exact ⟨0, rfl, Nat.zero_le _, own_empty w2 _ 1 i64s, (Below.refl _ _).alloc (Nat.le_refl _) _⟩
  case round =>
    obtain ⟨k, rfl, hk, hown, hbr⟩ := hrel
    replace bR := bR.below' hbr
    replace hz := hz.bel hbr
    replace hj := hj.bel hbr
    replace hc := hc.bel hbr
    have hB := hB.trans (hbr.mono hB.size)
    have hsz := hbr.size
    by_cases hlt : k < cs.length
    · obtain ⟨x, hx⟩ := some_at hlt
      have hbd := ok_bounds HR.out (HA.out x (List.mem_of_getElem? hx))
      obtain ⟨hbd1, hbd2⟩ := hbd
      obtain ⟨b, off, rfl, _, hbb, c0, c1, c2, c3, c4, c5, c6, c7, c8⟩ := at_K9 hc hx
      obtain ⟨d0, d1, d2, d3, d4⟩ := r5_cells bR
      have hbR := bR.lt
      have Hx := Lib.hid hx
      clear hx
      have hl := qualGo_len r (cs.take k) 0
      rw [List.length_take] at hl
      have hAl : Below wr.heap.size wr (wr.alloc (.cells #[.int .i64 x.num, .string x.first, .string x.last, .int .i64 x.born, .int .i64 x.zone, .bool x.cit, .bool x.conv, .bool x.flu, .int .i64 x.job] 45)) := (Below.refl _ _).alloc (Nat.le_refl _) _
      have bRa := bR.alloc (.cells #[.int .i64 x.num, .string x.first, .string x.last, .int .i64 x.born, .int .i64 x.zone, .bool x.cit, .bool x.conv, .bool x.flu, .int .i64 x.job] 45)
      obtain ⟨f0, f1, f2, f3, f4⟩ := r5_cells bRa
      go_wp2_with fail
      refine (implReasons_any r x _ _ _ _ _ (hz.bel hAl) (hj.bel hAl) (by omega) (by omega)).mono ?_
      rintro e w4 ⟨rfl, hb4'⟩
      have hb4 := hAl.trans (hb4'.mono hAl.size)
      have hown4 := hown.below hb4
      have hbr4 := hbr.trans (hb4.mono hbr.size)
      have hs4 := hbr4.size
      clear c0 c1 c2 c3 c4 c5 c6 c7 c8 d0 d1 d2 d3 d4 f0 f1 f2 f3 f4 hb4' hAl bRa
      by_cases h0 : r.against x = 0
      · have h0b : (r.against x == 0) = true := by simpa using h0
        have HG := Lib.hid (qualGo_yes Hx.out h0)
        clear h0
        generalize r.against x = ag at *
        go_wp2_with (at_builtin; refine wpList_append_rec (f := i64s) (s := 1) 2 _ _ (fun _ => rfl) i64s_one rfl _ _ 22 rfl w2.heap.size Try.infoI Try.underlying22 rfl (by decide) _ _ (k : Int) rfl hown4 rfl rfl rfl (by omega) (by omega) (by omega) ?_)
        intro v' w5 o5 hb5
        have hb5 := hb5 _ _ hbr4 (Nat.le_refl _)
        go_wp2_with fail
        go_roundw
        case rel => exact ⟨k + 1, by go_num, hlt, by rw [HG.out]; exact o5, hb5⟩
        case measure => simp [intOf]; omega
      · have h0b : (r.against x == 0) = false := by simpa using h0
        have HG := Lib.hid (qualGo_no Hx.out h0)
        clear h0
        generalize r.against x = ag at *
        go_wp2_with fail
        go_roundw
        case rel => exact ⟨k + 1, by go_num, hlt, by rw [HG.out]; exact hown4, hbr4⟩
        case measure => simp [intOf]; omega
    · have hkn : k = cs.length := by omega
      subst hkn
      rw [List.take_length] at hown
      have hown := hown.more (base' := w.heap.size) hw2
      go_wp2_with fail
      go_ret2
      exact ⟨_, by rw [E.out]; rfl, by rw [E.out]; exact hown, hB⟩

set_option maxRecDepth 100000 in
set_option maxHeartbeats 8000000 in
theorem specQualifiedOf_any (r : R5) (vz vj v : Value) (cs : List K9) (w : World) (lo lo' lo2 : Nat) (hz : SlI w lo w.heap.size vz r.zones) (hj : SlI w lo' w.heap.size vj r.jobs) (hc : SlR K9.vals 9 w lo2 w.heap.size v cs) (hs : ∀ x ∈ cs, x.small) :
    Calls Try.prog 33 #[.agg #[.int .i64 r.yr, .int .i64 r.lo, .int .i64 r.hi, vz, vj], v] w fun e w' => ∃ v', e = .returned (.tuple #[v', .int .i64 (qualOfF r cs).2]) ∧ OwnR i64s 1 w' w.heap.size 2 v' (qualOfF r cs).1 ∧ Below w.heap.size w w' := by
  obtain ⟨A, ca, rfl, _, _⟩ := hz.form
  obtain ⟨B, d, rfl, _, _⟩ := hj.form
  obtain ⟨C, cc, rfl, _, _⟩ := hc.form
  have bR := Blk.new w 41 #[.int .i64 r.yr, .int .i64 r.lo, .int .i64 r.hi, .slice A r.zones.length ca, .slice B r.jobs.length d]
  have hB : Below w.heap.size w (w.alloc (.cells #[.int .i64 r.yr, .int .i64 r.lo, .int .i64 r.hi, .slice A r.zones.length ca, .slice B r.jobs.length d] 41)) := (Below.refl _ _).alloc (Nat.le_refl _) _
  go_enter Try.func33, Try.ntmps33
  go_wp2_with fail
  generalize (w.alloc (.cells #[.int .i64 r.yr, .int .i64 r.lo, .int .i64 r.hi, .slice A r.zones.length ca, .slice B r.jobs.length d] 41)) = w1 at *
  replace hz := hz.bel hB
  replace hj := hj.bel hB
  replace hc := hc.bel hB
  refine (l06Code_any r _ _ _ cs w1 _ _ _ hz hj hc hs).mono ?_
  rintro e w2 ⟨rfl, hb2⟩
  replace hz := hz.bel hb2
  replace hj := hj.bel hb2
  replace hc := hc.bel hb2
  replace bR := bR.below' hb2
  replace hB := hB.trans (hb2.mono hB.size)
  clear hb2 hs
  cases hok : candOk r cs
  · have E := Lib.hid (show qualOfF r cs = ([], 1) by simp [qualOfF, hok])
    have hcd : candCode r cs = 1 := by simp [candCode, hok]
    rw [hcd]
    go_wp2_with fail
    go_ret2
    exact ⟨.slice none 0 0, by rw [E.out]; rfl, by rw [E.out]; exact own_nil _ _ _ _ _, hB⟩
  have E := Lib.hid (show qualOfF r cs = (qualGo r 0 cs, 0) by simp [qualOfF, hok])
  have hcd : candCode r cs = 0 := by simp [candCode, hok]
  rw [hcd]
  obtain ⟨hrok, hall, hlen⟩ := candOk_parts hok
  have HR := Lib.hid hrok
  have HA := Lib.hid hall
  clear hok hrok hall
  have hw2 := hB.size
  go_wp2_with fail
  go_loopw [7, 8] (fun q i wr => ∃ (k : Nat), i = .int .i64 k ∧ k ≤ cs.length ∧ OwnR i64s 1 wr w2.heap.size 2 q (qualGo r 0 (cs.take k)) ∧ Below w2.heap.size w2 wr) (fun q i wr => cs.length - (intOf i).toNat)
  case atStart => exact ⟨0, rfl, Nat.zero_le _, own_empty w2 _ 1 i64s, (Below.refl _ _).alloc (Nat.le_refl _) _⟩
  case round =>
    obtain ⟨k, rfl, hk, hown, hbr⟩ := hrel
    replace bR := bR.below' hbr
    replace hz := hz.bel hbr
    replace hj := hj.bel hbr
    replace hc := hc.bel hbr
    have hB := hB.trans (hbr.mono hB.size)
    have hsz := hbr.size
    by_cases hlt : k < cs.length
    · obtain ⟨x, hx⟩ := some_at hlt
      have hbd := ok_bounds HR.out (HA.out x (List.mem_of_getElem? hx))
      obtain ⟨hbd1, hbd2⟩ := hbd
      obtain ⟨b, off, rfl, _, hbb, c0, c1, c2, c3, c4, c5, c6, c7, c8⟩ := at_K9 hc hx
      obtain ⟨d0, d1, d2, d3, d4⟩ := r5_cells bR
      have hbR := bR.lt
      have Hx := Lib.hid hx
      clear hx
      have hl := qualGo_len r (cs.take k) 0
      rw [List.length_take] at hl
      have hRS : ∀ e, Calls Try.prog 61 #[.agg #[.int .i64 r.yr, .int .i64 r.lo, .int .i64 r.hi, .slice A r.zones.length ca, .slice B r.jobs.length d], .agg #[.int .i64 x.num, .string x.first, .string x.last, .int .i64 x.born, .int .i64 x.zone, .bool x.cit, .bool x.conv, .bool x.flu, .int .i64 x.job]] (World.ext wr e) fun e' w' => e' = .returned (.int .i64 (r.against x)) ∧ Below (World.ext wr e).heap.size (World.ext wr e) w' := fun e => specReasons_any r x _ _ _ _ _ (SlR.ext hz (Nat.le_refl _) e) (SlR.ext hj (Nat.le_refl _) e) (by omega) (by omega)
      go_wp2_with fail
      refine wp_region_ext (by kernel_rfl) (by kernel_rfl) ?_
      repeat (go_big_quiet_step ((go_at_call 61; with_reducible exact calls_ext (hRS _))))
      refine wpQuiet_nil ?_
      intro w4 hb4
      have hown4 := hown.below hb4
      have hbr4 := hbr.trans (hb4.mono hbr.size)
      have hs4 := hbr4.size
      clear c0 c1 c2 c3 c4 c5 c6 c7 c8 d0 d1 d2 d3 d4 hRS
      by_cases h0 : r.against x = 0
      · have h0b : (r.against x == 0) = true := by simpa using h0
        have HG := Lib.hid (qualGo_yes Hx.out h0)
        clear h0
        generalize r.against x = ag at *
        go_wp2_with (at_builtin; refine wpList_append_rec (f := i64s) (s := 1) 2 _ _ (fun _ => rfl) i64s_one rfl _ _ 22 rfl w2.heap.size Try.infoI Try.underlying22 rfl (by decide) _ _ (k : Int) rfl hown4 rfl rfl rfl (by omega) (by omega) (by omega) ?_)
        intro v' w5 o5 hb5
        have hb5 := hb5 _ _ hbr4 (Nat.le_refl _)
        go_wp2_with fail
        go_roundw
        case rel => exact ⟨k + 1, by go_num, hlt, by rw [HG.out]; exact o5, hb5⟩
        case measure => simp [intOf]; omega
      · have h0b : (r.against x == 0) = false := by simpa using h0
        have HG := Lib.hid (qualGo_no Hx.out h0)
        clear h0
        generalize r.against x = ag at *
        go_wp2_with fail
        go_roundw
        case rel => exact ⟨k + 1, by go_num, hlt, by rw [HG.out]; exact hown4, hbr4⟩
        case measure => simp [intOf]; omega
    · have hkn : k = cs.length := by omega
      subst hkn
      rw [List.take_length] at hown
      have hown := hown.more (base' := w.heap.size) hw2
      go_wp2_with fail
      go_ret2
      exact ⟨_, by rw [E.out]; rfl, by rw [E.out]; exact hown, hB⟩
end Go.Proofs.Ytkhojhgcopnenaa
