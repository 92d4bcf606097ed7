/- How many candidates each reason holds against: the program's and the reference's answer the same function. No condition but the sizes that the law itself asks. -/
import Derived.Test.YtkhojhgcopnenaaQualG
namespace Go.Proofs.Ytkhojhgcopnenaa
open Go.RowKit
attribute [local go_sem ↓] Go.wp_at_zero Go.wp_at_succ

def truthL (r : R5) (c : K9) : List Bool := [decide (r.yr - c.born < r.lo), decide (r.hi < r.yr - c.born), !hasB c.zone r.zones, !c.cit, c.conv, !c.flu, hasB c.job r.jobs]
def b2i (b : Bool) : Int := if b then 1 else 0
def cntAdd (xs : List Int) (bs : List Bool) : List Int := List.zipWith (fun x b => x + b2i b) xs bs
def cntPart (xs : List Int) (bs : List Bool) (k : Nat) : List Int := (cntAdd xs bs).take k ++ xs.drop k
def cntGo (r : R5) (cs : List K9) : List Int := cs.foldl (fun acc c => cntAdd acc (truthL r c)) [0, 0, 0, 0, 0, 0, 0]
def countF (r : R5) (cs : List K9) : List Int × Int := if candOk r cs = true then (cntGo r cs, 0) else ([], 1)
theorem truthL_len (r : R5) (c : K9) : (truthL r c).length = 7 := rfl
theorem cntAdd_len {xs : List Int} {bs : List Bool} (h : xs.length = 7) (h2 : bs.length = 7) : (cntAdd xs bs).length = 7 := by simp [cntAdd, h, h2]
theorem b2i_b (b : Bool) : 0 ≤ b2i b ∧ b2i b ≤ 1 := by cases b <;> simp [b2i]
theorem cntPart_zero (xs : List Int) (bs : List Bool) : cntPart xs bs 0 = xs := by simp [cntPart]
theorem cntPart_end {xs : List Int} {bs : List Bool} (h : xs.length = 7) (h2 : bs.length = 7) : cntPart xs bs 7 = cntAdd xs bs := by
  unfold cntPart
  rw [List.take_of_length_le (by rw [cntAdd_len h h2]; exact Nat.le_refl _), List.drop_of_length_le (by omega), List.append_nil]
theorem cntPart_len {xs : List Int} {bs : List Bool} (h : xs.length = 7) (h2 : bs.length = 7) {k : Nat} (hk : k ≤ 7) : (cntPart xs bs k).length = 7 := by
  unfold cntPart
  rw [List.length_append, List.length_take, List.length_drop, cntAdd_len h h2, h]; omega
theorem cntPart_at {xs : List Int} {bs : List Bool} (h : xs.length = 7) (h2 : bs.length = 7) {k : Nat} {x : Int} (hx : xs[k]? = some x) : (cntPart xs bs k)[k]? = some x := by
  have hk : k < xs.length := (List.getElem?_eq_some_iff.1 hx).1
  have hl : ((cntAdd xs bs).take k).length = k := by rw [List.length_take, cntAdd_len h h2]; omega
  unfold cntPart
  rw [List.getElem?_append_right (by omega), hl, Nat.sub_self, List.getElem?_drop]; simpa using hx
theorem cntPart_step {xs : List Int} {bs : List Bool} (h : xs.length = 7) (h2 : bs.length = 7) {k : Nat} {x : Int} {b : Bool} (hx : xs[k]? = some x) (hb : bs[k]? = some b) : cntPart xs bs (k + 1) = (cntPart xs bs k).set k (x + b2i b) := by
  have hk : k < xs.length := (List.getElem?_eq_some_iff.1 hx).1
  have hl : ((cntAdd xs bs).take k).length = k := by rw [List.length_take, cntAdd_len h h2]; omega
  have ha : (cntAdd xs bs)[k]? = some (x + b2i b) := by simp [cntAdd, List.getElem?_zipWith, hx, hb]
  unfold cntPart
  rw [take_snoc ha, List.set_append_right _ _ (by omega), hl, Nat.sub_self, drop_cons hx, List.set_cons_zero, List.append_assoc]; rfl
theorem cntPart_same {xs : List Int} {bs : List Bool} (h : xs.length = 7) (h2 : bs.length = 7) {k : Nat} {x : Int} (hx : xs[k]? = some x) (hb : bs[k]? = some false) : cntPart xs bs (k + 1) = cntPart xs bs k := by
  rw [cntPart_step h h2 hx hb]
  apply List.ext_getElem?
  intro i
  rw [List.getElem?_set]
  split
  · next e =>
    subst e
    have hl := (List.getElem?_eq_some_iff.1 (cntPart_at h h2 hx)).1
    rw [cntPart_at h h2 hx, if_pos hl]
    simp [b2i]
  · rfl
theorem cntGo_snoc {r : R5} {cs : List K9} {k : Nat} {c : K9} (h : cs[k]? = some c) : cntGo r (cs.take (k + 1)) = cntAdd (cntGo r (cs.take k)) (truthL r c) := by
  unfold cntGo; rw [take_snoc h, List.foldl_append]; rfl
theorem cntGo_ok (r : R5) (cs : List K9) : ∀ k, k ≤ cs.length → (cntGo r (cs.take k)).length = 7 ∧ ∀ x ∈ cntGo r (cs.take k), 0 ≤ x ∧ x ≤ (k : Int)
  | 0, _ => by
    refine ⟨rfl, fun x hx => ?_⟩
    have : x = 0 := by simpa [cntGo] using hx
    subst this; simp
  | k + 1, hk => by
    obtain ⟨h1, h2⟩ := cntGo_ok r cs k (by omega)
    obtain ⟨c, hc⟩ := some_at (show k < cs.length by omega)
    rw [cntGo_snoc hc]
    refine ⟨cntAdd_len h1 rfl, fun x hx => ?_⟩
    obtain ⟨i, hi⟩ := List.mem_iff_getElem?.1 hx
    rw [cntAdd, List.getElem?_zipWith] at hi
    cases hq : (cntGo r (cs.take k))[i]? with
    | none => simp [hq] at hi
    | some q =>
      cases hb : (truthL r c)[i]? with
      | none => simp [hq, hb] at hi
      | some t =>
        simp [hq, hb] at hi
        have h3 := h2 q (List.mem_of_getElem? hq)
        have h4 := b2i_b t
        omega
theorem countF_len (r : R5) (cs : List K9) : (countF r cs).1.length ≤ 60 := by
  unfold countF
  split
  · have := (cntGo_ok r cs cs.length (Nat.le_refl _)).1
    rw [List.take_length] at this
    rw [this]; decide
  · simp
theorem zeros7 {w : World} {base : Nat} {e : TypeId} {v : Value} (h : w.ownsRow base e 1 v 7 (madeCells (Value.int IntKind.i64 0).cells (7 * 1)).toList) : OwnR i64s 1 w base e v [0, 0, 0, 0, 0, 0, 0] := by
  have e1 : (madeCells (Value.int IntKind.i64 0).cells (7 * 1)).toList = ([0, 0, 0, 0, 0, 0, 0] : List Int).flatMap i64s := toList_madeCells_one (.int .i64 0) 7
  rw [e1] at h
  exact h
theorem own_intAt {w : World} {base : Nat} {e : TypeId} {g n c k : Nat} {xs : List Int} {x : Int} (h : OwnR i64s 1 w base e (.slice (some ⟨g, 0, none⟩) n c) xs) (hx : xs[k]? = some x) : w.cell? ⟨g, k, none⟩ = some (.int .i64 x) ∧ w.frozen? ⟨g, k, none⟩ = false := by
  obtain ⟨b, off, e1, _, _, h3⟩ := SlR.int_at (own_slI h) hx
  injection e1 with e1
  injection e1 with e1 e2
  subst e1 e2
  rw [Nat.zero_add] at h3
  have hk : k < xs.length := (List.getElem?_eq_some_iff.1 hx).1
  have hn : n = xs.length := by
    obtain ⟨A, c', e2, _⟩ := own_form (OwnR.own h)
    injection e2
  subst hn
  exact ⟨h3, (own_cellAt (OwnR.own h) k (by omega)).2⟩
theorem own_intSet {w : World} {base : Nat} {e : TypeId} {g n c k : Nat} {xs : List Int} {x : Int} (h : OwnR i64s 1 w base e (.slice (some ⟨g, 0, none⟩) n c) xs) (hx : xs[k]? = some x) (y : Int) : OwnR i64s 1 (w.setCell ⟨g, k, none⟩ (.int .i64 y)) base e (.slice (some ⟨g, 0, none⟩) n c) (xs.set k y) := by
  have := own_setField (f := i64s) (s := 1) (fun _ => rfl) (j := 0) (u := .int .i64 y) (x' := y) h hx (by omega) rfl
  simpa using this

set_option maxRecDepth 100000 in
set_option maxHeartbeats 8000000 in
theorem specCountReasons_any (r : R5) (vz vj v : Value) (cs : List K9) (w : World) (lo lo' lo2 : Nat) (hz : SlI w lo w.heap.size vz r.zones) (hj : SlI w lo' w.heap.size vj r.jobs) (hc : SlR K9.vals 9 w lo2 w.heap.size v cs) (hs : ∀ x ∈ cs, x.small) :
    Calls Try.prog 24 #[.agg #[.int .i64 r.yr, .int .i64 r.lo, .int .i64 r.hi, vz, vj], v] w fun e w' => ∃ v', e = .returned (.tuple #[v', .int .i64 (countF r cs).2]) ∧ OwnR i64s 1 w' w.heap.size 2 v' (countF r cs).1 ∧ Below w.heap.size w w' := by
  obtain ⟨A, ca, rfl, _, _⟩ := hz.form
  obtain ⟨B, d, rfl, _, _⟩ := hj.form
  obtain ⟨C, cc, rfl, _, _⟩ := hc.form
  have bR := Blk.new w 41 #[.int .i64 r.yr, .int .i64 r.lo, .int .i64 r.hi, .slice A r.zones.length ca, .slice B r.jobs.length d]
  have hB : Below w.heap.size w (w.alloc (.cells #[.int .i64 r.yr, .int .i64 r.lo, .int .i64 r.hi, .slice A r.zones.length ca, .slice B r.jobs.length d] 41)) := (Below.refl _ _).alloc (Nat.le_refl _) _
  go_enter Try.func24, Try.ntmps24
  go_wp2_with fail
  generalize (w.alloc (.cells #[.int .i64 r.yr, .int .i64 r.lo, .int .i64 r.hi, .slice A r.zones.length ca, .slice B r.jobs.length d] 41)) = w1 at *
  replace hz := hz.bel hB
  replace hj := hj.bel hB
  replace hc := hc.bel hB
  refine (l06Code_any r _ _ _ cs w1 _ _ _ hz hj hc hs).mono ?_
  rintro e w2 ⟨rfl, hb2⟩
  replace hz := hz.bel hb2
  replace hj := hj.bel hb2
  replace hc := hc.bel hb2
  replace bR := bR.below' hb2
  replace hB := hB.trans (hb2.mono hB.size)
  clear hb2 hs
  cases hok : candOk r cs
  · have E := Lib.hid (show countF r cs = ([], 1) by simp [countF, hok])
    have hcd : candCode r cs = 1 := by simp [candCode, hok]
    rw [hcd]
    go_wp2_with fail
    go_ret2
    exact ⟨.slice none 0 0, by rw [E.out]; rfl, by rw [E.out]; exact own_nil _ _ _ _ _, hB⟩
  have E := Lib.hid (show countF r cs = (cntGo r cs, 0) by simp [countF, hok])
  have hcd : candCode r cs = 0 := by simp [candCode, hok]
  rw [hcd]
  obtain ⟨hrok, hall, hlen⟩ := candOk_parts hok
  have HR := Lib.hid hrok
  have HA := Lib.hid hall
  clear hok hrok hall
  have hw2 := hB.size
  obtain ⟨i0, hi, hz0, hz1, hz2⟩ := info_parts Try.infoI
  have HI := Lib.hid (And.intro hi (And.intro hz0 (And.intro hz1 hz2)))
  clear hi hz0 hz1 hz2
  go_wp2_with (first | (at_make; refine wpList_make_full _ rfl _ _ 22 rfl w2.heap.size 2 i0 _ 1 Try.underlying22 HI.out.1 HI.out.2.1 HI.out.2.2.1 _ _ _ _ 7 rfl rfl rfl rfl ?c1 ?c2 ?c3 ?_))
  case c1 => rw [HI.out.2.2.2]; decide
  case c2 => unfold maxLen; decide
  case c3 => exact Nat.le_refl _
  intro w3 hown hgrow
  have o3 := zeros7 hown
  have hb3 : Below w2.heap.size w2 w3 := (Below.refl _ _).grown hgrow (Nat.le_refl _) (by intro k h; cases h)
  clear hown hgrow
  have hg3 := (World.ownsRow.lt (OwnR.own o3) w2.heap.size rfl).2
  go_wp2_with fail
  go_loopw [8] (fun i wr => ∃ (k : Nat), i = .int .i64 k ∧ k ≤ cs.length ∧ Hid (OwnR i64s 1 wr w2.heap.size 2 (.slice (some ⟨w2.heap.size, 0, none⟩) 7 7) (cntGo r (cs.take k))) ∧ w2.heap.size < wr.heap.size ∧ Below w2.heap.size w2 wr) (fun i wr => cs.length - (intOf i).toNat)
  case atStart => exact ⟨0, rfl, Nat.zero_le _, Lib.hid o3, hg3, hb3⟩
  case round =>
    clear o3 hg3 hb3
    obtain ⟨k, rfl, hk, HO, hgs, hbr⟩ := hrel
    have bR := bR.below' hbr
    have hz := hz.bel hbr
    have hj := hj.bel hbr
    have hc := hc.bel hbr
    have hBr := hB.trans (hbr.mono hB.size)
    have hsz := hbr.size
    by_cases hlt : k < cs.length
    · obtain ⟨x, hx⟩ := some_at hlt
      obtain ⟨hbd1, hbd2⟩ := ok_bounds HR.out (HA.out x (List.mem_of_getElem? hx))
      obtain ⟨b, off, rfl, _, hbb, _⟩ := at_K9 hc hx
      have HX := Lib.hid (cntGo_snoc (r := r) hx)
      obtain ⟨hl7, hbx⟩ := cntGo_ok r cs k (by omega)
      have HL7 := Lib.hid hl7
      have HBX := Lib.hid hbx
      have HK : Hid (∀ W, Below wr.heap.size wr W → W.cell? ⟨w.heap.size, 0, none⟩ = some (.int .i64 r.yr) ∧ W.cell? ⟨w.heap.size, 1, none⟩ = some (.int .i64 r.lo) ∧ W.cell? ⟨w.heap.size, 2, none⟩ = some (.int .i64 r.hi) ∧ W.cell? ⟨w.heap.size, 3, none⟩ = some (.slice A r.zones.length ca) ∧ W.cell? ⟨w.heap.size, 4, none⟩ = some (.slice B r.jobs.length d) ∧ W.cell? ⟨b, off + k * 9, none⟩ = some (.int .i64 x.num) ∧ W.cell? ⟨b, off + k * 9 + 1, none⟩ = some (.string x.first) ∧ W.cell? ⟨b, off + k * 9 + 2, none⟩ = some (.string x.last) ∧ W.cell? ⟨b, off + k * 9 + 3, none⟩ = some (.int .i64 x.born) ∧ W.cell? ⟨b, off + k * 9 + 4, none⟩ = some (.int .i64 x.zone) ∧ W.cell? ⟨b, off + k * 9 + 5, none⟩ = some (.bool x.cit) ∧ W.cell? ⟨b, off + k * 9 + 6, none⟩ = some (.bool x.conv) ∧ W.cell? ⟨b, off + k * 9 + 7, none⟩ = some (.bool x.flu) ∧ W.cell? ⟨b, off + k * 9 + 8, none⟩ = some (.int .i64 x.job)) := Lib.hid fun W hW => by
        obtain ⟨d0, d1, d2, d3, d4⟩ := r5_cells (bR.below' hW)
        obtain ⟨b', off', e', _, _, c0, c1, c2, c3, c4, c5, c6, c7, c8⟩ := at_K9 (hc.bel hW) hx
        injection e' with e'
        injection e' with e1 e2
        subst e1 e2
        exact ⟨d0, d1, d2, d3, d4, c0, c1, c2, c3, c4, c5, c6, c7, c8⟩
      clear hx hl7 hbx
      have hD : Below wr.heap.size wr wr.drew := (Below.refl _ _).drew
      have C1 := l06Truths_any r x _ _ wr.drew _ _ hz.drew hj.drew (by omega) (by omega)
      obtain ⟨d0, d1, d2, d3, d4, c0, c1, c2, c3, c4, c5, c6, c7, c8⟩ := HK.out _ (Below.refl _ _)
      go_wp2_with fail
      go_region_held3 (fun W => W.cell? ⟨w.heap.size, 0, none⟩ = some (.int .i64 r.yr) ∧ W.cell? ⟨w.heap.size, 1, none⟩ = some (.int .i64 r.lo) ∧ W.cell? ⟨w.heap.size, 2, none⟩ = some (.int .i64 r.hi) ∧ W.cell? ⟨w.heap.size, 3, none⟩ = some (.slice A r.zones.length ca) ∧ W.cell? ⟨w.heap.size, 4, none⟩ = some (.slice B r.jobs.length d) ∧ W.cell? ⟨b, off + k * 9, none⟩ = some (.int .i64 x.num) ∧ W.cell? ⟨b, off + k * 9 + 1, none⟩ = some (.string x.first) ∧ W.cell? ⟨b, off + k * 9 + 2, none⟩ = some (.string x.last) ∧ W.cell? ⟨b, off + k * 9 + 3, none⟩ = some (.int .i64 x.born) ∧ W.cell? ⟨b, off + k * 9 + 4, none⟩ = some (.int .i64 x.zone) ∧ W.cell? ⟨b, off + k * 9 + 5, none⟩ = some (.bool x.cit) ∧ W.cell? ⟨b, off + k * 9 + 6, none⟩ = some (.bool x.conv) ∧ W.cell? ⟨b, off + k * 9 + 7, none⟩ = some (.bool x.flu) ∧ W.cell? ⟨b, off + k * 9 + 8, none⟩ = some (.int .i64 x.job)) (first | exact HK.out _ (Below.refl _ _) | exact HK.out _ hD | exact HK.out _ hA4 | go_keep) (first
        | (go_at_call 64; (with_reducible refine C1.mono ?_); rintro e w4 ⟨g, rfl, hgg, bT, hb4⟩; have hA4 := hD.trans (hb4.mono (Nat.le_refl _))))
      clear d0 d1 d2 d3 d4 c0 c1 c2 c3 c4 c5 c6 c7 c8 HK C1 hD
      have bT : Blk w4 g 4 ((truthL r x).map Value.bool).toArray := bT
      have hgg : wr.heap.size ≤ g := hgg
      have HO4 := Lib.hid (HO.out.below hA4)
      have hb4 : Below w2.heap.size w2 w4 := hbr.trans (hA4.mono hsz)
      have hs4 := hb4.size
      have hgl := bT.lt
      have HT7 := Lib.hid (truthL_len r x)
      clear hA4 bR hz hj hc hBr hbr
      generalize truthL r x = bs at *
      generalize cntGo r (cs.take k) = xs at *
      go_wp2_with fail
      go_loopw [10] (fun q wr2 => ∃ (j : Nat), q = .int .i64 j ∧ j ≤ 7 ∧ Hid (OwnR i64s 1 wr2 w2.heap.size 2 (.slice (some ⟨w2.heap.size, 0, none⟩) 7 7) (cntPart xs bs j)) ∧ w4.grownBy wr2 (some w2.heap.size)) (fun q wr2 => 7 - (intOf q).toNat)
      case atStart => exact ⟨0, rfl, by omega, Lib.hid (by rw [cntPart_zero]; exact HO4.out), World.grownBy.refl _ _⟩
      case round =>
        obtain ⟨j, rfl, hj7, HOj, hgj⟩ := hrel
        have hsj := hgj.size
        by_cases hj : j < 7
        · obtain ⟨y, hy⟩ := some_at (show j < xs.length by rw [HL7.out]; exact hj)
          obtain ⟨t, ht⟩ := some_at (show j < bs.length by rw [HT7.out]; exact hj)
          have hyb := HBX.out y (List.mem_of_getElem? hy)
          have kt : wr.cell? ⟨g, j, none⟩ = some (.bool t) := by
            rw [(bT.grown hgj (fun e => by have := Option.some.inj e; omega)).cell j]
            simp [ht]
          obtain ⟨ky, kf⟩ := own_intAt HOj.out (cntPart_at HL7.out HT7.out hy)
          have HY := Lib.hid hy
          have HT := Lib.hid ht
          clear hy ht
          cases t
          · go_wp2_with fail
            go_roundw
            case rel => exact ⟨j + 1, by go_num, hj, Lib.hid (by rw [cntPart_same HL7.out HT7.out HY.out HT.out]; exact HOj.out), hgj⟩
            case measure => simp [intOf]; omega
          · go_wp2_with fail
            go_roundw
            case rel => exact ⟨j + 1, by go_num, hj, Lib.hid (by rw [cntPart_step HL7.out HT7.out HY.out HT.out]; exact own_intSet HOj.out (cntPart_at HL7.out HT7.out HY.out) (y + 1)), grownBy_trans hgj (grownBy_setCell _ _ _)⟩
            case measure => simp [intOf]; omega
        · obtain rfl : j = 7 := by omega
          have hfin := HOj.out
          rw [cntPart_end HL7.out HT7.out] at hfin
          have HF := Lib.hid hfin
          clear hfin
          go_wp2_with fail
          go_roundw
          case rel => exact ⟨k + 1, by go_num, hlt, Lib.hid (by rw [HX.out]; exact HF.out), by omega, hb4.grown hgj hs4 (fun q hq => by have := Option.some.inj hq; omega)⟩
          case measure => simp [intOf]; omega
    · have hkn : k = cs.length := by omega
      subst hkn
      have hown := HO.out
      rw [List.take_length] at hown
      have HOw := Lib.hid (hown.more (base' := w.heap.size) hw2)
      clear hown
      go_wp2_with fail
      go_ret2
      exact ⟨_, by rw [E.out]; rfl, by rw [E.out]; exact HOw.out, hBr⟩
end Go.Proofs.Ytkhojhgcopnenaa
