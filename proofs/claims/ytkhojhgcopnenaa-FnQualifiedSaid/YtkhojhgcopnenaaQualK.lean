/- How many candidates each reason holds against: the program's function. No condition but the sizes that the law itself asks. -/
import Derived.Test.YtkhojhgcopnenaaQualJ
namespace Go.Proofs.Ytkhojhgcopnenaa
open Go.RowKit
attribute [local go_sem ↓] Go.wp_at_zero Go.wp_at_succ

theorem bits_one : ∀ v : Fin 128, Go.bits BinOp.and IntKind.i64 ((v.val : Nat) : Int) 1 = ((v.val % 2 : Nat) : Int) := by decide
theorem bits_bit : ∀ (b0 b1 b2 b3 b4 b5 b6 : Bool), (bits b0 b1 b2 b3 b4 b5 b6 7 / 2 ^ 0) % 2 = b2i b0 ∧ (bits b0 b1 b2 b3 b4 b5 b6 7 / 2 ^ 1) % 2 = b2i b1 ∧ (bits b0 b1 b2 b3 b4 b5 b6 7 / 2 ^ 2) % 2 = b2i b2 ∧ (bits b0 b1 b2 b3 b4 b5 b6 7 / 2 ^ 3) % 2 = b2i b3 ∧ (bits b0 b1 b2 b3 b4 b5 b6 7 / 2 ^ 4) % 2 = b2i b4 ∧ (bits b0 b1 b2 b3 b4 b5 b6 7 / 2 ^ 5) % 2 = b2i b5 ∧ (bits b0 b1 b2 b3 b4 b5 b6 7 / 2 ^ 6) % 2 = b2i b6 := by decide
theorem against_bit (r : R5) (c : K9) : ∀ (i : Nat) (t : Bool), (truthL r c)[i]? = some t → Go.bits BinOp.and IntKind.i64 ((r.against c) / 2 ^ i) 1 = b2i t := by
  intro i t h
  have hb : 0 ≤ r.against c ∧ r.against c ≤ 127 := bits_b _ _ _ _ _ _ _ 7 (Nat.le_refl _)
  have h0 : 0 ≤ r.against c / 2 ^ i := Int.ediv_nonneg hb.1 (Int.le_of_lt (Int.pow_pos (by decide)))
  have h1 : r.against c / 2 ^ i ≤ 127 := Int.le_trans (Int.ediv_le_self _ hb.1) hb.2
  have h2 : (r.against c / 2 ^ i) % 2 = b2i t := by
    obtain ⟨g0, g1, g2, g3, g4, g5, g6⟩ := bits_bit (decide (r.yr - c.born < r.lo)) (decide (r.hi < r.yr - c.born)) (!hasB c.zone r.zones) (!c.cit) c.conv (!c.flu) (hasB c.job r.jobs)
    match i, h with
    | 0, h => cases h; exact g0
    | 1, h => cases h; exact g1
    | 2, h => cases h; exact g2
    | 3, h => cases h; exact g3
    | 4, h => cases h; exact g4
    | 5, h => cases h; exact g5
    | 6, h => cases h; exact g6
    | n + 7, h => simp [truthL] at h
  generalize r.against c / 2 ^ i = v at *
  obtain ⟨n, rfl⟩ : ∃ n : Nat, v = (n : Int) := ⟨v.toNat, by omega⟩
  have h3 : Go.bits BinOp.and IntKind.i64 (n : Int) 1 = ((n % 2 : Nat) : Int) := bits_one ⟨n, by omega⟩
  rw [h3, ← h2]; omega

set_option maxRecDepth 100000 in
set_option maxHeartbeats 8000000 in
theorem implCountReasons_any (r : R5) (vz vj v : Value) (cs : List K9) (w : World) (lo lo' lo2 : Nat) (hz : SlI w lo w.heap.size vz r.zones) (hj : SlI w lo' w.heap.size vj r.jobs) (hc : SlR K9.vals 9 w lo2 w.heap.size v cs) (hs : ∀ x ∈ cs, x.small) :
    Calls Try.prog 26 #[.agg #[.int .i64 r.yr, .int .i64 r.lo, .int .i64 r.hi, vz, vj], v] w fun e w' => ∃ v', e = .returned (.tuple #[v', .int .i64 (countF r cs).2]) ∧ OwnR i64s 1 w' w.heap.size 2 v' (countF r cs).1 ∧ Below w.heap.size w w' := by
  obtain ⟨A, ca, rfl, _, _⟩ := hz.form
  obtain ⟨B, d, rfl, _, _⟩ := hj.form
  obtain ⟨C, cc, rfl, _, _⟩ := hc.form
  have bR := Blk.new w 41 #[.int .i64 r.yr, .int .i64 r.lo, .int .i64 r.hi, .slice A r.zones.length ca, .slice B r.jobs.length d]
  have hB : Below w.heap.size w (w.alloc (.cells #[.int .i64 r.yr, .int .i64 r.lo, .int .i64 r.hi, .slice A r.zones.length ca, .slice B r.jobs.length d] 41)) := (Below.refl _ _).alloc (Nat.le_refl _) _
  go_enter Try.func26, Try.ntmps26
  go_wp2_with fail
  generalize (w.alloc (.cells #[.int .i64 r.yr, .int .i64 r.lo, .int .i64 r.hi, .slice A r.zones.length ca, .slice B r.jobs.length d] 41)) = w1 at *
  replace hz := hz.bel hB
  replace hj := hj.bel hB
  replace hc := hc.bel hB
  refine (candidatesOk_any r _ _ _ cs w1 _ _ _ hz hj hc hs).mono ?_
  rintro e w2 ⟨rfl, hb2⟩
  replace hz := hz.bel hb2
  replace hj := hj.bel hb2
  replace hc := hc.bel hb2
  replace bR := bR.below' hb2
  replace hB := hB.trans (hb2.mono hB.size)
  clear hb2 hs
  cases hok : candOk r cs
  · have E := Lib.hid (show countF r cs = ([], 1) by simp [countF, hok])
    have hcd : candCode r cs = 1 := by simp [candCode, hok]
    clear hcd
    go_wp2_with fail
    go_ret2
    exact ⟨.slice none 0 0, by rw [E.out]; rfl, by rw [E.out]; exact own_nil _ _ _ _ _, hB⟩
  have E := Lib.hid (show countF r cs = (cntGo r cs, 0) by simp [countF, hok])
  have hcd : candCode r cs = 0 := by simp [candCode, hok]
  clear hcd
  obtain ⟨hrok, hall, hlen⟩ := candOk_parts hok
  have HR := Lib.hid hrok
  have HA := Lib.hid hall
  clear hok hrok hall
  have hw2 := hB.size
  have hRw := bR.lt
  obtain ⟨i0, hi, hz0, hz1, hz2⟩ := info_parts Try.infoI
  have HI := Lib.hid (And.intro hi (And.intro hz0 (And.intro hz1 hz2)))
  clear hi hz0 hz1 hz2
  go_wp2_with (first | (at_make; refine wpList_make_full _ rfl _ _ 22 rfl w2.heap.size 2 i0 _ 1 Try.underlying22 HI.out.1 HI.out.2.1 HI.out.2.2.1 _ _ _ _ 7 rfl rfl rfl rfl ?c1 ?c2 ?c3 ?_))
  case c1 => rw [HI.out.2.2.2]; decide
  case c2 => unfold maxLen; decide
  case c3 => exact Nat.le_refl _
  intro w3 hown hgrow
  have o3 := zeros7 hown
  have hb3 : Below w2.heap.size w2 w3 := (Below.refl _ _).grown hgrow (Nat.le_refl _) (by intro k h; cases h)
  clear hown hgrow
  have hg3 := (World.ownsRow.lt (OwnR.own o3) w2.heap.size rfl).2
  go_wp2_with fail
  go_loopw [17] (fun i wr => ∃ (k : Nat), i = .int .i64 k ∧ k ≤ cs.length ∧ Hid (OwnR i64s 1 wr w2.heap.size 2 (.slice (some ⟨w2.heap.size, 0, none⟩) 7 7) (cntGo r (cs.take k))) ∧ w2.heap.size < wr.heap.size ∧ Below w2.heap.size w2 wr) (fun i wr => cs.length - (intOf i).toNat)
  case atStart => exact ⟨0, rfl, Nat.zero_le _, Lib.hid o3, hg3, hb3⟩
  case round =>
    clear o3 hg3 hb3
    obtain ⟨k, rfl, hk, HO, hgs, hbr⟩ := hrel
    have bR := bR.below' hbr
    have hzr := hz.bel hbr
    have hjr := hj.bel hbr
    have hcr := hc.bel hbr
    have hBr := hB.trans (hbr.mono hB.size)
    have hsz := hbr.size
    by_cases hlt : k < cs.length
    · obtain ⟨x, hx⟩ := some_at hlt
      have HBD := Lib.hid (ok_bounds HR.out (HA.out x (List.mem_of_getElem? hx)))
      obtain ⟨b, off, rfl, _, hbb, c0, c1, c2, c3, c4, c5, c6, c7, c8⟩ := at_K9 hcr hx
      have HX := Lib.hid (cntGo_snoc (r := r) hx)
      obtain ⟨hl7, hbx⟩ := cntGo_ok r cs k (by omega)
      have HL7 := Lib.hid hl7
      have HBX := Lib.hid hbx
      clear hx hl7 hbx
      have hAl : Below wr.heap.size wr (wr.alloc (.cells #[.int .i64 x.num, .string x.first, .string x.last, .int .i64 x.born, .int .i64 x.zone, .bool x.cit, .bool x.conv, .bool x.flu, .int .i64 x.job] 45)) := (Below.refl _ _).alloc (Nat.le_refl _) _
      have bC := Blk.new wr 45 #[.int .i64 x.num, .string x.first, .string x.last, .int .i64 x.born, .int .i64 x.zone, .bool x.cit, .bool x.conv, .bool x.flu, .int .i64 x.job]
      go_wp2_with fail
      generalize (wr.alloc (.cells #[.int .i64 x.num, .string x.first, .string x.last, .int .i64 x.born, .int .i64 x.zone, .bool x.cit, .bool x.conv, .bool x.flu, .int .i64 x.job] 45)) = wa at *
      have bRa := bR.below' hAl
      have hba := hbr.trans (hAl.mono hsz)
      have hsa := hba.size
      have HOa := Lib.hid (HO.out.below hAl)
      have hz := hz
      have hCB := bC.lt
      have hCG : w2.heap.size ≤ wr.heap.size := hsz
      have hCw : w.heap.size < w2.heap.size := hRw
      generalize hCBe : wr.heap.size = CB at *
      clear hCBe hAl HO c0 c1 c2 c3 c4 c5 c6 c7 c8 hzr hjr hcr hbr bR hBr
      have HAB : Hid (∀ (i : Nat) (t : Bool), (truthL r x)[i]? = some t → Go.bits BinOp.and IntKind.i64 ((r.against x) / 2 ^ i) 1 = b2i t) := Lib.hid (against_bit r x)
      have HAN : Hid (0 ≤ r.against x ∧ r.against x ≤ 127) := Lib.hid (bits_b _ _ _ _ _ _ _ 7 (Nat.le_refl _))
      have HT7 := Lib.hid (truthL_len r x)
      generalize hbs : truthL r x = bs at *
      generalize cntGo r (cs.take k) = xs at *
      clear hbs
      go_loopw [23] (fun q wr2 => ∃ (j : Nat), q = .int .i64 j ∧ j ≤ 7 ∧ Hid (OwnR i64s 1 wr2 w2.heap.size 2 (.slice (some ⟨w2.heap.size, 0, none⟩) 7 7) (cntPart xs bs j)) ∧ wa.grownBy wr2 (some w2.heap.size)) (fun q wr2 => 7 - (intOf q).toNat)
      case atStart => exact ⟨0, rfl, by omega, Lib.hid (by rw [cntPart_zero]; exact HOa.out), World.grownBy.refl _ _⟩
      case round =>
        obtain ⟨j, rfl, hj7, HOj, hgj⟩ := hrel
        have hsj := hgj.size
        by_cases hj' : j < 7
        · obtain ⟨y, hy⟩ := some_at (show j < xs.length by rw [HL7.out]; exact hj')
          obtain ⟨t, ht⟩ := some_at (show j < bs.length by rw [HT7.out]; exact hj')
          have hyb := HBX.out y (List.mem_of_getElem? hy)
          have hbj : Below w2.heap.size w2 wr := hba.grown hgj hsa (fun q hq => by have := Option.some.inj hq; omega)
          obtain ⟨ky, kf⟩ := own_intAt HOj.out (cntPart_at HL7.out HT7.out hy)
          obtain ⟨d0, d1, d2, d3, d4⟩ := r5_cells (bRa.grown hgj (fun e => by have := Option.some.inj e; omega))
          obtain ⟨e0, e1, e2, e3, e4, e5, e6, e7, e8⟩ := r9_cells (bC.grown hgj (fun e => by have := Option.some.inj e; omega))
          have HY := Lib.hid hy
          have HT := Lib.hid ht
          clear hy ht
          have hag := HAN.out
          have hbt := HAB.out j t HT.out
          have hbb2 := b2i_b t
          have HST := Lib.hid (cntPart_step HL7.out HT7.out HY.out HT.out)
          have HOD := Lib.hid HOj.out.drew
          have bR1 := bRa.grown hgj (fun e => by have := Option.some.inj e; omega)
          have bC1 := bC.grown hgj (fun e => by have := Option.some.inj e; omega)
          have C1 := implReasons_any r x _ _ wr.drew _ _ (hz.bel hbj).drew (hj.bel hbj).drew (by have := HBD.out; omega) (by have := HBD.out; omega)
          have KR : Hid (∀ W, Below wr.heap.size wr.drew W → (W.cell? ⟨w2.heap.size, j, none⟩ = some (.int .i64 y) ∧ W.frozen? ⟨w2.heap.size, j, none⟩ = false) ∧ (W.cell? ⟨w.heap.size, 0, none⟩ = some (.int .i64 r.yr) ∧ W.cell? ⟨w.heap.size, 1, none⟩ = some (.int .i64 r.lo) ∧ W.cell? ⟨w.heap.size, 2, none⟩ = some (.int .i64 r.hi) ∧ W.cell? ⟨w.heap.size, 3, none⟩ = some (.slice A r.zones.length ca) ∧ W.cell? ⟨w.heap.size, 4, none⟩ = some (.slice B r.jobs.length d)) ∧ (W.cell? ⟨CB, 0, none⟩ = some (.int .i64 x.num) ∧ W.cell? ⟨CB, 1, none⟩ = some (.string x.first) ∧ W.cell? ⟨CB, 2, none⟩ = some (.string x.last) ∧ W.cell? ⟨CB, 3, none⟩ = some (.int .i64 x.born) ∧ W.cell? ⟨CB, 4, none⟩ = some (.int .i64 x.zone) ∧ W.cell? ⟨CB, 5, none⟩ = some (.bool x.cit) ∧ W.cell? ⟨CB, 6, none⟩ = some (.bool x.conv) ∧ W.cell? ⟨CB, 7, none⟩ = some (.bool x.flu) ∧ W.cell? ⟨CB, 8, none⟩ = some (.int .i64 x.job))) := Lib.hid fun W hW => by
            have bR2 := bR1.below' ((Below.refl wr.heap.size wr).drew.trans hW)
            have bC2 := bC1.below' ((Below.refl wr.heap.size wr).drew.trans hW)
            exact ⟨own_intAt (HOD.out.below hW) (cntPart_at HL7.out HT7.out HY.out), r5_cells bR2, r9_cells bC2⟩
          generalize r.against x = ag at *
          generalize b2i t = bt at *
          clear HAB HT
          go_wp2_with fail
          go_region_with (first
            | (go_at_call 63; (with_reducible refine C1.mono ?_); rintro e w4 ⟨rfl, hb4⟩; obtain ⟨⟨ky4, kf4⟩, ⟨q0, q1, q2, q3, q4⟩, ⟨p0, p1, p2, p3, p4, p5, p6, p7, p8⟩⟩ := KR.out w4 hb4))
          all_goals
            go_wp2_with fail
            go_roundw
            case rel => exact ⟨j + 1, by go_num, hj', Lib.hid (by rw [HST.out]; exact own_intSet (HOD.out.below hb4) (cntPart_at HL7.out HT7.out HY.out) (y + bt)), grownBy_trans (grownBy_trans (grownBy_trans hgj (World.grownBy.drew _ _)) (grownBy_of_below hb4)) (grownBy_setCell _ _ _)⟩
            case measure => simp [intOf]; omega
        · obtain rfl : j = 7 := by omega
          have hfin := HOj.out
          rw [cntPart_end HL7.out HT7.out] at hfin
          have HF := Lib.hid hfin
          clear hfin
          go_wp2_with fail
          go_roundw
          case rel => exact ⟨k + 1, by go_num, hlt, Lib.hid (by rw [HX.out]; exact HF.out), by omega, hba.grown hgj hsa (fun q hq => by have := Option.some.inj hq; omega)⟩
          case measure => simp [intOf]; omega
    · have hkn : k = cs.length := by omega
      subst hkn
      have hown := HO.out
      rw [List.take_length] at hown
      have HOw := Lib.hid (hown.more (base' := w.heap.size) hw2)
      clear hown
      go_wp2_with fail
      go_ret2
      exact ⟨_, by rw [E.out]; rfl, by rw [E.out]; exact HOw.out, hBr⟩
end Go.Proofs.Ytkhojhgcopnenaa
