/- The reference's PutBack: contract. No condition but the sizes that the law itself asks. -/
import Derived.Test.YtfenedoalnieaaaPoolH
namespace Go.Proofs.Ytfenedoalnieaaa
open Go.RowKit
attribute [local go_sem ↓] Go.wp_at_zero Go.wp_at_succ

set_option maxRecDepth 100000 in
set_option maxHeartbeats 8000000 in
theorem specPutBack_any (vn vd : Value) (p : P3) (v : Value) (ns : List Int) (w : World) (lo lo' lo2 : Nat) (hn : SlI w lo w.heap.size vn p.nums) (hd : SlI w lo' w.heap.size vd p.drawn) (hs : SlI w lo2 w.heap.size v ns) (hl : p.nums.length ≤ 2097152) (hl' : p.drawn.length ≤ 2097152) :
    Calls Try.prog 29 #[.agg #[vn, vd, .int .i64 p.st], v] w fun e w' => ∃ xn xd, e = .returned (.tuple #[.agg #[xn, xd, .int .i64 (putF p ns).1.st], .int .i64 (putF p ns).2]) ∧ SlI w' w.heap.size w'.heap.size xn (putF p ns).1.nums ∧ SlI w' w.heap.size w'.heap.size xd (putF p ns).1.drawn ∧ Below w.heap.size w w' := by
  obtain ⟨A, c, rfl, hc1, hc2⟩ := hn.form
  obtain ⟨A', c', rfl, hc1', hc2'⟩ := hd.form
  obtain ⟨A2, c2, rfl, hc21, hc22⟩ := hs.form
  have up : ∀ {v : Value} {zs : List Int} {lo : Nat} {w1 : World}, SlI w lo w.heap.size v zs → Below w.heap.size w w1 → SlI w1 lo w1.heap.size v zs := fun h hb => (h.below hb (Nat.le_refl _)).more (Nat.le_refl _) hb.size
  go_enter Try.func29, Try.ntmps29
  go_wp2_with fail
  have bA : Blk ((w.alloc (.cells #[.slice A p.nums.length c, .slice A' p.drawn.length c', .int .i64 p.st] 27)).alloc (.cells #[.slice none 0 0, .slice none 0 0, .int .i64 0] 27)) w.heap.size _ _ := (Blk.new w _ _).alloc _
  have bR : Blk ((w.alloc (.cells #[.slice A p.nums.length c, .slice A' p.drawn.length c', .int .i64 p.st] 27)).alloc (.cells #[.slice none 0 0, .slice none 0 0, .int .i64 0] 27)) (w.heap.size + 1) _ _ := Blk.new' (by simp)
  have hB1 : Below w.heap.size w ((w.alloc (.cells #[.slice A p.nums.length c, .slice A' p.drawn.length c', .int .i64 p.st] 27)).alloc (.cells #[.slice none 0 0, .slice none 0 0, .int .i64 0] 27)) := ((Below.refl _ _).alloc (Nat.le_refl _) _).alloc (by simp) _
  generalize ((w.alloc (.cells #[.slice A p.nums.length c, .slice A' p.drawn.length c', .int .i64 p.st] 27)).alloc (.cells #[.slice none 0 0, .slice none 0 0, .int .i64 0] 27)) = w1 at *
  refine (specIsPool_any _ _ p w1 _ _ (up hn hB1) (up hd hB1)).mono ?_
  rintro e w2 ⟨rfl, hb2⟩
  have hB2 := hB1.trans (hb2.mono hB1.size)
  have z2 := hB2.size
  have bA := bA.below' hb2
  have bR := bR.below' hb2
  have lR := bR.lt
  clear hb2
  have c0 : w2.cell? ⟨w.heap.size + 1, 0, none⟩ = some (.slice none 0 0) := bR.cell 0
  have c1 : w2.cell? ⟨w.heap.size + 1, 1, none⟩ = some (.slice none 0 0) := bR.cell 1
  have c2' : w2.cell? ⟨w.heap.size + 1, 2, none⟩ = some (.int .i64 0) := bR.cell 2
  have f0 : w2.frozen? ⟨w.heap.size + 1, 0, none⟩ = false := bR.frozen 0
  have f1 : w2.frozen? ⟨w.heap.size + 1, 1, none⟩ = false := bR.frozen 1
  have f2 : w2.frozen? ⟨w.heap.size + 1, 2, none⟩ = false := bR.frozen 2
  cases h1 : poolOk p
  · have hF : putF p ns = (⟨[], [], 0⟩, 1) := by simp [putF, h1]
    go_wp2_with fail
    refine bodyPost_ret (v := .tuple #[.agg #[.slice none 0 0, .slice none 0 0, .int .i64 0], .int .i64 1]) (by simp [results, Try.results29, go_sem, c0, c1, c2']) rfl ⟨_, _, by rw [hF], by rw [hF]; exact slI_nil _ _ _, by rw [hF]; exact slI_nil _ _ _, ?_⟩
    repeat' refine Below.setCell ?_ (by simp) _
    exact hB2
  clear c0 c1 c2' f0 f1 f2
  go_wp2_with fail
  obtain ⟨wo, rfl⟩ : ∃ wo : World, wo = w2 := ⟨_, rfl⟩
  go_loopw [6] (fun i wr => ∃ (k : Nat), i = .int .i64 k ∧ k ≤ ns.length ∧ Hid (allIn p.drawn ns = allIn p.drawn (ns.drop k)) ∧ Below wo.heap.size wo wr) (fun i wr => ns.length - (intOf i).toNat)
  case atStart => exact ⟨0, rfl, Nat.zero_le _, Lib.hid rfl, Below.refl _ _⟩
  case round =>
    obtain ⟨k, rfl, hk, Hgo, hbr⟩ := hrel
    have hBr := hB2.trans (hbr.mono z2)
    have hsr := hbr.size
    have bRr := bR.below' hbr
    have c0 : wr.cell? ⟨w.heap.size + 1, 0, none⟩ = some (.slice none 0 0) := bRr.cell 0
    have c1 : wr.cell? ⟨w.heap.size + 1, 1, none⟩ = some (.slice none 0 0) := bRr.cell 1
    have c2' : wr.cell? ⟨w.heap.size + 1, 2, none⟩ = some (.int .i64 0) := bRr.cell 2
    have f0 : wr.frozen? ⟨w.heap.size + 1, 0, none⟩ = false := bRr.frozen 0
    have f1 : wr.frozen? ⟨w.heap.size + 1, 1, none⟩ = false := bRr.frozen 1
    have f2 : wr.frozen? ⟨w.heap.size + 1, 2, none⟩ = false := bRr.frozen 2
    have a1 : wr.cell? ⟨w.heap.size, 1, none⟩ = some (.slice A' p.drawn.length c') := (bA.below' hbr).cell 1
    have lA : w.heap.size < wr.heap.size := by omega
    by_cases hlt : k < ns.length
    · obtain ⟨x, hx⟩ := some_at hlt
      obtain ⟨b, off, rfl, _, hb, e0⟩ := (up hs hBr).int_at hx
      have hdr := hd.below hBr (Nat.le_refl _)
      have Hd := Lib.hid (drop_cons hx)
      clear hx
      cases h2 : hasB x p.drawn
      all_goals
        go_wp2_with fail
        refine wp_region_ext (by kernel_rfl) (by kernel_rfl) ?_
        repeat (go_big_quiet_step ((go_at_call 47; exact calls_ext_same (l01Has_as h2 (SlR.ext hdr (by omega) _)))))
        refine wpQuiet_nil ?_
        intro w3 hb3
        have hb3' : Below wr.heap.size wr w3 := by simpa using hb3
        have hBB := hbr.trans (hb3'.mono hsr)
        have bR3 := bR.below' hBB
        have c0 : w3.cell? ⟨w.heap.size + 1, 0, none⟩ = some (.slice none 0 0) := bR3.cell 0
        have c1 : w3.cell? ⟨w.heap.size + 1, 1, none⟩ = some (.slice none 0 0) := bR3.cell 1
        have c2' : w3.cell? ⟨w.heap.size + 1, 2, none⟩ = some (.int .i64 0) := bR3.cell 2
        have f0 : w3.frozen? ⟨w.heap.size + 1, 0, none⟩ = false := bR3.frozen 0
        have f1 : w3.frozen? ⟨w.heap.size + 1, 1, none⟩ = false := bR3.frozen 1
        have f2 : w3.frozen? ⟨w.heap.size + 1, 2, none⟩ = false := bR3.frozen 2
        go_wp2_with fail
      · have hA : allIn p.drawn ns = false := by rw [Hgo.out, Hd.out, allIn, h2]; rfl
        have hF : putF p ns = (⟨[], [], 0⟩, 4) := by simp [putF, h1, hA]
        refine bodyPost_ret (v := .tuple #[.agg #[.slice none 0 0, .slice none 0 0, .int .i64 0], .int .i64 4]) (by simp [results, Try.results29, go_sem, c0, c1, c2']) rfl ⟨_, _, by rw [hF], by rw [hF]; exact slI_nil _ _ _, by rw [hF]; exact slI_nil _ _ _, ?_⟩
        repeat' refine Below.setCell ?_ (by simp) _
        exact hB2.trans (hBB.mono z2)
      · go_roundw
        case rel => exact ⟨k + 1, by go_num, hlt, Lib.hid (by rw [Hgo.out, Hd.out, allIn, h2]; rfl), hBB⟩
        case measure => simp [intOf]; omega
    have hkn : k = ns.length := by omega
    subst hkn
    have hA : allIn p.drawn ns = true := by rw [Hgo.out, List.drop_length]; rfl
    have HA := Lib.hid hA
    clear hA Hgo c0 c1 c2' f0 f1 f2 a1
    go_wp2_with fail
    obtain ⟨wo2, rfl⟩ : ∃ wo2 : World, wo2 = wr := ⟨_, rfl⟩
    go_loopw [7] (fun i wr2 => ∃ (k : Nat), i = .int .i64 k ∧ k ≤ ns.length ∧ Hid (distGo [] ns = distGo (ns.take k) (ns.drop k)) ∧ Below wo2.heap.size wo2 wr2) (fun i wr2 => ns.length - (intOf i).toNat)
    case atStart => exact ⟨0, rfl, Nat.zero_le _, Lib.hid rfl, Below.refl _ _⟩
    case round =>
      obtain ⟨k, rfl, hk, Hgo, hbr2⟩ := hrel
      have hBr2 := hBr.trans (hbr2.mono (Nat.le_trans z2 hsr))
      have hsr2 := hbr2.size
      by_cases hlt : k < ns.length
      · obtain ⟨x, hx⟩ := some_at hlt
        obtain ⟨b, off, rfl, _, hb, e0⟩ := (up hs hBr2).int_at hx
        have hsn := hs.below hBr2 (Nat.le_refl _)
        have htk := hsn.take (k := k) (by omega)
        have Hd := Lib.hid (drop_cons hx)
        have Ht := Lib.hid (take_snoc hx)
        clear hx
        have q2 : (k : Int) ≤ (c2 : Int) := by omega
        cases h2 : hasB x (ns.take k)
        all_goals
          go_wp2_with fail
          refine wp_region_ext (by kernel_rfl) (by kernel_rfl) ?_
          repeat (go_big_quiet_step ((go_at_call 47; exact calls_ext_same (l01Has_as h2 (SlR.ext htk (by omega) _)))))
          refine wpQuiet_nil ?_
          intro w3 hb3
          have hb3' : Below wr.heap.size wr w3 := by simpa using hb3
          have hBB := hbr2.trans (hb3'.mono hsr2)
          have bR3 := (bR.below' hbr).below' hBB
          have c0 : w3.cell? ⟨w.heap.size + 1, 0, none⟩ = some (.slice none 0 0) := bR3.cell 0
          have c1 : w3.cell? ⟨w.heap.size + 1, 1, none⟩ = some (.slice none 0 0) := bR3.cell 1
          have c2' : w3.cell? ⟨w.heap.size + 1, 2, none⟩ = some (.int .i64 0) := bR3.cell 2
          have f0 : w3.frozen? ⟨w.heap.size + 1, 0, none⟩ = false := bR3.frozen 0
          have f1 : w3.frozen? ⟨w.heap.size + 1, 1, none⟩ = false := bR3.frozen 1
          have f2 : w3.frozen? ⟨w.heap.size + 1, 2, none⟩ = false := bR3.frozen 2
          go_wp2_with fail
        · go_roundw
          case rel => exact ⟨k + 1, by go_num, hlt, Lib.hid (by rw [Hgo.out, Hd.out, distGo, h2, Ht.out]; rfl), hBB⟩
          case measure => simp [intOf]; omega
        · have hA : distGo [] ns = false := by rw [Hgo.out, Hd.out, distGo, h2]; rfl
          have hF : putF p ns = (⟨[], [], 0⟩, 5) := by simp [putF, h1, HA.out, hA]
          refine bodyPost_ret (v := .tuple #[.agg #[.slice none 0 0, .slice none 0 0, .int .i64 0], .int .i64 5]) (by simp [results, Try.results29, go_sem, c0, c1, c2']) rfl ⟨_, _, by rw [hF], by rw [hF]; exact slI_nil _ _ _, by rw [hF]; exact slI_nil _ _ _, ?_⟩
          repeat' refine Below.setCell ?_ (by simp) _
          exact hBr.trans (hBB.mono (Nat.le_trans z2 hsr))
      have hkn : k = ns.length := by omega
      subst hkn
      have hA : distGo [] ns = true := by rw [Hgo.out, List.drop_length]; rfl
      have hF : putF p ns = (⟨p.nums, p.drawn.filter fun x => !hasB x ns, p.st⟩, 0) := by simp [putF, h1, HA.out, hA]
      have HF := Lib.hid hF
      clear hF hA Hgo
      have bA2 := (bA.below' hbr).below' hbr2
      have bR2 := (bR.below' hbr).below' hbr2
      have zz : w.heap.size ≤ wr.heap.size := hBr2.size
      go_wp2_with fail
      obtain ⟨w5, rfl⟩ : ∃ w5 : World, w5 = wr := ⟨_, rfl⟩
      go_loopw [8, 9] (fun q i wr3 => ∃ (k : Nat), i = .int .i64 k ∧ k ≤ p.drawn.length ∧ OwnR i64s 1 wr3 w5.heap.size 2 q ((p.drawn.take k).filter fun x => !hasB x ns) ∧ Below w5.heap.size w5 wr3) (fun q i wr3 => p.drawn.length - (intOf i).toNat)
      case atStart => exact ⟨0, rfl, Nat.zero_le _, own_empty _ _ 1 i64s, (Below.refl _ _).alloc (Nat.le_refl _) _⟩
      case round =>
        obtain ⟨k, rfl, hk, hown, hbr3⟩ := hrel
        have hsr3 := hbr3.size
        have hBr3 := hBr2.trans (hbr3.mono zz)
        have bA3 := bA2.below' hbr3
        have bR3 := bR2.below' hbr3
        have l3 := bR3.lt
        have a0 : wr.cell? ⟨w.heap.size, 0, none⟩ = some (.slice A p.nums.length c) := bA3.cell 0
        have a1 : wr.cell? ⟨w.heap.size, 1, none⟩ = some (.slice A' p.drawn.length c') := bA3.cell 1
        have a2 : wr.cell? ⟨w.heap.size, 2, none⟩ = some (.int .i64 p.st) := bA3.cell 2
        by_cases hlt : k < p.drawn.length
        · obtain ⟨x, hx⟩ := some_at hlt
          obtain ⟨b, off, rfl, _, hb, e0⟩ := (up hd hBr3).int_at hx
          have hfl : ((p.drawn.take k).filter fun x => !hasB x ns).length ≤ k := by
            have := List.length_filter_le (fun x => !hasB x ns) (p.drawn.take k)
            rw [List.length_take] at this; omega
          have hstep : (p.drawn.take (k + 1)).filter (fun x => !hasB x ns) = (p.drawn.take k).filter (fun x => !hasB x ns) ++ if hasB x ns = true then [] else [x] := by
            rw [take_snoc hx, List.filter_append]
            cases e : hasB x ns <;> simp [e]
          have Hstep := Lib.hid hstep
          clear hx hstep
          go_wp2_with fail
          refine (l01Has_any _ ns x _ _ _ (up hs hBr3)).mono ?_
          rintro e w6 ⟨rfl, rfl⟩
          cases h2 : hasB x ns
          · go_wp2_with (at_builtin; refine wpList_append_rec (f := i64s) (s := 1) 2 _ _ (fun _ => rfl) i64s_one rfl _ _ 22 rfl w5.heap.size Try.infoI Try.underlying22 rfl (by decide) _ _ x rfl hown rfl rfl rfl (by omega) (by omega) hsr3 ?_)
            intro v' w' hown' hbel
            go_wp2_with fail
            go_roundw
            case rel => exact ⟨k + 1, by go_num, hlt, by rw [Hstep.out, h2]; exact hown', hbel _ _ hbr3 (Nat.le_refl _)⟩
            case measure => simp [intOf]; omega
          · go_wp2_with fail
            go_roundw
            case rel => exact ⟨k + 1, by go_num, hlt, by rw [Hstep.out, h2]; simpa using hown, hbr3⟩
            case measure => simp [intOf]; omega
        · have hkn : k = p.drawn.length := by omega
          subst hkn
          rw [List.take_length] at hown
          obtain ⟨AQ, cQ, rfl, _, _, _⟩ := own_form (OwnR.own hown)
          go_wp2_with fail
          have hnd : SlR i64s 1 wr.drew lo wr.drew.heap.size (.slice A p.nums.length c) p.nums := (up hn hBr3).drew
          have bA3 : Blk wr.drew _ _ _ := bA3
          have bR3 : Blk wr.drew _ _ _ := bR3
          have C1 := l01Own_any (.slice A p.nums.length c) p.nums wr.drew lo hnd hl
          refine region_np ?_
          go_region_held3 (fun w' => w'.cell? ⟨w.heap.size, 0, none⟩ = some (.slice A p.nums.length c) ∧ w'.cell? ⟨w.heap.size, 2, none⟩ = some (.int .i64 p.st)) (first | exact ⟨a0, a2⟩ | exact ⟨g0, g2⟩ | go_keep) (first
            | (go_at_call 52; (with_reducible refine C1.mono ?_); rintro e w7 ⟨xn, rfl, o7, hb7⟩; have g0 := (bA3.below' hb7).cell 0; have g2 := (bA3.below' hb7).cell 2; have f0 := (bR3.below' hb7).frozen 0; have f1 := (bR3.below' hb7).frozen 1; have f2 := (bR3.below' hb7).frozen 2; have c0 := (bR3.below' hb7).cell 0; have c1 := (bR3.below' hb7).cell 1; have c2' := (bR3.below' hb7).cell 2; obtain ⟨XN, KN, rfl, _, _, _⟩ := own_form (OwnR.own o7)))
          have c0 : w7.cell? ⟨w.heap.size + 1, 0, none⟩ = some (.slice none 0 0) := c0
          have c1 : w7.cell? ⟨w.heap.size + 1, 1, none⟩ = some (.slice none 0 0) := c1
          have c2' : w7.cell? ⟨w.heap.size + 1, 2, none⟩ = some (.int .i64 0) := c2'
          have l2 := bR2.lt
          have hown7 := hown.drew.below hb7
          have z7 : wr.heap.size ≤ w7.heap.size := hb7.size
          have hB7 := hBr3.drew.trans (hb7.mono (show w.heap.size ≤ wr.drew.heap.size from hBr3.size))
          go_wp2_with fail
          have hlast : ∀ W, Chg (w.heap.size + 1) (w.heap.size + 1 + 1) w7 W → SlI W w.heap.size W.heap.size (.slice XN p.nums.length KN) p.nums ∧ SlI W w.heap.size W.heap.size (.slice AQ (p.drawn.filter fun x => !hasB x ns).length cQ) (p.drawn.filter fun x => !hasB x ns) := by
            intro W hc
            have q1 := (own_slI o7).chg hc (Nat.le_refl _) (.inr (show w.heap.size + 1 + 1 ≤ wr.heap.size by omega))
            have q2 := (own_slI hown7).chg hc (Nat.le_refl _) (by omega)
            exact ⟨q1.more (show w.heap.size ≤ wr.heap.size by omega) hc.size, q2.more (by omega) hc.size⟩
          have Hlast := Lib.hid hlast
          clear hlast
          refine bodyPost_ret (v := .tuple #[.agg #[.slice XN p.nums.length KN, .slice AQ (p.drawn.filter fun x => !hasB x ns).length cQ, .int .i64 p.st], .int .i64 0]) (by simp [results, Try.results29, go_sem, c0, c1, c2']) rfl ⟨_, _, by rw [HF.out], ?_, ?_, ?_⟩
          · rw [HF.out]
            refine (Hlast.out _ ?_).1
            repeat' refine Chg.setCell ?_ (by simp) _
            exact Chg.refl _ _ _
          · rw [HF.out]
            refine (Hlast.out _ ?_).2
            repeat' refine Chg.setCell ?_ (by simp) _
            exact Chg.refl _ _ _
          · repeat' refine Below.setCell ?_ (by simp) _
            exact hB7
end Go.Proofs.Ytfenedoalnieaaa
