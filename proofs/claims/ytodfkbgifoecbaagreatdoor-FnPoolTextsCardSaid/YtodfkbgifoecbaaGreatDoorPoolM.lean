/- The reference's draws from a pool: contract of l08Draw. No condition but the sizes that the law itself asks. -/
import Derived.Test.YtodfkbgifoecbaaGreatDoorPoolL
namespace Go.Proofs.YtodfkbgifoecbaaGreatDoor
open Go.RowKit
attribute [local go_sem ↓] Go.wp_at_zero Go.wp_at_succ

theorem apart_step {a b c : Option Nat} {n : Nat} (h : ∀ g, a = some g → b ≠ some g) (hb : ∀ g, b = some g → g < n) (h5 : c = a ∨ c = some (n + 1)) : ∀ g, c = some g → b ≠ some g := by
  intro g hc hbg
  rcases h5 with h5 | h5
  · exact h g (h5 ▸ hc) hbg
  · have := hb g hbg
    rw [h5] at hc
    have := Option.some.inj hc
    omega

set_option maxRecDepth 100000 in
set_option maxHeartbeats 8000000 in
theorem l08Draw_any (vn vd : Value) (p : P3) (k : Nat) (w : World) (lo lo' : Nat) (hn : SlI w lo w.heap.size vn p.nums) (hd : SlI w lo' w.heap.size vd p.drawn) (hnd : p.nums.Nodup) (hk : k ≤ (leftOf p.nums p.drawn).length) (hs : 0 ≤ p.st ∧ p.st ≤ 2147483646) (hl : p.nums.length ≤ 60) (hl' : p.drawn.length ≤ 2000000) :
    Calls Tryz.prog 55 #[.agg #[vn, vd, .int .i64 p.st], .int .i64 k] w fun e w' => ∃ xn xd xo, e = .returned (.tuple #[.agg #[xn, xd, .int .i64 (drawGo p.nums k p.drawn p.st).2], xo]) ∧ SlI w' w.heap.size w'.heap.size xn p.nums ∧ SlI w' w.heap.size w'.heap.size xd (drawGo p.nums k p.drawn p.st).1 ∧ SlI w' w.heap.size w'.heap.size xo ((drawGo p.nums k p.drawn p.st).1.drop p.drawn.length) ∧ Below w.heap.size w w' := by
  obtain ⟨nums, drawn, st⟩ := p
  dsimp only at hn hd hnd hk hs hl hl' ⊢
  have hk60 : k ≤ 60 := Nat.le_trans hk (Nat.le_trans (List.length_filter_le _ _) hl)
  obtain ⟨A, c, rfl, hc1, hc2⟩ := hn.form
  obtain ⟨A', c', rfl, hc1', hc2'⟩ := hd.form
  go_enter Tryz.func55, Tryz.ntmps55
  go_wp2_with fail
  have bA : Blk (((w.alloc (.cells #[.slice A nums.length c, .slice A' drawn.length c', .int .i64 st] 26)).alloc (.cells #[.slice none 0 0, .slice none 0 0, .int .i64 0] 26)).alloc (.cells #[] 2)) w.heap.size _ _ := ((Blk.new w _ _).alloc _).alloc _
  have bR : Blk (((w.alloc (.cells #[.slice A nums.length c, .slice A' drawn.length c', .int .i64 st] 26)).alloc (.cells #[.slice none 0 0, .slice none 0 0, .int .i64 0] 26)).alloc (.cells #[] 2)) (w.heap.size + 1) _ _ := (Blk.new' (by simp)).alloc _
  have oE : OwnR i64s 1 (((w.alloc (.cells #[.slice A nums.length c, .slice A' drawn.length c', .int .i64 st] 26)).alloc (.cells #[.slice none 0 0, .slice none 0 0, .int .i64 0] 26)).alloc (.cells #[] 2)) (w.heap.size + 1 + 1) 2 (.slice (some ⟨w.heap.size + 1 + 1, 0, none⟩) 0 0) ([] : List Int) := by
    have := own_empty ((w.alloc (.cells #[.slice A nums.length c, .slice A' drawn.length c', .int .i64 st] 26)).alloc (.cells #[.slice none 0 0, .slice none 0 0, .int .i64 0] 26)) 2 1 i64s
    simpa using this
  have hB1 : Below w.heap.size w (((w.alloc (.cells #[.slice A nums.length c, .slice A' drawn.length c', .int .i64 st] 26)).alloc (.cells #[.slice none 0 0, .slice none 0 0, .int .i64 0] 26)).alloc (.cells #[] 2)) := (((Below.refl _ _).alloc (Nat.le_refl _) _).alloc (by simp) _).alloc (by simp; omega) _
  generalize (((w.alloc (.cells #[.slice A nums.length c, .slice A' drawn.length c', .int .i64 st] 26)).alloc (.cells #[.slice none 0 0, .slice none 0 0, .int .i64 0] 26)).alloc (.cells #[] 2)) = w1 at *
  have z1 := hB1.size
  have lR := bR.lt
  have up : ∀ {v : Value} {zs : List Int} {lo : Nat} {w1 : World}, SlI w lo w.heap.size v zs → Below w.heap.size w w1 → SlI w1 lo w1.heap.size v zs := fun h hb => (h.below hb (Nat.le_refl _)).more (Nat.le_refl _) hb.size
  have hdd : SlR i64s 1 w1.drew lo' w1.drew.heap.size (.slice A' drawn.length c') drawn := (up hd hB1).drew
  have bAd : Blk w1.drew _ _ _ := bA
  have C1 := l01Own_any (.slice A' drawn.length c') drawn w1.drew lo' hdd (by omega)
  have q1 : w1.cell? ⟨w.heap.size, 1, none⟩ = some (.slice A' drawn.length c') := bA.cell 1
  have q2 : w1.cell? ⟨w.heap.size, 2, none⟩ = some (.int .i64 st) := bA.cell 2
  try refine region_np ?_
  go_region_held3 (fun w' => w'.cell? ⟨w.heap.size, 1, none⟩ = some (.slice A' drawn.length c') ∧ w'.cell? ⟨w.heap.size, 2, none⟩ = some (.int .i64 st)) (first | exact ⟨q1, q2⟩ | exact ⟨e1, e2⟩ | go_keep) (first
    | (go_at_call 71; (with_reducible refine C1.mono ?_); rintro e w2 ⟨xd, rfl, o2, hb2⟩; have e1 := (bAd.below' hb2).cell 1; have e2 := (bAd.below' hb2).cell 2))
  have hz1 : w1.drew.heap.size = w1.heap.size := rfl
  have e1 : w2.cell? ⟨w.heap.size, 1, none⟩ = some (.slice A' drawn.length c') := e1
  have hB2 := hB1.drew.trans (hb2.mono z1)
  have z2 : w1.heap.size ≤ w2.heap.size := hb2.size
  have bA2 := bAd.below' hb2
  have bR2 : Blk w2 _ _ _ := Blk.below' (w := w1.drew) bR hb2
  have oE2 := (oE.drew).below hb2
  have iE := oE.own.lt _ rfl
  have i2 := o2.own.lt
  have o2 : OwnR i64s 1 w2 w1.heap.size 2 xd drawn := o2
  clear e1 e2 hdd C1 q1 q2
  go_wp2_with fail
  go_loopw [1, 6, 7, 8] (fun a q v sv wr => ∃ (m : Nat) (d out : List Int) (s : Int), a = .int .i64 m ∧ sv = .int .i64 s ∧ m ≤ k ∧ Hid (drawGo nums k drawn st = drawGo nums m d s) ∧ m ≤ (leftOf nums d).length ∧ Hid (d = drawn ++ out) ∧ d.length + m ≤ drawn.length + k ∧ out.length ≤ d.length ∧ 0 ≤ s ∧ s ≤ 2147483646 ∧ OwnR i64s 1 wr (w.heap.size + 1 + 1) 2 q out ∧ OwnR i64s 1 wr w1.heap.size 2 v d ∧ (∀ g, q.ownBlock = some g → v.ownBlock ≠ some g) ∧ Below (w.heap.size + 1 + 1) w2 wr) (fun a q v sv wr => (intOf a).toNat)
  case atStart => exact ⟨k, drawn, [], st, rfl, rfl, Nat.le_refl _, Lib.hid rfl, hk, Lib.hid (by simp), Nat.le_refl _, Nat.zero_le _, hs.1, hs.2, oE2, o2, fun g hg hv => by have := (i2 g hv).1; have : w.heap.size + 1 + 1 = g := Option.some.inj hg; have := iE.2; omega, Below.refl _ _⟩
  case round =>
    obtain ⟨m, d, out, s, rfl, rfl, hm, Hgo, hle, Hd, hdm, hod, hs1, hs2, oo, od, hap, hbr⟩ := hrel
    have hBr := hB2.trans (hbr.mono (by omega))
    have zr := hBr.size
    have zr2 := hbr.size
    have a0 : wr.cell? ⟨w.heap.size, 0, none⟩ = some (.slice A nums.length c) := (bA2.below hbr (by omega)).cell 0
    have bRr := bR2.below hbr (by omega)
    have lRr := bRr.lt
    obtain ⟨Ad, cd, rfl, hcd1, hcd2, _⟩ := own_form (OwnR.own od)
    obtain ⟨Ao, co, rfl, hco1, hco2, _⟩ := own_form (OwnR.own oo)
    rcases m with _ | m
    · have hgo : drawGo nums k drawn st = (d, s) := Hgo.out
      have HG := Lib.hid hgo
      clear hgo
      have hdrop : d.drop drawn.length = out := by rw [Hd.out, List.drop_left]
      have HD := Lib.hid hdrop
      clear hdrop
      go_wp2_with fail
      refine (l01Own_any _ nums wr lo (up hn hBr) (by omega)).mono ?_
      rintro e w5 ⟨xn, rfl, o5, hb5⟩
      obtain ⟨XN, KN, rfl, _, _, _⟩ := own_form (OwnR.own o5)
      have bR5 := bRr.below' hb5
      have od5 := od.below hb5
      have oo5 := oo.below hb5
      have hB5 := hBr.trans (hb5.mono zr)
      have z5 := hb5.size
      have c0 : w5.cell? ⟨w.heap.size + 1, 0, none⟩ = some (.slice none 0 0) := bR5.cell 0
      have c1 : w5.cell? ⟨w.heap.size + 1, 1, none⟩ = some (.slice none 0 0) := bR5.cell 1
      have c2' : w5.cell? ⟨w.heap.size + 1, 2, none⟩ = some (.int .i64 0) := bR5.cell 2
      have f0 : w5.frozen? ⟨w.heap.size + 1, 0, none⟩ = false := bR5.frozen 0
      have f1 : w5.frozen? ⟨w.heap.size + 1, 1, none⟩ = false := bR5.frozen 1
      have f2 : w5.frozen? ⟨w.heap.size + 1, 2, none⟩ = false := bR5.frozen 2
      go_wp2_with fail
      have hlast : ∀ W, Chg (w.heap.size + 1) (w.heap.size + 1 + 1) w5 W → SlI W w.heap.size W.heap.size (.slice XN nums.length KN) nums ∧ SlI W w.heap.size W.heap.size (.slice Ad d.length cd) d ∧ SlI W w.heap.size W.heap.size (.slice Ao out.length co) out := by
        intro W hc
        have q1 := (own_slI o5).chg hc (Nat.le_refl _) (by omega)
        have q2 := (own_slI od5).chg hc (Nat.le_refl _) (by omega)
        have q3 := (own_slI oo5).chg hc (Nat.le_refl _) (by omega)
        exact ⟨q1.more (by omega) hc.size, q2.more (by omega) hc.size, q3.more (by omega) hc.size⟩
      have hC : ∀ u0 u1 u2, Chg (w.heap.size + 1) (w.heap.size + 1 + 1) w5 (((w5.setCell ⟨w.heap.size + 1, 0, none⟩ u0).setCell ⟨w.heap.size + 1, 1, none⟩ u1).setCell ⟨w.heap.size + 1, 2, none⟩ u2) := by
        intro u0 u1 u2
        repeat' refine Chg.setCell ?_ (by simp) _
        exact Chg.refl _ _ _
      have HC := Lib.hid hC
      have Hlast := Lib.hid hlast
      clear hlast hC
      refine bodyPost_ret (v := .tuple #[.agg #[.slice XN nums.length KN, .slice Ad d.length cd, .int .i64 s], .slice Ao out.length co]) (by simp [results, Tryz.results55, go_sem, c0, c1, c2']) rfl ⟨.slice XN nums.length KN, .slice Ad d.length cd, .slice Ao out.length co, by rw [HG.out], (Hlast.out _ (HC.out _ _ _)).1, by rw [HG.out]; exact (Hlast.out _ (HC.out _ _ _)).2.1, by rw [HG.out]; show SlI _ _ _ _ (d.drop drawn.length); rw [HD.out]; exact (Hlast.out _ (HC.out _ _ _)).2.2, ?_⟩
      repeat' refine Below.setCell ?_ (by simp) _
      exact hB5
    · have hpos : 0 < (leftOf nums d).length := by omega
      have hl6 : (leftOf nums d).length ≤ 60 := Nat.le_trans (List.length_filter_le _ _) hl
      have hm0 : (0 : Int) < ((m + 1 : Nat) : Int) := by omega
      go_wp2_with fail
      refine (l08Left_any _ _ ⟨nums, d, 0⟩ wr _ _ (up hn hBr) (own_slI od) (show nums.length ≤ 2097152 by omega)).mono ?_
      rintro e w4 ⟨v4, rfl, o4, hb4⟩
      have o4 : OwnR i64s 1 w4 wr.heap.size 2 v4 (leftOf nums d) := o4
      obtain ⟨A4, c4, rfl, hc41, hc42, _⟩ := own_form (OwnR.own o4)
      obtain ⟨x, hx, hmem⟩ := leftOf_pick (s := s) hpos
      obtain ⟨b, off, rfl, _, hb, e0⟩ := (own_slI o4).int_at hx
      have hstep := leftOf_step hnd hmem
      have hix := (pickS_lt s hpos).1
      have Hix2 := Lib.hid (pickS_lt s hpos).2
      have hts := nextS_in s
      have oo := oo.below hb4
      have od := od.below hb4
      go_wp2_with fail
      refine (l03Next_any s w4 ⟨hs1, hs2⟩).mono ?_
      rintro e w5 ⟨rfl, rfl⟩
      have h3 : nextS s * ((leftOf nums d).length : Int) ≤ 2147483646 * ((leftOf nums d).length : Int) := Int.mul_le_mul_of_nonneg_right hts.2 (by omega)
      have h4 : 0 ≤ nextS s * ((leftOf nums d).length : Int) := Int.mul_nonneg hts.1 (by omega)
      have Hgs := Lib.hid (show drawGo nums (m + 1) d s = drawGo nums m (d ++ [x]) (nextS s) by rw [drawGo, hx]; rfl)
      have hle2 : m ≤ (leftOf nums (d ++ [x])).length := by omega
      have hix2 := Hix2.out
      have hix3 : ((pickS s (leftOf nums d).length : Nat) : Int) < ((leftOf nums d).length : Int) := by omega
      have hi1 := od.own.lt
      have zz4 := hb4.size
      have hbr4 : Below (w.heap.size + 1 + 1) w2 w4 := hbr.trans (hb4.mono (by omega))
      clear Hix2 hx hstep
      generalize pickS s (leftOf nums d).length = ix at *
      generalize nextS s = t at *
      generalize (leftOf nums d).length = nn at *
      go_wp2_with (at_builtin; refine wpList_append_rec_at (f := i64s) (s := 1) 2 _ _ (fun _ => rfl) i64s_one rfl _ _ 24 rfl (w.heap.size + 1 + 1) Tryz.infoI Tryz.underlying24 rfl (by decide) _ _ x rfl oo rfl rfl rfl (by omega) (by omega) (by omega) ?_)
      intro v6 w6 o6 hg6 h6
      have z6 : w4.heap.size + 1 ≤ w6.heap.size := by have := hg6.size; simpa using this
      have i6 := o6.own.lt
      have od6 : OwnR i64s 1 w6 w1.heap.size 2 (.slice Ad d.length cd) d := OwnR.grown' (od.alloc _) hg6 (fun g h hg hh e => hap g hg (e ▸ hh))
      have hap6 := apart_step hap (fun g hg => (hi1 g hg).2) h6
      have hbr6 : Below (w.heap.size + 1 + 1) w2 w6 := (hbr4.alloc (by omega) _).grown hg6 (by simp; omega) (fun q hq => (oo.own.lt q hq).1)
      clear oo od
      go_wp2_with (at_builtin; refine wpList_append_rec_at (f := i64s) (s := 1) 2 _ _ (fun _ => rfl) i64s_one rfl _ _ 24 rfl w1.heap.size Tryz.infoI Tryz.underlying24 rfl (by decide) _ _ x rfl od6 rfl rfl rfl (by omega) (by omega) (by omega) ?_)
      intro v7 w7 o7 hg7 h7
      have i7 := od6.own.lt
      have o67 : OwnR i64s 1 w7 (w.heap.size + 1 + 1) 2 v6 (out ++ [x]) := OwnR.grown' (o6.alloc _) hg7 (fun g h hg hh e => hap6 h hh (e ▸ hg))
      have hap7 := apart_step (fun g hg hv => hap6 g hv hg) (fun g hg => (i6 g hg).2) h7
      have hbr7 : Below (w.heap.size + 1 + 1) w2 w7 := (hbr6.alloc (by omega) _).grown hg7 (by simp; omega) (fun q hq => by have := (i7 q hq).1; omega)
      go_wp2_with fail
      go_roundw
      case rel => exact ⟨m, d ++ [x], out ++ [x], t, by go_num, rfl, by omega, Lib.hid (by rw [Hgo.out, Hgs.out]), hle2, Lib.hid (by rw [Hd.out, List.append_assoc]), by rw [List.length_append]; show d.length + 1 + m ≤ _; omega, by rw [List.length_append, List.length_append]; exact Nat.add_le_add_right hod 1, hts.1, hts.2, o67, o7, fun g hg hv => hap7 g hv hg, hbr7⟩
      case measure => simp [intOf]
end Go.Proofs.YtodfkbgifoecbaaGreatDoor
