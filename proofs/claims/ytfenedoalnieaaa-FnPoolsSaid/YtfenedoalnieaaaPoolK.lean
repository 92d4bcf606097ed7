/- The program's draws from a pool: contract of take. No condition but the sizes that the law itself asks. -/
import Derived.Test.YtfenedoalnieaaaPoolJ
import Derived.Deep.RegionLaw
namespace Go.Proofs.Ytfenedoalnieaaa
open Go.RowKit
attribute [local go_sem ↓] Go.wp_at_zero Go.wp_at_succ

theorem own_ne_blk {α : Type} {f : α → List Value} {s : Nat} {w : World} {base O : Nat} {e T : TypeId} {v : Value} {xs : List α} {cs : Array Value} (h : OwnR f s w base e v xs) (b : Blk w O T cs) (hT : T ≠ e) : ∀ g, v.ownBlock = some g → g ≠ O := by
  intro g hg e1
  subst e1
  rcases (show _ ∨ _ from And.right h) with ⟨h2, _⟩ | ⟨g', cap, cur, rfl, h3, h4, r⟩
  · subst h2; cases hg
  · have e2 : g' = g := Option.some.inj hg
    subst e2
    have b' : w.heap[g']? = _ := b
    rw [b'] at h4
    injection h4 with h4
    injection h4 with _ h5
    exact hT h5

theorem le_step {j k a b : Nat} (h : j < k) (h1 : k - j ≤ b) (h2 : a + 1 = b) : k - (j + 1) ≤ a := by omega
theorem meas_dec {j k : Nat} (h : j < k) : k - (intOf (.int .i64 ((j : Int) + 1))).toNat < k - (intOf (.int .i64 (j : Int))).toNat := by
  show k - ((j : Int) + 1).toNat < k - (j : Int).toNat
  omega
theorem drawGo_step {nums d : List Int} {s x : Int} {j k : Nat} (h : j < k) (hx : (leftOf nums d)[pickS s (leftOf nums d).length]? = some x) : drawGo nums (k - j) d s = drawGo nums (k - (j + 1)) (d ++ [x]) (nextS s) := by
  obtain ⟨m, hm⟩ : ∃ m, k - j = m + 1 := ⟨k - j - 1, by omega⟩
  have hm2 : k - (j + 1) = m := by omega
  rw [hm, hm2, drawGo, hx]; rfl

set_option maxRecDepth 100000 in
set_option maxHeartbeats 8000000 in
theorem take_any (vn vd : Value) (p : P3) (k : Nat) (w : World) (lo lo' : Nat) (hn : SlI w lo w.heap.size vn p.nums) (hd : SlI w lo' w.heap.size vd p.drawn) (hnd : p.nums.Nodup) (hk : k ≤ (leftOf p.nums p.drawn).length) (hs : 0 ≤ p.st ∧ p.st ≤ 2147483646) (hl : p.nums.length ≤ 60) (hl' : p.drawn.length ≤ 2000000) :
    Calls Try.prog 64 #[.agg #[vn, vd, .int .i64 p.st], .int .i64 k] w fun e w' => ∃ xn xd Q, e = .returned (.agg #[xn, xd, .int .i64 (drawGo p.nums k p.drawn p.st).2]) ∧ OwI i64s 1 2 w' w.heap.size Q xn p.nums ∧ OwI i64s 1 2 w' Q w'.heap.size xd (drawGo p.nums k p.drawn p.st).1 ∧ w.heap.size ≤ Q ∧ Q ≤ w'.heap.size ∧ Below w.heap.size w w' := by
  obtain ⟨nums, drawn, st⟩ := p
  dsimp only at hn hd hnd hk hs hl hl' ⊢
  have hk60 : k ≤ 60 := Nat.le_trans hk (Nat.le_trans (List.length_filter_le _ _) hl)
  go_enter Try.func64, Try.ntmps64
  go_wp2_with fail
  have bR : Blk ((w.alloc (.cells #[vn, vd, .int .i64 st] 27)).alloc (.cells #[.slice none 0 0, .slice none 0 0, .int .i64 0] 27)) (w.heap.size + 1) _ _ := Blk.new' (by simp)
  have hB1 : Below w.heap.size w ((w.alloc (.cells #[vn, vd, .int .i64 st] 27)).alloc (.cells #[.slice none 0 0, .slice none 0 0, .int .i64 0] 27)) := ((Below.refl _ _).alloc (Nat.le_refl _) _).alloc (by simp) _
  generalize ((w.alloc (.cells #[vn, vd, .int .i64 st] 27)).alloc (.cells #[.slice none 0 0, .slice none 0 0, .int .i64 0] 27)) = w1 at *
  have z1 := hB1.size
  have lR := bR.lt
  have up : ∀ {v : Value} {zs : List Int} {lo : Nat} {w1 : World}, SlI w lo w.heap.size v zs → Below w.heap.size w w1 → SlI w1 lo w1.heap.size v zs := fun h hb => (h.below hb (Nat.le_refl _)).more (Nat.le_refl _) hb.size
  refine (copyPool_any _ _ ⟨nums, drawn, st⟩ w1 _ _ (up hn hB1) (up hd hB1) (show nums.length ≤ 2097152 by omega) (show drawn.length ≤ 2097152 by omega)).mono ?_
  rintro e w2 ⟨g1, g2, rfl, o1, o2, hg1, hg12, hg2, hb2⟩
  dsimp only at o1 o2
  have hB2 := hB1.trans (hb2.mono z1)
  have z2 := hb2.size
  have bR := bR.below' hb2
  have o2 := own_rebase o2
  have o1 := o1.more z1
  go_wp2_with fail
  have bO := Blk.new w2 27 #[.slice (some ⟨g1, 0, none⟩) nums.length nums.length, .slice (some ⟨g2, 0, none⟩) drawn.length drawn.length, .int .i64 st]
  have bR := bR.alloc (.cells #[.slice (some ⟨g1, 0, none⟩) nums.length nums.length, .slice (some ⟨g2, 0, none⟩) drawn.length drawn.length, .int .i64 st] 27)
  have o1 := o1.alloc (.cells #[.slice (some ⟨g1, 0, none⟩) nums.length nums.length, .slice (some ⟨g2, 0, none⟩) drawn.length drawn.length, .int .i64 st] 27)
  have o2 := o2.alloc (.cells #[.slice (some ⟨g1, 0, none⟩) nums.length nums.length, .slice (some ⟨g2, 0, none⟩) drawn.length drawn.length, .int .i64 st] 27)
  have hB3 : Below w.heap.size w (w2.alloc (.cells #[.slice (some ⟨g1, 0, none⟩) nums.length nums.length, .slice (some ⟨g2, 0, none⟩) drawn.length drawn.length, .int .i64 st] 27)) := hB2.alloc hB2.size _
  generalize (w2.alloc (.cells #[.slice (some ⟨g1, 0, none⟩) nums.length nums.length, .slice (some ⟨g2, 0, none⟩) drawn.length drawn.length, .int .i64 st] 27)) = w3 at *
  go_loopw [12] (fun i wr => ∃ (j : Nat) (d : List Int) (s : Int) (v : Value), i = .int .i64 j ∧ j ≤ k ∧ Hid (drawGo nums k drawn st = drawGo nums (k - j) d s) ∧ k - j ≤ (leftOf nums d).length ∧ d.length ≤ drawn.length + j ∧ 0 ≤ s ∧ s ≤ 2147483646 ∧ Blk wr w2.heap.size 27 #[.slice (some ⟨g1, 0, none⟩) nums.length nums.length, v, .int .i64 s] ∧ OwnR i64s 1 wr g2 2 v d ∧ OwnR i64s 1 wr w.heap.size 2 (.slice (some ⟨g1, 0, none⟩) nums.length nums.length) nums ∧ Blk wr (w.heap.size + 1) 27 #[.slice none 0 0, .slice none 0 0, .int .i64 0] ∧ Below w.heap.size w wr) (fun i wr => k - (intOf i).toNat)
  case atStart => exact ⟨0, drawn, st, _, rfl, Nat.zero_le _, Lib.hid rfl, hk, Nat.le_refl _, hs.1, hs.2, bO, o2, o1, bR, hB3⟩
  case round =>
    obtain ⟨j, d, s, v, rfl, hj, Hgo, hle, hdl, hs1, hs2, bO, o2, o1, bR, hBr⟩ := hrel
    have zr := hBr.size
    have lO := bO.lt
    have q0 : wr.cell? ⟨w2.heap.size, 0, none⟩ = some (.slice (some ⟨g1, 0, none⟩) nums.length nums.length) := bO.cell 0
    have q1 : wr.cell? ⟨w2.heap.size, 1, none⟩ = some v := bO.cell 1
    have q2 : wr.cell? ⟨w2.heap.size, 2, none⟩ = some (.int .i64 s) := bO.cell 2
    obtain ⟨A, c, rfl, hc1, hc2, _⟩ := own_form (OwnR.own o2)
    by_cases hlt : j < k
    · have hpos : 0 < (leftOf nums d).length := by omega
      have hl6 : (leftOf nums d).length ≤ 60 := Nat.le_trans (List.length_filter_le _ _) hl
      go_wp2_with fail
      refine (left_any _ _ ⟨nums, d, s⟩ wr _ _ (own_slI o1) (own_slI o2) (show nums.length ≤ 2097152 by omega)).mono ?_
      rintro e w4 ⟨v4, rfl, o4, hb4⟩
      have o4 : OwnR i64s 1 w4 wr.heap.size 2 v4 (leftOf nums d) := o4
      obtain ⟨A4, c4, rfl, hc41, hc42, _⟩ := own_form (OwnR.own o4)
      obtain ⟨x, hx, hmem⟩ := leftOf_pick (s := s) hpos
      obtain ⟨b, off, rfl, _, hb, e0⟩ := (own_slI o4).int_at hx
      have hstep := leftOf_step hnd hmem
      have hgoS := drawGo_step (s := s) hlt hx
      have HgoS := Lib.hid hgoS
      have hle2 : k - (j + 1) ≤ (leftOf nums (d ++ [x])).length := le_step hlt hle hstep
      have hdl2 : (d ++ [x]).length ≤ drawn.length + (j + 1) := by rw [List.length_append]; exact Nat.add_le_add_right hdl 1
      clear hgoS hx q0 q1 q2
      have hix := (pickS_lt s hpos).1
      have hts := nextS_in s
      have z4 := hb4.size
      have hB4 := hBr.trans (hb4.mono zr)
      have bO := bO.below' hb4
      have bR := bR.below' hb4
      have o2 := o2.below hb4
      have o1 := o1.below hb4
      have q1 : w4.cell? ⟨w2.heap.size, 1, none⟩ = some (.slice A d.length c) := bO.cell 1
      have q2 : w4.cell? ⟨w2.heap.size, 2, none⟩ = some (.int .i64 s) := bO.cell 2
      go_wp2_with fail
      refine (below_any s (leftOf nums d).length w4 ⟨hs1, hs2⟩ hpos (by omega)).mono ?_
      rintro e w5 ⟨rfl, rfl⟩
      have hix2 : ((pickS s (leftOf nums d).length : Nat) : Int) < ((leftOf nums d).length : Int) := by omega
      generalize hpi : pickS s (leftOf nums d).length = ix at *
      clear hpi
      generalize hll : (leftOf nums d).length = nn at *
      go_wp2_with fail
      have bOa : Blk (w4.alloc (.cells #[.int .i64 x] 2)).drew w2.heap.size 27 #[.slice (some ⟨g1, 0, none⟩) nums.length nums.length, .slice A d.length c, .int .i64 s] := bO.alloc _
      have qa1 : (w4.alloc (.cells #[.int .i64 x] 2)).drew.cell? ⟨w2.heap.size, 1, none⟩ = some (.slice A d.length c) := bOa.cell 1
      have oD : OwnR i64s 1 (w4.alloc (.cells #[.int .i64 x] 2)).drew g2 2 (.slice A d.length c) d := (o2.alloc _).drew
      have rX : SlR i64s 1 (w4.alloc (.cells #[.int .i64 x] 2)).drew w4.heap.size (w4.heap.size + 1) (.slice (some ⟨w4.heap.size, 0, none⟩) 1 1) [x] := (rec_sl (f := i64s) (s := 1) (fun _ => rfl) w4 2 (cx := #[.int .i64 x]) (x := x) rfl).drew
      have L1 : (d.length + ([x] : List Int).length) * 8 ≤ 140737488355328 := by simp; omega
      have L2 : d.length + ([x] : List Int).length ≤ 9223372036854775807 := by simp; omega
      have zs : (w4.alloc (.cells #[.int .i64 x] 2)).drew.heap.size = w4.heap.size + 1 := by simp
      have zg : g2 ≤ (w4.alloc (.cells #[.int .i64 x] 2)).drew.heap.size := by omega
      have hne : some w2.heap.size ≠ (Value.slice A d.length c).ownBlock := fun e => own_ne_blk oD bOa (by decide) _ e.symm rfl
      have qd1 : w4.drew.cell? ⟨w2.heap.size, 1, none⟩ = some (.slice A d.length c) := q1
      have ed0 : w4.drew.cell? ⟨b, off + ix, none⟩ = some (.int .i64 x) := e0
      go_region_law (first
        | ((with_reducible refine at_world ((w4.alloc (.cells #[.int .i64 x] 2)).drew) ?_); refine step_append_sl (f := i64s) (s := 1) ((w4.alloc (.cells #[.int .i64 x] 2)).drew) (fun _ => rfl) i64s_one (by rfl) _ _ 22 (by rfl) g2 2 Try.infoI Try.underlying22 rfl (by decide) _ d [x] _ _ _ (by rfl) oD (by rfl) rX L1 L2 zg ?_; intro v6 w6 o6 hB6 hg6; have p0 := (bOa.grown hg6 hne).cell 0; have p1 := (bOa.grown hg6 hne).cell 1; have p2 := (bOa.grown hg6 hne).cell 2; have r1 := (bOa.grown hg6 hne).frozen 1; have r2 := (bOa.grown hg6 hne).frozen 2; obtain ⟨A6, c6, rfl, _, _, _⟩ := own_form (OwnR.own o6)))
      all_goals
        have bO6 := bOa.grown hg6 hne
        have nO := own_ne_blk o6 bO6 (by decide)
        have i6 := o6.own.lt
        have iD := oD.own.lt
        have z6 := hg6.size
        have bR6 : Blk w6 (w.heap.size + 1) 27 #[.slice none 0 0, .slice none 0 0, .int .i64 0] := Blk.grown (w := (w4.alloc (.cells #[.int .i64 x] 2)).drew) (bR.alloc _) hg6 (by intro e; have := (iD _ e.symm).1; omega)
        have o16 : OwnR i64s 1 w6 w.heap.size 2 (.slice (some ⟨g1, 0, none⟩) nums.length nums.length) nums := OwnR.grown' (w := (w4.alloc (.cells #[.int .i64 x] 2)).drew) ((o1.alloc _).drew) hg6 (by intro a b ha hb; have hb : g1 = b := Option.some.inj hb; have := (iD _ ha).1; omega)
        have hB6' : Below w.heap.size w w6 := hB6 _ _ ((hB4.alloc hB4.size _).drew) (by omega)
        have l6 := bO6.lt
        have bO7 : Blk ((w6.setCell ⟨w2.heap.size, 1, none⟩ (.slice A6 (d ++ [x]).length c6)).setCell ⟨w2.heap.size, 2, none⟩ (.int .i64 (nextS s))) w2.heap.size 27 #[.slice (some ⟨g1, 0, none⟩) nums.length nums.length, .slice A6 (d ++ [x]).length c6, .int .i64 (nextS s)] := by
          have := (bO6.set_ 1 (.slice A6 (d ++ [x]).length c6)).set_ 2 (.int .i64 (nextS s))
          simpa using this
        have o27 : OwnR i64s 1 ((w6.setCell ⟨w2.heap.size, 1, none⟩ (.slice A6 (d ++ [x]).length c6)).setCell ⟨w2.heap.size, 2, none⟩ (.int .i64 (nextS s))) g2 2 (.slice A6 (d ++ [x]).length c6) (d ++ [x]) := (o6.setCell _ _ (fun k hk => nO k hk)).setCell _ _ (fun k hk => nO k hk)
        have o17 : OwnR i64s 1 ((w6.setCell ⟨w2.heap.size, 1, none⟩ (.slice A6 (d ++ [x]).length c6)).setCell ⟨w2.heap.size, 2, none⟩ (.int .i64 (nextS s))) w.heap.size 2 (.slice (some ⟨g1, 0, none⟩) nums.length nums.length) nums := (o16.setCell _ _ (fun k hk => by have hk : g1 = k := Option.some.inj hk; show k ≠ w2.heap.size; omega)).setCell _ _ (fun k hk => by have hk : g1 = k := Option.some.inj hk; show k ≠ w2.heap.size; omega)
        have bR7 : Blk ((w6.setCell ⟨w2.heap.size, 1, none⟩ (.slice A6 (d ++ [x]).length c6)).setCell ⟨w2.heap.size, 2, none⟩ (.int .i64 (nextS s))) (w.heap.size + 1) 27 #[.slice none 0 0, .slice none 0 0, .int .i64 0] := (bR6.far (show w.heap.size + 1 ≠ w2.heap.size by omega) _).far (show w.heap.size + 1 ≠ w2.heap.size by omega) _
        have hB7 : Below w.heap.size w ((w6.setCell ⟨w2.heap.size, 1, none⟩ (.slice A6 (d ++ [x]).length c6)).setCell ⟨w2.heap.size, 2, none⟩ (.int .i64 (nextS s))) := (hB6'.setCell (show w.heap.size ≤ w2.heap.size by omega) _).setCell (show w.heap.size ≤ w2.heap.size by omega) _
        have eL : (d ++ [x]).length = d.length + 1 := by rw [List.length_append]; rfl
        rw [eL] at bO7 o27 o17 bR7 hB7
        clear eL
        go_wp2_with fail
        go_roundw
      all_goals first | exact meas_dec hlt | exact ⟨j + 1, d ++ [x], nextS s, _, rfl, hlt, Lib.hid (by rw [Hgo.out, HgoS.out]), hle2, hdl2, hts.1, hts.2, bO7, o27, o17, bR7, hB7⟩
    · have hjk : k - j = 0 := by omega
      have hgo := Hgo.out
      rw [hjk, drawGo] at hgo
      have HG := Lib.hid hgo
      clear hgo hjk
      have c0 : wr.cell? ⟨w.heap.size + 1, 0, none⟩ = some (.slice none 0 0) := bR.cell 0
      have c1 : wr.cell? ⟨w.heap.size + 1, 1, none⟩ = some (.slice none 0 0) := bR.cell 1
      have c2' : wr.cell? ⟨w.heap.size + 1, 2, none⟩ = some (.int .i64 0) := bR.cell 2
      have f0 : wr.frozen? ⟨w.heap.size + 1, 0, none⟩ = false := bR.frozen 0
      have f1 : wr.frozen? ⟨w.heap.size + 1, 1, none⟩ = false := bR.frozen 1
      have f2 : wr.frozen? ⟨w.heap.size + 1, 2, none⟩ = false := bR.frozen 2
      have i2 := o2.own.lt
      have i1 := o1.own.lt _ rfl
      have lRr := bR.lt
      go_wp2_with fail
      refine bodyPost_ret (v := .agg #[.slice (some ⟨g1, 0, none⟩) nums.length nums.length, .slice A d.length c, .int .i64 s]) (by simp [results, Try.results64, go_sem, c0, c1, c2']) rfl ⟨.slice (some ⟨g1, 0, none⟩) nums.length nums.length, .slice A d.length c, (by rw [HG.out]), g2, ?_, ?_, (by omega), (by simp; omega), ?_⟩
      · refine ⟨?_, fun g hg => by have : g1 = g := Option.some.inj hg; omega⟩
        repeat' refine OwnR.setCell ?_ _ _ (fun k hk => by have : g1 = k := Option.some.inj hk; simp; omega)
        exact o1
      · rw [HG.out]
        refine OwI.of ?_
        repeat' refine OwnR.setCell ?_ _ _ (fun k hk => by have := (i2 k hk).1; simp; omega)
        exact o2
      · repeat' refine Below.setCell ?_ (by simp) _
        exact hBr
end Go.Proofs.Ytfenedoalnieaaa
