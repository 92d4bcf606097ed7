/- Copies of sheets, with room for one more; the insertion of a sheet in place. No condition but the sizes that the law itself asks. -/
import Derived.Test.YtbboihodikhhkaaShE
import Derived.Test.YtbboihodikhhkaaIns
import Derived.Test.YtbboihodikhhkaaApAt
import Derived.Lib.Overlaps
import Derived.Laws.Externs
import Derived.Deep.RegionHeld3
namespace Go.Proofs.Ytbboihodikhhkaa
open Go.RowKit
attribute [local go_sem ↓] Go.wp_at_zero Go.wp_at_succ

theorem step_append_run {P : Program} {ops : Array Oper} {o : Oper} {a : Act} {w : World} {K : Act → World → Prop} {Q : Exit → Act → World → Prop} {E : Prop}
    (hg : o.guard = Option.none) (d x : Operand) (t : TypeId) (hop : o.op = Op.call { callee := Callee.builtin Builtin.append, args := #[d, x], argTypes := #[t, t] })
    (v u : Value) (hd : a.eval d = v) (hx : a.eval x = u) {v' : Value} {w' : World} (hr : (Builtin.append_ #[t, t] o.type #[v, u]).run P w = .ok v' w') (hK : K (a.put o.dst v') w') :
    if Region.wanted o (yielded ops a.tmps) = true then Oper.wp P o a w K Q else E := by
  have hw : Region.wanted o (yielded ops a.tmps) = true := by simp [Region.wanted, hg]
  rw [if_pos hw]
  unfold Oper.wp
  simp [execOp, hop, resolve, invoke, builtin, hd, hx, hr, Result.andThen]
  exact hK

theorem oneCell_H2 : ∀ x : H2, ∀ u ∈ H2.vals x, u.oneCell' = true := by intro x u hu; simp [H2.vals] at hu; rcases hu with rfl | rfl <;> rfl
theorem cloneI_room (v : Value) (cs : List Int) (w : World) (lo : Nat) (h : SlR i64s 1 w lo w.heap.size v cs) (hn : cs.length ≤ 2097152) :
    Calls Try.prog 78 #[v] w fun e w' => e = .returned (.slice (some ⟨w.heap.size, 0, none⟩) cs.length cs.length) ∧ OwnR i64s 1 w' w.heap.size 2 (.slice (some ⟨w.heap.size, 0, none⟩) cs.length cs.length) cs ∧ Below w.heap.size w w' := by
  obtain ⟨i0, hi, hz0, hz1, hz2⟩ := info_parts Try.infoI
  obtain ⟨A, c, rfl, hc1, hc2⟩ := h.form
  go_enter Try.func78, Try.ntmps78
  go_wp2_with (first | (at_make; refine wpList_make_own _ rfl _ _ 39 rfl w.heap.size 2 i0 _ 1 Try.underlying39 hi hz0 hz1 _ _ _ cs.length rfl rfl rfl ?c2 ?c3 ?c4 ?_))
  case c2 => rw [hz2]; omega
  case c3 => unfold maxLen; omega
  case c4 => exact Nat.le_refl _
  intro w1 hown hgrow
  have hb1 : Below w.heap.size w w1 := (Below.refl _ _).grown hgrow (Nat.le_refl _) (by intro k h; cases h)
  have h1 := h.below hb1 (Nat.le_refl _)
  have o1 : OwnR i64s 1 w1 w.heap.size 2 (.slice (some ⟨w.heap.size, 0, none⟩) 0 cs.length) ([] : List Int) := hown
  clear hgrow hi hz0 hz1 hz2 i0 hown
  have hsz := hb1.size
  go_wp2_with (at_builtin; refine wpList_append_in (f := i64s) (s := 1) _ (fun _ => rfl) i64s_one rfl _ _ 39 rfl w.heap.size 2 Try.infoI Try.underlying39 w.heap.size 0 cs.length ([] : List Int) cs _ _ _ rfl o1 rfl h1 cs.length (Nat.zero_add _) (Nat.le_refl _) ?_)
  intro w' o2 hg2
  have hb2 := Below.grown hb1 hg2 hb1.size (by intro q hq; have hq := Option.some.inj hq; omega)
  go_wp2_with fail
  go_ret
  exact ⟨rfl, o2, hb2⟩

/-- The row g, with room for one more; the lists in it, each in a row of its own behind g. -/
structure OwnG (w : World) (g n c : Nat) (ys : List H2) : Prop where
  outer : OwnR H2.vals 2 w g 56 (.slice (some ⟨g, 0, none⟩) n c) ys
  len : ys.length = n
  inner : ∀ y ∈ ys, OwnR i64s 1 w (g + 1) 2 (.slice y.A y.pres.length y.c) y.pres ∧ ∃ b, y.A = some ⟨b, 0, none⟩ ∧ y.c = y.pres.length
  apart : ys.Pairwise (fun x y => ∀ b, (Value.slice x.A x.pres.length x.c).ownBlock = some b → (Value.slice y.A y.pres.length y.c).ownBlock ≠ some b)

set_option maxRecDepth 100000 in
set_option maxHeartbeats 4000000 in
theorem copySheets_any (v : Value) (z : List (Int × List Int)) (w : World) (lo : Nat) (h : RdH w lo w.heap.size v z) (hn : z.length ≤ 1048576) (hp : ∀ x ∈ z, x.2.length ≤ 1048576) :
    Calls Try.prog 47 #[v] w fun e w' => ∃ ys, e = .returned (.slice (some ⟨w.heap.size, 0, none⟩) z.length (z.length + 1)) ∧ OwnG w' w.heap.size z.length (z.length + 1) ys ∧ ys.map H2.ct = z ∧ Below w.heap.size w w' := by
  obtain ⟨cs, h, rfl⟩ := h
  rw [List.length_map] at hn ⊢
  have hp : ∀ x ∈ cs, x.pres.length ≤ 1048576 := fun x hx => hp x.ct (List.mem_map_of_mem hx)
  obtain ⟨i0, hi, hz0, hz1, hz2⟩ := info_parts Try.infoH2
  obtain ⟨A, c, rfl, hc1, hc2⟩ := h.form
  have hw1 : IntKind.i64.wrap ((cs.length : Int) + 1) = ((cs.length + 1 : Nat) : Int) := by rw [IntWalk.i64_in _ (by omega)]; omega
  go_enter Try.func47, Try.ntmps47
  go_wp2_with (first | (at_make; refine wpList_make_own _ rfl _ _ 26 rfl w.heap.size 56 i0 _ 2 Try.underlying26 hi hz0 hz1 _ _ _ (cs.length + 1) rfl rfl (by first | rfl | (show _ = Value.int .i64 _; rw [← hw1]; rfl)) ?c2 ?c3 ?c4 ?_))
  case c2 => rw [hz2]; omega
  case c3 => unfold maxLen; omega
  case c4 => exact Nat.le_refl _
  intro w1 hown hgrow
  have hb1 : Below w.heap.size w w1 := (Below.refl _ _).grown hgrow (Nat.le_refl _) (by intro k h; cases h)
  have o1 : OwnR H2.vals 2 w1 w.heap.size 56 (.slice (some ⟨w.heap.size, 0, none⟩) 0 (cs.length + 1)) ([] : List H2) := hown
  clear hgrow hi hz0 hz1 hz2 i0 hown hw1
  go_wp2_with fail
  go_loopw [3, 12] (fun q i wr => ∃ (k : Nat) (ys : List H2), q = .slice (some ⟨w.heap.size, 0, none⟩) k (cs.length + 1) ∧ i = .int .i64 k ∧ k ≤ cs.length ∧ Hid (OwnG wr w.heap.size k (cs.length + 1) ys ∧ ys.map H2.ct = (cs.take k).map H2.ct) ∧ Below w.heap.size w wr) (fun q i wr => cs.length - (intOf i).toNat)
  case atStart => exact ⟨0, [], rfl, rfl, Nat.zero_le _, Lib.hid ⟨⟨o1, rfl, fun y hy => (by cases hy), List.Pairwise.nil⟩, rfl⟩, hb1⟩
  case round =>
    clear o1 hb1
    obtain ⟨k, ys, rfl, rfl, hk, HO, hbr⟩ := hrel
    have hsz := hbr.size
    by_cases hlt : k < cs.length
    · obtain ⟨x, hx⟩ := some_at hlt
      obtain ⟨b, off, rfl, _, hb, c0, c1, _⟩ := ((h.below hbr (Nat.le_refl _)).more (Nat.le_refl _) hbr.size).at_ hx
      have hin : SlI w lo w.heap.size (.slice x.A x.pres.length x.c) x.pres := h.inner x (List.mem_of_getElem? hx)
      have hpx := hp x (List.mem_of_getElem? hx)
      have Hx := Lib.hid hx
      have Hp := Lib.hid hp
      clear hx hp
      obtain ⟨day, XA, Xc, pres⟩ := x
      dsimp only at *
      go_wp2_with fail
      have bS := Blk.new wr 56 #[.int .i64 day, .slice XA pres.length Xc]
      have hA1 : Below wr.heap.size wr (wr.alloc (.cells #[.int .i64 day, .slice XA pres.length Xc] 56)) := (Below.refl _ _).alloc (Nat.le_refl _) _
      have hbr1 := hbr.trans (hA1.mono hbr.size)
      have oo := ((HO.out.1.outer).below hA1).drew
      generalize (wr.alloc (.cells #[.int .i64 day, .slice XA pres.length Xc] 56)) = wa at *
      have za := hA1.size
      have bSd : Blk wa.drew wr.heap.size 56 #[.int .i64 day, .slice XA pres.length Xc] := bS
      have d0 : wa.cell? ⟨wr.heap.size, 0, none⟩ = some (.int .i64 day) := bS.cell 0
      have d1 : wa.cell? ⟨wr.heap.size, 1, none⟩ = some (.slice XA pres.length Xc) := bS.cell 1
      have e0 : wa.drew.cell? ⟨wr.heap.size, 0, none⟩ = some (.int .i64 day) := bS.cell 0
      have e1 : wa.drew.cell? ⟨wr.heap.size, 1, none⟩ = some (.slice XA pres.length Xc) := bS.cell 1
      have C1 : Calls Try.prog 78 #[.slice XA pres.length Xc] wa.drew fun e w' => e = .returned (.slice (some ⟨wa.heap.size, 0, none⟩) pres.length pres.length) ∧ OwnR i64s 1 w' wa.heap.size 2 (.slice (some ⟨wa.heap.size, 0, none⟩) pres.length pres.length) pres ∧ Below wa.heap.size wa.drew w' :=
        cloneI_room _ pres wa.drew lo ((hin.below hbr1.drew (Nat.le_refl _)).more (Nat.le_refl _) hbr1.drew.size) (by omega)
      have D : ∀ w2, OwnR i64s 1 w2 wa.heap.size 2 (.slice (some ⟨wa.heap.size, 0, none⟩) pres.length pres.length) pres → Below wa.heap.size wa.drew w2 → ∃ w4, ((Builtin.append_ #[26, 26] 26 #[.slice (some ⟨w.heap.size, 0, none⟩) k (cs.length + 1), .slice (some ⟨w2.heap.size, 0, none⟩) 1 1]).run Try.prog (w2.alloc (.cells #[.int .i64 day, .slice (some ⟨wa.heap.size, 0, none⟩) pres.length pres.length] 56)) = .ok (.slice (some ⟨w.heap.size, 0, none⟩) (k + 1) (cs.length + 1)) w4) ∧
          OwnG w4 w.heap.size (k + 1) (cs.length + 1) (ys ++ [⟨day, some ⟨wa.heap.size, 0, none⟩, pres.length, pres⟩]) ∧ Below w.heap.size w w4 ∧ (w2.alloc (.cells #[.int .i64 day, .slice (some ⟨wa.heap.size, 0, none⟩) pres.length pres.length] 56)).grownBy w4 (some w.heap.size) := by
        intro w2 o2 hb2
        have z2 : wa.heap.size ≤ w2.heap.size := hb2.size
        have lb := bS.lt
        have oa := (oo.below hb2).alloc (.cells #[.int .i64 day, .slice (some ⟨wa.heap.size, 0, none⟩) pres.length pres.length] 56)
        obtain ⟨w4, hr, o4, hg4⟩ := run_append_in (P := Try.prog) (f := H2.vals) (s := 2) (w2.alloc (.cells #[.int .i64 day, .slice (some ⟨wa.heap.size, 0, none⟩) pres.length pres.length] 56)) (fun _ => rfl) oneCell_H2 26 26 w.heap.size 56 Try.infoH2 Try.underlying26 ys [⟨day, some ⟨wa.heap.size, 0, none⟩, pres.length, pres⟩] _ _ _ oa (rec_sl (f := H2.vals) (s := 2) (fun _ => rfl) w2 56 (cx := #[.int .i64 day, .slice (some ⟨wa.heap.size, 0, none⟩) pres.length pres.length]) (x := ⟨day, some ⟨wa.heap.size, 0, none⟩, pres.length, pres⟩) rfl) (by show k + 1 ≤ _; omega)
        have hne : ∀ q, some w.heap.size = some q → q < w.heap.size + 1 ∨ (w2.alloc (.cells #[.int .i64 day, .slice (some ⟨wa.heap.size, 0, none⟩) pres.length pres.length] 56)).heap.size ≤ q := fun q hq => by have := Option.some.inj hq; omega
        refine ⟨w4, hr, ⟨o4, by rw [List.length_append, HO.out.1.len]; rfl, fun y hy => ?_, ?_⟩, below_put ((hbr1.drew.trans (hb2.mono (Nat.le_trans hbr1.size (Nat.le_refl _)))).alloc (by omega) _) hg4 (by simp; omega) (Nat.le_refl _), hg4⟩
        · rcases List.mem_append.1 hy with hy | hy
          · obtain ⟨q1, q2⟩ := HO.out.1.inner y hy
            exact ⟨((((q1.below hA1).drew).below hb2).alloc _).grown hg4 hne, q2⟩
          · have e := List.mem_singleton.1 hy
            subst e
            exact ⟨((o2.more (by omega)).alloc _).grown hg4 hne, _, rfl, rfl⟩
        · rw [List.pairwise_append]
          refine ⟨HO.out.1.apart, List.pairwise_singleton _ _, fun y hy q hq b hb1 hb2 => ?_⟩
          have e := List.mem_singleton.1 hq
          subst e
          have l1 := (World.ownsRow.lt (OwnR.own (HO.out.1.inner y hy).1) b hb1).2
          have l2 : wa.heap.size = b := Option.some.inj hb2
          omega
      have HD := Lib.hid D
      clear D
      go_region_held3 (fun w' => w'.cell? ⟨wr.heap.size, 0, none⟩ = some (.int .i64 day) ∧ w'.cell? ⟨wr.heap.size, 1, none⟩ = some (.slice XA pres.length Xc)) (first | exact ⟨e0, e1⟩ | exact ⟨f0, f1⟩ | exact ⟨g0, g1⟩ | exact ⟨i0, i1⟩ | exact ⟨d0, d1⟩) (first
        | (go_at_call 78; (with_reducible refine C1.mono ?_); rintro e w2 ⟨rfl, o2, hb2⟩; obtain ⟨w4, hr, og, hb4, hg5⟩ := HD.out w2 o2 hb2; have b2 := bSd.below' hb2; have f0 := b2.cell 0; have f1 := b2.cell 1; have b3 := b2.alloc (.cells #[.int .i64 day, .slice (some ⟨wa.heap.size, 0, none⟩) pres.length pres.length] 56); have g0 := b3.cell 0; have g1 := b3.cell 1)
        | ((with_reducible refine at_world (w2.alloc (.cells #[.int .i64 day, .slice (some ⟨wa.heap.size, 0, none⟩) pres.length pres.length] 56)) ?_); refine step_append_run (by rfl) _ _ 26 (by rfl) _ _ (by rfl) (by rfl) hr ?_; have lw := (World.ownsRow.lt (OwnR.own HO.out.1.outer) w.heap.size rfl).2; have b5 := (b3.grown hg5 (by intro e; have := Option.some.inj e; omega)); have i0 := b5.cell 0; have i1 := b5.cell 1))
      go_wp2_with fail
      go_roundw
      case rel => exact ⟨k + 1, _, rfl, by go_num, hlt, Lib.hid ⟨og, by rw [take_snoc Hx.out, List.map_append, List.map_append, HO.out.2]; rfl⟩, hb4⟩
      case measure => simp [intOf]; omega
    · have hkn : k = cs.length := by omega
      subst hkn
      have hct := HO.out.2
      rw [List.take_length] at hct
      have Hct := Lib.hid hct
      clear hct
      go_wp2_with fail
      go_ret
      exact ⟨ys, rfl, HO.out.1, Hct.out, hbr⟩
end Go.Proofs.Ytbboihodikhhkaa
