/- Lists of candidates that the laws draw. No condition. -/
import Derived.Test.YtkhojhgcopnenaaDrawQ
import Derived.Test.YtkhojhgcopnenaaQualH
import Derived.Test.YtkhojhgcopnenaaApAt
namespace Go.Proofs.Ytkhojhgcopnenaa
open Go.RowKit
attribute [local go_sem ↓] Go.wp_at_zero Go.wp_at_succ

theorem n9_one : ∀ (x : K9), ∀ u ∈ x.vals, u.oneCell' = true := by intro x u hu; simp [K9.vals] at hu; rcases hu with h | h | h | h | h | h | h | h | h <;> subst h <;> rfl
theorem n9_belowB {w w' w2 : World} {g B : Nat} (h : w.grownBy w' (some g)) (hb : Below B w' w2) (hB : w.heap.size ≤ B) : w.grownBy w2 (some g) :=
  ⟨hb.os.trans h.os, hb.tape.trans h.tape, hb.output.trans h.output, Nat.le_trans h.size hb.size, fun i hi hne => (hb.block i (by omega)).trans (h.block i hi hne)⟩
theorem n9_zero_small : (K9.mk 0 ⟨#[]⟩ ⟨#[]⟩ 0 0 false false false 0).small := n9_small (by decide) (by decide) 0 0 0 0 false false false
def n9_len : Value → Nat
  | .slice _ n _ => n
  | _ => 0
set_option maxRecDepth 100000 in
set_option maxHeartbeats 8000000 in
theorem l06List_any (g : Nat) (w : World) (h : Src w g) :
    Calls Try.prog 71 #[.pointer (some ⟨g, 0, none⟩)] w fun e w' => ∃ (v : Value) (cs : List K9), e = .returned v ∧ SlK w' w.heap.size w'.heap.size v cs ∧ (∀ x ∈ cs, x.small) ∧ cs.length ≤ 100 ∧ Src w' g ∧ w.grownBy w' (some g) := by
  have lg := h.lt
  go_enter Try.func71, Try.ntmps71
  go_wp2_with fail
  have o1 := own_empty w 45 9 K9.vals
  have h1 := h.alloc (.cells #[] 45)
  have g1 := gr_alloc (World.grownBy.refl w (some g)) (.cells #[] 45)
  generalize (w.alloc (.cells #[] 45)) = w1 at *
  refine (l01Next_any g 7 w1 h1).mono ?_
  rintro e w2 ⟨r2, rfl, a2, b2, _, h2, g2⟩
  have b2 := b2 (by omega)
  have o2 := o1.grown g2 (fun k hk => by have := Option.some.inj hk; omega)
  have g2 := grownBy_trans g1 g2
  obtain ⟨m0, rfl⟩ : ∃ m0 : Nat, r2 = (m0 : Int) := ⟨r2.toNat, by omega⟩
  clear h1 g1 o1
  go_wp2_with fail
  go_loopw [3, 4] (fun q i wr => ∃ (m : Nat) (cs : List K9), i = .int .i64 m ∧ m ≤ 6 ∧ cs.length + m ≤ 6 ∧ Hid (∀ x ∈ cs, x.small) ∧ OwnR K9.vals 9 wr w.heap.size 45 q cs ∧ Src wr g ∧ w.grownBy wr (some g)) (fun q i wr => (intOf i).toNat)
  case atStart => exact ⟨m0, [], rfl, by omega, by simp; omega, Lib.hid (by simp), o2, h2, g2⟩
  case round =>
    obtain ⟨m, cs, rfl, hm, hl, HS, oq, hs, hg⟩ := hrel
    have zr := hg.size
    obtain ⟨AQ, cQ, rfl, hcQ1, hcQ2, _⟩ := own_form (OwnR.own oq)
    rcases m with _ | m
    · go_wp2_with fail
      refine (l01Next_any g 30 wr hs).mono ?_
      rintro e w3 ⟨r3, rfl, _, _, _, h3, g3⟩
      have o3 := oq.grown g3 (fun k hk => by have := Option.some.inj hk; omega)
      have G3 := grownBy_trans hg g3
      have z3 := g3.size
      clear oq hs g3
      by_cases q3 : r3 = 0
      · subst q3
        go_wp2_with fail
        refine (l04Good_any g w3 h3).mono ?_
        rintro e w4 ⟨n, f, l, b, z, rfl, hf, hl2, h4, g4⟩
        have o4 := o3.grown g4 (fun k hk => by have := Option.some.inj hk; omega)
        have G4 := grownBy_trans G3 g4
        have z4 := g4.size
        have HC := Lib.hid (n9_small hf hl2 n b z 0 false false false)
        clear o3 h3 G3 g4 hf hl2
        have bP := Blk.new w4 45 #[.int .i64 n, .string f, .string l, .int .i64 b, .int .i64 z, .bool false, .bool false, .bool false, .int .i64 0]
        have o5 := o4.alloc (.cells #[.int .i64 n, .string f, .string l, .int .i64 b, .int .i64 z, .bool false, .bool false, .bool false, .int .i64 0] 45)
        have h5 := h4.alloc (.cells #[.int .i64 n, .string f, .string l, .int .i64 b, .int .i64 z, .bool false, .bool false, .bool false, .int .i64 0] 45)
        have G5 := gr_alloc G4 (.cells #[.int .i64 n, .string f, .string l, .int .i64 b, .int .i64 z, .bool false, .bool false, .bool false, .int .i64 0] 45)
        have lgP := h4.lt
        have hin := Lib.hid (show ∀ k, (Value.slice AQ cs.length cQ).ownBlock = some k → k < w4.heap.size from fun k hk => (World.ownsRow.lt (OwnR.own o4) k hk).2)
        go_wp2_with fail
        generalize (w4.alloc (.cells #[.int .i64 n, .string f, .string l, .int .i64 b, .int .i64 z, .bool false, .bool false, .bool false, .int .i64 0] 45)) = w5 at *
        have hwP : w.heap.size ≤ w4.heap.size := by omega
        obtain ⟨PB, hPB⟩ : ∃ PB, w4.heap.size = PB := ⟨_, rfl⟩
        rw [hPB] at bP lgP hin hwP
        rw [hPB]
        clear hPB h4 o4 G4
        go_loopw [3] (fun q wr => ∃ (ds : List K9), ds.length ≤ 61 ∧ Hid (∀ x ∈ ds, x.small) ∧ OwnR K9.vals 9 wr w.heap.size 45 q ds ∧ Hid (∀ k, q.ownBlock = some k → k ≠ PB) ∧ Blk wr PB 45 #[.int .i64 n, .string f, .string l, .int .i64 b, .int .i64 z, .bool false, .bool false, .bool false, .int .i64 0] ∧ Src wr g ∧ w.grownBy wr (some g)) (fun q wr => 62 - n9_len q)
        case atStart => exact ⟨cs, by omega, HS, o5, Lib.hid (fun k hk => by have := hin.out k hk; omega), bP, h5, G5⟩
        case round =>
          obtain ⟨ds, hdl, HSd, oq, Hne, bP, hs, hg⟩ := hrel
          have zr2 := hg.size
          obtain ⟨AQ, cQ, rfl, hcQ1, hcQ2, _⟩ := own_form (OwnR.own oq)
          go_wp2_with fail
          refine (l01Next_any g 2 _ hs).mono ?_
          rintro e w6 ⟨r6, rfl, a6, b6, _, h6, g6⟩
          have b6 := b6 (by omega)
          have o6 := oq.grown g6 (fun k hk => by have := Option.some.inj hk; omega)
          have bP := bP.grown g6 (dn_ne lgP)
          have G6 := grownBy_trans hg g6
          have z6 := g6.size
          clear oq hs g6
          by_cases hlt : (ds.length : Int) < 60 + r6
          · obtain ⟨p0, p1, p2, p3, p4, p5, p6, p7, p8⟩ := r9_cells bP
            go_wp2_with (at_builtin; refine wpList_append_rec_at (f := K9.vals) (s := 9) 45 _ _ (fun _ => rfl) n9_one rfl _ _ 55 rfl w.heap.size Try.infoK9 Try.underlying55 rfl (by decide) _ _ ⟨n, f, l, b, z, false, false, false, 0⟩ rfl o6 rfl rfl rfl (by omega) (by omega) (by omega) ?_)
            intro v7 w7 o7 hb7 hv7
            have hlo := fun k hk => (World.ownsRow.lt (OwnR.own o6) k hk).1
            have lP6 := bP.lt
            have bP7 := (bP.alloc (.cells #[.int .i64 n, .string f, .string l, .int .i64 b, .int .i64 z, .bool false, .bool false, .bool false, .int .i64 0] 45)).grown hb7 (fun e => Hne.out PB e.symm rfl)
            have h7 := (h6.alloc (.cells #[.int .i64 n, .string f, .string l, .int .i64 b, .int .i64 z, .bool false, .bool false, .bool false, .int .i64 0] 45)).grown hb7 (fun k hk => by have := hlo k hk; omega)
            have G7 := gr_row (gr_alloc G6 (.cells #[.int .i64 n, .string f, .string l, .int .i64 b, .int .i64 z, .bool false, .bool false, .bool false, .int .i64 0] 45)) hb7 hlo
            have HS2 : Hid (∀ x ∈ ds ++ [(⟨n, f, l, b, z, false, false, false, 0⟩ : K9)], x.small) := Lib.hid (fun x hx => by
              rcases List.mem_append.1 hx with hx | hx
              · exact HSd.out x hx
              · rw [List.mem_singleton.1 hx]; exact HC.out)
            have Hne2 : Hid (∀ k, v7.ownBlock = some k → k ≠ PB) := Lib.hid (fun k hk => by
              rcases hv7 with e | e
              · exact Hne.out k (e ▸ hk)
              · rw [e] at hk
                have := Option.some.inj hk
                omega)
            obtain ⟨A7, c7, rfl, _, _, _⟩ := own_form (OwnR.own o7)
            clear hv7 hb7 hlo Hne o6 bP h6 G6 p0 p1 p2 p3 p4 p5 p6 p7 p8
            go_wp2_with fail
            go_roundw
            case rel => exact ⟨ds ++ [⟨n, f, l, b, z, false, false, false, 0⟩], by rw [List.length_append]; show ds.length + 1 ≤ 61; omega, HS2, o7, Hne2, bP7, h7, G7⟩
            case measure => simp [n9_len]; omega
          · have HB := Lib.hid (own_slK o6)
            go_wp2_with fail
            go_ret
            exact ⟨_, ds, rfl, HB.out, HSd.out, by omega, h6, G6⟩
      · have d3 : (r3 == 0) = false := by simpa using q3
        have HB := Lib.hid (own_slK o3)
        go_wp2_with fail
        go_ret
        exact ⟨_, cs, rfl, HB.out, HS.out, by omega, h3, G3⟩
    · have hm0 : (0 : Int) < ((m + 1 : Nat) : Int) := by omega
      go_wp2_with fail
      refine (l06Candidate_any g wr hs).mono ?_
      rintro e w3 ⟨c, rfl, hc, h3, g3⟩
      have o3 := oq.grown g3 (fun k hk => by have := Option.some.inj hk; omega)
      have G3 := grownBy_trans hg g3
      have z3 := g3.size
      have HC := Lib.hid hc
      clear oq hs g3 hc
      go_wp2_with (at_builtin; refine wpList_append_rec (f := K9.vals) (s := 9) 45 _ _ (fun _ => rfl) n9_one rfl _ _ 55 rfl w.heap.size Try.infoK9 Try.underlying55 rfl (by decide) _ _ c rfl o3 rfl rfl rfl (by omega) (by omega) (by omega) ?_)
      intro v4 w4 o4 hb4
      have hB4 := hb4 w.heap.size w3 (Below.refl _ _) (Nat.le_refl _)
      have h4 := h3.below hB4 lg
      have G4 := n9_belowB G3 hB4 (Nat.le_refl _)
      have HS2 : Hid (∀ x ∈ cs ++ [c], x.small) := Lib.hid (fun x hx => by
        rcases List.mem_append.1 hx with hx | hx
        · exact HS.out x hx
        · rw [List.mem_singleton.1 hx]; exact HC.out)
      go_wp2_with fail
      go_roundw
      case rel => exact ⟨m, cs ++ [c], by go_num, by omega, by rw [List.length_append]; show cs.length + 1 + m ≤ 6; omega, HS2, o4, h4, G4⟩
      case measure => simp [intOf]
end Go.Proofs.Ytkhojhgcopnenaa
