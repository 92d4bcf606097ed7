/- AddTerm: the program's and the reference's answer the same function. No condition but the sizes that the law itself asks. -/
import Derived.Test.YtiflpihjffhfhaaTermC
import Derived.Test.YtiflpihjffhfhaaReg
namespace Go.Proofs.Ytiflpihjffhfhaa
open Go.RowKit
attribute [local go_sem ↓] Go.wp_at_zero Go.wp_at_succ

def addTermF (cs : List T3) (t : T3) : List T3 × Int := if termsOk cs = true then if termsOk (cs ++ [t]) = true then (cs ++ [t], 0) else ([], 5) else ([], 1)
theorem addTermF_len (cs : List T3) (t : T3) : (addTermF cs t).1.length ≤ cs.length + 1 := by
  unfold addTermF
  repeat' split
  all_goals simp

set_option maxRecDepth 100000 in
set_option maxHeartbeats 4000000 in
theorem specAddTerm_any (v : Value) (cs : List T3) (t : T3) (w : World) (lo : Nat) (h : SlT3 w lo w.heap.size v cs) :
    Calls Try.prog 67 #[v, t.val] w fun e w' => ∃ v', e = .returned (.tuple #[v', .int .i64 (addTermF cs t).2]) ∧ OwnR T3.vals 3 w' w.heap.size 65 v' (addTermF cs t).1 ∧ Below w.heap.size w w' := by
  obtain ⟨A, c, rfl, hc1, hc2⟩ := h.form
  obtain ⟨num, beg, fin⟩ := t
  unfold T3.val
  dsimp only
  go_enter Try.func67, Try.ntmps67
  go_wp2_with fail
  have b0 := Blk.new w 65 #[.int .i64 num, .int .i64 beg, .int .i64 fin]
  have hB0 : Below w.heap.size w (w.alloc (.cells #[.int .i64 num, .int .i64 beg, .int .i64 fin] 65)) := (Below.refl _ _).alloc (Nat.le_refl _) _
  generalize w.alloc (.cells #[.int .i64 num, .int .i64 beg, .int .i64 fin] 65) = w0 at *
  refine (specAreTerms_any _ cs w0 lo ((h.below hB0 (Nat.le_refl _)).more (Nat.le_refl _) hB0.size)).mono ?_
  rintro e w1 ⟨rfl, hb1'⟩
  have hb1 := hB0.trans (hb1'.mono hB0.size)
  have b1 := b0.below' hb1'
  cases h1 : termsOk cs
  · have hF : addTermF cs ⟨num, beg, fin⟩ = ([], 1) := by simp [addTermF, h1]
    go_wp2_with fail
    go_ret2
    exact ⟨.slice none 0 0, by rw [hF]; rfl, by rw [hF]; exact own_nil _ _ _ _ _, hb1⟩
  have hlen := (termsOk_all h1).2
  have z1 := hb1.size
  have h' : SlT3 w1 lo w1.heap.size (.slice A cs.length c) cs := (h.below hb1 (Nat.le_refl _)).more (Nat.le_refl _) hb1.size
  have KS : Hid (∀ W, Below w1.heap.size w1 W → W.cell? ⟨w.heap.size, 0, none⟩ = some (.int .i64 num) ∧ W.cell? ⟨w.heap.size, 1, none⟩ = some (.int .i64 beg) ∧ W.cell? ⟨w.heap.size, 2, none⟩ = some (.int .i64 fin)) := Lib.hid fun W hW => ⟨(b1.below' hW).cell 0, (b1.below' hW).cell 1, (b1.below' hW).cell 2⟩
  obtain ⟨k0, k1, k2⟩ := KS.out _ (Below.refl _ _)
  clear b0 b1 hb1' hB0
  have hAA : Below w1.heap.size w1 ((w1.alloc (.cells #[] 65)).drew) := (((Below.refl _ _).alloc (Nat.le_refl _) _)).drew
  have hAB : Below w1.heap.size w1 (((w1.alloc (.cells #[] 65)).alloc (.cells #[.int .i64 num, .int .i64 beg, .int .i64 fin] 65)).drew) := ((((Below.refl _ _).alloc (Nat.le_refl _) _)).alloc (by simp) _).drew
  have hAC : Below w1.heap.size w1 (((w1.alloc (.cells #[.int .i64 num, .int .i64 beg, .int .i64 fin] 65)).alloc (.cells #[] 65)).drew) := ((((Below.refl _ _).alloc (Nat.le_refl _) _)).alloc (by simp) _).drew
  have oA : OwnR T3.vals 3 ((w1.alloc (.cells #[] 65)).drew) w1.heap.size 65 (.slice (some ⟨w1.heap.size, 0, none⟩) 0 0) ([] : List _) := (own_empty w1 _ 3 T3.vals).drew
  have oB : OwnR T3.vals 3 (((w1.alloc (.cells #[] 65)).alloc (.cells #[.int .i64 num, .int .i64 beg, .int .i64 fin] 65)).drew) w1.heap.size 65 (.slice (some ⟨w1.heap.size, 0, none⟩) 0 0) ([] : List _) := ((own_empty w1 _ 3 T3.vals).alloc _).drew
  have tB : SlR T3.vals 3 (((w1.alloc (.cells #[] 65)).alloc (.cells #[.int .i64 num, .int .i64 beg, .int .i64 fin] 65)).drew) (w1.heap.size + 1) (w1.heap.size + 1 + 1) (.slice (some ⟨w1.heap.size + 1, 0, none⟩) 1 1) [(⟨num, beg, fin⟩ : T3)] := by have := (rec_sl (f := T3.vals) (s := 3) (fun _ => rfl) (w1.alloc (.cells #[] 65)) 65 (cx := #[.int .i64 num, .int .i64 beg, .int .i64 fin]) (x := (⟨num, beg, fin⟩ : T3)) rfl).drew; simpa using this
  have oC : OwnR T3.vals 3 (((w1.alloc (.cells #[.int .i64 num, .int .i64 beg, .int .i64 fin] 65)).alloc (.cells #[] 65)).drew) w1.heap.size 65 (.slice (some ⟨w1.heap.size + 1, 0, none⟩) 0 0) ([] : List _) := by have := ((own_empty (w1.alloc (.cells #[.int .i64 num, .int .i64 beg, .int .i64 fin] 65)) 65 3 T3.vals).drew).more (base' := w1.heap.size) (by simp); simpa using this
  have tC : SlR T3.vals 3 (((w1.alloc (.cells #[.int .i64 num, .int .i64 beg, .int .i64 fin] 65)).alloc (.cells #[] 65)).drew) w1.heap.size (w1.heap.size + 1) (.slice (some ⟨w1.heap.size, 0, none⟩) 1 1) [(⟨num, beg, fin⟩ : T3)] := ((rec_sl (f := T3.vals) (s := 3) (fun _ => rfl) w1 65 (cx := #[.int .i64 num, .int .i64 beg, .int .i64 fin]) (x := (⟨num, beg, fin⟩ : T3)) rfl).alloc (by simp) _).drew
  have zTB : w1.heap.size + 1 + 1 ≤ (((w1.alloc (.cells #[] 65)).alloc (.cells #[.int .i64 num, .int .i64 beg, .int .i64 fin] 65)).drew).heap.size := by simp
  have zTC : w1.heap.size + 1 + 1 ≤ (((w1.alloc (.cells #[.int .i64 num, .int .i64 beg, .int .i64 fin] 65)).alloc (.cells #[] 65)).drew).heap.size := by simp
  have hAD : Below w1.heap.size w1 ((w1.alloc (.cells #[.int .i64 num, .int .i64 beg, .int .i64 fin] 65)).drew) := ((Below.refl _ _).alloc (Nat.le_refl _) _).drew
  go_wp2_with fail
  go_region_held3 (fun w' => w'.cell? ⟨w.heap.size, 0, none⟩ = some (.int .i64 num) ∧ w'.cell? ⟨w.heap.size, 1, none⟩ = some (.int .i64 beg) ∧ w'.cell? ⟨w.heap.size, 2, none⟩ = some (.int .i64 fin)) (first | exact KS.out _ hAA | exact KS.out _ hAB | exact KS.out _ hAC | exact KS.out _ hAD | exact KS.out _ ((Below.refl _ _).drew) | exact KS.out _ hb3 | exact KS.out _ hb2 | exact KS.out _ (hb2.alloc z2 _) | go_keep) (first
    | ((with_reducible refine at_world ((w1.alloc (.cells #[] 65)).drew) ?_); refine step_append_sl (f := T3.vals) (s := 3) ((w1.alloc (.cells #[] 65)).drew) (fun _ => rfl) oneCellT3 (by rfl) _ _ 59 (by rfl) w1.heap.size 65 Try.infoT3 Try.underlying59 rfl (by decide) _ ([] : List _) cs _ lo _ (by rfl) oA (by rfl) (h'.below hAA (Nat.le_refl _)) (by simp; omega) (by simp; omega) (by simp; try omega) ?_; intro v2 w2 o2 hB2 hg2; have hb2 := hB2 _ _ hAA (Nat.le_refl _); have z2 := hb2.size)
    | ((with_reducible refine at_world (((w1.alloc (.cells #[] 65)).alloc (.cells #[.int .i64 num, .int .i64 beg, .int .i64 fin] 65)).drew) ?_); refine step_append_sl (f := T3.vals) (s := 3) (((w1.alloc (.cells #[] 65)).alloc (.cells #[.int .i64 num, .int .i64 beg, .int .i64 fin] 65)).drew) (fun _ => rfl) oneCellT3 (by rfl) _ _ 59 (by rfl) w1.heap.size 65 Try.infoT3 Try.underlying59 rfl (by decide) _ ([] : List _) cs _ lo _ (by rfl) oB (by rfl) (h'.below hAB (Nat.le_refl _)) (by simp; omega) (by simp; omega) (by simp; try omega) ?_; intro v2 w2 o2 hB2 hg2; have hb2 := hB2 _ _ hAB (Nat.le_refl _); have z2 := hb2.size; have t2 := tB.grown hg2 zTB (by intro q hq; have hq := Option.some.inj hq; dsimp only at hq; omega); have zt2 : w1.heap.size + 1 + 1 ≤ w2.heap.size := Nat.le_trans zTB hg2.size)
    | ((with_reducible refine at_world (((w1.alloc (.cells #[.int .i64 num, .int .i64 beg, .int .i64 fin] 65)).alloc (.cells #[] 65)).drew) ?_); refine step_append_sl (f := T3.vals) (s := 3) (((w1.alloc (.cells #[.int .i64 num, .int .i64 beg, .int .i64 fin] 65)).alloc (.cells #[] 65)).drew) (fun _ => rfl) oneCellT3 (by rfl) _ _ 59 (by rfl) w1.heap.size 65 Try.infoT3 Try.underlying59 rfl (by decide) _ ([] : List _) cs _ lo _ (by rfl) oC (by rfl) (h'.below hAC (Nat.le_refl _)) (by simp; omega) (by simp; omega) (by simp; try omega) ?_; intro v2 w2 o2 hB2 hg2; have hb2 := hB2 _ _ hAC (Nat.le_refl _); have z2 := hb2.size; have t2 := tC.grown hg2 (Nat.le_trans (Nat.le_succ _) zTC) (by intro q hq; have hq := Option.some.inj hq; dsimp only at hq; omega); have zt2 : w1.heap.size + 1 ≤ w2.heap.size := Nat.le_trans (Nat.le_trans (Nat.le_succ _) zTC) hg2.size)
    | ((with_reducible refine at_world w2 ?_); refine step_append_sl (f := T3.vals) (s := 3) w2 (fun _ => rfl) oneCellT3 (by rfl) _ _ 59 (by rfl) w1.heap.size 65 Try.infoT3 Try.underlying59 rfl (by decide) _ _ [(⟨num, beg, fin⟩ : T3)] _ _ _ (by rfl) o2 (by rfl) t2 (by simp; omega) (by simp; omega) z2 ?_; intro v3 w3 o3 hB3 hg3; have hb3 := hB3 _ _ hb2 (Nat.le_refl _); have z3 := hb3.size)
    | ((with_reducible refine at_world (w2.alloc (.cells #[.int .i64 num, .int .i64 beg, .int .i64 fin] 65)) ?_); refine step_append_sl (f := T3.vals) (s := 3) (w2.alloc (.cells #[.int .i64 num, .int .i64 beg, .int .i64 fin] 65)) (fun _ => rfl) oneCellT3 (by rfl) _ _ 59 (by rfl) w1.heap.size 65 Try.infoT3 Try.underlying59 rfl (by decide) _ _ [(⟨num, beg, fin⟩ : T3)] _ _ _ (by rfl) (o2.alloc _) (by rfl) (rec_sl (f := T3.vals) (s := 3) (fun _ => rfl) w2 65 (cx := #[.int .i64 num, .int .i64 beg, .int .i64 fin]) (x := (⟨num, beg, fin⟩ : T3)) rfl) (by simp; omega) (by simp; omega) (Nat.le_trans z2 (by simp)) ?_; intro v3 w3 o3 hB3 hg3; have hb3 := hB3 _ _ (hb2.alloc z2 _) (Nat.le_refl _); have z3 := hb3.size))
  all_goals
    have o3' : OwnR T3.vals 3 w3 w1.heap.size 65 v3 (cs ++ [⟨num, beg, fin⟩]) := o3
    clear o3
    have z3 := hb3.size
    go_wp2_with fail
    refine (specAreTerms_any _ _ w3 _ (own_slT3 o3')).mono ?_
    rintro e w4 ⟨rfl, hb4⟩
    have hB4 := hb3.trans (hb4.mono hb3.size)
    have o4 := o3'.below hb4
    cases h2 : termsOk (cs ++ [⟨num, beg, fin⟩])
    · have hF : addTermF cs ⟨num, beg, fin⟩ = ([], 5) := by simp [addTermF, h1, h2]
      go_wp2_with fail
      go_ret2
      exact ⟨.slice none 0 0, by rw [hF]; rfl, by rw [hF]; exact own_nil _ _ _ _ _, hb1.trans (hB4.mono hb1.size)⟩
    · have hF : addTermF cs ⟨num, beg, fin⟩ = (cs ++ [⟨num, beg, fin⟩], 0) := by simp [addTermF, h1, h2]
      go_wp2_with fail
      go_ret2
      exact ⟨v3, by rw [hF]; rfl, by rw [hF]; exact o4.more hb1.size, hb1.trans (hB4.mono hb1.size)⟩

set_option maxRecDepth 100000 in
set_option maxHeartbeats 4000000 in
theorem implAddTerm_any (v : Value) (cs : List T3) (t : T3) (w : World) (lo : Nat) (h : SlT3 w lo w.heap.size v cs) :
    Calls Try.prog 66 #[v, t.val] w fun e w' => ∃ v', e = .returned (.tuple #[v', .int .i64 (addTermF cs t).2]) ∧ OwnR T3.vals 3 w' w.heap.size 65 v' (addTermF cs t).1 ∧ Below w.heap.size w w' := by
  obtain ⟨A, c, rfl, hc1, hc2⟩ := h.form
  obtain ⟨num, beg, fin⟩ := t
  unfold T3.val
  dsimp only
  go_enter Try.func66, Try.ntmps66
  go_wp2_with fail
  have b0 := Blk.new w 65 #[.int .i64 num, .int .i64 beg, .int .i64 fin]
  have hB0 : Below w.heap.size w (w.alloc (.cells #[.int .i64 num, .int .i64 beg, .int .i64 fin] 65)) := (Below.refl _ _).alloc (Nat.le_refl _) _
  generalize w.alloc (.cells #[.int .i64 num, .int .i64 beg, .int .i64 fin] 65) = w0 at *
  refine (implAreTerms_any _ cs w0 lo ((h.below hB0 (Nat.le_refl _)).more (Nat.le_refl _) hB0.size)).mono ?_
  rintro e w1 ⟨rfl, hb1'⟩
  have hb1 := hB0.trans (hb1'.mono hB0.size)
  have b1 := b0.below' hb1'
  cases h1 : termsOk cs
  · have hF : addTermF cs ⟨num, beg, fin⟩ = ([], 1) := by simp [addTermF, h1]
    go_wp2_with fail
    go_ret2
    exact ⟨.slice none 0 0, by rw [hF]; rfl, by rw [hF]; exact own_nil _ _ _ _ _, hb1⟩
  have hlen := (termsOk_all h1).2
  have z1 := hb1.size
  have h' : SlT3 w1 lo w1.heap.size (.slice A cs.length c) cs := (h.below hb1 (Nat.le_refl _)).more (Nat.le_refl _) hb1.size
  have KS : Hid (∀ W, Below w1.heap.size w1 W → W.cell? ⟨w.heap.size, 0, none⟩ = some (.int .i64 num) ∧ W.cell? ⟨w.heap.size, 1, none⟩ = some (.int .i64 beg) ∧ W.cell? ⟨w.heap.size, 2, none⟩ = some (.int .i64 fin)) := Lib.hid fun W hW => ⟨(b1.below' hW).cell 0, (b1.below' hW).cell 1, (b1.below' hW).cell 2⟩
  obtain ⟨k0, k1, k2⟩ := KS.out _ (Below.refl _ _)
  clear b0 b1 hb1' hB0
  have hn := (Nat.le_trans hlen (by decide) : cs.length ≤ 2097152)
  have hAD : Below w1.heap.size w1 (w1.alloc (.cells #[.int .i64 num, .int .i64 beg, .int .i64 fin] 65)) := (Below.refl _ _).alloc (Nat.le_refl _) _
  have hAE : Below w1.heap.size w1 ((w1.alloc (.cells #[.int .i64 num, .int .i64 beg, .int .i64 fin] 65)).drew) := ((Below.refl _ _).alloc (Nat.le_refl _) _).drew
  have tD : SlR T3.vals 3 ((w1.alloc (.cells #[.int .i64 num, .int .i64 beg, .int .i64 fin] 65)).drew) w1.heap.size (w1.heap.size + 1) (.slice (some ⟨w1.heap.size, 0, none⟩) 1 1) [(⟨num, beg, fin⟩ : T3)] := (rec_sl (f := T3.vals) (s := 3) (fun _ => rfl) w1 65 (cx := #[.int .i64 num, .int .i64 beg, .int .i64 fin]) (x := ⟨num, beg, fin⟩) rfl).drew
  have hzD : w1.heap.size + 1 ≤ ((w1.alloc (.cells #[.int .i64 num, .int .i64 beg, .int .i64 fin] 65)).drew).heap.size := by simp
  have hAF : Below w1.heap.size w1 w1.drew := (Below.refl _ _).drew
  go_wp2_with fail
  go_region_held3 (fun w' => w'.cell? ⟨w.heap.size, 0, none⟩ = some (.int .i64 num) ∧ w'.cell? ⟨w.heap.size, 1, none⟩ = some (.int .i64 beg) ∧ w'.cell? ⟨w.heap.size, 2, none⟩ = some (.int .i64 fin)) (first | exact KS.out _ hAD | exact KS.out _ hAE | exact KS.out _ hAF | exact KS.out _ hb3 | exact KS.out _ hb2 | exact KS.out _ (hb2.alloc z2 _) | go_keep) (first
    | (go_at_call 145; refine (cloneT3_any _ cs _ lo ((h'.below hAF (Nat.le_refl _)).more (Nat.le_refl _) hAF.size) hn).mono ?_; rintro e w2 ⟨v2, rfl, o2, hb2'⟩; have hb2 := hAF.trans (hb2'.mono hAF.size); have z2 := hb2.size; have o2 : OwnR T3.vals 3 w2 w1.heap.size 65 v2 cs := o2)
    | (go_at_call 145; refine (cloneT3_any _ cs _ lo ((h'.below hAE (Nat.le_refl _)).more (Nat.le_refl _) hAE.size) hn).mono ?_; rintro e w2 ⟨v2, rfl, o2, hb2'⟩; have hb2 := hAE.trans (hb2'.mono hAE.size); have z2 := hb2.size; have o2 : OwnR T3.vals 3 w2 w1.heap.size 65 v2 cs := o2.more hAE.size; have t2 := tD.below hb2' hzD)
    | (refine step_append_sl (f := T3.vals) (s := 3) _ (fun _ => rfl) oneCellT3 (by rfl) _ _ 59 (by rfl) w1.heap.size 65 Try.infoT3 Try.underlying59 rfl (by decide) _ _ [(⟨num, beg, fin⟩ : T3)] _ _ _ (by rfl) o2 (by rfl) t2 (by simp; omega) (by simp; omega) z2 ?_; intro v3 w3 o3 hB3 hg3; have hb3 := hB3 _ _ hb2 (Nat.le_refl _))
    | (refine step_append_sl (f := T3.vals) (s := 3) _ (fun _ => rfl) oneCellT3 (by rfl) _ _ 59 (by rfl) w1.heap.size 65 Try.infoT3 Try.underlying59 rfl (by decide) _ _ [(⟨num, beg, fin⟩ : T3)] _ _ _ (by rfl) (o2.alloc _) (by rfl) (rec_sl (f := T3.vals) (s := 3) (fun _ => rfl) w2 65 (cx := #[.int .i64 num, .int .i64 beg, .int .i64 fin]) (x := ⟨num, beg, fin⟩) rfl) (by simp; omega) (by simp; omega) (Nat.le_trans z2 (by simp)) ?_; intro v3 w3 o3 hB3 hg3; have hb3 := hB3 _ _ (hb2.alloc z2 _) (Nat.le_refl _)))
  all_goals
    have o3' : OwnR T3.vals 3 w3 w1.heap.size 65 v3 (cs ++ [⟨num, beg, fin⟩]) := o3
    clear o3
    have z3 := hb3.size
    go_wp2_with fail
    refine (implAreTerms_any _ _ w3 _ (own_slT3 o3')).mono ?_
    rintro e w4 ⟨rfl, hb4⟩
    have hB4 := hb3.trans (hb4.mono hb3.size)
    have o4 := o3'.below hb4
    cases h2 : termsOk (cs ++ [⟨num, beg, fin⟩])
    · have hF : addTermF cs ⟨num, beg, fin⟩ = ([], 5) := by simp [addTermF, h1, h2]
      go_wp2_with fail
      go_ret2
      exact ⟨.slice none 0 0, by rw [hF]; rfl, by rw [hF]; exact own_nil _ _ _ _ _, hb1.trans (hB4.mono hb1.size)⟩
    · have hF : addTermF cs ⟨num, beg, fin⟩ = (cs ++ [⟨num, beg, fin⟩], 0) := by simp [addTermF, h1, h2]
      go_wp2_with fail
      go_ret2
      exact ⟨v3, by rw [hF]; rfl, by rw [hF]; exact o4.more hb1.size, hb1.trans (hB4.mono hb1.size)⟩

end Go.Proofs.Ytiflpihjffhfhaa
