/- DropCall: the program's and the reference's answer the same function. No condition but the sizes that the law itself asks. -/
import Derived.Test.YtiflpihjffhfhaaCallG
import Derived.Test.YtiflpihjffhfhaaReg
namespace Go.Proofs.Ytiflpihjffhfhaa
open Go.RowKit
attribute [local go_sem ↓] Go.wp_at_zero Go.wp_at_succ

def dropF (cs : List C4) (n : Int) : List C4 × Int :=
  if callsOk cs = true then if C4.foundB n cs = true then (cs.take (C4.place n cs) ++ cs.drop (C4.place n cs + 1), 0) else ([], 4) else ([], 1)
theorem dropF_len (cs : List C4) (n : Int) : (dropF cs n).1.length ≤ cs.length := by
  unfold dropF
  repeat' split
  all_goals simp
  omega
theorem dropF_code (cs : List C4) (n : Int) : (dropF cs n).2 = movesCode [] cs n 0 := by
  have e1 : holB [] = true := rfl
  have e2 : inB 0 0 20000 = true := rfl
  unfold dropF movesCode
  cases callsOk cs <;> cases C4.foundB n cs <;> simp [e1, e2]
theorem dropF_yes {cs : List C4} {n : Int} (h : movesCode [] cs n 0 = 0) : (dropF cs n).1 = cs.take (C4.place n cs) ++ cs.drop (C4.place n cs + 1) := by
  obtain ⟨_, h1, _, h3, _⟩ := movesCode_zero h
  simp [dropF, h1, h3]
theorem dropF_no {cs : List C4} {n : Int} (h : ¬ movesCode [] cs n 0 = 0) : (dropF cs n).1 = [] := by
  have e1 : holB [] = true := rfl
  have e2 : inB 0 0 20000 = true := rfl
  unfold movesCode at h
  unfold dropF
  cases h1 : callsOk cs
  · simp
  · cases h2 : C4.foundB n cs
    · simp
    · exact absurd (by simp [e1, e2, h1, h2]) h


theorem zeroC4 : ∀ w : World, (zeroValue 41).run Try.prog w = .ok (.agg #[.int .i64 0, .int .i64 0, .int .i64 0, .int .i64 0]) w := fun _ => by kernel_rfl
theorem oneZC4 : ∀ u ∈ (Value.agg #[.int .i64 0, .int .i64 0, .int .i64 0, .int .i64 0]).cells, u.oneCell' = true := by
  intro u hu
  simp [Value.cells] at hu
  rcases hu with rfl | rfl | rfl | rfl <;> rfl
set_option maxRecDepth 100000 in
set_option maxHeartbeats 4000000 in
theorem delC4_any (g k d cap : Nat) (cs : List C4) (w : World) (base : Nat) (hl : cs.length = k + d + 1) (hcap : cap ≤ 9223372036854775807) (hroom : k + d + 1 ≤ cap) (h : OwnR C4.vals 4 w base 41 (.slice (some ⟨g, 0, none⟩) (k + d + 1) cap) cs) :
    Calls Try.prog 106 #[.slice (some ⟨g, 0, none⟩) (k + d + 1) cap, .int .i64 (k : Int), .int .i64 ((k : Int) + 1)] w fun e w' => e = .returned (.slice (some ⟨g, 0, none⟩) (k + d) cap) ∧ OwnR C4.vals 4 w' base 41 (.slice (some ⟨g, 0, none⟩) (k + d) cap) (cs.take k ++ cs.drop (k + 1)) ∧ w.grownBy w' (some g) := by
  have s0 := own_slR (f := C4.vals) (s := 4) (fun _ => rfl) (OwnR.own h)
  have Hl := Lib.hid hl
  have hd1 : (k : Int) + 1 ≤ (k : Int) + (d : Int) + 1 := by omega
  have hd2 : (k : Int) + (d : Int) + 1 ≤ (cap : Int) := by omega
  have hd3 : (0 : Int) ≤ (k : Int) + 1 := by omega
  have hd4 : ((k : Int) + 1).toNat = k + 1 := by omega
  have hd5 : ((k : Int) == (k : Int) + 1) = false := by simp; omega
  have hd6 : (k : Int) ≤ (k : Int) + 1 := by omega
  have hd7 : (k : Int) ≤ (cap : Int) := by omega
  have hd8 : ¬ cap = 0 := by omega
  have hd9 : ¬ cap = k + d := by omega
  have hw : IntKind.i64.wrap ((k : Int) + 1) = (k : Int) + 1 := IntWalk.i64_in _ (by omega)
  have s1 : SlC4 w base w.heap.size (.slice (some ⟨g, 0 + (k + 1) * 4, none⟩) (k + d + 1 - (k + 1)) (cap - (k + 1))) (cs.drop (k + 1)) := SlR.drop s0 (by omega)
  have o1 := own_cut (f := C4.vals) (s := 4) (fun _ => rfl) h (k := k) (by omega)
  have l1 : (cs.drop (k + 1)).length = d := by rw [List.length_drop]; omega
  have hA : Below w.heap.size w w.drew := (Below.refl _ _).drew
  clear hl
  have s2 := SlR.none (f := C4.vals) (s := 4) (fun _ => rfl) w base w.heap.size (some ⟨g, 0, none⟩) (c := 0) (by omega)
  rcases (by omega : k + 1 < cap ∨ cap ≤ k + 1) with q6 | q6
  · have q7 : ¬ cap = k + 1 := by omega
    have s3 : SlC4 w base w.heap.size (.slice (some ⟨g, (k + 1) * 4, none⟩) d (cap - (k + 1))) (cs.drop (k + 1)) := by rw [Nat.zero_add, show k + d + 1 - (k + 1) = d by omega] at s1; exact s1
    have HL1 := Lib.hid l1
    clear l1 s1 s2
    go_enter Try.func106, Try.ntmps106
    go_wp2_with fail
    go_region_held3 (fun _ => True) (trivial) ((refine step_append_in (f := C4.vals) (s := 4) _ (fun _ => rfl) oneCellC4 (by rfl) _ _ 25 (by rfl) base 41 Try.infoC4 Try.underlying25 g k cap (cs.take k) (cs.drop (k + 1)) _ base _ (by rfl) o1.drew (by rfl) (s3.below hA (Nat.le_refl _)) d HL1.out (by omega) ?_; intro w2 o2 hg2))
    obtain ⟨w3, hr, o3, hg3⟩ := run_clear_own (P := Try.prog) (f := C4.vals) (s := 4) w2 25 0 41 Try.underlying25 zeroC4 rfl (by decide) oneZC4 o2 1 (cap - (k + d)) (by omega)
    go_wp2_with fail
    go_ret
    exact ⟨rfl, o3, grownBy_trans (grownBy_trans (World.grownBy.drew w (some g)) hg2) hg3⟩
  · obtain rfl : d = 0 := by omega
    obtain rfl : cap = k + 1 := by omega
    have hnil : cs.drop (k + 1) = [] := List.drop_of_length_le (by have := Hl.out; omega)
    rw [hnil]
    clear hnil l1 s1
    go_enter Try.func106, Try.ntmps106
    go_wp2_with fail
    go_region_held3 (fun _ => True) (trivial) ((refine step_append_in (f := C4.vals) (s := 4) _ (fun _ => rfl) oneCellC4 (by rfl) _ _ 25 (by rfl) base 41 Try.infoC4 Try.underlying25 g k (k + 1) (cs.take k) ([] : List C4) _ base _ (by rfl) o1.drew (by rfl) (s2.below hA (Nat.le_refl _)) 0 rfl (by omega) ?_; intro w2 o2 hg2))
    obtain ⟨w3, hr, o3, hg3⟩ := run_clear_own (P := Try.prog) (f := C4.vals) (s := 4) w2 25 0 41 Try.underlying25 zeroC4 rfl (by decide) oneZC4 o2 1 1 (by omega)
    simp only [Nat.add_zero] at hr
    go_wp2_with fail
    go_ret
    exact ⟨rfl, o3, grownBy_trans (grownBy_trans (World.grownBy.drew w (some g)) hg2) hg3⟩

set_option maxRecDepth 100000 in
set_option maxHeartbeats 4000000 in
theorem specDropCall_any (v : Value) (cs : List C4) (n : Int) (w : World) (lo : Nat) (h : SlC4 w lo w.heap.size v cs) :
    Calls Try.prog 20 #[v, .int .i64 n] w fun e w' => ∃ v', e = .returned (.tuple #[v', .int .i64 (dropF cs n).2]) ∧ OwnR C4.vals 4 w' w.heap.size 41 v' (dropF cs n).1 ∧ Below w.heap.size w w' := by
  obtain ⟨A, c, rfl, hc1, hc2⟩ := h.form
  go_enter Try.func20, Try.ntmps20
  go_wp2_with fail
  refine (l10Code_any _ _ [] cs n 0 w 0 lo ⟨fun _ => rfl, by simpa using Sl.nil w 0 _ 1⟩ h).mono ?_
  rintro e w1 ⟨rfl, hb1⟩
  by_cases hc : movesCode [] cs n 0 = 0
  · obtain ⟨_, h1, _, _, h4, x, hx, hnn, hxo⟩ := movesCode_zero hc
    have HF1 := Lib.hid (dropF_yes hc)
    have HF2 := Lib.hid ((dropF_code cs n).trans hc)
    clear hnn hxo
    have hlt := (List.getElem?_eq_some_iff.1 hx).1
    have hlen := (callsOk_all h1).2.2
    have hz1 := hb1.size
    rw [hc]
    have h' : SlC4 w1 lo w1.heap.size (.slice A cs.length c) cs := (h.below hb1 (Nat.le_refl _)).more (Nat.le_refl _) hb1.size
    obtain ⟨b, off, rfl, _, hb, c0, c1, c2, c3⟩ := h'.C4_at hx
    clear c0 c1 c2 c3
    have Hx := Lib.hid hx
    clear hx
    go_wp2_with fail
    refine (findC4_any _ cs n _ lo _ h').mono ?_
    rintro e w3 ⟨rfl, rfl⟩
    rw [h4]
    generalize C4.place n cs = k at *
    have q1 : (0 : Int) ≤ (k : Int) := by omega
    have q2 : (k : Int) ≤ (c : Int) := by omega
    have q3 : (k : Int) + 1 ≤ (cs.length : Int) := by omega
    have q4 : IntKind.i64.wrap ((k : Int) + 1) = (k : Int) + 1 := IntWalk.i64_in _ (by omega)
    go_wp2_with fail
    have q5 : (k : Int) + 1 ≤ (c : Int) := by omega
    have hA : Below w1.heap.size w1 ((w1.alloc (.cells #[] 41)).drew) := ((Below.refl _ _).alloc (Nat.le_refl _) _).drew
    have o1 : OwnR C4.vals 4 ((w1.alloc (.cells #[] 41)).drew) w1.heap.size 41 (.slice (some ⟨w1.heap.size, 0, none⟩) 0 0) ([] : List C4) := (own_empty w1 _ 4 C4.vals).drew
    have s1 : SlC4 w1 lo w1.heap.size (.slice (some ⟨b, off, none⟩) k c) (cs.take k) := h'.take (by omega)
    have s2 : SlC4 w1 lo w1.heap.size (.slice (some ⟨b, off + (k + 1) * 4, none⟩) (cs.length - (k + 1)) (c - (k + 1))) (cs.drop (k + 1)) := SlR.drop h' (by omega)
    have l1 : (cs.take k).length ≤ 20 := by rw [List.length_take]; omega
    have l2 : (cs.drop (k + 1)).length ≤ 20 := by rw [List.length_drop]; omega
    have s1 := s1.below hA (Nat.le_refl _)
    rcases (by omega : (k : Int) + 1 < (c : Int) ∨ (c : Int) ≤ (k : Int) + 1) with q6 | q6
    · have q7 : ¬ c = k + 1 := by omega
      have q8 : ((k : Int) + 1).toNat = k + 1 := by omega
      have q9 : (0 : Int) ≤ (k : Int) + 1 := by omega
      go_region_held3 (fun _ => True) (trivial) (first
        | (refine step_append_sl (f := C4.vals) (s := 4) _ (fun _ => rfl) oneCellC4 (by rfl) _ _ 25 (by rfl) w1.heap.size 41 Try.infoC4 Try.underlying25 rfl (by decide) _ ([] : List C4) (cs.take k) _ lo _ (by rfl) o1 (by rfl) s1 (by simp; omega) (by simp; omega) (by simp) ?_; intro v2 w2 o2 hB2 _; have hb2 := hB2 _ _ hA (Nat.le_refl _); have s3 := s2.below hb2 (Nat.le_refl _); have z2 := hb2.size)
        | (refine step_append_sl (f := C4.vals) (s := 4) _ (fun _ => rfl) oneCellC4 (by rfl) _ _ 25 (by rfl) w1.heap.size 41 Try.infoC4 Try.underlying25 rfl (by decide) _ _ (cs.drop (k + 1)) _ lo _ (by rfl) o2 (by rfl) s3 (by simp; omega) (by simp; omega) z2 ?_; intro v3 w3 o3 hB3 _; have hb3 := hB3 _ _ hb2 (Nat.le_refl _)))
      go_wp2_with fail
      go_ret2
      exact ⟨v3, by rw [HF2.out]; rfl, by rw [HF1.out]; exact o3.more hb1.size, hb1.trans (hb3.mono hb1.size)⟩
    · obtain rfl : c = k + 1 := by omega
      have hnil : cs.drop (k + 1) = [] := List.drop_of_length_le (by omega)
      have s2 := SlR.none (f := C4.vals) (s := 4) (fun _ => rfl) w1 lo w1.heap.size (some ⟨b, off, none⟩) (c := 0) (by omega)
      have hle : cs.length = k + 1 := by omega
      have q7 : (k : Int) ≤ (k : Int) + 1 := by omega
      have q8 : ((k : Int) + 1).toNat = k + 1 := by omega
      have q9 : (0 : Int) ≤ (k : Int) + 1 := by omega
      clear q2 q3 q5 q6 hc1 hc2
      go_region_held3 (fun _ => True) (trivial) (first
        | (refine step_append_sl (f := C4.vals) (s := 4) _ (fun _ => rfl) oneCellC4 (by rfl) _ _ 25 (by rfl) w1.heap.size 41 Try.infoC4 Try.underlying25 rfl (by decide) _ ([] : List C4) (cs.take k) _ lo _ (by rfl) o1 (by rfl) s1 (by simp; omega) (by simp; omega) (by simp) ?_; intro v2 w2 o2 hB2 _; have hb2 := hB2 _ _ hA (Nat.le_refl _); have s3 := s2.below hb2 (Nat.le_refl _); have z2 := hb2.size)
        | (refine step_append_sl (f := C4.vals) (s := 4) _ (fun _ => rfl) oneCellC4 (by rfl) _ _ 25 (by rfl) w1.heap.size 41 Try.infoC4 Try.underlying25 rfl (by decide) _ _ ([] : List C4) _ lo _ (by rfl) o2 (by rfl) s3 (by simp; omega) (by simp; omega) z2 ?_; intro v3 w3 o3 hB3 _; have hb3 := hB3 _ _ hb2 (Nat.le_refl _)))
      go_wp2_with fail
      go_ret2
      exact ⟨v3, by rw [HF2.out]; rfl, by rw [HF1.out, hnil]; exact o3.more hb1.size, hb1.trans (hb3.mono hb1.size)⟩
  · have HF1 := Lib.hid (dropF_no hc)
    have HF2 := Lib.hid (dropF_code cs n)
    have hne : (movesCode [] cs n 0 != 0) = true := by simp [hc]
    go_wp2_with fail
    go_ret2
    exact ⟨.slice none 0 0, by rw [HF2.out]; rfl, by rw [HF1.out]; exact own_nil _ _ _ _ _, hb1⟩

set_option maxRecDepth 100000 in
set_option maxHeartbeats 4000000 in
theorem implDropCall_any (v : Value) (cs : List C4) (n : Int) (w : World) (lo : Nat) (h : SlC4 w lo w.heap.size v cs) :
    Calls Try.prog 19 #[v, .int .i64 n] w fun e w' => ∃ v', e = .returned (.tuple #[v', .int .i64 (dropF cs n).2]) ∧ OwnR C4.vals 4 w' w.heap.size 41 v' (dropF cs n).1 ∧ Below w.heap.size w w' := by
  obtain ⟨A, c, rfl, hc1, hc2⟩ := h.form
  go_enter Try.func19, Try.ntmps19
  go_wp2_with fail
  refine (implAreCalls_any _ cs w lo h).mono ?_
  rintro e w0 ⟨rfl, hb0⟩
  cases h1 : callsOk cs
  · have hF : dropF cs n = ([], 1) := by simp [dropF, h1]
    go_wp2_with fail
    go_ret2
    exact ⟨.slice none 0 0, by rw [hF]; rfl, by rw [hF]; exact own_nil _ _ _ _ _, hb0⟩
  go_wp2_with fail
  have h0 : SlC4 w0 lo w0.heap.size (.slice A cs.length c) cs := (h.below hb0 (Nat.le_refl _)).more (Nat.le_refl _) hb0.size
  refine (ofC4_any _ cs n w0 lo _ h0 (Nat.le_refl _)).mono ?_
  rintro e w1 ⟨rfl, hb1'⟩
  have hb1 := hb0.trans (hb1'.mono hb0.size)
  clear hb1' hb0 h0
  cases h3 : C4.foundB n cs
  · have hF : dropF cs n = ([], 4) := by simp [dropF, h1, h3]
    go_wp2_with fail
    go_ret2
    exact ⟨.slice none 0 0, by rw [hF]; rfl, by rw [hF]; exact own_nil _ _ _ _ _, hb1⟩
  have hF : dropF cs n = (cs.take (C4.place n cs) ++ cs.drop (C4.place n cs + 1), 0) := by simp [dropF, h1, h3]
  have HF := Lib.hid hF
  clear hF
  have hlt : C4.place n cs < cs.length := by
    unfold C4.foundB at h3
    split at h3
    · rename_i x hx; exact (List.getElem?_eq_some_iff.1 hx).1
    · cases h3
  have hlen := (callsOk_all h1).2.2
  clear h3
  generalize C4.place n cs = k at *
  have h' : SlC4 w1 lo w1.heap.size (.slice A cs.length c) cs := (h.below hb1 (Nat.le_refl _)).more (Nat.le_refl _) hb1.size
  have hz1 := hb1.size
  have hw : IntKind.i64.wrap ((k : Int) + 1) = (k : Int) + 1 := IntWalk.i64_in _ (by omega)
  go_wp2_with fail
  refine (cloneC4_any _ cs w1 lo h' (by omega)).mono ?_
  rintro e w2 ⟨v', rfl, o2, hB2⟩
  obtain ⟨d, hd⟩ : ∃ d, cs.length = k + d + 1 := ⟨cs.length - k - 1, by omega⟩
  obtain ⟨A2, cc, rfl, hcc1, hcc2, hA⟩ := own_form (OwnR.own o2)
  obtain ⟨g, rfl, hg1, hg2⟩ := hA (by omega)
  have o2' : OwnR C4.vals 4 w2 w1.heap.size 41 (.slice (some ⟨g, 0, none⟩) (k + d + 1) cc) cs := hd ▸ o2
  have Hd := Lib.hid hd
  have hcc3 : k + d + 1 ≤ cc := by omega
  go_wp2_with fail
  clear hd
  refine (delC4_any g k d cc cs w2 _ Hd.out hcc2 hcc3 o2').mono ?_
  rintro e w3 ⟨rfl, o3, hg3⟩
  go_wp2_with fail
  go_ret2
  exact ⟨_, by rw [HF.out]; rfl, by rw [HF.out]; exact o3.more hb1.size, hb1.trans ((Below.grown hB2 hg3 hB2.size (by intro q hq; injection hq with hq; omega)).mono hb1.size)⟩
end Go.Proofs.Ytiflpihjffhfhaa
