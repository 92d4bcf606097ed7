/- MoveCall: the program's and the reference's answer the same function. No condition but the sizes that the law itself asks. -/
import Derived.Test.YtiflpihjffhfhaaCallE
namespace Go.Proofs.Ytiflpihjffhfhaa
open Go.RowKit

def moveF (hs : List Int) (cs : List C4) (n d : Int) : List C4 × Int :=
  if movesCode hs cs n d = 0 then match cs[C4.place n cs]? with
    | some x => if mayP hs x d = true then (cs.set (C4.place n cs) { x with day := d, moves := x.moves + 1 }, 0) else ([], 5)
    | none => ([], 0)
  else ([], movesCode hs cs n d)
theorem moveF_len (hs : List Int) (cs : List C4) (n d : Int) : (moveF hs cs n d).1.length ≤ cs.length := by
  unfold moveF
  repeat' split
  all_goals simp

set_option maxRecDepth 100000 in
set_option maxHeartbeats 2000000 in
theorem specMoveCall_any (u : Value) (hs : List Int) (v : Value) (cs : List C4) (n d : Int) (w : World) (lo' : Nat) (hh : SlI w lo' w.heap.size u hs) (lo : Nat) (h : SlC4 w lo w.heap.size v cs) :
    Calls Try.prog 12 #[u, v, .int .i64 n, .int .i64 d] w fun e w' => ∃ v', e = .returned (.tuple #[v', .int .i64 (moveF hs cs n d).2]) ∧ OwnR C4.vals 4 w' w.heap.size 41 v' (moveF hs cs n d).1 ∧ Below w.heap.size w w' := by
  obtain ⟨A, c, rfl, hc1, hc2⟩ := h.form
  go_enter Try.func12, Try.ntmps12
  go_wp2_with fail
  refine (l10Code_any u _ hs cs n d w lo' lo hh h).mono ?_
  rintro e w1 ⟨rfl, hb1⟩
  by_cases hc : movesCode hs cs n d = 0
  · obtain ⟨_, h1, _, _, h4, x, hx, hnn, hxo⟩ := movesCode_zero hc
    clear hnn
    have hF0 : moveF hs cs n d = if mayP hs x d = true then (cs.set (C4.place n cs) { x with day := d, moves := x.moves + 1 }, 0) else ([], 5) := by simp [moveF, hc, hx]
    have HF0 := Lib.hid hF0
    clear hF0
    have hlt := (List.getElem?_eq_some_iff.1 hx).1
    have hlen := (callsOk_all h1).2.2
    have hxb := C4.bounds hxo
    have hz1 := hb1.size
    rw [hc]
    have h' : SlC4 w1 lo w1.heap.size (.slice A cs.length c) cs := (h.below hb1 (Nat.le_refl _)).more (Nat.le_refl _) hb1.size
    obtain ⟨b, off, rfl, _, hb, c0, c1, c2, c3⟩ := h'.C4_at hx
    have Hx := Lib.hid hx
    clear hx
    go_wp2_with fail
    refine (findC4_any _ cs n _ lo _ h').mono ?_
    rintro e w3 ⟨rfl, rfl⟩
    rw [h4]
    generalize C4.place n cs = k at *
    go_wp2_with fail
    refine (l10May_any u hs x d _ lo' ((hh.below hb1 (Nat.le_refl _)).more (Nat.le_refl _) hb1.size) hxo).mono ?_
    rintro e w2 ⟨rfl, hb2⟩
    have hB2 := hb1.trans (hb2.mono hb1.size)
    clear c0 c1 c2 c3
    cases hm : mayP hs x d
    · have hF : moveF hs cs n d = ([], 5) := by rw [HF0.out, if_neg (by simp [hm])]
      have HF := Lib.hid hF
      clear hF
      go_wp2_with fail
      go_ret2
      exact ⟨.slice none 0 0, by rw [HF.out]; rfl, by rw [HF.out]; exact own_nil _ _ _ _ _, hB2⟩
    · have hF : moveF hs cs n d = (cs.set k { x with day := d, moves := x.moves + 1 }, 0) := by rw [HF0.out, if_pos hm]
      have HF := Lib.hid hF
      clear hF
      have h2 : SlC4 w2 lo w2.heap.size (.slice (some ⟨b, off, none⟩) cs.length c) cs := (h'.below hb2 (Nat.le_refl _)).more (Nat.le_refl _) hb2.size
      have hz2 := hb2.size
      go_wp2_with (at_builtin; refine wpList_append_sl (f := C4.vals) (s := 4) _ (fun _ => rfl) oneCellC4 rfl _ _ 25 rfl w2.heap.size 41 Try.infoC4 Try.underlying25 rfl (by decide) _ ([] : List C4) cs _ _ _ rfl (own_empty _ _ 4 C4.vals) rfl (h2.below ((Below.refl _ _).alloc (Nat.le_refl _) _) (Nat.le_refl _)) (by simp; omega) (by simp; omega) (by simp) ?_)
      intro v' w3 o2 hbel _
      have hB3 := hbel _ _ ((Below.refl w2.heap.size w2).alloc (Nat.le_refl _) _) (Nat.le_refl _)
      clear hbel
      obtain ⟨A2, cc, rfl, hcc1, hcc2, hA⟩ := own_form (OwnR.own o2)
      obtain ⟨g, rfl, hg1, hg2⟩ := hA (by omega)
      obtain ⟨⟨_, g0⟩, ⟨_, g1⟩, ⟨_, g2⟩, ⟨_, g3⟩, f0, f1, f2, f3⟩ := own_rowC4 (OwnR.own o2) hlt
      obtain ⟨b2, off2, ee, _, _, d0, d1, d2, d3⟩ := ((h2.below hB3 (Nat.le_refl _)).more (Nat.le_refl _) hB3.size).C4_at Hx.out
      injection ee with ee
      injection ee with ee1 ee2
      subst ee1 ee2
      have hne : b ≠ g := by omega
      have hne' : g ≠ b := by omega
      clear d0 d1 d2
      have hz3 := hB3.size
      go_wp2_with fail
      go_ret2
      have e1 := own_setField (f := C4.vals) (s := 4) (fun _ => rfl) o2 Hx.out (j := 2) (by decide) (u := .int .i64 d) (x' := { x with day := d }) rfl
      have e2 := own_setField (f := C4.vals) (s := 4) (fun _ => rfl) e1 (k := k) (x := { x with day := d }) (by simp [hlt]) (j := 3) (by decide) (u := .int .i64 (x.moves + 1)) (x' := { x with day := d, moves := x.moves + 1 }) rfl
      rw [List.set_set] at e2
      exact ⟨_, by rw [HF.out]; rfl, by rw [HF.out]; exact e2.more hB2.size, hB2.trans (((hB3.setCell (by simpa using hg1) _).setCell (by simpa using hg1) _).mono hB2.size)⟩
  · have hF : moveF hs cs n d = ([], movesCode hs cs n d) := by simp [moveF, hc]
    have hne : (movesCode hs cs n d != 0) = true := by simp [hc]
    go_wp2_with fail
    go_ret2
    exact ⟨.slice none 0 0, by rw [hF]; rfl, by rw [hF]; exact own_nil _ _ _ _ _, hb1⟩

set_option maxRecDepth 100000 in
set_option maxHeartbeats 2000000 in
theorem implMoveCall_any (u : Value) (hs : List Int) (v : Value) (cs : List C4) (n d : Int) (w : World) (lo' : Nat) (hh : SlI w lo' w.heap.size u hs) (lo : Nat) (h : SlC4 w lo w.heap.size v cs) :
    Calls Try.prog 11 #[u, v, .int .i64 n, .int .i64 d] w fun e w' => ∃ v', e = .returned (.tuple #[v', .int .i64 (moveF hs cs n d).2]) ∧ OwnR C4.vals 4 w' w.heap.size 41 v' (moveF hs cs n d).1 ∧ Below w.heap.size w w' := by
  obtain ⟨A, c, rfl, hc1, hc2⟩ := h.form
  go_enter Try.func11, Try.ntmps11
  go_wp2_with fail
  refine (moveCode_any u _ hs cs n d w lo' lo hh h).mono ?_
  rintro e w1 ⟨i, rfl, hi, hb1⟩
  by_cases hc : movesCode hs cs n d = 0
  · obtain ⟨_, h1, _, _, h4, x, hx, hnn, hxo⟩ := movesCode_zero hc
    clear hnn
    have hF0 : moveF hs cs n d = if mayP hs x d = true then (cs.set (C4.place n cs) { x with day := d, moves := x.moves + 1 }, 0) else ([], 5) := by simp [moveF, hc, hx]
    have HF0 := Lib.hid hF0
    clear hF0
    have hlt := (List.getElem?_eq_some_iff.1 hx).1
    have hlen := (callsOk_all h1).2.2
    have hxb := C4.bounds hxo
    have hz1 := hb1.size
    rw [hc]
    obtain rfl := hi hc
    have h' : SlC4 w1 lo w1.heap.size (.slice A cs.length c) cs := (h.below hb1 (Nat.le_refl _)).more (Nat.le_refl _) hb1.size
    obtain ⟨b, off, rfl, _, hb, c0, c1, c2, c3⟩ := h'.C4_at hx
    have Hx := Lib.hid hx
    clear hx
    generalize C4.place n cs = k at *
    go_wp2_with fail
    refine (mayMove_any u hs x d _ lo' ((hh.below hb1 (Nat.le_refl _)).more (Nat.le_refl _) hb1.size) hxo).mono ?_
    rintro e w2 ⟨rfl, hb2⟩
    have hB2 := hb1.trans (hb2.mono hb1.size)
    clear c0 c1 c2 c3
    cases hm : mayP hs x d
    · have hF : moveF hs cs n d = ([], 5) := by rw [HF0.out, if_neg (by simp [hm])]
      have HF := Lib.hid hF
      clear hF
      go_wp2_with fail
      go_ret2
      exact ⟨.slice none 0 0, by rw [HF.out]; rfl, by rw [HF.out]; exact own_nil _ _ _ _ _, hB2⟩
    · have hF : moveF hs cs n d = (cs.set k { x with day := d, moves := x.moves + 1 }, 0) := by rw [HF0.out, if_pos hm]
      have HF := Lib.hid hF
      clear hF
      have h2 : SlC4 w2 lo w2.heap.size (.slice (some ⟨b, off, none⟩) cs.length c) cs := (h'.below hb2 (Nat.le_refl _)).more (Nat.le_refl _) hb2.size
      go_wp2_with fail
      refine (cloneC4_any _ cs w2 lo h2 (by omega)).mono ?_
      rintro e w3 ⟨v', rfl, o2, hB3⟩
      obtain ⟨A2, cc, rfl, hcc1, hcc2, hA⟩ := own_form (OwnR.own o2)
      obtain ⟨g, rfl, hg1, hg2⟩ := hA (by omega)
      obtain ⟨_, _, _, _, f0, f1, f2, f3⟩ := own_rowC4 (OwnR.own o2) hlt
      obtain ⟨b2, off2, ee, _, _, d0, d1, d2, d3⟩ := (own_slC4 o2).C4_at Hx.out
      injection ee with ee
      injection ee with ee1 ee2
      subst ee1 ee2
      rw [Nat.zero_add] at d2 d3
      clear d0 d1
      go_wp2_with fail
      go_ret2
      have e1 := own_setField (f := C4.vals) (s := 4) (fun _ => rfl) o2 Hx.out (j := 2) (by decide) (u := .int .i64 d) (x' := { x with day := d }) rfl
      have e2 := own_setField (f := C4.vals) (s := 4) (fun _ => rfl) e1 (k := k) (x := { x with day := d }) (by simp [hlt]) (j := 3) (by decide) (u := .int .i64 (x.moves + 1)) (x' := { x with day := d, moves := x.moves + 1 }) rfl
      rw [List.set_set] at e2
      exact ⟨_, by rw [HF.out]; rfl, by rw [HF.out]; exact e2.more hB2.size, hB2.trans (((hB3.setCell (by simpa using hg1) _).setCell (by simpa using hg1) _).mono hB2.size)⟩
  · have hF : moveF hs cs n d = ([], movesCode hs cs n d) := by simp [moveF, hc]
    have hne : (movesCode hs cs n d != 0) = true := by simp [hc]
    go_wp2_with fail
    go_ret2
    exact ⟨.slice none 0 0, by rw [hF]; rfl, by rw [hF]; exact own_nil _ _ _ _ _, hb1⟩
end Go.Proofs.Ytiflpihjffhfhaa
