/- MayMove: the program's and the reference's answer the same function. No condition. -/
import Derived.Test.YtiflpihjffhfhaaCallD
namespace Go.Proofs.Ytiflpihjffhfhaa
open Go.RowKit

def movesCode (hs : List Int) (cs : List C4) (n d : Int) : Int :=
  if (holB hs && callsOk cs) = true then if inB d 0 20000 = true then if C4.foundB n cs = true then 0 else 4 else 2 else 1
theorem movesCode_zero {hs : List Int} {cs : List C4} {n d : Int} (h : movesCode hs cs n d = 0) :
    holB hs = true ∧ callsOk cs = true ∧ inB d 0 20000 = true ∧ C4.foundB n cs = true ∧ C4.atGo n 0 cs = (C4.place n cs : Int) ∧ ∃ x, cs[C4.place n cs]? = some x ∧ x.num = n ∧ x.ok = true := by
  unfold movesCode at h
  split at h
  · rename_i h1
    simp only [Bool.and_eq_true] at h1
    split at h
    · rename_i h2
      split at h
      · rename_i h3
        obtain ⟨a1, a2, a3⟩ := callsOk_all h1.2
        have h4 := C4.find_agree n cs 0 a2
        rw [if_pos h3] at h4
        refine ⟨h1.1, h1.2, h2, h3, by simpa using h4, ?_⟩
        unfold C4.foundB at h3
        split at h3
        · rename_i x hx
          exact ⟨x, hx, by simpa using h3, a1 x (List.mem_of_getElem? hx)⟩
        · cases h3
      · omega
    · omega
  · omega
theorem atGo_neg {cs : List C4} {n : Int} (h : callsOk cs = true) (hf : C4.foundB n cs = false) : C4.atGo n 0 cs = -1 := by
  obtain ⟨a1, a2, a3⟩ := callsOk_all h
  rw [C4.find_agree n cs 0 a2, if_neg (by simp [hf])]
theorem atGo_pos {cs : List C4} {n : Int} (h : callsOk cs = true) (hf : C4.foundB n cs = true) : C4.atGo n 0 cs = (C4.place n cs : Int) := by
  obtain ⟨a1, a2, a3⟩ := callsOk_all h
  rw [C4.find_agree n cs 0 a2, if_pos hf]; simp

set_option maxHeartbeats 1000000 in
theorem l10Code_any (u v : Value) (hs : List Int) (cs : List C4) (n d : Int) (w : World) (lo' lo : Nat) (hh : SlI w lo' w.heap.size u hs) (h : SlC4 w lo w.heap.size v cs) :
    Calls Try.prog 86 #[u, v, .int .i64 n, .int .i64 d] w fun e w' => e = .returned (.int .i64 (movesCode hs cs n d)) ∧ Below w.heap.size w w' := by
  go_enter Try.func86, Try.ntmps86
  go_wp2_with fail
  refine (specAreHolidays_any u hs w lo' hh).mono ?_
  rintro e w1 ⟨rfl, hb1⟩
  cases h0 : holB hs
  · go_wp2_with fail
    go_ret
    exact ⟨ret_int (by simp [movesCode, h0]), hb1⟩
  go_wp2_with fail
  have h' := (h.below hb1 (Nat.le_refl _)).more (hi' := w1.heap.size) (Nat.le_refl _) hb1.size
  refine (specAreCalls_any v cs w1 lo h').mono ?_
  rintro e w2 ⟨rfl, hb2⟩
  have hB2 := hb1.trans (hb2.mono hb1.size)
  cases h1 : callsOk cs
  · go_wp2_with fail
    go_ret
    exact ⟨ret_int (by simp [movesCode, h0, h1]), hB2⟩
  go_wp2_with fail
  refine (l02Is_any d _).mono ?_
  rintro e w3 ⟨rfl, rfl⟩
  cases h2 : inB d 0 20000
  · go_wp2_with fail
    go_ret
    exact ⟨ret_int (by simp [movesCode, h0, h1, h2]), hB2⟩
  go_wp2_with fail
  refine (findC4_any v cs n _ lo _ (h.below hB2 (Nat.le_refl _))).mono ?_
  rintro e w3 ⟨rfl, rfl⟩
  cases h3 : C4.foundB n cs
  · have h4 := atGo_neg h1 h3
    go_wp2_with fail
    go_ret
    exact ⟨ret_int (by simp [movesCode, h0, h1, h2, h3]), hB2⟩
  · have h4 := atGo_pos h1 h3
    go_wp2_with fail
    go_ret
    exact ⟨ret_int (by simp [movesCode, h0, h1, h2, h3]), hB2⟩

set_option maxHeartbeats 1000000 in
theorem moveCode_any (u v : Value) (hs : List Int) (cs : List C4) (n d : Int) (w : World) (lo' lo : Nat) (hh : SlI w lo' w.heap.size u hs) (h : SlC4 w lo w.heap.size v cs) :
    Calls Try.prog 83 #[u, v, .int .i64 n, .int .i64 d] w fun e w' => ∃ i : Int, e = .returned (.tuple #[.int .i64 i, .int .i64 (movesCode hs cs n d)]) ∧ (movesCode hs cs n d = 0 → i = (C4.place n cs : Int)) ∧ Below w.heap.size w w' := by
  go_enter Try.func83, Try.ntmps83
  go_wp2_with fail
  refine (ofC4_any v cs n w lo _ h (Nat.le_refl _)).mono ?_
  rintro e w0 ⟨rfl, hb0⟩
  go_wp2_with fail
  refine (implAreHolidays_any u hs w0 lo' _ (hh.below hb0 (Nat.le_refl _))).mono ?_
  rintro e w1 ⟨rfl, rfl⟩
  cases h0 : holB hs
  · go_wp2_with fail
    go_ret2
    exact ⟨0, by simp [movesCode, h0], by simp [movesCode, h0], hb0⟩
  go_wp2_with fail
  have h' := (h.below hb0 (Nat.le_refl _)).more (hi' := w0.heap.size) (Nat.le_refl _) hb0.size
  refine (implAreCalls_any v cs w0 lo h').mono ?_
  rintro e w2 ⟨rfl, hb2⟩
  have hB2 := hb0.trans (hb2.mono hb0.size)
  cases h1 : callsOk cs
  · go_wp2_with fail
    go_ret2
    exact ⟨0, by simp [movesCode, h0, h1], by simp [movesCode, h0, h1], hB2⟩
  go_wp2_with fail
  refine (isDay_any d _).mono ?_
  rintro e w3 ⟨rfl, rfl⟩
  cases h2 : inB d 0 20000
  · go_wp2_with fail
    go_ret2
    exact ⟨0, by simp [movesCode, h0, h1, h2], by simp [movesCode, h0, h1, h2], hB2⟩
  cases h3 : C4.foundB n cs
  · go_wp2_with fail
    go_ret2
    exact ⟨0, by simp [movesCode, h0, h1, h2, h3], by simp [movesCode, h0, h1, h2, h3], hB2⟩
  · go_wp2_with fail
    go_ret2
    exact ⟨(C4.place n cs : Nat), by simp [movesCode, h0, h1, h2, h3], fun _ => rfl, hB2⟩

def mayP (hs : List Int) (x : C4) (d : Int) : Bool := decide (x.moves < 2) && decide (x.day < d) && decide (d ≤ x.first + 180) && courtB hs d

set_option maxHeartbeats 1000000 in
theorem l10May_any (u : Value) (hs : List Int) (x : C4) (d : Int) (w : World) (lo : Nat) (hh : SlI w lo w.heap.size u hs) (hx : x.ok = true) :
    Calls Try.prog 88 #[u, .agg #[.int .i64 x.num, .int .i64 x.first, .int .i64 x.day, .int .i64 x.moves], .int .i64 d] w fun e w' => e = .returned (.bool (mayP hs x d)) ∧ Below w.heap.size w w' := by
  have hb := C4.bounds hx
  have hB : Below w.heap.size w (w.alloc (.cells #[.int .i64 x.num, .int .i64 x.first, .int .i64 x.day, .int .i64 x.moves] 41)) := (Below.refl _ _).alloc (Nat.le_refl _) _
  have hh1 := hh.below hB (Nat.le_refl _)
  go_enter Try.func88, Try.ntmps88
  cases hc : courtB hs d
  all_goals go_wp2_with (go_at_call 105; refine (l02Court_any u hs d _ lo _ hh1).mono ?_; rintro e w' ⟨rfl, rfl⟩)
  all_goals go_ret
  all_goals exact ⟨ret_bool (by simp [mayP, hc]; try omega), hB⟩

set_option maxHeartbeats 1000000 in
theorem mayMove_any (u : Value) (hs : List Int) (x : C4) (d : Int) (w : World) (lo : Nat) (hh : SlI w lo w.heap.size u hs) (hx : x.ok = true) :
    Calls Try.prog 84 #[.agg #[.int .i64 x.num, .int .i64 x.first, .int .i64 x.day, .int .i64 x.moves], u, .int .i64 d] w fun e w' => e = .returned (.bool (mayP hs x d)) ∧ Below w.heap.size w w' := by
  have hb := C4.bounds hx
  have hB : Below w.heap.size w (w.alloc (.cells #[.int .i64 x.num, .int .i64 x.first, .int .i64 x.day, .int .i64 x.moves] 41)) := (Below.refl _ _).alloc (Nat.le_refl _) _
  have hh1 := hh.below hB (Nat.le_refl _)
  go_enter Try.func84, Try.ntmps84
  cases hc : courtB hs d
  all_goals go_wp2_with (first | (go_at_call 100; refine (isCourtDay_any u hs d _ lo _ hh1).mono ?_; rintro e w' ⟨rfl, rfl⟩) | (go_at_call 128; refine (within_any _ _ _ _).mono ?_; rintro e w' ⟨rfl, rfl⟩))
  all_goals go_ret
  all_goals exact ⟨ret_bool (by simp_all [mayP, inB]; try omega), hB⟩

def mayMoveF (hs : List Int) (cs : List C4) (n d : Int) : Bool × Int :=
  if movesCode hs cs n d = 0 then match cs[C4.place n cs]? with
    | some x => (mayP hs x d, 0)
    | none => (false, 0)
  else (false, movesCode hs cs n d)

set_option maxHeartbeats 1000000 in
set_option maxRecDepth 100000 in
theorem specMayMove_any (u : Value) (hs : List Int) (v : Value) (cs : List C4) (n d : Int) (w : World) (lo' : Nat) (hh : SlI w lo' w.heap.size u hs) (lo : Nat) (h : SlC4 w lo w.heap.size v cs) :
    Calls Try.prog 14 #[u, v, .int .i64 n, .int .i64 d] w fun e w' => e = .returned (.tuple #[.bool (mayMoveF hs cs n d).1, .int .i64 (mayMoveF hs cs n d).2]) ∧ Below w.heap.size w w' := by
  obtain ⟨A, c, rfl, hc1, hc2⟩ := h.form
  go_enter Try.func14, Try.ntmps14
  go_wp2_with fail
  refine (l10Code_any u _ hs cs n d w lo' lo hh h).mono ?_
  rintro e w1 ⟨rfl, hb1⟩
  by_cases hc : movesCode hs cs n d = 0
  · obtain ⟨_, h1, _, _, h4, x, hx, hnn, hxo⟩ := movesCode_zero hc
    clear hnn
    have hF : mayMoveF hs cs n d = (mayP hs x d, 0) := by simp [mayMoveF, hc, hx]
    have hlt := (List.getElem?_eq_some_iff.1 hx).1
    rw [hc]
    obtain ⟨b, off, rfl, _, hb, c0, c1, c2, c3⟩ := ((h.below hb1 (Nat.le_refl _)).more (hi' := w1.heap.size) (Nat.le_refl _) hb1.size).C4_at hx
    have Hx := Lib.hid hx
    clear hx
    go_wp2_with fail
    refine (findC4_any _ cs n _ lo _ (h.below hb1 (Nat.le_refl _))).mono ?_
    rintro e w3 ⟨rfl, rfl⟩
    rw [h4]
    generalize C4.place n cs = k at *
    go_wp2_with fail
    refine (l10May_any u hs x d _ lo' ((hh.below hb1 (Nat.le_refl _)).more (Nat.le_refl _) hb1.size) hxo).mono ?_
    rintro e w2 ⟨rfl, hb2⟩
    go_wp2_with fail
    go_ret2
    exact ⟨by rw [hF]; rfl, hb1.trans (hb2.mono hb1.size)⟩
  · have hF : mayMoveF hs cs n d = (false, movesCode hs cs n d) := by simp [mayMoveF, hc]
    have hne : (movesCode hs cs n d != 0) = true := by simp [hc]
    go_wp2_with fail
    go_ret2
    exact ⟨by rw [hF]; rfl, hb1⟩

set_option maxHeartbeats 1000000 in
set_option maxRecDepth 100000 in
theorem implMayMove_any (u : Value) (hs : List Int) (v : Value) (cs : List C4) (n d : Int) (w : World) (lo' : Nat) (hh : SlI w lo' w.heap.size u hs) (lo : Nat) (h : SlC4 w lo w.heap.size v cs) :
    Calls Try.prog 13 #[u, v, .int .i64 n, .int .i64 d] w fun e w' => e = .returned (.tuple #[.bool (mayMoveF hs cs n d).1, .int .i64 (mayMoveF hs cs n d).2]) ∧ Below w.heap.size w w' := by
  obtain ⟨A, c, rfl, hc1, hc2⟩ := h.form
  go_enter Try.func13, Try.ntmps13
  go_wp2_with fail
  refine (moveCode_any u _ hs cs n d w lo' lo hh h).mono ?_
  rintro e w1 ⟨i, rfl, hi, hb1⟩
  by_cases hc : movesCode hs cs n d = 0
  · obtain ⟨_, h1, _, _, h4, x, hx, hnn, hxo⟩ := movesCode_zero hc
    clear hnn
    have hF : mayMoveF hs cs n d = (mayP hs x d, 0) := by simp [mayMoveF, hc, hx]
    have hlt := (List.getElem?_eq_some_iff.1 hx).1
    rw [hc]
    obtain rfl := hi hc
    obtain ⟨b, off, rfl, _, hb, c0, c1, c2, c3⟩ := ((h.below hb1 (Nat.le_refl _)).more (hi' := w1.heap.size) (Nat.le_refl _) hb1.size).C4_at hx
    have Hx := Lib.hid hx
    clear hx
    generalize C4.place n cs = k at *
    go_wp2_with fail
    refine (mayMove_any u hs x d _ lo' ((hh.below hb1 (Nat.le_refl _)).more (Nat.le_refl _) hb1.size) hxo).mono ?_
    rintro e w2 ⟨rfl, hb2⟩
    go_wp2_with fail
    go_ret2
    exact ⟨by rw [hF]; rfl, hb1.trans (hb2.mono hb1.size)⟩
  · have hF : mayMoveF hs cs n d = (false, movesCode hs cs n d) := by simp [mayMoveF, hc]
    have hne : (movesCode hs cs n d != 0) = true := by simp [hc]
    go_wp2_with fail
    go_ret2
    exact ⟨by rw [hF]; rfl, hb1⟩
end Go.Proofs.Ytiflpihjffhfhaa
