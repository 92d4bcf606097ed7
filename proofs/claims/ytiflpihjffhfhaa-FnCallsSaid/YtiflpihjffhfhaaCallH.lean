/- FirstRoom: the program's and the reference's answer the same function. No condition but the sizes that the law itself asks. -/
import Derived.Test.YtiflpihjffhfhaaCallG
import Derived.Test.YtiflpihjffhfhaaCallC
namespace Go.Proofs.Ytiflpihjffhfhaa
open Go.RowKit

/-- The last day to which a call may be moved. -/
def lastDay (x : C4) : Int := min 20000 (x.first + 180)
def roomGo (hs : List Int) (cs : List C4) (x : C4) (r : Int) : Nat → Int → Int × Int
  | 0, _ => (0, 5)
  | f + 1, d => if (mayP hs x d && decide (((onDay cs d).length : Int) < r)) = true then (d, 0) else roomGo hs cs x r f (d + 1)
theorem roomGo_yes {hs cs x r} {z : Int} (hz : z ≤ lastDay x) (h : (mayP hs x z && decide (((onDay cs z).length : Int) < r)) = true) : roomGo hs cs x r (lastDay x + 1 - z).toNat z = (z, 0) := by
  obtain ⟨m, hm⟩ : ∃ m, (lastDay x + 1 - z).toNat = m + 1 := ⟨(lastDay x - z).toNat, by omega⟩
  rw [hm, roomGo, if_pos h]
theorem roomGo_no {hs cs x r} {z : Int} (hz : z ≤ lastDay x) (h : (mayP hs x z && decide (((onDay cs z).length : Int) < r)) = false) : roomGo hs cs x r (lastDay x + 1 - z).toNat z = roomGo hs cs x r (lastDay x + 1 - (z + 1)).toNat (z + 1) := by
  obtain ⟨m, hm⟩ : ∃ m, (lastDay x + 1 - z).toNat = m + 1 := ⟨(lastDay x - z).toNat, by omega⟩
  have h2 : (lastDay x + 1 - (z + 1)).toNat = m := by omega
  rw [hm, roomGo, if_neg (by simp [h]), h2]
theorem roomGo_end {hs cs x r} {z : Int} (hz : lastDay x < z) : roomGo hs cs x r (lastDay x + 1 - z).toNat z = (0, 5) := by
  have h2 : (lastDay x + 1 - z).toNat = 0 := by omega
  rw [h2, roomGo]
def roomDay (r : Int) : Int := if inB r 0 20 = true then 0 else -1
def firstRoomF (hs : List Int) (cs : List C4) (n r : Int) : Int × Int :=
  if movesCode hs cs n (roomDay r) = 0 then match cs[C4.place n cs]? with
    | some x => roomGo hs cs x r (lastDay x + 1 - (x.day + 1)).toNat (x.day + 1)
    | none => (0, 0)
  else (0, movesCode hs cs n (roomDay r))
theorem lastDay_def (x : C4) : lastDay x = min 20000 (x.first + 180) := rfl

set_option maxHeartbeats 400000 in
theorem isRoom_any (a : Int) (w : World) :
    Calls Try.prog 111 #[.int .i64 a] w fun e w' => e = .returned (.bool (inB a 0 20)) ∧ w = w' := by
  go_enter Try.func111, Try.ntmps111
  go_wp2_with (go_at_call 128; refine (within_any _ _ _ _).mono ?_; rintro e w' ⟨rfl, rfl⟩)
  go_ret
  exact ⟨rfl, rfl⟩

set_option maxRecDepth 100000 in
set_option maxHeartbeats 4000000 in
theorem specFirstRoom_any (u : Value) (hs : List Int) (v : Value) (cs : List C4) (n r : Int) (w : World) (lo' : Nat) (hh : SlI w lo' w.heap.size u hs) (lo : Nat) (h : SlC4 w lo w.heap.size v cs) :
    Calls Try.prog 29 #[u, v, .int .i64 n, .int .i64 r] w fun e w' => e = .returned (.tuple #[.int .i64 (firstRoomF hs cs n r).1, .int .i64 (firstRoomF hs cs n r).2]) ∧ Below w.heap.size w w' := by
  obtain ⟨A, c, rfl, hc1, hc2⟩ := h.form
  have hrd : (inB r 0 20 = true ∧ roomDay r = 0) ∨ (inB r 0 20 = false ∧ roomDay r = -1) := by
    cases h : inB r 0 20 <;> simp [roomDay, h]
  have hmc : ∀ w1 lo1 lo2, SlI w1 lo1 w1.heap.size u hs → SlC4 w1 lo2 w1.heap.size (.slice A cs.length c) cs → Calls Try.prog 86 #[u, .slice A cs.length c, .int .i64 n, .int .i64 (roomDay r)] w1 fun e w' => e = .returned (.int .i64 (movesCode hs cs n (roomDay r))) ∧ Below w1.heap.size w1 w' := fun w1 lo1 lo2 a b => l10Code_any u _ hs cs n _ w1 lo1 lo2 a b
  have Hmc := Lib.hid hmc
  clear hmc
  have hF0 : firstRoomF hs cs n r = firstRoomF hs cs n r := rfl
  go_enter Try.func29, Try.ntmps29
  go_wp2_with fail
  refine (l01In_any r _ _ _).mono ?_
  rintro e w1 ⟨rfl, rfl⟩
  rcases hrd with ⟨hr, hrd⟩ | ⟨hr, hrd⟩
  all_goals
    rw [hr]
    have Hrd := Lib.hid hrd
    rw [hrd] at Hmc
    clear hr hrd hF0
    go_wp2_with fail
    refine (Hmc.out w lo' lo hh h).mono ?_
    rintro e w1 ⟨rfl, hb1⟩
  rotate_left
  · have hne : (movesCode hs cs n (-1) != 0) = true := by
      simp only [movesCode]; rw [show inB (-1) 0 20000 = false from rfl]; split <;> simp
    have hF : firstRoomF hs cs n r = (0, movesCode hs cs n (-1)) := by
      rw [firstRoomF, Hrd.out, if_neg (by simpa using hne)]
    have HF := Lib.hid hF
    clear hF
    go_wp2_with fail
    go_ret2
    exact ⟨by rw [HF.out]; rfl, hb1⟩
  by_cases hc : movesCode hs cs n 0 = 0
  case neg =>
    have hne : (movesCode hs cs n 0 != 0) = true := by simp [hc]
    have hF : firstRoomF hs cs n r = (0, movesCode hs cs n 0) := by
      rw [firstRoomF, Hrd.out, if_neg hc]
    have HF := Lib.hid hF
    clear hF
    go_wp2_with fail
    go_ret2
    exact ⟨by rw [HF.out]; rfl, hb1⟩
  · obtain ⟨_, h1, _, _, h4, x, hx, hnn, hxo⟩ := movesCode_zero hc
    clear hnn
    have hF : firstRoomF hs cs n r = roomGo hs cs x r (lastDay x + 1 - (x.day + 1)).toNat (x.day + 1) := by simp [firstRoomF, Hrd.out, hc, hx]
    have HF := Lib.hid hF
    clear hF
    have hlt := (List.getElem?_eq_some_iff.1 hx).1
    have hxb := C4.bounds hxo
    have hlen := (callsOk_all h1).2.2
    rw [hc]
    have h' : SlC4 w1 lo w1.heap.size (.slice A cs.length c) cs := (h.below hb1 (Nat.le_refl _)).more (Nat.le_refl _) hb1.size
    have hh1 : SlI w1 lo' w1.heap.size u hs := (hh.below hb1 (Nat.le_refl _)).more (Nat.le_refl _) hb1.size
    obtain ⟨b, off, rfl, _, hb, c0, c1, c2, c3⟩ := h'.C4_at hx
    have Hx := Lib.hid hx
    clear hx
    go_wp2_with fail
    refine (findC4_any _ cs n _ lo _ h').mono ?_
    rintro e w3 ⟨rfl, rfl⟩
    rw [h4]
    generalize C4.place n cs = k at *
    have b0 := Blk.new w1 41 #[.int .i64 x.num, .int .i64 x.first, .int .i64 x.day, .int .i64 x.moves]
    have hB3 : Below w.heap.size w (w1.alloc (.cells #[.int .i64 x.num, .int .i64 x.first, .int .i64 x.day, .int .i64 x.moves] 41)) := hb1.alloc hb1.size _
    have hbA : Below w1.heap.size w1 (w1.alloc (.cells #[.int .i64 x.num, .int .i64 x.first, .int .i64 x.day, .int .i64 x.moves] 41)) := (Below.refl _ _).alloc (Nat.le_refl _) _
    go_wp2_with fail
    have hh3 := (hh1.below hbA (Nat.le_refl _)).more (Nat.le_refl _) hbA.size
    have h3 := (h'.below hbA (Nat.le_refl _)).more (Nat.le_refl _) hbA.size
    clear c0 c1 c2 c3 hbA
    generalize (w1.alloc (.cells #[.int .i64 x.num, .int .i64 x.first, .int .i64 x.day, .int .i64 x.moves] 41)) = w3 at *
    have B0 := Lib.hid b0
    clear b0
    rcases (by omega : 20000 ≤ x.first + 180 ∨ x.first + 180 < 20000) with hm | hm
    all_goals
      go_loopw [10] (fun i wr => ∃ (z : Int), i = .int .i64 z ∧ x.day + 1 ≤ z ∧ z ≤ 20001 ∧ Hid (roomGo hs cs x r (lastDay x + 1 - (x.day + 1)).toNat (x.day + 1) = roomGo hs cs x r (lastDay x + 1 - z).toNat z) ∧ Below w3.heap.size w3 wr) (fun i wr => (20001 - intOf i).toNat)
      case atStart => exact ⟨x.day + 1, rfl, by omega, by omega, Lib.hid rfl, Below.refl _ _⟩
      case round =>
        obtain ⟨z, rfl, hz1, hz2, Hgo, hbr⟩ := hrel
        have b1 := B0.out.below' hbr
        have d0 : wr.cell? ⟨w1.heap.size, 0, none⟩ = some (.int .i64 x.num) := b1.cell 0
        have d1 : wr.cell? ⟨w1.heap.size, 1, none⟩ = some (.int .i64 x.first) := b1.cell 1
        have d2 : wr.cell? ⟨w1.heap.size, 2, none⟩ = some (.int .i64 x.day) := b1.cell 2
        have d3 : wr.cell? ⟨w1.heap.size, 3, none⟩ = some (.int .i64 x.moves) := b1.cell 3
        have B1 := Lib.hid b1
        clear b1
        by_cases hle : z ≤ 20000 ∧ z ≤ x.first + 180
        · obtain ⟨hle1, hle2⟩ := hle
          have hlt : z ≤ lastDay x := by rw [lastDay_def]; omega
          have Hlt := Lib.hid hlt
          clear hlt
          go_wp2_with fail
          refine (l10May_any u hs x z _ lo' (hh3.below hbr (Nat.le_refl _) |>.more (Nat.le_refl _) hbr.size) hxo).mono ?_
          rintro e w4 ⟨rfl, hb4⟩
          have hB4 := hbr.trans (hb4.mono hbr.size)
          cases e1 : mayP hs x z
          · go_wp2_with fail
            go_roundw
            case rel => exact ⟨z + 1, by go_num, by omega, by omega, Lib.hid (by rw [Hgo.out, roomGo_no Hlt.out (by simp [e1])]), hB4⟩
            case measure => simp [intOf]; omega
          · go_wp2_with fail
            refine (l10On_any _ cs z _ lo ((h3.below hB4 (Nat.le_refl _)).more (Nat.le_refl _) hB4.size) (by omega)).mono ?_
            rintro e w5 ⟨v5, rfl, o5, hb5⟩
            have hB5 := hB4.trans (hb5.mono hB4.size)
            obtain ⟨A5, k5, rfl, _, _, _⟩ := own_form (OwnR.own o5)
            cases e2 : decide (((onDay cs z).length : Int) < r)
            · have e3 := of_decide_eq_false e2
              go_wp2_with fail
              go_roundw
              case rel => exact ⟨z + 1, by go_num, by omega, by omega, Lib.hid (by rw [Hgo.out, roomGo_no Hlt.out (by simp only [e1, e2]; rfl)]), hB5⟩
              case measure => simp [intOf]; omega
            · have e3 := of_decide_eq_true e2
              go_wp2_with fail
              go_ret2
              exact ⟨by rw [HF.out, Hgo.out, roomGo_yes Hlt.out (by simp only [e1, e2]; rfl)]; rfl, hB3.trans (hB5.mono hB3.size)⟩
        · have hlt : lastDay x < z := by rw [lastDay_def]; omega
          have Hlt := Lib.hid hlt
          clear hlt
          first | (have hgt : 20000 < z := by omega) | (have hgt : x.first + 180 < z := by omega)
          clear hle
          go_wp2_with fail
          go_ret2
          exact ⟨by rw [HF.out, Hgo.out, roomGo_end Hlt.out]; rfl, hB3.trans (hbr.mono hB3.size)⟩

set_option maxRecDepth 100000 in
set_option maxHeartbeats 4000000 in
theorem implFirstRoom_any (u : Value) (hs : List Int) (v : Value) (cs : List C4) (n r : Int) (w : World) (lo' : Nat) (hh : SlI w lo' w.heap.size u hs) (lo : Nat) (h : SlC4 w lo w.heap.size v cs) :
    Calls Try.prog 28 #[u, v, .int .i64 n, .int .i64 r] w fun e w' => e = .returned (.tuple #[.int .i64 (firstRoomF hs cs n r).1, .int .i64 (firstRoomF hs cs n r).2]) ∧ Below w.heap.size w w' := by
  obtain ⟨A, c, rfl, hc1, hc2⟩ := h.form
  go_enter Try.func28, Try.ntmps28
  go_wp2_with fail
  refine (ofC4_any _ cs n w lo _ h (Nat.le_refl _)).mono ?_
  rintro e w0 ⟨rfl, hb0⟩
  go_wp2_with fail
  refine (implAreHolidays_any u hs w0 lo' _ (hh.below hb0 (Nat.le_refl _))).mono ?_
  rintro e w1 ⟨rfl, rfl⟩
  cases h0 : holB hs
  · have hF : firstRoomF hs cs n r = (0, 1) := by simp [firstRoomF, movesCode, h0]
    go_wp2_with fail
    go_ret2
    exact ⟨by rw [hF]; rfl, hb0⟩
  go_wp2_with fail
  have h'0 := (h.below hb0 (Nat.le_refl _)).more (hi' := w0.heap.size) (Nat.le_refl _) hb0.size
  refine (implAreCalls_any _ cs w0 lo h'0).mono ?_
  rintro e w1 ⟨rfl, hb2⟩
  have hb1 := hb0.trans (hb2.mono hb0.size)
  clear hb2 h'0 hb0
  cases h1 : callsOk cs
  · have hF : firstRoomF hs cs n r = (0, 1) := by simp [firstRoomF, movesCode, h0, h1]
    go_wp2_with fail
    go_ret2
    exact ⟨by rw [hF]; rfl, hb1⟩
  go_wp2_with fail
  refine (isRoom_any r _).mono ?_
  rintro e w3 ⟨rfl, rfl⟩
  cases h2 : inB r 0 20
  · have hF : firstRoomF hs cs n r = (0, 2) := by
      have e1 : roomDay r = -1 := by simp [roomDay, h2]
      have e2 : inB (-1) 0 20000 = false := rfl
      simp [firstRoomF, movesCode, e1, e2, h0, h1]
    go_wp2_with fail
    go_ret2
    exact ⟨by rw [hF]; rfl, hb1⟩
  have e1 : roomDay r = 0 := by simp [roomDay, h2]
  have E1 := Lib.hid e1
  clear e1
  cases h3 : C4.foundB n cs
  · have hF : firstRoomF hs cs n r = (0, 4) := by
      have e2 : inB 0 0 20000 = true := rfl
      simp [firstRoomF, movesCode, E1.out, e2, h0, h1, h3]
    go_wp2_with fail
    go_ret2
    exact ⟨by rw [hF]; rfl, hb1⟩
  · have hc : movesCode hs cs n 0 = 0 := by
      have e2 : inB 0 0 20000 = true := rfl
      simp [movesCode, e2, h0, h1, h3]
    obtain ⟨_, _, _, _, h4, x, hx, hnn, hxo⟩ := movesCode_zero hc
    clear hnn h4
    have hF : firstRoomF hs cs n r = roomGo hs cs x r (lastDay x + 1 - (x.day + 1)).toNat (x.day + 1) := by simp [firstRoomF, E1.out, hc, hx]
    have HF := Lib.hid hF
    clear hF hc
    have hlt := (List.getElem?_eq_some_iff.1 hx).1
    have hxb := C4.bounds hxo
    have hlen := (callsOk_all h1).2.2
    have h' : SlC4 w1 lo w1.heap.size (.slice A cs.length c) cs := (h.below hb1 (Nat.le_refl _)).more (Nat.le_refl _) hb1.size
    have hh1 : SlI w1 lo' w1.heap.size u hs := (hh.below hb1 (Nat.le_refl _)).more (Nat.le_refl _) hb1.size
    obtain ⟨b, off, rfl, _, hb, c0, c1, c2, c3⟩ := h'.C4_at hx
    have Hx := Lib.hid hx
    clear hx
    generalize C4.place n cs = k at *
    have b0 := Blk.new w1 41 #[.int .i64 x.num, .int .i64 x.first, .int .i64 x.day, .int .i64 x.moves]
    have hB3 : Below w.heap.size w (w1.alloc (.cells #[.int .i64 x.num, .int .i64 x.first, .int .i64 x.day, .int .i64 x.moves] 41)) := hb1.alloc hb1.size _
    have hbA : Below w1.heap.size w1 (w1.alloc (.cells #[.int .i64 x.num, .int .i64 x.first, .int .i64 x.day, .int .i64 x.moves] 41)) := (Below.refl _ _).alloc (Nat.le_refl _) _
    go_wp2_with fail
    have hh3 := (hh1.below hbA (Nat.le_refl _)).more (Nat.le_refl _) hbA.size
    have h3 := (h'.below hbA (Nat.le_refl _)).more (Nat.le_refl _) hbA.size
    clear c0 c1 c2 c3 hbA
    generalize (w1.alloc (.cells #[.int .i64 x.num, .int .i64 x.first, .int .i64 x.day, .int .i64 x.moves] 41)) = w3 at *
    have B0 := Lib.hid b0
    clear b0
    rcases (by omega : 20000 < x.first + 180 ∨ x.first + 180 ≤ 20000) with hm | hm
    all_goals
      go_loopw [13] (fun i wr => ∃ (z : Int), i = .int .i64 z ∧ x.day + 1 ≤ z ∧ z ≤ 20001 ∧ Hid (roomGo hs cs x r (lastDay x + 1 - (x.day + 1)).toNat (x.day + 1) = roomGo hs cs x r (lastDay x + 1 - z).toNat z) ∧ Below w3.heap.size w3 wr) (fun i wr => (20001 - intOf i).toNat)
      case atStart => exact ⟨x.day + 1, rfl, by omega, by omega, Lib.hid rfl, Below.refl _ _⟩
      case round =>
        obtain ⟨z, rfl, hz1, hz2, Hgo, hbr⟩ := hrel
        have b1 := B0.out.below' hbr
        have d0 : wr.cell? ⟨w1.heap.size, 0, none⟩ = some (.int .i64 x.num) := b1.cell 0
        have d1 : wr.cell? ⟨w1.heap.size, 1, none⟩ = some (.int .i64 x.first) := b1.cell 1
        have d2 : wr.cell? ⟨w1.heap.size, 2, none⟩ = some (.int .i64 x.day) := b1.cell 2
        have d3 : wr.cell? ⟨w1.heap.size, 3, none⟩ = some (.int .i64 x.moves) := b1.cell 3
        have B1 := Lib.hid b1
        clear b1
        by_cases hle : z ≤ 20000 ∧ z ≤ x.first + 180
        · obtain ⟨hle1, hle2⟩ := hle
          have hlt : z ≤ lastDay x := by rw [lastDay_def]; omega
          have Hlt := Lib.hid hlt
          clear hlt
          go_wp2_with fail
          refine (mayMove_any u hs x z _ lo' (hh3.below hbr (Nat.le_refl _) |>.more (Nat.le_refl _) hbr.size) hxo).mono ?_
          rintro e w4 ⟨rfl, hb4⟩
          have hB4 := hbr.trans (hb4.mono hbr.size)
          cases e1 : mayP hs x z
          · go_wp2_with fail
            go_roundw
            case rel => exact ⟨z + 1, by go_num, by omega, by omega, Lib.hid (by rw [Hgo.out, roomGo_no Hlt.out (by simp [e1])]), hB4⟩
            case measure => simp [intOf]; omega
          · go_wp2_with fail
            refine (calledOn_any _ cs z _ lo ((h3.below hB4 (Nat.le_refl _)).more (Nat.le_refl _) hB4.size) (by omega)).mono ?_
            rintro e w5 ⟨v5, rfl, o5, hb5⟩
            have hB5 := hB4.trans (hb5.mono hB4.size)
            obtain ⟨A5, k5, rfl, _, _, _⟩ := own_form (OwnR.own o5)
            cases e2 : decide (((onDay cs z).length : Int) < r)
            · have e3 := of_decide_eq_false e2
              go_wp2_with fail
              go_roundw
              case rel => exact ⟨z + 1, by go_num, by omega, by omega, Lib.hid (by rw [Hgo.out, roomGo_no Hlt.out (by simp only [e1, e2]; rfl)]), hB5⟩
              case measure => simp [intOf]; omega
            · have e3 := of_decide_eq_true e2
              go_wp2_with fail
              go_ret2
              exact ⟨by rw [HF.out, Hgo.out, roomGo_yes Hlt.out (by simp only [e1, e2]; rfl)]; rfl, hB3.trans (hB5.mono hB3.size)⟩
        · have hlt : lastDay x < z := by rw [lastDay_def]; omega
          have Hlt := Lib.hid hlt
          clear hlt
          first | (have hgt : 20000 < z := by omega) | (have hgt : x.first + 180 < z := by omega)
          clear hle
          go_wp2_with fail
          go_ret2
          exact ⟨by rw [HF.out, Hgo.out, roomGo_end Hlt.out]; rfl, hB3.trans (hbr.mono hB3.size)⟩
end Go.Proofs.Ytiflpihjffhfhaa
