/- NextReminder: the program's and the reference's answer the same function. No condition but the sizes that the law itself asks. -/
import Derived.Test.YtiflpihjffhfhaaSummC
namespace Go.Proofs.Ytiflpihjffhfhaa
open Go.RowKit

def dueP (d : Int) (x : S5) : Bool := x.ans == 0 && lateP d x
def dueAny (d : Int) : List S5 → Bool
  | [] => false
  | x :: t => dueP d x || dueAny d t
def remGo (cs : List S5) : Nat → Int → Int × Int
  | 0, _ => (0, 4)
  | f + 1, d => if dueAny d cs = true then (d, 0) else remGo cs f (d + 1)
def nextF (cs : List S5) (d : Int) : Int × Int := if sumCode cs d = 0 then remGo cs (20001 - (d + 1)).toNat (d + 1) else (0, sumCode cs d)
theorem remGo_yes {cs : List S5} {z : Int} (hz : z ≤ 20000) (h : dueAny z cs = true) : remGo cs (20001 - z).toNat z = (z, 0) := by
  obtain ⟨m, hm⟩ : ∃ m, (20001 - z).toNat = m + 1 := ⟨(20000 - z).toNat, by omega⟩
  rw [hm, remGo, if_pos h]
theorem remGo_no {cs : List S5} {z : Int} (hz : z ≤ 20000) (h : dueAny z cs = false) : remGo cs (20001 - z).toNat z = remGo cs (20001 - (z + 1)).toNat (z + 1) := by
  obtain ⟨m, hm⟩ : ∃ m, (20001 - z).toNat = m + 1 := ⟨(20000 - z).toNat, by omega⟩
  have h2 : (20001 - (z + 1)).toNat = m := by omega
  rw [hm, remGo, if_neg (by simp [h]), h2]
theorem remGo_end {cs : List S5} {z : Int} (hz : 20000 < z) : remGo cs (20001 - z).toNat z = (0, 4) := by
  have h2 : (20001 - z).toNat = 0 := by omega
  rw [h2, remGo]

set_option maxRecDepth 100000 in
set_option maxHeartbeats 4000000 in
theorem specNextReminder_any (v : Value) (cs : List S5) (day : Int) (w : World) (lo : Nat) (h : SlS5 w lo w.heap.size v cs) :
    Calls Try.prog 43 #[v, .int .i64 day] w fun e w' => e = .returned (.tuple #[.int .i64 (nextF cs day).1, .int .i64 (nextF cs day).2]) ∧ Below w.heap.size w w' := by
  obtain ⟨A, c, rfl, hc1, hc2⟩ := h.form
  go_enter Try.func43, Try.ntmps43
  go_wp2_with fail
  refine (l09Day_any _ cs day w lo h).mono ?_
  rintro e w1 ⟨rfl, hb1⟩
  by_cases hc : sumCode cs day = 0
  case neg =>
    have hF : nextF cs day = (0, sumCode cs day) := by simp [nextF, hc]
    have hne : (sumCode cs day != 0) = true := by simp [hc]
    go_wp2_with fail
    go_ret2
    exact ⟨by rw [hF]; rfl, hb1⟩
  obtain ⟨h1, hd⟩ := sumCode_zero hc
  have hF : nextF cs day = remGo cs (20001 - (day + 1)).toNat (day + 1) := by simp [nextF, hc]
  have HF := Lib.hid hF
  clear hF
  rw [hc]
  obtain ⟨hall, hlen⟩ := listOkS5_all h1
  have hdd := inB_iff.1 hd
  have Hall := Lib.hid hall
  clear hall
  have z1 := hb1.size
  have h' : SlS5 w1 lo w1.heap.size (.slice A cs.length c) cs := (h.below hb1 (Nat.le_refl _)).more (Nat.le_refl _) hb1.size
  go_wp2_with fail
  go_loopw [7, 8] (fun n i wr => ∃ (z : Int), n = .int .i64 z ∧ day + 1 ≤ z ∧ z ≤ 20001 ∧ Hid (remGo cs (20001 - (day + 1)).toNat (day + 1) = remGo cs (20001 - z).toNat z) ∧ Below w1.heap.size w1 wr) (fun n i wr => (20001 - intOf n).toNat)
  case atStart => exact ⟨day + 1, rfl, by omega, by omega, Lib.hid rfl, Below.refl _ _⟩
  case round =>
    obtain ⟨z, rfl, hz1, hz2, Hgo, hbr⟩ := hrel
    by_cases hlt : z ≤ 20000
    · go_wp2_with fail
      obtain ⟨wo, rfl⟩ : ∃ wo : World, wo = wr := ⟨_, rfl⟩
      have hso := hbr.size
      have h3 : SlS5 wo lo wo.heap.size (.slice A cs.length c) cs := (h'.below hbr (Nat.le_refl _)).more (Nat.le_refl _) hbr.size
      go_loopw [8] (fun i wr => ∃ (k : Nat), i = .int .i64 k ∧ k ≤ cs.length ∧ Hid (dueAny z cs = dueAny z (cs.drop k)) ∧ Below wo.heap.size wo wr) (fun i wr => cs.length - (intOf i).toNat)
      case atStart => exact ⟨0, rfl, Nat.zero_le _, Lib.hid rfl, Below.refl _ _⟩
      case round =>
        obtain ⟨k, rfl, hk, Hdue, hbi⟩ := hrel
        have hsi := hbi.size
        have hB := hbr.trans (hbi.mono hbr.size)
        by_cases hlk : k < cs.length
        · obtain ⟨x, hx⟩ := some_at hlk
          have hxo := Hall.out x (List.mem_of_getElem? hx)
          have hd' := drop_cons hx
          have Hd := Lib.hid hd'
          obtain ⟨b, off, rfl, _, hb, c0, c1, c2, c3, c4⟩ := ((h3.below hbi (Nat.le_refl _)).more (Nat.le_refl _) hbi.size).S5_at hx
          clear hx hd'
          cases q1 : x.ans == 0
          · go_wp2_with fail
            go_roundw
            case rel => exact ⟨k + 1, by go_num, hlk, Lib.hid (by rw [Hdue.out, Hd.out, dueAny, dueP, q1]; rfl), hbi⟩
            case measure => simp [intOf]; omega
          · go_wp2_with fail
            refine (l09Reminder_any x z _ hxo (by omega)).mono ?_
            rintro e w4 ⟨rfl, hb4⟩
            have hB4 := hbi.trans (hb4.mono hsi)
            cases q2 : lateP z x
            · go_wp2_with fail
              go_roundw
              case rel => exact ⟨k + 1, by go_num, hlk, Lib.hid (by rw [Hdue.out, Hd.out, dueAny, dueP, q1, q2]; rfl), hB4⟩
              case measure => simp [intOf]; omega
            · go_wp2_with fail
              go_ret2
              exact ⟨by rw [HF.out, Hgo.out, remGo_yes hlt (by rw [Hdue.out, Hd.out, dueAny, dueP, q1, q2]; rfl)]; rfl, hb1.trans ((hbr.trans (hB4.mono hbr.size)).mono hb1.size)⟩
        · have hkn : k = cs.length := by omega
          subst hkn
          go_wp2_with fail
          go_roundw
          case rel => exact ⟨z + 1, by go_num, by omega, by omega, Lib.hid (by rw [Hgo.out, remGo_no hlt (by rw [Hdue.out, List.drop_length]; rfl)]), hB⟩
          case measure => simp [intOf]; omega
    · go_wp2_with fail
      go_ret2
      exact ⟨by rw [HF.out, Hgo.out, remGo_end (by omega)]; rfl, hb1.trans (hbr.mono hb1.size)⟩

set_option maxHeartbeats 1000000 in
theorem accNext_any (x : S5) (z : Int) (g : Nat) (w : World) (hc : w.cell? ⟨g, 0, none⟩ = some (.int .i64 z)) (hg : g < w.heap.size) (hx : x.ok = true) (hd : 0 ≤ z ∧ z ≤ 20001) :
    Calls Try.prog 125 #[.agg #[.int .i64 x.num, .int .i64 x.sent, .int .i64 x.due, .int .i64 x.ans, .int .i64 x.answered], .pointer (some ⟨g, 0, none⟩)] w fun e w' => e = .returned (.bool (dueP z x)) ∧ Below w.heap.size w w' := by
  have hB : Below w.heap.size w (w.alloc (.cells #[.int .i64 x.num, .int .i64 x.sent, .int .i64 x.due, .int .i64 x.ans, .int .i64 x.answered] 108)) := (Below.refl _ _).alloc (Nat.le_refl _) _
  cases q1 : x.ans == 0
  · go_enter Try.func125, Try.ntmps125
    go_wp2_with fail
    go_ret
    exact ⟨ret_bool (by simp [dueP, q1]), hB⟩
  · go_enter Try.func125, Try.ntmps125
    go_wp2_with (go_at_call 120; refine (reminds_any x z _ hx hd).mono ?_; rintro e w2 ⟨rfl, hb2⟩)
    go_ret
    exact ⟨ret_bool (by simp [dueP, q1]), hB.trans (hb2.mono hB.size)⟩

def idxGo (z : Int) : Nat → List S5 → Int
  | _, [] => -1
  | k, x :: t => if dueP z x = true then (k : Int) else idxGo z (k + 1) t
theorem idxGo_any (z : Int) : ∀ (cs : List S5) (k : Nat), decide (0 ≤ idxGo z k cs) = dueAny z cs
  | [], _ => rfl
  | x :: t, k => by
    rw [idxGo, dueAny]
    cases h : dueP z x
    · simpa using idxGo_any z t (k + 1)
    · simp

set_option maxHeartbeats 2000000 in
theorem idxS5_any (v : Value) (cs : List S5) (z : Int) (g : Nat) (w : World) (lo : Nat) (h : SlS5 w lo w.heap.size v cs) (hc : w.cell? ⟨g, 0, none⟩ = some (.int .i64 z)) (hg : g < w.heap.size) (hall : ∀ t ∈ cs, t.ok = true) (hd : 0 ≤ z ∧ z ≤ 20001) :
    Calls Try.prog 160 #[v, .func (.func 125) #[] #[.pointer (some ⟨g, 0, none⟩)]] w fun e w' => e = .returned (.int .i64 (idxGo z 0 cs)) ∧ Below w.heap.size w w' := by
  obtain ⟨A, c, rfl, hc1, hc2⟩ := h.form
  have Hall := Lib.hid hall
  have Hc := Lib.hid hc
  clear hall hc
  go_enter Try.func160, Try.ntmps160
  go_wp2_with fail
  go_loopw [8, 5] (fun i q wr => ∃ (k : Nat), i = .int .i64 k ∧ k ≤ cs.length ∧ Hid (idxGo z 0 cs = idxGo z k (cs.drop k)) ∧ Below w.heap.size w wr) (fun i q wr => cs.length - (intOf i).toNat)
  case atStart => exact ⟨0, rfl, Nat.zero_le _, Lib.hid rfl, Below.refl _ _⟩
  case round =>
    obtain ⟨k, rfl, hk, Hgo, hbr⟩ := hrel
    have hsr := hbr.size
    by_cases hlt : k < cs.length
    · obtain ⟨x, hx⟩ := some_at hlt
      have hxo := Hall.out x (List.mem_of_getElem? hx)
      have hd' := drop_cons hx
      have Hd := Lib.hid hd'
      obtain ⟨b, off, rfl, _, hb, c0, c1, c2, c3, c4⟩ := ((h.below hbr (Nat.le_refl _)).more (Nat.le_refl _) hbr.size).S5_at hx
      clear hx hd'
      have hc' : wr.cell? ⟨g, 0, none⟩ = some (.int .i64 z) := (World.cell?_of_block (w := w) (hbr.block g hg)).trans Hc.out
      go_wp2_with fail
      refine (accNext_any x z g _ hc' (by omega) hxo hd).mono ?_
      rintro e w4 ⟨rfl, hb4⟩
      have hB4 := hbr.trans (hb4.mono hsr)
      cases q1 : dueP z x
      · go_wp2_with fail
        go_roundw
        case rel => exact ⟨k + 1, by go_num, hlt, Lib.hid (by rw [Hgo.out, Hd.out, idxGo, if_neg (by simp [q1])]), hB4⟩
        case measure => simp [intOf]; omega
      · go_wp2_with fail
        go_ret
        exact ⟨ret_int (by rw [Hgo.out, Hd.out, idxGo, if_pos q1]), hB4⟩
    · have hkn : k = cs.length := by omega
      subst hkn
      go_wp2_with fail
      go_ret
      exact ⟨ret_int (by rw [Hgo.out, List.drop_length]; rfl), hbr⟩

set_option maxHeartbeats 1000000 in
theorem hasS5_any (v : Value) (cs : List S5) (z : Int) (g : Nat) (w : World) (lo : Nat) (h : SlS5 w lo w.heap.size v cs) (hc : w.cell? ⟨g, 0, none⟩ = some (.int .i64 z)) (hg : g < w.heap.size) (hall : ∀ t ∈ cs, t.ok = true) (hd : 0 ≤ z ∧ z ≤ 20001) :
    Calls Try.prog 124 #[v, .func (.func 125) #[] #[.pointer (some ⟨g, 0, none⟩)]] w fun e w' => e = .returned (.bool (dueAny z cs)) ∧ Below w.heap.size w w' := by
  have HI := Lib.hid (idxS5_any v cs z g w lo h hc hg hall hd)
  have HA := Lib.hid (idxGo_any z cs 0)
  clear hall hc
  go_enter Try.func124, Try.ntmps124
  go_wp2_with fail
  refine HI.out.mono ?_
  rintro e w2 ⟨rfl, hb2⟩
  generalize idxGo z 0 cs = r at *
  go_wp2_with fail
  go_ret
  exact ⟨ret_bool HA.out, hb2⟩

set_option maxRecDepth 100000 in
set_option maxHeartbeats 4000000 in
theorem implNextReminder_any (v : Value) (cs : List S5) (day : Int) (w : World) (lo : Nat) (h : SlS5 w lo w.heap.size v cs) :
    Calls Try.prog 42 #[v, .int .i64 day] w fun e w' => e = .returned (.tuple #[.int .i64 (nextF cs day).1, .int .i64 (nextF cs day).2]) ∧ Below w.heap.size w w' := by
  obtain ⟨A, c, rfl, hc1, hc2⟩ := h.form
  have hmf : ∀ (fn : Fn) (first cap : Array Value) (w : World), (Instr.makeFunc fn first cap).run Try.prog w = .ok (.func fn first cap) w := fun _ _ _ _ => rfl
  go_enter Try.func42, Try.ntmps42
  go_wp2_with fail
  have b0 := Blk.new w 2 #[.int .i64 day]
  have hB0 : Below w.heap.size w (w.alloc (.cells #[.int .i64 day] 2)) := (Below.refl _ _).alloc (Nat.le_refl _) _
  have zA : w.heap.size + 1 ≤ (w.alloc (.cells #[.int .i64 day] 2)).heap.size := by simp
  generalize (w.alloc (.cells #[.int .i64 day] 2)) = w0 at *
  refine (implAreSummonses_any _ cs w0 lo ((h.below hB0 (Nat.le_refl _)).more (Nat.le_refl _) hB0.size)).mono ?_
  rintro e w1 ⟨rfl, hb1⟩
  have hB1 := hB0.trans (hb1.mono hB0.size)
  have b1 := b0.below' hb1
  have z1 := hb1.size
  clear b0 hB0 hb1
  cases h1 : listOkS5 cs
  · have hF : nextF cs day = (0, 1) := by simp [nextF, sumCode, h1]
    go_wp2_with fail
    go_ret2
    exact ⟨by rw [hF]; rfl, hB1⟩
  have k0 : w1.cell? ⟨w.heap.size, 0, none⟩ = some (.int .i64 day) := b1.cell 0
  have f0 : w1.frozen? ⟨w.heap.size, 0, none⟩ = false := b1.frozen 0
  go_wp2_with fail
  refine (isDay_any day _).mono ?_
  rintro e w2 ⟨rfl, rfl⟩
  cases hd : inB day 0 20000
  · have hF : nextF cs day = (0, 2) := by simp [nextF, sumCode, h1, hd]
    go_wp2_with fail
    go_ret2
    exact ⟨by rw [hF]; rfl, hB1⟩
  have hF : nextF cs day = remGo cs (20001 - (day + 1)).toNat (day + 1) := by simp [nextF, sumCode, h1, hd]
  have HF := Lib.hid hF
  clear hF
  obtain ⟨hall, hlen⟩ := listOkS5_all h1
  have hdd := inB_iff.1 hd
  have Hall := Lib.hid hall
  clear hall
  go_wp2_with fail
  have b2 : Blk (w1.setCell ⟨w.heap.size, 0, none⟩ (.int .i64 (day + 1))) w.heap.size 2 #[.int .i64 (day + 1)] := b1.set_ 0 (.int .i64 (day + 1))
  have hB2 : Below w.heap.size w (w1.setCell ⟨w.heap.size, 0, none⟩ (.int .i64 (day + 1))) := hB1.setCell (by simp) _
  have z2 : w.heap.size + 1 ≤ (w1.setCell ⟨w.heap.size, 0, none⟩ (.int .i64 (day + 1))).heap.size := by rw [size_setCell]; omega
  clear k0 f0 b1 hB1
  generalize (w1.setCell ⟨w.heap.size, 0, none⟩ (.int .i64 (day + 1))) = w3 at *
  have B2 := Lib.hid b2
  clear b2
  go_loopw [] (fun wr => ∃ (z : Int), Hid (Blk wr w.heap.size 2 #[.int .i64 z]) ∧ day + 1 ≤ z ∧ z ≤ 20001 ∧ Hid (remGo cs (20001 - (day + 1)).toNat (day + 1) = remGo cs (20001 - z).toNat z) ∧ Below w.heap.size w wr ∧ w.heap.size + 1 ≤ wr.heap.size) (fun wr => (20001 - intOf ((wr.cell? ⟨w.heap.size, 0, none⟩).getD (.int .i64 0))).toNat)
  case atStart => exact ⟨day + 1, B2, by omega, by omega, Lib.hid rfl, hB2, z2⟩
  case round =>
    obtain ⟨z, Bz, hz1, hz2, Hgo, hbr, hzr⟩ := hrel
    have k0 : wr.cell? ⟨w.heap.size, 0, none⟩ = some (.int .i64 z) := Bz.out.cell 0
    have f0 : wr.frozen? ⟨w.heap.size, 0, none⟩ = false := Bz.out.frozen 0
    go_wp2_with fail
    refine (isDay_any z _).mono ?_
    rintro e w2 ⟨rfl, rfl⟩
    by_cases hlt : z ≤ 20000
    · have hin : inB z 0 20000 = true := inB_iff.2 ⟨by omega, hlt⟩
      go_wp2_with fail
      refine (hasS5_any _ cs z w.heap.size _ lo ((h.below hbr (Nat.le_refl _)).more (Nat.le_refl _) hbr.size) k0 (by omega) Hall.out (by omega)).mono ?_
      rintro e w4 ⟨rfl, hb4⟩
      have hB4 := hbr.trans (hb4.mono hbr.size)
      have b4 := Bz.out.below' hb4
      have z4 := hb4.size
      clear k0 f0
      have k0 : w4.cell? ⟨w.heap.size, 0, none⟩ = some (.int .i64 z) := b4.cell 0
      have f0 : w4.frozen? ⟨w.heap.size, 0, none⟩ = false := b4.frozen 0
      have B4 := Lib.hid b4
      clear b4
      cases e1 : dueAny z cs
      · go_wp2_with fail
        have b5 : Blk (w4.setCell ⟨w.heap.size, 0, none⟩ (.int .i64 (z + 1))) w.heap.size 2 #[.int .i64 (z + 1)] := B4.out.set_ 0 (.int .i64 (z + 1))
        have m0 : wr.cell? ⟨w.heap.size, 0, none⟩ = some (.int .i64 z) := Bz.out.cell 0
        have m5 := b5.cell 0
        go_roundw
        case rel => exact ⟨z + 1, Lib.hid b5, by omega, by omega, Lib.hid (by rw [Hgo.out, remGo_no hlt e1]), hB4.setCell (by simp) _, by rw [size_setCell]; omega⟩
        case measure => rw [m0, m5]; simp [intOf]; omega
      · go_wp2_with fail
        go_ret2
        exact ⟨by rw [HF.out, Hgo.out, remGo_yes hlt e1]; rfl, hB4⟩
    · have hin : inB z 0 20000 = false := by simp [inB]; omega
      go_wp2_with fail
      go_ret2
      exact ⟨by rw [HF.out, Hgo.out, remGo_end (by omega)]; rfl, hbr⟩
end Go.Proofs.Ytiflpihjffhfhaa
