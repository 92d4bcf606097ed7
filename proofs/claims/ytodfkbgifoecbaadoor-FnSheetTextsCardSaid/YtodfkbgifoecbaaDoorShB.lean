/- Sheets: what a sheet must be, and that the days rise. No condition. -/
import Derived.Test.YtodfkbgifoecbaaDoorShA
namespace Go.Proofs.YtodfkbgifoecbaaDoor
open Go.ChangeShapes Go.WideShapes Go.ChangeAt Go.RowKit

def okH (d : Int) (zs : List Int) : Bool := incGo 1 1000000 none zs && inB d 0 20000 && decide (zs.length ≤ 60)
def H2.ok (x : H2) : Bool := okH x.day x.pres

set_option maxRecDepth 100000 in
set_option maxHeartbeats 2000000 in
theorem validH2_any (x : H2) (w : World) (lo hi : Nat) (hn : SlI w lo hi (.slice x.A x.pres.length x.c) x.pres) (hh : hi ≤ w.heap.size) :
    Calls Tryd.prog 34 #[.agg #[.int .i64 x.day, .slice x.A x.pres.length x.c]] w fun e w' => e = .returned (.bool x.ok) ∧ Below w.heap.size w w' := by
  obtain ⟨day, A, c, pres⟩ := x
  dsimp only [H2.ok] at hn ⊢
  have e : decide ((pres.length : Int) ≤ 60) = decide (pres.length ≤ 60) := by rw [Bool.eq_iff_iff]; simp; omega
  go_enter Tryd.func34, Tryd.ntmps34
  go_wp2_with fail
  have hB1 : Below w.heap.size w (w.alloc (.cells #[.int .i64 day, .slice A pres.length c] 28)) := (Below.refl _ _).alloc (Nat.le_refl _) _
  have hn1 := hn.below hB1 hh
  refine (isDay_any day _).mono ?_
  rintro e1 w1 ⟨rfl, rfl⟩
  cases hd : inB day 0 20000
  · go_wp2_with fail
    go_ret
    exact ⟨ret_bool (by simp [okH, hd]), hB1⟩
  · go_wp2_with fail
    refine (areNumbers_any _ pres 60 _ lo hi hn1).mono ?_
    rintro e1 w1 ⟨rfl, rfl⟩
    go_wp2_with fail
    go_ret
    exact ⟨ret_bool (by rw [okH, numsB, hd, e]; cases decide (pres.length ≤ 60) <;> cases incGo 1 1000000 none pres <;> rfl), hB1⟩

set_option maxRecDepth 100000 in
set_option maxHeartbeats 4000000 in
theorem vspecH2_any (x : H2) (w : World) (lo hi : Nat) (hn : SlI w lo hi (.slice x.A x.pres.length x.c) x.pres) (hh : hi ≤ w.heap.size) :
    Calls Tryd.prog 31 #[.agg #[.int .i64 x.day, .slice x.A x.pres.length x.c]] w fun e w' => e = .returned (.bool x.ok) ∧ Below w.heap.size w w' := by
  obtain ⟨day, A, c, nums⟩ := x
  dsimp only [H2.ok] at hn ⊢
  obtain ⟨hc1, hc2⟩ := hn.caps
  go_enter Tryd.func31, Tryd.ntmps31
  go_wp2_with fail
  have ha1 := At.new w #[.int .i64 day, .slice A nums.length c] 28
  have HA1 := Lib.hid ha1
  clear ha1
  have hB1 : Below w.heap.size w (w.alloc (.cells #[.int .i64 day, .slice A nums.length c] 28)) := (Below.refl _ _).alloc (Nat.le_refl _) _
  have hn1 := hn.below hB1 hh
  have hsz : w.heap.size < (w.alloc (.cells #[.int .i64 day, .slice A nums.length c] 28)).heap.size := by simp
  generalize w.alloc (.cells #[.int .i64 day, .slice A nums.length c] 28) = w1 at *
  go_wp2_with fail
  go_loopw [3] (fun i wr => ∃ (k : Nat), i = .int .i64 k ∧ k ≤ nums.length ∧ incGo 1 1000000 none nums = incGo 1 1000000 (prevAt nums k) (nums.drop k) ∧ Below w1.heap.size w1 wr) (fun i wr => nums.length - (intOf i).toNat)
  case atStart => exact ⟨0, rfl, Nat.zero_le _, rfl, Below.refl _ _⟩
  case round =>
    obtain ⟨k, rfl, hk, hgo, hbr⟩ := hrel
    have hs1 := hbr.size
    have hat := HA1.out.below hbr hsz
    have a0 : wr.cell? ⟨w.heap.size, 0, none⟩ = some (.int .i64 day) := hat 0 _ rfl
    have a1 : wr.cell? ⟨w.heap.size, 1, none⟩ = some (.slice A nums.length c) := hat 1 _ rfl
    have hsr : w.heap.size < wr.heap.size := by omega
    have hBr : Below w.heap.size w wr := hB1.trans (hbr.mono (by omega))
    have hfin : ∀ w2, Below wr.heap.size wr w2 → Below w.heap.size w w2 := fun w2 h2 => hBr.trans (h2.mono hBr.size)
    have Hfin := Lib.hid hfin
    clear hfin hat
    by_cases hlt : k < nums.length
    · obtain ⟨x, hx⟩ := some_at hlt
      rw [drop_cons hx, incGo] at hgo
      obtain ⟨b, off, rfl, _, hb, c0⟩ := ((hn1.below hbr (by omega)).more (hi' := wr.heap.size) (Nat.le_refl _) (by omega)).int_at hx
      have Hgo := Lib.hid hgo
      have Hx := Lib.hid hx
      clear hx hgo
      cases hv : inB x 1 1000000
      · go_wp2_with fail
        refine wp_region_ext (by kernel_rfl) (by kernel_rfl) ?_
        repeat (go_big_quiet_step ((go_at_call 54; exact calls_ext_same (l01In_as hv _))))
        refine wpQuiet_nil ?_
        intro w2 hb2
        go_wp2_with fail
        go_ret
        exact ⟨ret_bool (by simp [okH, Hgo.out, hv]), Hfin.out _ hb2⟩
      · by_cases hk0 : k = 0
        · have hd0 : decide ((0 : Int) < (k : Int)) = false := by simp [hk0]
          have hd' : decide (0 < k) = false := by simp [hk0]
          have Hk0 := Lib.hid hk0
          clear hk0
          go_wp2_with fail
          refine wp_region_ext (by kernel_rfl) (by kernel_rfl) ?_
          repeat (go_big_quiet_step ((go_at_call 54; exact calls_ext_same (l01In_as hv _))))
          refine wpQuiet_nil ?_
          intro w2 hb2
          go_wp2_with fail
          go_roundw
          case rel => exact ⟨k + 1, by go_num, hlt, by rw [Hgo.out, hv, prevAt_succ Hx.out, Hk0.out, prevAt_zero]; rfl, hbr.trans (hb2.mono hs1)⟩
          case measure => simp [intOf]; omega
        · have hd0 : decide ((0 : Int) < (k : Int)) = true := by simp; omega
          have hd' : decide (0 < k) = true := by simp; omega
          have hk1 : 0 < k := by omega
          obtain ⟨p, hp⟩ := some_at (l := nums) (k := k - 1) (by omega)
          obtain ⟨b2, off2, ee, _, _, d0⟩ := ((hn1.below hbr (by omega)).more (hi' := wr.heap.size) (Nat.le_refl _) (by omega)).int_at hp
          injection ee with ee
          injection ee with ee1 ee2
          subst ee1 ee2
          have Hpk := Lib.hid (prevAt_pos hk0 hp)
          clear hp
          by_cases hq : p < x
          · go_wp2_with fail
            refine wp_region_ext (by kernel_rfl) (by kernel_rfl) ?_
            repeat (go_big_quiet_step ((go_at_call 54; exact calls_ext_same (l01In_as hv _))))
            refine wpQuiet_nil ?_
            intro w2 hb2
            go_wp2_with fail
            go_roundw
            case rel => exact ⟨k + 1, by go_num, hlt, by rw [Hgo.out, hv, prevAt_succ Hx.out, Hpk.out, afterB]; simp [hq], hbr.trans (hb2.mono hs1)⟩
            case measure => simp [intOf]; omega
          · go_wp2_with fail
            refine wp_region_ext (by kernel_rfl) (by kernel_rfl) ?_
            repeat (go_big_quiet_step ((go_at_call 54; exact calls_ext_same (l01In_as hv _))))
            refine wpQuiet_nil ?_
            intro w2 hb2
            go_wp2_with fail
            have hq' : decide (p < x) = false := by simp; omega
            go_ret
            exact ⟨ret_bool (by rw [okH, Hgo.out, Hpk.out, afterB, hq']; simp), Hfin.out _ hb2⟩
    · have hkn : k = nums.length := by omega
      subst hkn
      rw [List.drop_length, incGo] at hgo
      have Hinc := Lib.hid hgo
      clear hgo
      cases hd : inB day 0 20000
      all_goals go_wp2_with (go_at_call 55; refine (l02Is_as hd _).mono ?_; rintro e w' ⟨rfl, rfl⟩)
      all_goals go_ret
      all_goals exact ⟨ret_bool (by simp [okH, Hinc.out, hd]; try omega), hBr⟩

def H2.behind : Option H2 → H2 → Bool
  | none, _ => true
  | some p, c => decide (p.day < c.day)
def risesGoH2 : Option H2 → List H2 → Bool
  | _, [] => true
  | p, c :: t => c.ok && H2.behind p c && risesGoH2 (some c) t
def listOkH2 (cs : List H2) : Bool := risesGoH2 none cs && decide (cs.length ≤ 15)

theorem validH2_as {c : H2} {r : Bool} (h : c.ok = r) {w : World} {lo hi : Nat} (hs : SlI w lo hi (.slice c.A c.pres.length c.c) c.pres) (hh : hi ≤ w.heap.size) :
    Calls Tryd.prog 34 #[.agg #[.int .i64 c.day, .slice c.A c.pres.length c.c]] w fun e w' => e = .returned (.bool r) ∧ Below w.heap.size w w' := h ▸ validH2_any c w lo hi hs hh
theorem vspecH2_as {c : H2} {r : Bool} (h : c.ok = r) {w : World} {lo hi : Nat} (hs : SlI w lo hi (.slice c.A c.pres.length c.c) c.pres) (hh : hi ≤ w.heap.size) :
    Calls Tryd.prog 31 #[.agg #[.int .i64 c.day, .slice c.A c.pres.length c.c]] w fun e w' => e = .returned (.bool r) ∧ Below w.heap.size w w' := h ▸ vspecH2_any c w lo hi hs hh

end Go.Proofs.YtodfkbgifoecbaaDoor
