/- TakeFrom: the reference's. No condition. -/
import Derived.Test.YtodfkbgifoecbaaGreatDoorPoolO
namespace Go.Proofs.YtodfkbgifoecbaaGreatDoor
open Go.RowKit
attribute [local go_sem ↓] Go.wp_at_zero Go.wp_at_succ

set_option maxRecDepth 100000 in
set_option maxHeartbeats 4000000 in
theorem specTakeFrom_any (vn vd : Value) (p : P3) (k : Int) (w : World) (lo lo' : Nat) (hn : SlI w lo w.heap.size vn p.nums) (hd : SlI w lo' w.heap.size vd p.drawn) (hl : p.nums.length ≤ 2097152) (hl' : p.drawn.length ≤ 2097152) :
    Calls Tryz.prog 41 #[.agg #[vn, vd, .int .i64 p.st], .int .i64 k] w fun e w' => ∃ xn xd x, e = .returned (.tuple #[.agg #[xn, xd, .int .i64 (takeF p k).1.st], x, .int .i64 (takeF p k).2.2]) ∧ SlI w' w.heap.size w'.heap.size xn (takeF p k).1.nums ∧ SlI w' w.heap.size w'.heap.size xd (takeF p k).1.drawn ∧ SlI w' w.heap.size w'.heap.size x (takeF p k).2.1 ∧ Below w.heap.size w w' := by
  obtain ⟨A, c, rfl, hc1, hc2⟩ := hn.form
  obtain ⟨A', c', rfl, hc1', hc2'⟩ := hd.form
  have up : ∀ {v : Value} {zs : List Int} {lo : Nat} {w1 : World}, SlI w lo w.heap.size v zs → Below w.heap.size w w1 → SlI w1 lo w1.heap.size v zs := fun h hb => (h.below hb (Nat.le_refl _)).more (Nat.le_refl _) hb.size
  go_enter Tryz.func41, Tryz.ntmps41
  go_wp2_with fail
  have bA : Blk ((w.alloc (.cells #[.slice A p.nums.length c, .slice A' p.drawn.length c', .int .i64 p.st] 26)).alloc (.cells #[.slice none 0 0, .slice none 0 0, .int .i64 0] 26)) w.heap.size _ _ := (Blk.new w _ _).alloc _
  have bR : Blk ((w.alloc (.cells #[.slice A p.nums.length c, .slice A' p.drawn.length c', .int .i64 p.st] 26)).alloc (.cells #[.slice none 0 0, .slice none 0 0, .int .i64 0] 26)) (w.heap.size + 1) _ _ := Blk.new' (by simp)
  have hB1 : Below w.heap.size w ((w.alloc (.cells #[.slice A p.nums.length c, .slice A' p.drawn.length c', .int .i64 p.st] 26)).alloc (.cells #[.slice none 0 0, .slice none 0 0, .int .i64 0] 26)) := ((Below.refl _ _).alloc (Nat.le_refl _) _).alloc (by simp) _
  generalize ((w.alloc (.cells #[.slice A p.nums.length c, .slice A' p.drawn.length c', .int .i64 p.st] 26)).alloc (.cells #[.slice none 0 0, .slice none 0 0, .int .i64 0] 26)) = w1 at *
  refine (specIsPool_any _ _ p w1 _ _ (up hn hB1) (up hd hB1)).mono ?_
  rintro e w2 ⟨rfl, hb2⟩
  have hB2 := hB1.trans (hb2.mono hB1.size)
  have z2 := hB2.size
  have bA := bA.below' hb2
  have bR := bR.below' hb2
  have lR := bR.lt
  clear hb2
  have a0 : w2.cell? ⟨w.heap.size, 0, none⟩ = some (.slice A p.nums.length c) := bA.cell 0
  have a1 : w2.cell? ⟨w.heap.size, 1, none⟩ = some (.slice A' p.drawn.length c') := bA.cell 1
  have a2 : w2.cell? ⟨w.heap.size, 2, none⟩ = some (.int .i64 p.st) := bA.cell 2
  have c0 : w2.cell? ⟨w.heap.size + 1, 0, none⟩ = some (.slice none 0 0) := bR.cell 0
  have c1 : w2.cell? ⟨w.heap.size + 1, 1, none⟩ = some (.slice none 0 0) := bR.cell 1
  have c2' : w2.cell? ⟨w.heap.size + 1, 2, none⟩ = some (.int .i64 0) := bR.cell 2
  have f0 : w2.frozen? ⟨w.heap.size + 1, 0, none⟩ = false := bR.frozen 0
  have f1 : w2.frozen? ⟨w.heap.size + 1, 1, none⟩ = false := bR.frozen 1
  have f2 : w2.frozen? ⟨w.heap.size + 1, 2, none⟩ = false := bR.frozen 2
  cases h1 : poolOk p
  · have hF : takeF p k = (⟨[], [], 0⟩, [], 1) := by simp [takeF, h1]
    have HF := Lib.hid hF
    clear hF
    go_wp2_with fail
    refine bodyPost_ret (v := .tuple #[.agg #[.slice none 0 0, .slice none 0 0, .int .i64 0], .slice none 0 0, .int .i64 1]) (by simp [results, Tryz.results41, go_sem, c0, c1, c2']) rfl ⟨_, _, _, by rw [HF.out], by rw [HF.out]; exact slI_nil _ _ _, by rw [HF.out]; exact slI_nil _ _ _, by rw [HF.out]; exact slI_nil _ _ _, ?_⟩
    repeat' refine Below.setCell ?_ (by simp; try omega) _
    exact hB2
  have hlen := leftF_length h1
  have hparts := poolOk_parts h1
  by_cases h2 : k < 0
  · have hF : takeF p k = (⟨[], [], 0⟩, [], 2) := by simp [takeF, h1, h2]
    have HF := Lib.hid hF
    clear hF hlen
    go_wp2_with fail
    refine bodyPost_ret (v := .tuple #[.agg #[.slice none 0 0, .slice none 0 0, .int .i64 0], .slice none 0 0, .int .i64 2]) (by simp [results, Tryz.results41, go_sem, c0, c1, c2']) rfl ⟨_, _, _, by rw [HF.out], by rw [HF.out]; exact slI_nil _ _ _, by rw [HF.out]; exact slI_nil _ _ _, by rw [HF.out]; exact slI_nil _ _ _, ?_⟩
    repeat' refine Below.setCell ?_ (by simp; try omega) _
    exact hB2
  obtain ⟨m, rfl⟩ : ∃ m : Nat, k = (m : Int) := ⟨k.toNat, by omega⟩
  clear h2
  have h2 : decide ((m : Int) < 0) = false := by simp
  by_cases h3' : ((leftF p).length : Int) < (m : Int)
  · have h3 : (p.nums.length : Int) - (p.drawn.length : Int) < (m : Int) := by omega
    have hF : takeF p m = (⟨[], [], 0⟩, [], 3) := by unfold takeF; rw [if_pos h1, if_neg (by omega), if_pos h3']
    have HF := Lib.hid hF
    clear h3' hF hlen
    go_wp2_with fail
    refine bodyPost_ret (v := .tuple #[.agg #[.slice none 0 0, .slice none 0 0, .int .i64 0], .slice none 0 0, .int .i64 3]) (by simp [results, Tryz.results41, go_sem, c0, c1, c2']) rfl ⟨_, _, _, by rw [HF.out], by rw [HF.out]; exact slI_nil _ _ _, by rw [HF.out]; exact slI_nil _ _ _, by rw [HF.out]; exact slI_nil _ _ _, ?_⟩
    repeat' refine Below.setCell ?_ (by simp; try omega) _
    exact hB2
  have h3 : ¬ (p.nums.length : Int) - (p.drawn.length : Int) < (m : Int) := by omega
  have hk : m ≤ (leftOf p.nums p.drawn).length := by
    have : (leftF p).length = (leftOf p.nums p.drawn).length := rfl
    omega
  have hF : takeF p m = (⟨p.nums, (drawGo p.nums m p.drawn p.st).1, (drawGo p.nums m p.drawn p.st).2⟩, (drawGo p.nums m p.drawn p.st).1.drop p.drawn.length, 0) := by unfold takeF; rw [if_pos h1, if_neg (by omega), if_neg h3']; rfl
  have HF := Lib.hid hF
  have hd60 : p.drawn.length ≤ 2000000 := by omega
  clear hF h3' hlen
  go_wp2_with fail
  refine (l08Draw_any (.slice A p.nums.length c) (.slice A' p.drawn.length c') p m w2 _ _ (up hn hB2) (up hd hB2) (up_nodup hparts.1) hk ⟨by omega, hparts.2.2.2.2.2⟩ hparts.2.2.2.1 hd60).mono ?_
  rintro e w4 ⟨xn, xd, xo, rfl, on, od, oo, hb4⟩
  have HF2 := Lib.hid (drawGo_drop p.nums m p.drawn p.st)
  generalize hr : drawGo p.nums m p.drawn p.st = r at *
  have HR := Lib.hid hr
  clear hr
  obtain ⟨Xn, kn, rfl, _, _⟩ := on.form
  obtain ⟨Xd, kd, rfl, _, _⟩ := od.form
  have oo : SlI w4 w2.heap.size w4.heap.size xo (r.1.drop p.drawn.length) := oo
  generalize hq : r.1.drop p.drawn.length = q at *
  have HQ := Lib.hid hq
  clear hq
  obtain ⟨Xo, ko, rfl, _, _⟩ := oo.form
  have hB4 := hB2.trans (hb4.mono z2)
  have z4 := hb4.size
  have bA := bA.below' hb4
  have bR := bR.below' hb4
  clear a0 a1 a2 c0 c1 c2' f0 f1 f2
  have no0 : w4.heap.size ≠ w.heap.size + 1 := by omega
  have no1 : w.heap.size + 1 ≠ w4.heap.size := by omega
  have bR := bR.alloc (.cells #[.slice Xn p.nums.length kn, .slice Xd r.1.length kd, .int .i64 r.2] 26)
  have c0 : (w4.alloc (.cells #[.slice Xn p.nums.length kn, .slice Xd r.1.length kd, .int .i64 r.2] 26)).cell? ⟨w.heap.size + 1, 0, none⟩ = some (.slice none 0 0) := bR.cell 0
  have c1 : (w4.alloc (.cells #[.slice Xn p.nums.length kn, .slice Xd r.1.length kd, .int .i64 r.2] 26)).cell? ⟨w.heap.size + 1, 1, none⟩ = some (.slice none 0 0) := bR.cell 1
  have c2' : (w4.alloc (.cells #[.slice Xn p.nums.length kn, .slice Xd r.1.length kd, .int .i64 r.2] 26)).cell? ⟨w.heap.size + 1, 2, none⟩ = some (.int .i64 0) := bR.cell 2
  have f0 : (w4.alloc (.cells #[.slice Xn p.nums.length kn, .slice Xd r.1.length kd, .int .i64 r.2] 26)).frozen? ⟨w.heap.size + 1, 0, none⟩ = false := bR.frozen 0
  have f1 : (w4.alloc (.cells #[.slice Xn p.nums.length kn, .slice Xd r.1.length kd, .int .i64 r.2] 26)).frozen? ⟨w.heap.size + 1, 1, none⟩ = false := bR.frozen 1
  have f2 : (w4.alloc (.cells #[.slice Xn p.nums.length kn, .slice Xd r.1.length kd, .int .i64 r.2] 26)).frozen? ⟨w.heap.size + 1, 2, none⟩ = false := bR.frozen 2
  go_wp2_with fail
  have hb5 : Below w4.heap.size w4 (w4.alloc (.cells #[.slice Xn p.nums.length kn, .slice Xd r.1.length kd, .int .i64 r.2] 26)) := (Below.refl _ _).alloc (Nat.le_refl _) _
  have hz5 : (w4.alloc (.cells #[.slice Xn p.nums.length kn, .slice Xd r.1.length kd, .int .i64 r.2] 26)).heap.size = w4.heap.size + 1 := by simp
  generalize (w4.alloc (.cells #[.slice Xn p.nums.length kn, .slice Xd r.1.length kd, .int .i64 r.2] 26)) = w5 at *
  have on5 := on.below hb5 (Nat.le_refl _)
  have od5 := od.below hb5 (Nat.le_refl _)
  have oo5 := oo.below hb5 (Nat.le_refl _)
  have hB5 := hB4.trans (hb5.mono hB4.size)
  have hC : ∀ u0 u1 u2, Chg (w.heap.size + 1) (w.heap.size + 1 + 1) w5 (((w5.setCell ⟨w.heap.size + 1, 0, none⟩ u0).setCell ⟨w.heap.size + 1, 1, none⟩ u1).setCell ⟨w.heap.size + 1, 2, none⟩ u2) := by
    intro u0 u1 u2
    repeat' refine Chg.setCell ?_ (by simp) _
    exact Chg.refl _ _ _
  have hlast : ∀ W, Chg (w.heap.size + 1) (w.heap.size + 1 + 1) w5 W → SlI W w.heap.size W.heap.size (.slice Xn p.nums.length kn) p.nums ∧ SlI W w.heap.size W.heap.size (.slice Xd r.1.length kd) r.1 ∧ SlI W w.heap.size W.heap.size (.slice Xo q.length ko) q := by
    intro W hc
    have s := hc.size
    exact ⟨(on5.chg hc (by omega) (by omega)).more (by omega) (by omega), (od5.chg hc (by omega) (by omega)).more (by omega) (by omega), (oo5.chg hc (by omega) (by omega)).more (by omega) (by omega)⟩
  have HC := Lib.hid hC
  have Hlast := Lib.hid hlast
  clear hlast hC
  refine bodyPost_ret (v := .tuple #[.agg #[.slice Xn p.nums.length kn, .slice Xd r.1.length kd, .int .i64 r.2], .slice Xo q.length ko, .int .i64 0]) (by simp [results, Tryz.results41, go_sem, c0, c1, c2', no0, no1]) rfl ⟨_, _, _, by rw [HF.out], by rw [HF.out]; exact (Hlast.out _ (HC.out _ _ _)).1, by rw [HF.out]; exact (Hlast.out _ (HC.out _ _ _)).2.1, by rw [HF.out]; exact (Hlast.out _ (HC.out _ _ _)).2.2, ?_⟩
  repeat' refine Below.setCell ?_ (by simp; try omega) _
  exact hB5
end Go.Proofs.YtodfkbgifoecbaaGreatDoor
