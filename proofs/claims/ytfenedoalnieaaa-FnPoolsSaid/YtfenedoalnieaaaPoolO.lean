/- TakeFrom: the program's and the reference's answer the same function. No condition but the sizes that the law itself asks. -/
import Derived.Test.YtfenedoalnieaaaPoolN
namespace Go.Proofs.Ytfenedoalnieaaa
open Go.RowKit
attribute [local go_sem ↓] Go.wp_at_zero Go.wp_at_succ

def takeF (p : P3) (k : Int) : P3 × List Int × Int :=
  if poolOk p = true then if k < 0 then (⟨[], [], 0⟩, [], 2) else if ((leftF p).length : Int) < k then (⟨[], [], 0⟩, [], 3) else (⟨p.nums, (drawGo p.nums k.toNat p.drawn p.st).1, (drawGo p.nums k.toNat p.drawn p.st).2⟩, (drawGo p.nums k.toNat p.drawn p.st).1.drop p.drawn.length, 0) else (⟨[], [], 0⟩, [], 1)
theorem drawGo_len (nums : List Int) (k : Nat) (d : List Int) (s : Int) : (drawGo nums k d s).1.length = d.length + k := by
  obtain ⟨r, h1, h2⟩ := drawGo_app nums k d s
  rw [h1, List.length_append, h2]
theorem takeF_len (p : P3) (k : Int) : (takeF p k).1.nums.length ≤ 60 ∧ (takeF p k).1.drawn.length ≤ 60 ∧ (takeF p k).2.1.length ≤ 60 := by
  unfold takeF
  split
  · next h =>
    have h1 := poolOk_parts h
    have h2 := leftF_length h
    split
    · exact ⟨Nat.zero_le _, Nat.zero_le _, Nat.zero_le _⟩
    · split
      · exact ⟨Nat.zero_le _, Nat.zero_le _, Nat.zero_le _⟩
      · have h3 := drawGo_len p.nums k.toNat p.drawn p.st
        refine ⟨h1.2.2.2.1, ?_, ?_⟩
        · show (drawGo p.nums k.toNat p.drawn p.st).1.length ≤ 60
          omega
        · show ((drawGo p.nums k.toNat p.drawn p.st).1.drop p.drawn.length).length ≤ 60
          rw [List.length_drop]; omega
  · exact ⟨Nat.zero_le _, Nat.zero_le _, Nat.zero_le _⟩

set_option maxRecDepth 100000 in
set_option maxHeartbeats 8000000 in
theorem implTakeFrom_any (vn vd : Value) (p : P3) (k : Int) (w : World) (lo lo' : Nat) (hn : SlI w lo w.heap.size vn p.nums) (hd : SlI w lo' w.heap.size vd p.drawn) :
    Calls Try.prog 34 #[.agg #[vn, vd, .int .i64 p.st], .int .i64 k] w fun e w' => ∃ xn xd x Q R, e = .returned (.tuple #[.agg #[xn, xd, .int .i64 (takeF p k).1.st], x, .int .i64 (takeF p k).2.2]) ∧ OwI i64s 1 2 w' w.heap.size Q xn (takeF p k).1.nums ∧ OwI i64s 1 2 w' Q R xd (takeF p k).1.drawn ∧ OwI i64s 1 2 w' R w'.heap.size x (takeF p k).2.1 ∧ w.heap.size ≤ Q ∧ Q ≤ R ∧ R ≤ w'.heap.size ∧ Below w.heap.size w w' := by
  obtain ⟨A, c, rfl, hc1, hc2⟩ := hn.form
  obtain ⟨A', c', rfl, hc1', hc2'⟩ := hd.form
  have up : ∀ {v : Value} {zs : List Int} {lo : Nat} {w1 : World}, SlI w lo w.heap.size v zs → Below w.heap.size w w1 → SlI w1 lo w1.heap.size v zs := fun h hb => (h.below hb (Nat.le_refl _)).more (Nat.le_refl _) hb.size
  go_enter Try.func34, Try.ntmps34
  go_wp2_with fail
  have bA : Blk ((w.alloc (.cells #[.slice A p.nums.length c, .slice A' p.drawn.length c', .int .i64 p.st] 27)).alloc (.cells #[.slice none 0 0, .slice none 0 0, .int .i64 0] 27)) w.heap.size _ _ := (Blk.new w _ _).alloc _
  have bR : Blk ((w.alloc (.cells #[.slice A p.nums.length c, .slice A' p.drawn.length c', .int .i64 p.st] 27)).alloc (.cells #[.slice none 0 0, .slice none 0 0, .int .i64 0] 27)) (w.heap.size + 1) _ _ := Blk.new' (by simp)
  have hB1 : Below w.heap.size w ((w.alloc (.cells #[.slice A p.nums.length c, .slice A' p.drawn.length c', .int .i64 p.st] 27)).alloc (.cells #[.slice none 0 0, .slice none 0 0, .int .i64 0] 27)) := ((Below.refl _ _).alloc (Nat.le_refl _) _).alloc (by simp) _
  generalize ((w.alloc (.cells #[.slice A p.nums.length c, .slice A' p.drawn.length c', .int .i64 p.st] 27)).alloc (.cells #[.slice none 0 0, .slice none 0 0, .int .i64 0] 27)) = w1 at *
  refine (implIsPool_any _ _ p w1 _ _ (up hn hB1) (up hd hB1)).mono ?_
  rintro e w2 ⟨rfl, hb2⟩
  have hB2 := hB1.trans (hb2.mono hB1.size)
  have z2 := hB2.size
  have bA := bA.below' hb2
  have bR := bR.below' hb2
  have lR := bR.lt
  clear hb2
  have a0 : w2.cell? ⟨w.heap.size, 0, none⟩ = some (.slice A p.nums.length c) := bA.cell 0
  have a1 : w2.cell? ⟨w.heap.size, 1, none⟩ = some (.slice A' p.drawn.length c') := bA.cell 1
  have a2 : w2.cell? ⟨w.heap.size, 2, none⟩ = some (.int .i64 p.st) := bA.cell 2
  have c0 : w2.cell? ⟨w.heap.size + 1, 0, none⟩ = some (.slice none 0 0) := bR.cell 0
  have c1 : w2.cell? ⟨w.heap.size + 1, 1, none⟩ = some (.slice none 0 0) := bR.cell 1
  have c2' : w2.cell? ⟨w.heap.size + 1, 2, none⟩ = some (.int .i64 0) := bR.cell 2
  have f0 : w2.frozen? ⟨w.heap.size + 1, 0, none⟩ = false := bR.frozen 0
  have f1 : w2.frozen? ⟨w.heap.size + 1, 1, none⟩ = false := bR.frozen 1
  have f2 : w2.frozen? ⟨w.heap.size + 1, 2, none⟩ = false := bR.frozen 2
  cases h1 : poolOk p
  · have hF : takeF p k = (⟨[], [], 0⟩, [], 1) := by simp [takeF, h1]
    go_wp2_with fail
    refine bodyPost_ret (v := .tuple #[.agg #[.slice none 0 0, .slice none 0 0, .int .i64 0], .slice none 0 0, .int .i64 1]) (by simp [results, Try.results34, go_sem, c0, c1, c2']) rfl ⟨_, _, _, w.heap.size, w.heap.size, by rw [hF], by rw [hF]; exact ownI_nil _ _ _ _, by rw [hF]; exact ownI_nil _ _ _ _, by rw [hF]; exact ownI_nil _ _ _ _, Nat.le_refl _, Nat.le_refl _, by simp; omega, ?_⟩
    repeat' refine Below.setCell ?_ (by simp; try omega) _
    exact hB2
  have hlen := leftF_length h1
  have hparts := poolOk_parts h1
  by_cases h2 : k < 0
  · have hF : takeF p k = (⟨[], [], 0⟩, [], 2) := by simp [takeF, h1, h2]
    go_wp2_with fail
    refine bodyPost_ret (v := .tuple #[.agg #[.slice none 0 0, .slice none 0 0, .int .i64 0], .slice none 0 0, .int .i64 2]) (by simp [results, Try.results34, go_sem, c0, c1, c2']) rfl ⟨_, _, _, w.heap.size, w.heap.size, by rw [hF], by rw [hF]; exact ownI_nil _ _ _ _, by rw [hF]; exact ownI_nil _ _ _ _, by rw [hF]; exact ownI_nil _ _ _ _, Nat.le_refl _, Nat.le_refl _, by simp; omega, ?_⟩
    repeat' refine Below.setCell ?_ (by simp; try omega) _
    exact hB2
  obtain ⟨m, rfl⟩ : ∃ m : Nat, k = (m : Int) := ⟨k.toNat, by omega⟩
  clear h2
  have h2 : decide ((m : Int) < 0) = false := by simp
  go_wp2_with fail
  refine (left_any _ _ p w2 _ _ (up hn hB2) (up hd hB2) (by omega)).mono ?_
  rintro e w3 ⟨v3, rfl, o3, hb3⟩
  obtain ⟨A3, c3, rfl, _, _, _⟩ := own_form (OwnR.own o3)
  have hB3 := hB2.trans (hb3.mono z2)
  have z3 := hB3.size
  have bA := bA.below' hb3
  have bR := bR.below' hb3
  have lR := bR.lt
  clear hb3 o3 a0 a1 a2 c0 c1 c2' f0 f1 f2
  have a0 : w3.cell? ⟨w.heap.size, 0, none⟩ = some (.slice A p.nums.length c) := bA.cell 0
  have a1 : w3.cell? ⟨w.heap.size, 1, none⟩ = some (.slice A' p.drawn.length c') := bA.cell 1
  have a2 : w3.cell? ⟨w.heap.size, 2, none⟩ = some (.int .i64 p.st) := bA.cell 2
  have c0 : w3.cell? ⟨w.heap.size + 1, 0, none⟩ = some (.slice none 0 0) := bR.cell 0
  have c1 : w3.cell? ⟨w.heap.size + 1, 1, none⟩ = some (.slice none 0 0) := bR.cell 1
  have c2' : w3.cell? ⟨w.heap.size + 1, 2, none⟩ = some (.int .i64 0) := bR.cell 2
  have f0 : w3.frozen? ⟨w.heap.size + 1, 0, none⟩ = false := bR.frozen 0
  have f1 : w3.frozen? ⟨w.heap.size + 1, 1, none⟩ = false := bR.frozen 1
  have f2 : w3.frozen? ⟨w.heap.size + 1, 2, none⟩ = false := bR.frozen 2
  by_cases h3' : ((leftF p).length : Int) < (m : Int)
  · have h3 : (leftF p).length < m := by omega
    have hF : takeF p m = (⟨[], [], 0⟩, [], 3) := by unfold takeF; rw [if_pos h1, if_neg (by omega), if_pos h3']
    clear h3'
    go_wp2_with fail
    refine bodyPost_ret (v := .tuple #[.agg #[.slice none 0 0, .slice none 0 0, .int .i64 0], .slice none 0 0, .int .i64 3]) (by simp [results, Try.results34, go_sem, c0, c1, c2']) rfl ⟨_, _, _, w.heap.size, w.heap.size, by rw [hF], by rw [hF]; exact ownI_nil _ _ _ _, by rw [hF]; exact ownI_nil _ _ _ _, by rw [hF]; exact ownI_nil _ _ _ _, Nat.le_refl _, Nat.le_refl _, by simp; omega, ?_⟩
    repeat' refine Below.setCell ?_ (by simp; try omega) _
    exact hB3
  have h3 : ¬ (leftF p).length < m := by omega
  have hk : m ≤ (leftOf p.nums p.drawn).length := by
    have : (leftF p).length = (leftOf p.nums p.drawn).length := rfl
    omega
  have hF : takeF p m = (⟨p.nums, (drawGo p.nums m p.drawn p.st).1, (drawGo p.nums m p.drawn p.st).2⟩, (drawGo p.nums m p.drawn p.st).1.drop p.drawn.length, 0) := by unfold takeF; rw [if_pos h1, if_neg (by omega), if_neg h3']; rfl
  have HF := Lib.hid hF
  have hdl := drawGo_len p.nums m p.drawn p.st
  have HDL := Lib.hid hdl
  clear hF h3' hdl
  go_wp2_with fail
  refine (take_any (.slice A p.nums.length c) (.slice A' p.drawn.length c') p m w3 _ _ (up hn hB3) (up hd hB3) (up_nodup hparts.1) hk ⟨by omega, hparts.2.2.2.2.2⟩ hparts.2.2.2.1 (by omega)).mono ?_
  rintro e w4 ⟨xn, xd, Q, rfl, on, od, hQ, hQ2, hb4⟩
  generalize hr : drawGo p.nums m p.drawn p.st = r at *
  have HR := Lib.hid hr
  clear hr
  obtain ⟨Xn, kn, rfl, _, _⟩ := on.form
  obtain ⟨Xd, kd, rfl, hkd, _⟩ := od.form
  have hB4 := hB3.trans (hb4.mono z3)
  have z4 := hb4.size
  have bA := bA.below' hb4
  have bR := bR.below' hb4
  clear hb4 a0 a1 a2 c0 c1 c2' f0 f1 f2
  go_wp2_with fail
  have bO := Blk.new w4 27 #[.slice Xn p.nums.length kn, .slice Xd r.1.length kd, .int .i64 r.2]
  have bA := bA.alloc (.cells #[.slice Xn p.nums.length kn, .slice Xd r.1.length kd, .int .i64 r.2] 27)
  have bR := bR.alloc (.cells #[.slice Xn p.nums.length kn, .slice Xd r.1.length kd, .int .i64 r.2] 27)
  have hbo : Below w4.heap.size w4 (w4.alloc (.cells #[.slice Xn p.nums.length kn, .slice Xd r.1.length kd, .int .i64 r.2] 27)) := (Below.refl _ _).alloc (Nat.le_refl _) _
  have on := on.below hbo
  have od := od.below hbo
  have hB5 := hB4.trans (hbo.mono hB4.size)
  have z5 : (w4.alloc (.cells #[.slice Xn p.nums.length kn, .slice Xd r.1.length kd, .int .i64 r.2] 27)).heap.size = w4.heap.size + 1 := by simp
  clear hbo
  generalize (w4.alloc (.cells #[.slice Xn p.nums.length kn, .slice Xd r.1.length kd, .int .i64 r.2] 27)) = w5 at *
  have hdk : p.drawn.length ≤ r.1.length := by have := HDL.out; omega
  have odr := OwI.rd (f := i64s) (s := 1) (fun _ => rfl) od
  obtain ⟨S, hS, rS⟩ := run_slice_from (P := Try.prog) odr hdk 22 2 Try.infoI Try.underlying22
  have rS : SlR i64s 1 w5.drew Q w5.drew.heap.size S (r.1.drop p.drawn.length) := rS.drew
  have bAd : Blk w5.drew _ _ _ := bA
  have bRd : Blk w5.drew _ _ _ := bR
  have bOd : Blk w5.drew _ _ _ := bO
  have a1 : w5.cell? ⟨w.heap.size, 1, none⟩ = some (.slice A' p.drawn.length c') := bA.cell 1
  have o0 : w5.cell? ⟨w4.heap.size, 0, none⟩ = some (.slice Xn p.nums.length kn) := bO.cell 0
  have o1 : w5.cell? ⟨w4.heap.size, 1, none⟩ = some (.slice Xd r.1.length kd) := bO.cell 1
  have o2 : w5.cell? ⟨w4.heap.size, 2, none⟩ = some (.int .i64 r.2) := bO.cell 2
  have C1 := cloneI_cap S (r.1.drop p.drawn.length) w5.drew Q rS (by have := HDL.out; rw [List.length_drop]; omega)
  have no0 : w4.heap.size ≠ w.heap.size + 1 := by have := bR.lt; have := hB4.size; omega
  have na0 : w.heap.size ≠ w.heap.size + 1 := by omega
  try refine region_np ?_
  go_region_held3 (fun w' => w'.cell? ⟨w.heap.size, 1, none⟩ = some (.slice A' p.drawn.length c') ∧ w'.cell? ⟨w4.heap.size, 0, none⟩ = some (.slice Xn p.nums.length kn) ∧ w'.cell? ⟨w4.heap.size, 1, none⟩ = some (.slice Xd r.1.length kd) ∧ w'.cell? ⟨w4.heap.size, 2, none⟩ = some (.int .i64 r.2)) (first | exact ⟨a1, o0, o1, o2⟩ | exact ⟨g1, e0, e1, e2⟩ | exact ⟨(((bA6.far na0 _).far na0 _).far na0 _).cell 1, (((bO6.far no0 _).far no0 _).far no0 _).cell 0, (((bO6.far no0 _).far no0 _).far no0 _).cell 1, (((bO6.far no0 _).far no0 _).far no0 _).cell 2⟩ | go_keep) (first
    | (go_at_call 53; (with_reducible refine C1.mono ?_); rintro e w6 ⟨rfl, o6, hb6⟩; have bA6 := bAd.below' hb6; have bO6 := bOd.below' hb6; have g1 := (bAd.below' hb6).cell 1; have e0 := (bOd.below' hb6).cell 0; have e1 := (bOd.below' hb6).cell 1; have e2 := (bOd.below' hb6).cell 2; have c0 := (bRd.below' hb6).cell 0; have c1 := (bRd.below' hb6).cell 1; have c2' := (bRd.below' hb6).cell 2; have f0 := (bRd.below' hb6).frozen 0; have f1 := (bRd.below' hb6).frozen 1; have f2 := (bRd.below' hb6).frozen 2))
  have c0 : w6.cell? ⟨w.heap.size + 1, 0, none⟩ = some (.slice none 0 0) := c0
  have c1 : w6.cell? ⟨w.heap.size + 1, 1, none⟩ = some (.slice none 0 0) := c1
  have c2' : w6.cell? ⟨w.heap.size + 1, 2, none⟩ = some (.int .i64 0) := c2'
  go_wp2_with fail
  have hb6' : Below w5.heap.size w5 w6 := ((Below.refl _ _).drew).trans hb6
  have hB6 : Below w.heap.size w w6 := hB5.trans (hb6'.mono (by omega))
  have lRw : w.heap.size + 1 < w3.heap.size := lR
  have z6 := hb6'.size
  have on6 := on.below hb6'
  have od6 := od.below hb6'
  have hz5 : w5.drew.heap.size = w5.heap.size := rfl
  have hC : ∀ u0 u1 u2, Chg (w.heap.size + 1) (w.heap.size + 1 + 1) w6 (((w6.setCell ⟨w.heap.size + 1, 0, none⟩ u0).setCell ⟨w.heap.size + 1, 1, none⟩ u1).setCell ⟨w.heap.size + 1, 2, none⟩ u2) := by
    intro u0 u1 u2
    repeat' refine Chg.setCell ?_ (by simp) _
    exact Chg.refl _ _ _
  have hlast : ∀ W, Chg (w.heap.size + 1) (w.heap.size + 1 + 1) w6 W → OwI i64s 1 2 W w.heap.size Q (.slice Xn p.nums.length kn) p.nums ∧ OwI i64s 1 2 W Q w4.heap.size (.slice Xd r.1.length kd) r.1 ∧ OwI i64s 1 2 W w4.heap.size W.heap.size (.slice (some ⟨w5.drew.heap.size, 0, none⟩) (r.1.drop p.drawn.length).length (r.1.drop p.drawn.length).length) (r.1.drop p.drawn.length) ∧ w6.heap.size ≤ W.heap.size := by
    intro W hc
    have q1 := on6.chg hc (by omega)
    have q2 := od6.chg hc (by omega)
    have q3 := (OwI.of o6).chg hc (.inr (by omega))
    exact ⟨⟨q1.own.more (by omega), q1.hi⟩, q2, ⟨q3.own.more (by omega), fun g hg => Nat.lt_of_lt_of_le (q3.hi g hg) hc.size⟩, hc.size⟩
  have HC := Lib.hid hC
  have Hlast := Lib.hid hlast
  clear hlast hC
  refine bodyPost_ret (v := .tuple #[.agg #[.slice Xn p.nums.length kn, .slice Xd r.1.length kd, .int .i64 r.2], .slice (some ⟨w5.drew.heap.size, 0, none⟩) (r.1.drop p.drawn.length).length (r.1.drop p.drawn.length).length, .int .i64 0]) (by simp [results, Try.results34, go_sem, c0, c1, c2']) rfl ⟨_, _, _, Q, w4.heap.size, by rw [HF.out], by rw [HF.out]; exact (Hlast.out _ (HC.out _ _ _)).1, by rw [HF.out]; exact (Hlast.out _ (HC.out _ _ _)).2.1, by rw [HF.out]; exact (Hlast.out _ (HC.out _ _ _)).2.2.1, by omega, hQ2, Nat.le_trans (by omega) (Hlast.out _ (HC.out _ _ _)).2.2.2, ?_⟩
  repeat' refine Below.setCell ?_ (by simp; try omega) _
  exact hB6
end Go.Proofs.Ytfenedoalnieaaa
