/- RestedFrom: the program's and the reference's answer the same function of the list. No condition. -/
import Derived.Test.YtiflpihjffhfhaaTermC
namespace Go.Proofs.Ytiflpihjffhfhaa
open Go.RowKit

def firstRest (n : Int) (cs : List T3) : Nat → Int → Int × Int
  | 0, _ => (0, 3)
  | f + 1, d => if restGo n d cs = true then (d, 0) else firstRest n cs f (d + 1)
def restedFromF (cs : List T3) (n d : Int) : Int × Int := if termsCode cs n d = 0 then firstRest n cs (20001 - d).toNat d else (0, termsCode cs n d)
theorem firstRest_yes {n : Int} {cs : List T3} {z : Int} (hz : z ≤ 20000) (h : restGo n z cs = true) : firstRest n cs (20001 - z).toNat z = (z, 0) := by
  obtain ⟨m, hm⟩ : ∃ m, (20001 - z).toNat = m + 1 := ⟨(20000 - z).toNat, by omega⟩
  rw [hm, firstRest, if_pos h]
theorem firstRest_no {n : Int} {cs : List T3} {z : Int} (hz : z ≤ 20000) (h : restGo n z cs = false) : firstRest n cs (20001 - z).toNat z = firstRest n cs (20001 - (z + 1)).toNat (z + 1) := by
  obtain ⟨m, hm⟩ : ∃ m, (20001 - z).toNat = m + 1 := ⟨(20000 - z).toNat, by omega⟩
  have h2 : (20001 - (z + 1)).toNat = m := by omega
  rw [hm, firstRest, if_neg (by simp [h]), h2]
theorem firstRest_end {n : Int} {cs : List T3} {z : Int} (hz : 20000 < z) : firstRest n cs (20001 - z).toNat z = (0, 3) := by
  have h2 : (20001 - z).toNat = 0 := by omega
  rw [h2, firstRest]

set_option maxHeartbeats 1000000 in
theorem specRestedFrom_any (v : Value) (cs : List T3) (n d : Int) (w : World) (lo : Nat) (h : SlT3 w lo w.heap.size v cs) :
    Calls Try.prog 61 #[v, .int .i64 n, .int .i64 d] w fun e w' => e = .returned (.tuple #[.int .i64 (restedFromF cs n d).1, .int .i64 (restedFromF cs n d).2]) ∧ Below w.heap.size w w' := by
  go_enter Try.func61, Try.ntmps61
  go_wp2_with fail
  refine (l07Code_any v cs n d w lo h).mono ?_
  rintro e w1 ⟨rfl, hb1⟩
  by_cases hc : termsCode cs n d = 0
  · obtain ⟨h1, _, hd⟩ := termsCode_zero hc
    have hdd := inB_iff.1 hd
    have hF : restedFromF cs n d = firstRest n cs (20001 - d).toNat d := by simp [restedFromF, hc]
    have HF := Lib.hid hF
    clear hF
    rw [hc]
    have h' : SlT3 w1 lo w1.heap.size v cs := (h.below hb1 (Nat.le_refl _)).more (Nat.le_refl _) hb1.size
    go_wp2_with fail
    obtain ⟨wo, rfl⟩ : ∃ wo : World, wo = w1 := ⟨_, rfl⟩
    go_loopw [2] (fun i wr => ∃ (z : Int), i = .int .i64 z ∧ d ≤ z ∧ z ≤ 20001 ∧ Hid (firstRest n cs (20001 - d).toNat d = firstRest n cs (20001 - z).toNat z) ∧ Below wo.heap.size wo wr) (fun i wr => (20001 - intOf i).toNat)
    case atStart => exact ⟨d, rfl, by omega, by omega, Lib.hid rfl, Below.refl _ _⟩
    case round =>
      obtain ⟨z, rfl, hz1, hz2, Hgo, hbr⟩ := hrel
      by_cases hlt : z ≤ 20000
      · go_wp2_with fail
        refine (l07Rested_any v cs n z _ lo ((h'.below hbr (Nat.le_refl _)).more (Nat.le_refl _) hbr.size) (termsOk_all h1).1).mono ?_
        rintro e w2 ⟨rfl, hb2⟩
        cases e1 : restGo n z cs
        · go_wp2_with fail
          go_roundw
          case rel => exact ⟨z + 1, by go_num, by omega, by omega, Lib.hid (by rw [Hgo.out, firstRest_no hlt e1]), hbr.trans (hb2.mono hbr.size)⟩
          case measure => simp [intOf]; omega
        · go_wp2_with fail
          go_ret2
          exact ⟨by rw [HF.out, Hgo.out, firstRest_yes hlt e1]; rfl, hb1.trans ((hbr.trans (hb2.mono hbr.size)).mono hb1.size)⟩
      · go_wp2_with fail
        go_ret2
        exact ⟨by rw [HF.out, Hgo.out, firstRest_end (by omega)]; rfl, hb1.trans (hbr.mono hb1.size)⟩
  · have hF : restedFromF cs n d = (0, termsCode cs n d) := by simp [restedFromF, hc]
    have hne : (termsCode cs n d != 0) = true := by simp [hc]
    go_wp2_with fail
    go_ret2
    exact ⟨by rw [hF]; rfl, hb1⟩

set_option maxHeartbeats 1000000 in
theorem implRestedFrom_any (v : Value) (cs : List T3) (n d : Int) (w : World) (lo : Nat) (h : SlT3 w lo w.heap.size v cs) :
    Calls Try.prog 60 #[v, .int .i64 n, .int .i64 d] w fun e w' => e = .returned (.tuple #[.int .i64 (restedFromF cs n d).1, .int .i64 (restedFromF cs n d).2]) ∧ Below w.heap.size w w' := by
  go_enter Try.func60, Try.ntmps60
  go_wp2_with fail
  refine (termCode_any v cs n d w lo h).mono ?_
  rintro e w1 ⟨rfl, hb1⟩
  by_cases hc : termsCode cs n d = 0
  · obtain ⟨h1, _, hd⟩ := termsCode_zero hc
    have hdd := inB_iff.1 hd
    have hF : restedFromF cs n d = firstRest n cs (20001 - d).toNat d := by simp [restedFromF, hc]
    have HF := Lib.hid hF
    clear hF
    rw [hc]
    have h' : SlT3 w1 lo w1.heap.size v cs := (h.below hb1 (Nat.le_refl _)).more (Nat.le_refl _) hb1.size
    go_wp2_with fail
    obtain ⟨wo, rfl⟩ : ∃ wo : World, wo = w1 := ⟨_, rfl⟩
    go_loopw [2] (fun i wr => ∃ (z : Int), i = .int .i64 z ∧ d ≤ z ∧ z ≤ 20001 ∧ Hid (firstRest n cs (20001 - d).toNat d = firstRest n cs (20001 - z).toNat z) ∧ Below wo.heap.size wo wr) (fun i wr => (20001 - intOf i).toNat)
    case atStart => exact ⟨d, rfl, by omega, by omega, Lib.hid rfl, Below.refl _ _⟩
    case round =>
      obtain ⟨z, rfl, hz1, hz2, Hgo, hbr⟩ := hrel
      go_wp2_with fail
      refine (isDay_any z _).mono ?_
      rintro e w2 ⟨rfl, rfl⟩
      by_cases hlt : z ≤ 20000
      · have hin : inB z 0 20000 = true := inB_iff.2 ⟨by omega, hlt⟩
        go_wp2_with fail
        refine (rested_any v cs n z _ lo ((h'.below hbr (Nat.le_refl _)).more (Nat.le_refl _) hbr.size) (termsOk_all h1).1).mono ?_
        rintro e w2 ⟨rfl, hb2⟩
        cases e1 : restGo n z cs
        · go_wp2_with fail
          go_roundw
          case rel => exact ⟨z + 1, by go_num, by omega, by omega, Lib.hid (by rw [Hgo.out, firstRest_no hlt e1]), hbr.trans (hb2.mono hbr.size)⟩
          case measure => simp [intOf]; omega
        · go_wp2_with fail
          go_ret2
          exact ⟨by rw [HF.out, Hgo.out, firstRest_yes hlt e1]; rfl, hb1.trans ((hbr.trans (hb2.mono hbr.size)).mono hb1.size)⟩
      · have hin : inB z 0 20000 = false := by simp [inB]; omega
        go_wp2_with fail
        go_ret2
        exact ⟨by rw [HF.out, Hgo.out, firstRest_end (by omega)]; rfl, hb1.trans (hbr.mono hb1.size)⟩
  · have hF : restedFromF cs n d = (0, termsCode cs n d) := by simp [restedFromF, hc]
    have hne : (termsCode cs n d != 0) = true := by simp [hc]
    go_wp2_with fail
    go_ret2
    exact ⟨by rw [hF]; rfl, hb1⟩
end Go.Proofs.Ytiflpihjffhfhaa
