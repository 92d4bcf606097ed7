/- Numbers and sheets as texts: the reference's functions. No condition but the sizes that the law itself asks. -/
import Derived.Test.YtodfkbgifoecbaaGreatDoorTxF
import Derived.Deep.RegionHeld3
namespace Go.Proofs.YtodfkbgifoecbaaGreatDoor
open Go.RowKit
open Go.Lib hiding intOf
attribute [local go_sem ↓] Go.wp_at_zero Go.wp_at_succ
theorem conv_byte (W : World) (g : Nat) (d : Nat) (hd : d < 10) (hb : Blk W g 5 #[.int .u8 (48 + (d : Int))]) :
    (convert 22 9 (.slice (some ⟨g, 0, none⟩) 1 1)).run Tryz.prog W = .ok (.string (str [UInt8.ofNat (48 + d)])) W := by
  have h := run_convert_bytes_arg (P := Tryz.prog) W _ _ Tryz.underlying22 Tryz.underlying5 g 0 1 1 [48 + (d : Int)] rfl (fun i hi => by
    have : i = 0 := by omega
    subst this
    exact hb.cell 0) _ Tryz.underlying9
  rw [h]
  have e : (48 + (d : Int)).toNat = 48 + d := by omega
  simp [strOfNums, str, e]

set_option maxRecDepth 100000 in
set_option maxHeartbeats 4000000 in
theorem l01Dec_nat : ∀ (m : Nat) (w : World), m ≤ 4611686018427387904 → Calls Tryz.prog 40 #[.int .i64 (m : Int)] w fun e w' => e = .returned (.string (str (decDigits m))) ∧ Below w.heap.size w w' := by
  intro m
  induction m using Nat.strongRecOn with
  | _ m ih =>
    intro w hm
    by_cases h : m < 10
    · have hcv := conv_byte (w.alloc (.cells #[.int .u8 (48 + (m : Int))] 5)) w.heap.size m h (Blk.new w _ _)
      have hE := Lib.hid (show str (decDigits m) = str [UInt8.ofNat (48 + m)] by rw [dec_small h])
      generalize str [UInt8.ofNat (48 + m)] = s0 at *
      clear ih
      have hb : Below w.heap.size w (w.alloc (.cells #[.int .u8 (48 + (m : Int))] 5)) := (Below.refl _ _).alloc (Nat.le_refl _) _
      go_enter Tryz.func40, Tryz.ntmps40
      go_wp2_with (simp only [hcv])
      go_ret
      exact ⟨by rw [hE.out]; rfl, hb⟩
    · have hE := Lib.hid (dec_big h)
      have HI : Hid (∀ W, Calls Tryz.prog 40 #[.int .i64 ((m / 10 : Nat) : Int)] W fun e w' => e = .returned (.string (str (decDigits (m / 10)))) ∧ Below W.heap.size W w') := Lib.hid fun W => ih (m / 10) (by omega) W (by omega)
      have hlen : (str (decDigits (m / 10))).size ≤ 20 := by
        rw [str_size, decDigits_length]
        exact nDigits_le 19 _ (by omega)
      have e1 : (m : Int) / 10 = ((m / 10 : Nat) : Int) := by omega
      have e2 : (m : Int) % 10 = ((m % 10 : Nat) : Int) := by omega
      obtain ⟨q, hq⟩ : ∃ q, m / 10 = q := ⟨_, rfl⟩
      obtain ⟨d, hd⟩ : ∃ d, m % 10 = d := ⟨_, rfl⟩
      have hd10 : d < 10 := by omega
      rw [hq] at HI hlen e1 hE
      rw [hd] at e2 hE
      have hm10 : ¬ (m : Int) < 10 := by omega
      have e3 : ((m : Int).tmod 10) = (d : Int) := by rw [Int.tmod_eq_emod_of_nonneg (by omega)]; exact e2
      have e4 : IntKind.i64.wrap (q : Int) = (q : Int) := IntWalk.i64_in _ (by omega)
      have e5 : IntKind.i64.wrap (48 + (d : Int)) = 48 + (d : Int) := IntWalk.i64_in _ (by omega)
      have e6 : IntKind.u8.wrap (48 + (d : Int)) = 48 + (d : Int) := IntWalk.u8_in _ (by omega)
      have HCV : Hid (∀ W g, Blk W g 5 #[.int .u8 (48 + (d : Int))] → (convert 22 9 (.slice (some ⟨g, 0, none⟩) 1 1)).run Tryz.prog W = .ok (.string (str [UInt8.ofNat (48 + d)])) W) := Lib.hid fun W g hb => conv_byte W g d hd10 hb
      have hs1 : (str [UInt8.ofNat (48 + d)]).size = 1 := by rw [str_size]; rfl
      clear hq hd ih h
      generalize hsq : str (decDigits q) = sq at *
      generalize hsd : str [UInt8.ofNat (48 + d)] = sd at *
      have HQ := Lib.hid hsq
      have HD := Lib.hid hsd
      clear hsq hsd
      have q1 : ¬ (9223372036854775807 < sq.size + sd.size) := by omega
      go_enter Tryz.func40, Tryz.ntmps40
      go_wp2_with fail
      have C1 := HI.out w.drew
      have C2 := HI.out (w.alloc (.cells #[.int .u8 (48 + (d : Int))] 5)).drew
      have hb1 : Below w.heap.size w (w.alloc (.cells #[.int .u8 (48 + (d : Int))] 5)).drew := ((Below.refl _ _).alloc (Nat.le_refl _) _).drew
      have bB : Blk (w.alloc (.cells #[.int .u8 (48 + (d : Int))] 5)).drew w.heap.size 5 #[.int .u8 (48 + (d : Int))] := Blk.new w _ _
      have hcv0 := HCV.out _ _ bB
      go_region_with (first
        | (go_at_call 40; (with_reducible refine C1.mono ?_); rintro e w2 ⟨rfl, hb2⟩; have hcvA := HCV.out _ _ (Blk.new w2 5 #[.int .u8 (48 + (d : Int))]); have hbF : Below w.heap.size w (w2.alloc (.cells #[.int .u8 (48 + (d : Int))] 5)) := ((Below.refl _ _).drew.trans (hb2.mono (Nat.le_refl _))).alloc hb2.size _)
        | (go_at_call 40; (with_reducible refine C2.mono ?_); rintro e w2 ⟨rfl, hb2⟩; have hcvB := HCV.out _ _ (bB.below' hb2); have hbF := hb1.trans (hb2.mono hb1.size)))
      all_goals go_wp2_with fail
      all_goals go_ret
      all_goals exact ⟨by rw [hE.out, ← str_append, HQ.out, HD.out]; rfl, hbF⟩
end Go.Proofs.YtodfkbgifoecbaaGreatDoor
