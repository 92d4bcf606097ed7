/- FnExactReadPool: for every input the law returns true, and each argument reads as it did. Its condition: the package-level variables that the row lists read as the program lays them. -/
import Derived.Test.YtodfkbgifoecbaaDoorTxW
import Derived.Test.YtodfkbgifoecbaaDoorPoolG
import Derived.Test.YtodfkbgifoecbaaDoorTxX
namespace Go.Proofs.YtodfkbgifoecbaaDoor.lawFnExactReadPool
open Go.ChangeShapes Go.WideShapes Go.ChangeAt Go.RowKit
open Go.Lib hiding intOf
attribute [local go_sem ↓] Go.wp_at_zero Go.wp_at_succ
set_option maxRecDepth 100000 in
set_option maxHeartbeats 4000000 in
theorem walkL (s : ByteArray) (w : World) (hE : Env w.heap.size w) :
    Calls Tryd.prog 7 #[.string s] w fun e w' => e = .returned (.bool true) ∧ Below w.heap.size w w' := by
  by_cases hs : 1048576 < s.size
  · have hg : decide ((1048576 : Int) < (s.size : Int)) = true := by simp; omega
    go_enter Tryd.func7, Tryd.ntmps7
    go_wp2_with fail
    go_ret
    exact ⟨rfl, Below.refl _ _⟩
  have hg : decide ((1048576 : Int) < (s.size : Int)) = false := by simp; omega
  have hs' : s.size ≤ 1048576 := by omega
  have CS := specReadPool_any s w hs'
  rw [rp_eq] at CS
  have HI := Lib.hid (fun W h1 h2 => implReadPool_any s W w.heap.size h1 h2 hs')
  have hl : (RPg rdF rdF s.data.toList).1.nums.length ≤ 60 ∧ (RPg rdF rdF s.data.toList).1.drawn.length ≤ 60 := by
    rcases RP_code s.data.toList with h | h
    · have := tp_parts (RP_ok h).1; exact ⟨this.2.1, this.2.2.2.1⟩
    · rw [h]; exact ⟨Nat.zero_le _, Nat.zero_le _⟩
  obtain ⟨hl, hl2⟩ := hl
  generalize (RPg rdF rdF s.data.toList).1.nums = na at *
  generalize (RPg rdF rdF s.data.toList).1.drawn = nb at *
  generalize (RPg rdF rdF s.data.toList).1.st = st at *
  generalize (RPg rdF rdF s.data.toList).2 = cd at *
  have B0 : Below w.heap.size w w := Below.refl _ _
  go_enter Tryd.func7, Tryd.ntmps7
  go_wp2_with fail
  refine CS.mono ?_
  rintro e w1 ⟨xn1, xd1, Q1, rfl, o1n, o1d, hQ1, hq1, hb1⟩
  clear CS
  have z1 := hb1.size
  have B1 := Below.trans B0 (Below.mono hb1 (by omega))
  clear hb1 B0
  obtain ⟨A1, c1, rfl, _, _⟩ := o1n.form
  obtain ⟨D1, e1, rfl, _, _⟩ := o1d.form
  go_wp2_with fail
  have hb2 : Below w1.heap.size w1 (w1.alloc (.cells #[.slice A1 na.length c1, .slice D1 nb.length e1, .int .i64 st] 45)) := (Below.refl _ _).alloc (Nat.le_refl _) _
  have hz2 : (w1.alloc (.cells #[.slice A1 na.length c1, .slice D1 nb.length e1, .int .i64 st] 45)).heap.size = w1.heap.size + 1 := by simp
  have bx := Blk.new w1 45 #[.slice A1 na.length c1, .slice D1 nb.length e1, .int .i64 st]
  generalize (w1.alloc (.cells #[.slice A1 na.length c1, .slice D1 nb.length e1, .int .i64 st] 45)) = w2 at *
  have z2 := hb2.size
  have o1n := o1n.below hb2
  have o1d := o1d.below hb2
  have B2 := Below.trans B1 (Below.mono hb2 (by omega))
  clear hb2 B1
  have bW := bx
  clear bx
  refine (HI.out _ (hE.on B2) (by omega)).mono ?_
  rintro e w3 ⟨xn3, xd3, Q3, rfl, o3n, o3d, hQ3, hq3, hb3⟩
  have z3 := hb3.size
  have o1n := o1n.below hb3
  have o1d := o1d.below hb3
  have bW := bW.below' hb3
  have B3 := Below.trans B2 (Below.mono hb3 (by omega))
  clear hb3 B2
  obtain ⟨A3, c3, rfl, _, _⟩ := o3n.form
  obtain ⟨D3, e3, rfl, _, _⟩ := o3d.form
  have q_bW_0 : w3.cell? ⟨w1.heap.size, 0, none⟩ = some (.slice A1 na.length c1) := bW.cell 0
  have q_bW_1 : w3.cell? ⟨w1.heap.size, 1, none⟩ = some (.slice D1 nb.length e1) := bW.cell 1
  have q_bW_2 : w3.cell? ⟨w1.heap.size, 2, none⟩ = some (.int .i64 st) := bW.cell 2
  have qa_bW_0 : (w3.alloc (.cells #[.slice A3 na.length c3, .slice D3 nb.length e3, .int .i64 st] 45)).cell? ⟨w1.heap.size, 0, none⟩ = some (.slice A1 na.length c1) := (bW.alloc _).cell 0
  have qa_bW_1 : (w3.alloc (.cells #[.slice A3 na.length c3, .slice D3 nb.length e3, .int .i64 st] 45)).cell? ⟨w1.heap.size, 1, none⟩ = some (.slice D1 nb.length e1) := (bW.alloc _).cell 1
  have qa_bW_2 : (w3.alloc (.cells #[.slice A3 na.length c3, .slice D3 nb.length e3, .int .i64 st] 45)).cell? ⟨w1.heap.size, 2, none⟩ = some (.int .i64 st) := (bW.alloc _).cell 2
  go_wp2_with fail
  clear q_bW_0 q_bW_1 q_bW_2 qa_bW_0 qa_bW_1 qa_bW_2
  have hb4 : Below w3.heap.size w3 (w3.alloc (.cells #[.slice A3 na.length c3, .slice D3 nb.length e3, .int .i64 st] 45)) := (Below.refl _ _).alloc (Nat.le_refl _) _
  have hz4 : (w3.alloc (.cells #[.slice A3 na.length c3, .slice D3 nb.length e3, .int .i64 st] 45)).heap.size = w3.heap.size + 1 := by simp
  have bx := Blk.new w3 45 #[.slice A3 na.length c3, .slice D3 nb.length e3, .int .i64 st]
  generalize (w3.alloc (.cells #[.slice A3 na.length c3, .slice D3 nb.length e3, .int .i64 st] 45)) = w4 at *
  have z4 := hb4.size
  have o1n := o1n.below hb4
  have o1d := o1d.below hb4
  have o3n := o3n.below hb4
  have o3d := o3d.below hb4
  have bW := bW.below' hb4
  have B4 := Below.trans B3 (Below.mono hb4 (by omega))
  clear hb4 B3
  have bG := bx
  clear bx
  refine (eqPool_any (.slice A3 na.length c3) (.slice D3 nb.length e3) (.slice A1 na.length c1) (.slice D1 nb.length e1) na nb na nb st st _ _ _ _ _ (OwI.rd (fun _ => rfl) o3n) (OwI.rd (fun _ => rfl) o3d) (OwI.rd (fun _ => rfl) o1n) (OwI.rd (fun _ => rfl) o1d)).mono ?_
  rintro e w5 ⟨rfl, hb5⟩
  have z5 := hb5.size
  have o1n := o1n.below hb5
  have o1d := o1d.below hb5
  have o3n := o3n.below hb5
  have o3d := o3d.below hb5
  have bW := bW.below' hb5
  have bG := bG.below' hb5
  have B5 := Below.trans B4 (Below.mono hb5 (by omega))
  clear hb5 B4
  have he5 : (decide (na = na) && decide (nb = nb) && st == st) = true := by simp
  rw [he5]
  clear he5
  have q_bW_0 : w5.cell? ⟨w1.heap.size, 0, none⟩ = some (.slice A1 na.length c1) := bW.cell 0
  have q_bW_1 : w5.cell? ⟨w1.heap.size, 1, none⟩ = some (.slice D1 nb.length e1) := bW.cell 1
  have q_bW_2 : w5.cell? ⟨w1.heap.size, 2, none⟩ = some (.int .i64 st) := bW.cell 2
  have q_bG_0 : w5.cell? ⟨w3.heap.size, 0, none⟩ = some (.slice A3 na.length c3) := bG.cell 0
  have q_bG_1 : w5.cell? ⟨w3.heap.size, 1, none⟩ = some (.slice D3 nb.length e3) := bG.cell 1
  have q_bG_2 : w5.cell? ⟨w3.heap.size, 2, none⟩ = some (.int .i64 st) := bG.cell 2
  go_wp2_with fail
  clear q_bW_0 q_bW_1 q_bW_2 q_bG_0 q_bG_1 q_bG_2
  refine (markPool_any (.slice A3 na.length c3) (.slice D3 nb.length e3) na nb st 1 _ _ _ _ o3n o3d (by omega) (by omega) (by omega) (by omega) (by omega) (by omega) (by omega)).mono ?_
  rintro e w6 ⟨rfl, m6n, m6d, hc6⟩
  clear o3n o3d
  have z6 := hc6.size
  have o1n := o1n.chg hc6 (by omega)
  have o1d := o1d.chg hc6 (by omega)
  have bW := hc6.blk bW (by omega)
  have bG := hc6.blk bG (by omega)
  have B6 := Chg.below B5 hc6 (by omega) (by omega)
  clear hc6 B5
  have q_bW_0 : w6.cell? ⟨w1.heap.size, 0, none⟩ = some (.slice A1 na.length c1) := bW.cell 0
  have q_bW_1 : w6.cell? ⟨w1.heap.size, 1, none⟩ = some (.slice D1 nb.length e1) := bW.cell 1
  have q_bW_2 : w6.cell? ⟨w1.heap.size, 2, none⟩ = some (.int .i64 st) := bW.cell 2
  have q_bG_0 : w6.cell? ⟨w3.heap.size, 0, none⟩ = some (.slice A3 na.length c3) := bG.cell 0
  have q_bG_1 : w6.cell? ⟨w3.heap.size, 1, none⟩ = some (.slice D3 nb.length e3) := bG.cell 1
  have q_bG_2 : w6.cell? ⟨w3.heap.size, 2, none⟩ = some (.int .i64 st) := bG.cell 2
  go_wp2_with fail
  clear q_bW_0 q_bW_1 q_bW_2 q_bG_0 q_bG_1 q_bG_2
  refine (heldPool_any (.slice A3 na.length c3) (.slice D3 nb.length e3) na.length nb.length st 1 _ _ _ (OwI.rd (fun _ => rfl) m6n) (OwI.rd (fun _ => rfl) m6d) (by omega) (by omega) (by omega) (by omega)).mono ?_
  rintro e w7 ⟨rfl, hb7⟩
  have z7 := hb7.size
  have o1n := o1n.below hb7
  have o1d := o1d.below hb7
  have m6n := m6n.below hb7
  have m6d := m6d.below hb7
  have bW := bW.below' hb7
  have bG := bG.below' hb7
  have B7 := Below.trans B6 (Below.mono hb7 (by omega))
  clear hb7 B6
  have q_bW_0 : w7.cell? ⟨w1.heap.size, 0, none⟩ = some (.slice A1 na.length c1) := bW.cell 0
  have q_bW_1 : w7.cell? ⟨w1.heap.size, 1, none⟩ = some (.slice D1 nb.length e1) := bW.cell 1
  have q_bW_2 : w7.cell? ⟨w1.heap.size, 2, none⟩ = some (.int .i64 st) := bW.cell 2
  have q_bG_0 : w7.cell? ⟨w3.heap.size, 0, none⟩ = some (.slice A3 na.length c3) := bG.cell 0
  have q_bG_1 : w7.cell? ⟨w3.heap.size, 1, none⟩ = some (.slice D3 nb.length e3) := bG.cell 1
  have q_bG_2 : w7.cell? ⟨w3.heap.size, 2, none⟩ = some (.int .i64 st) := bG.cell 2
  go_wp2_with fail
  clear q_bW_0 q_bW_1 q_bW_2 q_bG_0 q_bG_1 q_bG_2
  refine (HI.out _ (hE.on B7) (by omega)).mono ?_
  rintro e w8 ⟨xn8, xd8, Q8, rfl, o8n, o8d, hQ8, hq8, hb8⟩
  have z8 := hb8.size
  have o1n := o1n.below hb8
  have o1d := o1d.below hb8
  have m6n := m6n.below hb8
  have m6d := m6d.below hb8
  have bW := bW.below' hb8
  have bG := bG.below' hb8
  have B8 := Below.trans B7 (Below.mono hb8 (by omega))
  clear hb8 B7
  obtain ⟨A8, c8, rfl, _, _⟩ := o8n.form
  obtain ⟨D8, e8, rfl, _, _⟩ := o8d.form
  have q_bW_0 : w8.cell? ⟨w1.heap.size, 0, none⟩ = some (.slice A1 na.length c1) := bW.cell 0
  have q_bW_1 : w8.cell? ⟨w1.heap.size, 1, none⟩ = some (.slice D1 nb.length e1) := bW.cell 1
  have q_bW_2 : w8.cell? ⟨w1.heap.size, 2, none⟩ = some (.int .i64 st) := bW.cell 2
  have q_bG_0 : w8.cell? ⟨w3.heap.size, 0, none⟩ = some (.slice A3 na.length c3) := bG.cell 0
  have q_bG_1 : w8.cell? ⟨w3.heap.size, 1, none⟩ = some (.slice D3 nb.length e3) := bG.cell 1
  have q_bG_2 : w8.cell? ⟨w3.heap.size, 2, none⟩ = some (.int .i64 st) := bG.cell 2
  have qa_bW_0 : (w8.alloc (.cells #[.slice A8 na.length c8, .slice D8 nb.length e8, .int .i64 st] 45)).cell? ⟨w1.heap.size, 0, none⟩ = some (.slice A1 na.length c1) := (bW.alloc _).cell 0
  have qa_bW_1 : (w8.alloc (.cells #[.slice A8 na.length c8, .slice D8 nb.length e8, .int .i64 st] 45)).cell? ⟨w1.heap.size, 1, none⟩ = some (.slice D1 nb.length e1) := (bW.alloc _).cell 1
  have qa_bW_2 : (w8.alloc (.cells #[.slice A8 na.length c8, .slice D8 nb.length e8, .int .i64 st] 45)).cell? ⟨w1.heap.size, 2, none⟩ = some (.int .i64 st) := (bW.alloc _).cell 2
  have qa_bG_0 : (w8.alloc (.cells #[.slice A8 na.length c8, .slice D8 nb.length e8, .int .i64 st] 45)).cell? ⟨w3.heap.size, 0, none⟩ = some (.slice A3 na.length c3) := (bG.alloc _).cell 0
  have qa_bG_1 : (w8.alloc (.cells #[.slice A8 na.length c8, .slice D8 nb.length e8, .int .i64 st] 45)).cell? ⟨w3.heap.size, 1, none⟩ = some (.slice D3 nb.length e3) := (bG.alloc _).cell 1
  have qa_bG_2 : (w8.alloc (.cells #[.slice A8 na.length c8, .slice D8 nb.length e8, .int .i64 st] 45)).cell? ⟨w3.heap.size, 2, none⟩ = some (.int .i64 st) := (bG.alloc _).cell 2
  go_wp2_with fail
  clear q_bW_0 q_bW_1 q_bW_2 q_bG_0 q_bG_1 q_bG_2 qa_bW_0 qa_bW_1 qa_bW_2 qa_bG_0 qa_bG_1 qa_bG_2
  have hb9 : Below w8.heap.size w8 (w8.alloc (.cells #[.slice A8 na.length c8, .slice D8 nb.length e8, .int .i64 st] 45)) := (Below.refl _ _).alloc (Nat.le_refl _) _
  have hz9 : (w8.alloc (.cells #[.slice A8 na.length c8, .slice D8 nb.length e8, .int .i64 st] 45)).heap.size = w8.heap.size + 1 := by simp
  have bx := Blk.new w8 45 #[.slice A8 na.length c8, .slice D8 nb.length e8, .int .i64 st]
  generalize (w8.alloc (.cells #[.slice A8 na.length c8, .slice D8 nb.length e8, .int .i64 st] 45)) = w9 at *
  have z9 := hb9.size
  have o1n := o1n.below hb9
  have o1d := o1d.below hb9
  have m6n := m6n.below hb9
  have m6d := m6d.below hb9
  have o8n := o8n.below hb9
  have o8d := o8d.below hb9
  have bW := bW.below' hb9
  have bG := bG.below' hb9
  have B9 := Below.trans B8 (Below.mono hb9 (by omega))
  clear hb9 B8
  have bH := bx
  clear bx
  refine (eqPool_any (.slice A8 na.length c8) (.slice D8 nb.length e8) (.slice A1 na.length c1) (.slice D1 nb.length e1) na nb na nb st st _ _ _ _ _ (OwI.rd (fun _ => rfl) o8n) (OwI.rd (fun _ => rfl) o8d) (OwI.rd (fun _ => rfl) o1n) (OwI.rd (fun _ => rfl) o1d)).mono ?_
  rintro e w10 ⟨rfl, hb10⟩
  have z10 := hb10.size
  have o1n := o1n.below hb10
  have o1d := o1d.below hb10
  have m6n := m6n.below hb10
  have m6d := m6d.below hb10
  have o8n := o8n.below hb10
  have o8d := o8d.below hb10
  have bW := bW.below' hb10
  have bG := bG.below' hb10
  have bH := bH.below' hb10
  have B10 := Below.trans B9 (Below.mono hb10 (by omega))
  clear hb10 B9
  have he10 : (decide (na = na) && decide (nb = nb) && st == st) = true := by simp
  rw [he10]
  clear he10
  have q_bW_0 : w10.cell? ⟨w1.heap.size, 0, none⟩ = some (.slice A1 na.length c1) := bW.cell 0
  have q_bW_1 : w10.cell? ⟨w1.heap.size, 1, none⟩ = some (.slice D1 nb.length e1) := bW.cell 1
  have q_bW_2 : w10.cell? ⟨w1.heap.size, 2, none⟩ = some (.int .i64 st) := bW.cell 2
  have q_bG_0 : w10.cell? ⟨w3.heap.size, 0, none⟩ = some (.slice A3 na.length c3) := bG.cell 0
  have q_bG_1 : w10.cell? ⟨w3.heap.size, 1, none⟩ = some (.slice D3 nb.length e3) := bG.cell 1
  have q_bG_2 : w10.cell? ⟨w3.heap.size, 2, none⟩ = some (.int .i64 st) := bG.cell 2
  have q_bH_0 : w10.cell? ⟨w8.heap.size, 0, none⟩ = some (.slice A8 na.length c8) := bH.cell 0
  have q_bH_1 : w10.cell? ⟨w8.heap.size, 1, none⟩ = some (.slice D8 nb.length e8) := bH.cell 1
  have q_bH_2 : w10.cell? ⟨w8.heap.size, 2, none⟩ = some (.int .i64 st) := bH.cell 2
  go_wp2_with fail
  clear q_bW_0 q_bW_1 q_bW_2 q_bG_0 q_bG_1 q_bG_2 q_bH_0 q_bH_1 q_bH_2
  refine (heldPool_any (.slice A3 na.length c3) (.slice D3 nb.length e3) na.length nb.length st 1 _ _ _ (OwI.rd (fun _ => rfl) m6n) (OwI.rd (fun _ => rfl) m6d) (by omega) (by omega) (by omega) (by omega)).mono ?_
  rintro e w11 ⟨rfl, hb11⟩
  have z11 := hb11.size
  have o1n := o1n.below hb11
  have o1d := o1d.below hb11
  have m6n := m6n.below hb11
  have m6d := m6d.below hb11
  have o8n := o8n.below hb11
  have o8d := o8d.below hb11
  have bW := bW.below' hb11
  have bG := bG.below' hb11
  have bH := bH.below' hb11
  have B11 := Below.trans B10 (Below.mono hb11 (by omega))
  clear hb11 B10
  have q_bW_0 : w11.cell? ⟨w1.heap.size, 0, none⟩ = some (.slice A1 na.length c1) := bW.cell 0
  have q_bW_1 : w11.cell? ⟨w1.heap.size, 1, none⟩ = some (.slice D1 nb.length e1) := bW.cell 1
  have q_bW_2 : w11.cell? ⟨w1.heap.size, 2, none⟩ = some (.int .i64 st) := bW.cell 2
  have q_bG_0 : w11.cell? ⟨w3.heap.size, 0, none⟩ = some (.slice A3 na.length c3) := bG.cell 0
  have q_bG_1 : w11.cell? ⟨w3.heap.size, 1, none⟩ = some (.slice D3 nb.length e3) := bG.cell 1
  have q_bG_2 : w11.cell? ⟨w3.heap.size, 2, none⟩ = some (.int .i64 st) := bG.cell 2
  have q_bH_0 : w11.cell? ⟨w8.heap.size, 0, none⟩ = some (.slice A8 na.length c8) := bH.cell 0
  have q_bH_1 : w11.cell? ⟨w8.heap.size, 1, none⟩ = some (.slice D8 nb.length e8) := bH.cell 1
  have q_bH_2 : w11.cell? ⟨w8.heap.size, 2, none⟩ = some (.int .i64 st) := bH.cell 2
  go_wp2_with fail
  clear q_bW_0 q_bW_1 q_bW_2 q_bG_0 q_bG_1 q_bG_2 q_bH_0 q_bH_1 q_bH_2
  go_ret
  exact ⟨rfl, B11⟩

theorem walk (v0 : Value) (w : World) (g0 : ∃ s : ByteArray, v0 = .string s) (hE : Env w.heap.size w) :
    Calls Tryd.prog 7 #[v0] w fun e w' => e = .returned (.bool true) ∧ Below w.heap.size w w' := by
  obtain ⟨s, rfl⟩ := g0
  exact walkL s w hE

set_option maxRecDepth 100000 in
theorem lifted (os : Os) (started : os.Started) (H : Type) (enc : TypeId × Value → H) :
    ReturnsInHanded {} Tryd.checked os 7 .any (fun w args => (Rows.fnExactReadPoolSpec.pre enc Tryd.prog Tryd.f7 [] false w args ∧ laidMetH Tryd.prog laid7 w) ∧ sizedMet enc Tryd.prog Tryd.f7 (OpenSpec.ofChange Rows.fnExactReadPoolSpec) false w args)
      (Rows.fnExactReadPoolSpec.post enc Tryd.prog Tryd.f7 false true false false) := by
  refine handed_and_shaped (C := Tryd.checked) (X := fun w _ => laidMetH Tryd.prog laid7 w) (fun _ _ _ hh h => metH7.2 ((metH7.1 h).of_heap hh)) own started (by kernel_rfl) Tryd.func7
    (ChangeSpec.witness_shaped (enc := enc) (C := Tryd.checked) (os := os) (X := fun w _ => laidMetH Tryd.prog laid7 w) false (World.laidAll Tryd.prog os laid7) #[.string ⟨#[]⟩] 8 (World.laidAll_os _ _ _) (World.shaped_of_ZipB (by kernel_rfl) (by kernel_rfl)) (by kernel_rfl) (by kernel_rfl) (by kernel_rfl) (metH7.2 (laidMet_laidAll _ (by kernel_rfl) (by kernel_rfl)))) ?_
  intro W base args ds gs before hval0 hW hL hSh
  have hval : ∀ (j : Nat) t v, Tryd.f7.params[j]? = some t → args[j]? = some v → Value.okWide Tryd.prog W .any base t v := hval0
  have hW' := hW
  obtain ⟨p, q, hA0, hV, rfl, hfz, hnd⟩ := hW
  have hA : DataW.TrodAll enc Tryd.prog W 0 (fun _ => true) true Tryd.f7.params.toList args.toList ds p := hA0
  rw [Tryd.params7] at hA hval
  obtain ⟨v0, vs0, d0, ds0, p0, q0, hargs, rfl, rfl, h0, r0⟩ := trodAll_cons hA
  obtain ⟨rfl, rfl, rfl⟩ := trodAll_nil r0
  obtain rfl : args = #[v0] := by cases args; simp_all
  obtain ⟨rfl, rfl⟩ := trodVars_none hV
  have lt0 : ∀ x ∈ p0, x.block < W.heap.size := by obtain ⟨m, hm⟩ := h0; exact DataW.trod_lt m _ _ _ hm
  have g0 := open_StringS (hval 0 9 v0 rfl rfl) h0
  clear hA0 hval0
  refine (walk v0 W g0 (env_of7 (metH7.1 hL) hSh)).mono fun e W' ⟨he, bel⟩ => ?_
  subst he
  exact ⟨_, rfl, _, _, _, [], _, [], hW', trodAll_mk1 (shut_bool Tryd.underlying4 _), (trodAll_cons_mk (Below.trod laidOut (by kernel_rfl) (of_decide_eq_true (by kernel_rfl)) h0 bel lt0) trodAll_mk0), rfl, bel.frame _, fun h => by cases h⟩

theorem over : Rows.FnExactReadPoolSaid :=
  OpenClaim.holds_of_wide 7 Tryd.f7 rfl rfl rfl rfl rfl rfl rfl ⟨rfl, rfl, rfl, rfl, rfl⟩ rfl rfl rfl rfl rfl (by kernel_rfl) Tryd.func7 (by kernel_rfl)
    (of_decide_eq_true (by kernel_rfl)) (by unfold Func.isWrapper; first | (rw [if_pos (by decide +kernel)]; kernel_rfl) | (rw [if_neg (by decide +kernel)]; exact ⟨rfl, rfl⟩))
    (fun os started H enc _ => lifted os started H enc)

theorem proved : Rows.FnExactReadPoolCardSaid :=
  Claim7.holds_tied_plain_at .later [] [.data, .data, .data, .data, .sentinel, .sentinel, .pinned] true (true, "fa16d4e35b260b6db7993b93d24e7b3ee395b0c5e7c77deb20eceee070298250") true
    over (fun _ h => by cases h) (by kernel_rfl) (fun _ h => by cases h) fnExactReadPool_row_tie rfl ⟨rfl, rfl⟩ (by kernel_rfl) rfl
    (fun f fn hf hfn => by
      obtain rfl : f = 7 := Option.some.inj ((show Tryd.prog.funcNamed "loop.example/g01027/laws.FnExactReadPool" = some 7 by kernel_rfl).symm.trans hf) |>.symm
      obtain rfl : fn = Tryd.f7 := (Option.some.inj (Tryd.func7.symm.trans hfn)).symm
      exact ⟨by kernel_rfl, fun j t ht => by
        rw [Tryd.params7] at ht
        rcases j with _ | j
        · obtain rfl : t = 9 := by simpa using ht.symm
          exact (show Tryd.prog.wantsStandIn 9 = false by kernel_rfl)
        · simp at ht⟩)
    (by kernel_rfl)
#print axioms proved
end Go.Proofs.YtodfkbgifoecbaaDoor.lawFnExactReadPool

