/- Small helpers of the laws that draw their inputs: a code that is too long, lists that are alike, the reading of the code. No condition. -/
import Derived.Test.YtkhojhgcopnenaaDrawA
import Derived.Test.YtkhojhgcopnenaaFrame
namespace Go.Proofs.Ytkhojhgcopnenaa
open Go.ChangeShapes Go.WideShapes Go.ChangeAt Go.RowKit

theorem big_any (v : Value) (bs : List Int) (w : World) (lo hi : Nat) (h : SlR u8s 1 w lo hi v bs) :
    Calls Try.prog 35 #[v] w fun e w' => e = .returned (.bool (decide (4096 < bs.length))) ∧ w = w' := by
  obtain ⟨A, c, rfl, hc1, hc2⟩ := h.form
  go_enter Try.func35, Try.ntmps35
  go_wp2_with fail
  go_ret
  exact ⟨ret_bool (by rw [Bool.eq_iff_iff]; simp; omega), rfl⟩

set_option maxHeartbeats 400000 in
theorem likeInts_same (u v : Value) (xs : List Int) (w : World) (lo lo' : Nat) (ha : SlI w lo w.heap.size u xs) (hb : SlI w lo' w.heap.size v xs) :
    Calls Try.prog 44 #[u, v] w fun e w' => e = .returned (.bool true) ∧ Below w.heap.size w w' := by
  obtain ⟨A, c, rfl, hc1, hc2⟩ := ha.form
  obtain ⟨A', c', rfl, hc1', hc2'⟩ := hb.form
  go_enter Try.func44, Try.ntmps44
  go_wp2_with fail
  go_loopw [5] (fun i wr => ∃ (k : Nat), i = .int .i64 k ∧ k ≤ xs.length ∧ Below w.heap.size w wr) (fun i wr => xs.length - (intOf i).toNat)
  case atStart => exact ⟨0, rfl, Nat.zero_le _, Below.refl _ _⟩
  case round =>
    obtain ⟨k, rfl, hk, hbr⟩ := hrel
    by_cases hlt : k < xs.length
    · obtain ⟨x, hx⟩ := some_at hlt
      obtain ⟨b, off, rfl, _, hbb, c0⟩ := ((ha.below hbr (Nat.le_refl _)).more (Nat.le_refl _) hbr.size).int_at hx
      obtain ⟨b', off', rfl, _, hbb', d0⟩ := ((hb.below hbr (Nat.le_refl _)).more (Nat.le_refl _) hbr.size).int_at hx
      clear hx
      go_wp2_with fail
      refine wp_region_ext (by kernel_rfl) (by kernel_rfl) ?_
      repeat (go_big_quiet_step (fail))
      refine wpQuiet_nil ?_
      intro w2 hb2
      go_wp2_with fail
      go_roundw
      case rel => exact ⟨k + 1, by go_num, hlt, hbr.trans (hb2.mono hbr.size)⟩
      case measure => simp [intOf]; omega
    · go_wp2_with fail
      go_ret
      exact ⟨rfl, hbr⟩


theorem cells_u8 : Try.prog.cellsOf 5 = 1 := by kernel_rfl
set_option maxRecDepth 100000 in
theorem open_ByteS {H : Type} {enc : TypeId × Value → H} {w : World} {base : Nat} {v : Value} {d : DataW H} {p : List MemPlace} (hv : Value.okWide Try.prog w .any base 63 v) (h : DataW.Trod enc Try.prog w 0 (fun _ => true) true 63 v d p) :
    ∃ zs : List Int, SlR u8s 1 w 0 w.heap.size v zs ∧ ∀ b ∈ zs, 0 ≤ b ∧ b ≤ 255 := by
  obtain ⟨A, n, c, rfl⟩ := okWide_slice Try.underlying63 hv
  obtain ⟨fuel, hf⟩ := h
  exact open_slR (f := u8s) (s := 1) (fun _ => rfl) (by decide) (G := fun b => 0 ≤ b ∧ b ≤ 255) Try.underlying63 cells_u8 hf fun _ _ _ hy => by
    obtain ⟨a, h1, _, h2⟩ := DataW.trod_int Try.underlying5 hy
    refine ⟨a, h1, ?_⟩
    have h2 : (decide ((0 : Int) ≤ a) && decide (a ≤ 255)) = true := h2
    simpa using h2
end Go.Proofs.Ytkhojhgcopnenaa
