/- What is left of a pool: contracts of the program's and the reference's; LeftOf. No condition but the sizes that the law itself asks. -/
import Derived.Test.YtodfkbgifoecbaaGreatDoorPoolA
import Derived.Test.YtodfkbgifoecbaaGreatDoorIns
namespace Go.Proofs.YtodfkbgifoecbaaGreatDoor
open Go.RowKit
attribute [local go_sem ↓] Go.wp_at_zero Go.wp_at_succ

def leftF (p : P3) : List Int := p.nums.filter fun x => !hasB x p.drawn
theorem leftF_len (p : P3) : (leftF p).length ≤ p.nums.length := List.length_filter_le _ _
set_option maxRecDepth 100000 in
set_option maxHeartbeats 2000000 in
theorem l08Left_any (vn vd : Value) (p : P3) (w : World) (lo lo' : Nat) (hn : SlI w lo w.heap.size vn p.nums) (hd : SlI w lo' w.heap.size vd p.drawn) (hl : p.nums.length ≤ 2097152) :
    Calls Tryz.prog 72 #[.agg #[vn, vd, .int .i64 p.st]] w fun e w' => ∃ v', e = .returned v' ∧ OwnR i64s 1 w' w.heap.size 2 v' (leftF p) ∧ Below w.heap.size w w' := by
  obtain ⟨nums, drawn, st⟩ := p
  dsimp only at hn hd hl ⊢
  obtain ⟨A, c, rfl, hc1, hc2⟩ := hn.form
  obtain ⟨A', c', rfl, hc1', hc2'⟩ := hd.form
  go_enter Tryz.func72, Tryz.ntmps72
  go_wp2_with fail
  have b1 := Blk.new w 26 #[.slice A nums.length c, .slice A' drawn.length c', .int .i64 st]
  have hB1 : Below w.heap.size w (w.alloc (.cells #[.slice A nums.length c, .slice A' drawn.length c', .int .i64 st] 26)) := (Below.refl _ _).alloc (Nat.le_refl _) _
  have hn1 := hn.below hB1 (Nat.le_refl _)
  have hd1 := hd.below hB1 (Nat.le_refl _)
  have hz : (w.alloc (.cells #[.slice A nums.length c, .slice A' drawn.length c', .int .i64 st] 26)).heap.size = w.heap.size + 1 := by simp
  generalize w.alloc (.cells #[.slice A nums.length c, .slice A' drawn.length c', .int .i64 st] 26) = w1 at *
  have z1 := hB1.size
  have q1 := b1.lt
  have HZ := Lib.hid hz
  clear hz
  go_loopw [3, 4] (fun q i wr => ∃ (k : Nat), i = .int .i64 k ∧ k ≤ nums.length ∧ OwnR i64s 1 wr w1.heap.size 2 q ((nums.take k).filter fun x => !hasB x drawn) ∧ Below w1.heap.size w1 wr) (fun q i wr => nums.length - (intOf i).toNat)
  case atStart => exact ⟨0, rfl, Nat.zero_le _, by have := own_empty w1 2 1 i64s; rw [HZ.out] at this; rw [HZ.out]; exact this, (Below.refl _ _).alloc (Nat.le_refl _) _⟩
  case round =>
    obtain ⟨k, rfl, hk, hown, hbr⟩ := hrel
    have zr := hbr.size
    have br := b1.below' hbr
    have a0 : wr.cell? ⟨w.heap.size, 0, none⟩ = some (.slice A nums.length c) := br.cell 0
    have a1 : wr.cell? ⟨w.heap.size, 1, none⟩ = some (.slice A' drawn.length c') := br.cell 1
    have q2 : w.heap.size < wr.heap.size := by omega
    by_cases hlt : k < nums.length
    · obtain ⟨x, hx⟩ := some_at hlt
      have hnr := (hn1.below hbr z1).more (hi' := wr.heap.size) (Nat.le_refl _) (by omega)
      have hdr := hd1.below hbr z1
      obtain ⟨b, off, rfl, _, hb, c0⟩ := hnr.int_at hx
      have hfl : ((nums.take k).filter fun x => !hasB x drawn).length ≤ k := by
        have := List.length_filter_le (fun x => !hasB x drawn) (nums.take k)
        rw [List.length_take] at this; omega
      have hstep : (nums.take (k + 1)).filter (fun x => !hasB x drawn) = (nums.take k).filter (fun x => !hasB x drawn) ++ if hasB x drawn = true then [] else [x] := by
        rw [take_snoc hx, List.filter_append]
        cases e : hasB x drawn <;> simp [e]
      have Hstep := Lib.hid hstep
      have Hx := Lib.hid hx
      clear hx hstep
      cases e1 : hasB x drawn
      all_goals
        go_wp2_with fail
        refine wp_region_ext (by kernel_rfl) (by kernel_rfl) ?_
        repeat (go_big_quiet_step ((go_at_call 37; exact calls_ext_same (l01Has_as e1 (SlR.ext hdr (by omega) _)))))
        refine wpQuiet_nil ?_
        intro w2 hb2
        have hb2' : Below wr.heap.size wr w2 := by simpa using hb2
        have hB2 := hbr.trans (hb2'.mono zr)
        have z2 := hB2.size
        have hown2 := hown.below hb2'
        obtain ⟨b2, off2, ee, _, hb2'', d0⟩ := ((hn1.below hB2 z1).more (hi' := w2.heap.size) (Nat.le_refl _) (by omega)).int_at Hx.out
        injection ee with ee
        injection ee with ee1 ee2
        subst ee1 ee2
        have a0' : w2.cell? ⟨w.heap.size, 0, none⟩ = some (.slice (some ⟨b, off, none⟩) nums.length c) := (b1.below' hB2).cell 0
      · have z3 : w1.heap.size ≤ w2.heap.size := z2
        go_wp2_with (at_builtin; refine wpList_append_rec (f := i64s) (s := 1) 2 _ _ (fun _ => rfl) i64s_one rfl _ _ 24 rfl w1.heap.size Tryz.infoI Tryz.underlying24 rfl (by decide) _ _ x rfl hown2 rfl rfl rfl (by omega) (by omega) z3 ?_)
        intro v' w' hown' hbel
        go_wp2_with fail
        go_roundw
        case rel => exact ⟨k + 1, by go_num, hlt, by rw [Hstep.out, e1]; exact hown', hbel _ _ hB2 (Nat.le_refl _)⟩
        case measure => simp [intOf]; omega
      · go_wp2_with fail
        go_roundw
        case rel => exact ⟨k + 1, by go_num, hlt, by rw [Hstep.out, e1]; simpa using hown2, hB2⟩
        case measure => simp [intOf]; omega
    · have hkn : k = nums.length := by omega
      subst hkn
      rw [List.take_length] at hown
      go_wp2_with fail
      go_ret
      exact ⟨_, rfl, hown.more z1, hB1.trans (hbr.mono z1)⟩
end Go.Proofs.YtodfkbgifoecbaaGreatDoor
