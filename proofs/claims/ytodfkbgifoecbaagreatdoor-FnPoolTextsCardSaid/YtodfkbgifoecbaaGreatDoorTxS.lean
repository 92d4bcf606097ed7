/- Lists and sheets read from texts: the reference's functions. What they ask: a text of bounded size. -/
import Derived.Test.YtodfkbgifoecbaaGreatDoorTxR
namespace Go.Proofs.YtodfkbgifoecbaaGreatDoor
open Go.RowKit
open Go.Lib hiding intOf
attribute [local go_sem ↓] Go.wp_at_zero Go.wp_at_succ

set_option maxRecDepth 100000 in
set_option maxHeartbeats 4000000 in
theorem specReadList_any (s : ByteArray) (w : World) (hs : s.size ≤ 1048576) :
    Calls Tryz.prog 26 #[.string s] w fun e w' => ∃ v, e = .returned (.tuple #[v, .int .i64 (rlF sgF s.data.toList).2]) ∧ OwnR i64s 1 w' w.heap.size 2 v (rlF sgF s.data.toList).1 ∧ Below w.heap.size w w' := by
  by_cases h0 : s = str [45]
  · subst h0
    have E := Lib.hid (show rlF sgF (str [45]).data.toList = ([], 0) by rfl)
    have h2 : ((str [45]).toList == [45]) = true := by rw [ByteArray.toList_eq]; rfl
    generalize str [45] = s at *
    go_enter Tryz.func26, Tryz.ntmps26
    go_wp2_with fail
    go_ret2
    exact ⟨_, by rw [E.out]; rfl, by rw [E.out]; exact own_empty w _ 1 i64s, (Below.refl _ _).alloc (Nat.le_refl _) _⟩
  have h2 : (s.toList == [45]) = false := by
    rw [ByteArray.toList_eq, beq_eq_false_iff_ne]
    intro e
    exact h0 ((str_eq _ _).2 e.symm).symm
  have HN := Lib.hid (show ¬ s.data.toList = [45] from fun e => h0 ((str_eq _ _).2 e.symm).symm)
  clear h0
  have CS := l01Split_any s 44 w hs
  rw [show (((44 : UInt8).toNat : Nat) : Int) = 44 from rfl] at CS
  go_enter Tryz.func26, Tryz.ntmps26
  go_wp2_with fail
  refine CS.mono ?_
  clear CS
  rintro e w2 ⟨v, xs, rfl, o2, HX, hb2⟩
  have hsz := splitL_size 44 s.data.toList
  rw [← HX.out, List.length_map, size_data] at hsz
  have C2 := l01Numbers_any v xs w2 _ (own_slR (f := strs) (s := 1) (fun _ => rfl) (OwnR.own o2)) (by omega) (fun x hx => by have := hsz.2 _ (List.mem_map_of_mem hx); rw [size_data] at this; omega)
  have z2 := hb2.size
  have HV := Lib.hid (show nmF xs = match rdAll sgF (splitL 44 s.data.toList) with
    | some zs => (zs, true)
    | none => ([], false) by rw [nmF, HX.out]; rfl)
  clear hsz o2
  cases hr : rdAll sgF (splitL 44 s.data.toList) with
  | none =>
    have HA := HV.out
    rw [hr] at HA
    rw [HA] at C2
    have HF := Lib.hid (show rlF sgF s.data.toList = ([], 6) by rw [rlF, readL, if_neg HN.out, hr])
    clear HA HV hr HX
    go_wp2_with fail
    refine C2.mono ?_
    clear C2
    rintro e w3 ⟨u, rfl, o3, hb3⟩
    have hB3 := hb2.trans (hb3.mono z2)
    clear o3
    go_wp2_with fail
    go_ret2
    exact ⟨.slice none 0 0, by rw [HF.out]; rfl, by rw [HF.out]; exact own_nil _ _ _ _ _, hB3⟩
  | some zs =>
    have HA := HV.out
    rw [hr] at HA
    rw [HA] at C2
    have HF := Lib.hid (show rlF sgF s.data.toList = if okL zs = true then (zs, 0) else ([], 6) by rw [rlF, readL, if_neg HN.out, hr]; cases hk : okL zs <;> simp [hk])
    clear HA HV hr HX
    go_wp2_with fail
    refine C2.mono ?_
    clear C2
    rintro e w3 ⟨u, rfl, o3, hb3⟩
    have hB3 := hb2.trans (hb3.mono z2)
    have hsl := own_slR (f := i64s) (s := 1) (fun _ => rfl) (OwnR.own o3)
    have C3 := l01Values_any u zs w3 _ _ hsl
    obtain ⟨A', c', e', _, _⟩ := hsl.form
    subst e'
    cases hok : okL zs
    · have hne : (codeL zs == 0) = false := by rw [beq_eq_false_iff_ne]; exact codeL_no hok
      have HG := Lib.hid (show rlF sgF s.data.toList = ([], 6) by rw [HF.out, hok]; rfl)
      generalize codeL zs = cc at *
      clear hok HF o3
      go_wp2_with (go_at_call 46; refine C3.mono ?_; rintro e w4 ⟨rfl, rfl⟩)
      go_ret2
      exact ⟨.slice none 0 0, by rw [HG.out]; rfl, by rw [HG.out]; exact own_nil _ _ _ _ _, hB3⟩
    · have HG := Lib.hid (show rlF sgF s.data.toList = (zs, 0) by rw [HF.out, hok]; rfl)
      rw [codeL_ok hok] at C3
      clear hok HF
      go_wp2_with (go_at_call 46; refine C3.mono ?_; rintro e w4 ⟨rfl, rfl⟩)
      go_ret2
      exact ⟨_, by rw [HG.out]; rfl, by rw [HG.out]; exact OwnR.more o3 z2, hB3⟩
end Go.Proofs.YtodfkbgifoecbaaGreatDoor
