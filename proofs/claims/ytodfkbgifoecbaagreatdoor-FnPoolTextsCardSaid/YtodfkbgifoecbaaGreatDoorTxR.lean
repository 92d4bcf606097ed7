/- Lists and sheets read from texts: the reference's functions. What they ask: a text of bounded size. -/
import Derived.Test.YtodfkbgifoecbaaGreatDoorTxO
namespace Go.Proofs.YtodfkbgifoecbaaGreatDoor
open Go.RowKit
open Go.Lib hiding intOf
attribute [local go_sem ↓] Go.wp_at_zero Go.wp_at_succ

theorem sgF_as {s : ByteArray} {r : Int} {b : Bool} (h : sgF s.data.toList = (r, b)) (w : World) (hs : s.size ≤ 1048576) :
    Calls Tryz.prog 62 #[.string s] w fun e w' => e = .returned (.tuple #[.int .i64 r, .bool b]) ∧ Below w.heap.size w w' := by
  have := l01Signed_any s w hs
  rw [h] at this
  exact this
/-- What the loop over the words gives. -/
def nmF (xs : List ByteArray) : List Int × Bool := match rdAll sgF (xs.map (·.data.toList)) with
  | some zs => (zs, true)
  | none => ([], false)
set_option maxRecDepth 100000 in
set_option maxHeartbeats 4000000 in
theorem l01Numbers_any (v : Value) (xs : List ByteArray) (w : World) (lo : Nat) (h : SlS w lo w.heap.size v xs) (hl : xs.length ≤ 1048577) (hx : ∀ x ∈ xs, x.size ≤ 1048576) :
    Calls Tryz.prog 45 #[v] w fun e w' => ∃ u, e = .returned (.tuple #[u, .bool (nmF xs).2]) ∧ OwnR i64s 1 w' w.heap.size 2 u (nmF xs).1 ∧ Below w.heap.size w w' := by
  obtain ⟨A, c, rfl, _, _⟩ := h.form
  have HX := Lib.hid hx
  clear hx
  go_enter Tryz.func45, Tryz.ntmps45
  go_wp2_with fail
  go_loopw [4, 5] (fun q i wr => ∃ (k : Nat) (zs : List Int), i = .int .i64 k ∧ k ≤ xs.length ∧ Hid (rdAll sgF (xs.map (·.data.toList)) = (rdAll sgF ((xs.drop k).map (·.data.toList))).map (zs ++ ·)) ∧ zs.length = k ∧ OwnR i64s 1 wr w.heap.size 2 q zs ∧ Below w.heap.size w wr) (fun q i wr => xs.length - (RowKit.intOf i).toNat)
  case atStart => exact ⟨0, [], rfl, Nat.zero_le _, Lib.hid (by rw [List.drop_zero]; simp), rfl, own_empty w _ 1 i64s, (Below.refl _ _).alloc (Nat.le_refl _) _⟩
  case round =>
    obtain ⟨k, zs, rfl, hk, HZ, hzl, hown, hbr⟩ := hrel
    have hsz := hbr.size
    by_cases hlt : k < xs.length
    · obtain ⟨x, hx⟩ := some_at hlt
      have hxs := HX.out x (List.mem_of_getElem? hx)
      have HD := Lib.hid (drop_cons hx)
      obtain ⟨b, off, rfl, _, hbb, c0⟩ := str_at (h.below hbr (Nat.le_refl _)) hx
      clear hx
      obtain ⟨r, hr⟩ : ∃ r, (sgF x.data.toList).1 = r := ⟨_, rfl⟩
      cases hok : (sgF x.data.toList).2
      · have hp : sgF x.data.toList = (r, false) := by rw [← hr, ← hok]
        have C := sgF_as hp wr hxs
        have HF := Lib.hid (show nmF xs = ([], false) by
          rw [nmF, HZ.out, HD.out, List.map_cons, rdAll, if_neg (by rw [hok]; decide)]; rfl)
        clear hr hok hp
        go_wp2_with fail
        refine C.mono ?_
        clear C
        rintro e w3 ⟨rfl, hb3⟩
        go_wp2_with fail
        go_ret2
        exact ⟨.slice none 0 0, by rw [HF.out]; rfl, by rw [HF.out]; exact own_nil _ _ _ _ _, hbr.trans (hb3.mono hsz)⟩
      · have hp : sgF x.data.toList = (r, true) := by rw [← hr, ← hok]
        have C := sgF_as hp wr hxs
        have HF := Lib.hid (show rdAll sgF (xs.map (·.data.toList)) = (rdAll sgF ((xs.drop (k + 1)).map (·.data.toList))).map ((zs ++ [r]) ++ ·) by
          rw [HZ.out, HD.out, List.map_cons, rdAll, if_pos hok, hr, Option.map_map]
          congr 1
          funext l
          simp)
        clear hr hok hp
        go_wp2_with fail
        refine C.mono ?_
        clear C
        rintro e w3 ⟨rfl, hb3⟩
        have hown3 := hown.below hb3
        have hbr3 := hbr.trans (hb3.mono hbr.size)
        have hs3 := hb3.size
        clear hown c0
        go_wp2_with (at_builtin; refine wpList_append_rec (f := i64s) (s := 1) 2 _ _ (fun _ => rfl) i64s_one rfl _ _ 24 rfl w.heap.size Tryz.infoI Tryz.underlying24 rfl (by decide) _ _ r rfl hown3 rfl rfl rfl (by omega) (by omega) (by omega) ?_)
        intro v' w4 o4 hb4
        have hb4 := hb4 _ _ hbr3 (Nat.le_refl _)
        go_wp2_with fail
        go_roundw
        case rel => exact ⟨k + 1, zs ++ [r], by go_num, hlt, HF, by rw [List.length_append, hzl]; rfl, o4, hb4⟩
        case measure => simp [RowKit.intOf]; omega
    · have hkn : k = xs.length := by omega
      clear hzl
      subst hkn
      have HR := Lib.hid (show nmF xs = (zs, true) by rw [nmF, HZ.out, List.drop_length]; simp [rdAll])
      obtain ⟨A', c', e', _, _⟩ := (own_slR (f := i64s) (s := 1) (fun _ => rfl) (OwnR.own hown)).form
      subst e'
      go_wp2_with fail
      go_ret2
      exact ⟨_, by rw [HR.out]; rfl, by rw [HR.out]; exact hown, hbr⟩
end Go.Proofs.YtodfkbgifoecbaaGreatDoor
