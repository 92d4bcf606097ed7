/- Sheets read from texts: the reference's function. What it asks: a text of bounded size. -/
import Derived.Test.YtodfkbgifoecbaaDoorTxS
namespace Go.Proofs.YtodfkbgifoecbaaDoor
open Go.RowKit
open Go.Lib hiding intOf
attribute [local go_sem ↓] Go.wp_at_zero Go.wp_at_succ

theorem specRH_len {l : List UInt8} (h : (splitL 61 l).length ≠ 2) : specRH l = ((0, []), 6) := by
  rw [specRH]
  split
  · next e => rw [e] at h; exact absurd rfl h
  · rfl
theorem specRH_no1 {l a b : List UInt8} (hs : splitL 61 l = [a, b]) (h : (valF a).2 = false) : specRH l = ((0, []), 6) := by
  simp [specRH, hs, h]
theorem specRH_no2 {l a b : List UInt8} (hs : splitL 61 l = [a, b]) (h : (rlF sgF b).2 ≠ 0) : specRH l = ((0, []), 6) := by
  simp only [specRH, hs]
  split
  · cases hr : readL sgF b with
    | none => rfl
    | some zs => rw [rlF, hr] at h; exact absurd rfl h
  · rfl
theorem specRH_yes {l a b : List UInt8} (hs : splitL 61 l = [a, b]) (h : (valF a).2 = true) (h2 : (rlF sgF b).2 = 0) : specRH l = if okH (valF a).1 (rlF sgF b).1 = true then (((valF a).1, (rlF sgF b).1), 0) else ((0, []), 6) := by
  simp only [specRH, hs]
  rw [if_pos h]
  cases hr : readL sgF b with
  | none => rw [rlF, hr] at h2; exact absurd h2 (by decide)
  | some zs => simp [rlF, hr]
set_option maxRecDepth 100000 in
set_option maxHeartbeats 4000000 in
theorem specReadSheet_any (s : ByteArray) (w : World) (hs : s.size ≤ 1048576) :
    Calls Tryd.prog 13 #[.string s] w fun e w' => ∃ v, e = .returned (.tuple #[.agg #[.int .i64 (specRH s.data.toList).1.1, v], .int .i64 (specRH s.data.toList).2]) ∧ OwnR i64s 1 w' w.heap.size 2 v (specRH s.data.toList).1.2 ∧ Below w.heap.size w w' := by
  have bR := Blk.new w 28 #[.int .i64 0, .slice none 0 0]
  have hB1 : Below w.heap.size w (w.alloc (.cells #[.int .i64 0, .slice none 0 0] 28)) := (Below.refl _ _).alloc (Nat.le_refl _) _
  have CS := l01Split_any s 61 (w.alloc (.cells #[.int .i64 0, .slice none 0 0] 28)) hs
  rw [show (((61 : UInt8).toNat : Nat) : Int) = 61 from rfl] at CS
  go_enter Tryd.func13, Tryd.ntmps13
  go_wp2_with fail
  generalize (w.alloc (.cells #[.int .i64 0, .slice none 0 0] 28)) = w1 at *
  refine CS.mono ?_
  clear CS
  rintro e w2 ⟨v, xs, rfl, o2, HX, hb2⟩
  have hB2 := hB1.trans (hb2.mono hB1.size)
  have bR2 := bR.below' hb2
  have hsl := own_slR (f := strs) (s := 1) (fun _ => rfl) (OwnR.own o2)
  obtain ⟨A, c, e', hc1, hc2⟩ := hsl.form
  subst e'
  have hsz := splitL_size 61 s.data.toList
  rw [← HX.out] at hsz
  have HZ := Lib.hid hsz.2
  clear hsz hb2 bR o2
  by_cases hlen : xs.length = 2
  case neg =>
    have hd : ((xs.length : Int) == 2) = false := by rw [beq_eq_false_iff_ne]; omega
    have HF := Lib.hid (show specRH s.data.toList = ((0, []), 6) from specRH_len (by rw [← HX.out, List.length_map]; exact hlen))
    have c0 : w2.cell? ⟨w.heap.size, 0, none⟩ = some (.int .i64 0) := bR2.cell 0
    have c1 : w2.cell? ⟨w.heap.size, 1, none⟩ = some (.slice none 0 0) := bR2.cell 1
    have f0 : w2.frozen? ⟨w.heap.size, 0, none⟩ = false := bR2.frozen 0
    have f1 : w2.frozen? ⟨w.heap.size, 1, none⟩ = false := bR2.frozen 1
    clear HX HZ
    go_wp2_with fail
    refine bodyPost_ret (v := .tuple #[.agg #[.int .i64 0, .slice none 0 0], .int .i64 6]) (by simp [results, Tryd.results13, go_sem, c0, c1]) rfl ⟨.slice none 0 0, by rw [HF.out], by rw [HF.out]; exact own_nil _ _ _ _ _, ?_⟩
    repeat' refine Below.setCell ?_ (by simp; try omega) _
    exact hB2
  match xs, hlen with
  | [xa, xb], _ =>
  have hsp : splitL 61 s.data.toList = [xa.data.toList, xb.data.toList] := HX.out.symm
  have sza : xa.size ≤ 1048576 := by have := HZ.out xa.data.toList (by simp); rw [size_data, size_data] at this; omega
  have szb : xb.size ≤ 1048576 := by have := HZ.out xb.data.toList (by simp); rw [size_data, size_data] at this; omega
  obtain ⟨ba, oa, rfl, _, hba, ca⟩ := str_at (k := 0) hsl rfl
  have J1 := Lib.hid (specRH_no1 hsp)
  have J2 := Lib.hid (specRH_no2 hsp)
  have J3 := Lib.hid (specRH_yes hsp)
  have HC := rlF_code sgF xb.data.toList
  clear hsp HX HZ
  have C1 := l01Value_any xa w2 sza
  have HC2 := Lib.hid (fun W => specReadList_any xb W szb)
  generalize (valF xa.data.toList).1 = d at *
  generalize (valF xa.data.toList).2 = ok at *
  generalize (rlF sgF xb.data.toList).1 = zs at *
  generalize (rlF sgF xb.data.toList).2 = two at *
  simp only [Nat.add_zero] at ca
  go_wp2_with fail
  refine C1.mono ?_
  clear C1 ca
  rintro e w3 ⟨rfl, hb3⟩
  have hB3 := hB2.trans (hb3.mono hB2.size)
  have bR3 := bR2.below' hb3
  obtain ⟨_, _, e1, _, _, cb⟩ := str_at (k := 1) (hsl.below hb3 (Nat.le_refl _)) rfl
  injection e1 with e1
  injection e1 with e2 e3
  subst e2 e3
  have C2 := HC2.out w3
  have z3 := bR3.lt
  clear HC2 bR2 hb3
  go_wp2_with fail
  refine C2.mono ?_
  clear C2 cb
  rintro e w4 ⟨v, rfl, o4, hb4⟩
  have hB4 := hB3.trans (hb4.mono hB3.size)
  have bR4 := bR3.below' hb4
  clear hb4 bR3
  obtain ⟨A', c', e4, _, _⟩ := (own_slR (f := i64s) (s := 1) (fun _ => rfl) (OwnR.own o4)).form
  subst e4
  have bX := Blk.new w4 28 #[.int .i64 d, .slice A' zs.length c']
  have hb5 : Below w4.heap.size w4 (w4.alloc (.cells #[.int .i64 d, .slice A' zs.length c'] 28)) := (Below.refl _ _).alloc (Nat.le_refl _) _
  have o5 := o4.below hb5
  have bR5 := bR4.below' hb5
  have hB5 := hB4.trans (hb5.mono hB4.size)
  have hsl5 := own_slR (f := i64s) (s := 1) (fun _ => rfl) (OwnR.own o5)
  have C3 := vspecH2_any ⟨d, A', c', zs⟩ _ _ _ hsl5 (Nat.le_refl _)
  rw [show (H2.mk d A' c' zs).ok = okH d zs from rfl] at C3
  have z5 := hb5.size
  have bX5 : Blk (w4.alloc (.cells #[.int .i64 d, .slice A' zs.length c'] 28)) w4.heap.size 28 #[.int .i64 d, .slice A' zs.length c'] := bX
  have c0 : (w4.alloc (.cells #[.int .i64 d, .slice A' zs.length c'] 28)).cell? ⟨w.heap.size, 0, none⟩ = some (.int .i64 0) := bR5.cell 0
  have c1 : (w4.alloc (.cells #[.int .i64 d, .slice A' zs.length c'] 28)).cell? ⟨w.heap.size, 1, none⟩ = some (.slice none 0 0) := bR5.cell 1
  have f0 : (w4.alloc (.cells #[.int .i64 d, .slice A' zs.length c'] 28)).frozen? ⟨w.heap.size, 0, none⟩ = false := bR5.frozen 0
  have f1 : (w4.alloc (.cells #[.int .i64 d, .slice A' zs.length c'] 28)).frozen? ⟨w.heap.size, 1, none⟩ = false := bR5.frozen 1
  have d0 : (w4.alloc (.cells #[.int .i64 d, .slice A' zs.length c'] 28)).cell? ⟨w4.heap.size, 0, none⟩ = some (.int .i64 d) := bX.cell 0
  have d1 : (w4.alloc (.cells #[.int .i64 d, .slice A' zs.length c'] 28)).cell? ⟨w4.heap.size, 1, none⟩ = some (.slice A' zs.length c') := bX.cell 1
  clear bX hsl5
  cases ok
  · have HF := Lib.hid (J1.out rfl)
    clear J1 J2 J3 HC C3
    go_wp2_with fail
    refine bodyPost_ret (v := .tuple #[.agg #[.int .i64 0, .slice none 0 0], .int .i64 6]) (by simp [results, Tryd.results13, go_sem, c0, c1]) rfl ⟨.slice none 0 0, by rw [HF.out], by rw [HF.out]; exact own_nil _ _ _ _ _, ?_⟩
    repeat' refine Below.setCell ?_ (by simp; try omega) _
    exact hB5
  rcases HC with rfl | rfl
  case inr =>
    have HF := Lib.hid (J2.out (by decide))
    clear J1 J2 J3 C3
    go_wp2_with fail
    refine bodyPost_ret (v := .tuple #[.agg #[.int .i64 0, .slice none 0 0], .int .i64 6]) (by simp [results, Tryd.results13, go_sem, c0, c1]) rfl ⟨.slice none 0 0, by rw [HF.out], by rw [HF.out]; exact own_nil _ _ _ _ _, ?_⟩
    repeat' refine Below.setCell ?_ (by simp; try omega) _
    exact hB5
  have HG := Lib.hid (J3.out rfl rfl)
  clear J1 J2 J3
  cases hok : okH d zs
  · have HF := Lib.hid (show specRH s.data.toList = ((0, []), 6) by rw [HG.out, hok]; rfl)
    rw [hok] at C3
    clear HG hok
    go_wp2_with fail
    refine C3.mono ?_
    clear C3 c0 c1 f0 f1 d0 d1
    rintro e w6 ⟨rfl, hb6⟩
    have hB6 := hB5.trans (hb6.mono hB5.size)
    have bR6 := bR5.below' hb6
    have c0 : w6.cell? ⟨w.heap.size, 0, none⟩ = some (.int .i64 0) := bR6.cell 0
    have c1 : w6.cell? ⟨w.heap.size, 1, none⟩ = some (.slice none 0 0) := bR6.cell 1
    have f0 : w6.frozen? ⟨w.heap.size, 0, none⟩ = false := bR6.frozen 0
    have f1 : w6.frozen? ⟨w.heap.size, 1, none⟩ = false := bR6.frozen 1
    go_wp2_with fail
    refine bodyPost_ret (v := .tuple #[.agg #[.int .i64 0, .slice none 0 0], .int .i64 6]) (by simp [results, Tryd.results13, go_sem, c0, c1]) rfl ⟨.slice none 0 0, by rw [HF.out], by rw [HF.out]; exact own_nil _ _ _ _ _, ?_⟩
    repeat' refine Below.setCell ?_ (by simp; try omega) _
    exact hB6
  · have HF := Lib.hid (show specRH s.data.toList = ((d, zs), 0) by rw [HG.out, hok]; rfl)
    rw [hok] at C3
    clear HG hok
    go_wp2_with fail
    refine C3.mono ?_
    clear C3 c0 c1 f0 f1 d0 d1
    rintro e w6 ⟨rfl, hb6⟩
    have hB6 := hB5.trans (hb6.mono hB5.size)
    have bR6 := bR5.below' hb6
    have bX6 := bX5.below' hb6
    have o6 := o5.below hb6
    have l6 := bX6.lt
    have c0 : w6.cell? ⟨w.heap.size, 0, none⟩ = some (.int .i64 0) := bR6.cell 0
    have c1 : w6.cell? ⟨w.heap.size, 1, none⟩ = some (.slice none 0 0) := bR6.cell 1
    have f0 : w6.frozen? ⟨w.heap.size, 0, none⟩ = false := bR6.frozen 0
    have f1 : w6.frozen? ⟨w.heap.size, 1, none⟩ = false := bR6.frozen 1
    have d0 : w6.cell? ⟨w4.heap.size, 0, none⟩ = some (.int .i64 d) := bX6.cell 0
    have d1 : w6.cell? ⟨w4.heap.size, 1, none⟩ = some (.slice A' zs.length c') := bX6.cell 1
    go_wp2_with fail
    refine bodyPost_ret (v := .tuple #[.agg #[.int .i64 d, .slice A' zs.length c'], .int .i64 0]) (by simp [results, Tryd.results13, go_sem, c0, c1]) rfl ⟨.slice A' zs.length c', by rw [HF.out], ?_, ?_⟩
    · rw [HF.out]
      have o7 : OwnR i64s 1 w6 w.heap.size 2 (.slice A' zs.length c') zs := OwnR.more o6 (by omega)
      repeat' refine OwnR.setCell ?_ _ _ (fun k hk => by have := (o6.own.lt k hk).1; simp; omega)
      exact o7
    · repeat' refine Below.setCell ?_ (by simp; try omega) _
      exact hB6
end Go.Proofs.YtodfkbgifoecbaaDoor
