/- Lists and sheets as texts: the program's own functions. What they ask: the package-level variables as the program lays them. -/
import Derived.Test.YtodfkbgifoecbaaDoorTxE
import Derived.Deep.RegionHeld3
namespace Go.Proofs.YtodfkbgifoecbaaDoor
open Go.RowKit
open Go.Lib hiding intOf
attribute [local go_sem ↓] Go.wp_at_zero Go.wp_at_succ
theorem s2_cellsT {W : World} {T : Nat} {ty : TypeId} {x y : Value} (b : Blk W T ty #[x, y]) : W.cell? ⟨T, 0, none⟩ = some x ∧ W.cell? ⟨T, 1, none⟩ = some y := ⟨b.cell 0, b.cell 1⟩
def textF (d : Int) (ps : List Int) : List UInt8 × Int := if okH d ps = true then (textH d ps, 0) else ([], 1)
theorem textH_str (d : Int) (ps : List Int) : str (itoa d) ++ (⟨#[61]⟩ : ByteArray) ++ str (numT ps) = str (textH d ps) := by
  have e : (⟨#[61]⟩ : ByteArray) = str [61] := rfl
  rw [e, str_append, str_append, textH]; simp
set_option maxRecDepth 100000 in
set_option maxHeartbeats 4000000 in
theorem implSheetText_any (d : Int) (v : Value) (ps : List Int) (w : World) (lo : Nat) (h : SlI w lo w.heap.size v ps) (B : Nat) (hE : EnvT B w) (hB : B ≤ w.heap.size) :
    Calls Tryd.prog 11 #[.agg #[.int .i64 d, v]] w fun e w' => e = .returned (.tuple #[.string (str (textF d ps).1), .int .i64 (textF d ps).2]) ∧ Below w.heap.size w w' := by
  obtain ⟨A, c, rfl, hc1, hc2⟩ := h.form
  have bX := Blk.new w 28 #[.int .i64 d, .slice A ps.length c]
  have hb : Below w.heap.size w (w.alloc (.cells #[.int .i64 d, .slice A ps.length c] 28)) := (Below.refl _ _).alloc (Nat.le_refl _) _
  go_enter Tryd.func11, Tryd.ntmps11
  go_wp2_with fail
  generalize (w.alloc (.cells #[.int .i64 d, .slice A ps.length c] 28)) = w1 at *
  have h1 := (h.below hb (Nat.le_refl _)).more (Nat.le_refl _) hb.size
  refine (validH2_any ⟨d, A, c, ps⟩ w1 lo w1.heap.size h1 (Nat.le_refl _)).mono ?_
  rintro e w2 ⟨rfl, hb2⟩
  have hB2 := hb.trans (hb2.mono hb.size)
  have bX2 := bX.below' hb2
  have h2 := (h1.below hb2 (Nat.le_refl _)).more (Nat.le_refl _) hb2.size
  have hok : (H2.mk d A c ps).ok = okH d ps := rfl
  cases hk : okH d ps
  · have E := Lib.hid (show textF d ps = ([], 1) by simp [textF, hk])
    rw [hok, hk]
    clear hok hk
    go_wp2_with fail
    go_ret2
    exact ⟨by rw [E.out]; rfl, hB2⟩
  · have E := Lib.hid (show textF d ps = (textH d ps, 0) by simp [textF, hk])
    obtain ⟨hd, hl, hi⟩ := okH_parts hk
    have hz := incGo_in ps none hi
    have HZ := Lib.hid hz
    have hn := numT_len (zs := ps) (fun z hz' => by have := hz z hz'; omega)
    have HT := Lib.hid (textH_str d ps)
    have q0 : (str (itoa d)).size ≤ 21 := by rw [str_size]; exact itoa_len (by omega) (by omega)
    have q1 : (str (numT ps)).size ≤ 1321 := by rw [str_size]; omega
    rw [hok, hk]
    clear hok hk hi hz hn
    have KS : Hid (∀ W, Below w2.heap.size w2 W → W.cell? ⟨w.heap.size, 0, none⟩ = some (.int .i64 d) ∧ W.cell? ⟨w.heap.size, 1, none⟩ = some (.slice A ps.length c)) := Lib.hid fun W hW => s2_cellsT (bX2.below' hW)
    have hD : Below w2.heap.size w2 w2.drew := (Below.refl _ _).drew
    have hEd : EnvT B w2.drew := hE.on ((hB2.trans (hD.mono hB2.size)).mono hB)
    have C1 := decimal_any d w2.drew B hEd (by omega) (by omega)
    have HN : Hid (∀ W, Below w2.heap.size w2 W → Calls Tryd.prog 36 #[.slice A ps.length c] W fun e w' => e = .returned (.string (str (numT ps))) ∧ Below W.heap.size W w') := Lib.hid fun W hW =>
      numbersText_any _ ps W lo ((h2.below hW (Nat.le_refl _)).more (Nat.le_refl _) hW.size) B (hE.on ((hB2.trans (hW.mono hB2.size)).mono hB)) (Nat.le_trans hB (Nat.le_trans hB2.size hW.size)) (by omega) (fun z hz' => by have := HZ.out z hz'; omega)
    obtain ⟨k0, k1⟩ := KS.out _ (Below.refl _ _)
    generalize str (itoa d) = sa at *
    generalize str (numT ps) = sb at *
    have q2 : ¬ (9223372036854775807 < sa.size + 1) := by omega
    have q3 : ¬ (9223372036854775807 < sa.size + 1 + sb.size) := by omega
    go_wp2_with fail
    go_region_held3 (fun W => W.cell? ⟨w.heap.size, 0, none⟩ = some (.int .i64 d) ∧ W.cell? ⟨w.heap.size, 1, none⟩ = some (.slice A ps.length c)) (first | exact KS.out _ (Below.refl _ _) | exact KS.out _ hD | exact KS.out _ hA3 | exact KS.out _ hA4 | go_keep) (first
      | (go_at_call 35; (with_reducible refine C1.mono ?_); rintro e w3 ⟨rfl, hb3⟩; have hA3 := hD.trans (hb3.mono (Nat.le_refl _)); have C2 := HN.out w3 hA3)
      | (go_at_call 36; (with_reducible refine C2.mono ?_); rintro e w4 ⟨rfl, hb4⟩; have hA4 := hA3.trans (hb4.mono hA3.size)))
    go_wp2_with fail
    go_ret2
    exact ⟨by rw [E.out, ← HT.out]; rfl, hB2.trans (hA4.mono hB2.size)⟩
end Go.Proofs.YtodfkbgifoecbaaDoor
