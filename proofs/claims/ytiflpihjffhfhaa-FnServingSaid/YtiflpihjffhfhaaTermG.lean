/- OverServed: the program's and the reference's answer the same function of the list. No condition but the sizes that the law itself asks. -/
import Derived.Test.YtiflpihjffhfhaaTermF
namespace Go.Proofs.Ytiflpihjffhfhaa
open Go.RowKit

def overT (all : List T3) (t : T3) : Bool := decide (60 < daysOf t.num all)
def overF (cs : List T3) : List Int × Int := if termsOk cs = true then (setOf (overT cs) cs, 0) else ([], 1)
theorem overF_len (cs : List T3) : (overF cs).1.length ≤ cs.length := by
  unfold overF; split
  · exact setOf_len _ cs
  · simp
theorem termsCode_10 (cs : List T3) : termsCode cs 1 0 = if termsOk cs = true then 0 else 1 := by
  unfold termsCode
  simp [inB]

set_option maxRecDepth 100000 in
set_option maxHeartbeats 2000000 in
theorem specOverServed_any (v : Value) (cs : List T3) (w : World) (lo : Nat) (h : SlT3 w lo w.heap.size v cs) :
    Calls Try.prog 81 #[v] w fun e w' => ∃ v', e = .returned (.tuple #[v', .int .i64 (overF cs).2]) ∧ OwnR i64s 1 w' w.heap.size 2 v' (overF cs).1 ∧ Below w.heap.size w w' := by
  obtain ⟨A, c, rfl, hc1, hc2⟩ := h.form
  go_enter Try.func81, Try.ntmps81
  go_wp2_with fail
  refine (l07Code_any _ cs 1 0 w lo h).mono ?_
  rintro e w1 ⟨rfl, hb1⟩
  rw [termsCode_10]
  cases h1 : termsOk cs
  · have hF : overF cs = ([], 1) := by simp [overF, h1]
    go_wp2_with fail
    go_ret2
    exact ⟨.slice none 0 0, by rw [hF]; rfl, by rw [hF]; exact own_nil _ _ _ _ _, hb1⟩
  have hF : overF cs = (setOf (overT cs) cs, 0) := by simp [overF, h1]
  have HF := Lib.hid hF
  clear hF
  have hl := (termsOk_all h1).2
  have Hok := Lib.hid (termsOk_all h1).1
  have z1 := hb1.size
  have h' : SlT3 w1 lo w1.heap.size (.slice A cs.length c) cs := (h.below hb1 (Nat.le_refl _)).more (Nat.le_refl _) hb1.size
  go_wp2_with fail
  obtain ⟨wo, rfl⟩ : ∃ wo : World, wo = w1 := ⟨_, rfl⟩
  go_loopw [5, 6] (fun q i wr => ∃ (k : Nat), i = .int .i64 k ∧ k ≤ cs.length ∧ OwnR i64s 1 wr wo.heap.size 2 q (setOf (overT cs) (cs.take k)) ∧ Below wo.heap.size wo wr) (fun q i wr => cs.length - (intOf i).toNat)
  case atStart => exact ⟨0, rfl, Nat.zero_le _, own_empty _ _ 1 i64s, (Below.refl _ _).alloc (Nat.le_refl _) _⟩
  case round =>
    obtain ⟨k, rfl, hk, hown, hbr⟩ := hrel
    by_cases hlt : k < cs.length
    · obtain ⟨x, hx⟩ := some_at hlt
      have hl2 := setOf_len (overT cs) (cs.take k)
      rw [List.length_take] at hl2
      have hsz := hbr.size
      have h2 := (h'.below hbr (Nat.le_refl _)).more (Nat.le_refl _) hbr.size
      obtain ⟨b, off, rfl, _, hb, c0, c1, c2⟩ := h2.T3_at hx
      have Hx := Lib.hid hx
      clear hx
      go_wp2_with fail
      refine (l07Days_any _ cs x.num _ lo h2 Hok.out hl).mono ?_
      rintro e w2 ⟨rfl, hb2⟩
      have hB2 := hbr.trans (hb2.mono hbr.size)
      have hown2 := hown.below hb2
      obtain ⟨b2, off2, ee, _, hb2'', d0, d1, d2⟩ := ((h'.below hB2 (Nat.le_refl _)).more (Nat.le_refl _) hB2.size).T3_at Hx.out
      injection ee with ee
      injection ee with ee1 ee2
      subst ee1 ee2
      by_cases e0 : 60 < daysOf x.num cs
      · have e1 : overT cs x = true := by simp [overT, e0]
        go_wp2_with fail
        refine (l07Insert_any _ _ x.num _ _ hown2 (by omega) hB2.size).mono ?_
        rintro e w3 ⟨v', rfl, o3, hb3⟩
        go_wp2_with fail
        go_roundw
        case rel => exact ⟨k + 1, by go_num, hlt, by rw [setOf_yes Hx.out e1]; exact o3, hb3 _ _ hB2 (Nat.le_refl _)⟩
        case measure => simp [intOf]; omega
      · have e1 : overT cs x = false := by simp [overT, e0]
        go_wp2_with fail
        go_roundw
        case rel => exact ⟨k + 1, by go_num, hlt, by rw [setOf_no Hx.out e1]; exact hown2, hB2⟩
        case measure => simp [intOf]; omega
    · have hkn : k = cs.length := by omega
      subst hkn
      rw [List.take_length] at hown
      go_wp2_with fail
      go_ret2
      exact ⟨_, by rw [HF.out]; rfl, by rw [HF.out]; exact hown.more hb1.size, hb1.trans (hbr.mono hb1.size)⟩

set_option maxRecDepth 100000 in
set_option maxHeartbeats 2000000 in
theorem implOverServed_any (v : Value) (cs : List T3) (w : World) (lo : Nat) (h : SlT3 w lo w.heap.size v cs) :
    Calls Try.prog 80 #[v] w fun e w' => ∃ v', e = .returned (.tuple #[v', .int .i64 (overF cs).2]) ∧ OwnR i64s 1 w' w.heap.size 2 v' (overF cs).1 ∧ Below w.heap.size w w' := by
  obtain ⟨A, c, rfl, hc1, hc2⟩ := h.form
  go_enter Try.func80, Try.ntmps80
  go_wp2_with fail
  refine (implAreTerms_any _ cs w lo h).mono ?_
  rintro e w1 ⟨rfl, hb1⟩
  cases h1 : termsOk cs
  · have hF : overF cs = ([], 1) := by simp [overF, h1]
    go_wp2_with fail
    go_ret2
    exact ⟨.slice none 0 0, by rw [hF]; rfl, by rw [hF]; exact own_nil _ _ _ _ _, hb1⟩
  have hF : overF cs = (setOf (overT cs) cs, 0) := by simp [overF, h1]
  have HF := Lib.hid hF
  clear hF
  have hl := (termsOk_all h1).2
  have Hok := Lib.hid (termsOk_all h1).1
  have z1 := hb1.size
  have h' : SlT3 w1 lo w1.heap.size (.slice A cs.length c) cs := (h.below hb1 (Nat.le_refl _)).more (Nat.le_refl _) hb1.size
  go_wp2_with fail
  obtain ⟨wo, rfl⟩ : ∃ wo : World, wo = w1 := ⟨_, rfl⟩
  go_loopw [4, 13] (fun q i wr => ∃ (k : Nat), i = .int .i64 k ∧ k ≤ cs.length ∧ OwnR i64s 1 wr wo.heap.size 2 q (pickT (overT cs) (cs.take k)) ∧ Below wo.heap.size wo wr) (fun q i wr => cs.length - (intOf i).toNat)
  case atStart => exact ⟨0, rfl, Nat.zero_le _, own_empty _ _ 1 i64s, (Below.refl _ _).alloc (Nat.le_refl _) _⟩
  case round =>
    obtain ⟨k, rfl, hk, hown, hbr⟩ := hrel
    by_cases hlt : k < cs.length
    · obtain ⟨x, hx⟩ := some_at hlt
      have hl2 := pickT_len (overT cs) (cs.take k)
      rw [List.length_take] at hl2
      have hsz := hbr.size
      obtain ⟨b, off, rfl, _, hb, c0, c1, c2⟩ := ((h'.below hbr (Nat.le_refl _)).more (Nat.le_refl _) hbr.size).T3_at hx
      have hb' : b < wr.heap.size + 1 := by omega
      have Hx := Lib.hid hx
      clear hx
      have hown1 := hown.alloc (.cells #[.int .i64 x.num, .int .i64 x.beg, .int .i64 x.fin] 65)
      have hB3 : Below wo.heap.size wo (wr.alloc (.cells #[.int .i64 x.num, .int .i64 x.beg, .int .i64 x.fin] 65)) := hbr.alloc hbr.size _
      go_wp2_with fail
      have b0 := Blk.new wr 65 #[.int .i64 x.num, .int .i64 x.beg, .int .i64 x.fin]
      generalize (wr.alloc (.cells #[.int .i64 x.num, .int .i64 x.beg, .int .i64 x.fin] 65)) = w3 at *
      refine (daysServed_any _ cs x.num _ lo ((h'.below hB3 (Nat.le_refl _)).more (Nat.le_refl _) hB3.size) Hok.out hl).mono ?_
      rintro e w2 ⟨rfl, hb2⟩
      have hB2 := hB3.trans (hb2.mono hB3.size)
      have z2 := hB2.size
      have hown2 := hown1.below hb2
      have d0 : w2.cell? ⟨wr.heap.size, 0, none⟩ = some (.int .i64 x.num) := (b0.below' hb2).cell 0
      by_cases e0 : 60 < daysOf x.num cs
      · have e1 : overT cs x = true := by simp [overT, e0]
        go_wp2_with (at_builtin; refine wpList_append_rec (f := i64s) (s := 1) 2 _ _ (fun _ => rfl) i64s_one rfl _ _ 24 rfl wo.heap.size Try.infoI Try.underlying24 rfl (by decide) _ _ x.num rfl hown2 rfl rfl rfl (by omega) (by omega) z2 ?_)
        intro v' w' hown' hbel
        go_wp2_with fail
        go_roundw
        case rel => exact ⟨k + 1, by go_num, hlt, by rw [pickT_yes Hx.out e1]; exact hown', hbel _ _ hB2 (Nat.le_refl _)⟩
        case measure => simp [intOf]; omega
      · have e1 : overT cs x = false := by simp [overT, e0]
        go_wp2_with fail
        go_roundw
        case rel => exact ⟨k + 1, by go_num, hlt, by rw [pickT_no Hx.out e1]; exact hown2, hB2⟩
        case measure => simp [intOf]; omega
    · have hkn : k = cs.length := by omega
      subst hkn
      rw [List.take_length] at hown
      have hl2 := pickT_len (overT cs) cs
      have hsz := hbr.size
      go_wp2_with fail
      refine (sortedSet_any _ _ _ _ hown (by omega)).mono ?_
      rintro e w2 ⟨v', rfl, o2, hg2⟩
      have hB2 := below_own hown hg2 hbr (Nat.le_refl _) hsz
      go_wp2_with fail
      go_ret2
      exact ⟨_, by rw [HF.out]; rfl, by rw [HF.out]; show OwnR i64s 1 _ _ _ _ (setOf (overT cs) cs); rw [setOf, ← setL_eq]; exact o2.more hb1.size, hb1.trans (hB2.mono hb1.size)⟩
end Go.Proofs.Ytiflpihjffhfhaa
