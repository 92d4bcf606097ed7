/- CrowdedDays: the program's and the reference's answer the same function of the list. No condition but the sizes that the law itself asks. -/
import Derived.Test.YtiflpihjffhfhaaSortD
import Derived.Test.YtiflpihjffhfhaaCallH
namespace Go.Proofs.Ytiflpihjffhfhaa
open Go.RowKit

/-- A sorted set of numbers, made and cut by the library's calls, stays within new memory. -/
theorem below_own {v : Value} {zs : List Int} {w w' : World} {base B : Nat} {e : TypeId} (h : OwnR i64s 1 w base e v zs) (hg : w.grownBy w' v.ownBlock) {a0 : World} (hb : Below B a0 w) (hB : B ≤ base) (hz : base ≤ w.heap.size) : Below B a0 w' :=
  hb.grown hg (by omega) (fun k hk => by have := (h.own.lt k hk).1; omega)

def pickC (p : C4 → Bool) (cs : List C4) : List Int := (cs.filter p).map (·.day)
theorem pickC_yes {p : C4 → Bool} {cs : List C4} {k : Nat} {x : C4} (h : cs[k]? = some x) (hd : p x = true) : pickC p (cs.take (k + 1)) = pickC p (cs.take k) ++ [x.day] := by
  rw [take_snoc h]; simp [pickC, hd]
theorem pickC_no {p : C4 → Bool} {cs : List C4} {k : Nat} {x : C4} (h : cs[k]? = some x) (hd : p x = false) : pickC p (cs.take (k + 1)) = pickC p (cs.take k) := by
  rw [take_snoc h]; simp [pickC, hd]
theorem pickC_len (p : C4 → Bool) (cs : List C4) : (pickC p cs).length ≤ cs.length := by
  simp only [pickC, List.length_map]; exact List.length_filter_le _ _
def setOf (p : C4 → Bool) (cs : List C4) : List Int := insAll [] (pickC p cs)
theorem setOf_yes {p : C4 → Bool} {cs : List C4} {k : Nat} {x : C4} (h : cs[k]? = some x) (hd : p x = true) : setOf p (cs.take (k + 1)) = insU x.day (setOf p (cs.take k)) := by
  rw [setOf, pickC_yes h hd, insAll_snoc]; rfl
theorem setOf_no {p : C4 → Bool} {cs : List C4} {k : Nat} {x : C4} (h : cs[k]? = some x) (hd : p x = false) : setOf p (cs.take (k + 1)) = setOf p (cs.take k) := by
  rw [setOf, pickC_no h hd]; rfl
theorem setOf_len (p : C4 → Bool) (cs : List C4) : (setOf p cs).length ≤ cs.length := by
  have h1 := insAll_len (pickC p cs) []
  have h2 := pickC_len p cs
  unfold setOf; simp at h1; omega
def crowdP (all : List C4) (room : Int) (x : C4) : Bool := decide (room < ((onDay all x.day).length : Int))
def crowdF (cs : List C4) (room : Int) : List Int × Int := if callsOk cs = true then if inB room 0 20 = true then (setOf (crowdP cs room) cs, 0) else ([], 2) else ([], 1)
theorem crowdF_len (cs : List C4) (room : Int) : (crowdF cs room).1.length ≤ cs.length := by
  unfold crowdF; split
  · split
    · exact setOf_len _ cs
    · simp
  · simp

set_option maxRecDepth 100000 in
set_option maxHeartbeats 2000000 in
theorem specCrowdedDays_any (v : Value) (cs : List C4) (room : Int) (w : World) (lo : Nat) (h : SlC4 w lo w.heap.size v cs) :
    Calls Try.prog 34 #[v, .int .i64 room] w fun e w' => ∃ v', e = .returned (.tuple #[v', .int .i64 (crowdF cs room).2]) ∧ OwnR i64s 1 w' w.heap.size 2 v' (crowdF cs room).1 ∧ Below w.heap.size w w' := by
  obtain ⟨A, c, rfl, hc1, hc2⟩ := h.form
  go_enter Try.func34, Try.ntmps34
  go_wp2_with fail
  refine (specAreCalls_any _ cs w lo h).mono ?_
  rintro e w1 ⟨rfl, hb1⟩
  cases h1 : callsOk cs
  · have hF : crowdF cs room = ([], 1) := by simp [crowdF, h1]
    go_wp2_with fail
    go_ret2
    exact ⟨.slice none 0 0, by rw [hF]; rfl, by rw [hF]; exact own_nil _ _ _ _ _, hb1⟩
  go_wp2_with fail
  refine (l01In_any room _ _ _).mono ?_
  rintro e w2 ⟨rfl, rfl⟩
  cases h2 : inB room 0 20
  · have hF : crowdF cs room = ([], 2) := by simp [crowdF, h1, h2]
    go_wp2_with fail
    go_ret2
    exact ⟨.slice none 0 0, by rw [hF]; rfl, by rw [hF]; exact own_nil _ _ _ _ _, hb1⟩
  have hF : crowdF cs room = (setOf (crowdP cs room) cs, 0) := by simp [crowdF, h1, h2]
  have HF := Lib.hid hF
  clear hF
  have hl := (callsOk_all h1).2.2
  have z1 := hb1.size
  have h' : SlC4 w1 lo w1.heap.size (.slice A cs.length c) cs := (h.below hb1 (Nat.le_refl _)).more (Nat.le_refl _) hb1.size
  go_wp2_with fail
  obtain ⟨wo, rfl⟩ : ∃ wo : World, wo = w1 := ⟨_, rfl⟩
  go_loopw [6, 7] (fun q i wr => ∃ (k : Nat), i = .int .i64 k ∧ k ≤ cs.length ∧ OwnR i64s 1 wr wo.heap.size 2 q (setOf (crowdP cs room) (cs.take k)) ∧ Below wo.heap.size wo wr) (fun q i wr => cs.length - (intOf i).toNat)
  case atStart => exact ⟨0, rfl, Nat.zero_le _, own_empty _ _ 1 i64s, (Below.refl _ _).alloc (Nat.le_refl _) _⟩
  case round =>
    obtain ⟨k, rfl, hk, hown, hbr⟩ := hrel
    by_cases hlt : k < cs.length
    · obtain ⟨x, hx⟩ := some_at hlt
      have hl2 := setOf_len (crowdP cs room) (cs.take k)
      rw [List.length_take] at hl2
      have hsz := hbr.size
      have h2 := (h'.below hbr (Nat.le_refl _)).more (Nat.le_refl _) hbr.size
      obtain ⟨b, off, rfl, _, hb, c0, c1, c2, c3⟩ := h2.C4_at hx
      have Hx := Lib.hid hx
      clear hx
      go_wp2_with fail
      refine (l10On_any _ cs x.day _ lo h2 (by omega)).mono ?_
      rintro e w2 ⟨v2, rfl, ov, hb2⟩
      obtain ⟨A2, cc2, rfl, _⟩ := own_form (OwnR.own ov)
      have hon := onDay_len cs x.day
      have hB2 := hbr.trans (hb2.mono hbr.size)
      have hown2 := hown.below hb2
      obtain ⟨b2, off2, ee, _, hb2'', d0, d1, d2, d3⟩ := ((h'.below hB2 (Nat.le_refl _)).more (Nat.le_refl _) hB2.size).C4_at Hx.out
      injection ee with ee
      injection ee with ee1 ee2
      subst ee1 ee2
      by_cases e0 : room < ((onDay cs x.day).length : Int)
      · have e1 : crowdP cs room x = true := by simp [crowdP]; omega
        go_wp2_with fail
        refine (l07Insert_any _ _ x.day _ _ hown2 (by omega) hB2.size).mono ?_
        rintro e w3 ⟨v', rfl, o3, hb3⟩
        go_wp2_with fail
        go_roundw
        case rel => exact ⟨k + 1, by go_num, hlt, by rw [setOf_yes Hx.out e1]; exact o3, hb3 _ _ hB2 (Nat.le_refl _)⟩
        case measure => simp [intOf]; omega
      · have e1 : crowdP cs room x = false := by simp [crowdP]; omega
        go_wp2_with fail
        go_roundw
        case rel => exact ⟨k + 1, by go_num, hlt, by rw [setOf_no Hx.out e1]; exact hown2, hB2⟩
        case measure => simp [intOf]; omega
    · have hkn : k = cs.length := by omega
      subst hkn
      rw [List.take_length] at hown
      go_wp2_with fail
      go_ret2
      exact ⟨_, by rw [HF.out]; rfl, by rw [HF.out]; exact hown.more hb1.size, hb1.trans (hbr.mono hb1.size)⟩

set_option maxRecDepth 100000 in
set_option maxHeartbeats 2000000 in
theorem implCrowdedDays_any (v : Value) (cs : List C4) (room : Int) (w : World) (lo : Nat) (h : SlC4 w lo w.heap.size v cs) :
    Calls Try.prog 33 #[v, .int .i64 room] w fun e w' => ∃ v', e = .returned (.tuple #[v', .int .i64 (crowdF cs room).2]) ∧ OwnR i64s 1 w' w.heap.size 2 v' (crowdF cs room).1 ∧ Below w.heap.size w w' := by
  obtain ⟨A, c, rfl, hc1, hc2⟩ := h.form
  go_enter Try.func33, Try.ntmps33
  go_wp2_with fail
  refine (implAreCalls_any _ cs w lo h).mono ?_
  rintro e w1 ⟨rfl, hb1⟩
  cases h1 : callsOk cs
  · have hF : crowdF cs room = ([], 1) := by simp [crowdF, h1]
    go_wp2_with fail
    go_ret2
    exact ⟨.slice none 0 0, by rw [hF]; rfl, by rw [hF]; exact own_nil _ _ _ _ _, hb1⟩
  go_wp2_with fail
  refine (isRoom_any room _).mono ?_
  rintro e w2 ⟨rfl, rfl⟩
  cases h2 : inB room 0 20
  · have hF : crowdF cs room = ([], 2) := by simp [crowdF, h1, h2]
    go_wp2_with fail
    go_ret2
    exact ⟨.slice none 0 0, by rw [hF]; rfl, by rw [hF]; exact own_nil _ _ _ _ _, hb1⟩
  have hF : crowdF cs room = (setOf (crowdP cs room) cs, 0) := by simp [crowdF, h1, h2]
  have HF := Lib.hid hF
  clear hF
  have hl := (callsOk_all h1).2.2
  have z1 := hb1.size
  have h' : SlC4 w1 lo w1.heap.size (.slice A cs.length c) cs := (h.below hb1 (Nat.le_refl _)).more (Nat.le_refl _) hb1.size
  go_wp2_with fail
  obtain ⟨wo, rfl⟩ : ∃ wo : World, wo = w1 := ⟨_, rfl⟩
  go_loopw [6, 18] (fun q i wr => ∃ (k : Nat), i = .int .i64 k ∧ k ≤ cs.length ∧ OwnR i64s 1 wr wo.heap.size 2 q (pickC (crowdP cs room) (cs.take k)) ∧ Below wo.heap.size wo wr) (fun q i wr => cs.length - (intOf i).toNat)
  case atStart => exact ⟨0, rfl, Nat.zero_le _, own_empty _ _ 1 i64s, (Below.refl _ _).alloc (Nat.le_refl _) _⟩
  case round =>
    obtain ⟨k, rfl, hk, hown, hbr⟩ := hrel
    by_cases hlt : k < cs.length
    · obtain ⟨x, hx⟩ := some_at hlt
      have hl2 := pickC_len (crowdP cs room) (cs.take k)
      rw [List.length_take] at hl2
      have hsz := hbr.size
      obtain ⟨b, off, rfl, _, hb, c0, c1, c2, c3⟩ := ((h'.below hbr (Nat.le_refl _)).more (Nat.le_refl _) hbr.size).C4_at hx
      have hb' : b < wr.heap.size + 1 := by omega
      have Hx := Lib.hid hx
      clear hx
      have hown1 := hown.alloc (.cells #[.int .i64 x.num, .int .i64 x.first, .int .i64 x.day, .int .i64 x.moves] 41)
      have hB3 : Below wo.heap.size wo (wr.alloc (.cells #[.int .i64 x.num, .int .i64 x.first, .int .i64 x.day, .int .i64 x.moves] 41)) := hbr.alloc hbr.size _
      go_wp2_with fail
      have b0 := Blk.new wr 41 #[.int .i64 x.num, .int .i64 x.first, .int .i64 x.day, .int .i64 x.moves]
      generalize (wr.alloc (.cells #[.int .i64 x.num, .int .i64 x.first, .int .i64 x.day, .int .i64 x.moves] 41)) = w3 at *
      refine (calledOn_any _ cs x.day _ lo ((h'.below hB3 (Nat.le_refl _)).more (Nat.le_refl _) hB3.size) (by omega)).mono ?_
      rintro e w2 ⟨v2, rfl, ov, hb2⟩
      obtain ⟨A2, cc2, rfl, _⟩ := own_form (OwnR.own ov)
      have hon := onDay_len cs x.day
      have hB2 := hB3.trans (hb2.mono hB3.size)
      have z2 := hB2.size
      have hown2 := hown1.below hb2
      have d0 : w2.cell? ⟨wr.heap.size, 0 + 2, none⟩ = some (.int .i64 x.day) := (b0.below' hb2).cell 2
      by_cases e0 : room < ((onDay cs x.day).length : Int)
      · have e1 : crowdP cs room x = true := by simp [crowdP]; omega
        go_wp2_with (at_builtin; refine wpList_append_rec (f := i64s) (s := 1) 2 _ _ (fun _ => rfl) i64s_one rfl _ _ 24 rfl wo.heap.size Try.infoI Try.underlying24 rfl (by decide) _ _ x.day rfl hown2 rfl rfl rfl (by omega) (by omega) z2 ?_)
        intro v' w' hown' hbel
        go_wp2_with fail
        go_roundw
        case rel => exact ⟨k + 1, by go_num, hlt, by rw [pickC_yes Hx.out e1]; exact hown', hbel _ _ hB2 (Nat.le_refl _)⟩
        case measure => simp [intOf]; omega
      · have e1 : crowdP cs room x = false := by simp [crowdP]; omega
        go_wp2_with fail
        go_roundw
        case rel => exact ⟨k + 1, by go_num, hlt, by rw [pickC_no Hx.out e1]; exact hown2, hB2⟩
        case measure => simp [intOf]; omega
    · have hkn : k = cs.length := by omega
      subst hkn
      rw [List.take_length] at hown
      have hl2 := pickC_len (crowdP cs room) cs
      have hsz := hbr.size
      go_wp2_with fail
      refine (sortedSet_any _ _ _ _ hown (by omega)).mono ?_
      rintro e w2 ⟨v', rfl, o2, hg2⟩
      have hB2 := below_own hown hg2 hbr (Nat.le_refl _) hsz
      go_wp2_with fail
      go_ret2
      exact ⟨_, by rw [HF.out]; rfl, by rw [HF.out]; show OwnR i64s 1 _ _ _ _ (setOf (crowdP cs room) cs); rw [setOf, ← setL_eq]; exact o2.more hb1.size, hb1.trans (hB2.mono hb1.size)⟩
end Go.Proofs.Ytiflpihjffhfhaa
