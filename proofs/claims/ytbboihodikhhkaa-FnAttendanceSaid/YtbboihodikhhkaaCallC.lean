/- CalledOn: the numbers of the calls for a day, the program's and the reference's. No condition but the sizes that the law itself asks. -/
import Derived.Test.YtbboihodikhhkaaCallB
namespace Go.Proofs.Ytbboihodikhhkaa
open Go.RowKit

def onDay (cs : List C4) (day : Int) : List Int := (cs.filter (·.day == day)).map (·.num)
theorem onDay_yes {cs : List C4} {day : Int} {k : Nat} {x : C4} (h : cs[k]? = some x) (hd : (x.day == day) = true) : onDay (cs.take (k + 1)) day = onDay (cs.take k) day ++ [x.num] := by
  rw [take_snoc h]; simp [onDay, hd]
theorem onDay_no {cs : List C4} {day : Int} {k : Nat} {x : C4} (h : cs[k]? = some x) (hd : (x.day == day) = false) : onDay (cs.take (k + 1)) day = onDay (cs.take k) day := by
  rw [take_snoc h]; simp [onDay, hd]
theorem onDay_len (cs : List C4) (day : Int) : (onDay cs day).length ≤ cs.length := by
  simp only [onDay, List.length_map]; exact List.length_filter_le _ _

set_option maxHeartbeats 1000000 in
theorem l10On_any (v : Value) (cs : List C4) (day : Int) (w : World) (lo : Nat) (h : SlC4 w lo w.heap.size v cs) (hn : cs.length ≤ 2097152) :
    Calls Try.prog 65 #[v, .int .i64 day] w fun e w' => ∃ v', e = .returned v' ∧ OwnR i64s 1 w' w.heap.size 2 v' (onDay cs day) ∧ Below w.heap.size w w' := by
  obtain ⟨A, c, rfl, hc1, hc2⟩ := h.form
  go_enter Try.func65, Try.ntmps65
  go_wp2_with fail
  go_loopw [5, 6] (fun q i wr => ∃ (k : Nat), i = .int .i64 k ∧ k ≤ cs.length ∧ OwnR i64s 1 wr w.heap.size 2 q (onDay (cs.take k) day) ∧ Below w.heap.size w wr) (fun q i wr => cs.length - (intOf i).toNat)
  case atStart => exact ⟨0, rfl, Nat.zero_le _, own_empty w _ 1 i64s, (Below.refl _ _).alloc (Nat.le_refl _) _⟩
  case round =>
    obtain ⟨k, rfl, hk, hown, hbr⟩ := hrel
    by_cases hlt : k < cs.length
    · obtain ⟨x, hx⟩ := some_at hlt
      obtain ⟨b, off, rfl, _, hb, c0, c1, c2, c3⟩ := ((h.below hbr (Nat.le_refl _)).more (Nat.le_refl _) hbr.size).C4_at hx
      have Hx := Lib.hid hx
      clear hx
      have hl := onDay_len (cs.take k) day
      rw [List.length_take] at hl
      cases hd : x.day == day
      · go_wp2_with fail
        go_roundw
        case rel => exact ⟨k + 1, by go_num, hlt, by rw [onDay_no Hx.out hd]; exact hown, hbr⟩
        case measure => simp [intOf]; omega
      · have hsz := hbr.size
        go_wp2_with (at_builtin; refine wpList_append_rec (f := i64s) (s := 1) 2 _ _ (fun _ => rfl) i64s_one rfl _ _ 39 rfl w.heap.size Try.infoI Try.underlying39 rfl (by decide) _ _ x.num rfl hown rfl rfl rfl (by omega) (by omega) hsz ?_)
        intro v' w' hown' hbel
        go_wp2_with fail
        go_roundw
        case rel => exact ⟨k + 1, by go_num, hlt, by rw [onDay_yes Hx.out hd]; exact hown', hbel _ _ hbr (Nat.le_refl _)⟩
        case measure => simp [intOf]; omega
    · have hkn : k = cs.length := by omega
      subst hkn
      rw [List.take_length] at hown
      go_wp2_with fail
      go_ret
      exact ⟨_, rfl, hown, hbr⟩

set_option maxHeartbeats 1000000 in
theorem calledOn_any (v : Value) (cs : List C4) (day : Int) (w : World) (lo : Nat) (h : SlC4 w lo w.heap.size v cs) (hn : cs.length ≤ 2097152) :
    Calls Try.prog 72 #[v, .int .i64 day] w fun e w' => ∃ v', e = .returned v' ∧ OwnR i64s 1 w' w.heap.size 2 v' (onDay cs day) ∧ Below w.heap.size w w' := by
  obtain ⟨A, c, rfl, hc1, hc2⟩ := h.form
  go_enter Try.func72, Try.ntmps72
  go_wp2_with fail
  go_loopw [5, 11] (fun q i wr => ∃ (k : Nat), i = .int .i64 k ∧ k ≤ cs.length ∧ OwnR i64s 1 wr w.heap.size 2 q (onDay (cs.take k) day) ∧ Below w.heap.size w wr) (fun q i wr => cs.length - (intOf i).toNat)
  case atStart => exact ⟨0, rfl, Nat.zero_le _, own_empty w _ 1 i64s, (Below.refl _ _).alloc (Nat.le_refl _) _⟩
  case round =>
    obtain ⟨k, rfl, hk, hown, hbr⟩ := hrel
    by_cases hlt : k < cs.length
    · obtain ⟨x, hx⟩ := some_at hlt
      obtain ⟨b, off, rfl, _, hb, c0, c1, c2, c3⟩ := ((h.below hbr (Nat.le_refl _)).more (Nat.le_refl _) hbr.size).C4_at hx
      have Hx := Lib.hid hx
      clear hx
      have hl := onDay_len (cs.take k) day
      rw [List.length_take] at hl
      have hsz := hbr.size
      cases hd : x.day == day
      · go_wp2_with fail
        go_roundw
        case rel => exact ⟨k + 1, by go_num, hlt, by rw [onDay_no Hx.out hd]; exact hown.alloc _, hbr.alloc hsz _⟩
        case measure => simp [intOf]; omega
      · go_wp2_with (at_builtin; refine wpList_append_rec (f := i64s) (s := 1) 2 _ _ (fun _ => rfl) i64s_one rfl _ _ 39 rfl w.heap.size Try.infoI Try.underlying39 rfl (by decide) _ _ x.num rfl (hown.alloc _) rfl (by simp) rfl (by omega) (by omega) (by simp; omega) ?_)
        intro v' w' hown' hbel
        go_wp2_with fail
        go_roundw
        case rel => exact ⟨k + 1, by go_num, hlt, by rw [onDay_yes Hx.out hd]; exact hown', hbel _ _ (hbr.alloc hsz _) (Nat.le_refl _)⟩
        case measure => simp [intOf]; omega
    · have hkn : k = cs.length := by omega
      subst hkn
      rw [List.take_length] at hown
      go_wp2_with fail
      go_ret
      exact ⟨_, rfl, hown, hbr⟩

def calledOnF (cs : List C4) (day : Int) : List Int × Int := if callsOk cs = true then if inB day 0 20000 = true then (onDay cs day, 0) else ([], 2) else ([], 1)

theorem calledOnF_len (cs : List C4) (day : Int) : (calledOnF cs day).1.length ≤ cs.length := by
  unfold calledOnF; split
  · split
    · exact onDay_len cs day
    · simp
  · simp

set_option maxHeartbeats 1000000 in
theorem specCalledOn_any (v : Value) (cs : List C4) (day : Int) (w : World) (lo : Nat) (h : SlC4 w lo w.heap.size v cs) (hn : cs.length ≤ 2097152) :
    Calls Try.prog 35 #[v, .int .i64 day] w fun e w' => ∃ v', e = .returned (.tuple #[v', .int .i64 (calledOnF cs day).2]) ∧ OwnR i64s 1 w' w.heap.size 2 v' (calledOnF cs day).1 ∧ Below w.heap.size w w' := by
  obtain ⟨A, c, hv, hc1, hc2⟩ := h.form
  have Hv := Lib.hid hv
  clear hv
  go_enter Try.func35, Try.ntmps35
  go_wp2_with fail
  refine (specAreCalls_any v cs w lo h).mono ?_
  rintro e w1 ⟨rfl, hb1⟩
  cases h1 : callsOk cs
  · go_wp2_with fail
    go_ret2
    have hF : calledOnF cs day = ([], 1) := by simp [calledOnF, h1]
    exact ⟨.slice none 0 0, by rw [hF]; rfl, by rw [hF]; exact own_nil _ _ _ _ _, hb1⟩
  · go_wp2_with fail
    refine (l02Is_any day _).mono ?_
    rintro e w2 ⟨rfl, rfl⟩
    cases h2 : inB day 0 20000
    · go_wp2_with fail
      go_ret2
      have hF : calledOnF cs day = ([], 2) := by simp [calledOnF, h1, h2]
      exact ⟨.slice none 0 0, by rw [hF]; rfl, by rw [hF]; exact own_nil _ _ _ _ _, hb1⟩
    · go_wp2_with fail
      refine (l10On_any v cs day _ lo ((h.below hb1 (Nat.le_refl _)).more (Nat.le_refl _) hb1.size) hn).mono ?_
      rintro e w2 ⟨v', rfl, hown, hb2⟩
      go_wp2_with fail
      go_ret2
      have hF : calledOnF cs day = (onDay cs day, 0) := by simp [calledOnF, h1, h2]
      exact ⟨v', by rw [hF]; rfl, by rw [hF]; exact hown.more hb1.size, hb1.trans (hb2.mono hb1.size)⟩
set_option maxHeartbeats 1000000 in
theorem implCalledOn_any (v : Value) (cs : List C4) (day : Int) (w : World) (lo : Nat) (h : SlC4 w lo w.heap.size v cs) (hn : cs.length ≤ 2097152) :
    Calls Try.prog 34 #[v, .int .i64 day] w fun e w' => ∃ v', e = .returned (.tuple #[v', .int .i64 (calledOnF cs day).2]) ∧ OwnR i64s 1 w' w.heap.size 2 v' (calledOnF cs day).1 ∧ Below w.heap.size w w' := by
  obtain ⟨A, c, hv, hc1, hc2⟩ := h.form
  have Hv := Lib.hid hv
  clear hv
  go_enter Try.func34, Try.ntmps34
  go_wp2_with fail
  refine (implAreCalls_any v cs w lo h).mono ?_
  rintro e w1 ⟨rfl, hb1⟩
  cases h1 : callsOk cs
  · go_wp2_with fail
    go_ret2
    have hF : calledOnF cs day = ([], 1) := by simp [calledOnF, h1]
    exact ⟨.slice none 0 0, by rw [hF]; rfl, by rw [hF]; exact own_nil _ _ _ _ _, hb1⟩
  · go_wp2_with fail
    refine (isDay_any day _).mono ?_
    rintro e w2 ⟨rfl, rfl⟩
    cases h2 : inB day 0 20000
    · go_wp2_with fail
      go_ret2
      have hF : calledOnF cs day = ([], 2) := by simp [calledOnF, h1, h2]
      exact ⟨.slice none 0 0, by rw [hF]; rfl, by rw [hF]; exact own_nil _ _ _ _ _, hb1⟩
    · go_wp2_with fail
      refine (calledOn_any v cs day _ lo ((h.below hb1 (Nat.le_refl _)).more (Nat.le_refl _) hb1.size) hn).mono ?_
      rintro e w2 ⟨v', rfl, hown, hb2⟩
      go_wp2_with fail
      go_ret2
      have hF : calledOnF cs day = (onDay cs day, 0) := by simp [calledOnF, h1, h2]
      exact ⟨v', by rw [hF]; rfl, by rw [hF]; exact hown.more hb1.size, hb1.trans (hb2.mono hb1.size)⟩
end Go.Proofs.Ytbboihodikhhkaa
