/- MakePool: the program's and the reference's answer the same function. No condition but the sizes that the law itself asks. -/
import Derived.Test.YtfenedoalnieaaaPoolC
namespace Go.Proofs.Ytfenedoalnieaaa
open Go.RowKit
attribute [local go_sem ↓] Go.wp_at_zero Go.wp_at_succ

def makeF (cs : List Int) (st : Int) : P3 × Int := if poolOk ⟨cs, [], st⟩ = true then (⟨cs, [], st⟩, 0) else (⟨[], [], 0⟩, 1)
theorem makeF_len (cs : List Int) (st : Int) : (makeF cs st).1.nums.length ≤ cs.length ∧ (makeF cs st).1.drawn.length = 0 := by
  unfold makeF; split
  · exact ⟨Nat.le_refl _, rfl⟩
  · exact ⟨Nat.zero_le _, rfl⟩
theorem slI_nil (w : World) (lo hi : Nat) : SlI w lo hi (.slice none 0 0) [] := SlR.none (f := i64s) (s := 1) (fun _ => rfl) w lo hi none (by omega)
theorem ownI_nil (e : TypeId) (w : World) (lo hi : Nat) : OwI i64s 1 e w lo hi (.slice none 0 0) ([] : List Int) := ⟨own_nil _ _ _ _ _, fun g hg => by cases hg⟩

theorem Chg.setCell {lo hi : Nat} {w w' : World} (h : Chg lo hi w w') {a : Addr} (ha : lo ≤ a.block ∧ a.block < hi) (u : Value) : Chg lo hi w (w'.setCell a u) :=
  h.trans (Chg.of_grown (grownBy_setCell w' a u) fun g hg => by have := Option.some.inj hg; omega)

set_option maxHeartbeats 1000000 in
theorem l01Own_any (v : Value) (cs : List Int) (w : World) (lo : Nat) (h : SlI w lo w.heap.size v cs) (hn : cs.length ≤ 2097152) :
    Calls Try.prog 52 #[v] w fun e w' => ∃ v', e = .returned v' ∧ OwnR i64s 1 w' w.heap.size 2 v' cs ∧ Below w.heap.size w w' := by
  obtain ⟨A, c, rfl, hc1, hc2⟩ := h.form
  go_enter Try.func52, Try.ntmps52
  have hAA : Below w.heap.size w (w.alloc (.cells #[] 2)) := (Below.refl _ _).alloc (Nat.le_refl _) _
  go_wp2_with (at_builtin; refine wpList_append_sl (f := i64s) (s := 1) _ (fun _ => rfl) i64s_one rfl _ _ 22 rfl w.heap.size 2 Try.infoI Try.underlying22 rfl (by decide) _ ([] : List Int) cs _ _ _ rfl (own_empty _ _ 1 i64s) rfl (h.below hAA (Nat.le_refl _)) (by simp; omega) (by simp; omega) (by simp) ?_)
  intro v' w2 o2 hbel _
  go_wp2_with fail
  go_ret
  exact ⟨v', rfl, o2, hbel _ _ hAA (Nat.le_refl _)⟩

set_option maxRecDepth 100000 in
set_option maxHeartbeats 4000000 in
theorem implMakePool_any (v : Value) (cs : List Int) (st : Int) (w : World) (lo : Nat) (h : SlI w lo w.heap.size v cs) (hl : cs.length ≤ 2097152) :
    Calls Try.prog 19 #[v, .int .i64 st] w fun e w' => ∃ xn xd Q, e = .returned (.tuple #[.agg #[xn, xd, .int .i64 (makeF cs st).1.st], .int .i64 (makeF cs st).2]) ∧ OwI i64s 1 2 w' w.heap.size Q xn (makeF cs st).1.nums ∧ OwI i64s 1 2 w' Q w'.heap.size xd (makeF cs st).1.drawn ∧ w.heap.size ≤ Q ∧ Q ≤ w'.heap.size ∧ Below w.heap.size w w' := by
  go_enter Try.func19, Try.ntmps19
  go_wp2_with fail
  have b4 := Blk.new w 27 #[.slice none 0 0, .slice none 0 0, .int .i64 0]
  have hB1 : Below w.heap.size w (w.alloc (.cells #[.slice none 0 0, .slice none 0 0, .int .i64 0] 27)) := (Below.refl _ _).alloc (Nat.le_refl _) _
  generalize (w.alloc (.cells #[.slice none 0 0, .slice none 0 0, .int .i64 0] 27)) = w1 at *
  have z1 := hB1.size
  have l4 := b4.lt
  refine (cloneI_cap v cs w1 lo ((h.below hB1 (Nat.le_refl _)).more (Nat.le_refl _) z1) hl).mono ?_
  rintro e w2 ⟨rfl, o2, hb2⟩
  have hB2 := hB1.trans (hb2.mono z1)
  have z2 := hb2.size
  have b4 := b4.below' hb2
  have i2 : w1.heap.size ≤ w1.heap.size ∧ w1.heap.size < w2.heap.size := o2.own.lt _ rfl
  go_wp2_with fail
  have b6 := Blk.new w2 27 #[.slice (some ⟨w1.heap.size, 0, none⟩) cs.length cs.length, .slice none 0 0, .int .i64 st]
  have b4 := b4.alloc (.cells #[.slice (some ⟨w1.heap.size, 0, none⟩) cs.length cs.length, .slice none 0 0, .int .i64 st] 27)
  have o3 := o2.alloc (.cells #[.slice (some ⟨w1.heap.size, 0, none⟩) cs.length cs.length, .slice none 0 0, .int .i64 st] 27)
  have hB3 : Below w.heap.size w (w2.alloc (.cells #[.slice (some ⟨w1.heap.size, 0, none⟩) cs.length cs.length, .slice none 0 0, .int .i64 st] 27)) := hB2.alloc hB2.size _
  generalize (w2.alloc (.cells #[.slice (some ⟨w1.heap.size, 0, none⟩) cs.length cs.length, .slice none 0 0, .int .i64 st] 27)) = w3 at *
  refine (implIsPool_any _ _ ⟨cs, [], st⟩ w3 _ 0 (own_slI o3) (slI_nil _ _ _)).mono ?_
  rintro e w4 ⟨rfl, hb4⟩
  have hB4 := hB3.trans (hb4.mono hB3.size)
  have b4 := b4.below' hb4
  have b6 := b6.below' hb4
  have o4 := o3.below hb4
  have z4 := hB4.size
  have l6 := b6.lt
  have c0 : w4.cell? ⟨w.heap.size, 0, none⟩ = some (.slice none 0 0) := b4.cell 0
  have c1 : w4.cell? ⟨w.heap.size, 1, none⟩ = some (.slice none 0 0) := b4.cell 1
  have c2 : w4.cell? ⟨w.heap.size, 2, none⟩ = some (.int .i64 0) := b4.cell 2
  have f0 : w4.frozen? ⟨w.heap.size, 0, none⟩ = false := b4.frozen 0
  have f1 : w4.frozen? ⟨w.heap.size, 1, none⟩ = false := b4.frozen 1
  have f2 : w4.frozen? ⟨w.heap.size, 2, none⟩ = false := b4.frozen 2
  have d0 : w4.cell? ⟨w2.heap.size, 0, none⟩ = some (.slice (some ⟨w1.heap.size, 0, none⟩) cs.length cs.length) := b6.cell 0
  have d1 : w4.cell? ⟨w2.heap.size, 1, none⟩ = some (.slice none 0 0) := b6.cell 1
  have d2 : w4.cell? ⟨w2.heap.size, 2, none⟩ = some (.int .i64 st) := b6.cell 2
  cases h1 : poolOk ⟨cs, [], st⟩
  · have hF : makeF cs st = (⟨[], [], 0⟩, 1) := by simp [makeF, h1]
    go_wp2_with fail
    refine bodyPost_ret (v := .tuple #[.agg #[.slice none 0 0, .slice none 0 0, .int .i64 0], .int .i64 1]) (by simp [results, Try.results19, go_sem, c0, c1, c2]) rfl ⟨_, _, w.heap.size, by rw [hF], by rw [hF]; exact ownI_nil _ _ _ _, by rw [hF]; exact ownI_nil _ _ _ _, Nat.le_refl _, ?_, ?_⟩
    · simp; omega
    · repeat' refine Below.setCell ?_ (by simp; try omega) _
      exact hB4
  · have hF : makeF cs st = (⟨cs, [], st⟩, 0) := by simp [makeF, h1]
    go_wp2_with fail
    refine bodyPost_ret (v := .tuple #[.agg #[.slice (some ⟨w1.heap.size, 0, none⟩) cs.length cs.length, .slice none 0 0, .int .i64 st], .int .i64 0]) (by simp [results, Try.results19, go_sem, c0, c1, c2]) rfl ⟨_, _, w2.heap.size, by rw [hF], ?_, by rw [hF]; exact ownI_nil _ _ _ _, by omega, ?_, ?_⟩
    · rw [hF]
      refine ⟨?_, fun g hg => by have : w1.heap.size = g := Option.some.inj hg; omega⟩
      repeat' refine OwnR.setCell ?_ _ _ (fun k hk => by have : w1.heap.size = k := Option.some.inj hk; simp; omega)
      exact o4.more z1
    · simp; omega
    · repeat' refine Below.setCell ?_ (by simp; try omega) _
      exact hB4

set_option maxRecDepth 100000 in
set_option maxHeartbeats 4000000 in
theorem specMakePool_any (v : Value) (cs : List Int) (st : Int) (w : World) (lo : Nat) (h : SlI w lo w.heap.size v cs) (hl : cs.length ≤ 2097152) :
    Calls Try.prog 17 #[v, .int .i64 st] w fun e w' => ∃ xn xd, e = .returned (.tuple #[.agg #[xn, xd, .int .i64 (makeF cs st).1.st], .int .i64 (makeF cs st).2]) ∧ SlI w' w.heap.size w'.heap.size xn (makeF cs st).1.nums ∧ SlI w' w.heap.size w'.heap.size xd (makeF cs st).1.drawn ∧ Below w.heap.size w w' := by
  go_enter Try.func17, Try.ntmps17
  go_wp2_with fail
  have b4 := Blk.new w 27 #[.slice none 0 0, .slice none 0 0, .int .i64 0]
  have hB1 : Below w.heap.size w (w.alloc (.cells #[.slice none 0 0, .slice none 0 0, .int .i64 0] 27)) := (Below.refl _ _).alloc (Nat.le_refl _) _
  generalize (w.alloc (.cells #[.slice none 0 0, .slice none 0 0, .int .i64 0] 27)) = w1 at *
  have z1 := hB1.size
  have l4 := b4.lt
  refine (l01Own_any v cs w1 lo ((h.below hB1 (Nat.le_refl _)).more (Nat.le_refl _) z1) (by omega)).mono ?_
  rintro e w2 ⟨x2, rfl, o2, hb2⟩
  obtain ⟨X2, k2, rfl, hk21, hk22, _⟩ := own_form (OwnR.own o2)
  have hB2 := hB1.trans (hb2.mono z1)
  have z2 := hb2.size
  have b4 := b4.below' hb2
  go_wp2_with fail
  have e2 := own_empty w2 2 1 i64s
  have hz2 : (w2.alloc (.cells #[] 2)).heap.size = w2.heap.size + 1 := by simp
  have b4 := b4.alloc (.cells #[] 2)
  have o2 := o2.alloc (.cells #[] 2)
  have hB2' : Below w.heap.size w (w2.alloc (.cells #[] 2)) := hB2.alloc hB2.size _
  have b6 := Blk.new (w2.alloc (.cells #[] 2)) 27 #[.slice X2 cs.length k2, .slice (some ⟨w2.heap.size, 0, none⟩) 0 0, .int .i64 st]
  have b4 := b4.alloc (.cells #[.slice X2 cs.length k2, .slice (some ⟨w2.heap.size, 0, none⟩) 0 0, .int .i64 st] 27)
  have o3 := o2.alloc (.cells #[.slice X2 cs.length k2, .slice (some ⟨w2.heap.size, 0, none⟩) 0 0, .int .i64 st] 27)
  have e3 := e2.alloc (.cells #[.slice X2 cs.length k2, .slice (some ⟨w2.heap.size, 0, none⟩) 0 0, .int .i64 st] 27)
  have hB3 : Below w.heap.size w ((w2.alloc (.cells #[] 2)).alloc (.cells #[.slice X2 cs.length k2, .slice (some ⟨w2.heap.size, 0, none⟩) 0 0, .int .i64 st] 27)) := hB2'.alloc hB2'.size _
  generalize ((w2.alloc (.cells #[] 2)).alloc (.cells #[.slice X2 cs.length k2, .slice (some ⟨w2.heap.size, 0, none⟩) 0 0, .int .i64 st] 27)) = w3 at *
  rw [hz2] at b6
  refine (specIsPool_any _ _ ⟨cs, [], st⟩ w3 _ _ (own_slI o3) (own_slI e3)).mono ?_
  rintro e w4 ⟨rfl, hb4⟩
  have hB4 := hB3.trans (hb4.mono hB3.size)
  have b4 := b4.below' hb4
  have b6 := b6.below' hb4
  have o4 := o3.below hb4
  have e4 := e3.below hb4
  have z4 := hB4.size
  have l6 := b6.lt
  have c0 : w4.cell? ⟨w.heap.size, 0, none⟩ = some (.slice none 0 0) := b4.cell 0
  have c1 : w4.cell? ⟨w.heap.size, 1, none⟩ = some (.slice none 0 0) := b4.cell 1
  have c2 : w4.cell? ⟨w.heap.size, 2, none⟩ = some (.int .i64 0) := b4.cell 2
  have f0 : w4.frozen? ⟨w.heap.size, 0, none⟩ = false := b4.frozen 0
  have f1 : w4.frozen? ⟨w.heap.size, 1, none⟩ = false := b4.frozen 1
  have f2 : w4.frozen? ⟨w.heap.size, 2, none⟩ = false := b4.frozen 2
  have d0 : w4.cell? ⟨w2.heap.size + 1, 0, none⟩ = some (.slice X2 cs.length k2) := b6.cell 0
  have d1 : w4.cell? ⟨w2.heap.size + 1, 1, none⟩ = some (.slice (some ⟨w2.heap.size, 0, none⟩) 0 0) := b6.cell 1
  have d2 : w4.cell? ⟨w2.heap.size + 1, 2, none⟩ = some (.int .i64 st) := b6.cell 2
  cases h1 : poolOk ⟨cs, [], st⟩
  · have hF : makeF cs st = (⟨[], [], 0⟩, 1) := by simp [makeF, h1]
    go_wp2_with fail
    refine bodyPost_ret (v := .tuple #[.agg #[.slice none 0 0, .slice none 0 0, .int .i64 0], .int .i64 1]) (by simp [results, Try.results17, go_sem, c0, c1, c2]) rfl ⟨_, _, by rw [hF], by rw [hF]; exact slI_nil _ _ _, by rw [hF]; exact slI_nil _ _ _, ?_⟩
    repeat' refine Below.setCell ?_ (by simp; try omega) _
    exact hB4
  · have hF : makeF cs st = (⟨cs, [], st⟩, 0) := by simp [makeF, h1]
    go_wp2_with fail
    have i4 := Lib.hid (World.ownsRow.lt (OwnR.own o4))
    have hlast : ∀ W, Chg w.heap.size (w.heap.size + 1) w4 W → SlI W w.heap.size W.heap.size (.slice X2 cs.length k2) cs ∧ SlI W w.heap.size W.heap.size (.slice (some ⟨w2.heap.size, 0, none⟩) 0 0) [] := by
      intro W hc
      have q1 := (own_slI o4).chg hc (Nat.le_refl _) (by omega)
      have q2 := (own_slI e4).chg hc (Nat.le_refl _) (by omega)
      exact ⟨q1.more (by omega) hc.size, q2.more (by omega) hc.size⟩
    have Hlast := Lib.hid hlast
    clear hlast
    refine bodyPost_ret (v := .tuple #[.agg #[.slice X2 cs.length k2, .slice (some ⟨w2.heap.size, 0, none⟩) 0 0, .int .i64 st], .int .i64 0]) (by simp [results, Try.results17, go_sem, c0, c1, c2]) rfl ⟨_, _, by rw [hF], ?_, ?_, ?_⟩
    · rw [hF]
      refine (Hlast.out _ ?_).1
      repeat' refine Chg.setCell ?_ (by simp) _
      exact Chg.refl _ _ _
    · rw [hF]
      refine (Hlast.out _ ?_).2
      repeat' refine Chg.setCell ?_ (by simp) _
      exact Chg.refl _ _ _
    · repeat' refine Below.setCell ?_ (by simp; try omega) _
      exact hB4
end Go.Proofs.Ytfenedoalnieaaa
