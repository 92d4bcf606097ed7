/- serving, ServingOn, OverServed, BusiestDay: the program's and the reference's answer the same functions of the list. No condition but the sizes that the law itself asks. -/
import Derived.Test.YtiflpihjffhfhaaSortD
import Derived.Test.YtiflpihjffhfhaaTermD
namespace Go.Proofs.Ytiflpihjffhfhaa
open Go.RowKit

/-- A sorted set of numbers, made and cut by the library's calls, stays within new memory. -/
theorem below_own {v : Value} {zs : List Int} {w w' : World} {base B : Nat} {e : TypeId} (h : OwnR i64s 1 w base e v zs) (hg : w.grownBy w' v.ownBlock) {a0 : World} (hb : Below B a0 w) (hB : B ≤ base) (hz : base ≤ w.heap.size) : Below B a0 w' :=
  hb.grown hg (by omega) (fun k hk => by have := (h.own.lt k hk).1; omega)

def pickT (p : T3 → Bool) (cs : List T3) : List Int := (cs.filter p).map (·.num)
theorem pickT_yes {p : T3 → Bool} {cs : List T3} {k : Nat} {x : T3} (h : cs[k]? = some x) (hd : p x = true) : pickT p (cs.take (k + 1)) = pickT p (cs.take k) ++ [x.num] := by
  rw [take_snoc h]; simp [pickT, hd]
theorem pickT_no {p : T3 → Bool} {cs : List T3} {k : Nat} {x : T3} (h : cs[k]? = some x) (hd : p x = false) : pickT p (cs.take (k + 1)) = pickT p (cs.take k) := by
  rw [take_snoc h]; simp [pickT, hd]
theorem pickT_len (p : T3 → Bool) (cs : List T3) : (pickT p cs).length ≤ cs.length := by
  simp only [pickT, List.length_map]; exact List.length_filter_le _ _
def setOf (p : T3 → Bool) (cs : List T3) : List Int := insAll [] (pickT p cs)
theorem setOf_yes {p : T3 → Bool} {cs : List T3} {k : Nat} {x : T3} (h : cs[k]? = some x) (hd : p x = true) : setOf p (cs.take (k + 1)) = insU x.num (setOf p (cs.take k)) := by
  rw [setOf, pickT_yes h hd, insAll_snoc]; rfl
theorem setOf_no {p : T3 → Bool} {cs : List T3} {k : Nat} {x : T3} (h : cs[k]? = some x) (hd : p x = false) : setOf p (cs.take (k + 1)) = setOf p (cs.take k) := by
  rw [setOf, pickT_no h hd]; rfl
theorem setOf_len (p : T3 → Bool) (cs : List T3) : (setOf p cs).length ≤ cs.length := by
  have h1 := insAll_len (pickT p cs) []
  have h2 := pickT_len p cs
  unfold setOf; simp at h1; omega
def onP (d : Int) (t : T3) : Bool := inB d t.beg t.fin

set_option maxRecDepth 100000 in
set_option maxHeartbeats 2000000 in
theorem l07Serving_any (v : Value) (cs : List T3) (d : Int) (w : World) (lo : Nat) (h : SlT3 w lo w.heap.size v cs) (hl : cs.length ≤ 100) :
    Calls Try.prog 150 #[v, .int .i64 d] w fun e w' => ∃ v', e = .returned v' ∧ OwnR i64s 1 w' w.heap.size 2 v' (setOf (onP d) cs) ∧ Below w.heap.size w w' := by
  obtain ⟨A, c, rfl, hc1, hc2⟩ := h.form
  go_enter Try.func150, Try.ntmps150
  go_wp2_with fail
  go_loopw [5, 6] (fun q i wr => ∃ (k : Nat), i = .int .i64 k ∧ k ≤ cs.length ∧ OwnR i64s 1 wr w.heap.size 2 q (setOf (onP d) (cs.take k)) ∧ Below w.heap.size w wr) (fun q i wr => cs.length - (intOf i).toNat)
  case atStart => exact ⟨0, rfl, Nat.zero_le _, own_empty _ _ 1 i64s, (Below.refl _ _).alloc (Nat.le_refl _) _⟩
  case round =>
    obtain ⟨k, rfl, hk, hown, hbr⟩ := hrel
    by_cases hlt : k < cs.length
    · obtain ⟨x, hx⟩ := some_at hlt
      have hl2 := setOf_len (onP d) (cs.take k)
      rw [List.length_take] at hl2
      have hsz := hbr.size
      obtain ⟨b, off, rfl, _, hb, c0, c1, c2⟩ := ((h.below hbr (Nat.le_refl _)).more (Nat.le_refl _) hbr.size).T3_at hx
      have Hx := Lib.hid hx
      clear hx
      cases e1 : onP d x
      all_goals
        have e2 := e1
        unfold onP at e2
        go_wp2_with fail
        refine wp_region_ext (by kernel_rfl) (by kernel_rfl) ?_
        repeat (go_big_quiet_step ((go_at_call 103; exact calls_ext_same (l01In_as e2 _))))
        refine wpQuiet_nil ?_
        intro w2 hb2
        have hb2' : Below wr.heap.size wr w2 := by simpa using hb2
        have hB2 := hbr.trans (hb2'.mono hbr.size)
        have hown2 := hown.below hb2'
        obtain ⟨b2, off2, ee, _, hb2'', d0, d1, d2⟩ := ((h.below hB2 (Nat.le_refl _)).more (Nat.le_refl _) hB2.size).T3_at Hx.out
        injection ee with ee
        injection ee with ee1 ee2
        subst ee1 ee2
        go_wp2_with fail
      · go_roundw
        case rel => exact ⟨k + 1, by go_num, hlt, by rw [setOf_no Hx.out e1]; exact hown2, hB2⟩
        case measure => simp [intOf]; omega
      · refine (l07Insert_any _ _ x.num _ _ hown2 (by omega) hB2.size).mono ?_
        rintro e w3 ⟨v', rfl, o3, hb3⟩
        go_wp2_with fail
        go_roundw
        case rel => exact ⟨k + 1, by go_num, hlt, by rw [setOf_yes Hx.out e1]; exact o3, hb3 _ _ hB2 (Nat.le_refl _)⟩
        case measure => simp [intOf]; omega
    · have hkn : k = cs.length := by omega
      subst hkn
      rw [List.take_length] at hown
      go_wp2_with fail
      go_ret
      exact ⟨_, rfl, hown, hbr⟩

set_option maxRecDepth 100000 in
set_option maxHeartbeats 2000000 in
theorem serving_any (v : Value) (cs : List T3) (d : Int) (w : World) (lo : Nat) (h : SlT3 w lo w.heap.size v cs) (hl : cs.length ≤ 100) :
    Calls Try.prog 149 #[v, .int .i64 d] w fun e w' => ∃ v', e = .returned v' ∧ OwnR i64s 1 w' w.heap.size 2 v' (setOf (onP d) cs) ∧ Below w.heap.size w w' := by
  obtain ⟨A, c, rfl, hc1, hc2⟩ := h.form
  go_enter Try.func149, Try.ntmps149
  go_wp2_with fail
  go_loopw [5, 11] (fun q i wr => ∃ (k : Nat), i = .int .i64 k ∧ k ≤ cs.length ∧ OwnR i64s 1 wr w.heap.size 2 q (pickT (onP d) (cs.take k)) ∧ Below w.heap.size w wr) (fun q i wr => cs.length - (intOf i).toNat)
  case atStart => exact ⟨0, rfl, Nat.zero_le _, own_empty _ _ 1 i64s, (Below.refl _ _).alloc (Nat.le_refl _) _⟩
  case round =>
    obtain ⟨k, rfl, hk, hown, hbr⟩ := hrel
    have hsz := hbr.size
    by_cases hlt : k < cs.length
    · obtain ⟨x, hx⟩ := some_at hlt
      have hl2 := pickT_len (onP d) (cs.take k)
      rw [List.length_take] at hl2
      obtain ⟨b, off, rfl, _, hb, c0, c1, c2⟩ := ((h.below hbr (Nat.le_refl _)).more (Nat.le_refl _) hbr.size).T3_at hx
      have hb' : b < wr.heap.size + 1 := by omega
      have Hx := Lib.hid hx
      clear hx
      have hown1 := hown.alloc (.cells #[.int .i64 x.num, .int .i64 x.beg, .int .i64 x.fin] 65)
      have hB2 : Below w.heap.size w (wr.alloc (.cells #[.int .i64 x.num, .int .i64 x.beg, .int .i64 x.fin] 65)) := hbr.alloc hbr.size _
      go_wp2_with fail
      have b0 := Blk.new wr 65 #[.int .i64 x.num, .int .i64 x.beg, .int .i64 x.fin]
      generalize (wr.alloc (.cells #[.int .i64 x.num, .int .i64 x.beg, .int .i64 x.fin] 65)) = w3 at *
      have d0 : w3.cell? ⟨wr.heap.size, 0, none⟩ = some (.int .i64 x.num) := b0.cell 0
      refine (within_any d _ _ _).mono ?_
      rintro e w2 ⟨rfl, rfl⟩
      cases e1 : onP d x
      · have e2 := e1
        unfold onP at e2
        go_wp2_with fail
        go_roundw
        case rel => exact ⟨k + 1, by go_num, hlt, by rw [pickT_no Hx.out e1]; exact hown1, hB2⟩
        case measure => simp [intOf]; omega
      · have e2 := e1
        unfold onP at e2
        have z2 := hB2.size
        go_wp2_with (at_builtin; refine wpList_append_rec (f := i64s) (s := 1) 2 _ _ (fun _ => rfl) i64s_one rfl _ _ 24 rfl w.heap.size Try.infoI Try.underlying24 rfl (by decide) _ _ x.num rfl hown1 rfl rfl rfl (by omega) (by omega) z2 ?_)
        intro v' w' hown' hbel
        go_wp2_with fail
        go_roundw
        case rel => exact ⟨k + 1, by go_num, hlt, by rw [pickT_yes Hx.out e1]; exact hown', hbel _ _ hB2 (Nat.le_refl _)⟩
        case measure => simp [intOf]; omega
    · have hkn : k = cs.length := by omega
      subst hkn
      rw [List.take_length] at hown
      have hl2 := pickT_len (onP d) cs
      go_wp2_with fail
      refine (sortedSet_any _ _ _ _ hown (by omega)).mono ?_
      rintro e w2 ⟨v', rfl, o2, hg2⟩
      go_wp2_with fail
      go_ret
      exact ⟨_, rfl, by rw [setOf, ← setL_eq]; exact o2, below_own hown hg2 hbr (Nat.le_refl _) hsz⟩

def servingOnF (cs : List T3) (d : Int) : List Int × Int := if termsCode cs 1 d = 0 then (setOf (onP d) cs, 0) else ([], termsCode cs 1 d)
theorem servingOnF_len (cs : List T3) (d : Int) : (servingOnF cs d).1.length ≤ cs.length := by
  unfold servingOnF; split
  · exact setOf_len _ cs
  · simp
set_option maxHeartbeats 1000000 in
theorem specServingOn_any (v : Value) (cs : List T3) (d : Int) (w : World) (lo : Nat) (h : SlT3 w lo w.heap.size v cs) :
    Calls Try.prog 79 #[v, .int .i64 d] w fun e w' => ∃ v', e = .returned (.tuple #[v', .int .i64 (servingOnF cs d).2]) ∧ OwnR i64s 1 w' w.heap.size 2 v' (servingOnF cs d).1 ∧ Below w.heap.size w w' := by
  go_enter Try.func79, Try.ntmps79
  go_wp2_with fail
  refine (l07Code_any v cs 1 d w lo h).mono ?_
  rintro e w1 ⟨rfl, hb1⟩
  by_cases hc : termsCode cs 1 d = 0
  · obtain ⟨h1, _, hd⟩ := termsCode_zero hc
    have hF : servingOnF cs d = (setOf (onP d) cs, 0) := by simp [servingOnF, hc]
    have HF := Lib.hid hF
    clear hF
    rw [hc]
    have h' := (h.below hb1 (Nat.le_refl _)).more (Nat.le_refl _) hb1.size
    go_wp2_with fail
    refine (l07Serving_any v cs d w1 lo h' (by have := (termsOk_all h1).2; omega)).mono ?_
    rintro e w2 ⟨v', rfl, o2, hb2⟩
    go_wp2_with fail
    go_ret2
    exact ⟨v', by rw [HF.out]; rfl, by rw [HF.out]; exact o2.more hb1.size, hb1.trans (hb2.mono hb1.size)⟩
  · have hF : servingOnF cs d = ([], termsCode cs 1 d) := by simp [servingOnF, hc]
    have hne : (termsCode cs 1 d != 0) = true := by simp [hc]
    go_wp2_with fail
    go_ret2
    exact ⟨.slice none 0 0, by rw [hF]; rfl, by rw [hF]; exact own_nil _ _ _ _ _, hb1⟩
set_option maxHeartbeats 1000000 in
theorem implServingOn_any (v : Value) (cs : List T3) (d : Int) (w : World) (lo : Nat) (h : SlT3 w lo w.heap.size v cs) :
    Calls Try.prog 78 #[v, .int .i64 d] w fun e w' => ∃ v', e = .returned (.tuple #[v', .int .i64 (servingOnF cs d).2]) ∧ OwnR i64s 1 w' w.heap.size 2 v' (servingOnF cs d).1 ∧ Below w.heap.size w w' := by
  go_enter Try.func78, Try.ntmps78
  go_wp2_with fail
  refine (termCode_any v cs 1 d w lo h).mono ?_
  rintro e w1 ⟨rfl, hb1⟩
  by_cases hc : termsCode cs 1 d = 0
  · obtain ⟨h1, _, hd⟩ := termsCode_zero hc
    have hF : servingOnF cs d = (setOf (onP d) cs, 0) := by simp [servingOnF, hc]
    have HF := Lib.hid hF
    clear hF
    rw [hc]
    have h' := (h.below hb1 (Nat.le_refl _)).more (Nat.le_refl _) hb1.size
    go_wp2_with fail
    refine (serving_any v cs d w1 lo h' (by have := (termsOk_all h1).2; omega)).mono ?_
    rintro e w2 ⟨v', rfl, o2, hb2⟩
    go_wp2_with fail
    go_ret2
    exact ⟨v', by rw [HF.out]; rfl, by rw [HF.out]; exact o2.more hb1.size, hb1.trans (hb2.mono hb1.size)⟩
  · have hF : servingOnF cs d = ([], termsCode cs 1 d) := by simp [servingOnF, hc]
    have hne : (termsCode cs 1 d != 0) = true := by simp [hc]
    go_wp2_with fail
    go_ret2
    exact ⟨.slice none 0 0, by rw [hF]; rfl, by rw [hF]; exact own_nil _ _ _ _ _, hb1⟩
end Go.Proofs.Ytiflpihjffhfhaa
