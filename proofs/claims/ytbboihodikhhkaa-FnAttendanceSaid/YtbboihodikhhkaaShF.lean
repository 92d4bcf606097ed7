/- Who was called and who was present on a day: contracts of the program's and the reference's helpers; AbsentOn, UncalledOn. No condition but the sizes that the law itself asks. -/
import Derived.Test.YtbboihodikhhkaaShE
import Derived.Test.YtbboihodikhhkaaDel
import Derived.Test.YtbboihodikhhkaaIns
import Derived.Test.YtbboihodikhhkaaCallC
namespace Go.Proofs.Ytbboihodikhhkaa
open Go.RowKit
attribute [local go_sem ↓] Go.wp_at_zero Go.wp_at_succ

theorem region_np {P : Program} {id : Nat} {ops : Array Oper} {b : Bool} {K : Act → World → Prop} {Q' : Exit → Act → World → Prop} {a : Act} {w : World} (h : (Code.region id ops b).wp P (Exit.then K fun _ _ _ => False) a w) : (Code.region id ops b).wp P (Exit.then K Q') a w :=
  Code.wp_mono (fun e a w h => by cases e <;> first | exact h | exact (h : False).elim) h
theorem slI_nil (w : World) (lo hi : Nat) : SlI w lo hi (.slice none 0 0) [] := SlR.none (f := i64s) (s := 1) (fun _ => rfl) w lo hi none (by omega)

set_option maxHeartbeats 1000000 in
theorem cloneI_cap (v : Value) (cs : List Int) (w : World) (lo : Nat) (h : SlR i64s 1 w lo w.heap.size v cs) (hn : cs.length ≤ 2097152) :
    Calls Try.prog 78 #[v] w fun e w' => e = .returned (.slice (some ⟨w.heap.size, 0, none⟩) cs.length cs.length) ∧ OwnR i64s 1 w' w.heap.size 2 (.slice (some ⟨w.heap.size, 0, none⟩) cs.length cs.length) cs ∧ Below w.heap.size w w' := by
  obtain ⟨i0, hi, hz0, hz1, hz2⟩ := info_parts Try.infoI
  obtain ⟨A, c, rfl, hc1, hc2⟩ := h.form
  go_enter Try.func78, Try.ntmps78
  go_wp2_with (first | (at_make; refine wpList_make_own _ rfl _ _ 39 rfl w.heap.size 2 i0 _ 1 Try.underlying39 hi hz0 hz1 _ _ _ cs.length rfl rfl rfl ?c2 ?c3 ?c4 ?_))
  case c2 => rw [hz2]; omega
  case c3 => unfold maxLen; omega
  case c4 => exact Nat.le_refl _
  intro w1 hown hgrow
  have hb1 : Below w.heap.size w w1 := (Below.refl _ _).grown hgrow (Nat.le_refl _) (by intro k h; cases h)
  have h1 := h.below hb1 (Nat.le_refl _)
  have o1 : OwnR i64s 1 w1 w.heap.size 2 (.slice (some ⟨w.heap.size, 0, none⟩) 0 cs.length) ([] : List Int) := hown
  clear hgrow hi hz0 hz1 hz2 i0 hown
  have hsz := hb1.size
  go_wp2_with (at_builtin; refine wpList_append_in (f := i64s) (s := 1) _ (fun _ => rfl) i64s_one rfl _ _ 39 rfl w.heap.size 2 Try.infoI Try.underlying39 w.heap.size 0 cs.length ([] : List Int) cs _ _ _ rfl o1 rfl h1 cs.length (Nat.zero_add _) (Nat.le_refl _) ?_)
  intro w' o2 hg2
  have hb2 := Below.grown hb1 hg2 hb1.size (by intro q hq; have hq := Option.some.inj hq; omega)
  go_wp2_with fail
  go_ret
  exact ⟨rfl, o2, hb2⟩

def lessOut (a b : List Int) : List Int := a.filter fun x => !hasB x b
theorem lessOut_len (a b : List Int) : (lessOut a b).length ≤ a.length := List.length_filter_le _ _
set_option maxHeartbeats 1000000 in
theorem withoutFn_gives (vs : Value) (ns : List Int) (x : Int) (B lo hi : Nat) (W : World) (hc : W.cell? ⟨B, 0, none⟩ = some vs) (hd : SlI W lo hi vs ns) :
    FnGives Try.prog 88 #[.pointer (some ⟨B, 0, none⟩)] #[.int .i64 x] (.bool (hasB x ns)) W := by
  obtain ⟨A, c, rfl, hc1, hc2⟩ := hd.form
  show Calls Try.prog 88 #[.int .i64 x, .pointer (some ⟨B, 0, none⟩)] W _
  go_enter Try.func88, Try.ntmps88
  go_wp2_with fail
  refine (has_any _ ns x W lo hi hd).mono ?_
  rintro e w1 ⟨rfl, rfl⟩
  go_wp2_with fail
  go_ret
  exact ⟨rfl, 0, rfl⟩
set_option maxHeartbeats 2000000 in
theorem without_any (va vb : Value) (a b : List Int) (w : World) (lo lo' : Nat) (ha : SlI w lo w.heap.size va a) (hb : SlI w lo' w.heap.size vb b) (hl : a.length ≤ 2097152) :
    Calls Try.prog 62 #[va, vb] w fun e w' => ∃ v', e = .returned v' ∧ OwnR i64s 1 w' w.heap.size 2 v' (lessOut a b) ∧ Below w.heap.size w w' := by
  have hmf : ∀ (fn : Fn) (first cap : Array Value) (w : World), (Instr.makeFunc fn first cap).run Try.prog w = .ok (.func fn first cap) w := fun _ _ _ _ => rfl
  obtain ⟨A, c, rfl, hc1, hc2⟩ := ha.form
  obtain ⟨A', c', rfl, hc1', hc2'⟩ := hb.form
  go_enter Try.func62, Try.ntmps62
  go_wp2_with fail
  have b1 := Blk.new w 39 #[.slice A' b.length c']
  have hB1 : Below w.heap.size w (w.alloc (.cells #[.slice A' b.length c'] 39)) := (Below.refl _ _).alloc (Nat.le_refl _) _
  have ha1 := (ha.below hB1 (Nat.le_refl _)).more (Nat.le_refl _) hB1.size
  have hb1 := hb.below hB1 (Nat.le_refl _)
  generalize w.alloc (.cells #[.slice A' b.length c'] 39) = w1 at *
  have z1 := hB1.size
  refine (cloneI_cap _ a w1 lo ha1 hl).mono ?_
  rintro e w2 ⟨rfl, o2, hb2⟩
  have hB2 := hB1.trans (hb2.mono z1)
  have b2 := b1.below' hb2
  have hd2 := hb1.below hb2 z1
  have q1 := b1.lt
  have q2 := o2.own.lt _ rfl
  go_wp2_with fail
  refine (deleteFunc_any 88 #[.pointer (some ⟨w.heap.size, 0, none⟩)] (fun x => hasB x b) w1.heap.size _ _ a w2 w1.heap.size o2 (enters_of Try.func88 (by kernel_rfl) rfl) ?hw).mono ?_
  case hw =>
    intro W x hg
    have b3 := b2.grown hg (by intro e; have := Option.some.inj e; omega)
    exact withoutFn_gives _ b x w.heap.size lo' w.heap.size W (b3.cell 0) (hd2.grown hg (by have := hB2.size; omega) (by intro g e; have := Option.some.inj e; right; omega))
  rintro e w3 ⟨m, rfl, o3, hg3⟩
  go_wp2_with fail
  go_ret
  exact ⟨_, rfl, o3.more z1, hB2.grown hg3 hB2.size (by intro q hq; have := Option.some.inj hq; omega)⟩

set_option maxRecDepth 100000 in
set_option maxHeartbeats 2000000 in
theorem l11Without_any (va vb : Value) (a b : List Int) (w : World) (lo lo' : Nat) (ha : SlI w lo w.heap.size va a) (hb : SlI w lo' w.heap.size vb b) (hl : a.length ≤ 2097152) :
    Calls Try.prog 64 #[va, vb] w fun e w' => ∃ v', e = .returned v' ∧ OwnR i64s 1 w' w.heap.size 2 v' (lessOut a b) ∧ Below w.heap.size w w' := by
  obtain ⟨A, c, rfl, hc1, hc2⟩ := ha.form
  obtain ⟨A', c', rfl, hc1', hc2'⟩ := hb.form
  have up : ∀ {v : Value} {zs : List Int} {lo : Nat} {w1 : World}, SlI w lo w.heap.size v zs → Below w.heap.size w w1 → SlI w1 lo w1.heap.size v zs := fun h hb => (h.below hb (Nat.le_refl _)).more (Nat.le_refl _) hb.size
  go_enter Try.func64, Try.ntmps64
  go_wp2_with fail
  go_loopw [5, 6] (fun q i wr => ∃ (k : Nat), i = .int .i64 k ∧ k ≤ a.length ∧ OwnR i64s 1 wr w.heap.size 2 q (lessOut (a.take k) b) ∧ Below w.heap.size w wr) (fun q i wr => a.length - (intOf i).toNat)
  case atStart => exact ⟨0, rfl, Nat.zero_le _, own_empty w 2 1 i64s, (Below.refl _ _).alloc (Nat.le_refl _) _⟩
  case round =>
    obtain ⟨k, rfl, hk, hown, hbr⟩ := hrel
    have zr := hbr.size
    by_cases hlt : k < a.length
    · obtain ⟨x, hx⟩ := some_at hlt
      obtain ⟨b1, off, rfl, _, hbb, c0⟩ := (up ha hbr).int_at hx
      have hfl := lessOut_len (a.take k) b
      rw [List.length_take] at hfl
      have hstep : lessOut (a.take (k + 1)) b = lessOut (a.take k) b ++ if hasB x b = true then [] else [x] := by
        rw [lessOut, take_snoc hx, List.filter_append]
        cases e : hasB x b <;> simp [e, lessOut]
      have Hstep := Lib.hid hstep
      clear hx hstep
      have hbr2 := up hb hbr
      cases e1 : hasB x b
      · go_wp2_with (first | (go_at_call 42; refine (l01Has_as e1 hbr2).mono ?_; rintro e w' ⟨rfl, rfl⟩) | (at_builtin; refine wpList_append_rec (f := i64s) (s := 1) 2 _ _ (fun _ => rfl) i64s_one rfl _ _ 39 rfl w.heap.size Try.infoI Try.underlying39 rfl (by decide) _ _ x rfl hown rfl rfl rfl (by omega) (by omega) zr ?_))
        intro v' w' hown' hbel
        go_wp2_with fail
        go_roundw
        case rel => exact ⟨k + 1, by go_num, hlt, by rw [Hstep.out, e1]; exact hown', hbel _ _ hbr (Nat.le_refl _)⟩
        case measure => simp [intOf]; omega
      · go_wp2_with (go_at_call 42; refine (l01Has_as e1 hbr2).mono ?_; rintro e w' ⟨rfl, rfl⟩)
        go_roundw
        case rel => exact ⟨k + 1, by go_num, hlt, by rw [Hstep.out, e1]; simpa using hown, hbr⟩
        case measure => simp [intOf]; omega
    · have hkn : k = a.length := by omega
      subst hkn
      rw [List.take_length] at hown
      go_wp2_with fail
      go_ret
      exact ⟨_, rfl, hown, hbr⟩

/-! the sheet of a day -/
def ltLen (day : Int) : List (Int × List Int) → Nat
  | [] => 0
  | x :: t => if x.1 < day then ltLen day t + 1 else 0
def foundB (day : Int) : List (Int × List Int) → Bool
  | [] => false
  | x :: t => if x.1 < day then foundB day t else x.1 == day
def presAt (day : Int) : List (Int × List Int) → List Int
  | [] => []
  | x :: t => if x.1 < day then presAt day t else x.2
def findGo (day : Int) : Int → List (Int × List Int) → Int
  | _, [] => -1
  | k, x :: t => if (x.1 == day) = true then k else findGo day (k + 1) t
theorem ltLen_le (day : Int) : ∀ z, ltLen day z ≤ z.length
  | [] => Nat.zero_le _
  | x :: t => by
    have := ltLen_le day t
    rw [ltLen]; split <;> simp <;> omega
theorem found_at (day : Int) : ∀ z, foundB day z = true → ∃ x, z[ltLen day z]? = some x ∧ x.1 = day ∧ x.2 = presAt day z
  | [], h => by simp [foundB] at h
  | x :: t, h => by
    rw [foundB] at h
    rw [ltLen, presAt]
    by_cases e : x.1 < day
    · rw [if_pos e] at h ⊢
      rw [if_pos e]
      obtain ⟨y, h1, h2, h3⟩ := found_at day t h
      exact ⟨y, by simpa using h1, h2, h3⟩
    · rw [if_neg e] at h ⊢
      rw [if_neg e]
      exact ⟨x, rfl, by simpa using h, rfl⟩
theorem sheetsGo_rises : ∀ (z : List (Int × List Int)) (p : Option Int), sheetsGo p z = true → z.Pairwise (fun a b => a.1 < b.1) ∧ (∀ q, p = some q → ∀ x ∈ z, q < x.1) ∧ ∀ x ∈ z, okH x.1 x.2 = true
  | [], _, _ => by simp
  | x :: t, p, h => by
    rw [sheetsGo] at h
    simp only [Bool.and_eq_true] at h
    obtain ⟨h1, h2, h3⟩ := sheetsGo_rises t _ h.2
    refine ⟨List.pairwise_cons.2 ⟨fun y hy => h2 _ rfl y hy, h1⟩, fun q hq y hy => ?_, fun y hy => ?_⟩
    · subst hq
      have h4 : q < x.1 := by simpa [aboveB] using h.1.2
      rcases List.mem_cons.1 hy with rfl | hy
      · exact h4
      · have := h2 _ rfl y hy; omega
    · rcases List.mem_cons.1 hy with rfl | hy
      · exact h.1.1
      · exact h3 y hy
theorem findGo_no (day : Int) : ∀ (z : List (Int × List Int)) (k : Int), (∀ x ∈ z, x.1 ≠ day) → findGo day k z = -1
  | [], _, _ => rfl
  | x :: t, k, h => by
    have e : (x.1 == day) = false := by simpa using h x (by simp)
    rw [findGo, e]
    exact findGo_no day t _ (fun y hy => h y (by simp [hy]))
theorem findGo_eq (day : Int) : ∀ (z : List (Int × List Int)) (k : Int), z.Pairwise (fun a b => a.1 < b.1) → findGo day k z = if foundB day z = true then k + (ltLen day z : Int) else -1
  | [], _, _ => by simp [findGo, foundB]
  | x :: t, k, h => by
    have h := List.pairwise_cons.1 h
    rw [findGo, foundB, ltLen]
    by_cases e : x.1 < day
    · have e2 : (x.1 == day) = false := by simp; omega
      rw [e2, if_pos e, if_pos e, findGo_eq day t _ h.2]
      simp only [Bool.false_eq_true, if_false]
      split
      · push_cast; omega
      · rfl
    · rw [if_neg e, if_neg e]
      by_cases e2 : (x.1 == day) = true
      · rw [if_pos e2, if_pos e2]; simp
      · rw [if_neg e2, if_neg e2]
        exact findGo_no day t _ (fun y hy => by have := h.1 y hy; omega)

def attCode (z : List (Int × List Int)) (cs : List C4) (day : Int) : Int := if (sheetsOk z && callsOk cs) = true then if inB day 0 20000 = true then if foundB day z = true then 0 else 4 else 2 else 1
end Go.Proofs.Ytbboihodikhhkaa
