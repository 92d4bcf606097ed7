/- AnswerSummons: the program's and the reference's answer the same function. No condition but the sizes that the law itself asks. -/
import Derived.Test.YtiflpihjffhfhaaSummC
namespace Go.Proofs.Ytiflpihjffhfhaa
open Go.RowKit

theorem risesGoS5_up : ∀ (xs : List S5) (p : Option S5), risesGoS5 p xs = true → xs.Pairwise (fun a b => a.num < b.num) ∧ ∀ q, p = some q → ∀ t ∈ xs, q.num < t.num
  | [], _, _ => by simp
  | t :: r, p, h => by
    rw [risesGoS5] at h
    simp only [Bool.and_eq_true] at h
    obtain ⟨h2, h3⟩ := risesGoS5_up r _ h.2
    refine ⟨List.pairwise_cons.2 ⟨h3 t rfl, h2⟩, fun q hq u hu => ?_⟩
    subst hq
    have h4 : q.num < t.num := by simpa [S5.behind] using h.1.2
    rcases List.mem_cons.1 hu with rfl | hu
    · exact h4
    · have := h3 t rfl u hu; omega
theorem listOkS5_up {xs : List S5} (h : listOkS5 xs = true) : xs.Pairwise (fun a b => a.num < b.num) := by
  simp only [listOkS5, Bool.and_eq_true, decide_eq_true_eq] at h
  exact (risesGoS5_up xs none h.1).1

/-- Where the element with number n is, or -1; where it would be in a list that rises. -/
def S5.atGo (n : Int) : Nat → List S5 → Int
  | _, [] => -1
  | k, x :: t => if x.num = n then (k : Int) else S5.atGo n (k + 1) t
def S5.place (n : Int) : List S5 → Nat
  | [] => 0
  | x :: t => if x.num < n then S5.place n t + 1 else 0
def S5.foundB (n : Int) (cs : List S5) : Bool := match cs[S5.place n cs]? with
  | some x => x.num == n
  | none => false
theorem S5.place_le (n : Int) : ∀ cs : List S5, S5.place n cs ≤ cs.length
  | [] => Nat.le_refl _
  | x :: t => by
    have := S5.place_le n t
    rw [S5.place]; split <;> simp <;> omega
theorem S5.atGo_none {n : Int} : ∀ {cs : List S5} {k : Nat}, (∀ x ∈ cs, x.num ≠ n) → S5.atGo n k cs = -1
  | [], _, _ => rfl
  | x :: t, k, h => by
    rw [S5.atGo, if_neg (h x (by simp))]
    exact S5.atGo_none fun y hy => h y (by simp [hy])
theorem S5.atGo_cases (n : Int) : ∀ (cs : List S5) (k : Nat), S5.atGo n k cs = -1 ∧ (∀ x ∈ cs, x.num ≠ n) ∨ ∃ i x, S5.atGo n k cs = ((k + i : Nat) : Int) ∧ cs[i]? = some x ∧ x.num = n
  | [], _ => .inl ⟨rfl, by simp⟩
  | x :: t, k => by
    rw [S5.atGo]
    by_cases h : x.num = n
    · rw [if_pos h]; exact .inr ⟨0, x, by simp, rfl, h⟩
    · rw [if_neg h]
      rcases S5.atGo_cases n t (k + 1) with ⟨h1, h2⟩ | ⟨i, y, h1, h2, h3⟩
      · exact .inl ⟨h1, fun y hy => by rcases List.mem_cons.1 hy with rfl | hy; exact h; exact h2 y hy⟩
      · exact .inr ⟨i + 1, y, by rw [h1]; congr 1; omega, by simpa using h2, h3⟩
theorem S5.place_head {n : Int} {x : S5} {t : List S5} (h : x.num < n) : S5.place n (x :: t) = S5.place n t + 1 := by rw [S5.place, if_pos h]
theorem S5.place_stop {n : Int} {x : S5} {t : List S5} (h : ¬ x.num < n) : S5.place n (x :: t) = 0 := by rw [S5.place, if_neg h]
theorem S5.foundB_eq {n : Int} {cs : List S5} {k : Nat} {x : S5} (hk : S5.place n cs = k) (hx : cs[k]? = some x) : S5.foundB n cs = (x.num == n) := by unfold S5.foundB; rw [hk, hx]
theorem S5.foundB_end {n : Int} {cs : List S5} (hk : S5.place n cs = cs.length) : S5.foundB n cs = false := by unfold S5.foundB; rw [hk, List.getElem?_eq_none (Nat.le_refl _)]
/-- In a list that rises the two searches agree. -/
theorem S5.find_agree (n : Int) : ∀ (cs : List S5) (k : Nat), cs.Pairwise (fun a b => a.num < b.num) → S5.atGo n k cs = if S5.foundB n cs = true then ((k + S5.place n cs : Nat) : Int) else -1
  | [], k, _ => rfl
  | x :: t, k, h => by
    have ht := (List.pairwise_cons.1 h)
    by_cases h1 : x.num < n
    · have ih := S5.find_agree n t (k + 1) ht.2
      have e : S5.foundB n (x :: t) = S5.foundB n t := by unfold S5.foundB; rw [S5.place_head h1]; simp
      rw [S5.atGo, if_neg (by omega), ih, e, S5.place_head h1]
      split
      · congr 1; omega
      · rfl
    · have e : S5.foundB n (x :: t) = (x.num == n) := S5.foundB_eq (S5.place_stop h1) rfl
      rw [e, S5.place_stop h1, S5.atGo]
      by_cases h2 : x.num = n
      · simp [h2]
      · rw [if_neg h2, if_neg (by simpa using h2)]
        exact S5.atGo_none fun y hy => by have := ht.1 y hy; omega

set_option maxHeartbeats 400000 in
theorem findS5_any (v : Value) (cs : List S5) (n : Int) (w : World) (lo hi : Nat) (h : SlS5 w lo hi v cs) :
    Calls Try.prog 134 #[v, .int .i64 n] w fun e w' => e = .returned (.int .i64 (S5.atGo n 0 cs)) ∧ w = w' := by
  obtain ⟨A, c, rfl, hc1, hc2⟩ := h.form
  go_enter Try.func134, Try.ntmps134
  go_wp2_with fail
  go_loop [5] (fun i => ∃ (k : Nat), i = .int .i64 k ∧ k ≤ cs.length ∧ Hid (S5.atGo n 0 cs = S5.atGo n k (cs.drop k))) (fun i => cs.length - (intOf i).toNat)
  case atStart => exact ⟨0, rfl, Nat.zero_le _, Lib.hid rfl⟩
  case round =>
    obtain ⟨k, rfl, hk, Hgo⟩ := hrel
    by_cases hlt : k < cs.length
    · obtain ⟨x, hx⟩ := some_at hlt
      obtain ⟨b, off, rfl, _, hb, c0, cr⟩ := h.S5_at hx
      clear cr
      have hd := drop_cons hx
      have Hd := Lib.hid hd
      clear hx hd
      by_cases e1 : x.num = n
      · go_wp2_with fail
        go_ret
        exact ⟨ret_int (by rw [Hgo.out, Hd.out, S5.atGo, if_pos e1]), rfl⟩
      · have e2 : (x.num == n) = false := by simpa using e1
        go_wp2_with fail
        go_round
        case rel => exact ⟨k + 1, by go_num, hlt, Lib.hid (by rw [Hgo.out, Hd.out, S5.atGo, if_neg e1])⟩
        case measure => simp [intOf]; omega
    · have hkn : k = cs.length := by omega
      subst hkn
      go_wp2_with fail
      go_ret
      exact ⟨ret_int (by rw [Hgo.out, List.drop_length]; rfl), rfl⟩

set_option maxHeartbeats 1000000 in
theorem ofS5_any (v : Value) (cs : List S5) (n : Int) (w : World) (lo hi : Nat) (h : SlS5 w lo hi v cs) (hh : hi ≤ w.heap.size) :
    Calls Try.prog 130 #[v, .int .i64 n] w fun e w' => e = .returned (.tuple #[.int .i64 (S5.place n cs : Nat), .bool (S5.foundB n cs)]) ∧ Below w.heap.size w w' := by
  obtain ⟨A, c, rfl, hc1, hc2⟩ := h.form
  go_enter Try.func130, Try.ntmps130
  go_wp2_with fail
  go_loop [6] (fun i => ∃ (k : Nat), i = .int .i64 k ∧ k ≤ cs.length ∧ Hid (S5.place n cs = k + S5.place n (cs.drop k))) (fun i => cs.length - (intOf i).toNat)
  case atStart => exact ⟨0, rfl, Nat.zero_le _, Lib.hid (by simp)⟩
  case round =>
    obtain ⟨k, rfl, hk, Hgo⟩ := hrel
    by_cases hlt : k < cs.length
    · obtain ⟨x, hx⟩ := some_at hlt
      obtain ⟨b, off, rfl, _, hb, c0, cr⟩ := (h.more (Nat.le_refl _) hh).S5_at hx
      clear cr
      have hd := drop_cons hx
      have Hd := Lib.hid hd
      have Hx := Lib.hid hx
      clear hx hd
      by_cases e1 : x.num < n
      · go_wp2_with fail
        go_round
        case rel => exact ⟨k + 1, by go_num, hlt, Lib.hid (by rw [Hgo.out, Hd.out, S5.place_head e1]; omega)⟩
        case measure => simp [intOf]; omega
      · have hkp : S5.place n cs = k := by rw [Hgo.out, Hd.out, S5.place_stop e1]; rfl
        have Hkp := Lib.hid hkp
        clear hkp
        have q1 : decide ((k : Int) < (cs.length : Int)) = true := by simp; omega
        have q2 : decide (k < cs.length) = true := by simp; omega
        go_wp2_with fail
        refine wp_region_ext (by kernel_rfl) (by kernel_rfl) ?_
        repeat (go_big_quiet_step (fail))
        refine wpQuiet_nil ?_
        intro w2 hb2
        go_wp2_with fail
        go_ret2
        exact ⟨by rw [S5.foundB_eq Hkp.out Hx.out, Hkp.out]; rfl, hb2⟩
    · have hkn : k = cs.length := by omega
      subst hkn
      have hkp : S5.place n cs = cs.length := by rw [Hgo.out, List.drop_length]; rfl
      have Hkp := Lib.hid hkp
      clear hkp
      go_wp2_with fail
      refine wp_region_ext (by kernel_rfl) (by kernel_rfl) ?_
      repeat (go_big_quiet_step (fail))
      refine wpQuiet_nil ?_
      intro w2 hb2
      go_wp2_with fail
      go_ret2
      exact ⟨by rw [S5.foundB_end Hkp.out, Hkp.out]; rfl, hb2⟩

theorem atGoS_neg {cs : List S5} {n : Int} (h : listOkS5 cs = true) (hf : S5.foundB n cs = false) : S5.atGo n 0 cs = -1 := by
  rw [S5.find_agree n cs 0 (listOkS5_up h), if_neg (by simp [hf])]
theorem atGoS_pos {cs : List S5} {n : Int} (h : listOkS5 cs = true) (hf : S5.foundB n cs = true) : S5.atGo n 0 cs = (S5.place n cs : Int) := by
  rw [S5.find_agree n cs 0 (listOkS5_up h), if_pos hf]; simp
theorem foundS_at {cs : List S5} {n : Int} (hf : S5.foundB n cs = true) : ∃ x, cs[S5.place n cs]? = some x := by
  unfold S5.foundB at hf
  split at hf
  · rename_i x hx; exact ⟨x, hx⟩
  · cases hf

def answerF (cs : List S5) (n a d : Int) : List S5 × Int :=
  if listOkS5 cs = true then if (inB d 0 20000 && inB a 1 3) = true then if S5.foundB n cs = true then match cs[S5.place n cs]? with
    | some x => if (x.ans != 0 || decide (d < x.sent)) = true then ([], 5) else (cs.set (S5.place n cs) { x with ans := a, answered := d }, 0)
    | none => ([], 0)
  else ([], 4) else ([], 2) else ([], 1)
theorem answerF_len (cs : List S5) (n a d : Int) : (answerF cs n a d).1.length ≤ cs.length := by
  unfold answerF
  repeat' split
  all_goals simp

set_option maxRecDepth 100000 in
set_option maxHeartbeats 2000000 in
theorem specAnswerSummons_any (v : Value) (cs : List S5) (n a d : Int) (w : World) (lo : Nat) (h : SlS5 w lo w.heap.size v cs) :
    Calls Try.prog 51 #[v, .int .i64 n, .int .i64 a, .int .i64 d] w fun e w' => ∃ v', e = .returned (.tuple #[v', .int .i64 (answerF cs n a d).2]) ∧ OwnR S5.vals 5 w' w.heap.size 108 v' (answerF cs n a d).1 ∧ Below w.heap.size w w' := by
  obtain ⟨A, c, rfl, hc1, hc2⟩ := h.form
  go_enter Try.func51, Try.ntmps51
  go_wp2_with fail
  refine (specAreSummonses_any _ cs w lo h).mono ?_
  rintro e w1 ⟨rfl, hb1⟩
  cases h1 : listOkS5 cs
  · have hF : answerF cs n a d = ([], 1) := by simp [answerF, h1]
    go_wp2_with fail
    go_ret2
    exact ⟨.slice none 0 0, by rw [hF]; rfl, by rw [hF]; exact own_nil _ _ _ _ _, hb1⟩
  go_wp2_with fail
  refine (l02Is_any d _).mono ?_
  rintro e w2 ⟨rfl, rfl⟩
  cases h2 : inB d 0 20000
  · have hF : answerF cs n a d = ([], 2) := by simp [answerF, h1, h2]
    go_wp2_with fail
    go_ret2
    exact ⟨.slice none 0 0, by rw [hF]; rfl, by rw [hF]; exact own_nil _ _ _ _ _, hb1⟩
  go_wp2_with fail
  refine (l01In_any a _ _ _).mono ?_
  rintro e w2 ⟨rfl, rfl⟩
  cases h3 : inB a 1 3
  · have hF : answerF cs n a d = ([], 2) := by simp [answerF, h1, h2, h3]
    go_wp2_with fail
    go_ret2
    exact ⟨.slice none 0 0, by rw [hF]; rfl, by rw [hF]; exact own_nil _ _ _ _ _, hb1⟩
  go_wp2_with fail
  have h' : SlS5 w1 lo w1.heap.size (.slice A cs.length c) cs := (h.below hb1 (Nat.le_refl _)).more (Nat.le_refl _) hb1.size
  refine (findS5_any _ cs n _ lo _ h').mono ?_
  rintro e w2 ⟨rfl, rfl⟩
  have hlen := (listOkS5_all h1).2
  cases h4 : S5.foundB n cs
  · have hF : answerF cs n a d = ([], 4) := by simp [answerF, h1, h2, h3, h4]
    rw [atGoS_neg h1 h4]
    go_wp2_with fail
    go_ret2
    exact ⟨.slice none 0 0, by rw [hF]; rfl, by rw [hF]; exact own_nil _ _ _ _ _, hb1⟩
  rw [atGoS_pos h1 h4]
  obtain ⟨x, hx⟩ := foundS_at h4
  have hF0 : answerF cs n a d = if (x.ans != 0 || decide (d < x.sent)) = true then ([], 5) else (cs.set (S5.place n cs) { x with ans := a, answered := d }, 0) := by simp [answerF, h1, h2, h3, h4, hx]
  have HF0 := Lib.hid hF0
  clear hF0
  generalize S5.place n cs = k at *
  have hlt := (List.getElem?_eq_some_iff.1 hx).1
  obtain ⟨b, off, rfl, _, hb, c0, c1, c2, c3, c4⟩ := h'.S5_at hx
  have Hx := Lib.hid hx
  clear hx
  have hz1 := hb1.size
  cases q1 : x.ans == 0
  · have q1' : (x.ans != 0) = true := by simp [bne, q1]
    have hF : answerF cs n a d = ([], 5) := by rw [HF0.out, if_pos (by simp [q1'])]
    go_wp2_with fail
    go_ret2
    exact ⟨.slice none 0 0, by rw [hF]; rfl, by rw [hF]; exact own_nil _ _ _ _ _, hb1⟩
  have q1' : (x.ans != 0) = false := by simp [bne, q1]
  by_cases q2 : d < x.sent
  · have hF : answerF cs n a d = ([], 5) := by rw [HF0.out, if_pos (by simp [q2])]
    go_wp2_with fail
    go_ret2
    exact ⟨.slice none 0 0, by rw [hF]; rfl, by rw [hF]; exact own_nil _ _ _ _ _, hb1⟩
  have hF : answerF cs n a d = (cs.set k { x with ans := a, answered := d }, 0) := by rw [HF0.out, if_neg (by simp [q1', q2])]
  clear c0 c2 c4
  have HF := Lib.hid hF
  clear hF
  go_wp2_with (at_builtin; refine wpList_append_sl (f := S5.vals) (s := 5) _ (fun _ => rfl) oneCellS5 rfl _ _ 45 rfl w1.heap.size 108 Try.infoS5 Try.underlying45 rfl (by decide) _ ([] : List S5) cs _ _ _ rfl (own_empty _ _ 5 S5.vals) rfl (h'.below ((Below.refl _ _).alloc (Nat.le_refl _) _) (Nat.le_refl _)) (by simp; omega) (by simp; omega) (by simp) ?_)
  intro v' w2 o2 hbel _
  have hB2 := hbel _ _ ((Below.refl w1.heap.size w1).alloc (Nat.le_refl _) _) (Nat.le_refl _)
  clear hbel c1 c3
  obtain ⟨A2, cc, rfl, hcc1, hcc2, hA⟩ := own_form (OwnR.own o2)
  obtain ⟨g, rfl, hg1, hg2⟩ := hA (by omega)
  obtain ⟨⟨_, g0⟩, ⟨_, g1⟩, ⟨_, g2⟩, ⟨_, g3⟩, ⟨_, g4⟩, f0, f1, f2, f3, f4⟩ := own_rowS5 (OwnR.own o2) hlt
  go_wp2_with fail
  go_ret2
  have e1 := own_setField (f := S5.vals) (s := 5) (fun _ => rfl) o2 Hx.out (j := 3) (by decide) (u := .int .i64 a) (x' := { x with ans := a }) rfl
  have e2 := own_setField (f := S5.vals) (s := 5) (fun _ => rfl) e1 (k := k) (x := { x with ans := a }) (by simp [hlt]) (j := 4) (by decide) (u := .int .i64 d) (x' := { x with ans := a, answered := d }) rfl
  rw [List.set_set] at e2
  exact ⟨_, by rw [HF.out]; rfl, by rw [HF.out]; exact e2.more hb1.size, hb1.trans (((hB2.setCell (by simpa using hg1) _).setCell (by simpa using hg1) _).mono hb1.size)⟩

set_option maxRecDepth 100000 in
set_option maxHeartbeats 2000000 in
theorem implAnswerSummons_any (v : Value) (cs : List S5) (n a d : Int) (w : World) (lo : Nat) (h : SlS5 w lo w.heap.size v cs) :
    Calls Try.prog 50 #[v, .int .i64 n, .int .i64 a, .int .i64 d] w fun e w' => ∃ v', e = .returned (.tuple #[v', .int .i64 (answerF cs n a d).2]) ∧ OwnR S5.vals 5 w' w.heap.size 108 v' (answerF cs n a d).1 ∧ Below w.heap.size w w' := by
  obtain ⟨A, c, rfl, hc1, hc2⟩ := h.form
  go_enter Try.func50, Try.ntmps50
  go_wp2_with fail
  refine (ofS5_any _ cs n w lo _ h (Nat.le_refl _)).mono ?_
  rintro e w0 ⟨rfl, hb0⟩
  go_wp2_with fail
  have h0 : SlS5 w0 lo w0.heap.size (.slice A cs.length c) cs := (h.below hb0 (Nat.le_refl _)).more (Nat.le_refl _) hb0.size
  refine (implAreSummonses_any _ cs w0 lo h0).mono ?_
  rintro e w1 ⟨rfl, hb1'⟩
  have hb1 := hb0.trans (hb1'.mono hb0.size)
  clear hb1' hb0 h0
  cases h1 : listOkS5 cs
  · have hF : answerF cs n a d = ([], 1) := by simp [answerF, h1]
    go_wp2_with fail
    go_ret2
    exact ⟨.slice none 0 0, by rw [hF]; rfl, by rw [hF]; exact own_nil _ _ _ _ _, hb1⟩
  go_wp2_with fail
  refine (isDay_any d _).mono ?_
  rintro e w2 ⟨rfl, rfl⟩
  cases h2 : inB d 0 20000
  · have hF : answerF cs n a d = ([], 2) := by simp [answerF, h1, h2]
    go_wp2_with fail
    go_ret2
    exact ⟨.slice none 0 0, by rw [hF]; rfl, by rw [hF]; exact own_nil _ _ _ _ _, hb1⟩
  go_wp2_with fail
  refine (within_any a _ _ _).mono ?_
  rintro e w2 ⟨rfl, rfl⟩
  cases h3 : inB a 1 3
  · have hF : answerF cs n a d = ([], 2) := by simp [answerF, h1, h2, h3]
    go_wp2_with fail
    go_ret2
    exact ⟨.slice none 0 0, by rw [hF]; rfl, by rw [hF]; exact own_nil _ _ _ _ _, hb1⟩
  have h' : SlS5 w1 lo w1.heap.size (.slice A cs.length c) cs := (h.below hb1 (Nat.le_refl _)).more (Nat.le_refl _) hb1.size
  have hlen := (listOkS5_all h1).2
  cases h4 : S5.foundB n cs
  · have hF : answerF cs n a d = ([], 4) := by simp [answerF, h1, h2, h3, h4]
    go_wp2_with fail
    go_ret2
    exact ⟨.slice none 0 0, by rw [hF]; rfl, by rw [hF]; exact own_nil _ _ _ _ _, hb1⟩
  obtain ⟨x, hx⟩ := foundS_at h4
  have hF0 : answerF cs n a d = if (x.ans != 0 || decide (d < x.sent)) = true then ([], 5) else (cs.set (S5.place n cs) { x with ans := a, answered := d }, 0) := by simp [answerF, h1, h2, h3, h4, hx]
  have HF0 := Lib.hid hF0
  clear hF0
  generalize S5.place n cs = k at *
  have hlt := (List.getElem?_eq_some_iff.1 hx).1
  obtain ⟨b, off, rfl, _, hb, c0, c1, c2, c3, c4⟩ := h'.S5_at hx
  have Hx := Lib.hid hx
  clear hx
  have hz1 := hb1.size
  cases q1 : x.ans == 0
  · have q1' : (x.ans != 0) = true := by simp [bne, q1]
    have hF : answerF cs n a d = ([], 5) := by rw [HF0.out, if_pos (by simp [q1'])]
    go_wp2_with fail
    go_ret2
    exact ⟨.slice none 0 0, by rw [hF]; rfl, by rw [hF]; exact own_nil _ _ _ _ _, hb1⟩
  have q1' : (x.ans != 0) = false := by simp [bne, q1]
  by_cases q2 : d < x.sent
  · have hF : answerF cs n a d = ([], 5) := by rw [HF0.out, if_pos (by simp [q2])]
    go_wp2_with fail
    go_ret2
    exact ⟨.slice none 0 0, by rw [hF]; rfl, by rw [hF]; exact own_nil _ _ _ _ _, hb1⟩
  have hF : answerF cs n a d = (cs.set k { x with ans := a, answered := d }, 0) := by rw [HF0.out, if_neg (by simp [q1', q2])]
  clear c0 c2 c4
  have HF := Lib.hid hF
  clear hF
  go_wp2_with fail
  refine (cloneS5_any _ cs w1 lo h' (by omega)).mono ?_
  rintro e w2 ⟨v', rfl, o2, hB2⟩
  obtain ⟨A2, cc, rfl, hcc1, hcc2, hA⟩ := own_form (OwnR.own o2)
  obtain ⟨g, rfl, hg1, hg2⟩ := hA (by omega)
  obtain ⟨⟨_, g0⟩, ⟨_, g1⟩, ⟨_, g2⟩, ⟨_, g3⟩, ⟨_, g4⟩, f0, f1, f2, f3, f4⟩ := own_rowS5 (OwnR.own o2) hlt
  clear c1 c3
  go_wp2_with fail
  go_ret2
  have e1 := own_setField (f := S5.vals) (s := 5) (fun _ => rfl) o2 Hx.out (j := 3) (by decide) (u := .int .i64 a) (x' := { x with ans := a }) rfl
  have e2 := own_setField (f := S5.vals) (s := 5) (fun _ => rfl) e1 (k := k) (x := { x with ans := a }) (by simp [hlt]) (j := 4) (by decide) (u := .int .i64 d) (x' := { x with ans := a, answered := d }) rfl
  rw [List.set_set] at e2
  exact ⟨_, by rw [HF.out]; rfl, by rw [HF.out]; exact e2.more hb1.size, hb1.trans (((hB2.setCell (by simpa using hg1) _).setCell (by simpa using hg1) _).mono hb1.size)⟩
end Go.Proofs.Ytiflpihjffhfhaa
