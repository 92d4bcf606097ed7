/- Plain laws of summonses. No condition; nothing of the program is named but the functions that its walks compute. -/
import Derived.Test.YtiflpihjffhfhaaSummD
import Derived.Test.YtiflpihjffhfhaaSummE
import Derived.Test.YtiflpihjffhfhaaSummF
namespace Go.Proofs.Ytiflpihjffhfhaa

theorem pickF_ok {p : Int → S5 → Bool} {cs : List S5} {d : Int} (h : listOkS5 cs = true) (hd : inB d 0 20000 = true) : pickF p cs d = (pick (p d) cs, 0) := by
  have e : sumCode cs d = 0 := by rw [sumCode, if_pos h, if_pos hd]
  rw [pickF, if_pos e]
theorem mem_pick {p : S5 → Bool} {cs : List S5} {x : S5} (hx : x ∈ cs) (hp : p x = true) : hasB x.num (pick p cs) = true := by
  rw [hasB_iff]
  simp only [pick, List.mem_map, List.mem_filter]
  exact ⟨x, ⟨hx, hp⟩, rfl⟩
theorem pick_sub {p q : S5 → Bool} {cs : List S5} (h : ∀ x, p x = true → q x = true) : ∀ z ∈ pick p cs, hasB z (pick q cs) = true := by
  intro z hz
  simp only [pick, List.mem_map, List.mem_filter] at hz
  obtain ⟨x, ⟨hx, hp⟩, rfl⟩ := hz
  exact mem_pick hx (h x hp)
theorem pickF_sub {p q : Int → S5 → Bool} {cs : List S5} {d : Int} (h : ∀ x, p d x = true → q d x = true) : ∀ z ∈ (pickF p cs d).1, hasB z (pickF q cs d).1 = true := by
  intro z hz
  unfold pickF at hz ⊢
  split at hz
  · rename_i e; rw [if_pos e]; exact pick_sub h z hz
  · simp at hz
theorem over_open (d : Int) (x : S5) (h : overP d x = true) : openP d x = true := by simp only [overP, Bool.and_eq_true] at h; exact h.1
theorem remind_open (d : Int) (x : S5) (h : remindP d x = true) : openP d x = true := by simp only [remindP, Bool.and_eq_true] at h; exact h.1

/-! reminders -/
theorem dueAny_ex {d : Int} : ∀ {cs : List S5}, dueAny d cs = true → ∃ x, x ∈ cs ∧ dueP d x = true
  | [], h => by simp [dueAny] at h
  | x :: t, h => by
    rw [dueAny] at h
    simp only [Bool.or_eq_true] at h
    rcases h with h | h
    · exact ⟨x, by simp, h⟩
    · obtain ⟨y, hy, h2⟩ := dueAny_ex h
      exact ⟨y, by simp [hy], h2⟩
theorem remGo_spec {cs : List S5} : ∀ (f : Nat) (d : Int), f = (20001 - d).toNat → (remGo cs f d).2 = 0 → d ≤ (remGo cs f d).1 ∧ (remGo cs f d).1 ≤ 20000 ∧ dueAny (remGo cs f d).1 cs = true
  | 0, d, _, h => by simp [remGo] at h
  | f + 1, d, hf, h => by
    rw [remGo] at h ⊢
    by_cases e : dueAny d cs = true
    · rw [if_pos e]; exact ⟨Int.le_refl _, by show d ≤ 20000; omega, e⟩
    · rw [if_neg e] at h ⊢
      obtain ⟨h1, h2⟩ := remGo_spec f (d + 1) (by omega) h
      exact ⟨by omega, h2⟩
theorem next_law {cs : List S5} {d : Int} (h : (nextF cs d).2 = 0) : (pickF remindP cs (nextF cs d).1).2 = 0 ∧ (pickF remindP cs (nextF cs d).1).1.length ≠ 0 ∧ d < (nextF cs d).1 := by
  by_cases hc : sumCode cs d = 0
  · have e : nextF cs d = remGo cs (20001 - (d + 1)).toNat (d + 1) := by rw [nextF, if_pos hc]
    rw [e] at h ⊢
    obtain ⟨h1, h2, h3⟩ := remGo_spec _ _ rfl h
    generalize (remGo cs (20001 - (d + 1)).toNat (d + 1)).1 = n at *
    obtain ⟨a1, a2⟩ := sumCode_zero hc
    have a3 := inB_iff.1 a2
    rw [pickF_ok a1 (inB_iff.2 (by omega))]
    obtain ⟨x, hx, hp⟩ := dueAny_ex h3
    have hb := S5.bounds ((listOkS5_all a1).1 x hx)
    have hok := (listOkS5_all a1).1 x hx
    simp only [S5.ok, Bool.and_eq_true, inB_iff] at hok
    simp only [dueP, Bool.and_eq_true, beq_iff_eq] at hp
    have hl := hp.2
    simp only [lateP, Bool.and_eq_true, decide_eq_true_eq] at hl
    have hr : remindP n x = true := by
      simp only [remindP, openP, Bool.and_eq_true, decide_eq_true_eq, Bool.or_eq_true, beq_iff_eq]
      exact ⟨⟨by omega, .inl hp.1⟩, hp.2⟩
    have := (hasB_iff _ _).1 (mem_pick hx hr)
    have := List.length_pos_of_mem this
    exact ⟨rfl, by dsimp only; omega, by omega⟩
  · rw [nextF, if_neg hc] at h
    exact absurd h hc
def sumL : List Int → Int
  | [] => 0
  | x :: t => x + sumL t
theorem tally_law {d : Int} {x : S5} (hx : x.ok = true) (a b c e : Int) (hb : 0 ≤ b) (hc : 0 ≤ c) (he : 0 ≤ e) :
    ∃ b' c' e', 0 ≤ b' ∧ 0 ≤ c' ∧ 0 ≤ e' ∧ tally d [a, b, c, e] x = [a + (if openP d x = true then 1 else 0), b', c', e'] ∧ a + (if openP d x = true then 1 else 0) + b' + c' + e' ≤ a + b + c + e + 1 := by
  unfold tally
  by_cases h1 : openP d x = true
  · rw [if_pos h1, if_pos h1]
    exact ⟨b, c, e, hb, hc, he, rfl, by omega⟩
  · rw [if_neg h1, if_neg h1]
    by_cases h2 : x.sent ≤ d
    · rw [if_pos h2]
      have hbd := (S5.bounds hx).2.2
      have hne : x.ans ≠ 0 := by
        intro h3
        exact h1 (by simp [openP, h2, h3])
      rcases (by omega : x.ans = 1 ∨ x.ans = 2 ∨ x.ans = 3) with h | h | h
      · rw [h]; exact ⟨b + 1, c, e, by omega, hc, he, by simp [bump], by omega⟩
      · rw [h]; exact ⟨b, c + 1, e, hb, by omega, he, by simp [bump], by omega⟩
      · rw [h]; exact ⟨b, c, e + 1, hb, hc, by omega, by simp [bump], by omega⟩
    · rw [if_neg h2]
      exact ⟨b, c, e, hb, hc, he, by simp, by omega⟩
theorem cnt_law (d : Int) : ∀ (cs : List S5), (∀ x ∈ cs, x.ok = true) → ∀ (a b c e : Int), 0 ≤ b → 0 ≤ c → 0 ≤ e →
    ∃ b' c' e', 0 ≤ b' ∧ 0 ≤ c' ∧ 0 ≤ e' ∧ cntGo d [a, b, c, e] cs = [a + ((pick (openP d) cs).length : Int), b', c', e'] ∧ a + ((pick (openP d) cs).length : Int) + b' + c' + e' ≤ a + b + c + e + (cs.length : Int)
  | [], _, a, b, c, e, hb, hc, he => ⟨b, c, e, hb, hc, he, by simp [cntGo, pick], by simp [pick]⟩
  | x :: t, hok, a, b, c, e, hb, hc, he => by
    obtain ⟨b1, c1, e1, hb1, hc1, he1, h1, h2⟩ := tally_law (d := d) (hok x (by simp)) a b c e hb hc he
    obtain ⟨b2, c2, e2, hb2, hc2, he2, h3, h4⟩ := cnt_law d t (fun y hy => hok y (by simp [hy])) (a + (if openP d x = true then 1 else 0)) b1 c1 e1 hb1 hc1 he1
    have hp : ((pick (openP d) (x :: t)).length : Int) = (if openP d x = true then 1 else 0) + ((pick (openP d) t).length : Int) := by
      by_cases h : openP d x = true
      · rw [if_pos h]; simp [pick, h]; omega
      · rw [if_neg h]; simp [pick, h]
    refine ⟨b2, c2, e2, hb2, hc2, he2, ?_, ?_⟩
    · rw [cntGo, h1, h3, hp]; congr 1; omega
    · rw [hp, List.length_cons]; omega
theorem count_law {cs : List S5} {d : Int} (h : sumCode cs d = 0) : ∃ b c e : Int, 0 ≤ b ∧ 0 ≤ c ∧ 0 ≤ e ∧ countF cs d = ([((pickF openP cs d).1.length : Int), b, c, e], 0) ∧ ((pickF openP cs d).1.length : Int) + b + c + e ≤ (cs.length : Int) ∧ (pickF openP cs d).2 = 0 ∧ cs.length ≤ 20 := by
  obtain ⟨a1, a2⟩ := sumCode_zero h
  obtain ⟨b, c, e, hb, hc, he, h1, h2⟩ := cnt_law d cs (listOkS5_all a1).1 0 0 0 0 (by omega) (by omega) (by omega)
  rw [pickF_ok a1 a2]
  refine ⟨b, c, e, hb, hc, he, ?_, by dsimp only; omega, rfl, (listOkS5_all a1).2⟩
  rw [countF, if_pos h, h1]; simp

/-! sending and answering -/
theorem risesGoS5_set {x' : S5} (hok : x'.ok = true) : ∀ (cs : List S5) (k : Nat) (p : Option S5) (x : S5), risesGoS5 p cs = true → cs[k]? = some x → x'.num = x.num → risesGoS5 p (cs.set k x') = true
  | [], k, p, x, _, hx, _ => by simp at hx
  | y :: t, 0, p, x, h, hx, hn => by
    have hx : y = x := by simpa using hx
    subst hx
    rw [risesGoS5] at h
    simp only [Bool.and_eq_true] at h
    show risesGoS5 p (x' :: t) = true
    rw [risesGoS5]
    simp only [Bool.and_eq_true]
    refine ⟨⟨hok, ?_⟩, ?_⟩
    · cases p with
      | none => rfl
      | some q => simpa [S5.behind, hn] using h.1.2
    · have h2 := h.2
      cases t with
      | nil => rfl
      | cons z r =>
        rw [risesGoS5] at h2 ⊢
        simp only [Bool.and_eq_true] at h2 ⊢
        refine ⟨⟨h2.1.1, ?_⟩, h2.2⟩
        simpa [S5.behind, hn] using h2.1.2
  | y :: t, k + 1, p, x, h, hx, hn => by
    rw [risesGoS5] at h
    simp only [Bool.and_eq_true] at h
    show risesGoS5 p (y :: t.set k x') = true
    rw [risesGoS5]
    simp only [Bool.and_eq_true]
    exact ⟨h.1, risesGoS5_set hok t k (some y) x h.2 (by simpa using hx) hn⟩
theorem uniqS {cs : List S5} (h : cs.Pairwise (fun a b => a.num < b.num)) : ∀ x ∈ cs, ∀ y ∈ cs, x.num = y.num → x = y := by
  induction cs with
  | nil => intro x hx; simp at hx
  | cons z t ih =>
    have h1 := List.pairwise_cons.1 h
    intro x hx y hy e
    rcases List.mem_cons.1 hx with hx' | hx' <;> rcases List.mem_cons.1 hy with hy' | hy'
    · rw [hx', hy']
    · rw [hx'] at e; have := h1.1 y hy'; omega
    · rw [hy'] at e; have := h1.1 x hx'; omega
    · exact ih h1.2 x hx' y hy' e
theorem answer_law {cs : List S5} {n a d : Int} (h : (answerF cs n a d).2 = 0) : (pickF openP (answerF cs n a d).1 d).2 = 0 ∧ hasB n (pickF openP (answerF cs n a d).1 d).1 = false := by
  unfold answerF at h ⊢
  split at h
  · rename_i h1
    rw [if_pos h1]
    split at h
    · rename_i h2
      rw [if_pos h2]
      split at h
      · rename_i h3
        rw [if_pos h3]
        simp only [Bool.and_eq_true] at h2
        obtain ⟨x, hx⟩ := foundS_at h3
        rw [hx] at h ⊢
        dsimp only at h ⊢
        split at h
        · cases h
        · rename_i h4
          rw [if_neg h4]
          have hn : x.num = n := by rw [S5.foundB_eq rfl hx] at h3; simpa using h3
          have hok := (listOkS5_all h1).1 x (List.mem_of_getElem? hx)
          have hok0 := hok
          simp only [S5.ok, Bool.and_eq_true, inB_iff] at hok
          have hd := inB_iff.1 h2.1
          have ha := inB_iff.1 h2.2
          have h5 : ¬ d < x.sent := by
            intro h6; exact h4 (by simp [h6])
          have hok' : ({ x with ans := a, answered := d } : S5).ok = true := by
            simp only [S5.ok, Bool.and_eq_true, inB_iff]
            refine ⟨⟨hok.1.1, by omega⟩, ?_⟩
            rw [if_neg (by show a ≠ 0; omega), inB_iff]; omega
          have hall : listOkS5 (cs.set (S5.place n cs) { x with ans := a, answered := d }) = true := by
            simp only [listOkS5, Bool.and_eq_true, decide_eq_true_eq] at h1 ⊢
            exact ⟨risesGoS5_set hok' cs _ none x h1.1 hx rfl, by rw [List.length_set]; exact h1.2⟩
          rw [pickF_ok hall h2.1]
          refine ⟨rfl, ?_⟩
          have hmem : ({ x with ans := a, answered := d } : S5) ∈ cs.set (S5.place n cs) { x with ans := a, answered := d } := by
            refine List.mem_of_getElem? (i := S5.place n cs) ?_
            rw [List.getElem?_set_self (List.getElem?_eq_some_iff.1 hx).1]
          cases hh : hasB n (pick (openP d) (cs.set (S5.place n cs) { x with ans := a, answered := d }))
          · rfl
          · rw [hasB_iff] at hh
            simp only [pick, List.mem_map, List.mem_filter] at hh
            obtain ⟨y, ⟨hy, hyo⟩, hyn⟩ := hh
            have := uniqS (listOkS5_up hall) y hy _ hmem (by show y.num = x.num; omega)
            rw [this] at hyo
            have q1 : (a == 0) = false := by simp; omega
            simp [openP, q1] at hyo
      · cases h
    · cases h
  · cases h
end Go.Proofs.Ytiflpihjffhfhaa
