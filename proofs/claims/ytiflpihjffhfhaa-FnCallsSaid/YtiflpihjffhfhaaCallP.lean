/- Plain laws of calls. No condition; nothing of the program is named but the functions that its walks compute. -/
import Derived.Test.YtiflpihjffhfhaaCallG
import Derived.Test.YtiflpihjffhfhaaCallH
import Derived.Test.YtiflpihjffhfhaaCallI
import Derived.Test.YtiflpihjffhfhaaCallJ
namespace Go.Proofs.Ytiflpihjffhfhaa

theorem callsGo_set {x' : C4} (hok : x'.ok = true) : ∀ (cs : List C4) (k : Nat) (p : Option C4) (x : C4), callsGo p cs = true → cs[k]? = some x → x'.num = x.num → callsGo p (cs.set k x') = true
  | [], k, p, x, _, hx, _ => by simp at hx
  | y :: t, 0, p, x, h, hx, hn => by
    have hx : y = x := by simpa using hx
    subst hx
    rw [callsGo] at h
    simp only [Bool.and_eq_true] at h
    show callsGo p (x' :: t) = true
    rw [callsGo]
    simp only [Bool.and_eq_true]
    refine ⟨⟨hok, ?_⟩, ?_⟩
    · cases p with
      | none => rfl
      | some q => simpa [C4.behind, hn] using h.1.2
    · have h2 := h.2
      cases t with
      | nil => rfl
      | cons z r =>
        rw [callsGo] at h2 ⊢
        simp only [Bool.and_eq_true] at h2 ⊢
        refine ⟨⟨h2.1.1, ?_⟩, h2.2⟩
        simpa [C4.behind, hn] using h2.1.2
  | y :: t, k + 1, p, x, h, hx, hn => by
    rw [callsGo] at h
    simp only [Bool.and_eq_true] at h
    show callsGo p (y :: t.set k x') = true
    rw [callsGo]
    simp only [Bool.and_eq_true]
    exact ⟨h.1, callsGo_set hok t k (some y) x h.2 (by simpa using hx) hn⟩
theorem callsOk_set {cs : List C4} {k : Nat} {x x' : C4} (h : callsOk cs = true) (hok : x'.ok = true) (hx : cs[k]? = some x) (hn : x'.num = x.num) : callsOk (cs.set k x') = true := by
  simp only [callsOk, Bool.and_eq_true, decide_eq_true_eq] at h ⊢
  exact ⟨callsGo_set hok cs k none x h.1 hx hn, by rw [List.length_set]; exact h.2⟩
theorem uniqC {cs : List C4} (h : cs.Pairwise (fun a b => a.num < b.num)) : ∀ x ∈ cs, ∀ y ∈ cs, x.num = y.num → x = y := by
  induction cs with
  | nil => intro x hx; simp at hx
  | cons z t ih =>
    have h1 := List.pairwise_cons.1 h
    intro x hx y hy e
    rcases List.mem_cons.1 hx with hx' | hx' <;> rcases List.mem_cons.1 hy with hy' | hy'
    · rw [hx', hy']
    · rw [hx'] at e; have := h1.1 y hy'; omega
    · rw [hy'] at e; have := h1.1 x hx'; omega
    · exact ih h1.2 x hx' y hy' e
theorem has_onDay {cs : List C4} {x : C4} {d : Int} (hx : x ∈ cs) (hd : x.day = d) : hasB x.num (onDay cs d) = true := by
  rw [hasB_iff]
  simp only [onDay, List.mem_map, List.mem_filter]
  exact ⟨x, ⟨hx, by simpa using hd⟩, rfl⟩
theorem calledOnF_ok {cs : List C4} {d : Int} (h : callsOk cs = true) (hd : inB d 0 20000 = true) : calledOnF cs d = (onDay cs d, 0) := by
  rw [calledOnF, if_pos h, if_pos hd]

/-- The two codes of moving agree, and what moving does. -/
theorem move_cases (hs : List Int) (cs : List C4) (n d : Int) :
    (mayMoveF hs cs n d).2 ≠ 0 ∧ (moveF hs cs n d).2 ≠ 0 ∨ ((mayMoveF hs cs n d).2 = 0 ∧ (mayMoveF hs cs n d).1 = false ∧ (moveF hs cs n d).2 ≠ 0) ∨
    ((mayMoveF hs cs n d).2 = 0 ∧ (mayMoveF hs cs n d).1 = true ∧ (moveF hs cs n d).2 = 0 ∧ holB hs = true ∧ inB d 0 20000 = true ∧ courtB hs d = true ∧ callsOk (moveF hs cs n d).1 = true ∧ hasB n (onDay (moveF hs cs n d).1 d) = true ∧ ∀ x ∈ (moveF hs cs n d).1, x.num = n → x.day ≤ x.first + 180) := by
  by_cases hc : movesCode hs cs n d = 0
  · obtain ⟨a1, a2, a3, _, _, x, hx, hn, hok⟩ := movesCode_zero hc
    have e1 : mayMoveF hs cs n d = (mayP hs x d, 0) := by simp [mayMoveF, hc, hx]
    have e2 : moveF hs cs n d = if mayP hs x d = true then (cs.set (C4.place n cs) { x with day := d, moves := x.moves + 1 }, 0) else ([], 5) := by simp [moveF, hc, hx]
    rw [e1, e2]
    cases hm : mayP hs x d
    · exact .inr (.inl ⟨rfl, rfl, by simp⟩)
    · refine .inr (.inr ⟨rfl, rfl, rfl, a1, a3, ?_⟩)
      rw [if_pos rfl]
      dsimp only
      simp only [mayP, Bool.and_eq_true, decide_eq_true_eq] at hm
      obtain ⟨⟨⟨m1, m2⟩, m3⟩, m4⟩ := hm
      have hb := C4.bounds hok
      have hd := inB_iff.1 a3
      have ht := ok_true hok
      have hok' : ({ x with day := d, moves := x.moves + 1 } : C4).ok = true := by
        have q1 : inB x.first 0 d = true := inB_iff.2 (by omega)
        have q2 : inB (x.moves + 1) 0 2 = true := inB_iff.2 (by omega)
        have q3 : (d == x.first) = false := by simp; omega
        have q4 : (x.moves + 1 == 0) = false := by simp; omega
        simp [C4.ok, ht.1, a3, q1, q2, q3, q4]
      have hall := callsOk_set a2 hok' hx rfl
      have hmem : ({ x with day := d, moves := x.moves + 1 } : C4) ∈ cs.set (C4.place n cs) { x with day := d, moves := x.moves + 1 } := by
        refine List.mem_of_getElem? (i := C4.place n cs) ?_
        rw [List.getElem?_set_self (List.getElem?_eq_some_iff.1 hx).1]
      refine ⟨m4, hall, ?_, fun y hy hyn => ?_⟩
      · have := has_onDay (d := d) hmem rfl
        simpa [hn] using this
      · have := uniqC (callsOk_all hall).2.1 y hy _ hmem (by show y.num = x.num; omega)
        rw [this]; show d ≤ x.first + 180; omega
  · refine .inl ⟨?_, ?_⟩
    · simp [mayMoveF, hc]
    · simp [moveF, hc]
theorem add_law {hs : List Int} {cs : List C4} {n d : Int} (h : (addCallF hs cs n d).2 = 0) : calledOnF (addCallF hs cs n d).1 d = (onDay (addCallF hs cs n d).1 d, 0) ∧ hasB n (onDay (addCallF hs cs n d).1 d) = true ∧ (addCallF hs cs n d).1.length = cs.length + 1 := by
  unfold addCallF at h ⊢
  split at h
  · rename_i h1
    rw [if_pos h1]
    split at h
    · rename_i h2
      rw [if_pos h2]
      split at h
      · rename_i h3
        rw [if_pos h3]
        simp only [Bool.and_eq_true] at h2 h3
        refine ⟨calledOnF_ok h3.2 h2.2, ?_, C4.ins_len _ _⟩
        exact has_onDay (x := newC n d) (by simp [C4.ins]) rfl
      · cases h
    · cases h
  · cases h
theorem drop_law {cs : List C4} {n : Int} (h : (dropF cs n).2 = 0) : (dropF cs n).1.length + 1 = cs.length := by
  unfold dropF at h ⊢
  split at h
  · rename_i h1
    rw [if_pos h1]
    split at h
    · rename_i h2
      rw [if_pos h2]
      have hlt : C4.place n cs < cs.length := by
        unfold C4.foundB at h2
        split at h2
        · rename_i x hx; exact (List.getElem?_eq_some_iff.1 hx).1
        · cases h2
      simp only [List.length_append, List.length_take, List.length_drop]
      omega
    · cases h
  · cases h
theorem roomGo_spec {hs : List Int} {cs : List C4} {x : C4} {r : Int} : ∀ (f : Nat) (d : Int), f = (lastDay x + 1 - d).toNat → (roomGo hs cs x r f d).2 = 0 → d ≤ (roomGo hs cs x r f d).1 ∧ (roomGo hs cs x r f d).1 ≤ lastDay x ∧ mayP hs x (roomGo hs cs x r f d).1 = true ∧ ((onDay cs (roomGo hs cs x r f d).1).length : Int) < r
  | 0, d, _, h => by simp [roomGo] at h
  | f + 1, d, hf, h => by
    rw [roomGo] at h ⊢
    by_cases e : (mayP hs x d && decide (((onDay cs d).length : Int) < r)) = true
    · rw [if_pos e]
      simp only [Bool.and_eq_true, decide_eq_true_eq] at e
      exact ⟨Int.le_refl _, by show d ≤ lastDay x; omega, e.1, e.2⟩
    · rw [if_neg e] at h ⊢
      obtain ⟨h1, h2⟩ := roomGo_spec f (d + 1) (by omega) h
      exact ⟨by omega, h2⟩
theorem room_law {hs : List Int} {cs : List C4} {n r : Int} (h : (firstRoomF hs cs n r).2 = 0) : mayMoveF hs cs n (firstRoomF hs cs n r).1 = (true, 0) ∧ calledOnF cs (firstRoomF hs cs n r).1 = (onDay cs (firstRoomF hs cs n r).1, 0) ∧ ((onDay cs (firstRoomF hs cs n r).1).length : Int) < r := by
  by_cases hc : movesCode hs cs n (roomDay r) = 0
  · obtain ⟨a1, a2, a3, a4, _, x, hx, hn, hok⟩ := movesCode_zero hc
    have e : firstRoomF hs cs n r = roomGo hs cs x r (lastDay x + 1 - (x.day + 1)).toNat (x.day + 1) := by simp [firstRoomF, hc, hx]
    rw [e] at h ⊢
    obtain ⟨h1, h2, h3, h4⟩ := roomGo_spec _ _ rfl h
    generalize (roomGo hs cs x r (lastDay x + 1 - (x.day + 1)).toNat (x.day + 1)).1 = f at *
    have hb := C4.bounds hok
    have hl : lastDay x ≤ 20000 := by rw [lastDay_def]; omega
    have hf : inB f 0 20000 = true := inB_iff.2 (by omega)
    have hc2 : movesCode hs cs n f = 0 := by simp [movesCode, a1, a2, hf, a4]
    refine ⟨?_, calledOnF_ok a2 hf, h4⟩
    simp [mayMoveF, hc2, hx, h3]
  · have e : firstRoomF hs cs n r = (0, movesCode hs cs n (roomDay r)) := by simp [firstRoomF, hc]
    rw [e] at h
    exact absurd h hc
end Go.Proofs.Ytiflpihjffhfhaa
