/- Texts that are split and joined: plain laws. No condition; nothing of the program is named. -/
import Derived.Test.YtkhojhgcopnenaaTxA
import Derived.Lib.Split
import Derived.Lib.IndexMore
namespace Go.Proofs.Ytkhojhgcopnenaa
open Go.Lib

def splitL (c : UInt8) : List UInt8 → List (List UInt8)
  | [] => [[]]
  | b :: t => if b = c then [] :: splitL c t else match splitL c t with
    | [] => [[b]]
    | p :: ps => (b :: p) :: ps
theorem splitL_ne (c : UInt8) : ∀ l, splitL c l ≠ []
  | [] => by simp [splitL]
  | b :: t => by
    rw [splitL]
    split
    · simp
    · split <;> simp
theorem splitL_none {c : UInt8} : ∀ {l : List UInt8}, c ∉ l → splitL c l = [l]
  | [], _ => rfl
  | b :: t, h => by
    have h1 : ¬ b = c := fun e => h (by rw [e]; exact List.mem_cons_self ..)
    rw [splitL, if_neg h1, splitL_none (fun e => h (List.mem_cons_of_mem _ e))]
theorem splitL_some {c : UInt8} : ∀ {a : List UInt8} (b : List UInt8), c ∉ a → splitL c (a ++ c :: b) = a :: splitL c b
  | [], b, _ => by rw [List.nil_append, splitL, if_pos rfl]
  | x :: t, b, h => by
    have h1 : ¬ x = c := fun e => h (by rw [e]; exact List.mem_cons_self ..)
    rw [List.cons_append, splitL, if_neg h1, splitL_some b (fun e => h (List.mem_cons_of_mem _ e))]
theorem split_at {c : UInt8} : ∀ {l : List UInt8}, c ∈ l → ∃ a b, l = a ++ c :: b ∧ c ∉ a
  | [], h => by cases h
  | x :: t, h => by
    by_cases e : x = c
    · exact ⟨[], t, by rw [e]; rfl, by simp⟩
    · have ht : c ∈ t := by
        rcases List.mem_cons.1 h with h | h
        · exact absurd h.symm e
        · exact h
      obtain ⟨a, b, h1, h2⟩ := split_at ht
      exact ⟨x :: a, b, by rw [h1]; rfl, fun hm => by
        rcases List.mem_cons.1 hm with hm | hm
        · exact e hm.symm
        · exact h2 hm⟩
theorem splitL_parts (c : UInt8) : ∀ l, ∀ p ∈ splitL c l, c ∉ p
  | [], p, h => by
    have : p = [] := by simpa [splitL] using h
    rw [this]; simp
  | b :: t, p, h => by
    rw [splitL] at h
    split at h
    · rcases List.mem_cons.1 h with h | h
      · rw [h]; simp
      · exact splitL_parts c t p h
    · next hb =>
      have ih := splitL_parts c t
      cases hs : splitL c t with
      | nil => exact absurd hs (splitL_ne c t)
      | cons q qs =>
        rw [hs] at h ih
        dsimp only at h
        rcases List.mem_cons.1 h with h | h
        · subst h
          intro hm
          rcases List.mem_cons.1 hm with hm | hm
          · exact hb hm.symm
          · exact ih q (List.mem_cons_self ..) hm
        · exact ih p (List.mem_cons_of_mem _ h)
/-- The parts with c between them. -/
def joinL (c : UInt8) : List (List UInt8) → List UInt8
  | [] => []
  | [p] => p
  | p :: q :: r => p ++ c :: joinL c (q :: r)
theorem joinL_cons {c : UInt8} (p : List UInt8) {r : List (List UInt8)} (h : r ≠ []) : joinL c (p :: r) = p ++ c :: joinL c r := by
  cases r with
  | nil => exact absurd rfl h
  | cons q r => rfl
theorem joinL_split (c : UInt8) : ∀ l, joinL c (splitL c l) = l
  | [] => rfl
  | b :: t => by
    have ih := joinL_split c t
    rw [splitL]
    split
    · next e => rw [joinL_cons _ (splitL_ne c t), ih, e]; rfl
    · cases hs : splitL c t with
      | nil => exact absurd hs (splitL_ne c t)
      | cons q qs =>
        rw [hs] at ih
        dsimp only
        cases qs with
        | nil => rw [← ih]; rfl
        | cons r rs => rw [← ih]; rfl
theorem splitL_join {c : UInt8} : ∀ {ps : List (List UInt8)}, ps ≠ [] → (∀ p ∈ ps, c ∉ p) → splitL c (joinL c ps) = ps
  | [], h, _ => absurd rfl h
  | [p], _, h => splitL_none (h p (List.mem_cons_self ..))
  | p :: q :: r, _, h => by
    rw [joinL, splitL_some _ (h p (List.mem_cons_self ..)), splitL_join (by simp) (fun x hx => h x (List.mem_cons_of_mem _ hx))]
theorem joinTail_eq (c : UInt8) : ∀ (r : List (List UInt8)), r ≠ [] → joinTail [c] r = c :: joinL c r
  | [], h => absurd rfl h
  | [p], _ => by simp [joinTail, joinL]
  | p :: q :: r, _ => by
    have ih := joinTail_eq c (q :: r) (by simp)
    have e : joinTail [c] (p :: q :: r) = [c] ++ p ++ joinTail [c] (q :: r) := by simp [joinTail]
    rw [e, ih, joinL]; simp
theorem join_eq (c : UInt8) (ps : List (List UInt8)) : join ps [c] = joinL c ps := by
  cases ps with
  | nil => rfl
  | cons p r =>
    rw [join_cons]
    cases r with
    | nil => simp [joinTail, joinL]
    | cons q r => rw [joinTail_eq c (q :: r) (by simp)]; rfl

/-! the library's words -/
theorem index_none {c : UInt8} : ∀ {l : List UInt8}, c ∉ l → index l [c] = -1
  | [], _ => rfl
  | b :: t, h => by
    have h1 : ([c].isPrefixOf (b :: t)) = false := by
      simp [List.isPrefixOf]
      intro e; exact h (by rw [← e]; exact List.mem_cons_self ..)
    unfold index
    rw [h1, index_none (fun e => h (List.mem_cons_of_mem _ e))]; rfl
theorem index_some {c : UInt8} : ∀ {a : List UInt8} (b : List UInt8), c ∉ a → index (a ++ c :: b) [c] = (a.length : Int)
  | [], b, _ => by unfold index; simp [List.isPrefixOf]
  | x :: t, b, h => by
    have h1 : ([c].isPrefixOf (x :: (t ++ c :: b))) = false := by
      simp [List.isPrefixOf]
      intro e; exact h (by rw [← e]; exact List.mem_cons_self ..)
    have ih := index_some b (fun e => h (List.mem_cons_of_mem _ e))
    rw [List.cons_append]
    unfold index
    rw [h1, ih]
    have : ((t.length : Int) == -1) = false := by rw [beq_eq_false_iff_ne]; omega
    simp [this]
theorem splitK_eq (c : UInt8) : ∀ (k : Nat) (l : List UInt8), l.count c = k → splitK [c] 0 k l = splitL c l
  | 0, l, h => by
    have : c ∉ l := List.count_eq_zero.1 h
    rw [splitL_none this]; rfl
  | k + 1, l, h => by
    have hm : c ∈ l := List.count_pos_iff.1 (by omega)
    obtain ⟨a, b, rfl, ha⟩ := split_at hm
    have hk : b.count c = k := by
      rw [List.count_append, List.count_eq_zero.2 ha, List.count_cons_self] at h
      omega
    have hne : ((a.length : Int) == -1) = false := by rw [beq_eq_false_iff_ne]; omega
    rw [splitL_some b ha, splitK, index_some b ha, hne]
    simp only [Bool.false_eq_true, if_false, Int.toNat_natCast, Nat.add_zero, List.length_singleton]
    have e1 : (a ++ c :: b).take a.length = a := List.take_left
    have e2 : (a ++ c :: b).drop (a.length + 1) = b := by rw [show a ++ c :: b = (a ++ [c]) ++ b by simp, List.drop_left' (by simp)]
    rw [e1, e2, splitK_eq c k b hk]
def cutL (c : UInt8) : List UInt8 → List UInt8 × List UInt8
  | [] => ([], [])
  | b :: t => if b = c then ([], t) else (b :: (cutL c t).1, (cutL c t).2)
theorem cutL_none {c : UInt8} : ∀ {l : List UInt8}, c ∉ l → cutL c l = (l, [])
  | [], _ => rfl
  | b :: t, h => by
    have h1 : ¬ b = c := fun e => h (by rw [e]; exact List.mem_cons_self ..)
    rw [cutL, if_neg h1, cutL_none (fun e => h (List.mem_cons_of_mem _ e))]
theorem cutL_some {c : UInt8} : ∀ {a : List UInt8} (b : List UInt8), c ∉ a → cutL c (a ++ c :: b) = (a, b)
  | [], b, _ => by rw [List.nil_append, cutL, if_pos rfl]
  | x :: t, b, h => by
    have h1 : ¬ x = c := fun e => h (by rw [e]; exact List.mem_cons_self ..)
    rw [List.cons_append, cutL, if_neg h1, cutL_some b (fun e => h (List.mem_cons_of_mem _ e))]
theorem cut_eq (c : UInt8) (l : List UInt8) : (cut l [c]).1 = (cutL c l).1 ∧ (cut l [c]).2.1 = (cutL c l).2 := by
  by_cases hm : c ∈ l
  · obtain ⟨a, b, rfl, ha⟩ := split_at hm
    rw [cutL_some b ha, cut, index_some b ha, if_pos (by omega)]
    simp only [Int.toNat_natCast, List.length_singleton]
    refine ⟨List.take_left, ?_⟩
    rw [show a ++ c :: b = (a ++ [c]) ++ b by simp, List.drop_left' (by simp)]
  · rw [cutL_none hm, cut, index_none hm, if_neg (by omega)]
    exact ⟨rfl, rfl⟩
end Go.Proofs.Ytkhojhgcopnenaa
