/- Lists of numbers, sheets as texts: what is written is read again; the two ways of reading agree. No condition; nothing of the program is named. -/
import Derived.Test.YtodfkbgifoecbaaGreatDoorTxB
import Derived.Test.YtodfkbgifoecbaaGreatDoorShB
namespace Go.Proofs.YtodfkbgifoecbaaGreatDoor
open Go.Lib

def inV (z : Int) : Bool := inB z (-1000000000000) 1000000000000
theorem inV_iff {z : Int} : inV z = true ↔ -1000000000000 ≤ z ∧ z ≤ 1000000000000 := inB_iff
def rdAll (f : List UInt8 → Int × Bool) : List (List UInt8) → Option (List Int)
  | [] => some []
  | p :: t => if (f p).2 = true then (rdAll f t).map ((f p).1 :: ·) else none
def okL (zs : List Int) : Bool := zs.all inV && decide (zs.length ≤ 60)
def readL (f : List UInt8 → Int × Bool) (l : List UInt8) : Option (List Int) := if l = [45] then some [] else match rdAll f (splitL 44 l) with
  | some zs => if okL zs = true then some zs else none
  | none => none
def numT (zs : List Int) : List UInt8 := if zs = [] then [45] else joinL 44 (zs.map itoa)

theorem itoa_chars (v : Int) : ∀ c ∈ itoa v, dig c = true ∨ c = 45 := by
  intro c hc
  unfold itoa at hc
  split at hc
  · rcases List.mem_cons.1 hc with h | h
    · exact Or.inr h
    · exact Or.inl (dec_dig _ c h)
  · exact Or.inl (dec_dig _ c hc)
theorem itoa_no (v : Int) {c : UInt8} (h1 : dig c = false) (h2 : c ≠ 45) : c ∉ itoa v := fun h => by
  rcases itoa_chars v c h with h | h
  · rw [h1] at h; cases h
  · exact h2 h
theorem joinL_chars {c d : UInt8} (hd : d ≠ c) : ∀ ps : List (List UInt8), (∀ p ∈ ps, d ∉ p) → d ∉ joinL c ps
  | [], _ => by simp [joinL]
  | [p], h => h p (List.mem_cons_self ..)
  | p :: q :: r, h => by
    rw [joinL]
    intro hm
    rcases List.mem_append.1 hm with hm | hm
    · exact h p (List.mem_cons_self ..) hm
    · rcases List.mem_cons.1 hm with hm | hm
      · exact hd hm
      · exact joinL_chars hd (q :: r) (fun x hx => h x (List.mem_cons_of_mem _ hx)) hm
theorem numT_no (zs : List Int) {c : UInt8} (h1 : dig c = false) (h2 : c ≠ 45) (h3 : c ≠ 44) : c ∉ numT zs := by
  unfold numT
  split
  · intro h; exact h2 (List.mem_singleton.1 h)
  · refine joinL_chars h3 _ (fun p hp => ?_)
    obtain ⟨z, _, rfl⟩ := List.mem_map.1 hp
    exact itoa_no z h1 h2
theorem rdAll_rd : ∀ {ps : List (List UInt8)} {zs : List Int}, rdAll rdF ps = some zs → ps = zs.map itoa ∧ zs.length = ps.length
  | [], zs, h => by rw [rdAll] at h; rw [← Option.some.inj h]; exact ⟨rfl, rfl⟩
  | p :: t, zs, h => by
    rw [rdAll] at h
    split at h
    · next hp =>
      cases hr : rdAll rdF t with
      | none => rw [hr] at h; cases h
      | some ys =>
        rw [hr] at h
        have h := Option.some.inj h
        obtain ⟨e1, e2⟩ := rdAll_rd hr
        rw [← h]
        exact ⟨by rw [List.map_cons, ← e1, ← (rdF_ok hp).1], by simp [e2]⟩
    · cases h
theorem rdAll_map (f : List UInt8 → Int × Bool) : ∀ (zs : List Int), (∀ z ∈ zs, f (itoa z) = (z, true)) → rdAll f (zs.map itoa) = some zs
  | [], _ => rfl
  | z :: t, h => by
    rw [List.map_cons, rdAll, h z (List.mem_cons_self ..), rdAll_map f t (fun y hy => h y (List.mem_cons_of_mem _ hy))]
    rfl
theorem rdAll_sg : ∀ {ps : List (List UInt8)} {zs : List Int}, rdAll sgF ps = some zs → ps = zs.map itoa ∧ (∀ z ∈ zs, -10000000000000 < z ∧ z < 10000000000000)
  | [], zs, h => by rw [rdAll] at h; rw [← Option.some.inj h]; exact ⟨rfl, fun z hz => by cases hz⟩
  | p :: t, zs, h => by
    rw [rdAll] at h
    split at h
    · next hp =>
      cases hr : rdAll sgF t with
      | none => rw [hr] at h; cases h
      | some ys =>
        rw [hr] at h
        have h := Option.some.inj h
        obtain ⟨e1, e2⟩ := rdAll_sg hr
        have e3 := sgF_ok hp
        rw [← h]
        refine ⟨by rw [List.map_cons, ← e1, ← e3.1], fun z hz => ?_⟩
        rcases List.mem_cons.1 hz with rfl | hz
        · exact e3.2
        · exact e2 z hz
    · cases h
theorem okL_all {zs : List Int} (h : okL zs = true) : (∀ z ∈ zs, -1000000000000 ≤ z ∧ z ≤ 1000000000000) ∧ zs.length ≤ 60 := by
  simp only [okL, Bool.and_eq_true, decide_eq_true_eq, List.all_eq_true] at h
  exact ⟨fun z hz => inV_iff.1 (h.1 z hz), h.2⟩
/-- The two ways of reading numbers agree. -/
theorem readL_eq (l : List UInt8) : readL sgF l = readL rdF l := by
  unfold readL
  split
  · rfl
  · cases h1 : rdAll rdF (splitL 44 l) with
    | some zs =>
      obtain ⟨e1, _⟩ := rdAll_rd h1
      cases h2 : rdAll sgF (splitL 44 l) with
      | some ys =>
        obtain ⟨e2, e3⟩ := rdAll_sg h2
        have h3 := rdAll_map rdF ys (fun z hz => rdF_itoa (by have := e3 z hz; omega) (by have := e3 z hz; omega))
        rw [← e2, h1] at h3
        rw [Option.some.inj h3]
      | none =>
        dsimp only
        by_cases hk : okL zs = true
        · have hv := (okL_all hk).1
          have h3 := rdAll_map sgF zs (fun z hz => sgF_itoa (by have := hv z hz; omega) (by have := hv z hz; omega))
          rw [← e1, h2] at h3
          cases h3
        · rw [if_neg hk]
    | none =>
      cases h2 : rdAll sgF (splitL 44 l) with
      | none => rfl
      | some ys =>
        obtain ⟨e2, e3⟩ := rdAll_sg h2
        have h3 := rdAll_map rdF ys (fun z hz => rdF_itoa (by have := e3 z hz; omega) (by have := e3 z hz; omega))
        rw [← e2, h1] at h3
        cases h3
theorem readL_ok {l : List UInt8} {zs : List Int} (h : readL rdF l = some zs) : numT zs = l ∧ okL zs = true := by
  unfold readL at h
  split at h
  · next e => rw [← Option.some.inj h, e]; exact ⟨rfl, rfl⟩
  · next e =>
    cases h1 : rdAll rdF (splitL 44 l) with
    | none => rw [h1] at h; cases h
    | some ys =>
      rw [h1] at h
      dsimp only at h
      split at h
      · next hk =>
        have hy := Option.some.inj h
        obtain ⟨e1, e2⟩ := rdAll_rd h1
        subst hy
        have hne : ¬ ys = [] := by
          intro e3
          rw [e3] at e1
          exact splitL_ne 44 l e1
        refine ⟨?_, hk⟩
        rw [numT, if_neg hne, ← e1, joinL_split]
      · cases h
theorem itoa_ne45 (v : Int) : itoa v ≠ [45] := by
  intro h
  unfold itoa at h
  split at h
  · have := List.cons.inj h
    exact dec_ne _ this.2
  · obtain ⟨c, r, e, hc⟩ := dec_cons v.toNat
    rw [e] at h
    have := (List.cons.inj h).1
    rw [this] at hc
    cases hc
theorem numT_ne {zs : List Int} (h : zs ≠ []) : numT zs ≠ [45] := by
  unfold numT
  rw [if_neg h]
  cases zs with
  | nil => exact absurd rfl h
  | cons z t =>
    cases t with
    | nil => exact itoa_ne45 z
    | cons y t =>
      intro e
      have h1 : (44 : UInt8) ∈ joinL 44 ((z :: y :: t).map itoa) := by
        rw [List.map_cons, List.map_cons, joinL]
        exact List.mem_append_right _ (List.mem_cons_self ..)
      rw [e] at h1
      simp at h1
theorem readL_numT {zs : List Int} (h : okL zs = true) : readL rdF (numT zs) = some zs := by
  by_cases h0 : zs = []
  · subst h0; rfl
  · have hv := (okL_all h).1
    have hs : splitL 44 (numT zs) = zs.map itoa := by
      rw [numT, if_neg h0]
      refine splitL_join (fun e => h0 (List.map_eq_nil_iff.1 e)) (fun p hp => ?_)
      obtain ⟨z, _, rfl⟩ := List.mem_map.1 hp
      exact itoa_no z (by decide) (by decide)
    rw [readL, if_neg (numT_ne h0), hs, rdAll_map rdF zs (fun z hz => rdF_itoa (by have := hv z hz; omega) (by have := hv z hz; omega))]
    dsimp only
    rw [if_pos h]

/-! sheets -/
def textH (d : Int) (zs : List Int) : List UInt8 := itoa d ++ 61 :: numT zs
def implRH (l : List UInt8) : (Int × List Int) × Int :=
  if (rdF (cutL 61 l).1).2 = true then match readL rdF (cutL 61 l).2 with
    | some zs => if (okH (rdF (cutL 61 l).1).1 zs && decide (textH (rdF (cutL 61 l).1).1 zs = l)) = true then (((rdF (cutL 61 l).1).1, zs), 0) else ((0, []), 6)
    | none => ((0, []), 6)
  else ((0, []), 6)
def specRH (l : List UInt8) : (Int × List Int) × Int := match splitL 61 l with
  | [a, b] => if (valF a).2 = true then match readL sgF b with
    | some zs => if okH (valF a).1 zs = true then (((valF a).1, zs), 0) else ((0, []), 6)
    | none => ((0, []), 6)
    else ((0, []), 6)
  | _ => ((0, []), 6)
theorem okH_parts {d : Int} {zs : List Int} (h : okH d zs = true) : (0 ≤ d ∧ d ≤ 20000) ∧ zs.length ≤ 60 ∧ incGo 1 1000000 none zs = true := by
  simp only [okH, Bool.and_eq_true, decide_eq_true_eq] at h
  exact ⟨inB_iff.1 h.1.2, h.2, h.1.1⟩
theorem incGo_in {lo hi : Int} : ∀ (zs : List Int) (p : Option Int), incGo lo hi p zs = true → ∀ z ∈ zs, lo ≤ z ∧ z ≤ hi
  | [], _, _, z, h => by cases h
  | x :: t, p, h, z, hz => by
    simp only [incGo, Bool.and_eq_true] at h
    rcases List.mem_cons.1 hz with rfl | hz
    · exact inB_iff.1 h.1.1
    · exact incGo_in t _ h.2 z hz
theorem okL_of_okH {d : Int} {zs : List Int} (h : okH d zs = true) : okL zs = true := by
  obtain ⟨_, h2, h3⟩ := okH_parts h
  simp only [okL, Bool.and_eq_true, decide_eq_true_eq, List.all_eq_true]
  exact ⟨fun z hz => inV_iff.2 (by have := incGo_in zs none h3 z hz; omega), h2⟩
theorem textH_split {d : Int} {zs : List Int} : splitL 61 (textH d zs) = [itoa d, numT zs] ∧ cutL 61 (textH d zs) = (itoa d, numT zs) := by
  have h1 : (61 : UInt8) ∉ itoa d := itoa_no d (by decide) (by decide)
  have h2 : (61 : UInt8) ∉ numT zs := numT_no zs (by decide) (by decide) (by decide)
  exact ⟨by rw [textH, splitL_some _ h1, splitL_none h2], by rw [textH, cutL_some _ h1]⟩
theorem implRH_textH {d : Int} {zs : List Int} (h : okH d zs = true) : implRH (textH d zs) = ((d, zs), 0) := by
  have hd := (okH_parts h).1
  rw [implRH, textH_split.2]
  dsimp only
  rw [rdF_itoa (by omega) (by omega), if_pos rfl, readL_numT (okL_of_okH h)]
  dsimp only
  rw [if_pos (by rw [h]; simp)]
theorem specRH_textH {d : Int} {zs : List Int} (h : okH d zs = true) : specRH (textH d zs) = ((d, zs), 0) := by
  have hd := (okH_parts h).1
  obtain ⟨n, rfl⟩ : ∃ n : Nat, d = (n : Int) := ⟨d.toNat, by omega⟩
  rw [specRH, textH_split.1]
  dsimp only
  rw [itoa_nat, valF_dec (by omega), if_pos rfl, readL_eq, readL_numT (okL_of_okH h)]
  dsimp only
  rw [if_pos h]
theorem implRH_ok {l : List UInt8} (h : (implRH l).2 = 0) : okH (implRH l).1.1 (implRH l).1.2 = true ∧ l = textH (implRH l).1.1 (implRH l).1.2 := by
  unfold implRH at h ⊢
  split at h
  · next h1 =>
    rw [if_pos h1]
    cases hr : readL rdF (cutL 61 l).2 with
    | none => rw [hr] at h; dsimp only at h; omega
    | some zs =>
      rw [hr] at h
      dsimp only at h ⊢
      split at h
      · next h2 =>
        rw [if_pos h2]
        rw [Bool.and_eq_true, decide_eq_true_eq] at h2
        exact ⟨h2.1, h2.2.symm⟩
      · exact absurd h (by decide)
  · exact absurd h (by decide)
theorem specRH_ok {l : List UInt8} (h : (specRH l).2 = 0) : okH (specRH l).1.1 (specRH l).1.2 = true ∧ l = textH (specRH l).1.1 (specRH l).1.2 := by
  have hj := joinL_split 61 l
  unfold specRH at h ⊢
  split at h
  · next a b hs =>
    rw [hs] at hj
    split at h
    · next h1 =>
      simp only [if_pos h1]
      cases hr : readL sgF b with
      | none => rw [hr] at h; dsimp only at h; omega
      | some zs =>
        rw [hr] at h
        dsimp only at h ⊢
        split at h
        · next h2 =>
          simp only [if_pos h2]
          refine ⟨h2, ?_⟩
          obtain ⟨n, e1, e2, e3⟩ := valF_ok h1
          rw [readL_eq] at hr
          rw [← hj, e1, textH, itoa_nat, (readL_ok hr).1, ← e2]; rfl
        · exact absurd h (by decide)
    · exact absurd h (by decide)
  · exact absurd h (by decide)
theorem implRH_code (l : List UInt8) : (implRH l).2 = 0 ∨ implRH l = ((0, []), 6) := by
  unfold implRH
  split
  · split
    · split
      · exact Or.inl rfl
      · exact Or.inr rfl
    · exact Or.inr rfl
  · exact Or.inr rfl
theorem specRH_code (l : List UInt8) : (specRH l).2 = 0 ∨ specRH l = ((0, []), 6) := by
  unfold specRH
  split
  · split
    · split
      · split
        · exact Or.inl rfl
        · exact Or.inr rfl
      · exact Or.inr rfl
    · exact Or.inr rfl
  · exact Or.inr rfl
/-- The two ways of reading a sheet agree. -/
theorem rh_eq (l : List UInt8) : specRH l = implRH l := by
  rcases implRH_code l with h | h
  · obtain ⟨h1, h2⟩ := implRH_ok h
    have h3 := specRH_textH h1
    rw [← h2] at h3
    rw [h3]
    exact Prod.ext rfl h.symm
  · rcases specRH_code l with g | g
    · obtain ⟨h1, h2⟩ := specRH_ok g
      have h3 := implRH_textH h1
      rw [← h2, h] at h3
      have h4 : (6 : Int) = 0 := congrArg Prod.snd h3
      omega
    · rw [g, h]
end Go.Proofs.YtodfkbgifoecbaaGreatDoor
