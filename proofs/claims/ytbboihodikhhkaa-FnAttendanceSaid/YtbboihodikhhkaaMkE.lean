/- A person marked present: what the program's and the reference's code compute, and memory laws. No condition but the sizes that the law itself asks. -/
import Derived.Test.YtbboihodikhhkaaMkD
import Derived.Test.YtbboihodikhhkaaShG
import Derived.Test.YtbboihodikhhkaaShQ
namespace Go.Proofs.Ytbboihodikhhkaa
open Go.RowKit

def putDay (day : Int) (p : List Int) (z : List (Int × List Int)) : List (Int × List Int) := z.take (ltLen day z) ++ [(day, p)] ++ z.drop (if foundB day z = true then ltLen day z + 1 else ltLen day z)
def marked (day n : Int) (z : List (Int × List Int)) : List (Int × List Int) := putDay day (insU n (if foundB day z = true then presAt day z else [])) z
def markF (z : List (Int × List Int)) (day n : Int) : List (Int × List Int) × Int :=
  if sheetsOk z = true then if (inB day 0 20000 && inB n 1 1000000) = true then if (foundB day z && hasB n (presAt day z)) = true then ([], 5) else if sheetsOk (marked day n z) = true then (marked day n z, 0) else ([], 3) else ([], 2) else ([], 1)

structure OwnM (w : World) (g n c : Nat) (ys : List H2) : Prop where
  outer : OwnR H2.vals 2 w g 56 (.slice (some ⟨g, 0, none⟩) n c) ys
  len : ys.length = n
  inner : ∀ y ∈ ys, OwnR i64s 1 w (g + 1) 2 (.slice y.A y.pres.length y.c) y.pres ∧ y.c = y.pres.length
  apart : ys.Pairwise (fun x y => ∀ b, (Value.slice x.A x.pres.length x.c).ownBlock = some b → (Value.slice y.A y.pres.length y.c).ownBlock ≠ some b)
section
variable {w w' : World} {g n c : Nat} {ys : List H2}
theorem OwnG.toM (h : OwnG w g n c ys) : OwnM w g n c ys := ⟨h.outer, h.len, fun y hy => ⟨(h.inner y hy).1, (h.inner y hy).2.elim fun _ q => q.2⟩, h.apart⟩
theorem OwnM.below (h : OwnM w g n c ys) (hb : Below w.heap.size w w') : OwnM w' g n c ys := ⟨h.outer.below hb, h.len, fun y hy => ⟨(h.inner y hy).1.below hb, (h.inner y hy).2⟩, h.apart⟩
theorem OwnM.alloc (h : OwnM w g n c ys) (o : Obj) : OwnM (w.alloc o) g n c ys := ⟨h.outer.alloc o, h.len, fun y hy => ⟨(h.inner y hy).1.alloc o, (h.inner y hy).2⟩, h.apart⟩
theorem OwnM.lt (h : OwnM w g n c ys) : g < w.heap.size := (World.ownsRow.lt (OwnR.own h.outer) g rfl).2
theorem OwnM.sl (h : OwnM w g n c ys) : SlH w g w.heap.size (.slice (some ⟨g, 0, none⟩) n c) ys := ⟨own_slR (f := H2.vals) (s := 2) (fun _ => rfl) h.outer, fun x hx => (own_slI (h.inner x hx).1).more (by omega) (Nat.le_refl _)⟩
theorem OwnM.own (h : OwnM w g n c ys) : OwnH w g (.slice (some ⟨g, 0, none⟩) n c) ys :=
  ⟨h.outer, fun x hx => (h.inner x hx).1.more (by omega), h.apart, fun x hx q hq he => by
    have h1 := (World.ownsRow.lt (OwnR.own (h.inner x hx).1) q he).1
    have h2 : g = q := Option.some.inj hq
    omega⟩
/-- A sheet without a list is put in. -/
theorem OwnM.insert (h : OwnM w g n c ys) (hg : w.grownBy w' (some g)) {n' c' : Nat} {k : Nat} {day : Int} (hn : n' = n + 1) (hk : k ≤ n)
    (ho : OwnR H2.vals 2 w' g 56 (.slice (some ⟨g, 0, none⟩) n' c') (ys.take k ++ [⟨day, none, 0, []⟩] ++ ys.drop k)) : OwnM w' g n' c' (ys.take k ++ [⟨day, none, 0, []⟩] ++ ys.drop k) := by
  subst hn
  have hl := h.len
  refine ⟨ho, by simp; omega, fun y hy => ?_, ?_⟩
  · have : y ∈ ys ∨ y = ⟨day, none, 0, []⟩ := by
      rcases List.mem_append.1 hy with hy | hy
      · rcases List.mem_append.1 hy with hy | hy
        · exact Or.inl (List.mem_of_mem_take hy)
        · exact Or.inr (List.mem_singleton.1 hy)
      · exact Or.inl (List.mem_of_mem_drop hy)
    rcases this with hy | rfl
    · exact ⟨(h.inner y hy).1.grown hg (fun q hq => by have := Option.some.inj hq; omega), (h.inner y hy).2⟩
    · exact ⟨own_nil _ _ _ _ _, rfl⟩
  · have ha := h.apart
    rw [← List.take_append_drop k ys, List.pairwise_append] at ha
    obtain ⟨a1, a2, a3⟩ := ha
    rw [List.pairwise_append, List.pairwise_append]
    refine ⟨⟨a1, List.pairwise_singleton _ _, fun y _ x hx b _ hb => ?_⟩, a2, fun y hy x hx b hb => ?_⟩
    · have e := List.mem_singleton.1 hx
      subst e
      cases hb
    · rcases List.mem_append.1 hy with hy | hy
      · exact a3 y hy x hx b hb
      · have e := List.mem_singleton.1 hy
        subst e
        cases hb
/-- A sheet's list is changed. -/
theorem OwnM.put (h : OwnM w g n c ys) {k : Nat} {y : H2} (hy : ys[k]? = some y) {A' : Option Addr} {c' : Nat} {p : List Int} (ho : OwnR i64s 1 w' (g + 1) 2 (.slice A' p.length c') p) (hg : w.grownBy w' (Value.slice y.A y.pres.length y.c).ownBlock)
    (hat : (Value.slice A' p.length c').ownBlock = (Value.slice y.A y.pres.length y.c).ownBlock ∨ ∃ b, (Value.slice A' p.length c').ownBlock = some b ∧ w.heap.size ≤ b) :
    OwnH (w'.setCell ⟨g, k * 2 + 1, none⟩ (.slice A' p.length c')) g (.slice (some ⟨g, 0, none⟩) n c) (ys.set k ⟨y.day, A', c', p⟩) := by
  have hmem : y ∈ ys := List.mem_of_getElem? hy
  have hk : k < ys.length := (List.getElem?_eq_some_iff.1 hy).1
  have hyg : ∀ b, (Value.slice y.A y.pres.length y.c).ownBlock = some b → g < b ∧ b < w.heap.size := fun b hb => World.ownsRow.lt (OwnR.own (h.inner y hmem).1) b hb
  have houter : OwnR H2.vals 2 w' g 56 (.slice (some ⟨g, 0, none⟩) n c) ys := h.outer.grown' hg (fun a b ha hb => by
    have h1 := (hyg a ha).1
    have h2 : g = b := Option.some.inj hb
    omega)
  have hset := own_setField (f := H2.vals) (s := 2) (fun _ => rfl) (j := 1) (u := .slice A' p.length c') (x' := ⟨y.day, A', c', p⟩) houter hy (by omega) rfl
  have hgl := h.lt
  have hnew : ∀ b, (Value.slice A' p.length c').ownBlock = some b → g < b := fun b hb => (World.ownsRow.lt (OwnR.own ho) b hb).1
  have hsplit : ys = ys.take k ++ y :: ys.drop (k + 1) := by rw [← drop_cons hy, List.take_append_drop]
  have hse : ys.set k ⟨y.day, A', c', p⟩ = ys.take k ++ ⟨y.day, A', c', p⟩ :: ys.drop (k + 1) := by rw [List.set_eq_take_append_cons_drop, if_pos hk]
  have ha := h.apart
  rw [hsplit, List.pairwise_append, List.pairwise_cons] at ha
  obtain ⟨a1, ⟨a2, a3⟩, a4⟩ := ha
  -- any other list of ys lies apart from the new one, and stays
  have hother : ∀ x ∈ ys, (∀ b, (Value.slice x.A x.pres.length x.c).ownBlock = some b → (Value.slice y.A y.pres.length y.c).ownBlock ≠ some b) → OwnR i64s 1 (w'.setCell ⟨g, k * 2 + 1, none⟩ (.slice A' p.length c')) (g + 1) 2 (.slice x.A x.pres.length x.c) x.pres ∧ ∀ b, (Value.slice x.A x.pres.length x.c).ownBlock = some b → (Value.slice A' p.length c').ownBlock ≠ some b := by
    intro x hx hne
    have hxg : ∀ b, (Value.slice x.A x.pres.length x.c).ownBlock = some b → g < b ∧ b < w.heap.size := fun b hb => World.ownsRow.lt (OwnR.own (h.inner x hx).1) b hb
    refine ⟨((h.inner x hx).1.grown' hg (fun a b h1 h2 e => hne b h2 (e ▸ h1))).setCell _ _ (fun b hb => by have := (hxg b hb).1; show b ≠ g; omega), fun b hb he => ?_⟩
    rcases hat with hat | ⟨q, hq, hl⟩
    · exact hne b hb (hat ▸ he)
    · have : q = b := Option.some.inj (hq.symm.trans he)
      have := (hxg b hb).2
      omega
  have hL : ∀ x ∈ ys.take k, x ∈ ys := fun x hx => List.mem_of_mem_take hx
  have hR : ∀ x ∈ ys.drop (k + 1), x ∈ ys := fun x hx => List.mem_of_mem_drop hx
  have nL : ∀ x ∈ ys.take k, ∀ b, (Value.slice x.A x.pres.length x.c).ownBlock = some b → (Value.slice y.A y.pres.length y.c).ownBlock ≠ some b := fun x hx => a4 x hx y (List.mem_cons_self ..)
  have nR : ∀ x ∈ ys.drop (k + 1), ∀ b, (Value.slice x.A x.pres.length x.c).ownBlock = some b → (Value.slice y.A y.pres.length y.c).ownBlock ≠ some b := fun x hx b hb he => a2 x hx b he hb
  refine ⟨hset, fun x hx => ?_, ?_, fun x hx b hb he => ?_⟩
  · rw [hse] at hx
    rcases List.mem_append.1 hx with hx | hx
    · exact ((hother x (hL x hx) (nL x hx)).1).more (by omega)
    · rcases List.mem_cons.1 hx with rfl | hx
      · exact (ho.setCell _ _ (fun b hb => by have := hnew b hb; show b ≠ g; omega)).more (by omega)
      · exact ((hother x (hR x hx) (nR x hx)).1).more (by omega)
  · rw [hse, List.pairwise_append, List.pairwise_cons]
    refine ⟨a1, ⟨fun x hx b hb he => (hother x (hR x hx) (nR x hx)).2 b he hb, a3⟩, fun x hx q hq b hb he => ?_⟩
    rcases List.mem_cons.1 hq with rfl | hq
    · exact (hother x (hL x hx) (nL x hx)).2 b hb he
    · exact a4 x hx q (List.mem_cons_of_mem _ hq) b hb he
  · have e : g = b := Option.some.inj hb
    rw [hse] at hx
    rcases List.mem_append.1 hx with hx | hx
    · have := (World.ownsRow.lt (OwnR.own (h.inner x (hL x hx)).1) b he).1; omega
    · rcases List.mem_cons.1 hx with rfl | hx
      · have := hnew b he; omega
      · have := (World.ownsRow.lt (OwnR.own (h.inner x (hR x hx)).1) b he).1; omega
end
theorem OwH.nil (w : World) (lo hi : Nat) : OwH w lo hi (.slice none 0 0) [] := ⟨[], ⟨own_nil _ _ _ _ _, fun x hx => (by cases hx), List.Pairwise.nil, fun x hx => (by cases hx)⟩, rfl, fun g hg => (by cases hg), fun x hx => (by cases hx)⟩
end Go.Proofs.Ytbboihodikhhkaa
