/- From the reading of an argument as data to the facts that the walks take. No condition. -/
import Derived.Test.YtkhojhgcopnenaaBase
import Derived.Test.YtkhojhgcopnenaaRows
import Derived.ProofKit
import Derived.OpenShut
import Derived.ShutString
import Derived.ChangeOld
import Derived.Deep.Slices
namespace Go.Proofs.Ytkhojhgcopnenaa
open Go.ChangeShapes Go.WideShapes Go.ChangeAt Go.RowKit

section
variable {H : Type} {enc : TypeId × Value → H} {P : Program} {w : World} {spare : Nat → Bool} {held : Bool}

theorem list_of_index {α : Type} (n : Nat) (R : Nat → α → Prop) (h : ∀ i, i < n → ∃ a, R i a) : ∃ xs : List α, xs.length = n ∧ ∀ i a, xs[i]? = some a → R i a := by
  induction n with
  | zero => exact ⟨[], rfl, by simp⟩
  | succ n ih =>
    obtain ⟨xs, hl, hx⟩ := ih fun i hi => h i (by omega)
    obtain ⟨a, ha⟩ := h n (by omega)
    refine ⟨xs ++ [a], by simp [hl], fun i b hb => ?_⟩
    by_cases hi : i < n
    · rw [List.getElem?_append_left (by omega)] at hb; exact hx i b hb
    · rw [List.getElem?_append_right (by omega), hl] at hb
      have hin : i - n = 0 := by
        have := (List.getElem?_eq_some_iff.1 hb).1
        simp at this; omega
      have : i = n := by omega
      subst this
      rw [hin] at hb; simp at hb; subst hb; exact ha

/-- A slice that came in, at records of s cells. -/
theorem open_slR {α : Type} {f : α → List Value} {s : Nat} (hf : ∀ x, (f x).length = s) (hs : 0 < s) {G : α → Prop} {t e : TypeId} {fuel : Nat} {v : Value} {x : DataW H × List MemPlace}
    (ht : P.underlying t = some (.slice e)) (ce : P.cellsOf e = s) (h : DataW.trod enc P w 0 spare held fuel t [v] = some x)
    (helem : ∀ n cs y, DataW.trod enc P w 0 spare held n e cs = some y → ∃ a, cs = f a ∧ G a) :
    ∃ xs : List α, SlR f s w 0 w.heap.size v xs ∧ ∀ a ∈ xs, G a := by
  rcases Deep.open_slice ht h with ⟨hcs, _⟩ | ⟨a, len, cap, m, n, D, Pl, hcs, _, hl, hm, hmm, _, hx⟩
  · simp at hcs; subst hcs
    exact ⟨[], ⟨hf, by simpa using Sl.nil w 0 w.heap.size s⟩, by simp⟩
  · simp at hcs; subst hcs
    have hlm : len ≤ m := by rw [hmm]; split <;> omega
    obtain ⟨xs, hlen, hxs⟩ := list_of_index (α := α) len (fun i b => G b ∧ ∀ j u, (f b)[j]? = some u → w.cell? (a.add (i * s + j)) = some u) (fun i hi => by
      obtain ⟨cs', h1, h2⟩ := hx i (by omega)
      rw [ce] at h1
      obtain ⟨_, hl', hc⟩ := World.cells?_some h1
      obtain ⟨b, rfl, hb⟩ := helem _ _ _ h2
      refine ⟨b, hb, fun j u hu => ?_⟩
      have hj : j < s := by have := (List.getElem?_eq_some_iff.1 hu).1; rw [hf] at this; exact this
      have := hc j hj
      rw [Deep.add_add] at this
      rw [this, hu])
    refine ⟨xs, ⟨hf, ⟨some a, cap, by rw [hlen], by rw [hlen]; exact hl, hm, flatMap_len hf xs, fun hn => ?_⟩⟩, fun b hb => ?_⟩
    · obtain ⟨b, off, spot⟩ := a
      obtain ⟨y, hy⟩ := some_at (l := xs) (k := 0) hn
      obtain ⟨u, hu⟩ := some_at (l := f y) (k := 0) (by rw [hf]; exact hs)
      have h0 := (hxs 0 y hy).2 0 u hu
      have hspot : spot = none := by simpa [Addr.add] using World.cell?_spot h0
      subst hspot
      refine ⟨b, off, rfl, Nat.zero_le _, by simpa [Addr.add] using World.block_lt_of_cell? w _ h0, fun j u hu => ?_⟩
      have hjl : j < xs.length * s := by have := (List.getElem?_eq_some_iff.1 hu).1; rw [flatMap_len hf] at this; exact this
      obtain ⟨z, hz⟩ := some_at (l := xs) (k := j / s) (Nat.div_lt_of_lt_mul (by rw [Nat.mul_comm]; exact hjl))
      have hjs : j % s < s := Nat.mod_lt _ hs
      have e1 : j / s * s + j % s = j := by rw [Nat.mul_comm]; exact Nat.div_add_mod j s
      have := flatMap_at hf xs (j / s) (j % s) z hz hjs
      rw [e1, hu] at this
      have h3 := (hxs _ z hz).2 (j % s) u this.symm
      rw [e1, Addr.add_lit] at h3
      exact h3
    · obtain ⟨i, hi⟩ := List.getElem?_of_mem hb
      exact (hxs i b hi).1

theorem open_i64 {t : TypeId} {n : Nat} {cs : List Value} {y : DataW H × List MemPlace} (ht : P.underlying t = some (.int .i64)) (h : DataW.trod enc P w 0 spare held n t cs = some y) : ∃ a : Int, cs = i64s a ∧ (Lit.int .i64 a).wf = true := by
  obtain ⟨a, h1, _, h2⟩ := DataW.trod_int ht h
  exact ⟨a, h1, h2⟩

theorem open_slI {t e : TypeId} {fuel : Nat} {v : Value} {x : DataW H × List MemPlace} (ht : P.underlying t = some (.slice e)) (he : P.underlying e = some (.int .i64)) (ce : P.cellsOf e = 1)
    (h : DataW.trod enc P w 0 spare held fuel t [v] = some x) : ∃ zs : List Int, SlI w 0 w.heap.size v zs ∧ ∀ z ∈ zs, (Lit.int .i64 z).wf = true :=
  open_slR (f := i64s) (s := 1) (fun _ => rfl) (by decide) ht ce h fun _ _ _ hy => open_i64 he hy

/-- A struct: a field of one cell. -/
theorem open_field {t : TypeId} {fs : Array Field} {n : Nat} {cs : List Value} {y : DataW H × List MemPlace} (ht : P.underlying t = some (.struct fs)) (h : DataW.trod enc P w 0 spare held n t cs = some y)
    (i off : Nat) (ty : TypeId) {f : Field} (hf : fs[i]? = some f) (ho : f.offset = off) (hty : f.type = ty) (hc : P.cellsOf ty = 1) (hl : off < cs.length) :
    ∃ m z v, cs[off]? = some v ∧ DataW.trod enc P w 0 spare held m ty [v] = some z := by
  obtain ⟨xs, m, _, _, h3, h4, h5⟩ := DataW.trod_struct ht h
  have hi : i < xs.length := by rw [h4]; exact (Array.getElem?_eq_some_iff.1 hf).1
  have := h5 i f hf
  rw [hty, ho, hc, List.getElem?_eq_getElem hi, List.drop_eq_getElem_cons hl] at this
  exact ⟨m, xs[i], cs[off], List.getElem?_eq_getElem hl, this⟩

theorem struct_len {t : TypeId} {fs : Array Field} {n : Nat} {cs : List Value} {y : DataW H × List MemPlace} (ht : P.underlying t = some (.struct fs)) (h : DataW.trod enc P w 0 spare held n t cs = some y) : cs.length = P.cellsOf t := by
  obtain ⟨_, _, _, _, h3, _⟩ := DataW.trod_struct ht h
  exact h3
/-- .. that holds an integer. -/
theorem field_i64 {t : TypeId} {fs : Array Field} {n : Nat} {cs : List Value} {y : DataW H × List MemPlace} (ht : P.underlying t = some (.struct fs)) (h : DataW.trod enc P w 0 spare held n t cs = some y)
    (i off : Nat) (ty : TypeId) {f : Field} (hf : fs[i]? = some f) (ho : f.offset = off) (hty : f.type = ty) (hu : P.underlying ty = some (.int .i64)) (hc : P.cellsOf ty = 1) (hl : off < cs.length) :
    ∃ a : Int, cs[off]? = some (.int .i64 a) ∧ (Lit.int .i64 a).wf = true := by
  obtain ⟨m, z, v, hv, g⟩ := open_field ht h i off ty hf ho hty hc hl
  obtain ⟨a, e, _, hw⟩ := DataW.trod_int hu g
  simp at e; subst e
  exact ⟨a, hv, hw⟩
end
theorem cells_i64 : Try.prog.cellsOf 2 = 1 := by kernel_rfl
set_option maxRecDepth 100000 in
theorem open_int64 {H : Type} {enc : TypeId × Value → H} {w : World} {base : Nat} {v : Value} {d : DataW H} {p : List MemPlace} (hv : Value.okWide Try.prog w .any base 2 v) (_ : DataW.Trod enc Try.prog w 0 (fun _ => true) true 2 v d p) : ∃ n : Int, v = .int .i64 n :=
  okWide_int Try.underlying2 hv
set_option maxRecDepth 100000 in
theorem open_Int64S {H : Type} {enc : TypeId × Value → H} {w : World} {base : Nat} {v : Value} {d : DataW H} {p : List MemPlace} (hv : Value.okWide Try.prog w .any base 22 v) (h : DataW.Trod enc Try.prog w 0 (fun _ => true) true 22 v d p) :
    ∃ zs : List Int, SlI w 0 w.heap.size v zs := by
  obtain ⟨A, n, c, rfl⟩ := okWide_slice Try.underlying22 hv
  obtain ⟨fuel, hf⟩ := h
  obtain ⟨xs, h1, _⟩ := open_slI Try.underlying22 Try.underlying2 cells_i64 hf
  exact ⟨xs, h1⟩
end Go.Proofs.Ytkhojhgcopnenaa
