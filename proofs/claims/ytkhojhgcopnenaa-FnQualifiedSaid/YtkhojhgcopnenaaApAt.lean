/- One record appended: where the new slice lies. No condition. -/
import Derived.Test.YtkhojhgcopnenaaBase
import Derived.Maps.AppendAt
namespace Go.Proofs.Ytkhojhgcopnenaa
open Go.RowKit

section
variable {P : Program} {α : Type} {f : α → List Value} {s : Nat}
/-- One record, laid in a new block, is appended: where the new slice lies. -/
theorem wpList_append_rec_at (e : TypeId) (w : World) (cx : Array Value) (hf : ∀ x, (f x).length = s) (h1c : ∀ x, ∀ u ∈ f x, u.oneCell' = true) {ops : Array Oper} {rest : List Oper} {o : Oper} {a : Act} {Q : Exit → Act → World → Prop} (hgd : o.guard = none) (p q : Operand) (t : TypeId)
    (ho : o.op = .call { callee := .builtin .append, args := #[p, q], argTypes := #[t, t] })
    (base : Nat) {z : Value} {bytes : Nat} (hinfo : (P.info? e).map (fun i => (i.zero, i.size, i.bytes)) = some (some z, s, bytes)) (ht : P.underlying t = some (.slice e)) (hzs : z.cells.size = s) (hs0 : 0 < s)
    (v : Value) (xs : List α) (x : α) (hs : a.eval p = v) (hown : OwnR f s w base e v xs) {B1 : Nat} (hx : a.eval q = .slice (some ⟨B1, 0, none⟩) 1 1) (hB1 : B1 = w.heap.size) (hcx : cx.toList = f x)
    (hlen : (xs.length + 1) * bytes ≤ 140737488355328) (hl2 : xs.length + 1 ≤ 9223372036854775807) (hB : base ≤ w.heap.size)
    (hK : ∀ v' w', OwnR f s w' base e v' (xs ++ [x]) → (w.alloc (.cells cx e)).grownBy w' v.ownBlock → (v'.ownBlock = v.ownBlock ∨ v'.ownBlock = some (w.heap.size + 1)) → wpList P ops Q rest (a.put o.dst v') w') :
    wpList P ops Q (o :: rest) a (w.alloc (.cells cx e)) := by
  subst hB1
  obtain ⟨i, hi0, hi1, hi2, hi3⟩ := info_parts hinfo
  have hz1 : (w.alloc (.cells cx e)).heap.size = w.heap.size + 1 := by simp
  have hat : ∀ j u, (f x)[j]? = some u → (w.alloc (.cells cx e)).cell? ((⟨w.heap.size, 0, none⟩ : Addr).add j) = some u := by
    intro j u hu
    rw [Addr.add_lit]
    have := cell_of_row (w.alloc (.cells cx e)) w.heap.size (0 + j) cx e (0, 0) (heap_alloc_new w _)
    rw [this, Nat.zero_add, ← Array.getElem?_toList, hcx]
    exact hu
  obtain ⟨v', w', hr, g2, g3, _, g5⟩ := run_append_own_at (P := P) (w := w.alloc (.cells cx e)) base t o.type e i z s bytes ht hi0 hi1 hi2 hi3 hzs hs0 v _ _ (hown.alloc (.cells cx e)) ⟨w.heap.size, 0, none⟩ 1 1 (f x) (by rw [hf, Nat.one_mul])
    hat (fun u hu => h1c x u hu) (by unfold maxLen; exact hl2) hlen (by rw [hz1]; omega)
  refine wpList_plain hgd fun K hKK => ?_
  have hk := hKK _ _ (hK v' w' (by unfold OwnR; rw [List.length_append, List.flatMap_append]; simpa using g2) g3 (by rw [hz1] at g5; exact g5))
  unfold Oper.wp execOp
  simp only [ho, resolve, invoke, builtin, Sem.run_bind, Sem.run_pure, Result.andThen_ok, List.map_toArray, List.map_cons, List.map_nil, hs, hx, hr]
  exact hk
end

end Go.Proofs.Ytkhojhgcopnenaa
