/- Plain lemmas on slices cut out of slices, and append as a step of a statement whose order is open. No condition; nothing of the program is named. -/
import Derived.Test.YtkhojhgcopnenaaBase
import Derived.Deep.RegionHeld3
import Derived.Deep.DrawnRows
namespace Go.Proofs.Ytkhojhgcopnenaa
open Go.RowKit

/-- What lies from place k on. -/
theorem SlR.drop {α : Type} {f : α → List Value} {w : World} {lo hi s n c b off : Nat} {xs : List α} (h : SlR f s w lo hi (.slice (some ⟨b, off, none⟩) n c) xs) {k : Nat} (hk : k ≤ xs.length) :
    SlR f s w lo hi (.slice (some ⟨b, off + k * s, none⟩) (n - k) (c - k)) (xs.drop k) := by
  obtain ⟨hf, A', c', e, h2, h3, h4, h5⟩ := h
  injection e with e1 e2 e3
  subst e1 e2 e3
  have hl : (xs.drop k).length = xs.length - k := List.length_drop
  refine ⟨hf, _, _, by rw [hl], by rw [hl]; omega, by omega, flatMap_len hf _, fun hn => ?_⟩
  rw [hl] at hn
  obtain ⟨b', off', e, hlo, hhi, hat⟩ := h5 (by omega)
  injection e with e; injection e with e1 e2; subst e1 e2
  refine ⟨b, off + k * s, rfl, hlo, hhi, fun j u hu => ?_⟩
  have : xs.flatMap f = (xs.take k).flatMap f ++ (xs.drop k).flatMap f := by rw [← List.flatMap_append, List.take_append_drop]
  have hj : (xs.flatMap f)[k * s + j]? = some u := by
    rw [this, List.getElem?_append_right (by rw [flatMap_len hf, List.length_take]; rw [Nat.min_eq_left hk]; omega), flatMap_len hf, List.length_take, Nat.min_eq_left hk]
    rw [← hu]; congr 1; omega
  have := hat _ _ hj
  rw [← this]; congr 2; omega
theorem SlR.none {α : Type} {f : α → List Value} {s : Nat} (hf : ∀ x, (f x).length = s) (w : World) (lo hi : Nat) (A : Option Addr) {c : Nat} (hc : c ≤ 9223372036854775807) : SlR f s w lo hi (.slice A 0 c) ([] : List α) :=
  ⟨hf, A, c, rfl, Nat.zero_le _, hc, by simp, fun h => absurd h (by simp)⟩
theorem own_cut {α : Type} {f : α → List Value} {s : Nat} (hf : ∀ x, (f x).length = s) {w : World} {base : Nat} {e : TypeId} {g n cap : Nat} {xs : List α} (h : OwnR f s w base e (.slice (some ⟨g, 0, none⟩) n cap) xs) {k : Nat} (hk : k ≤ xs.length) :
    OwnR f s w base e (.slice (some ⟨g, 0, none⟩) k cap) (xs.take k) := by
  have hl : (xs.take k).length = k := by rw [List.length_take, Nat.min_eq_left hk]
  unfold OwnR
  rw [hl]
  refine ⟨by rw [flatMap_len hf, hl], ?_⟩
  rcases (show _ ∨ _ from And.right h) with ⟨h2, _⟩ | ⟨g', cap', cur, e1, h3, h4, h5, h6, h7, h8⟩
  · cases h2
  · injection e1 with e1 e2 e3
    injection e1 with e1; injection e1 with e1
    subst e1 e2 e3
    refine .inr ⟨g, cap, cur, rfl, h3, h4, by omega, h6, h7, ?_⟩
    have : xs.flatMap f = (xs.take k).flatMap f ++ (xs.drop k).flatMap f := by rw [← List.flatMap_append, List.take_append_drop]
    rw [this] at h8
    have h9 := congrArg (List.take (k * s)) h8
    rw [List.take_take, Nat.min_eq_left (Nat.mul_le_mul_right _ hk), List.take_left' (by rw [flatMap_len hf, hl])] at h9
    exact h9

theorem OwnR.drew {α : Type} {f : α → List Value} {s : Nat} {w : World} {base : Nat} {e : TypeId} {v : Value} {xs : List α} (h : OwnR f s w base e v xs) : OwnR f s w.drew base e v xs := h.keep fun _ _ => rfl

/-- A record laid in a block of its own, as a slice of one. -/
theorem rec_sl {α : Type} {f : α → List Value} {s : Nat} (hf : ∀ x, (f x).length = s) (w : World) (e : TypeId) {cx : Array Value} {x : α} (hcx : cx.toList = f x) : SlR f s (w.alloc (.cells cx e)) w.heap.size (w.heap.size + 1) (.slice (some ⟨w.heap.size, 0, none⟩) 1 1) [x] := by
  refine ⟨hf, some ⟨w.heap.size, 0, none⟩, 1, rfl, Nat.le_refl _, by unfold maxLen; omega, by simp [hf], fun _ => ⟨w.heap.size, 0, rfl, Nat.le_refl _, by omega, fun j u hu => ?_⟩⟩
  have := cell_of_row (w.alloc (.cells cx e)) w.heap.size (0 + j) cx e (0, 0) (heap_alloc_new w _)
  rw [this, Nat.zero_add, ← Array.getElem?_toList, hcx]
  simpa using hu
theorem SlR.drew {α : Type} {f : α → List Value} {w : World} {lo hi s : Nat} {v : Value} {xs : List α} (h : SlR f s w lo hi v xs) : SlR f s w.drew lo hi v xs := h.keep fun _ _ _ => rfl
theorem SlR.alloc {α : Type} {f : α → List Value} {w : World} {lo hi s : Nat} {v : Value} {xs : List α} (h : SlR f s w lo hi v xs) (hh : hi ≤ w.heap.size) (o : Obj) : SlR f s (w.alloc o) lo hi v xs := h.keep fun k _ h2 => heap_alloc_old w o (by omega)
theorem World.grownBy.drew (w : World) (row : Option Nat) : w.grownBy w.drew row := ⟨rfl, rfl, rfl, Nat.le_refl _, fun _ _ _ => rfl⟩

section
variable {P : Program} {α : Type} {f : α → List Value} {s : Nat}
theorem wp_append_sl (w : World) (hf : ∀ x, (f x).length = s) (h1c : ∀ x, ∀ u ∈ f x, u.oneCell' = true) {o : Oper} {a : Act} {K : Act → World → Prop} {Q : Exit → Act → World → Prop} (p q : Operand) (t : TypeId)
    (ho : o.op = .call { callee := .builtin .append, args := #[p, q], argTypes := #[t, t] })
    (base : Nat) (e : TypeId) {z : Value} {bytes : Nat} (hinfo : (P.info? e).map (fun i => (i.zero, i.size, i.bytes)) = some (some z, s, bytes)) (ht : P.underlying t = some (.slice e)) (hzs : z.cells.size = s) (hs0 : 0 < s)
    (v : Value) (xs ys : List α) (u : Value) (lo hi : Nat) (hs : a.eval p = v) (hown : OwnR f s w base e v xs) (hx : a.eval q = u) (hy : SlR f s w lo hi u ys)
    (hlen : (xs.length + ys.length) * bytes ≤ 140737488355328) (hl2 : xs.length + ys.length ≤ 9223372036854775807) (hB : base ≤ w.heap.size)
    (hK : ∀ v' w', OwnR f s w' base e v' (xs ++ ys) → (∀ B a0, Below B a0 w → B ≤ base → Below B a0 w') → w.grownBy w' v.ownBlock → K (a.put o.dst v') w') :
    o.wp P a w K Q := by
  obtain ⟨i, hi0, hi1, hi2, hi3⟩ := info_parts hinfo
  obtain ⟨A, c, rfl, h2, h3, h4, h5⟩ := hy.2
  have hb : ∀ w', w.grownBy w' v.ownBlock → ∀ B a0, Below B a0 w → B ≤ base → Below B a0 w' := fun w' hg B a0 hB0 hBb => hB0.grown hg (by omega) (fun k hk => by have := (hown.own.lt k hk).1; omega)
  have fin : ∀ v' w', (Builtin.append_ #[t, t] o.type #[v, .slice A ys.length c]).run P w = .ok v' w' → K (a.put o.dst v') w' → o.wp P a w K Q := by
    intro v' w' hr hk
    unfold Oper.wp execOp
    simp only [ho, resolve, invoke, builtin, Sem.run_bind, Sem.run_pure, Result.andThen_ok, List.map_toArray, List.map_cons, List.map_nil, hs, hx, hr]
    exact hk
  rcases Nat.eq_zero_or_pos ys.length with h0 | h0
  · have hys : ys = [] := List.eq_nil_of_length_eq_zero h0
    subst hys
    cases A with
    | none =>
      refine fin v w (run_append_nilsrc w base t _ e i s ht hi0 v _ _ hown c) (hK v w (by simpa using hown) (fun B a0 hB0 _ => hB0) (World.grownBy.refl _ _))
    | some ad =>
      obtain ⟨v', w', hr, g2, g3, _⟩ := run_append_own (P := P) w base t o.type e i z s bytes ht hi0 hi1 hi2 hi3 hzs hs0 v _ _ hown ad 0 c [] (by simp) (by simp) (by simp) (by unfold maxLen; simpa using hl2) (by simpa using hlen) hB
      exact fin v' w' hr (hK v' w' (by unfold OwnR; simpa using g2) (hb w' g3) g3)
  · obtain ⟨b, off, rfl, hlo, hhi, hat⟩ := h5 h0
    obtain ⟨v', w', hr, g2, g3, _⟩ := run_append_own (P := P) w base t o.type e i z s bytes ht hi0 hi1 hi2 hi3 hzs hs0 v _ _ hown ⟨b, off, none⟩ ys.length c (ys.flatMap f) h4
      (fun j u hu => by rw [Addr.add_lit]; exact hat j u hu) (fun u hu => by obtain ⟨x, _, hx⟩ := List.mem_flatMap.1 hu; exact h1c x u hx) (by unfold maxLen; exact hl2) hlen hB
    refine fin v' w' hr (hK v' w' ?_ (hb w' g3) g3)
    unfold OwnR; rw [List.length_append, List.flatMap_append]; exact g2
theorem step_append_sl (w : World) (hf : ∀ x, (f x).length = s) (h1c : ∀ x, ∀ u ∈ f x, u.oneCell' = true) {ops : Array Oper} {o : Oper} {a : Act} {K : Act → World → Prop} {Q : Exit → Act → World → Prop} {E : Prop} (hgd : o.guard = Option.none) (p q : Operand) (t : TypeId)
    (ho : o.op = .call { callee := .builtin .append, args := #[p, q], argTypes := #[t, t] })
    (base : Nat) (e : TypeId) {z : Value} {bytes : Nat} (hinfo : (P.info? e).map (fun i => (i.zero, i.size, i.bytes)) = some (some z, s, bytes)) (ht : P.underlying t = some (.slice e)) (hzs : z.cells.size = s) (hs0 : 0 < s)
    (v : Value) (xs ys : List α) (u : Value) (lo hi : Nat) (hs : a.eval p = v) (hown : OwnR f s w base e v xs) (hx : a.eval q = u) (hy : SlR f s w lo hi u ys)
    (hlen : (xs.length + ys.length) * bytes ≤ 140737488355328) (hl2 : xs.length + ys.length ≤ 9223372036854775807) (hB : base ≤ w.heap.size)
    (hK : ∀ v' w', OwnR f s w' base e v' (xs ++ ys) → (∀ B a0, Below B a0 w → B ≤ base → Below B a0 w') → w.grownBy w' v.ownBlock → K (a.put o.dst v') w') :
    if Region.wanted o (yielded ops a.tmps) = true then Oper.wp P o a w K Q else E := by
  have hw : Region.wanted o (yielded ops a.tmps) = true := by simp [Region.wanted, hgd]
  rw [if_pos hw]
  exact wp_append_sl w hf h1c p q t ho base e hinfo ht hzs hs0 v xs ys u lo hi hs hown hx hy hlen hl2 hB hK
/-- Where there is room the list is put behind the row, in place. -/
theorem run_append_in (w : World) (hf : ∀ x, (f x).length = s) (h1c : ∀ x, ∀ u ∈ f x, u.oneCell' = true) (t ty : TypeId)
    (base : Nat) (e : TypeId) {z : Value} {bytes : Nat} (hinfo : (P.info? e).map (fun i => (i.zero, i.size, i.bytes)) = some (some z, s, bytes)) (ht : P.underlying t = some (.slice e))
    {g n cap : Nat} (xs ys : List α) (u : Value) (lo hi : Nat) (hown : OwnR f s w base e (.slice (some ⟨g, 0, none⟩) n cap) xs) (hy : SlR f s w lo hi u ys) (hroom : n + ys.length ≤ cap) :
    ∃ w', (Builtin.append_ #[t, t] ty #[.slice (some ⟨g, 0, none⟩) n cap, u]).run P w = .ok (.slice (some ⟨g, 0, none⟩) (n + ys.length) cap) w' ∧ OwnR f s w' base e (.slice (some ⟨g, 0, none⟩) (n + ys.length) cap) (xs ++ ys) ∧ w.grownBy w' (some g) := by
  obtain ⟨i, hi0, hi1, hi2, hi3⟩ := info_parts hinfo
  obtain ⟨A, c, rfl, h2, h3, h4, h5⟩ := hy.2
  have hn : n = xs.length := by
    obtain ⟨A', c', e1, _⟩ := own_form (OwnR.own hown)
    injection e1
  subst hn
  cases A with
  | none =>
    have h0 : ys.length = 0 := by
      rcases Nat.eq_zero_or_pos ys.length with h0 | h0
      · exact h0
      · obtain ⟨b, off, e, _⟩ := h5 h0; cases e
    have hys : ys = [] := List.eq_nil_of_length_eq_zero h0
    subst hys
    exact ⟨w, run_append_nilsrc w base t _ e i s ht hi0 _ _ _ hown c, by simpa using hown, World.grownBy.refl _ _⟩
  | some ad =>
    have hnews : ∀ j u, (ys.flatMap f)[j]? = some u → w.cell? (ad.add j) = some u := by
      intro j u hu
      rcases Nat.eq_zero_or_pos ys.length with h0 | h0
      · have hys : ys = [] := List.eq_nil_of_length_eq_zero h0
        subst hys; simp at hu
      · obtain ⟨b, off, e, hlo, hhi, hat⟩ := h5 h0
        injection e with e; subst e
        rw [Addr.add_lit]; exact hat j u hu
    rcases (show _ ∨ _ from And.right hown) with ⟨h2, _⟩ | ⟨g', cap', cur, e1, hb, hg, h5, h6, h7, h8⟩
    · cases h2
    · injection e1 with e1 e2 e3
      injection e1 with e1; injection e1 with e1
      subst e1 e3
      subst hi2
      have hfit : xs.length * i.size + (ys.flatMap f).length ≤ cur.size := by rw [h4, h7, ← Nat.add_mul]; exact Nat.mul_le_mul_right _ hroom
      have hr := run_append_room (P := P) w t ty e i ht hi0 g xs.length cap cur hg ad ys.length c (ys.flatMap f) h4 hnews (fun u hu => by obtain ⟨x, _, hx⟩ := List.mem_flatMap.1 hu; exact h1c x u hx) hroom hfit
      refine ⟨_, hr, ?_, ⟨rfl, rfl, rfl, by simp, fun k _ hk => setRow_other w g k _ (fun e => hk (by simp [e]))⟩⟩
      unfold OwnR
      rw [List.length_append, List.flatMap_append]
      refine ⟨by rw [List.length_append, flatMap_len hf, flatMap_len hf, Nat.add_mul], .inr ⟨g, cap, _, rfl, hb, setRow_heap w g cur _ e _ hg, hroom, h6, ?_, ?_⟩⟩
      · simp only [List.size_toArray, List.length_append, List.length_take, List.length_drop, Array.length_toList]
        omega
      · rw [h8]
        have : (xs.length + ys.length) * i.size = (xs.flatMap f ++ ys.flatMap f).length := by rw [List.length_append, flatMap_len hf, flatMap_len hf, Nat.add_mul]
        rw [this]
        exact List.take_left
theorem step_append_in (w : World) (hf : ∀ x, (f x).length = s) (h1c : ∀ x, ∀ u ∈ f x, u.oneCell' = true) {ops : Array Oper} {o : Oper} {a : Act} {K : Act → World → Prop} {Q : Exit → Act → World → Prop} {E : Prop} (hgd : o.guard = Option.none) (p q : Operand) (t : TypeId)
    (ho : o.op = .call { callee := .builtin .append, args := #[p, q], argTypes := #[t, t] })
    (base : Nat) (e : TypeId) {z : Value} {bytes : Nat} (hinfo : (P.info? e).map (fun i => (i.zero, i.size, i.bytes)) = some (some z, s, bytes)) (ht : P.underlying t = some (.slice e))
    (g n cap : Nat) (xs ys : List α) (u : Value) (lo hi : Nat) (hs : a.eval p = .slice (some ⟨g, 0, none⟩) n cap) (hown : OwnR f s w base e (.slice (some ⟨g, 0, none⟩) n cap) xs) (hx : a.eval q = u) (hy : SlR f s w lo hi u ys) (m : Nat) (hm : ys.length = m) (hroom : n + m ≤ cap)
    (hK : ∀ w', OwnR f s w' base e (.slice (some ⟨g, 0, none⟩) (n + m) cap) (xs ++ ys) → w.grownBy w' (some g) → K (a.put o.dst (.slice (some ⟨g, 0, none⟩) (n + m) cap)) w') :
    if Region.wanted o (yielded ops a.tmps) = true then Oper.wp P o a w K Q else E := by
  have hw : Region.wanted o (yielded ops a.tmps) = true := by simp [Region.wanted, hgd]
  rw [if_pos hw]
  subst hm
  obtain ⟨w', hr, h2, h3⟩ := run_append_in (P := P) w hf h1c t o.type base e hinfo ht xs ys u lo hi hown hy hroom
  unfold Oper.wp execOp
  simp only [ho, resolve, invoke, builtin, Sem.run_bind, Sem.run_pure, Result.andThen_ok, List.map_toArray, List.map_cons, List.map_nil, hs, hx, hr]
  exact hK w' h2 h3

/-- s[k:] -/
theorem run_slice_from {w : World} {lo hi n c : Nat} {A : Option Addr} {xs : List α} (h : SlR f s w lo hi (.slice A n c) xs) {k : Nat} (hk : k ≤ xs.length) (t e : TypeId) {z : Value} {bytes : Nat}
    (hinfo : (P.info? e).map (fun i => (i.zero, i.size, i.bytes)) = some (some z, s, bytes)) (ht : P.underlying t = some (.slice e)) :
    ∃ S : Value, (∀ W, (Instr.slice t (.slice A n c) (some (.int .i64 (k : Int))) Option.none Option.none).run P W = .ok S W) ∧ SlR f s w lo hi S (xs.drop k) := by
  obtain ⟨i, hi0, hi1, hi2, hi3⟩ := info_parts hinfo
  have h0 := h
  obtain ⟨hf, A', c', e0, h2, h3, h4, h5⟩ := h
  injection e0 with e1 e2 e3
  subst e1 e2 e3
  refine ⟨.slice (if c = k then A else A.map (·.add (k * i.size))) (xs.length - k) (c - k), fun W => ?_, ?_⟩
  · have hk' : (k : Int) ≤ (xs.length : Int) := by omega
    have hk0 : (0 : Int) ≤ (k : Int) := by omega
    simp [Instr.slice, Instr.sliceBounds, Instr.sliceBound, asIntOf, run_underlying ht, sizeOf, typeInfo, hi0, hk', hk0]
    omega
  · subst hi2
    rcases Nat.lt_or_ge k xs.length with hlt | hge
    · obtain ⟨b, off, rfl, hlo, hhi, hat⟩ := h5 (by omega)
      have hck : ¬ c = k := by omega
      rw [if_neg hck]
      have := SlR.drop h0 (k := k) hk
      simpa [Addr.add_lit] using this
    · have hd : xs.drop k = [] := List.drop_of_length_le hge
      have hl : xs.length - k = 0 := by omega
      rw [hd, hl]
      exact SlR.none hf _ _ _ _ (by unfold maxLen at h3; omega)
/-- s[:k] -/
theorem run_slice_to {w : World} {lo hi n c : Nat} {A : Option Addr} {xs : List α} (h : SlR f s w lo hi (.slice A n c) xs) {k : Nat} (hk : k ≤ xs.length) (t e : TypeId) {z : Value} {bytes : Nat}
    (hinfo : (P.info? e).map (fun i => (i.zero, i.size, i.bytes)) = some (some z, s, bytes)) (ht : P.underlying t = some (.slice e)) :
    ∃ S : Value, (∀ W, (Instr.slice t (.slice A n c) Option.none (some (.int .i64 (k : Int))) Option.none).run P W = .ok S W) ∧ SlR f s w lo hi S (xs.take k) := by
  obtain ⟨i, hi0, hi1, hi2, hi3⟩ := info_parts hinfo
  have h0 := h
  obtain ⟨hf, A', c', e0, h2, h3, h4, h5⟩ := h
  injection e0 with e1 e2 e3
  subst e1 e2 e3
  refine ⟨.slice (if c = 0 then A else A.map (·.add (0 * i.size))) k c, fun W => ?_, ?_⟩
  · have hk' : (k : Int) ≤ (c : Int) := by omega
    have hk0 : (0 : Int) ≤ (k : Int) := by omega
    simp [Instr.slice, Instr.sliceBounds, Instr.sliceBound, asIntOf, run_underlying ht, sizeOf, typeInfo, hi0, hk', hk0]
    omega
  · subst hi2
    rcases Nat.eq_zero_or_pos k with hz | hpos
    · subst hz
      rw [List.take_zero]
      exact SlR.none hf _ _ _ _ (by unfold maxLen at h3; omega)
    · obtain ⟨b, off, rfl, hlo, hhi, hat⟩ := h5 (by omega)
      have hck : ¬ c = 0 := by omega
      rw [if_neg hck]
      have := SlR.take h0 (k := k) hk
      simpa [Addr.add_lit] using this

/-- The step stands at this very world. -/
theorem at_world (W : World) {ops : Array Oper} {o : Oper} {a : Act} {K : Act → World → Prop} {Q : Exit → Act → World → Prop} {E : Prop} (h : if Region.wanted o (yielded ops a.tmps) = true then Oper.wp P o a W K Q else E) :
    if Region.wanted o (yielded ops a.tmps) = true then Oper.wp P o a W K Q else E := h
theorem mem_zeroCells {z : Array Value} {n : Nat} (hz : 0 < z.size) : ∀ u ∈ (Builtin.zeroCells z n).toList, u ∈ z := by
  intro u hu
  simp only [Builtin.zeroCells, Array.toList_map, List.mem_map] at hu
  obtain ⟨i, _, rfl⟩ := hu
  have hlt : i % z.size < z.size := Nat.mod_lt _ hz
  rw [getElem!_pos z _ hlt]
  exact Array.getElem_mem hlt
/-- What lies behind a row's elements is cleared. -/
theorem run_clear_own (w : World) (t ty : TypeId) (e : TypeId) {z : Value} (ht : P.underlying t = some (.slice e)) (hv : ∀ w, (zeroValue e).run P w = .ok z w) (hzs : z.cells.size = s) (hs0 : 0 < s) (h1z : ∀ u ∈ z.cells, u.oneCell' = true)
    {base g n cap : Nat} {xs : List α} (hown : OwnR f s w base e (.slice (some ⟨g, 0, none⟩) n cap) xs) (m c : Nat) (hm : n + m ≤ cap) :
    ∃ w', (Builtin.clear_ #[t] ty #[.slice (some ⟨g, n * s, none⟩) m c]).run P w = .ok (.tuple #[]) w' ∧ OwnR f s w' base e (.slice (some ⟨g, 0, none⟩) n cap) xs ∧ w.grownBy w' (some g) := by
  have hn : n = xs.length := by
    obtain ⟨A', c', e1, _⟩ := own_form (OwnR.own hown)
    injection e1
  rcases Nat.eq_zero_or_pos m with h0 | h0
  · subst h0
    exact ⟨w, by simp [Builtin.clear_, run_underlying ht], hown, World.grownBy.refl _ _⟩
  rcases (show _ ∨ _ from And.right hown) with ⟨h2, _⟩ | ⟨g', cap', cur, e1, hb, hg, h5, h6, h7, h8⟩
  · cases h2
  · injection e1 with e1 e2 e3
    injection e1 with e1; injection e1 with e1
    subst e1 e3
    have hl : (Builtin.zeroCells z.cells m).toList.length = m * s := by rw [Array.length_toList, size_zeroCells, hzs]
    have hst := run_storeCells_at P g (n * s) e (Builtin.zeroCells z.cells m).toList 0 cur w hg (by rw [hl, h7, Nat.add_zero, ← Nat.add_mul]; exact Nat.mul_le_mul_right _ hm) (fun u hu => h1z u (mem_zeroCells (by omega) u hu))
    simp only [Nat.add_zero] at hst
    refine ⟨w.setRow g ((cur.toList.take (n * s) ++ (Builtin.zeroCells z.cells m).toList ++ cur.toList.drop (n * s + (Builtin.zeroCells z.cells m).toList.length)).toArray), ?_, ?_, ⟨rfl, rfl, rfl, by simp, fun k _ hk => setRow_other w g k _ (fun e => hk (by simp [e]))⟩⟩
    · obtain ⟨m', rfl⟩ : ∃ m', m = m' + 1 := ⟨m - 1, by omega⟩
      simp only [Builtin.clear_, run_underlying ht, Sem.run_bind, Sem.run_pure, Result.andThen_ok, List.getElem?_toArray, List.getElem?_cons_zero, hv, hst]
    · refine ⟨And.left hown, .inr ⟨g, cap, _, by rw [hn], hb, setRow_heap w g cur _ e _ hg, h5, h6, ?_, ?_⟩⟩
      · have := h7
        have h9 : n * s + m * s ≤ cap * s := by rw [← Nat.add_mul]; exact Nat.mul_le_mul_right _ hm
        simp only [List.size_toArray, List.length_append, List.length_take, List.length_drop, hl, Array.length_toList]
        omega
      · have h9 : n * s + m * s ≤ cap * s := by rw [← Nat.add_mul]; exact Nat.mul_le_mul_right _ hm
        rw [hn] at h9
        rw [List.append_assoc]
        simp only [hn]
        have hcl : cur.toList.length = cap * s := by rw [Array.length_toList, h7]
        rw [List.take_left' (by rw [List.length_take, hcl]; omega)]
        exact h8
theorem wpList_clear_own (w : World) {ops : Array Oper} {rest : List Oper} {o : Oper} {a : Act} {Q : Exit → Act → World → Prop} (hgd : o.guard = Option.none) (p : Operand) (t : TypeId)
    (ho : o.op = .call { callee := .builtin .clear, args := #[p], argTypes := #[t] })
    (e : TypeId) {z : Value} (ht : P.underlying t = some (.slice e)) (hv : ∀ w, (zeroValue e).run P w = .ok z w) (hzs : z.cells.size = s) (hs0 : 0 < s) (h1z : ∀ u ∈ z.cells, u.oneCell' = true)
    (base g n cap : Nat) (xs : List α) (hown : OwnR f s w base e (.slice (some ⟨g, 0, none⟩) n cap) xs) (m c : Nat) (hs : a.eval p = .slice (some ⟨g, n * s, none⟩) m c) (hm : n + m ≤ cap)
    (hK : ∀ w', OwnR f s w' base e (.slice (some ⟨g, 0, none⟩) n cap) xs → w.grownBy w' (some g) → wpList P ops Q rest (a.put o.dst (.tuple #[])) w') :
    wpList P ops Q (o :: rest) a w := by
  refine wpList_plain hgd fun K hKK => ?_
  obtain ⟨w', hr, h2, h3⟩ := run_clear_own (P := P) w t o.type e ht hv hzs hs0 h1z hown m c hm
  unfold Oper.wp execOp
  simp only [ho, resolve, invoke, builtin, Sem.run_bind, Sem.run_pure, Result.andThen_ok, List.map_toArray, List.map_cons, List.map_nil, hs, hr]
  exact hKK _ _ (hK w' h2 h3)
end
end Go.Proofs.Ytkhojhgcopnenaa
