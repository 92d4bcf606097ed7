/- Plain lemmas on memory for an insertion into a row: cells stored into an own row, copy, append of a make. No condition; nothing of the program is named. -/
import Derived.Test.YtodfkbgifoecbaaGreatDoorReg
import Derived.Lib.AppendZerosOnto
namespace Go.Proofs.YtodfkbgifoecbaaGreatDoor
open Go.RowKit

theorem take_splice {α : Type} (A vs : List α) (N m : Nat) (hm : m + vs.length ≤ N) (hN : N ≤ A.length) : (A.take m ++ vs ++ A.drop (m + vs.length)).take N = (A.take N).take m ++ vs ++ (A.take N).drop (m + vs.length) := by
  have h1 : (A.take m ++ vs).length = m + vs.length := by rw [List.length_append, List.length_take, Nat.min_eq_left (by omega)]
  rw [List.take_append, h1, List.take_of_length_le (by rw [h1]; exact hm), List.take_take, Nat.min_eq_left (by omega), List.drop_take]

theorem ins_fin {A X D R : List Value} {p q : Nat} (hA : (A ++ X).length = p) (hq : (A ++ X ++ R).length ≤ q) : (A ++ X ++ R).take p ++ D ++ (A ++ X ++ R).drop q = A ++ X ++ D := by
  rw [List.take_left' hA, List.drop_of_length_le hq, List.append_nil]
theorem ownsRow_drew {w : World} {base : Nat} {e : TypeId} {s : Nat} {v : Value} {n : Nat} {xs : List Value} (h : w.ownsRow base e s v n xs) : w.drew.ownsRow base e s v n xs := h

section
variable {P : Program} {α : Type} {f : α → List Value} {s : Nat}
/-- Cells are stored into a row of the call's own. -/
theorem own_storeAt (w : World) {base : Nat} {e : TypeId} {g n cap : Nat} {xs : List Value} (h : w.ownsRow base e s (.slice (some ⟨g, 0, none⟩) n cap) n xs) (vs : List Value) (m : Nat) (hm : m + vs.length ≤ n * s) (h1 : ∀ v ∈ vs, v.oneCell' = true) :
    ∃ w', (storeCells ⟨g, m, none⟩ vs).run P w = .ok () w' ∧ w'.ownsRow base e s (.slice (some ⟨g, 0, none⟩) n cap) n (xs.take m ++ vs ++ xs.drop (m + vs.length)) ∧ w.grownBy w' (some g) := by
  obtain ⟨hl, h2⟩ := h
  rcases h2 with ⟨h2, _⟩ | ⟨g', cap', cur, e1, hb, hg, h5, h6, h7, h8⟩
  · cases h2
  · injection e1 with e1 e2 e3
    injection e1 with e1; injection e1 with e1
    subst e1 e3
    have hns : n * s ≤ cap * s := Nat.mul_le_mul_right _ h5
    have hcl : cur.toList.length = cap * s := by rw [Array.length_toList, h7]
    have hst := run_storeCells_at P g m e vs 0 cur w hg (by rw [h7]; omega) h1
    simp only [Nat.add_zero] at hst
    refine ⟨_, hst, ⟨by simp only [List.length_append, List.length_take, List.length_drop, hl]; omega, .inr ⟨g, cap, _, rfl, hb, setRow_heap w g cur _ e _ hg, h5, h6, ?_, ?_⟩⟩, ⟨rfl, rfl, rfl, by simp, fun k _ hk => setRow_other w g k _ (fun e => hk (by simp [e]))⟩⟩
    · simp only [List.size_toArray, List.length_append, List.length_take, List.length_drop, hcl]
      omega
    · rw [← h8]
      show List.take (n * s) (cur.toList.take m ++ vs ++ cur.toList.drop (m + vs.length)) = _
      exact take_splice cur.toList vs (n * s) m hm (by rw [hcl]; exact hns)

/-- A list is copied into a row of the call's own. -/
theorem run_copy_own (w : World) (hf : ∀ x, (f x).length = s) (h1c : ∀ x, ∀ u ∈ f x, u.oneCell' = true) (t ty : TypeId) (base : Nat) (e : TypeId) {z : Value} {bytes : Nat}
    (hinfo : (P.info? e).map (fun i => (i.zero, i.size, i.bytes)) = some (some z, s, bytes)) (ht : P.underlying t = some (.slice e))
    {g n cap : Nat} {xs : List Value} (h : w.ownsRow base e s (.slice (some ⟨g, 0, none⟩) n cap) n xs) (ys : List α) (u : Value) (lo hi : Nat) (hy : SlR f s w lo hi u ys) (h0 : 0 < ys.length) (m d dc : Nat) (hd : ys.length ≤ d) (hm : m + ys.length * s ≤ n * s) :
    ∃ w', (Builtin.copy_ #[t, t] ty #[.slice (some ⟨g, m, none⟩) d dc, u]).run P w = .ok (goInt ys.length) w' ∧ w'.ownsRow base e s (.slice (some ⟨g, 0, none⟩) n cap) n (xs.take m ++ ys.flatMap f ++ xs.drop (m + ys.length * s)) ∧ w.grownBy w' (some g) := by
  obtain ⟨i, hi0, hi1, hi2, hi3⟩ := info_parts hinfo
  obtain ⟨A, c, rfl, h2, h3, h4, h5⟩ := hy.2
  obtain ⟨b, off, rfl, hlo, hhi, hat⟩ := h5 h0
  obtain ⟨w', hst, ho, hg⟩ := own_storeAt (P := P) w h (ys.flatMap f) m (by rw [h4]; exact hm) (fun u hu => by obtain ⟨x, _, hx⟩ := List.mem_flatMap.1 hu; exact h1c x u hx)
  rw [h4] at ho
  refine ⟨w', ?_, ho, hg⟩
  have hf := run_firstCells_some (P := P) w i.size ys.length ⟨b, off, none⟩ ys.length c (ys.flatMap f) (by rw [hi2]; exact h4) (fun j u hu => by rw [Addr.add_lit]; exact hat j u hu)
  have hmin : Nat.min ys.length d = ys.length := Nat.min_eq_left hd
  simp [Builtin.copy_, run_underlying ht, sizeOf, typeInfo, hi0, Builtin.lenOf, hmin, hf, hst]

theorem wpList_copy_own (w : World) (hf : ∀ x, (f x).length = s) (h1c : ∀ x, ∀ u ∈ f x, u.oneCell' = true) {ops : Array Oper} {rest : List Oper} {o : Oper} {a : Act} {Q : Exit → Act → World → Prop} (hgd : o.guard = Option.none) (p q : Operand) (t : TypeId)
    (ho : o.op = .call { callee := .builtin .copy, args := #[p, q], argTypes := #[t, t] }) (base : Nat) (e : TypeId) {z : Value} {bytes : Nat}
    (hinfo : (P.info? e).map (fun i => (i.zero, i.size, i.bytes)) = some (some z, s, bytes)) (ht : P.underlying t = some (.slice e))
    (g n cap : Nat) (xs : List Value) (h : w.ownsRow base e s (.slice (some ⟨g, 0, none⟩) n cap) n xs) (ys : List α) (u : Value) (lo hi : Nat) (hy : SlR f s w lo hi u ys) (h0 : 0 < ys.length) (m d dc : Nat) (hs : a.eval p = .slice (some ⟨g, m, none⟩) d dc) (hx : a.eval q = u) (hd : ys.length ≤ d) (hm : m + ys.length * s ≤ n * s)
    (hK : ∀ w', w'.ownsRow base e s (.slice (some ⟨g, 0, none⟩) n cap) n (xs.take m ++ ys.flatMap f ++ xs.drop (m + ys.length * s)) → w.grownBy w' (some g) → wpList P ops Q rest (a.put o.dst (goInt ys.length)) w') :
    wpList P ops Q (o :: rest) a w := by
  obtain ⟨w', hr, h2, h3⟩ := run_copy_own (P := P) w hf h1c t o.type base e hinfo ht h ys u lo hi hy h0 m d dc hd hm
  refine wpList_plain hgd fun K hKK => ?_
  unfold Oper.wp execOp
  simp only [ho, resolve, invoke, builtin, Sem.run_bind, Sem.run_pure, Result.andThen_ok, List.map_toArray, List.map_cons, List.map_nil, hs, hx, hr]
  exact hKK _ _ (hK w' h2 h3)
theorem step_copy_own (w : World) (hf : ∀ x, (f x).length = s) (h1c : ∀ x, ∀ u ∈ f x, u.oneCell' = true) {ops : Array Oper} {o : Oper} {a : Act} {K : Act → World → Prop} {Q : Exit → Act → World → Prop} {E : Prop} (hgd : o.guard = Option.none) (p q : Operand) (t : TypeId)
    (ho : o.op = .call { callee := .builtin .copy, args := #[p, q], argTypes := #[t, t] }) (base : Nat) (e : TypeId) {z : Value} {bytes : Nat}
    (hinfo : (P.info? e).map (fun i => (i.zero, i.size, i.bytes)) = some (some z, s, bytes)) (ht : P.underlying t = some (.slice e))
    (g n cap : Nat) (xs : List Value) (h : w.ownsRow base e s (.slice (some ⟨g, 0, none⟩) n cap) n xs) (ys : List α) (u : Value) (lo hi : Nat) (hy : SlR f s w lo hi u ys) (h0 : 0 < ys.length) (m d dc : Nat) (hs : a.eval p = .slice (some ⟨g, m, none⟩) d dc) (hx : a.eval q = u) (hd : ys.length ≤ d) (hm : m + ys.length * s ≤ n * s)
    (hK : ∀ w', w'.ownsRow base e s (.slice (some ⟨g, 0, none⟩) n cap) n (xs.take m ++ ys.flatMap f ++ xs.drop (m + ys.length * s)) → w.grownBy w' (some g) → K (a.put o.dst (goInt ys.length)) w') :
    if Region.wanted o (yielded ops a.tmps) = true then Oper.wp P o a w K Q else E := by
  have hw : Region.wanted o (yielded ops a.tmps) = true := by simp [Region.wanted, hgd]
  rw [if_pos hw]
  obtain ⟨w', hr, h2, h3⟩ := run_copy_own (P := P) w hf h1c t o.type base e hinfo ht h ys u lo hi hy h0 m d dc hd hm
  unfold Oper.wp execOp
  simp only [ho, resolve, invoke, builtin, Sem.run_bind, Sem.run_pure, Result.andThen_ok, List.map_toArray, List.map_cons, List.map_nil, hs, hx, hr]
  exact hK w' h2 h3

/-- The head of a row and room for m zero values, in a new row. -/
theorem run_append_zeros_own (w : World) (hf : ∀ x, (f x).length = s) (t tn ty : TypeId) (e : TypeId) {z : Value} {bytes : Nat} (kn : IntKind)
    (hinfo : (P.info? e).map (fun i => (i.zero, i.size, i.bytes)) = some (some z, s, bytes)) (ht : P.underlying t = some (.slice e)) (htn : P.underlying tn = some (.int kn)) (hzs : z.cells.size = s) (hs0 : 0 < s)
    {lo hi g k cap : Nat} {cs : List α} (h : SlR f s w lo hi (.slice (some ⟨g, 0, none⟩) k cap) cs) (m N : Nat) (hN : k + m = N) (h0 : 0 < m) (hroom : cap < N) (hN2 : N ≤ 9223372036854775807) (hbytes : N * bytes ≤ 140737488355328) :
    ∃ G w' xs, (Builtin.append_ #[t, tn] ty #[.slice (some ⟨g, 0, none⟩) k cap, .int .i64 (m : Int)]).run P w = .ok (.slice (some ⟨w.heap.size, 0, none⟩) N G) w' ∧ N ≤ G ∧ G ≤ 9223372036854775807 ∧
      w'.ownsRow w.heap.size e s (.slice (some ⟨w.heap.size, 0, none⟩) N G) N xs ∧ xs.take (k * s) = cs.flatMap f ∧ Below w.heap.size w w' := by
  obtain ⟨i, hi0, hi1, hi2, hi3⟩ := info_parts hinfo
  obtain ⟨hff, A, c, e0, h2, h3, h4, h5⟩ := h
  injection e0 with e1 e2 e3
  subst e1 e2 e3 hi2 hi3
  have hold : (Builtin.firstCells i.size cs.length (.slice (some ⟨g, 0, none⟩) cs.length cap)).run P w.drew = .ok (cs.flatMap f).toArray w.drew :=
    run_firstCells_some w.drew i.size cs.length ⟨g, 0, none⟩ cs.length cap (cs.flatMap f) h4 (fun j u hu => by
      have hpos : 0 < cs.length := by
        rcases Nat.eq_zero_or_pos cs.length with h0 | h0
        · have hys : cs = [] := List.eq_nil_of_length_eq_zero h0
          subst hys; simp at hu
        · exact h0
      obtain ⟨b, off, e, _, _, hat⟩ := h5 hpos
      injection e with e; injection e with e1 e2; subst e1 e2
      rw [Addr.add_lit]; exact hat j u hu)
  have hmb : m * i.bytes ≤ N * i.bytes := Nat.mul_le_mul_right _ (by omega)
  have hr := Lib.run_append_grow_zeros (P := P) w t tn ty e i z .i64 kn ht htn hi0 hi1 (some ⟨g, 0, none⟩) cs.length cap (cs.flatMap f) hold m h0 hs0 (by omega) (by omega) (by omega) (by rw [hN]; exact growslice_fits hroom hbytes)
  rw [hN] at hr
  have hge := grownCap_ge w N cap e
  have hzl : (Builtin.zeroCells z.cells m).toList.length = m * i.size := by simp [size_zeroCells, hzs]
  have hcm := grownCap_le_maxLen w N cap e (by unfold maxLen; exact hN2)
  refine ⟨grownCap w N cap e, _, cs.flatMap f ++ (Builtin.zeroCells z.cells m).toList, hr, hge, by unfold maxLen at hcm; exact hcm, ⟨?_, .inr ⟨w.heap.size, _, _, rfl, Nat.le_refl _, heap_alloc_new w.drew _, hge, hcm, ?_, ?_⟩⟩, ?_, ?_⟩
  · rw [List.length_append, h4, hzl, ← Nat.add_mul, hN]
  · simp only [Array.size_append, List.size_toArray, h4, size_zeroCells, hzs, ← Nat.add_mul]
    congr 1
    omega
  · simp only [Array.toList_append]
    have : N * i.size = ((cs.flatMap f) ++ (Builtin.zeroCells z.cells m).toList).length := by rw [List.length_append, h4, hzl, ← Nat.add_mul, hN]
    rw [this]
    exact List.take_left
  · rw [← h4]; exact List.take_left
  · exact ((Below.refl _ _).drew.alloc (Nat.le_refl _) _)
theorem wpList_append_zeros (w : World) (hf : ∀ x, (f x).length = s) {ops : Array Oper} {rest : List Oper} {o : Oper} {a : Act} {Q : Exit → Act → World → Prop} (hgd : o.guard = Option.none) (p q : Operand) (t tn : TypeId)
    (ho : o.op = .call { callee := .builtin .append, args := #[p, q], argTypes := #[t, tn] }) (e : TypeId) {z : Value} {bytes : Nat} (kn : IntKind)
    (hinfo : (P.info? e).map (fun i => (i.zero, i.size, i.bytes)) = some (some z, s, bytes)) (ht : P.underlying t = some (.slice e)) (htn : P.underlying tn = some (.int kn)) (hzs : z.cells.size = s) (hs0 : 0 < s)
    (lo hi g k cap : Nat) (cs : List α) (h : SlR f s w lo hi (.slice (some ⟨g, 0, none⟩) k cap) cs) (m N : Nat) (hs : a.eval p = .slice (some ⟨g, 0, none⟩) k cap) (mi : Int) (hx : a.eval q = .int .i64 mi) (hmi : mi = (m : Int)) (hN : k + m = N) (h0 : 0 < m) (hroom : cap < N) (hN2 : N ≤ 9223372036854775807) (hbytes : N * bytes ≤ 140737488355328)
    (hK : ∀ G w' xs, N ≤ G → G ≤ 9223372036854775807 → w'.ownsRow w.heap.size e s (.slice (some ⟨w.heap.size, 0, none⟩) N G) N xs → xs.take (k * s) = cs.flatMap f → Below w.heap.size w w' → wpList P ops Q rest (a.put o.dst (.slice (some ⟨w.heap.size, 0, none⟩) N G)) w') :
    wpList P ops Q (o :: rest) a w := by
  subst hmi
  obtain ⟨G, w', xs, hr, g1, g2, g3, g4, g5⟩ := run_append_zeros_own (P := P) w hf t tn o.type e kn hinfo ht htn hzs hs0 h m N hN h0 hroom hN2 hbytes
  refine wpList_plain hgd fun K hKK => ?_
  unfold Oper.wp execOp
  simp only [ho, resolve, invoke, builtin, Sem.run_bind, Sem.run_pure, Result.andThen_ok, List.map_toArray, List.map_cons, List.map_nil, hs, hx, hr]
  exact hKK _ _ (hK G w' xs g1 g2 g3 g4 g5)
theorem wpList_append_in (w : World) (hf : ∀ x, (f x).length = s) (h1c : ∀ x, ∀ u ∈ f x, u.oneCell' = true) {ops : Array Oper} {rest : List Oper} {o : Oper} {a : Act} {Q : Exit → Act → World → Prop} (hgd : o.guard = Option.none) (p q : Operand) (t : TypeId)
    (ho : o.op = .call { callee := .builtin .append, args := #[p, q], argTypes := #[t, t] })
    (base : Nat) (e : TypeId) {z : Value} {bytes : Nat} (hinfo : (P.info? e).map (fun i => (i.zero, i.size, i.bytes)) = some (some z, s, bytes)) (ht : P.underlying t = some (.slice e))
    (g n cap : Nat) (xs ys : List α) (u : Value) (lo hi : Nat) (hs : a.eval p = .slice (some ⟨g, 0, none⟩) n cap) (hown : OwnR f s w base e (.slice (some ⟨g, 0, none⟩) n cap) xs) (hx : a.eval q = u) (hy : SlR f s w lo hi u ys) (m : Nat) (hm : n + ys.length = m) (hroom : m ≤ cap)
    (hK : ∀ w', OwnR f s w' base e (.slice (some ⟨g, 0, none⟩) m cap) (xs ++ ys) → w.grownBy w' (some g) → wpList P ops Q rest (a.put o.dst (.slice (some ⟨g, 0, none⟩) m cap)) w') :
    wpList P ops Q (o :: rest) a w := by
  subst hm
  obtain ⟨w', hr, h2, h3⟩ := run_append_in (P := P) w hf h1c t o.type base e hinfo ht xs ys u lo hi hown hy hroom
  refine wpList_plain hgd fun K hKK => ?_
  unfold Oper.wp execOp
  simp only [ho, resolve, invoke, builtin, Sem.run_bind, Sem.run_pure, Result.andThen_ok, List.map_toArray, List.map_cons, List.map_nil, hs, hx, hr]
  exact hKK _ _ (hK w' h2 h3)
end
end Go.Proofs.YtodfkbgifoecbaaGreatDoor
