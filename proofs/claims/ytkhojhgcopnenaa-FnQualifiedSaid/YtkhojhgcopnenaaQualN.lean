/- Reasons against candidates: plain laws, and the reference's ReasonsAgainst. No condition but the sizes that the law itself asks. -/
import Derived.Test.YtkhojhgcopnenaaQualM
import Derived.Test.YtkhojhgcopnenaaQualK
namespace Go.Proofs.Ytkhojhgcopnenaa
open Go.RowKit
attribute [local go_sem ↓] Go.wp_at_zero Go.wp_at_succ

theorem bits_zero : ∀ (b0 b1 b2 b3 b4 b5 b6 : Bool), bits b0 b1 b2 b3 b4 b5 b6 7 = 0 → b0 = false ∧ b1 = false ∧ b2 = false ∧ b3 = false ∧ b4 = false ∧ b5 = false ∧ b6 = false := by
  intro b0 b1 b2 b3 b4 b5 b6 h
  have n0 := bv_b b0 1 (by omega)
  have n1 := bv_b b1 2 (by omega)
  have n2 := bv_b b2 4 (by omega)
  have n3 := bv_b b3 8 (by omega)
  have n4 := bv_b b4 16 (by omega)
  have n5 := bv_b b5 32 (by omega)
  have n6 := bv_b b6 64 (by omega)
  have hz : ∀ (b : Bool) (n : Int), 1 ≤ n → bv b n = 0 → b = false := fun b n hn hb => by
    cases b with
    | false => rfl
    | true => simp [bv] at hb; omega
  simp only [bits] at h
  exact ⟨hz b0 1 (by omega) (by omega), hz b1 2 (by omega) (by omega), hz b2 4 (by omega) (by omega), hz b3 8 (by omega) (by omega), hz b4 16 (by omega) (by omega), hz b5 32 (by omega) (by omega), hz b6 64 (by omega) (by omega)⟩
theorem truth_none {r : R5} {c : K9} (h : r.against c = 0) : ∀ t ∈ truthL r c, t = false := by
  obtain ⟨h0, h1, h2, h3, h4, h5, h6⟩ := bits_zero _ _ _ _ _ _ _ h
  intro t ht
  rw [truthL] at ht
  simp only [List.mem_cons, List.mem_nil_iff, or_false] at ht
  rcases ht with e | e | e | e | e | e | e <;> rw [e] <;> assumption
theorem cntGo_free (r : R5) (cs : List K9) : ∀ k, k ≤ cs.length → ∀ x ∈ cntGo r (cs.take k), x + ((qualGo r 0 (cs.take k)).length : Int) ≤ (k : Int)
  | 0, _ => fun x hx => by
    have : x = 0 := by simpa [cntGo] using hx
    subst this; simp [qualGo]
  | k + 1, hk => fun x hx => by
    have h2 := cntGo_free r cs k (by omega)
    obtain ⟨c, hc⟩ := some_at (show k < cs.length by omega)
    rw [cntGo_snoc hc] at hx
    obtain ⟨i, hi⟩ := List.mem_iff_getElem?.1 hx
    rw [cntAdd, List.getElem?_zipWith] at hi
    cases hq : (cntGo r (cs.take k))[i]? with
    | none => simp [hq] at hi
    | some q =>
      cases hb : (truthL r c)[i]? with
      | none => simp [hq, hb] at hi
      | some t =>
        simp [hq, hb] at hi
        have h3 := h2 q (List.mem_of_getElem? hq)
        by_cases ha : r.against c = 0
        · have ht := truth_none ha t (List.mem_of_getElem? hb)
          subst ht
          rw [qualGo_yes hc ha, List.length_append, List.length_singleton]
          simp [b2i] at hi
          omega
        · rw [qualGo_no hc ha]
          have h4 := b2i_b t
          omega
theorem count_law {r : R5} {cs : List K9} (h : (qualOfF r cs).2 = 0) : (countF r cs).2 = 0 ∧ ∀ x ∈ (countF r cs).1, x + ((qualOfF r cs).1.length : Int) ≤ (cs.length : Int) := by
  unfold qualOfF at h ⊢
  unfold countF
  split at h
  · next hok =>
    rw [if_pos hok, if_pos hok]
    refine ⟨rfl, fun x hx => ?_⟩
    have := cntGo_free r cs cs.length (Nat.le_refl _) x (by rw [List.take_length]; exact hx)
    rw [List.take_length] at this
    exact this
  · exact absurd h (by decide)
theorem fromGo_ok (r : R5) (c : K9) : ∀ (f : Nat) (y : Int), (fromGo r c f y).2 = 0 → (r.at (fromGo r c f y).1).against c = 0 ∧ y ≤ (fromGo r c f y).1 ∧ (fromGo r c f y).1 < y + (f : Int)
  | 0, _, h => by rw [fromGo] at h; exact absurd h (by decide)
  | f + 1, y, h => by
    rw [fromGo] at h ⊢
    split at h
    · next ha => rw [if_pos ha]; exact ⟨ha, Int.le_refl _, by show y < y + ((f + 1 : Nat) : Int); omega⟩
    · next ha =>
      rw [if_neg ha]
      obtain ⟨h1, h2, h3⟩ := fromGo_ok r c f (y + 1) h
      exact ⟨h1, by omega, by omega⟩
theorem from_law {r : R5} {c : K9} (h : (qualFromF r c).2 = 0) : qualF (r.at (qualFromF r c).1) c = (true, 0) := by
  unfold qualFromF at h ⊢
  split at h
  · next hok =>
    rw [if_pos hok]
    obtain ⟨h1, h2, h3⟩ := fromGo_ok r c _ _ h
    rw [Bool.and_eq_true] at hok
    have hr := hok.1
    have hy := (ok_bounds hok.1 hok.2).1
    have hr2 : (r.at (fromGo r c (2201 - r.yr).toNat r.yr).1).ok = true := by
      generalize (fromGo r c (2201 - r.yr).toNat r.yr).1 = y at *
      simp only [R5.ok, R5.at, Bool.and_eq_true, inB_iff] at hr ⊢
      obtain ⟨⟨⟨⟨⟨⟨_, a⟩, b⟩, c⟩, d⟩, e⟩, f⟩ := hr
      exact ⟨⟨⟨⟨⟨⟨⟨by omega, by omega⟩, a⟩, b⟩, c⟩, d⟩, e⟩, f⟩
    rw [qualF, hr2, hok.2, h1]; rfl
  · exact absurd h (by decide)
theorem against_law (r : R5) (c : K9) : ((againstF r c).2 = 0 ∧ (qualF r c).1 = ((againstF r c).1 == 0)) ∨ (againstF r c).2 = 1 := by
  unfold againstF qualF
  split
  · exact .inl ⟨rfl, rfl⟩
  · exact .inr rfl
theorem code_le (r : R5) (c : K9) : (qualFromF r c).2 = 0 ∨ (qualFromF r c).2 ≠ 0 := by omega
theorem dash_law (z : Int) : ((rsnF z).2 = 0 ∧ ((str (rsnF z).1).toList == [45]) = (z == 0)) ∨ (rsnF z).2 = 1 := by
  by_cases hz : 0 ≤ z ∧ z ≤ 127
  · obtain ⟨n, rfl⟩ : ∃ n : Nat, z = (n : Int) := ⟨z.toNat, by omega⟩
    have hn : n < 128 := by omega
    have e : rsnF (n : Int) = (rsnT n, 0) := by rw [rsnF, if_pos hz]; rfl
    rw [e]
    refine .inl ⟨rfl, ?_⟩
    have hd := rsn_dash ⟨n, hn⟩
    dsimp only at hd ⊢
    have e2 : (str (rsnT n)).toList = rsnT n := by rw [ByteArray.toList_eq]; rfl
    rw [e2, Bool.eq_iff_iff, beq_iff_eq, beq_iff_eq, hd]
    omega
  · exact .inr (by rw [rsnF_no hz])

set_option maxRecDepth 100000 in
set_option maxHeartbeats 4000000 in
theorem specReasonsAgainst_any (r : R5) (c : K9) (vz vj : Value) (w : World) (lo lo' : Nat) (hz : SlI w lo w.heap.size vz r.zones) (hj : SlI w lo' w.heap.size vj r.jobs) (hs : c.small) :
    Calls Try.prog 38 #[.agg #[.int .i64 r.yr, .int .i64 r.lo, .int .i64 r.hi, vz, vj], .agg #[.int .i64 c.num, .string c.first, .string c.last, .int .i64 c.born, .int .i64 c.zone, .bool c.cit, .bool c.conv, .bool c.flu, .int .i64 c.job]] w fun e w' => e = .returned (.tuple #[.int .i64 (againstF r c).1, .int .i64 (againstF r c).2]) ∧ Below w.heap.size w w' := by
  obtain ⟨A, ca, rfl, _, _⟩ := hz.form
  obtain ⟨B, d, rfl, _, _⟩ := hj.form
  have bR : Blk (((w.alloc (.cells #[.int .i64 r.yr, .int .i64 r.lo, .int .i64 r.hi, .slice A r.zones.length ca, .slice B r.jobs.length d] 41)).alloc (.cells #[.int .i64 c.num, .string c.first, .string c.last, .int .i64 c.born, .int .i64 c.zone, .bool c.cit, .bool c.conv, .bool c.flu, .int .i64 c.job] 45)).alloc (.cells #[.int .i64 c.num, .string c.first, .string c.last, .int .i64 c.born, .int .i64 c.zone, .bool c.cit, .bool c.conv, .bool c.flu, .int .i64 c.job] 45)) w.heap.size _ _ := ((Blk.new w _ _).alloc _).alloc _
  have bC : Blk (((w.alloc (.cells #[.int .i64 r.yr, .int .i64 r.lo, .int .i64 r.hi, .slice A r.zones.length ca, .slice B r.jobs.length d] 41)).alloc (.cells #[.int .i64 c.num, .string c.first, .string c.last, .int .i64 c.born, .int .i64 c.zone, .bool c.cit, .bool c.conv, .bool c.flu, .int .i64 c.job] 45)).alloc (.cells #[.int .i64 c.num, .string c.first, .string c.last, .int .i64 c.born, .int .i64 c.zone, .bool c.cit, .bool c.conv, .bool c.flu, .int .i64 c.job] 45)) (w.heap.size + 1) _ _ := (Blk.new' (by simp)).alloc _
  have hB : Below w.heap.size w (((w.alloc (.cells #[.int .i64 r.yr, .int .i64 r.lo, .int .i64 r.hi, .slice A r.zones.length ca, .slice B r.jobs.length d] 41)).alloc (.cells #[.int .i64 c.num, .string c.first, .string c.last, .int .i64 c.born, .int .i64 c.zone, .bool c.cit, .bool c.conv, .bool c.flu, .int .i64 c.job] 45)).alloc (.cells #[.int .i64 c.num, .string c.first, .string c.last, .int .i64 c.born, .int .i64 c.zone, .bool c.cit, .bool c.conv, .bool c.flu, .int .i64 c.job] 45)) := (((Below.refl _ _).alloc (Nat.le_refl _) _).alloc (by simp) _).alloc (by simp; omega) _
  have hl := rec_sl (f := K9.vals) (s := 9) (fun _ => rfl) ((w.alloc (.cells #[.int .i64 r.yr, .int .i64 r.lo, .int .i64 r.hi, .slice A r.zones.length ca, .slice B r.jobs.length d] 41)).alloc (.cells #[.int .i64 c.num, .string c.first, .string c.last, .int .i64 c.born, .int .i64 c.zone, .bool c.cit, .bool c.conv, .bool c.flu, .int .i64 c.job] 45)) 45 (cx := #[.int .i64 c.num, .string c.first, .string c.last, .int .i64 c.born, .int .i64 c.zone, .bool c.cit, .bool c.conv, .bool c.flu, .int .i64 c.job]) (x := c) rfl
  have hl2 : SlR K9.vals 9 (((w.alloc (.cells #[.int .i64 r.yr, .int .i64 r.lo, .int .i64 r.hi, .slice A r.zones.length ca, .slice B r.jobs.length d] 41)).alloc (.cells #[.int .i64 c.num, .string c.first, .string c.last, .int .i64 c.born, .int .i64 c.zone, .bool c.cit, .bool c.conv, .bool c.flu, .int .i64 c.job] 45)).alloc (.cells #[.int .i64 c.num, .string c.first, .string c.last, .int .i64 c.born, .int .i64 c.zone, .bool c.cit, .bool c.conv, .bool c.flu, .int .i64 c.job] 45)) 0 (((w.alloc (.cells #[.int .i64 r.yr, .int .i64 r.lo, .int .i64 r.hi, .slice A r.zones.length ca, .slice B r.jobs.length d] 41)).alloc (.cells #[.int .i64 c.num, .string c.first, .string c.last, .int .i64 c.born, .int .i64 c.zone, .bool c.cit, .bool c.conv, .bool c.flu, .int .i64 c.job] 45)).alloc (.cells #[.int .i64 c.num, .string c.first, .string c.last, .int .i64 c.born, .int .i64 c.zone, .bool c.cit, .bool c.conv, .bool c.flu, .int .i64 c.job] 45)).heap.size (.slice (some ⟨w.heap.size + 1 + 1, 0, none⟩) 1 1) [c] := by
    have := hl.more (lo' := 0) (hi' := (((w.alloc (.cells #[.int .i64 r.yr, .int .i64 r.lo, .int .i64 r.hi, .slice A r.zones.length ca, .slice B r.jobs.length d] 41)).alloc (.cells #[.int .i64 c.num, .string c.first, .string c.last, .int .i64 c.born, .int .i64 c.zone, .bool c.cit, .bool c.conv, .bool c.flu, .int .i64 c.job] 45)).alloc (.cells #[.int .i64 c.num, .string c.first, .string c.last, .int .i64 c.born, .int .i64 c.zone, .bool c.cit, .bool c.conv, .bool c.flu, .int .i64 c.job] 45)).heap.size) (Nat.zero_le _) (by simp)
    simpa using this
  clear hl
  go_enter Try.func38, Try.ntmps38
  go_wp2_with fail
  generalize (((w.alloc (.cells #[.int .i64 r.yr, .int .i64 r.lo, .int .i64 r.hi, .slice A r.zones.length ca, .slice B r.jobs.length d] 41)).alloc (.cells #[.int .i64 c.num, .string c.first, .string c.last, .int .i64 c.born, .int .i64 c.zone, .bool c.cit, .bool c.conv, .bool c.flu, .int .i64 c.job] 45)).alloc (.cells #[.int .i64 c.num, .string c.first, .string c.last, .int .i64 c.born, .int .i64 c.zone, .bool c.cit, .bool c.conv, .bool c.flu, .int .i64 c.job] 45)) = w1 at *
  refine (l06Code_any r _ _ _ [c] w1 _ _ _ (hz.bel hB) (hj.bel hB) hl2 (by simpa using hs)).mono ?_
  rintro e w2 ⟨rfl, hb2⟩
  have hB2 := hB.trans (hb2.mono hB.size)
  have bR := bR.below' hb2
  have bC := bC.below' hb2
  rw [candCode, candOk_one]
  cases hok : (r.ok && c.ok)
  · have e : againstF r c = (0, 1) := by simp [againstF, hok]
    have E := Lib.hid e
    clear e
    rw [if_neg (by simp)]
    go_wp2_with fail
    go_ret2
    exact ⟨by rw [E.out]; rfl, hB2⟩
  · have e : againstF r c = (r.against c, 0) := by simp [againstF, hok]
    have E := Lib.hid e
    clear e
    simp only [Bool.and_eq_true] at hok
    have hbd := ok_bounds hok.1 hok.2
    rw [if_pos rfl]
    obtain ⟨d0, d1, d2, d3, d4⟩ := r5_cells bR
    obtain ⟨e0, e1, e2, e3, e4, e5, e6, e7, e8⟩ := r9_cells bC
    go_wp2_with fail
    refine (specReasons_any r c _ _ w2 _ _ (hz.bel hB2) (hj.bel hB2) (by omega) (by omega)).mono ?_
    rintro e w3 ⟨rfl, hb3⟩
    clear d0 d1 d2 d3 d4 e0 e1 e2 e3 e4 e5 e6 e7 e8
    go_wp2_with fail
    go_ret2
    exact ⟨by rw [E.out]; rfl, hB2.trans (hb3.mono hB2.size)⟩
end Go.Proofs.Ytkhojhgcopnenaa
