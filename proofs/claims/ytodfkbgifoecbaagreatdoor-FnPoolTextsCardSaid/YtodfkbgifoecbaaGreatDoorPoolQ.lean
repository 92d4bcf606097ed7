/- Plain laws of draws from pools: what is drawn and what is left are the numbers of the pool; a draw from a fresh pool can be replayed. No program in sight. -/
import Derived.Test.YtodfkbgifoecbaaGreatDoorPoolP
namespace Go.Proofs.YtodfkbgifoecbaaGreatDoor

theorem drawnGo_of (nums : List Int) : ∀ (d seen : List Int), (seen ++ d).Nodup → (∀ x ∈ d, x ∈ nums) → drawnGo nums seen d = true
  | [], _, _, _ => rfl
  | x :: t, seen, h1, h2 => by
    have hx : hasB x nums = true := mem_hasB.2 (h2 x (by simp))
    have hs : hasB x seen = false := by
      cases e : hasB x seen with
      | false => rfl
      | true =>
        have := (List.nodup_append.1 h1).2.2 x (mem_hasB.1 e) x (by simp)
        exact absurd rfl this
    rw [drawnGo, hx, hs, drawnGo_of nums t (seen ++ [x]) (by rw [List.append_assoc]; exact h1) (fun y hy => h2 y (by simp [hy]))]
    rfl
theorem nextS_pos {s : Int} (h : 1 ≤ s ∧ s ≤ 2147483646) : 1 ≤ nextS s := by
  have h0 := (nextS_in s).1
  by_cases e : nextS s = 0
  · exfalso
    obtain ⟨n, rfl⟩ : ∃ n : Nat, s = (n : Int) := ⟨s.toNat, by omega⟩
    unfold nextS at e
    have e2 : (48271 * n) % 2147483647 = 0 := by omega
    have hd : 2147483647 ∣ 48271 * n := Nat.dvd_of_mod_eq_zero e2
    have hc : Nat.Coprime 2147483647 48271 := by show Nat.gcd 2147483647 48271 = 1; decide +kernel
    have := Nat.le_of_dvd (by omega) (hc.dvd_of_dvd_mul_left hd)
    omega
  · omega
theorem mem_leftOf {nums d : List Int} {x : Int} : x ∈ leftOf nums d ↔ x ∈ nums ∧ x ∉ d := by
  unfold leftOf
  rw [List.mem_filter]
  have : (!hasB x d) = true ↔ x ∉ d := by
    rw [Bool.not_eq_true', ← Bool.not_eq_true, mem_hasB]
  rw [this]
theorem draw_law (nums : List Int) (hn : nums.Nodup) : ∀ (k : Nat) (d : List Int) (s : Int), d.Nodup → (∀ x ∈ d, x ∈ nums) → k ≤ (leftOf nums d).length → 1 ≤ s ∧ s ≤ 2147483646 →
    (drawGo nums k d s).1.Nodup ∧ (∀ x ∈ (drawGo nums k d s).1, x ∈ nums) ∧ 1 ≤ (drawGo nums k d s).2 ∧ (drawGo nums k d s).2 ≤ 2147483646
  | 0, d, s, h1, h2, _, h4 => ⟨h1, h2, h4.1, h4.2⟩
  | k + 1, d, s, h1, h2, h3, h4 => by
    obtain ⟨x, hx, hm⟩ := leftOf_pick (nums := nums) (d := d) (s := s) (by omega)
    have hm' := mem_leftOf.1 hm
    have hst := leftOf_step hn hm
    have e : drawGo nums (k + 1) d s = drawGo nums k (d ++ [x]) (nextS s) := by rw [drawGo, hx]; rfl
    rw [e]
    refine draw_law nums hn k (d ++ [x]) (nextS s) ?_ ?_ (by omega) ⟨nextS_pos h4, (nextS_in s).2⟩
    · rw [List.nodup_append]
      refine ⟨h1, by simp, fun a ha b hb => ?_⟩
      simp at hb
      subst hb
      exact fun e => hm'.2 (e ▸ ha)
    · intro y hy
      rcases List.mem_append.1 hy with hy | hy
      · exact h2 y hy
      · simp at hy; subst hy; exact hm'.1

theorem take_ok {p : P3} {k : Int} (h : (takeF p k).2.2 = 0) : poolOk p = true ∧ 0 ≤ k ∧ k ≤ ((leftF p).length : Int) ∧ takeF p k = (⟨p.nums, (drawGo p.nums k.toNat p.drawn p.st).1, (drawGo p.nums k.toNat p.drawn p.st).2⟩, (drawGo p.nums k.toNat p.drawn p.st).1.drop p.drawn.length, 0) := by
  unfold takeF at h ⊢
  split at h
  · next h1 =>
    rw [if_pos h1]
    split at h
    · exact absurd h (by decide)
    · next h2 =>
      rw [if_neg h2]
      split at h
      · exact absurd h (by decide)
      · next h3 =>
        rw [if_neg h3]
        exact ⟨h1, by omega, by omega, rfl⟩
  · exact absurd h (by decide)
theorem poolOk_drawn {p : P3} (h : poolOk p = true) {d : List Int} {s : Int} (h1 : d.Nodup) (h2 : ∀ x ∈ d, x ∈ p.nums) (h3 : 1 ≤ s ∧ s ≤ 2147483646) : poolOk ⟨p.nums, d, s⟩ = true := by
  simp only [poolOk, Bool.and_eq_true] at h ⊢
  exact ⟨⟨⟨h.1.1.1, drawnGo_of _ d [] (by simpa using h1) h2⟩, h.1.2⟩, inB_iff.2 h3⟩
theorem take_law {p : P3} {k : Int} (h : (takeF p k).2.2 = 0) : poolOk (takeF p k).1 = true ∧ (leftOfF (takeF p k).1).2 = 0 ∧ (leftOfF p).2 = 0 ∧ (∀ x ∈ (takeF p k).2.1, hasB x (leftOfF p).1 = true ∧ hasB x (leftOfF (takeF p k).1).1 = false) ∧ (leftOfF (takeF p k).1).1.length + (takeF p k).2.1.length = (leftOfF p).1.length ∧ ((takeF p k).2.1.length : Int) = k := by
  obtain ⟨h1, h2, h3, h4⟩ := take_ok h
  obtain ⟨m, rfl⟩ : ∃ m : Nat, k = (m : Int) := ⟨k.toNat, by omega⟩
  have e0 : (m : Int).toNat = m := rfl
  rw [e0] at h4
  have hp := poolOk_parts h1
  have hl := leftF_length h1
  have hm : m ≤ (leftOf p.nums p.drawn).length := by
    have : (leftF p).length = (leftOf p.nums p.drawn).length := rfl
    omega
  obtain ⟨g1, g2, g3, g4⟩ := draw_law p.nums (up_nodup hp.1) m p.drawn p.st hp.2.1 hp.2.2.1 hm ⟨hp.2.2.2.2.1, hp.2.2.2.2.2⟩
  have hlen := drawGo_len p.nums m p.drawn p.st
  have hdrop := drawGo_drop p.nums m p.drawn p.st
  rw [h4]
  dsimp only
  generalize drawGo p.nums m p.drawn p.st = q at *
  obtain ⟨d', s'⟩ := q
  dsimp only at *
  have hok : poolOk ⟨p.nums, d', s'⟩ = true := poolOk_drawn h1 g1 g2 ⟨g3, g4⟩
  have e1 : leftOfF p = (leftF p, 0) := by simp [leftOfF, h1]
  have e2 : leftOfF ⟨p.nums, d', s'⟩ = (leftF ⟨p.nums, d', s'⟩, 0) := by simp [leftOfF, hok]
  have hl2 := leftF_length hok
  dsimp only at hl2
  rw [e1, e2]
  have hdl : (d'.drop p.drawn.length).length = m := by rw [List.length_drop]; omega
  refine ⟨hok, rfl, rfl, fun x hx => ?_, ?_, ?_⟩
  · have hxd : x ∈ d' := List.mem_of_mem_drop hx
    have hnd : (p.drawn ++ d'.drop p.drawn.length).Nodup := by rw [← hdrop]; exact g1
    have hx2 : x ∉ p.drawn := fun e => (List.nodup_append.1 hnd).2.2 x e x hx rfl
    refine ⟨mem_hasB.2 (mem_leftOf.2 ⟨g2 x hxd, hx2⟩), ?_⟩
    cases e : hasB x (leftF ⟨p.nums, d', s'⟩) with
    | false => rfl
    | true => exact absurd hxd (mem_leftOf.1 (mem_hasB.1 e)).2
  · show (leftF ⟨p.nums, d', s'⟩).length + (d'.drop p.drawn.length).length = (leftF p).length
    rw [hdl]; omega
  · rw [hdl]
theorem make_ok {ns : List Int} {st : Int} (h : (makeF ns st).2 = 0) : poolOk ⟨ns, [], st⟩ = true ∧ makeF ns st = (⟨ns, [], st⟩, 0) := by
  unfold makeF at h ⊢
  split at h
  · next h1 => rw [if_pos h1]; exact ⟨h1, rfl⟩
  · exact absurd h (by decide)
theorem replay_law {ns : List Int} {st : Int} (h : (makeF ns st).2 = 0) (hl : 0 < ns.length) : (takeF (makeF ns st).1 1).2.2 = 0 ∧ (replayF (takeF (makeF ns st).1 1).1 st).1 = true ∧ (replayF (takeF (makeF ns st).1 1).1 st).2 = 0 := by
  obtain ⟨h1, h2⟩ := make_ok h
  rw [h2]
  dsimp only
  have hll := leftF_length h1
  dsimp only at hll
  rw [List.length_nil] at hll
  have e : takeF ⟨ns, [], st⟩ 1 = (⟨ns, (drawGo ns 1 [] st).1, (drawGo ns 1 [] st).2⟩, (drawGo ns 1 [] st).1.drop 0, 0) := by
    unfold takeF
    rw [if_pos h1, if_neg (by omega), if_neg (by omega)]
    rfl
  have h0 : (takeF ⟨ns, [], st⟩ 1).2.2 = 0 := by rw [e]
  have hok := (take_law h0).1
  have hp := poolOk_parts h1
  refine ⟨h0, ?_⟩
  rw [e] at hok ⊢
  dsimp only at hok ⊢
  have hlen := drawGo_len ns 1 [] st
  have hin : inB st 1 2147483646 = true := inB_iff.2 ⟨hp.2.2.2.2.1, hp.2.2.2.2.2⟩
  have hR : replayF ⟨ns, (drawGo ns 1 [] st).1, (drawGo ns 1 [] st).2⟩ st = (true, 0) := by
    unfold replayF
    rw [if_pos hok, if_pos hin]
    dsimp only
    rw [hlen]
    simp
  rw [hR]
  exact ⟨rfl, rfl⟩
theorem allIn_mem {d : List Int} : ∀ {ns : List Int}, allIn d ns = true → ∀ x ∈ ns, x ∈ d
  | [], _, x, hx => by simp at hx
  | y :: t, h, x, hx => by
    rw [allIn, Bool.and_eq_true] at h
    rcases List.mem_cons.1 hx with rfl | hx
    · exact mem_hasB.1 h.1
    · exact allIn_mem h.2 x hx
theorem distGo_nodup : ∀ {ns seen : List Int}, distGo seen ns = true → ns.Nodup ∧ ∀ x ∈ ns, x ∉ seen
  | [], _, _ => by simp
  | y :: t, seen, h => by
    rw [distGo, Bool.and_eq_true, Bool.not_eq_true'] at h
    obtain ⟨h1, h2⟩ := distGo_nodup h.2
    have hy : y ∉ seen := fun e => by rw [mem_hasB.2 e] at h; exact absurd h.1 (by simp)
    refine ⟨List.nodup_cons.2 ⟨fun e => h2 y e (by simp), h1⟩, fun x hx => ?_⟩
    rcases List.mem_cons.1 hx with rfl | hx
    · exact hy
    · exact fun e => h2 x hx (by simp [e])
theorem put_law {p : P3} {ns : List Int} (h : (putF p ns).2 = 0) : (putF p ns).1.drawn.length + ns.length = p.drawn.length := by
  unfold putF at h ⊢
  split at h
  · next h1 =>
    rw [if_pos h1]
    split at h
    · next h2 =>
      rw [if_pos h2]
      split at h
      · next h3 =>
        rw [if_pos h3]
        exact left_len ns p.drawn (poolOk_parts h1).2.1 (distGo_nodup h3).1 (allIn_mem h2)
      · exact absurd h (by decide)
    · exact absurd h (by decide)
  · exact absurd h (by decide)
end Go.Proofs.YtodfkbgifoecbaaGreatDoor
