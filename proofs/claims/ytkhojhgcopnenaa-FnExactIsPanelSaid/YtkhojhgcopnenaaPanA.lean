/- Panels: which is one, and contracts of the helpers that say so. No condition. -/
import Derived.Test.YtkhojhgcopnenaaReg
import Derived.Test.YtkhojhgcopnenaaIntC
namespace Go.Proofs.Ytkhojhgcopnenaa
open Go.RowKit
attribute [local go_sem ↓] Go.wp_at_zero Go.wp_at_succ

structure N3 where
  seats : List Int
  wait : List Int
  gone : List Int
def seatedF (s : List Int) : List Int := s.filter (fun x => x != 0)
def distGo : List Int → List Int → Bool
  | _, [] => true
  | p, x :: t => inB x 1 1000000 && !hasB x p && distGo (p ++ [x]) t
def panelOk (p : N3) : Bool := inB p.seats.length 1 12 && decide ((seatedF p.seats).length + p.wait.length + p.gone.length ≤ 60) && !(hasB 0 p.seats && decide (0 < p.wait.length)) && distGo [] (seatedF p.seats ++ p.wait ++ p.gone)
theorem seatedF_len (s : List Int) : (seatedF s).length ≤ s.length := List.length_filter_le _ _
theorem seatedF_yes {s : List Int} {k : Nat} {x : Int} (h : s[k]? = some x) (hx : (x != 0) = true) : seatedF (s.take (k + 1)) = seatedF (s.take k) ++ [x] := by
  rw [take_snoc h]; simp [seatedF, List.filter_append, hx]
theorem seatedF_no {s : List Int} {k : Nat} {x : Int} (h : s[k]? = some x) (hx : (x != 0) = false) : seatedF (s.take (k + 1)) = seatedF (s.take k) := by
  rw [take_snoc h]; simp [seatedF, List.filter_append, hx]
theorem distGo_iff : ∀ (zs p : List Int), distGo p zs = true ↔ (∀ x ∈ zs, inB x 1 1000000 = true) ∧ zs.Nodup ∧ ∀ x ∈ zs, x ∉ p
  | [], p => by simp [distGo]
  | x :: t, p => by
    rw [distGo]
    simp only [Bool.and_eq_true, Bool.not_eq_true', List.nodup_cons, List.mem_cons, forall_eq_or_imp]
    rw [distGo_iff t (p ++ [x])]
    have hh : hasB x p = false ↔ x ∉ p := by
      have := hasB_iff x p
      constructor
      · intro h hm; rw [this.2 hm] at h; cases h
      · intro h; cases e : hasB x p
        · rfl
        · exact absurd (this.1 e) h
    rw [hh]
    constructor
    · rintro ⟨⟨h1, h2⟩, h3, h4, h5⟩
      refine ⟨⟨h1, h3⟩, ⟨fun hm => ?_, h4⟩, h2, fun y hy hm => h5 y hy (by simp [hm])⟩
      exact h5 x hm (by simp)
    · rintro ⟨⟨h1, h3⟩, ⟨h6, h4⟩, h2, h5⟩
      refine ⟨⟨h1, h2⟩, h3, h4, fun y hy hm => ?_⟩
      rcases List.mem_append.1 hm with hm | hm
      · exact h5 y hy hm
      · have e := List.mem_singleton.1 hm
        rw [e] at hy; exact h6 hy
theorem distGo_perm {xs ys : List Int} (h : xs.Perm ys) : distGo [] xs = distGo [] ys := by
  have : distGo [] xs = true ↔ distGo [] ys = true := by
    rw [distGo_iff, distGo_iff, h.nodup_iff]
    simp only [h.mem_iff]
  cases h1 : distGo [] xs <;> cases h2 : distGo [] ys <;> simp_all

set_option maxHeartbeats 1000000 in
theorem distinct_any (v : Value) (zs : List Int) (w : World) (lo hi : Nat) (h : SlI w lo hi v zs) :
    Calls Try.prog 58 #[v] w fun e w' => e = .returned (.bool (distGo [] zs)) ∧ w = w' := by
  obtain ⟨A, c, rfl, hc1, hc2⟩ := h.form
  go_enter Try.func58, Try.ntmps58
  go_wp2_with fail
  go_loop [7] (fun i => ∃ (k : Nat), i = .int .i64 k ∧ k ≤ zs.length ∧ distGo [] zs = distGo (zs.take k) (zs.drop k)) (fun i => zs.length - (intOf i).toNat)
  case atStart => exact ⟨0, rfl, Nat.zero_le _, rfl⟩
  case round =>
    obtain ⟨k, rfl, hk, hgo⟩ := hrel
    by_cases hlt : k < zs.length
    · obtain ⟨x, hx⟩ := some_at hlt
      rw [drop_cons hx, distGo, ← take_snoc hx] at hgo
      obtain ⟨b, off, rfl, _, _, c0⟩ := h.int_at hx
      have hdk := h.take (k := k) (by omega)
      have Hgo := Lib.hid hgo
      clear hx hgo
      have N := isNumber_any x w
      cases e1 : inB x 1 1000000
      · rw [e1] at N
        go_wp2_with (go_at_call 80; refine N.mono ?_; rintro e w' ⟨rfl, rfl⟩)
        go_ret
        exact ⟨ret_bool (by simp [Hgo.out, e1]), rfl⟩
      · rw [e1] at N
        cases e2 : hasB x (zs.take k)
        · go_wp2_with (first | (go_at_call 80; refine N.mono ?_; rintro e w' ⟨rfl, rfl⟩) | (go_at_call 55; refine (has_as e2 hdk).mono ?_; rintro e w' ⟨rfl, rfl⟩))
          go_round
          case rel => exact ⟨k + 1, by go_num, hlt, by rw [Hgo.out, e1, e2]; rfl⟩
          case measure => simp [intOf]; omega
        · go_wp2_with (first | (go_at_call 80; refine N.mono ?_; rintro e w' ⟨rfl, rfl⟩) | (go_at_call 55; refine (has_as e2 hdk).mono ?_; rintro e w' ⟨rfl, rfl⟩))
          go_ret
          exact ⟨ret_bool (by simp [Hgo.out, e1, e2]), rfl⟩
    · have hkn : k = zs.length := by omega
      subst hkn
      rw [List.drop_length, distGo] at hgo
      have Hgo := Lib.hid hgo
      clear hgo
      go_wp2_with fail
      go_ret
      exact ⟨ret_bool (by rw [Hgo.out]), rfl⟩

set_option maxHeartbeats 1000000 in
theorem isSeats_any (a : Int) (w : World) :
    Calls Try.prog 56 #[.int .i64 a] w fun e w' => e = .returned (.bool (inB a 1 12)) ∧ w = w' := by
  go_enter Try.func56, Try.ntmps56
  go_wp2_with (go_at_call 73; refine (within_any _ _ _ _).mono ?_; rintro e w' ⟨rfl, rfl⟩)
  go_ret
  exact ⟨rfl, rfl⟩

set_option maxRecDepth 100000 in
set_option maxHeartbeats 2000000 in
theorem seated_any (v : Value) (s : List Int) (w : World) (lo : Nat) (h : SlI w lo w.heap.size v s) (hn : s.length ≤ 2097152) :
    Calls Try.prog 54 #[v] w fun e w' => ∃ v', e = .returned v' ∧ OwnR i64s 1 w' w.heap.size 2 v' (seatedF s) ∧ Below w.heap.size w w' := by
  obtain ⟨A, c, rfl, hc1, hc2⟩ := h.form
  go_enter Try.func54, Try.ntmps54
  go_wp2_with fail
  go_loopw [3, 9] (fun q i wr => ∃ (k : Nat), i = .int .i64 k ∧ k ≤ s.length ∧ OwnR i64s 1 wr w.heap.size 2 q (seatedF (s.take k)) ∧ Below w.heap.size w wr) (fun q i wr => s.length - (intOf i).toNat)
  case atStart => exact ⟨0, rfl, Nat.zero_le _, own_empty w _ 1 i64s, (Below.refl _ _).alloc (Nat.le_refl _) _⟩
  case round =>
    obtain ⟨k, rfl, hk, hown, hbr⟩ := hrel
    by_cases hlt : k < s.length
    · obtain ⟨x, hx⟩ := some_at hlt
      obtain ⟨b, off, rfl, _, hb, c0⟩ := ((h.below hbr (Nat.le_refl _)).more (Nat.le_refl _) hbr.size).int_at hx
      have Hx := Lib.hid hx
      clear hx
      have hl := seatedF_len (s.take k)
      rw [List.length_take] at hl
      have hsz := hbr.size
      cases hd : (x != 0)
      · go_wp2_with fail
        go_roundw
        case rel => exact ⟨k + 1, by go_num, hlt, by rw [seatedF_no Hx.out hd]; exact hown, hbr⟩
        case measure => simp [intOf]; omega
      · go_wp2_with (at_builtin; refine wpList_append_rec (f := i64s) (s := 1) 2 _ _ (fun _ => rfl) i64s_one rfl _ _ 22 rfl w.heap.size Try.infoI Try.underlying22 rfl (by decide) _ _ x rfl hown rfl rfl rfl (by omega) (by omega) hsz ?_)
        intro v' w' hown' hbel
        go_wp2_with fail
        go_roundw
        case rel => exact ⟨k + 1, by go_num, hlt, by rw [seatedF_yes Hx.out hd]; exact hown', hbel _ _ hbr (Nat.le_refl _)⟩
        case measure => simp [intOf]; omega
    · have hkn : k = s.length := by omega
      subst hkn
      rw [List.take_length] at hown
      go_wp2_with fail
      go_ret
      exact ⟨_, rfl, hown, hbr⟩

def joinN (a b c : List Int) (k : Nat) : List Int := ([a, b, c].take k).flatten
set_option maxRecDepth 100000 in
set_option maxHeartbeats 4000000 in
theorem joined_any (g : Nat) (va vb vc : Value) (a b c : List Int) (w : World) (lo : Nat) (hg : Blk w g 22 #[va, vb, vc]) (ha : SlI w lo w.heap.size va a) (hb : SlI w lo w.heap.size vb b) (hc : SlI w lo w.heap.size vc c) (hn : a.length + b.length + c.length ≤ 2097152) :
    Calls Try.prog 53 #[.slice (some ⟨g, 0, none⟩) 3 3] w fun e w' => ∃ v', e = .returned v' ∧ OwnR i64s 1 w' w.heap.size 2 v' (a ++ b ++ c) ∧ Below w.heap.size w w' := by
  go_enter Try.func53, Try.ntmps53
  go_wp2_with fail
  go_loopw [3, 9] (fun q i wr => ∃ (k : Nat), i = .int .i64 k ∧ k ≤ 3 ∧ OwnR i64s 1 wr w.heap.size 2 q (joinN a b c k) ∧ Below w.heap.size w wr) (fun q i wr => 3 - (intOf i).toNat)
  case atStart => exact ⟨0, rfl, Nat.zero_le _, own_empty w _ 1 i64s, (Below.refl _ _).alloc (Nat.le_refl _) _⟩
  case round =>
    obtain ⟨k, rfl, hk, hown, hbr⟩ := hrel
    have hsz := hbr.size
    have bg := hg.below' hbr
    have sa := (ha.below hbr (Nat.le_refl _)).more (Nat.le_refl _) hbr.size
    have sb := (hb.below hbr (Nat.le_refl _)).more (Nat.le_refl _) hbr.size
    have sc := (hc.below hbr (Nat.le_refl _)).more (Nat.le_refl _) hbr.size
    obtain ⟨Ax, cx, rfl, _, _⟩ := ha.form
    obtain ⟨Bx, cy, rfl, _, _⟩ := hb.form
    obtain ⟨Cx, cz, rfl, _, _⟩ := hc.form
    have k0 : wr.cell? ⟨g, 0, none⟩ = some (.slice Ax a.length cx) := bg.cell 0
    have k1 : wr.cell? ⟨g, 1, none⟩ = some (.slice Bx b.length cy) := bg.cell 1
    have k2 : wr.cell? ⟨g, 2, none⟩ = some (.slice Cx c.length cz) := bg.cell 2
    have q0 : ((0 : Nat) : Int) = 0 := rfl
    rcases (by omega : k = 0 ∨ k = 1 ∨ k = 2 ∨ k = 3) with rfl | rfl | rfl | rfl
    · go_wp2_with (at_builtin; refine wpList_append_sl (f := i64s) (s := 1) _ (fun _ => rfl) i64s_one rfl _ _ 22 rfl w.heap.size 2 Try.infoI Try.underlying22 rfl (by decide) _ (joinN a b c 0) a _ _ _ rfl hown rfl sa (by simp [joinN]; omega) (by simp [joinN]; omega) hsz ?_)
      intro v' w' hown' hbel _
      go_wp2_with fail
      go_roundw
      case rel => exact ⟨1, by go_num, by omega, by simpa [joinN] using hown', hbel _ _ hbr (Nat.le_refl _)⟩
      case measure => simp [intOf]
    · go_wp2_with (at_builtin; refine wpList_append_sl (f := i64s) (s := 1) _ (fun _ => rfl) i64s_one rfl _ _ 22 rfl w.heap.size 2 Try.infoI Try.underlying22 rfl (by decide) _ (joinN a b c 1) b _ _ _ rfl hown rfl sb (by simp [joinN]; omega) (by simp [joinN]; omega) hsz ?_)
      intro v' w' hown' hbel _
      go_wp2_with fail
      go_roundw
      case rel => exact ⟨2, by go_num, by omega, by simpa [joinN] using hown', hbel _ _ hbr (Nat.le_refl _)⟩
      case measure => simp [intOf]
    · go_wp2_with (at_builtin; refine wpList_append_sl (f := i64s) (s := 1) _ (fun _ => rfl) i64s_one rfl _ _ 22 rfl w.heap.size 2 Try.infoI Try.underlying22 rfl (by decide) _ (joinN a b c 2) c _ _ _ rfl hown rfl sc (by simp [joinN]; omega) (by simp [joinN]; omega) hsz ?_)
      intro v' w' hown' hbel _
      go_wp2_with fail
      go_roundw
      case rel => exact ⟨3, by go_num, by omega, by simpa [joinN] using hown', hbel _ _ hbr (Nat.le_refl _)⟩
      case measure => simp [intOf]
    · go_wp2_with fail
      go_ret
      exact ⟨_, rfl, by simpa [joinN] using hown, hbr⟩
end Go.Proofs.Ytkhojhgcopnenaa
