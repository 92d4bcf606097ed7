/- Contracts: increasing lists, holidays, court days. No condition. -/
import Derived.Test.YtkhojhgcopnenaaIntA
namespace Go.Proofs.Ytkhojhgcopnenaa
open Go.RowKit

def afterB : Option Int → Int → Bool
  | none, _ => true
  | some p, z => decide (p < z)
/-- Strictly increasing, all in lo .. hi. -/
def incGo (lo hi : Int) : Option Int → List Int → Bool
  | _, [] => true
  | p, z :: t => inB z lo hi && afterB p z && incGo lo hi (some z) t

def prevAt {α : Type} (xs : List α) (k : Nat) : Option α := if k = 0 then none else xs[k - 1]?
theorem prevAt_succ {α : Type} {xs : List α} {k : Nat} {x : α} (h : xs[k]? = some x) : prevAt xs (k + 1) = some x := by simp [prevAt, h]
theorem prevAt_zero {α : Type} (xs : List α) : prevAt xs 0 = none := rfl
theorem prevAt_pos {α : Type} {xs : List α} {k : Nat} {x : α} (h0 : ¬ k = 0) (h : xs[k - 1]? = some x) : prevAt xs k = some x := by simp [prevAt, h, h0]

set_option maxHeartbeats 1000000 in
theorem increasing_any (v : Value) (zs : List Int) (l h : Int) (w : World) (lo hi : Nat) (hz : SlI w lo hi v zs) :
    Calls Try.prog 76 #[v, .int .i64 l, .int .i64 h] w fun e w' => e = .returned (.bool (incGo l h none zs)) ∧ w = w' := by
  obtain ⟨A, c, rfl, hc1, hc2⟩ := hz.form
  go_enter Try.func76, Try.ntmps76
  go_wp2_with fail
  go_loop [11] (fun i => ∃ (k : Nat), i = .int .i64 k ∧ k ≤ zs.length ∧ incGo l h none zs = incGo l h (prevAt zs k) (zs.drop k)) (fun i => zs.length - (intOf i).toNat)
  case atStart => exact ⟨0, rfl, Nat.zero_le _, rfl⟩
  case round =>
    obtain ⟨k, rfl, hk, hgo⟩ := hrel
    by_cases hlt : k < zs.length
    · obtain ⟨x, hx⟩ := some_at hlt
      rw [drop_cons hx, incGo] at hgo
      obtain ⟨b, off, rfl, _, _, c0⟩ := hz.int_at hx
      have Hgo := Lib.hid hgo
      have Hx := Lib.hid hx
      clear hx hgo
      by_cases hk0 : k = 0
      · have hd : decide ((0 : Int) < (k : Int)) = false := by simp [hk0]
        have hd' : decide (0 < k) = false := by simp [hk0]
        have Hk0 := Lib.hid hk0
        clear hk0
        go_wp2_with (go_at_call 73; refine (within_any _ _ _ _).mono ?_; rintro e w' ⟨rfl, rfl⟩)
        · have hi1 : inB x l h = true := by assumption
          go_round
          case rel => exact ⟨k + 1, by go_num, hlt, by rw [Hgo.out, prevAt_succ Hx.out, Hk0.out, prevAt_zero, hi1]; rfl⟩
          case measure => simp [intOf]; omega
        · have hi1 : ¬ inB x l h = true := by assumption
          go_ret
          exact ⟨ret_bool (by rw [Hgo.out]; simp [hi1]), rfl⟩
      · have hd : decide ((0 : Int) < (k : Int)) = true := by simp; omega
        have hd' : decide (0 < k) = true := by simp; omega
        have hk1 : 0 < k := by omega
        obtain ⟨p, hp⟩ := some_at (l := zs) (k := k - 1) (by omega)
        obtain ⟨b2, off2, ee, _, _, d0⟩ := hz.int_at hp
        injection ee with ee
        injection ee with ee1 ee2
        subst ee1 ee2
        have Hpk := Lib.hid (prevAt_pos hk0 hp)
        clear hp
        go_wp2_with (go_at_call 73; refine (within_any _ _ _ _).mono ?_; rintro e w' ⟨rfl, rfl⟩)
        · have hi1 : inB x l h = true := by assumption
          have hq : x ≤ p := by assumption
          have hq' : decide (p < x) = false := by simp; omega
          go_ret
          exact ⟨ret_bool (by rw [Hgo.out, Hpk.out, afterB, hq']; simp), rfl⟩
        · have hi1 : inB x l h = true := by assumption
          have hq : p < x := by assumption
          go_round
          case rel => exact ⟨k + 1, by go_num, hlt, by rw [Hgo.out, prevAt_succ Hx.out, Hpk.out, afterB, hi1]; simp [hq]⟩
          case measure => simp [intOf]; omega
        · have hi1 : ¬ inB x l h = true := by assumption
          go_ret
          exact ⟨ret_bool (by rw [Hgo.out]; simp [hi1]), rfl⟩
    · have hkn : k = zs.length := by omega
      subst hkn
      rw [List.drop_length, incGo] at hgo
      have Hgo := Lib.hid hgo
      clear hgo
      go_wp2_with fail
      go_ret
      exact ⟨ret_bool Hgo.out.symm, rfl⟩

def holB (zs : List Int) : Bool := decide (zs.length ≤ 40) && incGo 0 20000 none zs

def courtB (hs : List Int) (day : Int) : Bool := decide (day.tmod 7 < 5) && !hasB day hs
end Go.Proofs.Ytkhojhgcopnenaa
