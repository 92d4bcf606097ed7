/- AreTerms, the program's and the reference's: both answer the same function of the list. No condition. -/
import Derived.Test.YtiflpihjffhfhaaTermA
import Derived.Test.YtiflpihjffhfhaaIntA
namespace Go.Proofs.Ytiflpihjffhfhaa
open Go.RowKit

def T3.ok (t : T3) : Bool := inB t.num 1 1000000 && inB t.beg 0 20000 && inB t.fin t.beg 20000
def clash (t u : T3) : Bool := u.num == t.num && decide (u.beg ≤ t.fin) && decide (t.beg ≤ u.fin)
def termsGo : List T3 → List T3 → Bool
  | _, [] => true
  | seen, t :: r => t.ok && !(seen.any (clash t)) && termsGo (seen ++ [t]) r
def termsOk (xs : List T3) : Bool := termsGo [] xs && decide (xs.length ≤ 20)

theorem T3.ok_iff {t : T3} : t.ok = true ↔ (1 ≤ t.num ∧ t.num ≤ 1000000) ∧ (0 ≤ t.beg ∧ t.beg ≤ 20000) ∧ (t.beg ≤ t.fin ∧ t.fin ≤ 20000) := by
  simp [T3.ok, inB, and_assoc]

theorem any_snoc {α : Type} {p : α → Bool} {l : List α} {k : Nat} {x : α} (h : l[k]? = some x) : (l.take (k + 1)).any p = ((l.take k).any p || p x) := by
  rw [take_snoc h]; simp
theorem any_take_true {α : Type} {p : α → Bool} {l : List α} {j k : Nat} {x : α} (h : l[j]? = some x) (hj : j < k) (hp : p x = true) : (l.take k).any p = true := by
  rw [List.any_eq_true]
  exact ⟨x, List.mem_of_getElem? (by rw [List.getElem?_take, if_pos hj]; exact h), hp⟩

set_option maxHeartbeats 400000 in
theorem l07Is_any (t : T3) (w : World) :
    Calls Try.prog 148 #[.agg #[.int .i64 t.num, .int .i64 t.beg, .int .i64 t.fin]] w fun e w' => e = .returned (.bool t.ok) ∧ Below w.heap.size w w' := by
  obtain ⟨n, f, d⟩ := t
  dsimp only
  go_enter Try.func148, Try.ntmps148
  go_wp2_with (first | (go_at_call 103; refine (l01In_any _ _ _ _).mono ?_; rintro e w' ⟨rfl, rfl⟩) | (go_at_call 104; refine (l02Is_any _ _).mono ?_; rintro e w' ⟨rfl, rfl⟩))
  all_goals go_ret
  all_goals exact ⟨by simp [T3.ok, *], (Below.refl _ _).alloc (Nat.le_refl _) _⟩

set_option maxRecDepth 100000 in
set_option maxHeartbeats 4000000 in
theorem specAreTerms_any (v : Value) (cs : List T3) (w : World) (lo : Nat) (h : SlT3 w lo w.heap.size v cs) :
    Calls Try.prog 73 #[v] w fun e w' => e = .returned (.bool (termsOk cs)) ∧ Below w.heap.size w w' := by
  obtain ⟨A, c, rfl, hc1, hc2⟩ := h.form
  go_enter Try.func73, Try.ntmps73
  go_wp2_with fail
  go_loopw [3] (fun i wr => ∃ (k : Nat), i = .int .i64 k ∧ k ≤ cs.length ∧ termsGo [] cs = termsGo (cs.take k) (cs.drop k) ∧ Below w.heap.size w wr) (fun i wr => cs.length - (intOf i).toNat)
  case atStart => exact ⟨0, rfl, Nat.zero_le _, rfl, Below.refl _ _⟩
  case round =>
    obtain ⟨k, rfl, hk, hgo, hbr⟩ := hrel
    by_cases hlt : k < cs.length
    · obtain ⟨x, hx⟩ := some_at hlt
      rw [drop_cons hx, termsGo, ← take_snoc hx] at hgo
      obtain ⟨b, off, rfl, _, hb, c0, c1, c2⟩ := ((h.below hbr (Nat.le_refl _)).more (Nat.le_refl _) hbr.size).T3_at hx
      have Hgo := Lib.hid hgo
      have Hx := Lib.hid hx
      clear hx hgo
      go_wp2_with fail
      refine (l07Is_any x _).mono ?_
      rintro e w2 ⟨rfl, hb2⟩
      have hs1 := hbr.size
      have hs2 := hb2.size
      simp at hs2
      have hat := At.new_below hb2
      have hB2 : Below w.heap.size w w2 := (hbr.alloc hs1 _).trans (hb2.mono (by simp; omega))
      clear hb2 c0 c1 c2
      cases hv : x.ok
      · go_wp2_with fail
        go_ret
        exact ⟨ret_bool (by simp [termsOk, Hgo.out, hv]), hB2⟩
      · have h2 := (h.below hB2 (Nat.le_refl _)).more (hi' := w2.heap.size) (Nat.le_refl _) hB2.size
        obtain ⟨wo, rfl⟩ : ∃ wo : World, wo = wr := ⟨_, rfl⟩
        go_wp2_with fail
        go_loopw [5] (fun i wr2 => ∃ (j : Nat), i = .int .i64 j ∧ j ≤ k ∧ (cs.take j).any (clash x) = false ∧ Below w2.heap.size w2 wr2) (fun i wr2 => k - (intOf i).toNat)
        case atStart => exact ⟨0, rfl, Nat.zero_le _, rfl, Below.refl _ _⟩
        case round =>
          obtain ⟨j, rfl, hj, hany, hb3⟩ := hrel
          have hs3 := hb3.size
          have hB3 := hB2.trans (hb3.mono hB2.size)
          have hany' := Lib.hid hany
          clear hany
          by_cases hjk : j < k
          · obtain ⟨y, hy⟩ := some_at (l := cs) (k := j) (by omega)
            obtain ⟨b', off', ee, _, hb', c0, c1, c2⟩ := ((h2.below hb3 (Nat.le_refl _)).more (hi' := wr.heap.size) (Nat.le_refl _) hs3).T3_at hy
            injection ee with ee
            injection ee with ee1 ee2
            subst ee1 ee2
            have ha3 := hat.below hb3 (by omega)
            have d0 : wr.cell? ⟨wo.heap.size, 0, none⟩ = some (.int .i64 x.num) := ha3 0 _ rfl
            have d1 : wr.cell? ⟨wo.heap.size, 1, none⟩ = some (.int .i64 x.beg) := ha3 1 _ rfl
            have d2 : wr.cell? ⟨wo.heap.size, 2, none⟩ = some (.int .i64 x.fin) := ha3 2 _ rfl
            have hlo : wo.heap.size < wr.heap.size := by omega
            have Hy := Lib.hid hy
            clear hy ha3
            have fin : ∀ w3, Below wr.heap.size wr w3 → Below w.heap.size w w3 := fun w3 h3 => hB3.trans (h3.mono (by have := hB3.size; omega))
            have Fin := Lib.hid fin
            clear fin
            cases e1 : (y.num == x.num)
            · have hc : clash x y = false := by simp [clash, e1]
              have Hc := Lib.hid hc
              clear hc
              go_wp2_with fail
              refine wp_region_ext (by kernel_rfl) (by kernel_rfl) ?_
              repeat (go_big_quiet_step (fail))
              refine wpQuiet_nil ?_
              intro w4 hb4
              go_wp2_with fail
              go_roundw
              case rel => exact ⟨j + 1, by go_num, hjk, by rw [any_snoc Hy.out, hany'.out, Hc.out]; rfl, hb3.trans (hb4.mono hs3)⟩
              case measure => simp [intOf]; omega
            · by_cases e2 : y.beg ≤ x.fin
              · have e2' : decide (y.beg ≤ x.fin) = true := by simp [e2]
                by_cases e3 : x.beg ≤ y.fin
                · have hc : clash x y = true := by simp [clash, e1, e2, e3]
                  have Hc := Lib.hid hc
                  clear hc
                  go_wp2_with fail
                  refine wp_region_ext (by kernel_rfl) (by kernel_rfl) ?_
                  repeat (go_big_quiet_step (fail))
                  refine wpQuiet_nil ?_
                  intro w4 hb4
                  go_wp2_with fail
                  go_ret
                  exact ⟨ret_bool (by rw [termsOk, Hgo.out, any_take_true Hy.out hjk Hc.out]; simp), Fin.out _ hb4⟩
                · have hc : clash x y = false := by simp [clash, e3]
                  have Hc := Lib.hid hc
                  clear hc
                  go_wp2_with fail
                  refine wp_region_ext (by kernel_rfl) (by kernel_rfl) ?_
                  repeat (go_big_quiet_step (fail))
                  refine wpQuiet_nil ?_
                  intro w4 hb4
                  go_wp2_with fail
                  go_roundw
                  case rel => exact ⟨j + 1, by go_num, hjk, by rw [any_snoc Hy.out, hany'.out, Hc.out]; rfl, hb3.trans (hb4.mono hs3)⟩
                  case measure => simp [intOf]; omega
              · have e2' : decide (y.beg ≤ x.fin) = false := by simp [e2]
                have hc : clash x y = false := by simp [clash, e2]
                have Hc := Lib.hid hc
                clear hc
                go_wp2_with fail
                refine wp_region_ext (by kernel_rfl) (by kernel_rfl) ?_
                repeat (go_big_quiet_step (fail))
                refine wpQuiet_nil ?_
                intro w4 hb4
                go_wp2_with fail
                go_roundw
                case rel => exact ⟨j + 1, by go_num, hjk, by rw [any_snoc Hy.out, hany'.out, Hc.out]; rfl, hb3.trans (hb4.mono hs3)⟩
                case measure => simp [intOf]; omega
          · have hjk' : j = k := by omega
            subst hjk'
            go_wp2_with fail
            go_roundw
            case rel => exact ⟨j + 1, by go_num, hlt, by rw [Hgo.out, hv, hany'.out]; rfl, hB3⟩
            case measure => simp [intOf]; omega
    · have hkn : k = cs.length := by omega
      subst hkn
      rw [List.drop_length, termsGo] at hgo
      have Hgo := Lib.hid hgo
      clear hgo
      go_wp2_with fail
      go_ret
      exact ⟨ret_bool (by rw [Bool.eq_iff_iff]; simp [termsOk, Hgo.out]; omega), hbr⟩

theorem ok_split {t : T3} : t.ok = (inB t.num 1 1000000 && inB t.beg 0 20000 && inB t.fin 0 20000 && decide (t.beg ≤ t.fin)) := by
  rw [Bool.eq_iff_iff]; simp [T3.ok, inB]; omega
theorem clash_yes {x y : T3} (h1 : y.num = x.num) (h2 : (if y.beg < x.beg then x.beg else y.beg) ≤ if x.fin < y.fin then x.fin else y.fin) : clash x y = true := by
  simp only [clash, h1]; simp
  split at h2 <;> split at h2 <;> omega
theorem clash_no1 {x y : T3} (h1 : ¬ y.num = x.num) : clash x y = false := by simp [clash, h1]
theorem clash_no2 {x y : T3} (hx : x.ok = true) (hy : y.ok = true) (h2 : (if x.fin < y.fin then x.fin else y.fin) < if y.beg < x.beg then x.beg else y.beg) : clash x y = false := by
  rw [T3.ok_iff] at hx hy
  cases e : clash x y
  · rfl
  · simp only [clash, Bool.and_eq_true, decide_eq_true_eq] at e
    split at h2 <;> split at h2 <;> omega

set_option maxRecDepth 100000 in
set_option maxHeartbeats 4000000 in
theorem implAreTerms_any (v : Value) (cs : List T3) (w : World) (lo : Nat) (h : SlT3 w lo w.heap.size v cs) :
    Calls Try.prog 72 #[v] w fun e w' => e = .returned (.bool (termsOk cs)) ∧ Below w.heap.size w w' := by
  obtain ⟨A, c, rfl, hc1, hc2⟩ := h.form
  go_enter Try.func72, Try.ntmps72
  go_wp2_with fail
  go_loopw [9] (fun i wr => ∃ (k : Nat), i = .int .i64 k ∧ k ≤ cs.length ∧ termsGo [] cs = termsGo (cs.take k) (cs.drop k) ∧ (∀ u ∈ cs.take k, u.ok = true) ∧ Below w.heap.size w wr) (fun i wr => cs.length - (intOf i).toNat)
  case atStart => exact ⟨0, rfl, Nat.zero_le _, rfl, by simp, Below.refl _ _⟩
  case round =>
    obtain ⟨k, rfl, hk, hgo, hall, hbr⟩ := hrel
    have Hall := Lib.hid hall
    clear hall
    by_cases hlt : k < cs.length
    · obtain ⟨x, hx⟩ := some_at hlt
      rw [drop_cons hx, termsGo, ← take_snoc hx] at hgo
      obtain ⟨b, off, rfl, _, hb, c0, c1, c2⟩ := ((h.below hbr (Nat.le_refl _)).more (Nat.le_refl _) hbr.size).T3_at hx
      have Hgo := Lib.hid hgo
      have Hx := Lib.hid hx
      clear hx hgo
      have hs1 := hbr.size
      have hB2 : Below w.heap.size w (wr.alloc (.cells #[.int .i64 x.num, .int .i64 x.beg, .int .i64 x.fin] 65)) := hbr.alloc hs1 _
      have HB2 := Lib.hid hB2
      clear hB2
      go_wp2_with (first | (go_at_call 99; refine (isNumber_any _ _).mono ?_; rintro e w' ⟨rfl, rfl⟩) | (go_at_call 98; refine (isDay_any _ _).mono ?_; rintro e w' ⟨rfl, rfl⟩))
      · have q1 : x.fin < x.beg := by assumption
        go_ret
        have hv : x.ok = false := by
          cases e : x.ok
          · rfl
          · rw [T3.ok_iff] at e; omega
        exact ⟨ret_bool (by simp [termsOk, Hgo.out, hv]), HB2.out⟩
      · have q1 : inB x.num 1 1000000 = true := by assumption
        have q2 : inB x.beg 0 20000 = true := by assumption
        have q3 : inB x.fin 0 20000 = true := by assumption
        have q4 : x.beg ≤ x.fin := by assumption
        have hv : x.ok = true := by rw [ok_split, q1, q2, q3]; simp [q4]
        obtain ⟨wo, rfl⟩ : ∃ wo : World, wo = wr := ⟨_, rfl⟩
        have ha1 := At.new wo #[.int .i64 x.num, .int .i64 x.beg, .int .i64 x.fin] 65
        have HA1 := Lib.hid ha1
        clear ha1
        go_loopw [41] (fun i wr2 => ∃ (j : Nat), i = .int .i64 j ∧ j ≤ k ∧ (cs.take j).any (clash x) = false ∧ Below (wo.heap.size + 1) (wo.alloc (.cells #[.int .i64 x.num, .int .i64 x.beg, .int .i64 x.fin] 65)) wr2) (fun i wr2 => k - (intOf i).toNat)
        case atStart => exact ⟨0, rfl, Nat.zero_le _, rfl, Below.refl _ _⟩
        case round =>
          obtain ⟨j, rfl, hj, hany, hb3⟩ := hrel
          have hs3 := hb3.size
          simp at hs3
          have hB3 := HB2.out.trans (hb3.mono (by omega))
          have hany' := Lib.hid hany
          clear hany
          by_cases hjk : j < k
          · obtain ⟨y, hy⟩ := some_at (l := cs) (k := j) (by omega)
            obtain ⟨b', off', ee, _, hb', c0, c1, c2⟩ := ((h.below hB3 (Nat.le_refl _)).more (hi' := wr.heap.size) (Nat.le_refl _) (by omega)).T3_at hy
            injection ee with ee
            injection ee with ee1 ee2
            subst ee1 ee2
            have ha3 := HA1.out.below hb3 (by omega)
            have d0 : wr.cell? ⟨wo.heap.size, 0, none⟩ = some (.int .i64 x.num) := ha3 0 _ rfl
            have d1 : wr.cell? ⟨wo.heap.size, 1, none⟩ = some (.int .i64 x.beg) := ha3 1 _ rfl
            have d2 : wr.cell? ⟨wo.heap.size, 2, none⟩ = some (.int .i64 x.fin) := ha3 2 _ rfl
            have hlo : wo.heap.size < wr.heap.size := by omega
            have hyok : y.ok = true := Hall.out y (List.mem_of_getElem? (by rw [List.getElem?_take, if_pos hjk]; exact hy))
            have Hyok := Lib.hid hyok
            have Hy := Lib.hid hy
            have Hv := Lib.hid hv
            clear hy ha3 hyok hv
            have fin : ∀ o : Obj, Below w.heap.size w (wr.alloc o) := fun o => hB3.alloc hB3.size _
            have Fin := Lib.hid fin
            clear fin
            go_wp2_with fail
            case roundEnd =>
              go_roundw
              case rel => exact ⟨j + 1, by go_num, hjk, by rw [any_snoc Hy.out, hany'.out, clash_no2 Hv.out Hyok.out (by assumption)]; rfl, hb3.alloc (by omega) _⟩
              case measure => simp [intOf]; omega
            case roundEnd =>
              go_roundw
              case rel => exact ⟨j + 1, by go_num, hjk, by rw [any_snoc Hy.out, hany'.out, clash_no1 (by assumption)]; rfl, hb3.alloc (by omega) _⟩
              case measure => simp [intOf]; omega
            all_goals
              go_ret
              exact ⟨ret_bool (by rw [termsOk, Hgo.out, any_take_true Hy.out hjk (clash_yes (by assumption) (by assumption))]; simp), Fin.out _⟩
          · have hjk' : j = k := by omega
            subst hjk'
            go_wp2_with fail
            go_roundw
            case rel => exact ⟨j + 1, by go_num, hlt, by rw [Hgo.out, hv, hany'.out]; rfl, by intro u hu; rw [take_snoc Hx.out, List.mem_append] at hu; rcases hu with hu | hu; exact Hall.out u hu; simp at hu; subst hu; exact hv, hB3⟩
            case measure => simp [intOf]; omega
      all_goals
        go_ret
        have hv : x.ok = false := by rw [ok_split]; simp [*]
        exact ⟨ret_bool (by simp [termsOk, Hgo.out, hv]), HB2.out⟩
    · have hkn : k = cs.length := by omega
      subst hkn
      rw [List.drop_length, termsGo] at hgo
      have Hgo := Lib.hid hgo
      clear hgo
      go_wp2_with (go_at_call 108; refine (few_any _ _ _).mono ?_; rintro e w' ⟨rfl, rfl⟩)
      go_ret
      exact ⟨ret_bool (by rw [Bool.eq_iff_iff]; simp [termsOk, Hgo.out]; omega), hbr⟩
end Go.Proofs.Ytiflpihjffhfhaa
