/- Words, persons, candidates, rules: whether they are as described; the program's and the reference's answer the same function. No condition but the sizes that the law itself asks. -/
import Derived.Test.YtkhojhgcopnenaaIntC
import Derived.Test.YtkhojhgcopnenaaReg
namespace Go.Proofs.Ytkhojhgcopnenaa
open Go.RowKit
attribute [local go_sem ↓] Go.wp_at_zero Go.wp_at_succ

def letB (c : UInt8) : Bool := decide (97 ≤ (c.toNat : Int)) && decide ((c.toNat : Int) ≤ 122)
def wordGo : List UInt8 → Bool
  | [] => true
  | c :: t => letB c && wordGo t
def wordB (s : ByteArray) : Bool := wordGo s.data.toList && inB s.size 1 16
theorem drop_byte (s : ByteArray) (k : Nat) (h : k < s.size) : s.data.toList.drop k = s[k] :: s.data.toList.drop (k + 1) := by
  rw [List.drop_eq_getElem_cons (by simpa using h)]; rfl

set_option maxHeartbeats 1000000 in
theorem specIsWord_any (s : ByteArray) (w : World) (hs : s.size ≤ maxLen) :
    Calls Try.prog 89 #[.string s] w fun e w' => e = .returned (.bool (wordB s)) ∧ w = w' := by
  unfold maxLen at hs
  go_enter Try.func89, Try.ntmps89
  go_wp2_with fail
  go_loop [3] (fun i => ∃ k : Nat, k ≤ s.size ∧ i = .int .i64 k ∧ Hid (wordGo s.data.toList = wordGo (s.data.toList.drop k))) (fun i => s.size - (intOf i).toNat)
  case atStart => exact ⟨0, Nat.zero_le _, rfl, Lib.hid rfl⟩
  case round =>
    obtain ⟨k, hk, rfl, Hgo⟩ := hrel
    by_cases hlt : k < s.size
    · have Hd := Lib.hid (drop_byte s k hlt)
      by_cases h1 : (s[k].toNat : Int) < 97
      · have e : wordB s = false := by
          have q : letB s[k] = false := by simp [letB]; omega
          rw [wordB, Hgo.out, Hd.out, wordGo, q]; rfl
        have E := Lib.hid e
        clear e
        go_wp2_with fail
        go_ret
        exact ⟨by rw [E.out]; rfl, rfl⟩
      · by_cases h2 : 122 < (s[k].toNat : Int)
        · have e : wordB s = false := by
            have q : letB s[k] = false := by simp [letB]; omega
            rw [wordB, Hgo.out, Hd.out, wordGo, q]; rfl
          have E := Lib.hid e
          clear e
          go_wp2_with fail
          go_ret
          exact ⟨by rw [E.out]; rfl, rfl⟩
        · have e : wordGo s.data.toList = wordGo (s.data.toList.drop (k + 1)) := by
            have q : letB s[k] = true := by simp [letB]; omega
            rw [Hgo.out, Hd.out, wordGo, q]; rfl
          have E := Lib.hid e
          clear e
          go_wp2_with fail
          go_round
          case rel => exact ⟨k + 1, by omega, by go_num, E⟩
          case measure => simp [intOf]; omega
    · have e : wordB s = inB s.size 1 16 := by
        rw [wordB, Hgo.out, List.drop_of_length_le (by simp; omega)]; rfl
      have E := Lib.hid e
      clear e
      go_wp2_with (first | (go_at_call 73; refine (within_any _ _ _ _).mono ?_; rintro e w' ⟨rfl, rfl⟩) | (go_at_call 50; refine (l01In_any _ _ _ _).mono ?_; rintro e w' ⟨rfl, rfl⟩))
      go_ret
      exact ⟨by rw [E.out]; rfl, rfl⟩
set_option maxHeartbeats 1000000 in
theorem implIsWord_any (s : ByteArray) (w : World) (hs : s.size ≤ maxLen) :
    Calls Try.prog 87 #[.string s] w fun e w' => e = .returned (.bool (wordB s)) ∧ w = w' := by
  unfold maxLen at hs
  go_enter Try.func87, Try.ntmps87
  go_wp2_with fail
  go_loop [3] (fun i => ∃ k : Nat, k ≤ s.size ∧ i = .int .i64 k ∧ Hid (wordGo s.data.toList = wordGo (s.data.toList.drop k))) (fun i => s.size - (intOf i).toNat)
  case atStart => exact ⟨0, Nat.zero_le _, rfl, Lib.hid rfl⟩
  case round =>
    obtain ⟨k, hk, rfl, Hgo⟩ := hrel
    by_cases hlt : k < s.size
    · have Hd := Lib.hid (drop_byte s k hlt)
      by_cases h1 : (s[k].toNat : Int) < 97
      · have e : wordB s = false := by
          have q : letB s[k] = false := by simp [letB]; omega
          rw [wordB, Hgo.out, Hd.out, wordGo, q]; rfl
        have E := Lib.hid e
        clear e
        go_wp2_with fail
        go_ret
        exact ⟨by rw [E.out]; rfl, rfl⟩
      · by_cases h2 : 122 < (s[k].toNat : Int)
        · have e : wordB s = false := by
            have q : letB s[k] = false := by simp [letB]; omega
            rw [wordB, Hgo.out, Hd.out, wordGo, q]; rfl
          have E := Lib.hid e
          clear e
          go_wp2_with fail
          go_ret
          exact ⟨by rw [E.out]; rfl, rfl⟩
        · have e : wordGo s.data.toList = wordGo (s.data.toList.drop (k + 1)) := by
            have q : letB s[k] = true := by simp [letB]; omega
            rw [Hgo.out, Hd.out, wordGo, q]; rfl
          have E := Lib.hid e
          clear e
          go_wp2_with fail
          go_round
          case rel => exact ⟨k + 1, by omega, by go_num, E⟩
          case measure => simp [intOf]; omega
    · have e : wordB s = inB s.size 1 16 := by
        rw [wordB, Hgo.out, List.drop_of_length_le (by simp; omega)]; rfl
      have E := Lib.hid e
      clear e
      go_wp2_with (first | (go_at_call 73; refine (within_any _ _ _ _).mono ?_; rintro e w' ⟨rfl, rfl⟩) | (go_at_call 50; refine (l01In_any _ _ _ _).mono ?_; rintro e w' ⟨rfl, rfl⟩))
      go_ret
      exact ⟨by rw [E.out]; rfl, rfl⟩
theorem implIsWord_as {s : ByteArray} {r : Bool} (h : wordB s = r) (w : World) (hs : s.size ≤ maxLen) : Calls Try.prog 87 #[.string s] w fun e w' => e = .returned (.bool r) ∧ w = w' := h ▸ implIsWord_any s w hs
theorem specIsWord_as {s : ByteArray} {r : Bool} (h : wordB s = r) (w : World) (hs : s.size ≤ maxLen) : Calls Try.prog 89 #[.string s] w fun e w' => e = .returned (.bool r) ∧ w = w' := h ▸ specIsWord_any s w hs

/-- A candidate: a person, three marks, a job. -/
structure K9 where
  num : Int
  first : ByteArray
  last : ByteArray
  born : Int
  zone : Int
  cit : Bool
  conv : Bool
  flu : Bool
  job : Int
deriving DecidableEq
def K9.small (c : K9) : Prop := c.first.size ≤ maxLen ∧ c.last.size ≤ maxLen
def K9.vals (c : K9) : List Value := [.int .i64 c.num, .string c.first, .string c.last, .int .i64 c.born, .int .i64 c.zone, .bool c.cit, .bool c.conv, .bool c.flu, .int .i64 c.job]
def K9.personOk (c : K9) : Bool := inB c.num 1 1000000 && wordB c.first && wordB c.last && inB c.born 1900 2100 && inB c.zone 0 99
def K9.ok (c : K9) : Bool := c.personOk && inB c.job 0 20

set_option maxHeartbeats 1000000 in
theorem isZone_any (a : Int) (w : World) :
    Calls Try.prog 88 #[.int .i64 a] w fun e w' => e = .returned (.bool (inB a 0 99)) ∧ w = w' := by
  go_enter Try.func88, Try.ntmps88
  go_wp2_with (go_at_call 73; refine (within_any _ _ _ _).mono ?_; rintro e w' ⟨rfl, rfl⟩)
  go_ret
  exact ⟨rfl, rfl⟩
set_option maxHeartbeats 1000000 in
theorem specIsPerson_any (c : K9) (w : World) (hc : c.small) :
    Calls Try.prog 79 #[.agg #[.int .i64 c.num, .string c.first, .string c.last, .int .i64 c.born, .int .i64 c.zone]] w fun e w' => e = .returned (.bool c.personOk) ∧ Below w.heap.size w w' := by
  obtain ⟨h1, h2⟩ := hc
  go_enter Try.func79, Try.ntmps79
  go_wp2_with (first
    | (go_at_call 73; refine (within_any _ _ _ _).mono ?_; rintro e w' ⟨rfl, rfl⟩)
    | (go_at_call 50; refine (l01In_any _ _ _ _).mono ?_; rintro e w' ⟨rfl, rfl⟩)
    | (go_at_call 88; refine (isZone_any _ _).mono ?_; rintro e w' ⟨rfl, rfl⟩)
    | (go_at_call 89; (with_reducible refine (specIsWord_any c.first _ h1).mono ?_); rintro e w' ⟨rfl, rfl⟩)
    | (go_at_call 89; (with_reducible refine (specIsWord_any c.last _ h2).mono ?_); rintro e w' ⟨rfl, rfl⟩))
  all_goals go_ret
  all_goals exact ⟨by simp_all [K9.personOk], (Below.refl _ _).alloc (Nat.le_refl _) _⟩
set_option maxHeartbeats 1000000 in
theorem specIsCandidate_any (c : K9) (w : World) (hc : c.small) :
    Calls Try.prog 48 #[.agg #[.int .i64 c.num, .string c.first, .string c.last, .int .i64 c.born, .int .i64 c.zone, .bool c.cit, .bool c.conv, .bool c.flu, .int .i64 c.job]] w fun e w' => e = .returned (.bool c.ok) ∧ Below w.heap.size w w' := by
  go_enter Try.func48, Try.ntmps48
  go_wp2_with fail
  have bC := Blk.new w 45 #[.int .i64 c.num, .string c.first, .string c.last, .int .i64 c.born, .int .i64 c.zone, .bool c.cit, .bool c.conv, .bool c.flu, .int .i64 c.job]
  have hB : Below w.heap.size w (w.alloc (.cells #[.int .i64 c.num, .string c.first, .string c.last, .int .i64 c.born, .int .i64 c.zone, .bool c.cit, .bool c.conv, .bool c.flu, .int .i64 c.job] 45)) := (Below.refl _ _).alloc (Nat.le_refl _) _
  generalize (w.alloc (.cells #[.int .i64 c.num, .string c.first, .string c.last, .int .i64 c.born, .int .i64 c.zone, .bool c.cit, .bool c.conv, .bool c.flu, .int .i64 c.job] 45)) = w1 at *
  refine (specIsPerson_any c w1 hc).mono ?_
  rintro e w2 ⟨rfl, hb2⟩
  have bC := bC.below' hb2
  have hB2 := hB.trans (hb2.mono hB.size)
  have c8 : w2.cell? ⟨w.heap.size, 8, none⟩ = some (.int .i64 c.job) := bC.cell 8
  cases hp : c.personOk
  · go_wp2_with fail
    go_ret
    exact ⟨by simp [K9.ok, hp], hB2⟩
  · go_wp2_with (first
      | (go_at_call 73; refine (within_any _ _ _ _).mono ?_; rintro e w' ⟨rfl, rfl⟩)
      | (go_at_call 50; refine (l01In_any _ _ _ _).mono ?_; rintro e w' ⟨rfl, rfl⟩))
    go_ret
    exact ⟨by simp [K9.ok, hp], hB2⟩
set_option maxHeartbeats 1000000 in
theorem implIsPerson_any (c : K9) (w : World) (hc : c.small) :
    Calls Try.prog 78 #[.agg #[.int .i64 c.num, .string c.first, .string c.last, .int .i64 c.born, .int .i64 c.zone]] w fun e w' => e = .returned (.bool c.personOk) ∧ Below w.heap.size w w' := by
  obtain ⟨h1, h2⟩ := hc
  go_enter Try.func78, Try.ntmps78
  go_wp2_with (first
    | (go_at_call 73; refine (within_any _ _ _ _).mono ?_; rintro e w' ⟨rfl, rfl⟩)
    | (go_at_call 50; refine (l01In_any _ _ _ _).mono ?_; rintro e w' ⟨rfl, rfl⟩)
    | (go_at_call 88; refine (isZone_any _ _).mono ?_; rintro e w' ⟨rfl, rfl⟩)
    | (go_at_call 87; (with_reducible refine (implIsWord_any c.first _ h1).mono ?_); rintro e w' ⟨rfl, rfl⟩)
    | (go_at_call 87; (with_reducible refine (implIsWord_any c.last _ h2).mono ?_); rintro e w' ⟨rfl, rfl⟩))
  all_goals go_ret
  all_goals exact ⟨by simp_all [K9.personOk], (Below.refl _ _).alloc (Nat.le_refl _) _⟩
set_option maxHeartbeats 1000000 in
theorem implIsCandidate_any (c : K9) (w : World) (hc : c.small) :
    Calls Try.prog 47 #[.agg #[.int .i64 c.num, .string c.first, .string c.last, .int .i64 c.born, .int .i64 c.zone, .bool c.cit, .bool c.conv, .bool c.flu, .int .i64 c.job]] w fun e w' => e = .returned (.bool c.ok) ∧ Below w.heap.size w w' := by
  go_enter Try.func47, Try.ntmps47
  go_wp2_with fail
  have bC := Blk.new w 45 #[.int .i64 c.num, .string c.first, .string c.last, .int .i64 c.born, .int .i64 c.zone, .bool c.cit, .bool c.conv, .bool c.flu, .int .i64 c.job]
  have hB : Below w.heap.size w (w.alloc (.cells #[.int .i64 c.num, .string c.first, .string c.last, .int .i64 c.born, .int .i64 c.zone, .bool c.cit, .bool c.conv, .bool c.flu, .int .i64 c.job] 45)) := (Below.refl _ _).alloc (Nat.le_refl _) _
  generalize (w.alloc (.cells #[.int .i64 c.num, .string c.first, .string c.last, .int .i64 c.born, .int .i64 c.zone, .bool c.cit, .bool c.conv, .bool c.flu, .int .i64 c.job] 45)) = w1 at *
  refine (implIsPerson_any c w1 hc).mono ?_
  rintro e w2 ⟨rfl, hb2⟩
  have bC := bC.below' hb2
  have hB2 := hB.trans (hb2.mono hB.size)
  have c8 : w2.cell? ⟨w.heap.size, 8, none⟩ = some (.int .i64 c.job) := bC.cell 8
  cases hp : c.personOk
  · go_wp2_with fail
    go_ret
    exact ⟨by simp [K9.ok, hp], hB2⟩
  · go_wp2_with (first
      | (go_at_call 73; refine (within_any _ _ _ _).mono ?_; rintro e w' ⟨rfl, rfl⟩)
      | (go_at_call 50; refine (l01In_any _ _ _ _).mono ?_; rintro e w' ⟨rfl, rfl⟩))
    go_ret
    exact ⟨by simp [K9.ok, hp], hB2⟩

/-- Rules: a year, two ages, zones, jobs. -/
structure R5 where
  yr : Int
  lo : Int
  hi : Int
  zones : List Int
  jobs : List Int
def R5.ok (r : R5) : Bool := inB r.yr 1900 2200 && inB r.lo 0 150 && inB r.hi r.lo 150 && decide (r.zones.length ≤ 20) && decide (r.jobs.length ≤ 20) && incGo 0 99 none r.zones && incGo 0 20 none r.jobs

set_option maxHeartbeats 2000000 in
theorem l01Rises_any (v : Value) (zs : List Int) (n : Int) (w : World) (lo : Nat) (hz : SlI w lo w.heap.size v zs) (hn : 1 ≤ n ∧ n ≤ 1000) :
    Calls Try.prog 77 #[v, .int .i64 n] w fun e w' => e = .returned (.bool (incGo 0 (n - 1) none zs)) ∧ Below w.heap.size w w' := by
  obtain ⟨A, c, rfl, hc1, hc2⟩ := hz.form
  have hw : IntKind.i64.wrap (n - 1) = n - 1 := IntWalk.i64_in _ (by omega)
  go_enter Try.func77, Try.ntmps77
  go_wp2_with fail
  go_loopw [5] (fun i wr => ∃ (k : Nat), i = .int .i64 k ∧ k ≤ zs.length ∧ Hid (incGo 0 (n - 1) none zs = incGo 0 (n - 1) (prevAt zs k) (zs.drop k)) ∧ Below w.heap.size w wr) (fun i wr => zs.length - (intOf i).toNat)
  case atStart => exact ⟨0, rfl, Nat.zero_le _, Lib.hid rfl, Below.refl _ _⟩
  case round =>
    obtain ⟨k, rfl, hk, Hgo, hbr⟩ := hrel
    by_cases hlt : k < zs.length
    · obtain ⟨x, hx⟩ := some_at hlt
      have hgo := Hgo.out
      rw [drop_cons hx, incGo] at hgo
      obtain ⟨b, off, rfl, _, hb, c0⟩ := ((hz.below hbr (Nat.le_refl _)).more (Nat.le_refl _) hbr.size).int_at hx
      have Hgo := Lib.hid hgo
      have Hx := Lib.hid hx
      clear hx hgo
      cases hv : inB x 0 (n - 1)
      · have e : incGo 0 (n - 1) none zs = false := by rw [Hgo.out, hv]; simp
        have E := Lib.hid e
        clear e
        go_wp2_with fail
        refine wp_region_ext (by kernel_rfl) (by kernel_rfl) ?_
        repeat (go_big_quiet_step ((go_at_call 50; exact calls_ext_same (l01In_as hv _))))
        refine wpQuiet_nil ?_
        intro w2 hb2
        go_wp2_with fail
        go_ret
        exact ⟨by rw [E.out]; rfl, hbr.trans (hb2.mono hbr.size)⟩
      · by_cases hk0 : k = 0
        · have hd : decide ((0 : Int) < (k : Int)) = false := by simp [hk0]
          have hd' : decide (0 < k) = false := by simp [hk0]
          have Hk0 := Lib.hid hk0
          clear hk0
          go_wp2_with fail
          refine wp_region_ext (by kernel_rfl) (by kernel_rfl) ?_
          repeat (go_big_quiet_step ((go_at_call 50; exact calls_ext_same (l01In_as hv _))))
          refine wpQuiet_nil ?_
          intro w2 hb2
          clear hw
          go_wp2_with fail
          go_roundw
          case rel => exact ⟨k + 1, by go_num, hlt, Lib.hid (by rw [Hgo.out, hv, prevAt_succ Hx.out, Hk0.out, prevAt_zero]; rfl), hbr.trans (hb2.mono hbr.size)⟩
          case measure => simp [intOf]; omega
        · have hd : decide ((0 : Int) < (k : Int)) = true := by simp; omega
          have hd' : decide (0 < k) = true := by simp; omega
          have hk1 : 0 < k := by omega
          obtain ⟨p, hp⟩ := some_at (l := zs) (k := k - 1) (by omega)
          obtain ⟨b2, off2, ee, _, _, d0⟩ := ((hz.below hbr (Nat.le_refl _)).more (Nat.le_refl _) hbr.size).int_at hp
          injection ee with ee
          injection ee with ee1 ee2
          subst ee1 ee2
          have Hpk := Lib.hid (prevAt_pos hk0 hp)
          clear hp
          by_cases hq : p < x
          · have hq' : decide (x ≤ p) = false := by simp; omega
            go_wp2_with fail
            refine wp_region_ext (by kernel_rfl) (by kernel_rfl) ?_
            repeat (go_big_quiet_step ((go_at_call 50; exact calls_ext_same (l01In_as hv _))))
            refine wpQuiet_nil ?_
            intro w2 hb2
            clear hw
            go_wp2_with fail
            go_roundw
            case rel => exact ⟨k + 1, by go_num, hlt, Lib.hid (by rw [Hgo.out, hv, prevAt_succ Hx.out, Hpk.out, afterB]; simp [hq]), hbr.trans (hb2.mono hbr.size)⟩
            case measure => simp [intOf]; omega
          · have hq' : decide (x ≤ p) = true := by simp; omega
            have e : incGo 0 (n - 1) none zs = false := by
              have hq2 : decide (p < x) = false := by simp; omega
              rw [Hgo.out, Hpk.out, afterB, hq2]; simp
            have E := Lib.hid e
            clear e
            go_wp2_with fail
            refine wp_region_ext (by kernel_rfl) (by kernel_rfl) ?_
            repeat (go_big_quiet_step ((go_at_call 50; exact calls_ext_same (l01In_as hv _))))
            refine wpQuiet_nil ?_
            intro w2 hb2
            go_wp2_with fail
            go_ret
            exact ⟨by rw [E.out]; rfl, hbr.trans (hb2.mono hbr.size)⟩
    · have e : incGo 0 (n - 1) none zs = true := by rw [Hgo.out, List.drop_of_length_le (by omega)]; rfl
      have E := Lib.hid e
      clear e
      go_wp2_with fail
      go_ret
      exact ⟨by rw [E.out]; rfl, hbr⟩
end Go.Proofs.Ytkhojhgcopnenaa
