/- AddCall: the program's and the reference's answer the same function. No condition but the sizes that the law itself asks. -/
import Derived.Test.YtiflpihjffhfhaaCallG
import Derived.Test.YtiflpihjffhfhaaCallIns
import Derived.Deep.DeepCutAuto
namespace Go.Proofs.Ytiflpihjffhfhaa
open Go.RowKit
attribute [local go_sem ↓] Go.wp_at_zero Go.wp_at_succ

def C4.ins (x : C4) (cs : List C4) : List C4 := cs.take (C4.place x.num cs) ++ [x] ++ cs.drop (C4.place x.num cs)
theorem C4.ins_go (x : C4) (hx : x.ok = true) : ∀ (cs : List C4) (p : Option C4), callsGo p cs = true → C4.behind p x = true → callsGo p (C4.ins x cs) = !C4.foundB x.num cs
  | [], p, _, hp => by
    have e : C4.ins x [] = [x] := rfl
    rw [e, callsGo, callsGo, hx, hp]; rfl
  | y :: t, p, h, hp => by
    rw [callsGo] at h
    simp only [Bool.and_eq_true] at h
    by_cases h1 : y.num < x.num
    · have e : C4.ins x (y :: t) = y :: C4.ins x t := by unfold C4.ins; rw [C4.place_head h1]; simp
      have e2 : C4.foundB x.num (y :: t) = C4.foundB x.num t := by unfold C4.foundB; rw [C4.place_head h1]; simp
      rw [e, callsGo, e2, C4.ins_go x hx t (some y) h.2 (by simp [C4.behind, h1]), h.1.1, h.1.2]
      rfl
    · have e : C4.ins x (y :: t) = x :: y :: t := by unfold C4.ins; rw [C4.place_stop h1]; simp
      have e2 : C4.foundB x.num (y :: t) = (y.num == x.num) := C4.foundB_eq (C4.place_stop h1) rfl
      rw [e, callsGo, callsGo, e2, hx, hp, h.1.1, h.2]
      have e3 : C4.behind (some x) y = decide (x.num < y.num) := rfl
      rw [e3]
      by_cases h2 : y.num = x.num
      · simp [h2]
      · have h3 : x.num < y.num := by omega
        simp [h3, h2]
theorem C4.ins_len (x : C4) (cs : List C4) : (C4.ins x cs).length = cs.length + 1 := by
  have := C4.place_le x.num cs
  unfold C4.ins
  rw [List.length_append, List.length_append, List.length_take, List.length_drop, List.length_singleton]
  omega
theorem C4.ins_ok {x : C4} {cs : List C4} (hx : x.ok = true) (h : callsOk cs = true) : callsOk (C4.ins x cs) = (!C4.foundB x.num cs && !(cs.length == 20)) := by
  simp only [callsOk, Bool.and_eq_true, decide_eq_true_eq] at h
  rw [callsOk, C4.ins_go x hx cs none h.1 rfl, C4.ins_len]
  congr 1
  rw [Bool.eq_iff_iff]
  simp
  omega

def newC (n d : Int) : C4 := ⟨n, d, d, 0⟩
theorem newC_ok {n d : Int} (h1 : inB n 1 1000000 = true) (h2 : inB d 0 20000 = true) : (newC n d).ok = true := by
  have h3 := inB_iff.1 h2
  have h4 : inB d 0 d = true := inB_iff.2 ⟨h3.1, Int.le_refl _⟩
  simp [newC, C4.ok, h1, h2, h4]; rfl
def addCallF (hs : List Int) (cs : List C4) (n d : Int) : List C4 × Int :=
  if (holB hs && callsOk cs) = true then if (inB n 1 1000000 && inB d 0 20000) = true then if (courtB hs d && callsOk (C4.ins (newC n d) cs)) = true then (C4.ins (newC n d) cs, 0) else ([], 5) else ([], 2) else ([], 1)
theorem addCallF_len (hs : List Int) (cs : List C4) (n d : Int) : (addCallF hs cs n d).1.length ≤ cs.length + 1 := by
  unfold addCallF
  repeat' split
  all_goals simp [C4.ins_len]

set_option maxRecDepth 100000 in
set_option maxHeartbeats 8000000 in
theorem specAddCall_any (u : Value) (hs : List Int) (v : Value) (cs : List C4) (n d : Int) (w : World) (lo' : Nat) (hh : SlI w lo' w.heap.size u hs) (lo : Nat) (h : SlC4 w lo w.heap.size v cs) :
    Calls Try.prog 17 #[u, v, .int .i64 n, .int .i64 d] w fun e w' => ∃ v', e = .returned (.tuple #[v', .int .i64 (addCallF hs cs n d).2]) ∧ OwnR C4.vals 4 w' w.heap.size 41 v' (addCallF hs cs n d).1 ∧ Below w.heap.size w w' := by
  obtain ⟨A, c, rfl, hc1, hc2⟩ := h.form
  go_enter Try.func17, Try.ntmps17
  go_wp2_with fail
  refine (specAreHolidays_any u hs w lo' hh).mono ?_
  rintro e w0 ⟨rfl, hb0⟩
  cases h0 : holB hs
  · have hF : addCallF hs cs n d = ([], 1) := by simp [addCallF, h0]
    go_wp2_with fail
    go_ret2
    exact ⟨.slice none 0 0, by rw [hF]; rfl, by rw [hF]; exact own_nil _ _ _ _ _, hb0⟩
  go_wp2_with fail
  refine (specAreCalls_any _ cs w0 lo ((h.below hb0 (Nat.le_refl _)).more (Nat.le_refl _) hb0.size)).mono ?_
  rintro e w1 ⟨rfl, hb1'⟩
  have hb1 := hb0.trans (hb1'.mono hb0.size)
  clear hb1' hb0
  cases h1 : callsOk cs
  · have hF : addCallF hs cs n d = ([], 1) := by simp [addCallF, h0, h1]
    go_wp2_with fail
    go_ret2
    exact ⟨.slice none 0 0, by rw [hF]; rfl, by rw [hF]; exact own_nil _ _ _ _ _, hb1⟩
  go_wp2_with fail
  refine (l01In_any n _ _ _).mono ?_
  rintro e w2 ⟨rfl, rfl⟩
  cases h2 : inB n 1 1000000
  · have hF : addCallF hs cs n d = ([], 2) := by simp [addCallF, h0, h1, h2]
    go_wp2_with fail
    go_ret2
    exact ⟨.slice none 0 0, by rw [hF]; rfl, by rw [hF]; exact own_nil _ _ _ _ _, hb1⟩
  go_wp2_with fail
  refine (l02Is_any d _).mono ?_
  rintro e w2 ⟨rfl, rfl⟩
  cases h3 : inB d 0 20000
  · have hF : addCallF hs cs n d = ([], 2) := by simp [addCallF, h0, h1, h2, h3]
    go_wp2_with fail
    go_ret2
    exact ⟨.slice none 0 0, by rw [hF]; rfl, by rw [hF]; exact own_nil _ _ _ _ _, hb1⟩
  have hF : addCallF hs cs n d = if (courtB hs d && callsOk (C4.ins (newC n d) cs)) = true then (C4.ins (newC n d) cs, 0) else ([], 5) := by simp only [addCallF, h0, h1, h2, h3]; rfl
  have HF := Lib.hid hF
  clear hF
  have hlen := (callsOk_all h1).2.2
  have h' : SlC4 w1 lo w1.heap.size (.slice A cs.length c) cs := (h.below hb1 (Nat.le_refl _)).more (Nat.le_refl _) hb1.size
  have hh1 : SlI w1 lo' w1.heap.size u hs := (hh.below hb1 (Nat.le_refl _)).more (Nat.le_refl _) hb1.size
  have z1 := hb1.size
  go_wp2_with fail
  go_loop [10] (fun i => ∃ (k : Nat), i = .int .i64 k ∧ k ≤ cs.length ∧ Hid (C4.place n cs = k + C4.place n (cs.drop k))) (fun i => cs.length - (intOf i).toNat)
  case atStart => exact ⟨0, rfl, Nat.zero_le _, Lib.hid (by simp)⟩
  case round =>
    obtain ⟨k, rfl, hk, Hgo⟩ := hrel
    have hgoal : (∃ x : C4, k < cs.length ∧ cs[k]? = some x ∧ x.num < n) ∨ (∃ x : C4, k < cs.length ∧ cs[k]? = some x ∧ ¬ x.num < n ∧ C4.place n cs = k) ∨ (cs.length ≤ k ∧ C4.place n cs = k) := by
      rcases Nat.lt_or_ge k cs.length with hlt | hge
      · obtain ⟨x, hx⟩ := some_at hlt
        by_cases e1 : x.num < n
        · exact .inl ⟨x, hlt, hx, e1⟩
        · exact .inr (.inl ⟨x, hlt, hx, e1, by rw [Hgo.out, drop_cons hx, C4.place_stop e1]; rfl⟩)
      · exact .inr (.inr ⟨hge, by rw [Hgo.out, List.drop_of_length_le hge]; rfl⟩)
    rcases hgoal with ⟨x, hlt, hx, e1⟩ | hgoal
    · obtain ⟨b, off, rfl, _, hb, c0, cr⟩ := h'.C4_at hx
      clear cr
      have Hd := Lib.hid (drop_cons hx)
      clear hx
      go_wp2_with fail
      go_round
      case rel => exact ⟨k + 1, by go_num, hlt, Lib.hid (by rw [Hgo.out, Hd.out, C4.place_head e1]; omega)⟩
      case measure => simp [intOf]; omega
    have hkp : C4.place n cs = k := by rcases hgoal with ⟨x, _, _, _, h⟩ | ⟨_, h⟩ <;> exact h
    have hins : C4.ins (newC n d) cs = cs.take k ++ [(newC n d)] ++ cs.drop k := by unfold C4.ins; rw [show ((newC n d)).num = n from rfl, hkp]
    have Hins := Lib.hid hins
    clear hins hkp Hgo
    have q1 : (0 : Int) ≤ (k : Int) := by omega
    have q2 : (k : Int) ≤ (c : Int) := by omega
    have q3 : (k : Int) ≤ (cs.length : Int) := by omega
    obtain ⟨S1, r1, s1⟩ := run_slice_to (P := Try.prog) h' (k := k) hk 25 41 Try.infoC4 Try.underlying25
    obtain ⟨S2, r2, s2⟩ := run_slice_from (P := Try.prog) h' (k := k) hk 25 41 Try.infoC4 Try.underlying25
    have l1 : (cs.take k).length ≤ 20 := by rw [List.length_take]; omega
    have l2 : (cs.drop k).length ≤ 20 := by rw [List.length_drop]; omega
    rcases hgoal with ⟨x, hlt, hx, e1, _⟩ | ⟨hkl, _⟩
    all_goals (try (obtain ⟨b, off, rfl, _, hb, c0, cr⟩ := h'.C4_at hx; clear cr hx))
    all_goals
      go_upto_region 8 with fail
      go_cut [11] (fun v4 wx => OwnR C4.vals 4 wx w1.heap.size 41 v4 (C4.ins (newC n d) cs) ∧ Below w1.heap.size w1 wx)
      case first =>
        have hAA : Below w1.heap.size w1 ((w1.alloc (.cells #[] 41)).drew) := (((Below.refl _ _).alloc (Nat.le_refl _) _)).drew
        have hAB : Below w1.heap.size w1 (((w1.alloc (.cells #[] 41)).alloc (.cells #[.int .i64 n, .int .i64 d, .int .i64 d, .int .i64 0] 41)).drew) := ((((Below.refl _ _).alloc (Nat.le_refl _) _)).alloc (by simp) _).drew
        have hAC : Below w1.heap.size w1 (((w1.alloc (.cells #[.int .i64 n, .int .i64 d, .int .i64 d, .int .i64 0] 41)).alloc (.cells #[] 41)).drew) := ((((Below.refl _ _).alloc (Nat.le_refl _) _)).alloc (by simp) _).drew
        have oA : OwnR C4.vals 4 ((w1.alloc (.cells #[] 41)).drew) w1.heap.size 41 (.slice (some ⟨w1.heap.size, 0, none⟩) 0 0) ([] : List _) := (own_empty w1 _ 4 C4.vals).drew
        have oB : OwnR C4.vals 4 (((w1.alloc (.cells #[] 41)).alloc (.cells #[.int .i64 n, .int .i64 d, .int .i64 d, .int .i64 0] 41)).drew) w1.heap.size 41 (.slice (some ⟨w1.heap.size, 0, none⟩) 0 0) ([] : List _) := ((own_empty w1 _ 4 C4.vals).alloc _).drew
        have tB : SlR C4.vals 4 (((w1.alloc (.cells #[] 41)).alloc (.cells #[.int .i64 n, .int .i64 d, .int .i64 d, .int .i64 0] 41)).drew) (w1.heap.size + 1) (w1.heap.size + 1 + 1) (.slice (some ⟨w1.heap.size + 1, 0, none⟩) 1 1) [(newC n d)] := by have := (rec_sl (f := C4.vals) (s := 4) (fun _ => rfl) (w1.alloc (.cells #[] 41)) 41 (cx := #[.int .i64 n, .int .i64 d, .int .i64 d, .int .i64 0]) (x := (newC n d)) rfl).drew; simpa using this
        have oC : OwnR C4.vals 4 (((w1.alloc (.cells #[.int .i64 n, .int .i64 d, .int .i64 d, .int .i64 0] 41)).alloc (.cells #[] 41)).drew) w1.heap.size 41 (.slice (some ⟨w1.heap.size + 1, 0, none⟩) 0 0) ([] : List _) := by have := ((own_empty (w1.alloc (.cells #[.int .i64 n, .int .i64 d, .int .i64 d, .int .i64 0] 41)) 41 4 C4.vals).drew).more (base' := w1.heap.size) (by simp); simpa using this
        have tC : SlR C4.vals 4 (((w1.alloc (.cells #[.int .i64 n, .int .i64 d, .int .i64 d, .int .i64 0] 41)).alloc (.cells #[] 41)).drew) w1.heap.size (w1.heap.size + 1) (.slice (some ⟨w1.heap.size, 0, none⟩) 1 1) [(newC n d)] := ((rec_sl (f := C4.vals) (s := 4) (fun _ => rfl) w1 41 (cx := #[.int .i64 n, .int .i64 d, .int .i64 d, .int .i64 0]) (x := (newC n d)) rfl).alloc (by simp) _).drew
        have zTB : w1.heap.size + 1 + 1 ≤ (((w1.alloc (.cells #[] 41)).alloc (.cells #[.int .i64 n, .int .i64 d, .int .i64 d, .int .i64 0] 41)).drew).heap.size := by simp
        have zTC : w1.heap.size + 1 + 1 ≤ (((w1.alloc (.cells #[.int .i64 n, .int .i64 d, .int .i64 d, .int .i64 0] 41)).alloc (.cells #[] 41)).drew).heap.size := by simp
        go_region_held3 (fun _ => True) (trivial) (first
          | ((with_reducible refine at_world ((w1.alloc (.cells #[] 41)).drew) ?_); refine step_append_sl (f := C4.vals) (s := 4) ((w1.alloc (.cells #[] 41)).drew) (fun _ => rfl) oneCellC4 (by rfl) _ _ 25 (by rfl) w1.heap.size 41 Try.infoC4 Try.underlying25 rfl (by decide) _ ([] : List _) (cs.take k) _ lo _ (by rfl) oA (by rfl) (s1.below hAA (Nat.le_refl _)) (by simp; omega) (by simp; omega) (by simp; try omega) ?_; intro v2 w2 o2 hB2 hg2; have hb2 := hB2 _ _ hAA (Nat.le_refl _); have z2 := hb2.size)
          | ((with_reducible refine at_world (((w1.alloc (.cells #[] 41)).alloc (.cells #[.int .i64 n, .int .i64 d, .int .i64 d, .int .i64 0] 41)).drew) ?_); refine step_append_sl (f := C4.vals) (s := 4) (((w1.alloc (.cells #[] 41)).alloc (.cells #[.int .i64 n, .int .i64 d, .int .i64 d, .int .i64 0] 41)).drew) (fun _ => rfl) oneCellC4 (by rfl) _ _ 25 (by rfl) w1.heap.size 41 Try.infoC4 Try.underlying25 rfl (by decide) _ ([] : List _) (cs.take k) _ lo _ (by rfl) oB (by rfl) (s1.below hAB (Nat.le_refl _)) (by simp; omega) (by simp; omega) (by simp; try omega) ?_; intro v2 w2 o2 hB2 hg2; have hb2 := hB2 _ _ hAB (Nat.le_refl _); have z2 := hb2.size; have t2 := tB.grown hg2 zTB (by intro q hq; have hq := Option.some.inj hq; dsimp only at hq; omega); have zt2 : w1.heap.size + 1 + 1 ≤ w2.heap.size := Nat.le_trans zTB hg2.size)
          | ((with_reducible refine at_world (((w1.alloc (.cells #[.int .i64 n, .int .i64 d, .int .i64 d, .int .i64 0] 41)).alloc (.cells #[] 41)).drew) ?_); refine step_append_sl (f := C4.vals) (s := 4) (((w1.alloc (.cells #[.int .i64 n, .int .i64 d, .int .i64 d, .int .i64 0] 41)).alloc (.cells #[] 41)).drew) (fun _ => rfl) oneCellC4 (by rfl) _ _ 25 (by rfl) w1.heap.size 41 Try.infoC4 Try.underlying25 rfl (by decide) _ ([] : List _) (cs.take k) _ lo _ (by rfl) oC (by rfl) (s1.below hAC (Nat.le_refl _)) (by simp; omega) (by simp; omega) (by simp; try omega) ?_; intro v2 w2 o2 hB2 hg2; have hb2 := hB2 _ _ hAC (Nat.le_refl _); have z2 := hb2.size; have t2 := tC.grown hg2 (Nat.le_trans (Nat.le_succ _) zTC) (by intro q hq; have hq := Option.some.inj hq; dsimp only at hq; omega); have zt2 : w1.heap.size + 1 ≤ w2.heap.size := Nat.le_trans (Nat.le_trans (Nat.le_succ _) zTC) hg2.size)
          | ((with_reducible refine at_world w2 ?_); refine step_append_sl (f := C4.vals) (s := 4) w2 (fun _ => rfl) oneCellC4 (by rfl) _ _ 25 (by rfl) w1.heap.size 41 Try.infoC4 Try.underlying25 rfl (by decide) _ _ [(newC n d)] _ _ _ (by rfl) o2 (by rfl) t2 (by simp; omega) (by simp; omega) z2 ?_; intro v3 w3 o3 hB3 hg3; have hb3 := hB3 _ _ hb2 (Nat.le_refl _); have z3 := hb3.size)
          | ((with_reducible refine at_world (w2.alloc (.cells #[.int .i64 n, .int .i64 d, .int .i64 d, .int .i64 0] 41)) ?_); refine step_append_sl (f := C4.vals) (s := 4) (w2.alloc (.cells #[.int .i64 n, .int .i64 d, .int .i64 d, .int .i64 0] 41)) (fun _ => rfl) oneCellC4 (by rfl) _ _ 25 (by rfl) w1.heap.size 41 Try.infoC4 Try.underlying25 rfl (by decide) _ _ [(newC n d)] _ _ _ (by rfl) (o2.alloc _) (by rfl) (rec_sl (f := C4.vals) (s := 4) (fun _ => rfl) w2 41 (cx := #[.int .i64 n, .int .i64 d, .int .i64 d, .int .i64 0]) (x := (newC n d)) rfl) (by simp; omega) (by simp; omega) (Nat.le_trans z2 (by simp)) ?_; intro v3 w3 o3 hB3 hg3; have hb3 := hB3 _ _ (hb2.alloc z2 _) (Nat.le_refl _); have z3 := hb3.size)
          | ((with_reducible refine at_world w3 ?_); refine step_append_sl (f := C4.vals) (s := 4) w3 (fun _ => rfl) oneCellC4 (by rfl) _ _ 25 (by rfl) w1.heap.size 41 Try.infoC4 Try.underlying25 rfl (by decide) _ _ (cs.drop k) _ lo _ (by rfl) o3 (by rfl) (s2.below hb3 (Nat.le_refl _)) (by simp; omega) (by simp; omega) z3 ?_; intro v4 w4 o4 hB4 hg4; have hb4 := hB4 _ _ hb3 (Nat.le_refl _); have z4 := hb4.size))
        all_goals (go_wp2_with fail; go_meet; exact ⟨by rw [Hins.out]; exact o4, hb4⟩)
      case rest =>
        obtain ⟨o4, hb4⟩ := hcut
        obtain ⟨v4, rfl⟩ : ∃ x : Value, x = u11 := ⟨_, rfl⟩
        obtain ⟨w4, rfl⟩ : ∃ w4 : World, w4 = wc := ⟨_, rfl⟩
        have hh4 := (hh1.below hb4 (Nat.le_refl _)).more (Nat.le_refl _) hb4.size
        go_wp2_with fail
        refine (l02Court_any u hs d w4 lo' _ hh4).mono ?_
        rintro e w5 ⟨rfl, rfl⟩
        cases h5 : courtB hs d
        · have hF : addCallF hs cs n d = ([], 5) := by rw [HF.out, if_neg (by simp [h5])]
          go_wp2_with fail
          go_ret2
          exact ⟨.slice none 0 0, by rw [hF]; rfl, by rw [hF]; exact own_nil _ _ _ _ _, hb1.trans (hb4.mono hb1.size)⟩
        go_wp2_with fail
        refine (specAreCalls_any _ _ w4 _ (own_slC4 o4)).mono ?_
        rintro e w6 ⟨rfl, hb6⟩
        have hB6 := hb4.trans (hb6.mono hb4.size)
        cases h6 : callsOk (C4.ins (newC n d) cs)
        · have hF : addCallF hs cs n d = ([], 5) := by rw [HF.out, if_neg (by simp [h6])]
          go_wp2_with fail
          go_ret2
          exact ⟨.slice none 0 0, by rw [hF]; rfl, by rw [hF]; exact own_nil _ _ _ _ _, hb1.trans (hB6.mono hb1.size)⟩
        · have hF : addCallF hs cs n d = (C4.ins (newC n d) cs, 0) := by rw [HF.out, if_pos (by simp [h5, h6])]
          go_wp2_with fail
          go_ret2
          exact ⟨v4, by rw [hF]; rfl, by rw [hF]; exact (o4.below hb6).more hb1.size, hb1.trans (hB6.mono hb1.size)⟩

set_option maxRecDepth 100000 in
set_option maxHeartbeats 8000000 in
theorem implAddCall_any (u : Value) (hs : List Int) (v : Value) (cs : List C4) (n d : Int) (w : World) (lo' : Nat) (hh : SlI w lo' w.heap.size u hs) (lo : Nat) (h : SlC4 w lo w.heap.size v cs) :
    Calls Try.prog 16 #[u, v, .int .i64 n, .int .i64 d] w fun e w' => ∃ v', e = .returned (.tuple #[v', .int .i64 (addCallF hs cs n d).2]) ∧ OwnR C4.vals 4 w' w.heap.size 41 v' (addCallF hs cs n d).1 ∧ Below w.heap.size w w' := by
  obtain ⟨A, c, rfl, hc1, hc2⟩ := h.form
  go_enter Try.func16, Try.ntmps16
  go_wp2_with fail
  refine (ofC4_any _ cs n w lo _ h (Nat.le_refl _)).mono ?_
  rintro e w0 ⟨rfl, hb0⟩
  go_wp2_with fail
  refine (implAreHolidays_any u hs w0 lo' _ (hh.below hb0 (Nat.le_refl _))).mono ?_
  rintro e w1 ⟨rfl, rfl⟩
  cases h0 : holB hs
  · have hF : addCallF hs cs n d = ([], 1) := by simp [addCallF, h0]
    go_wp2_with fail
    go_ret2
    exact ⟨.slice none 0 0, by rw [hF]; rfl, by rw [hF]; exact own_nil _ _ _ _ _, hb0⟩
  go_wp2_with fail
  refine (implAreCalls_any _ cs w0 lo ((h.below hb0 (Nat.le_refl _)).more (Nat.le_refl _) hb0.size)).mono ?_
  rintro e w1 ⟨rfl, hb1'⟩
  have hb1 := hb0.trans (hb1'.mono hb0.size)
  clear hb1' hb0
  cases h1 : callsOk cs
  · have hF : addCallF hs cs n d = ([], 1) := by simp [addCallF, h0, h1]
    go_wp2_with fail
    go_ret2
    exact ⟨.slice none 0 0, by rw [hF]; rfl, by rw [hF]; exact own_nil _ _ _ _ _, hb1⟩
  go_wp2_with fail
  refine (isDay_any d _).mono ?_
  rintro e w2 ⟨rfl, rfl⟩
  cases h3 : inB d 0 20000
  · have hF : addCallF hs cs n d = ([], 2) := by simp [addCallF, h0, h1, h3]
    go_wp2_with fail
    go_ret2
    exact ⟨.slice none 0 0, by rw [hF]; rfl, by rw [hF]; exact own_nil _ _ _ _ _, hb1⟩
  go_wp2_with fail
  refine (isNumber_any n _).mono ?_
  rintro e w2 ⟨rfl, rfl⟩
  cases h2 : inB n 1 1000000
  · have hF : addCallF hs cs n d = ([], 2) := by simp [addCallF, h0, h1, h2]
    go_wp2_with fail
    go_ret2
    exact ⟨.slice none 0 0, by rw [hF]; rfl, by rw [hF]; exact own_nil _ _ _ _ _, hb1⟩
  have hF : addCallF hs cs n d = if (courtB hs d && (!C4.foundB n cs && !(cs.length == 20))) = true then (C4.ins (newC n d) cs, 0) else ([], 5) := by
    have := C4.ins_ok (newC_ok h2 h3) h1
    rw [show (newC n d).num = n from rfl] at this
    simp only [addCallF, h0, h1, h2, h3, this]; rfl
  have HF := Lib.hid hF
  clear hF
  have hlen := (callsOk_all h1).2.2
  have h' : SlC4 w1 lo w1.heap.size (.slice A cs.length c) cs := (h.below hb1 (Nat.le_refl _)).more (Nat.le_refl _) hb1.size
  have hh1 : SlI w1 lo' w1.heap.size u hs := (hh.below hb1 (Nat.le_refl _)).more (Nat.le_refl _) hb1.size
  have z1 := hb1.size
  go_wp2_with fail
  refine (isCourtDay_any u hs d w1 lo' _ hh1).mono ?_
  rintro e w5 ⟨rfl, rfl⟩
  cases h5 : courtB hs d
  · have hF : addCallF hs cs n d = ([], 5) := by rw [HF.out, if_neg (by simp [h5])]
    go_wp2_with fail
    go_ret2
    exact ⟨.slice none 0 0, by rw [hF]; rfl, by rw [hF]; exact own_nil _ _ _ _ _, hb1⟩
  cases h6 : C4.foundB n cs
  case true =>
    have hF : addCallF hs cs n d = ([], 5) := by rw [HF.out, if_neg (by simp [h6])]
    go_wp2_with fail
    go_ret2
    exact ⟨.slice none 0 0, by rw [hF]; rfl, by rw [hF]; exact own_nil _ _ _ _ _, hb1⟩
  by_cases h7 : cs.length = 20
  · have hF : addCallF hs cs n d = ([], 5) := by rw [HF.out, if_neg (by simp [h7])]
    have h8 : ((cs.length : Int) == 20) = true := by simp; omega
    clear h7
    go_wp2_with fail
    go_ret2
    exact ⟨.slice none 0 0, by rw [hF]; rfl, by rw [hF]; exact own_nil _ _ _ _ _, hb1⟩
  have hF : addCallF hs cs n d = (C4.ins (newC n d) cs, 0) := by rw [HF.out, if_pos (by simp [h5, h6, h7])]
  have h8 : ((cs.length : Int) == 20) = false := by simp; omega
  clear h7 HF
  have HF := Lib.hid hF
  clear hF
  have hpl := C4.place_le n cs
  have hins : C4.ins (newC n d) cs = cs.take (C4.place n cs) ++ [newC n d] ++ cs.drop (C4.place n cs) := rfl
  have Hins := Lib.hid hins
  clear hins h6
  generalize C4.place n cs = k at *
  go_wp2_with fail
  refine (cloneC4_cap _ cs w1 lo h' (by omega)).mono ?_
  rintro e w2 ⟨rfl, o2, hB2⟩
  have z2 := hB2.size
  go_wp2_with fail
  have t2 := rec_sl (f := C4.vals) (s := 4) (fun _ => rfl) w2 41 (cx := #[.int .i64 n, .int .i64 d, .int .i64 d, .int .i64 0]) (x := newC n d) rfl
  refine (insC4_any w1.heap.size w2.heap.size cs.length k cs (newC n d) _ w1.heap.size _ _ rfl hpl (by omega) (o2.alloc _) t2 (by simp) (by simp; omega)).mono ?_
  rintro e w3 ⟨v3, rfl, o3, hB3⟩
  have hb3 := hB3 _ _ (hB2.alloc z2 _) (Nat.le_refl _)
  go_wp2_with fail
  go_ret2
  exact ⟨v3, by rw [HF.out]; rfl, by rw [HF.out, Hins.out]; exact o3.more hb1.size, hb1.trans (hb3.mono hb1.size)⟩

end Go.Proofs.Ytiflpihjffhfhaa