/- OpenOn, OverdueOn, RemindersOn: the program's and the reference's answer the same functions of the list. No condition but the sizes that the law itself asks. -/
import Derived.Test.YtiflpihjffhfhaaSummB
import Derived.Test.YtiflpihjffhfhaaIntC
namespace Go.Proofs.Ytiflpihjffhfhaa
open Go.RowKit

theorem risesGoS5_all : ∀ (xs : List S5) (p : Option S5), risesGoS5 p xs = true → ∀ t ∈ xs, t.ok = true
  | [], _, _ => by simp
  | t :: r, p, h => by
    rw [risesGoS5] at h
    simp only [Bool.and_eq_true] at h
    intro u hu
    rcases List.mem_cons.1 hu with rfl | hu
    · exact h.1.1
    · exact risesGoS5_all r _ h.2 u hu
theorem listOkS5_all {xs : List S5} (h : listOkS5 xs = true) : (∀ t ∈ xs, t.ok = true) ∧ xs.length ≤ 20 := by
  simp only [listOkS5, Bool.and_eq_true, decide_eq_true_eq] at h
  exact ⟨risesGoS5_all xs _ h.1, h.2⟩
theorem S5.bounds {x : S5} (h : x.ok = true) : (0 ≤ x.sent ∧ x.sent ≤ 20000) ∧ (0 ≤ x.due ∧ x.due ≤ 20000) ∧ (0 ≤ x.ans ∧ x.ans ≤ 3) := by
  simp only [S5.ok, Bool.and_eq_true, inB_iff] at h
  omega

def openP (day : Int) (x : S5) : Bool := decide (x.sent ≤ day) && (x.ans == 0 || decide (day < x.answered))
def lateP (day : Int) (x : S5) : Bool := decide (0 ≤ day - x.due - 1) && decide (day - x.due - 1 ≤ 28) && (day - x.due - 1) % 14 == 0
def overP (day : Int) (x : S5) : Bool := openP day x && decide (x.due < day)
def remindP (day : Int) (x : S5) : Bool := openP day x && lateP day x

set_option maxHeartbeats 400000 in
theorem l09Open_any (x : S5) (day : Int) (w : World) :
    Calls Try.prog 122 #[.agg #[.int .i64 x.num, .int .i64 x.sent, .int .i64 x.due, .int .i64 x.ans, .int .i64 x.answered], .int .i64 day] w fun e w' => e = .returned (.bool (openP day x)) ∧ Below w.heap.size w w' := by
  go_enter Try.func122, Try.ntmps122
  go_wp2
  all_goals go_ret
  all_goals exact ⟨ret_bool (by rw [openP]; first | (simp_all; done) | (simp_all; intro; omega)), (Below.refl _ _).alloc (Nat.le_refl _) _⟩
set_option maxHeartbeats 400000 in
theorem open_any (x : S5) (day : Int) (w : World) :
    Calls Try.prog 119 #[.agg #[.int .i64 x.num, .int .i64 x.sent, .int .i64 x.due, .int .i64 x.ans, .int .i64 x.answered], .int .i64 day] w fun e w' => e = .returned (.bool (openP day x)) ∧ Below w.heap.size w w' := by
  go_enter Try.func119, Try.ntmps119
  go_wp2
  all_goals go_ret
  all_goals exact ⟨ret_bool (by rw [openP]; first | (simp_all; done) | (simp_all; intro; omega)), (Below.refl _ _).alloc (Nat.le_refl _) _⟩

theorem tmod14 {n : Int} (h : 0 ≤ n) : n.tmod 14 = n % 14 := Int.tmod_eq_emod_of_nonneg h
theorem tdiv14 {n : Int} (h : 0 ≤ n) : n.tdiv 14 = n / 14 := Int.tdiv_eq_ediv_of_nonneg h

set_option maxHeartbeats 400000 in
theorem reminds_any (x : S5) (day : Int) (w : World) (hx : x.ok = true) (hd : 0 ≤ day ∧ day ≤ 20001) :
    Calls Try.prog 120 #[.agg #[.int .i64 x.num, .int .i64 x.sent, .int .i64 x.due, .int .i64 x.ans, .int .i64 x.answered], .int .i64 day] w fun e w' => e = .returned (.bool (lateP day x)) ∧ Below w.heap.size w w' := by
  have hb := S5.bounds hx
  go_enter Try.func120, Try.ntmps120
  go_wp2_with fail
  refine (within_any _ _ _ _).mono ?_
  rintro e w' ⟨rfl, rfl⟩
  cases h1 : inB (day - x.due - 1) 0 28
  · go_wp2_with fail
    go_ret
    exact ⟨ret_bool (by rw [lateP, ← inB, h1]; rfl), (Below.refl _ _).alloc (Nat.le_refl _) _⟩
  · have h2 := inB_iff.1 h1
    have h3 := tmod14 h2.1
    go_wp2_with fail
    go_ret
    exact ⟨ret_bool (by rw [lateP, ← inB, h1]; simp [*]), (Below.refl _ _).alloc (Nat.le_refl _) _⟩

set_option maxHeartbeats 400000 in
theorem l09Reminder_any (x : S5) (day : Int) (w : World) (hx : x.ok = true) (hd : 0 ≤ day ∧ day ≤ 20001) :
    Calls Try.prog 123 #[.agg #[.int .i64 x.num, .int .i64 x.sent, .int .i64 x.due, .int .i64 x.ans, .int .i64 x.answered], .int .i64 day] w fun e w' => e = .returned (.bool (lateP day x)) ∧ Below w.heap.size w w' := by
  have hb := S5.bounds hx
  by_cases h1 : 0 ≤ day - x.due - 1
  · have h3 := tmod14 h1
    have h4 := tdiv14 h1
    go_enter Try.func123, Try.ntmps123
    go_wp2_with fail
    all_goals go_ret
    all_goals exact ⟨ret_bool (by rw [Bool.eq_iff_iff]; simp only [lateP, Bool.and_eq_true, decide_eq_true_eq, beq_iff_eq]; simp_all; try omega), (Below.refl _ _).alloc (Nat.le_refl _) _⟩
  · go_enter Try.func123, Try.ntmps123
    go_wp2_with fail
    all_goals go_ret
    all_goals exact ⟨ret_bool (by rw [lateP]; simp; omega), (Below.refl _ _).alloc (Nat.le_refl _) _⟩

def sumCode (cs : List S5) (d : Int) : Int := if listOkS5 cs = true then if inB d 0 20000 = true then 0 else 2 else 1
theorem sumCode_zero {cs : List S5} {d : Int} (h : sumCode cs d = 0) : listOkS5 cs = true ∧ inB d 0 20000 = true := by
  unfold sumCode at h
  split at h
  · rename_i h1
    split at h
    · rename_i h2; exact ⟨h1, h2⟩
    · omega
  · omega
set_option maxHeartbeats 1000000 in
theorem l09Day_any (v : Value) (cs : List S5) (d : Int) (w : World) (lo : Nat) (h : SlS5 w lo w.heap.size v cs) :
    Calls Try.prog 121 #[v, .int .i64 d] w fun e w' => e = .returned (.int .i64 (sumCode cs d)) ∧ Below w.heap.size w w' := by
  go_enter Try.func121, Try.ntmps121
  go_wp2_with fail
  refine (specAreSummonses_any v cs w lo h).mono ?_
  rintro e w1 ⟨rfl, hb1⟩
  cases h1 : listOkS5 cs
  · go_wp2_with fail
    go_ret
    exact ⟨ret_int (by simp [sumCode, h1]), hb1⟩
  · go_wp2_with fail
    refine (l02Is_any d _).mono ?_
    rintro e w2 ⟨rfl, rfl⟩
    cases h3 : inB d 0 20000
    all_goals go_wp2_with fail
    all_goals go_ret
    all_goals exact ⟨ret_int (by simp [sumCode, h1, h3]), hb1⟩

def pick (p : S5 → Bool) (cs : List S5) : List Int := (cs.filter p).map (·.num)
theorem pick_yes {p : S5 → Bool} {cs : List S5} {k : Nat} {x : S5} (h : cs[k]? = some x) (hd : p x = true) : pick p (cs.take (k + 1)) = pick p (cs.take k) ++ [x.num] := by
  rw [take_snoc h]; simp [pick, hd]
theorem pick_no {p : S5 → Bool} {cs : List S5} {k : Nat} {x : S5} (h : cs[k]? = some x) (hd : p x = false) : pick p (cs.take (k + 1)) = pick p (cs.take k) := by
  rw [take_snoc h]; simp [pick, hd]
theorem pick_len (p : S5 → Bool) (cs : List S5) : (pick p cs).length ≤ cs.length := by
  simp only [pick, List.length_map]; exact List.length_filter_le _ _
def pickF (p : Int → S5 → Bool) (cs : List S5) (d : Int) : List Int × Int := if sumCode cs d = 0 then (pick (p d) cs, 0) else ([], sumCode cs d)
theorem pickF_len (p : Int → S5 → Bool) (cs : List S5) (d : Int) : (pickF p cs d).1.length ≤ cs.length := by
  unfold pickF; split
  · exact pick_len _ cs
  · simp

set_option maxRecDepth 100000 in
set_option maxHeartbeats 2000000 in
theorem specOpenOn_any (v : Value) (cs : List S5) (day : Int) (w : World) (lo : Nat) (h : SlS5 w lo w.heap.size v cs) :
    Calls Try.prog 55 #[v, .int .i64 day] w fun e w' => ∃ v', e = .returned (.tuple #[v', .int .i64 (pickF openP cs day).2]) ∧ OwnR i64s 1 w' w.heap.size 2 v' (pickF openP cs day).1 ∧ Below w.heap.size w w' := by
  obtain ⟨A, c, rfl, hc1, hc2⟩ := h.form
  go_enter Try.func55, Try.ntmps55
  go_wp2_with fail
  refine (l09Day_any _ cs day w lo h).mono ?_
  rintro e w1 ⟨rfl, hb1⟩
  by_cases hc : sumCode cs day = 0
  · obtain ⟨h1, hd⟩ := sumCode_zero hc
    obtain ⟨hall, hlen⟩ := listOkS5_all h1
    have hF : pickF openP cs day = (pick (openP day) cs, 0) := by simp [pickF, hc]
    have hdd := inB_iff.1 hd
    have Hall := Lib.hid hall
    clear hall
    rw [hc]
    have z1 := hb1.size
    have h' : SlS5 w1 lo w1.heap.size (.slice A cs.length c) cs := (h.below hb1 (Nat.le_refl _)).more (Nat.le_refl _) hb1.size
    go_wp2_with fail
    obtain ⟨wo, rfl⟩ : ∃ wo : World, wo = w1 := ⟨_, rfl⟩
    go_loopw [7, 8] (fun q i wr => ∃ (k : Nat), i = .int .i64 k ∧ k ≤ cs.length ∧ OwnR i64s 1 wr wo.heap.size 2 q (pick (openP day) (cs.take k)) ∧ Below wo.heap.size wo wr) (fun q i wr => cs.length - (intOf i).toNat)
    case atStart => exact ⟨0, rfl, Nat.zero_le _, own_empty _ _ 1 i64s, (Below.refl _ _).alloc (Nat.le_refl _) _⟩
    case round =>
      obtain ⟨k, rfl, hk, hown, hbr⟩ := hrel
      by_cases hlt : k < cs.length
      · obtain ⟨x, hx⟩ := some_at hlt
        have hxo := Hall.out x (List.mem_of_getElem? hx)
        have hxb := S5.bounds hxo
        have hl := pick_len (openP day) (cs.take k)
        rw [List.length_take] at hl
        obtain ⟨b, off, rfl, _, hb, c0, c1, c2, c3, c4⟩ := ((h'.below hbr (Nat.le_refl _)).more (Nat.le_refl _) hbr.size).S5_at hx
        have Hx := Lib.hid hx
        clear hx
        go_wp2_with fail
        refine (l09Open_any x day _).mono ?_
        rintro e w2 ⟨rfl, hb2⟩
        have hB2 := hbr.trans (hb2.mono hbr.size)
        have hown2 := hown.below hb2
        obtain ⟨b2, off2, ee, _, hb2', d0, d1, d2, d3, d4⟩ := ((h'.below hB2 (Nat.le_refl _)).more (Nat.le_refl _) hB2.size).S5_at Hx.out
        injection ee with ee
        injection ee with ee1 ee2
        subst ee1 ee2
        cases e1 : openP day x
        · have hp : openP day x = false := e1
          go_wp2_with fail
          go_roundw
          case rel => exact ⟨k + 1, by go_num, hlt, by rw [pick_no Hx.out hp]; exact hown2, hB2⟩
          case measure => simp [intOf]; omega
        · have hp : openP day x = true := e1
          have hsz := hB2.size
          go_wp2_with (at_builtin; refine wpList_append_rec (f := i64s) (s := 1) 2 _ _ (fun _ => rfl) i64s_one rfl _ _ 24 rfl wo.heap.size Try.infoI Try.underlying24 rfl (by decide) _ _ x.num rfl hown2 rfl rfl rfl (by omega) (by omega) hsz ?_)
          intro v' w' hown' hbel
          go_wp2_with fail
          go_roundw
          case rel => exact ⟨k + 1, by go_num, hlt, by rw [pick_yes Hx.out hp]; exact hown', hbel _ _ hB2 (Nat.le_refl _)⟩
          case measure => simp [intOf]; omega
      · have hkn : k = cs.length := by omega
        subst hkn
        rw [List.take_length] at hown
        go_wp2_with fail
        go_ret2
        exact ⟨_, by rw [hF]; rfl, by rw [hF]; exact hown.more hb1.size, hb1.trans (hbr.mono hb1.size)⟩
  · have hF : pickF openP cs day = ([], sumCode cs day) := by simp [pickF, hc]
    have hne : (sumCode cs day != 0) = true := by simp [hc]
    go_wp2_with fail
    go_ret2
    exact ⟨.slice none 0 0, by rw [hF]; rfl, by rw [hF]; exact own_nil _ _ _ _ _, hb1⟩

set_option maxHeartbeats 1000000 in
theorem accOpenOn_any (x : S5) (day : Int) (g : Nat) (w : World) (hc : w.cell? ⟨g, 0, none⟩ = some (.int .i64 day)) (hg : g < w.heap.size) (hx : x.ok = true) (hd : 0 ≤ day ∧ day ≤ 20001) :
    Calls Try.prog 126 #[.agg #[.int .i64 x.num, .int .i64 x.sent, .int .i64 x.due, .int .i64 x.ans, .int .i64 x.answered], .pointer (some ⟨g, 0, none⟩)] w fun e w' => e = .returned (.bool (openP day x)) ∧ Below w.heap.size w w' := by
  go_enter Try.func126, Try.ntmps126
  go_wp2_with fail
  have b0 := Blk.new w 108 #[.int .i64 x.num, .int .i64 x.sent, .int .i64 x.due, .int .i64 x.ans, .int .i64 x.answered]
  have hB : Below w.heap.size w (w.alloc (.cells #[.int .i64 x.num, .int .i64 x.sent, .int .i64 x.due, .int .i64 x.ans, .int .i64 x.answered] 108)) := (Below.refl _ _).alloc (Nat.le_refl _) _
  generalize (w.alloc (.cells #[.int .i64 x.num, .int .i64 x.sent, .int .i64 x.due, .int .i64 x.ans, .int .i64 x.answered] 108)) = w0 at *
  refine (open_any x day _).mono ?_
  rintro e w1 ⟨rfl, hb1⟩
  have hB1 := hB.trans (hb1.mono hB.size)
  have b1 := b0.below' hb1
  have hc1 : w1.cell? ⟨g, 0, none⟩ = some (.int .i64 day) := (World.cell?_of_block (w := w) (hB1.block g hg)).trans hc
  have d0 : w1.cell? ⟨w.heap.size, 0, none⟩ = some (.int .i64 x.num) := b1.cell 0
  have d1 : w1.cell? ⟨w.heap.size, 1, none⟩ = some (.int .i64 x.sent) := b1.cell 1
  have d2 : w1.cell? ⟨w.heap.size, 2, none⟩ = some (.int .i64 x.due) := b1.cell 2
  have d3 : w1.cell? ⟨w.heap.size, 3, none⟩ = some (.int .i64 x.ans) := b1.cell 3
  have d4 : w1.cell? ⟨w.heap.size, 4, none⟩ = some (.int .i64 x.answered) := b1.cell 4
  cases e1 : openP day x
  all_goals go_wp2_with (go_at_call 120; refine (reminds_any x day _ hx hd).mono ?_; rintro e w2 ⟨rfl, hb2⟩)
  all_goals go_ret
  all_goals first | exact ⟨ret_bool (by simp_all [openP]), hB1⟩ | exact ⟨ret_bool (by simp_all [openP]), hB1.trans (hb2.mono hB1.size)⟩

set_option maxRecDepth 100000 in
set_option maxHeartbeats 2000000 in
theorem withOpenOn_any (v : Value) (cs : List S5) (day : Int) (g : Nat) (w : World) (lo : Nat) (h : SlS5 w lo w.heap.size v cs) (hgc : w.cell? ⟨g, 0, none⟩ = some (.int .i64 day)) (hg : g < w.heap.size) :
    Calls Try.prog 117 #[v, .int .i64 day, .func (.func 126) #[] #[.pointer (some ⟨g, 0, none⟩)]] w fun e w' => ∃ v', e = .returned (.tuple #[v', .int .i64 (pickF openP cs day).2]) ∧ OwnR i64s 1 w' w.heap.size 2 v' (pickF openP cs day).1 ∧ Below w.heap.size w w' := by
  obtain ⟨A, c, rfl, hc1, hc2⟩ := h.form
  go_enter Try.func117, Try.ntmps117
  go_wp2_with fail
  refine (implAreSummonses_any _ cs w lo h).mono ?_
  rintro e w1 ⟨rfl, hb1⟩
  cases h1 : listOkS5 cs
  · have hF : pickF openP cs day = ([], 1) := by simp [pickF, sumCode, h1]
    go_wp2_with fail
    go_ret2
    exact ⟨.slice none 0 0, by rw [hF]; rfl, by rw [hF]; exact own_nil _ _ _ _ _, hb1⟩
  go_wp2_with fail
  refine (isDay_any day _).mono ?_
  rintro e w2 ⟨rfl, rfl⟩
  cases hd : inB day 0 20000
  · have hF : pickF openP cs day = ([], 2) := by simp [pickF, sumCode, h1, hd]
    go_wp2_with fail
    go_ret2
    exact ⟨.slice none 0 0, by rw [hF]; rfl, by rw [hF]; exact own_nil _ _ _ _ _, hb1⟩
  obtain ⟨hall, hlen⟩ := listOkS5_all h1
  have hF : pickF openP cs day = (pick (openP day) cs, 0) := by simp [pickF, sumCode, h1, hd]
  have hdd := inB_iff.1 hd
  have Hall := Lib.hid hall
  clear hall
  have z1 := hb1.size
  have h' : SlS5 w1 lo w1.heap.size (.slice A cs.length c) cs := (h.below hb1 (Nat.le_refl _)).more (Nat.le_refl _) hb1.size
  have hgc1 : w1.cell? ⟨g, 0, none⟩ = some (.int .i64 day) := (World.cell?_of_block (w := w) (hb1.block g hg)).trans hgc
  go_wp2_with fail
  obtain ⟨wo, rfl⟩ : ∃ wo : World, wo = w1 := ⟨_, rfl⟩
  go_loopw [8, 20] (fun q i wr => ∃ (k : Nat), i = .int .i64 k ∧ k ≤ cs.length ∧ OwnR i64s 1 wr wo.heap.size 2 q (pick (openP day) (cs.take k)) ∧ Below wo.heap.size wo wr) (fun q i wr => cs.length - (intOf i).toNat)
  case atStart => exact ⟨0, rfl, Nat.zero_le _, own_empty _ _ 1 i64s, (Below.refl _ _).alloc (Nat.le_refl _) _⟩
  case round =>
    obtain ⟨k, rfl, hk, hown, hbr⟩ := hrel
    have hsr := hbr.size
    by_cases hlt : k < cs.length
    · obtain ⟨x, hx⟩ := some_at hlt
      have hxo := Hall.out x (List.mem_of_getElem? hx)
      have hl := pick_len (openP day) (cs.take k)
      rw [List.length_take] at hl
      obtain ⟨b, off, rfl, _, hb, c0, c1, c2, c3, c4⟩ := ((h'.below hbr (Nat.le_refl _)).more (Nat.le_refl _) hbr.size).S5_at hx
      have Hx := Lib.hid hx
      clear hx
      go_wp2_with fail
      have b0 := Blk.new wr 108 #[.int .i64 x.num, .int .i64 x.sent, .int .i64 x.due, .int .i64 x.ans, .int .i64 x.answered]
      have hB : Below wo.heap.size wo (wr.alloc (.cells #[.int .i64 x.num, .int .i64 x.sent, .int .i64 x.due, .int .i64 x.ans, .int .i64 x.answered] 108)) := hbr.alloc hbr.size _
      have hown1 := hown.alloc (.cells #[.int .i64 x.num, .int .i64 x.sent, .int .i64 x.due, .int .i64 x.ans, .int .i64 x.answered] 108)
      generalize (wr.alloc (.cells #[.int .i64 x.num, .int .i64 x.sent, .int .i64 x.due, .int .i64 x.ans, .int .i64 x.answered] 108)) = w3 at *
      have hgc3 : w3.cell? ⟨g, 0, none⟩ = some (.int .i64 day) := (World.cell?_of_block (w := wo) (hB.block g (by omega))).trans hgc1
      refine (accOpenOn_any x day g _ hgc3 (by have := hB.size; omega) hxo (by omega)).mono ?_
      rintro e w4 ⟨rfl, hb4⟩
      have hB4 := hB.trans (hb4.mono hB.size)
      have hown4 := hown1.below hb4
      have d0 : w4.cell? ⟨wr.heap.size, 0, none⟩ = some (.int .i64 x.num) := (b0.below' hb4).cell 0
      cases hp : openP day x
      · go_wp2_with fail
        go_roundw
        case rel => exact ⟨k + 1, by go_num, hlt, by rw [pick_no Hx.out hp]; exact hown4, hB4⟩
        case measure => simp [intOf]; omega
      · have hsz := hB4.size
        go_wp2_with (at_builtin; refine wpList_append_rec (f := i64s) (s := 1) 2 _ _ (fun _ => rfl) i64s_one rfl _ _ 24 rfl wo.heap.size Try.infoI Try.underlying24 rfl (by decide) _ _ x.num rfl hown4 rfl rfl rfl (by omega) (by omega) hsz ?_)
        intro v' w' hown' hbel
        go_wp2_with fail
        go_roundw
        case rel => exact ⟨k + 1, by go_num, hlt, by rw [pick_yes Hx.out hp]; exact hown', hbel _ _ hB4 (Nat.le_refl _)⟩
        case measure => simp [intOf]; omega
    · have hkn : k = cs.length := by omega
      subst hkn
      rw [List.take_length] at hown
      go_wp2_with fail
      go_ret2
      exact ⟨_, by rw [hF]; rfl, by rw [hF]; exact hown.more hb1.size, hb1.trans (hbr.mono hb1.size)⟩

set_option maxHeartbeats 1000000 in
theorem implOpenOn_any (v : Value) (cs : List S5) (day : Int) (w : World) (lo : Nat) (h : SlS5 w lo w.heap.size v cs) :
    Calls Try.prog 44 #[v, .int .i64 day] w fun e w' => ∃ v', e = .returned (.tuple #[v', .int .i64 (pickF openP cs day).2]) ∧ OwnR i64s 1 w' w.heap.size 2 v' (pickF openP cs day).1 ∧ Below w.heap.size w w' := by
  have hmf : ∀ (fn : Fn) (first cap : Array Value) (w : World), (Instr.makeFunc fn first cap).run Try.prog w = .ok (.func fn first cap) w := fun _ _ _ _ => rfl
  go_enter Try.func44, Try.ntmps44
  go_wp2_with fail
  have hB : Below w.heap.size w (w.alloc (.cells #[.int .i64 day] 2)) := (Below.refl _ _).alloc (Nat.le_refl _) _
  refine (withOpenOn_any v cs day w.heap.size _ lo ((h.below hB (Nat.le_refl _)).more (Nat.le_refl _) hB.size) ((Blk.new w _ _).cell 0) (by simp)).mono ?_
  rintro e w2 ⟨v', rfl, hown, hb2⟩
  go_wp2_with fail
  go_ret2
  exact ⟨v', rfl, hown.more hB.size, hB.trans (hb2.mono hB.size)⟩

set_option maxRecDepth 100000 in
set_option maxHeartbeats 2000000 in
theorem specOverdueOn_any (v : Value) (cs : List S5) (day : Int) (w : World) (lo : Nat) (h : SlS5 w lo w.heap.size v cs) :
    Calls Try.prog 54 #[v, .int .i64 day] w fun e w' => ∃ v', e = .returned (.tuple #[v', .int .i64 (pickF overP cs day).2]) ∧ OwnR i64s 1 w' w.heap.size 2 v' (pickF overP cs day).1 ∧ Below w.heap.size w w' := by
  obtain ⟨A, c, rfl, hc1, hc2⟩ := h.form
  go_enter Try.func54, Try.ntmps54
  go_wp2_with fail
  refine (l09Day_any _ cs day w lo h).mono ?_
  rintro e w1 ⟨rfl, hb1⟩
  by_cases hc : sumCode cs day = 0
  · obtain ⟨h1, hd⟩ := sumCode_zero hc
    obtain ⟨hall, hlen⟩ := listOkS5_all h1
    have hF : pickF overP cs day = (pick (overP day) cs, 0) := by simp [pickF, hc]
    have hdd := inB_iff.1 hd
    have Hall := Lib.hid hall
    clear hall
    rw [hc]
    have z1 := hb1.size
    have h' : SlS5 w1 lo w1.heap.size (.slice A cs.length c) cs := (h.below hb1 (Nat.le_refl _)).more (Nat.le_refl _) hb1.size
    go_wp2_with fail
    obtain ⟨wo, rfl⟩ : ∃ wo : World, wo = w1 := ⟨_, rfl⟩
    go_loopw [7, 8] (fun q i wr => ∃ (k : Nat), i = .int .i64 k ∧ k ≤ cs.length ∧ OwnR i64s 1 wr wo.heap.size 2 q (pick (overP day) (cs.take k)) ∧ Below wo.heap.size wo wr) (fun q i wr => cs.length - (intOf i).toNat)
    case atStart => exact ⟨0, rfl, Nat.zero_le _, own_empty _ _ 1 i64s, (Below.refl _ _).alloc (Nat.le_refl _) _⟩
    case round =>
      obtain ⟨k, rfl, hk, hown, hbr⟩ := hrel
      by_cases hlt : k < cs.length
      · obtain ⟨x, hx⟩ := some_at hlt
        have hxo := Hall.out x (List.mem_of_getElem? hx)
        have hxb := S5.bounds hxo
        have hl := pick_len (overP day) (cs.take k)
        rw [List.length_take] at hl
        obtain ⟨b, off, rfl, _, hb, c0, c1, c2, c3, c4⟩ := ((h'.below hbr (Nat.le_refl _)).more (Nat.le_refl _) hbr.size).S5_at hx
        have Hx := Lib.hid hx
        clear hx
        go_wp2_with fail
        refine (l09Open_any x day _).mono ?_
        rintro e w2 ⟨rfl, hb2⟩
        have hB2 := hbr.trans (hb2.mono hbr.size)
        have hown2 := hown.below hb2
        obtain ⟨b2, off2, ee, _, hb2', d0, d1, d2, d3, d4⟩ := ((h'.below hB2 (Nat.le_refl _)).more (Nat.le_refl _) hB2.size).S5_at Hx.out
        injection ee with ee
        injection ee with ee1 ee2
        subst ee1 ee2
        cases e1 : openP day x
        · have hp : overP day x = false := by simp [overP, e1]
          go_wp2_with fail
          go_roundw
          case rel => exact ⟨k + 1, by go_num, hlt, by rw [pick_no Hx.out hp]; exact hown2, hB2⟩
          case measure => simp [intOf]; omega
        · cases e2 : decide (x.due < day)
          · have e2' := of_decide_eq_false e2
            have hp : overP day x = false := by simp only [overP, e1, e2]; rfl
            go_wp2_with fail
            go_roundw
            case rel => exact ⟨k + 1, by go_num, hlt, by rw [pick_no Hx.out hp]; exact hown2, hB2⟩
            case measure => simp [intOf]; omega
          · have e2' := of_decide_eq_true e2
            have hp : overP day x = true := by simp only [overP, e1, e2]; rfl
            have hsz := hB2.size
            go_wp2_with (at_builtin; refine wpList_append_rec (f := i64s) (s := 1) 2 _ _ (fun _ => rfl) i64s_one rfl _ _ 24 rfl wo.heap.size Try.infoI Try.underlying24 rfl (by decide) _ _ x.num rfl hown2 rfl rfl rfl (by omega) (by omega) hsz ?_)
            intro v' w' hown' hbel
            go_wp2_with fail
            go_roundw
            case rel => exact ⟨k + 1, by go_num, hlt, by rw [pick_yes Hx.out hp]; exact hown', hbel _ _ hB2 (Nat.le_refl _)⟩
            case measure => simp [intOf]; omega
      · have hkn : k = cs.length := by omega
        subst hkn
        rw [List.take_length] at hown
        go_wp2_with fail
        go_ret2
        exact ⟨_, by rw [hF]; rfl, by rw [hF]; exact hown.more hb1.size, hb1.trans (hbr.mono hb1.size)⟩
  · have hF : pickF overP cs day = ([], sumCode cs day) := by simp [pickF, hc]
    have hne : (sumCode cs day != 0) = true := by simp [hc]
    go_wp2_with fail
    go_ret2
    exact ⟨.slice none 0 0, by rw [hF]; rfl, by rw [hF]; exact own_nil _ _ _ _ _, hb1⟩

set_option maxHeartbeats 1000000 in
theorem accOverdueOn_any (x : S5) (day : Int) (g : Nat) (w : World) (hc : w.cell? ⟨g, 0, none⟩ = some (.int .i64 day)) (hg : g < w.heap.size) (hx : x.ok = true) (hd : 0 ≤ day ∧ day ≤ 20001) :
    Calls Try.prog 136 #[.agg #[.int .i64 x.num, .int .i64 x.sent, .int .i64 x.due, .int .i64 x.ans, .int .i64 x.answered], .pointer (some ⟨g, 0, none⟩)] w fun e w' => e = .returned (.bool (overP day x)) ∧ Below w.heap.size w w' := by
  go_enter Try.func136, Try.ntmps136
  go_wp2_with fail
  have b0 := Blk.new w 108 #[.int .i64 x.num, .int .i64 x.sent, .int .i64 x.due, .int .i64 x.ans, .int .i64 x.answered]
  have hB : Below w.heap.size w (w.alloc (.cells #[.int .i64 x.num, .int .i64 x.sent, .int .i64 x.due, .int .i64 x.ans, .int .i64 x.answered] 108)) := (Below.refl _ _).alloc (Nat.le_refl _) _
  generalize (w.alloc (.cells #[.int .i64 x.num, .int .i64 x.sent, .int .i64 x.due, .int .i64 x.ans, .int .i64 x.answered] 108)) = w0 at *
  refine (open_any x day _).mono ?_
  rintro e w1 ⟨rfl, hb1⟩
  have hB1 := hB.trans (hb1.mono hB.size)
  have b1 := b0.below' hb1
  have hc1 : w1.cell? ⟨g, 0, none⟩ = some (.int .i64 day) := (World.cell?_of_block (w := w) (hB1.block g hg)).trans hc
  have d0 : w1.cell? ⟨w.heap.size, 0, none⟩ = some (.int .i64 x.num) := b1.cell 0
  have d1 : w1.cell? ⟨w.heap.size, 1, none⟩ = some (.int .i64 x.sent) := b1.cell 1
  have d2 : w1.cell? ⟨w.heap.size, 2, none⟩ = some (.int .i64 x.due) := b1.cell 2
  have d3 : w1.cell? ⟨w.heap.size, 3, none⟩ = some (.int .i64 x.ans) := b1.cell 3
  have d4 : w1.cell? ⟨w.heap.size, 4, none⟩ = some (.int .i64 x.answered) := b1.cell 4
  cases e1 : openP day x
  all_goals go_wp2_with (go_at_call 120; refine (reminds_any x day _ hx hd).mono ?_; rintro e w2 ⟨rfl, hb2⟩)
  all_goals go_ret
  all_goals first | exact ⟨ret_bool (by simp_all [overP]), hB1⟩ | exact ⟨ret_bool (by simp_all [overP]), hB1.trans (hb2.mono hB1.size)⟩

set_option maxRecDepth 100000 in
set_option maxHeartbeats 2000000 in
theorem withOverdueOn_any (v : Value) (cs : List S5) (day : Int) (g : Nat) (w : World) (lo : Nat) (h : SlS5 w lo w.heap.size v cs) (hgc : w.cell? ⟨g, 0, none⟩ = some (.int .i64 day)) (hg : g < w.heap.size) :
    Calls Try.prog 117 #[v, .int .i64 day, .func (.func 136) #[] #[.pointer (some ⟨g, 0, none⟩)]] w fun e w' => ∃ v', e = .returned (.tuple #[v', .int .i64 (pickF overP cs day).2]) ∧ OwnR i64s 1 w' w.heap.size 2 v' (pickF overP cs day).1 ∧ Below w.heap.size w w' := by
  obtain ⟨A, c, rfl, hc1, hc2⟩ := h.form
  go_enter Try.func117, Try.ntmps117
  go_wp2_with fail
  refine (implAreSummonses_any _ cs w lo h).mono ?_
  rintro e w1 ⟨rfl, hb1⟩
  cases h1 : listOkS5 cs
  · have hF : pickF overP cs day = ([], 1) := by simp [pickF, sumCode, h1]
    go_wp2_with fail
    go_ret2
    exact ⟨.slice none 0 0, by rw [hF]; rfl, by rw [hF]; exact own_nil _ _ _ _ _, hb1⟩
  go_wp2_with fail
  refine (isDay_any day _).mono ?_
  rintro e w2 ⟨rfl, rfl⟩
  cases hd : inB day 0 20000
  · have hF : pickF overP cs day = ([], 2) := by simp [pickF, sumCode, h1, hd]
    go_wp2_with fail
    go_ret2
    exact ⟨.slice none 0 0, by rw [hF]; rfl, by rw [hF]; exact own_nil _ _ _ _ _, hb1⟩
  obtain ⟨hall, hlen⟩ := listOkS5_all h1
  have hF : pickF overP cs day = (pick (overP day) cs, 0) := by simp [pickF, sumCode, h1, hd]
  have hdd := inB_iff.1 hd
  have Hall := Lib.hid hall
  clear hall
  have z1 := hb1.size
  have h' : SlS5 w1 lo w1.heap.size (.slice A cs.length c) cs := (h.below hb1 (Nat.le_refl _)).more (Nat.le_refl _) hb1.size
  have hgc1 : w1.cell? ⟨g, 0, none⟩ = some (.int .i64 day) := (World.cell?_of_block (w := w) (hb1.block g hg)).trans hgc
  go_wp2_with fail
  obtain ⟨wo, rfl⟩ : ∃ wo : World, wo = w1 := ⟨_, rfl⟩
  go_loopw [8, 20] (fun q i wr => ∃ (k : Nat), i = .int .i64 k ∧ k ≤ cs.length ∧ OwnR i64s 1 wr wo.heap.size 2 q (pick (overP day) (cs.take k)) ∧ Below wo.heap.size wo wr) (fun q i wr => cs.length - (intOf i).toNat)
  case atStart => exact ⟨0, rfl, Nat.zero_le _, own_empty _ _ 1 i64s, (Below.refl _ _).alloc (Nat.le_refl _) _⟩
  case round =>
    obtain ⟨k, rfl, hk, hown, hbr⟩ := hrel
    have hsr := hbr.size
    by_cases hlt : k < cs.length
    · obtain ⟨x, hx⟩ := some_at hlt
      have hxo := Hall.out x (List.mem_of_getElem? hx)
      have hl := pick_len (overP day) (cs.take k)
      rw [List.length_take] at hl
      obtain ⟨b, off, rfl, _, hb, c0, c1, c2, c3, c4⟩ := ((h'.below hbr (Nat.le_refl _)).more (Nat.le_refl _) hbr.size).S5_at hx
      have Hx := Lib.hid hx
      clear hx
      go_wp2_with fail
      have b0 := Blk.new wr 108 #[.int .i64 x.num, .int .i64 x.sent, .int .i64 x.due, .int .i64 x.ans, .int .i64 x.answered]
      have hB : Below wo.heap.size wo (wr.alloc (.cells #[.int .i64 x.num, .int .i64 x.sent, .int .i64 x.due, .int .i64 x.ans, .int .i64 x.answered] 108)) := hbr.alloc hbr.size _
      have hown1 := hown.alloc (.cells #[.int .i64 x.num, .int .i64 x.sent, .int .i64 x.due, .int .i64 x.ans, .int .i64 x.answered] 108)
      generalize (wr.alloc (.cells #[.int .i64 x.num, .int .i64 x.sent, .int .i64 x.due, .int .i64 x.ans, .int .i64 x.answered] 108)) = w3 at *
      have hgc3 : w3.cell? ⟨g, 0, none⟩ = some (.int .i64 day) := (World.cell?_of_block (w := wo) (hB.block g (by omega))).trans hgc1
      refine (accOverdueOn_any x day g _ hgc3 (by have := hB.size; omega) hxo (by omega)).mono ?_
      rintro e w4 ⟨rfl, hb4⟩
      have hB4 := hB.trans (hb4.mono hB.size)
      have hown4 := hown1.below hb4
      have d0 : w4.cell? ⟨wr.heap.size, 0, none⟩ = some (.int .i64 x.num) := (b0.below' hb4).cell 0
      cases hp : overP day x
      · go_wp2_with fail
        go_roundw
        case rel => exact ⟨k + 1, by go_num, hlt, by rw [pick_no Hx.out hp]; exact hown4, hB4⟩
        case measure => simp [intOf]; omega
      · have hsz := hB4.size
        go_wp2_with (at_builtin; refine wpList_append_rec (f := i64s) (s := 1) 2 _ _ (fun _ => rfl) i64s_one rfl _ _ 24 rfl wo.heap.size Try.infoI Try.underlying24 rfl (by decide) _ _ x.num rfl hown4 rfl rfl rfl (by omega) (by omega) hsz ?_)
        intro v' w' hown' hbel
        go_wp2_with fail
        go_roundw
        case rel => exact ⟨k + 1, by go_num, hlt, by rw [pick_yes Hx.out hp]; exact hown', hbel _ _ hB4 (Nat.le_refl _)⟩
        case measure => simp [intOf]; omega
    · have hkn : k = cs.length := by omega
      subst hkn
      rw [List.take_length] at hown
      go_wp2_with fail
      go_ret2
      exact ⟨_, by rw [hF]; rfl, by rw [hF]; exact hown.more hb1.size, hb1.trans (hbr.mono hb1.size)⟩

set_option maxHeartbeats 1000000 in
theorem implOverdueOn_any (v : Value) (cs : List S5) (day : Int) (w : World) (lo : Nat) (h : SlS5 w lo w.heap.size v cs) :
    Calls Try.prog 53 #[v, .int .i64 day] w fun e w' => ∃ v', e = .returned (.tuple #[v', .int .i64 (pickF overP cs day).2]) ∧ OwnR i64s 1 w' w.heap.size 2 v' (pickF overP cs day).1 ∧ Below w.heap.size w w' := by
  have hmf : ∀ (fn : Fn) (first cap : Array Value) (w : World), (Instr.makeFunc fn first cap).run Try.prog w = .ok (.func fn first cap) w := fun _ _ _ _ => rfl
  go_enter Try.func53, Try.ntmps53
  go_wp2_with fail
  have hB : Below w.heap.size w (w.alloc (.cells #[.int .i64 day] 2)) := (Below.refl _ _).alloc (Nat.le_refl _) _
  refine (withOverdueOn_any v cs day w.heap.size _ lo ((h.below hB (Nat.le_refl _)).more (Nat.le_refl _) hB.size) ((Blk.new w _ _).cell 0) (by simp)).mono ?_
  rintro e w2 ⟨v', rfl, hown, hb2⟩
  go_wp2_with fail
  go_ret2
  exact ⟨v', rfl, hown.more hB.size, hB.trans (hb2.mono hB.size)⟩

set_option maxRecDepth 100000 in
set_option maxHeartbeats 2000000 in
theorem specRemindersOn_any (v : Value) (cs : List S5) (day : Int) (w : World) (lo : Nat) (h : SlS5 w lo w.heap.size v cs) :
    Calls Try.prog 38 #[v, .int .i64 day] w fun e w' => ∃ v', e = .returned (.tuple #[v', .int .i64 (pickF remindP cs day).2]) ∧ OwnR i64s 1 w' w.heap.size 2 v' (pickF remindP cs day).1 ∧ Below w.heap.size w w' := by
  obtain ⟨A, c, rfl, hc1, hc2⟩ := h.form
  go_enter Try.func38, Try.ntmps38
  go_wp2_with fail
  refine (l09Day_any _ cs day w lo h).mono ?_
  rintro e w1 ⟨rfl, hb1⟩
  by_cases hc : sumCode cs day = 0
  · obtain ⟨h1, hd⟩ := sumCode_zero hc
    obtain ⟨hall, hlen⟩ := listOkS5_all h1
    have hF : pickF remindP cs day = (pick (remindP day) cs, 0) := by simp [pickF, hc]
    have hdd := inB_iff.1 hd
    have Hall := Lib.hid hall
    clear hall
    rw [hc]
    have z1 := hb1.size
    have h' : SlS5 w1 lo w1.heap.size (.slice A cs.length c) cs := (h.below hb1 (Nat.le_refl _)).more (Nat.le_refl _) hb1.size
    go_wp2_with fail
    obtain ⟨wo, rfl⟩ : ∃ wo : World, wo = w1 := ⟨_, rfl⟩
    go_loopw [7, 8] (fun q i wr => ∃ (k : Nat), i = .int .i64 k ∧ k ≤ cs.length ∧ OwnR i64s 1 wr wo.heap.size 2 q (pick (remindP day) (cs.take k)) ∧ Below wo.heap.size wo wr) (fun q i wr => cs.length - (intOf i).toNat)
    case atStart => exact ⟨0, rfl, Nat.zero_le _, own_empty _ _ 1 i64s, (Below.refl _ _).alloc (Nat.le_refl _) _⟩
    case round =>
      obtain ⟨k, rfl, hk, hown, hbr⟩ := hrel
      by_cases hlt : k < cs.length
      · obtain ⟨x, hx⟩ := some_at hlt
        have hxo := Hall.out x (List.mem_of_getElem? hx)
        have hxb := S5.bounds hxo
        have hl := pick_len (remindP day) (cs.take k)
        rw [List.length_take] at hl
        obtain ⟨b, off, rfl, _, hb, c0, c1, c2, c3, c4⟩ := ((h'.below hbr (Nat.le_refl _)).more (Nat.le_refl _) hbr.size).S5_at hx
        have Hx := Lib.hid hx
        clear hx
        go_wp2_with fail
        refine (l09Open_any x day _).mono ?_
        rintro e w2 ⟨rfl, hb2⟩
        have hB2 := hbr.trans (hb2.mono hbr.size)
        have hown2 := hown.below hb2
        obtain ⟨b2, off2, ee, _, hb2', d0, d1, d2, d3, d4⟩ := ((h'.below hB2 (Nat.le_refl _)).more (Nat.le_refl _) hB2.size).S5_at Hx.out
        injection ee with ee
        injection ee with ee1 ee2
        subst ee1 ee2
        cases e1 : openP day x
        · have hp : remindP day x = false := by simp [remindP, e1]
          go_wp2_with fail
          go_roundw
          case rel => exact ⟨k + 1, by go_num, hlt, by rw [pick_no Hx.out hp]; exact hown2, hB2⟩
          case measure => simp [intOf]; omega
        · go_wp2_with fail
          refine (l09Reminder_any x day _ hxo (by omega)).mono ?_
          rintro e w3 ⟨rfl, hb3⟩
          have hB3 := hB2.trans (hb3.mono hB2.size)
          have hown3 := hown2.below hb3
          obtain ⟨b2, off2, ee, _, hb3', f0, f1, f2, f3, f4⟩ := ((h'.below hB3 (Nat.le_refl _)).more (Nat.le_refl _) hB3.size).S5_at Hx.out
          injection ee with ee
          injection ee with ee1 ee2
          subst ee1 ee2
          cases e2 : lateP day x
          · have hp : remindP day x = false := by simp only [remindP, e1, e2]; rfl
            go_wp2_with fail
            go_roundw
            case rel => exact ⟨k + 1, by go_num, hlt, by rw [pick_no Hx.out hp]; exact hown3, hB3⟩
            case measure => simp [intOf]; omega
          · have hp : remindP day x = true := by simp only [remindP, e1, e2]; rfl
            have hsz := hB3.size
            go_wp2_with (at_builtin; refine wpList_append_rec (f := i64s) (s := 1) 2 _ _ (fun _ => rfl) i64s_one rfl _ _ 24 rfl wo.heap.size Try.infoI Try.underlying24 rfl (by decide) _ _ x.num rfl hown3 rfl rfl rfl (by omega) (by omega) hsz ?_)
            intro v' w' hown' hbel
            go_wp2_with fail
            go_roundw
            case rel => exact ⟨k + 1, by go_num, hlt, by rw [pick_yes Hx.out hp]; exact hown', hbel _ _ hB3 (Nat.le_refl _)⟩
            case measure => simp [intOf]; omega
      · have hkn : k = cs.length := by omega
        subst hkn
        rw [List.take_length] at hown
        go_wp2_with fail
        go_ret2
        exact ⟨_, by rw [hF]; rfl, by rw [hF]; exact hown.more hb1.size, hb1.trans (hbr.mono hb1.size)⟩
  · have hF : pickF remindP cs day = ([], sumCode cs day) := by simp [pickF, hc]
    have hne : (sumCode cs day != 0) = true := by simp [hc]
    go_wp2_with fail
    go_ret2
    exact ⟨.slice none 0 0, by rw [hF]; rfl, by rw [hF]; exact own_nil _ _ _ _ _, hb1⟩

set_option maxHeartbeats 1000000 in
theorem accRemindersOn_any (x : S5) (day : Int) (g : Nat) (w : World) (hc : w.cell? ⟨g, 0, none⟩ = some (.int .i64 day)) (hg : g < w.heap.size) (hx : x.ok = true) (hd : 0 ≤ day ∧ day ≤ 20001) :
    Calls Try.prog 118 #[.agg #[.int .i64 x.num, .int .i64 x.sent, .int .i64 x.due, .int .i64 x.ans, .int .i64 x.answered], .pointer (some ⟨g, 0, none⟩)] w fun e w' => e = .returned (.bool (remindP day x)) ∧ Below w.heap.size w w' := by
  go_enter Try.func118, Try.ntmps118
  go_wp2_with fail
  have b0 := Blk.new w 108 #[.int .i64 x.num, .int .i64 x.sent, .int .i64 x.due, .int .i64 x.ans, .int .i64 x.answered]
  have hB : Below w.heap.size w (w.alloc (.cells #[.int .i64 x.num, .int .i64 x.sent, .int .i64 x.due, .int .i64 x.ans, .int .i64 x.answered] 108)) := (Below.refl _ _).alloc (Nat.le_refl _) _
  generalize (w.alloc (.cells #[.int .i64 x.num, .int .i64 x.sent, .int .i64 x.due, .int .i64 x.ans, .int .i64 x.answered] 108)) = w0 at *
  refine (open_any x day _).mono ?_
  rintro e w1 ⟨rfl, hb1⟩
  have hB1 := hB.trans (hb1.mono hB.size)
  have b1 := b0.below' hb1
  have hc1 : w1.cell? ⟨g, 0, none⟩ = some (.int .i64 day) := (World.cell?_of_block (w := w) (hB1.block g hg)).trans hc
  have d0 : w1.cell? ⟨w.heap.size, 0, none⟩ = some (.int .i64 x.num) := b1.cell 0
  have d1 : w1.cell? ⟨w.heap.size, 1, none⟩ = some (.int .i64 x.sent) := b1.cell 1
  have d2 : w1.cell? ⟨w.heap.size, 2, none⟩ = some (.int .i64 x.due) := b1.cell 2
  have d3 : w1.cell? ⟨w.heap.size, 3, none⟩ = some (.int .i64 x.ans) := b1.cell 3
  have d4 : w1.cell? ⟨w.heap.size, 4, none⟩ = some (.int .i64 x.answered) := b1.cell 4
  cases e1 : openP day x
  all_goals go_wp2_with (go_at_call 120; refine (reminds_any x day _ hx hd).mono ?_; rintro e w2 ⟨rfl, hb2⟩)
  all_goals go_ret
  all_goals first | exact ⟨ret_bool (by simp_all [remindP]), hB1⟩ | exact ⟨ret_bool (by simp_all [remindP]), hB1.trans (hb2.mono hB1.size)⟩

set_option maxRecDepth 100000 in
set_option maxHeartbeats 2000000 in
theorem withRemindersOn_any (v : Value) (cs : List S5) (day : Int) (g : Nat) (w : World) (lo : Nat) (h : SlS5 w lo w.heap.size v cs) (hgc : w.cell? ⟨g, 0, none⟩ = some (.int .i64 day)) (hg : g < w.heap.size) :
    Calls Try.prog 117 #[v, .int .i64 day, .func (.func 118) #[] #[.pointer (some ⟨g, 0, none⟩)]] w fun e w' => ∃ v', e = .returned (.tuple #[v', .int .i64 (pickF remindP cs day).2]) ∧ OwnR i64s 1 w' w.heap.size 2 v' (pickF remindP cs day).1 ∧ Below w.heap.size w w' := by
  obtain ⟨A, c, rfl, hc1, hc2⟩ := h.form
  go_enter Try.func117, Try.ntmps117
  go_wp2_with fail
  refine (implAreSummonses_any _ cs w lo h).mono ?_
  rintro e w1 ⟨rfl, hb1⟩
  cases h1 : listOkS5 cs
  · have hF : pickF remindP cs day = ([], 1) := by simp [pickF, sumCode, h1]
    go_wp2_with fail
    go_ret2
    exact ⟨.slice none 0 0, by rw [hF]; rfl, by rw [hF]; exact own_nil _ _ _ _ _, hb1⟩
  go_wp2_with fail
  refine (isDay_any day _).mono ?_
  rintro e w2 ⟨rfl, rfl⟩
  cases hd : inB day 0 20000
  · have hF : pickF remindP cs day = ([], 2) := by simp [pickF, sumCode, h1, hd]
    go_wp2_with fail
    go_ret2
    exact ⟨.slice none 0 0, by rw [hF]; rfl, by rw [hF]; exact own_nil _ _ _ _ _, hb1⟩
  obtain ⟨hall, hlen⟩ := listOkS5_all h1
  have hF : pickF remindP cs day = (pick (remindP day) cs, 0) := by simp [pickF, sumCode, h1, hd]
  have hdd := inB_iff.1 hd
  have Hall := Lib.hid hall
  clear hall
  have z1 := hb1.size
  have h' : SlS5 w1 lo w1.heap.size (.slice A cs.length c) cs := (h.below hb1 (Nat.le_refl _)).more (Nat.le_refl _) hb1.size
  have hgc1 : w1.cell? ⟨g, 0, none⟩ = some (.int .i64 day) := (World.cell?_of_block (w := w) (hb1.block g hg)).trans hgc
  go_wp2_with fail
  obtain ⟨wo, rfl⟩ : ∃ wo : World, wo = w1 := ⟨_, rfl⟩
  go_loopw [8, 20] (fun q i wr => ∃ (k : Nat), i = .int .i64 k ∧ k ≤ cs.length ∧ OwnR i64s 1 wr wo.heap.size 2 q (pick (remindP day) (cs.take k)) ∧ Below wo.heap.size wo wr) (fun q i wr => cs.length - (intOf i).toNat)
  case atStart => exact ⟨0, rfl, Nat.zero_le _, own_empty _ _ 1 i64s, (Below.refl _ _).alloc (Nat.le_refl _) _⟩
  case round =>
    obtain ⟨k, rfl, hk, hown, hbr⟩ := hrel
    have hsr := hbr.size
    by_cases hlt : k < cs.length
    · obtain ⟨x, hx⟩ := some_at hlt
      have hxo := Hall.out x (List.mem_of_getElem? hx)
      have hl := pick_len (remindP day) (cs.take k)
      rw [List.length_take] at hl
      obtain ⟨b, off, rfl, _, hb, c0, c1, c2, c3, c4⟩ := ((h'.below hbr (Nat.le_refl _)).more (Nat.le_refl _) hbr.size).S5_at hx
      have Hx := Lib.hid hx
      clear hx
      go_wp2_with fail
      have b0 := Blk.new wr 108 #[.int .i64 x.num, .int .i64 x.sent, .int .i64 x.due, .int .i64 x.ans, .int .i64 x.answered]
      have hB : Below wo.heap.size wo (wr.alloc (.cells #[.int .i64 x.num, .int .i64 x.sent, .int .i64 x.due, .int .i64 x.ans, .int .i64 x.answered] 108)) := hbr.alloc hbr.size _
      have hown1 := hown.alloc (.cells #[.int .i64 x.num, .int .i64 x.sent, .int .i64 x.due, .int .i64 x.ans, .int .i64 x.answered] 108)
      generalize (wr.alloc (.cells #[.int .i64 x.num, .int .i64 x.sent, .int .i64 x.due, .int .i64 x.ans, .int .i64 x.answered] 108)) = w3 at *
      have hgc3 : w3.cell? ⟨g, 0, none⟩ = some (.int .i64 day) := (World.cell?_of_block (w := wo) (hB.block g (by omega))).trans hgc1
      refine (accRemindersOn_any x day g _ hgc3 (by have := hB.size; omega) hxo (by omega)).mono ?_
      rintro e w4 ⟨rfl, hb4⟩
      have hB4 := hB.trans (hb4.mono hB.size)
      have hown4 := hown1.below hb4
      have d0 : w4.cell? ⟨wr.heap.size, 0, none⟩ = some (.int .i64 x.num) := (b0.below' hb4).cell 0
      cases hp : remindP day x
      · go_wp2_with fail
        go_roundw
        case rel => exact ⟨k + 1, by go_num, hlt, by rw [pick_no Hx.out hp]; exact hown4, hB4⟩
        case measure => simp [intOf]; omega
      · have hsz := hB4.size
        go_wp2_with (at_builtin; refine wpList_append_rec (f := i64s) (s := 1) 2 _ _ (fun _ => rfl) i64s_one rfl _ _ 24 rfl wo.heap.size Try.infoI Try.underlying24 rfl (by decide) _ _ x.num rfl hown4 rfl rfl rfl (by omega) (by omega) hsz ?_)
        intro v' w' hown' hbel
        go_wp2_with fail
        go_roundw
        case rel => exact ⟨k + 1, by go_num, hlt, by rw [pick_yes Hx.out hp]; exact hown', hbel _ _ hB4 (Nat.le_refl _)⟩
        case measure => simp [intOf]; omega
    · have hkn : k = cs.length := by omega
      subst hkn
      rw [List.take_length] at hown
      go_wp2_with fail
      go_ret2
      exact ⟨_, by rw [hF]; rfl, by rw [hF]; exact hown.more hb1.size, hb1.trans (hbr.mono hb1.size)⟩

set_option maxHeartbeats 1000000 in
theorem implRemindersOn_any (v : Value) (cs : List S5) (day : Int) (w : World) (lo : Nat) (h : SlS5 w lo w.heap.size v cs) :
    Calls Try.prog 37 #[v, .int .i64 day] w fun e w' => ∃ v', e = .returned (.tuple #[v', .int .i64 (pickF remindP cs day).2]) ∧ OwnR i64s 1 w' w.heap.size 2 v' (pickF remindP cs day).1 ∧ Below w.heap.size w w' := by
  have hmf : ∀ (fn : Fn) (first cap : Array Value) (w : World), (Instr.makeFunc fn first cap).run Try.prog w = .ok (.func fn first cap) w := fun _ _ _ _ => rfl
  go_enter Try.func37, Try.ntmps37
  go_wp2_with fail
  have hB : Below w.heap.size w (w.alloc (.cells #[.int .i64 day] 2)) := (Below.refl _ _).alloc (Nat.le_refl _) _
  refine (withRemindersOn_any v cs day w.heap.size _ lo ((h.below hB (Nat.le_refl _)).more (Nat.le_refl _) hB.size) ((Blk.new w _ _).cell 0) (by simp)).mono ?_
  rintro e w2 ⟨v', rfl, hown, hb2⟩
  go_wp2_with fail
  go_ret2
  exact ⟨v', rfl, hown.more hB.size, hB.trans (hb2.mono hB.size)⟩
end Go.Proofs.Ytiflpihjffhfhaa
