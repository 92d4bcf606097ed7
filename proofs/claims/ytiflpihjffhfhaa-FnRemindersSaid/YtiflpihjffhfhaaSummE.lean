/- CountAnswers: the program's and the reference's answer the same function. No condition but the sizes that the law itself asks. -/
import Derived.Test.YtiflpihjffhfhaaSummC
namespace Go.Proofs.Ytiflpihjffhfhaa
open Go.RowKit

def bump (c : List Int) (j : Nat) : List Int := c.set j (c[j]?.getD 0 + 1)
def tally (d : Int) (c : List Int) (x : S5) : List Int := if openP d x = true then bump c 0 else if x.sent ≤ d then bump c x.ans.toNat else c
def cntGo (d : Int) : List Int → List S5 → List Int
  | c, [] => c
  | c, x :: t => cntGo d (tally d c x) t
theorem tally_len (d : Int) (c : List Int) (x : S5) : (tally d c x).length = c.length := by
  unfold tally bump; split
  · simp
  · split <;> simp
theorem cntGo_len (d : Int) : ∀ (cs : List S5) (c : List Int), (cntGo d c cs).length = c.length
  | [], _ => rfl
  | x :: t, c => by rw [cntGo, cntGo_len d t, tally_len]
def countF (cs : List S5) (d : Int) : List Int × Int := if sumCode cs d = 0 then (cntGo d [0, 0, 0, 0] cs, 0) else ([], sumCode cs d)
theorem countF_len (cs : List S5) (d : Int) : (countF cs d).1.length ≤ 4 := by
  unfold countF; split
  · simp [cntGo_len]
  · simp
theorem bump_bound {c : List Int} {k : Int} (h : ∀ z ∈ c, 0 ≤ z ∧ z ≤ k) (j : Nat) (hk : 0 ≤ k) : ∀ z ∈ bump c j, 0 ≤ z ∧ z ≤ k + 1 := by
  intro z hz
  unfold bump at hz
  rcases List.mem_or_eq_of_mem_set hz with hz | rfl
  · have := h z hz; omega
  · cases hc : c[j]? with
    | none => simp; omega
    | some y => have := h y (List.mem_of_getElem? hc); simp; omega




set_option maxRecDepth 100000 in
set_option maxHeartbeats 4000000 in
theorem specCountAnswers_any (v : Value) (cs : List S5) (day : Int) (w : World) (lo : Nat) (h : SlS5 w lo w.heap.size v cs) :
    Calls Try.prog 40 #[v, .int .i64 day] w fun e w' => ∃ v', e = .returned (.tuple #[v', .int .i64 (countF cs day).2]) ∧ OwnR i64s 1 w' w.heap.size 2 v' (countF cs day).1 ∧ Below w.heap.size w w' := by
  obtain ⟨A, c, rfl, hc1, hc2⟩ := h.form
  obtain ⟨i0, hi, hz0, hz1, hz2⟩ := info_parts Try.infoI
  have Hi := Lib.hid hi
  have Hz0 := Lib.hid hz0
  have Hz1 := Lib.hid hz1
  have Hz2 := Lib.hid hz2
  clear hi hz0 hz1 hz2
  go_enter Try.func40, Try.ntmps40
  go_wp2_with fail
  refine (l09Day_any _ cs day w lo h).mono ?_
  rintro e w1 ⟨rfl, hb1⟩
  by_cases hc : sumCode cs day = 0
  case neg =>
    have hF : countF cs day = ([], sumCode cs day) := by simp [countF, hc]
    have hne : (sumCode cs day != 0) = true := by simp [hc]
    go_wp2_with fail
    go_ret2
    exact ⟨.slice none 0 0, by rw [hF]; rfl, by rw [hF]; exact own_nil _ _ _ _ _, hb1⟩
  obtain ⟨h1, hd⟩ := sumCode_zero hc
  have hF : countF cs day = (cntGo day [0, 0, 0, 0] cs, 0) := by simp [countF, hc]
  have HF := Lib.hid hF
  clear hF
  rw [hc]
  obtain ⟨hall, hlen⟩ := listOkS5_all h1
  have hdd := inB_iff.1 hd
  have Hall := Lib.hid hall
  clear hall
  have z1 := hb1.size
  have h' : SlS5 w1 lo w1.heap.size (.slice A cs.length c) cs := (h.below hb1 (Nat.le_refl _)).more (Nat.le_refl _) hb1.size
  go_wp2_with (first | (at_make; refine wpList_make_full _ rfl _ _ 24 rfl w1.heap.size 2 i0 _ 1 Try.underlying24 Hi.out Hz0.out Hz1.out _ _ _ _ 4 rfl rfl rfl rfl ?c1 ?c2 ?c3 ?_))
  case c1 => rw [Hz2.out]; omega
  case c2 => unfold maxLen; omega
  case c3 => exact Nat.le_refl _
  intro w2 hown hgrow
  have hb2 : Below w1.heap.size w1 w2 := (Below.refl _ _).grown hgrow (Nat.le_refl _) (by intro k h; cases h)
  have o2 : OwnR i64s 1 w2 w1.heap.size 2 (.slice (some ⟨w1.heap.size, 0, none⟩) 4 4) [0, 0, 0, 0] := by
    rw [show (madeCells #[Value.int IntKind.i64 0] 4).toList = ([0, 0, 0, 0] : List Int).flatMap i64s from by kernel_rfl] at hown
    exact hown
  clear hgrow hown
  go_wp2_with fail
  go_loopw [8] (fun i wr => ∃ (k : Nat) (zs : List Int), i = .int .i64 k ∧ k ≤ cs.length ∧ OwnR i64s 1 wr w1.heap.size 2 (.slice (some ⟨w1.heap.size, 0, none⟩) 4 4) zs ∧ zs.length = 4 ∧ Hid (cntGo day [0, 0, 0, 0] cs = cntGo day zs (cs.drop k)) ∧ Hid (∀ z ∈ zs, 0 ≤ z ∧ z ≤ (k : Int)) ∧ Below w1.heap.size w1 wr) (fun i wr => cs.length - (intOf i).toNat)
  case atStart => exact ⟨0, _, rfl, Nat.zero_le _, o2, rfl, Lib.hid rfl, Lib.hid (by simp), hb2⟩
  case round =>
    obtain ⟨k, zs, rfl, hk, hown, hzl, Hgo, Hbd, hbr⟩ := hrel
    have Hzl := Lib.hid hzl
    have hsr := hbr.size
    by_cases hlt : k < cs.length
    · obtain ⟨x, hx⟩ := some_at hlt
      have hxo := Hall.out x (List.mem_of_getElem? hx)
      have hxb := S5.bounds hxo
      clear hxo
      have hd' := drop_cons hx
      obtain ⟨num, sent, due, ans, answered⟩ := x
      dsimp only at hxb
      obtain ⟨j, rfl⟩ := Int.eq_ofNat_of_zero_le hxb.2.2.1
      have Hd := Lib.hid hd'
      have Hx := Lib.hid hx
      clear hx hd'
      obtain ⟨y0, hy0⟩ := some_at (l := zs) (k := 0) (by omega)
      obtain ⟨y, hy⟩ := some_at (l := zs) (k := j) (by omega)
      have hyb := Hbd.out y (List.mem_of_getElem? hy)
      have hyb0 := Hbd.out y0 (List.mem_of_getElem? hy0)
      have Hy := Lib.hid hy
      have Hy0 := Lib.hid hy0
      clear hy hy0 hzl
      have hj4 : ((j : Nat) : Int) < 4 := by omega
      have hj4' : j < 4 := by omega
      have hj0 : (0 : Int) ≤ ((j : Nat) : Int) := by omega
      obtain ⟨b, off, rfl, _, hb, c0, c1, c2, c3, c4⟩ := ((h'.below hbr (Nat.le_refl _)).more (Nat.le_refl _) hbr.size).S5_at Hx.out
      by_cases hs : sent ≤ day
      case neg =>
        have e1 : openP day ⟨num, sent, due, (j : Int), answered⟩ = false := by simp [openP]; omega
        go_wp2_with fail
        go_roundw
        case rel => exact ⟨k + 1, _, by go_num, hlt, hown, Hzl.out, Lib.hid (by rw [Hgo.out, Hd.out, cntGo]; congr 1; simp only [tally, e1]; simp; omega), Lib.hid (fun z hz => by have := Hbd.out z hz; omega), hbr⟩
        case measure => simp [intOf]; omega
      go_wp2_with fail
      refine (l09Open_any ⟨num, sent, due, (j : Int), answered⟩ day _).mono ?_
      rintro e w3 ⟨rfl, hb3⟩
      have hB3 := hbr.trans (hb3.mono hbr.size)
      have own3 := hown.below hb3
      clear c0 c1 c2 c3 c4
      obtain ⟨b2, off2, ee, _, hb, c0, c1, c2, c3, c4⟩ := ((h'.below hB3 (Nat.le_refl _)).more (Nat.le_refl _) hB3.size).S5_at Hx.out
      injection ee with ee; injection ee with ee1 ee2; subst ee1 ee2
      obtain ⟨b9, off9, ee, _, _, gj⟩ := (own_slI own3).int_at Hy.out
      injection ee with ee; injection ee with ee1 ee2; subst ee1 ee2
      obtain ⟨b9, off9, ee, _, _, g0⟩ := (own_slI own3).int_at Hy0.out
      injection ee with ee; injection ee with ee1 ee2; subst ee1 ee2
      simp only [Nat.zero_add] at gj g0
      have oR := OwnR.own own3
      rw [Hzl.out] at oR
      have fj := (own_cellAt oR j (by omega)).2
      have f0 := (own_cellAt oR 0 (by omega)).2
      clear oR
      cases e1 : openP day ⟨num, sent, due, (j : Int), answered⟩
      · have o9 := own_setField (f := i64s) (s := 1) (fun _ => rfl) own3 (k := j) (x := y) (by exact Hy.out) (j := 0) (by decide) (u := .int .i64 (y + 1)) (x' := y + 1) rfl
        simp only [Nat.mul_one, Nat.add_zero] at o9
        go_wp2_with fail
        go_roundw
        case rel => exact ⟨k + 1, _, by go_num, hlt, o9, by simp [Hzl.out], Lib.hid (by rw [Hgo.out, Hd.out, cntGo]; congr 1; simp only [tally, e1]; rw [if_neg (by simp), if_pos hs]; simp [bump, Hy.out]), Lib.hid (by have := bump_bound Hbd.out j (by omega); unfold bump at this; rw [Hy.out] at this; intro z hz; have := this z hz; omega), hB3.setCell (by simp) _⟩
        case measure => simp [intOf]; omega
      · have o9 := own_setField (f := i64s) (s := 1) (fun _ => rfl) own3 (k := 0) (x := y0) (by exact Hy0.out) (j := 0) (by decide) (u := .int .i64 (y0 + 1)) (x' := y0 + 1) rfl
        simp only [Nat.mul_one, Nat.add_zero] at o9
        go_wp2_with fail
        go_roundw
        case rel => exact ⟨k + 1, _, by go_num, hlt, o9, by simp [Hzl.out], Lib.hid (by rw [Hgo.out, Hd.out, cntGo]; congr 1; simp only [tally, e1]; simp [bump, Hy0.out]), Lib.hid (by have := bump_bound Hbd.out 0 (by omega); unfold bump at this; rw [Hy0.out] at this; intro z hz; have := this z hz; omega), hB3.setCell (by simp) _⟩
        case measure => simp [intOf]; omega
    · have hkn : k = cs.length := by omega
      subst hkn
      go_wp2_with fail
      go_ret2
      exact ⟨_, by rw [HF.out]; rfl, by rw [HF.out, Hgo.out, List.drop_length, cntGo]; exact hown.more hb1.size, hb1.trans (hbr.mono hb1.size)⟩

set_option maxRecDepth 100000 in
set_option maxHeartbeats 4000000 in
theorem implCountAnswers_any (v : Value) (cs : List S5) (day : Int) (w : World) (lo : Nat) (h : SlS5 w lo w.heap.size v cs) :
    Calls Try.prog 39 #[v, .int .i64 day] w fun e w' => ∃ v', e = .returned (.tuple #[v', .int .i64 (countF cs day).2]) ∧ OwnR i64s 1 w' w.heap.size 2 v' (countF cs day).1 ∧ Below w.heap.size w w' := by
  obtain ⟨A, c, rfl, hc1, hc2⟩ := h.form
  obtain ⟨i0, hi, hz0, hz1, hz2⟩ := info_parts Try.infoI
  have Hi := Lib.hid hi
  have Hz0 := Lib.hid hz0
  have Hz1 := Lib.hid hz1
  have Hz2 := Lib.hid hz2
  clear hi hz0 hz1 hz2
  go_enter Try.func39, Try.ntmps39
  go_wp2_with fail
  refine (implAreSummonses_any _ cs w lo h).mono ?_
  rintro e w1 ⟨rfl, hb1⟩
  cases h1 : listOkS5 cs
  · have hF : countF cs day = ([], 1) := by simp [countF, sumCode, h1]
    go_wp2_with fail
    go_ret2
    exact ⟨.slice none 0 0, by rw [hF]; rfl, by rw [hF]; exact own_nil _ _ _ _ _, hb1⟩
  go_wp2_with fail
  refine (isDay_any day _).mono ?_
  rintro e w2 ⟨rfl, rfl⟩
  cases hd : inB day 0 20000
  · have hF : countF cs day = ([], 2) := by simp [countF, sumCode, h1, hd]
    go_wp2_with fail
    go_ret2
    exact ⟨.slice none 0 0, by rw [hF]; rfl, by rw [hF]; exact own_nil _ _ _ _ _, hb1⟩
  have hF : countF cs day = (cntGo day [0, 0, 0, 0] cs, 0) := by simp [countF, sumCode, h1, hd]
  have HF := Lib.hid hF
  clear hF
  obtain ⟨hall, hlen⟩ := listOkS5_all h1
  have hdd := inB_iff.1 hd
  have Hall := Lib.hid hall
  clear hall
  have z1 := hb1.size
  have h' : SlS5 w1 lo w1.heap.size (.slice A cs.length c) cs := (h.below hb1 (Nat.le_refl _)).more (Nat.le_refl _) hb1.size
  go_wp2_with (first | (at_make; refine wpList_make_full _ rfl _ _ 24 rfl w1.heap.size 2 i0 _ 1 Try.underlying24 Hi.out Hz0.out Hz1.out _ _ _ _ 4 rfl rfl rfl rfl ?c1 ?c2 ?c3 ?_))
  case c1 => rw [Hz2.out]; omega
  case c2 => unfold maxLen; omega
  case c3 => exact Nat.le_refl _
  intro w2 hown hgrow
  have hb2 : Below w1.heap.size w1 w2 := (Below.refl _ _).grown hgrow (Nat.le_refl _) (by intro k h; cases h)
  have o2 : OwnR i64s 1 w2 w1.heap.size 2 (.slice (some ⟨w1.heap.size, 0, none⟩) 4 4) [0, 0, 0, 0] := by
    rw [show (madeCells #[Value.int IntKind.i64 0] 4).toList = ([0, 0, 0, 0] : List Int).flatMap i64s from by kernel_rfl] at hown
    exact hown
  clear hgrow hown
  go_wp2_with fail
  go_loopw [18] (fun i wr => ∃ (k : Nat) (zs : List Int), i = .int .i64 k ∧ k ≤ cs.length ∧ OwnR i64s 1 wr w1.heap.size 2 (.slice (some ⟨w1.heap.size, 0, none⟩) 4 4) zs ∧ zs.length = 4 ∧ Hid (cntGo day [0, 0, 0, 0] cs = cntGo day zs (cs.drop k)) ∧ Hid (∀ z ∈ zs, 0 ≤ z ∧ z ≤ (k : Int)) ∧ Below w1.heap.size w1 wr) (fun i wr => cs.length - (intOf i).toNat)
  case atStart => exact ⟨0, _, rfl, Nat.zero_le _, o2, rfl, Lib.hid rfl, Lib.hid (by simp), hb2⟩
  case round =>
    obtain ⟨k, zs, rfl, hk, hown, hzl, Hgo, Hbd, hbr⟩ := hrel
    have Hzl := Lib.hid hzl
    have hsr := hbr.size
    by_cases hlt : k < cs.length
    · obtain ⟨x, hx⟩ := some_at hlt
      have hxo := Hall.out x (List.mem_of_getElem? hx)
      have hxb := S5.bounds hxo
      clear hxo
      have hd' := drop_cons hx
      obtain ⟨num, sent, due, ans, answered⟩ := x
      dsimp only at hxb
      obtain ⟨j, rfl⟩ := Int.eq_ofNat_of_zero_le hxb.2.2.1
      have Hd := Lib.hid hd'
      have Hx := Lib.hid hx
      clear hx hd'
      obtain ⟨y0, hy0⟩ := some_at (l := zs) (k := 0) (by omega)
      obtain ⟨y, hy⟩ := some_at (l := zs) (k := j) (by omega)
      have hyb := Hbd.out y (List.mem_of_getElem? hy)
      have hyb0 := Hbd.out y0 (List.mem_of_getElem? hy0)
      have Hy := Lib.hid hy
      have Hy0 := Lib.hid hy0
      clear hy hy0 hzl
      have hj4 : ((j : Nat) : Int) < 4 := by omega
      have hj4' : j < 4 := by omega
      have hj0 : (0 : Int) ≤ ((j : Nat) : Int) := by omega
      obtain ⟨b, off, rfl, _, hb, c0, c1, c2, c3, c4⟩ := ((h'.below hbr (Nat.le_refl _)).more (Nat.le_refl _) hbr.size).S5_at Hx.out
      go_wp2_with fail
      have b0 := Blk.new wr 108 #[.int .i64 num, .int .i64 sent, .int .i64 due, .int .i64 ((j : Nat) : Int), .int .i64 answered]
      have hB0 : Below w1.heap.size w1 (wr.alloc (.cells #[.int .i64 num, .int .i64 sent, .int .i64 due, .int .i64 ((j : Nat) : Int), .int .i64 answered] 108)) := hbr.alloc hbr.size _
      have own0 := hown.alloc (.cells #[.int .i64 num, .int .i64 sent, .int .i64 due, .int .i64 ((j : Nat) : Int), .int .i64 answered] 108)
      generalize (wr.alloc (.cells #[.int .i64 num, .int .i64 sent, .int .i64 due, .int .i64 ((j : Nat) : Int), .int .i64 answered] 108)) = w3 at *
      refine (open_any ⟨num, sent, due, (j : Int), answered⟩ day _).mono ?_
      rintro e w4 ⟨rfl, hb4⟩
      have hB4 := hB0.trans (hb4.mono hB0.size)
      have own4 := own0.below hb4
      have d1 : w4.cell? ⟨wr.heap.size, 1, none⟩ = some (.int .i64 sent) := (b0.below' hb4).cell 1
      have d3 : w4.cell? ⟨wr.heap.size, 3, none⟩ = some (.int .i64 ((j : Nat) : Int)) := (b0.below' hb4).cell 3
      clear c0 c1 c2 c3 c4
      obtain ⟨b9, off9, ee, _, _, gj⟩ := (own_slI own4).int_at Hy.out
      injection ee with ee; injection ee with ee1 ee2; subst ee1 ee2
      obtain ⟨b9, off9, ee, _, _, g0⟩ := (own_slI own4).int_at Hy0.out
      injection ee with ee; injection ee with ee1 ee2; subst ee1 ee2
      simp only [Nat.zero_add] at gj g0
      have oR := OwnR.own own4
      rw [Hzl.out] at oR
      have fj := (own_cellAt oR j (by omega)).2
      have f0 := (own_cellAt oR 0 (by omega)).2
      clear oR
      cases e1 : openP day ⟨num, sent, due, (j : Int), answered⟩
      · by_cases hs : sent ≤ day
        case neg =>
          go_wp2_with fail
          go_roundw
          case rel => exact ⟨k + 1, _, by go_num, hlt, own4, Hzl.out, Lib.hid (by rw [Hgo.out, Hd.out, cntGo]; congr 1; simp only [tally, e1]; simp; omega), Lib.hid (fun z hz => by have := Hbd.out z hz; omega), hB4⟩
          case measure => simp [intOf]; omega
        have o9 := own_setField (f := i64s) (s := 1) (fun _ => rfl) own4 (k := j) (x := y) (by exact Hy.out) (j := 0) (by decide) (u := .int .i64 (y + 1)) (x' := y + 1) rfl
        simp only [Nat.mul_one, Nat.add_zero] at o9
        go_wp2_with fail
        go_roundw
        case rel => exact ⟨k + 1, _, by go_num, hlt, o9, by simp [Hzl.out], Lib.hid (by rw [Hgo.out, Hd.out, cntGo]; congr 1; simp only [tally, e1]; rw [if_neg (by simp), if_pos hs]; simp [bump, Hy.out]), Lib.hid (by have := bump_bound Hbd.out j (by omega); unfold bump at this; rw [Hy.out] at this; intro z hz; have := this z hz; omega), hB4.setCell (by simp) _⟩
        case measure => simp [intOf]; omega
      · have o9 := own_setField (f := i64s) (s := 1) (fun _ => rfl) own4 (k := 0) (x := y0) (by exact Hy0.out) (j := 0) (by decide) (u := .int .i64 (y0 + 1)) (x' := y0 + 1) rfl
        simp only [Nat.mul_one, Nat.add_zero] at o9
        go_wp2_with fail
        go_roundw
        case rel => exact ⟨k + 1, _, by go_num, hlt, o9, by simp [Hzl.out], Lib.hid (by rw [Hgo.out, Hd.out, cntGo]; congr 1; simp only [tally, e1]; simp [bump, Hy0.out]), Lib.hid (by have := bump_bound Hbd.out 0 (by omega); unfold bump at this; rw [Hy0.out] at this; intro z hz; have := this z hz; omega), hB4.setCell (by simp) _⟩
        case measure => simp [intOf]; omega
    · have hkn : k = cs.length := by omega
      subst hkn
      go_wp2_with fail
      go_ret2
      exact ⟨_, by rw [HF.out]; rfl, by rw [HF.out, Hgo.out, List.drop_length, cntGo]; exact hown.more hb1.size, hb1.trans (hbr.mono hb1.size)⟩
end Go.Proofs.Ytiflpihjffhfhaa
