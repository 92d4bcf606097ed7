/- The codes of rules and candidates; whether somebody is qualified, and from which year on: the program's and the reference's answer the same function. No condition but the sizes that the law itself asks. -/
import Derived.Test.YtkhojhgcopnenaaQualC
namespace Go.Proofs.Ytkhojhgcopnenaa
open Go.RowKit
attribute [local go_sem ↓] Go.wp_at_zero Go.wp_at_succ

theorem at_K9 {w : World} {lo hi : Nat} {cs : List K9} {A : Option Addr} {n c k : Nat} {x : K9} (h : SlR K9.vals 9 w lo hi (.slice A n c) cs) (hk : cs[k]? = some x) :
    ∃ b off, A = some ⟨b, off, none⟩ ∧ lo ≤ b ∧ b < hi ∧ w.cell? ⟨b, off + k * 9, none⟩ = some (.int .i64 x.num) ∧ w.cell? ⟨b, off + k * 9 + 1, none⟩ = some (.string x.first) ∧ w.cell? ⟨b, off + k * 9 + 2, none⟩ = some (.string x.last) ∧ w.cell? ⟨b, off + k * 9 + 3, none⟩ = some (.int .i64 x.born) ∧ w.cell? ⟨b, off + k * 9 + 4, none⟩ = some (.int .i64 x.zone) ∧ w.cell? ⟨b, off + k * 9 + 5, none⟩ = some (.bool x.cit) ∧ w.cell? ⟨b, off + k * 9 + 6, none⟩ = some (.bool x.conv) ∧ w.cell? ⟨b, off + k * 9 + 7, none⟩ = some (.bool x.flu) ∧ w.cell? ⟨b, off + k * 9 + 8, none⟩ = some (.int .i64 x.job) := by
  obtain ⟨b, off, e, h1, h2, h3⟩ := h.at_ hk
  exact ⟨b, off, e, h1, h2, by simpa using h3 0 _ rfl, by have := h3 1 _ rfl; rw [← Nat.add_assoc] at this; exact this, by have := h3 2 _ rfl; rw [← Nat.add_assoc] at this; exact this, by have := h3 3 _ rfl; rw [← Nat.add_assoc] at this; exact this, by have := h3 4 _ rfl; rw [← Nat.add_assoc] at this; exact this, by have := h3 5 _ rfl; rw [← Nat.add_assoc] at this; exact this, by have := h3 6 _ rfl; rw [← Nat.add_assoc] at this; exact this, by have := h3 7 _ rfl; rw [← Nat.add_assoc] at this; exact this, by have := h3 8 _ rfl; rw [← Nat.add_assoc] at this; exact this⟩

set_option maxRecDepth 100000 in
set_option maxHeartbeats 4000000 in
theorem specReasons_any (r : R5) (c : K9) (vz vj : Value) (w : World) (lo lo' : Nat) (hz : SlI w lo w.heap.size vz r.zones) (hj : SlI w lo' w.heap.size vj r.jobs) (hr : 0 ≤ r.yr ∧ r.yr ≤ 3000) (hb : 0 ≤ c.born ∧ c.born ≤ 3000) :
    Calls Try.prog 61 #[.agg #[.int .i64 r.yr, .int .i64 r.lo, .int .i64 r.hi, vz, vj], .agg #[.int .i64 c.num, .string c.first, .string c.last, .int .i64 c.born, .int .i64 c.zone, .bool c.cit, .bool c.conv, .bool c.flu, .int .i64 c.job]] w fun e w' => e = .returned (.int .i64 (r.against c)) ∧ Below w.heap.size w w' := by
  obtain ⟨A, k, rfl, _, _⟩ := hz.form
  obtain ⟨B, d, rfl, _, _⟩ := hj.form
  obtain ⟨b0, h0⟩ : ∃ b, decide (r.yr - c.born < r.lo) = b := ⟨_, rfl⟩
  obtain ⟨b1, h1⟩ : ∃ b, decide (r.hi < r.yr - c.born) = b := ⟨_, rfl⟩
  obtain ⟨b2, h2⟩ : ∃ b, (!hasB c.zone r.zones) = b := ⟨_, rfl⟩
  obtain ⟨b3, h3⟩ : ∃ b, (!c.cit) = b := ⟨_, rfl⟩
  obtain ⟨b4, h4⟩ : ∃ b, c.conv = b := ⟨_, rfl⟩
  obtain ⟨b5, h5⟩ : ∃ b, (!c.flu) = b := ⟨_, rfl⟩
  obtain ⟨b6, h6⟩ : ∃ b, hasB c.job r.jobs = b := ⟨_, rfl⟩
  have hA : r.against c = bits b0 b1 b2 b3 b4 b5 b6 7 := by rw [R5.against, h0, h1, h2, h3, h4, h5, h6]
  rw [hA]
  have H0 := Lib.hid h0
  have H1 := Lib.hid h1
  have H2 := Lib.hid h2
  have H3 := Lib.hid h3
  have H4 := Lib.hid h4
  have H5 := Lib.hid h5
  have H6 := Lib.hid h6
  clear h0 h1 h2 h3 h4 h5 h6 hA
  have hB : Below w.heap.size w ((w.alloc (.cells #[.int .i64 r.yr, .int .i64 r.lo, .int .i64 r.hi, .slice A r.zones.length k, .slice B r.jobs.length d] 41)).alloc (.cells #[.int .i64 c.num, .string c.first, .string c.last, .int .i64 c.born, .int .i64 c.zone, .bool c.cit, .bool c.conv, .bool c.flu, .int .i64 c.job] 45)) := ((Below.refl _ _).alloc (Nat.le_refl _) _).alloc (by simp) _
  go_enter Try.func61, Try.ntmps61
  go_wp2_with fail
  generalize ((w.alloc (.cells #[.int .i64 r.yr, .int .i64 r.lo, .int .i64 r.hi, .slice A r.zones.length k, .slice B r.jobs.length d] 41)).alloc (.cells #[.int .i64 c.num, .string c.first, .string c.last, .int .i64 c.born, .int .i64 c.zone, .bool c.cit, .bool c.conv, .bool c.flu, .int .i64 c.job] 45)) = w1 at *
  refine (l06Truths_any r c _ _ w1 _ _ (hz.bel hB) (hj.bel hB) hr hb).mono ?_
  rintro e w2 ⟨g, rfl, hg, bT, hb2⟩
  have hB2 := hB.trans (hb2.mono hB.size)
  rw [H0.out, H1.out, H2.out, H3.out, H4.out, H5.out, H6.out] at bT
  go_wp2_with fail
  go_loop [6, 7, 8] (fun t p i => ∃ (k : Nat) (q s u : Int), k ≤ 7 ∧ q = (k : Int) ∧ s = bits b0 b1 b2 b3 b4 b5 b6 k ∧ u = 2 ^ k ∧ i = .int .i64 q ∧ t = .int .i64 s ∧ p = .int .i64 u) (fun _ _ i => 7 - (intOf i).toNat)
  case atStart => exact ⟨0, 0, 0, 1, by omega, rfl, rfl, rfl, rfl, rfl, rfl⟩
  case round =>
    obtain ⟨k, q, s, u, hk, hq, hs, hu, rfl, rfl, rfl⟩ := hrel
    have hsb : 0 ≤ s ∧ s ≤ 127 := by rw [hs]; exact bits_b _ _ _ _ _ _ _ k hk
    have HS := Lib.hid hs
    clear hs
    rcases (by omega : k = 0 ∨ k = 1 ∨ k = 2 ∨ k = 3 ∨ k = 4 ∨ k = 5 ∨ k = 6 ∨ k = 7) with rfl | rfl | rfl | rfl | rfl | rfl | rfl | rfl
    · obtain rfl : q = 0 := hq
      obtain rfl : u = 1 := hu
      have ck : w2.cell? ⟨g, 0, none⟩ = some (.bool b0) := bT.cell 0
      cases b0
      · go_wp2_with fail
        go_round
        case rel => exact ⟨1, 1, _, 2, by omega, rfl, by rw [HS.out]; simp [bits, bv], rfl, rfl, rfl, rfl⟩
        case measure => simp [intOf]
      · go_wp2_with fail
        go_round
        case rel => exact ⟨1, 1, _, 2, by omega, rfl, by rw [HS.out]; simp [bits, bv], rfl, rfl, rfl, rfl⟩
        case measure => simp [intOf]
    · obtain rfl : q = 1 := hq
      obtain rfl : u = 2 := hu
      have ck : w2.cell? ⟨g, 1, none⟩ = some (.bool b1) := bT.cell 1
      cases b1
      · go_wp2_with fail
        go_round
        case rel => exact ⟨2, 2, _, 4, by omega, rfl, by rw [HS.out]; simp [bits, bv], rfl, rfl, rfl, rfl⟩
        case measure => simp [intOf]
      · go_wp2_with fail
        go_round
        case rel => exact ⟨2, 2, _, 4, by omega, rfl, by rw [HS.out]; simp [bits, bv], rfl, rfl, rfl, rfl⟩
        case measure => simp [intOf]
    · obtain rfl : q = 2 := hq
      obtain rfl : u = 4 := hu
      have ck : w2.cell? ⟨g, 2, none⟩ = some (.bool b2) := bT.cell 2
      cases b2
      · go_wp2_with fail
        go_round
        case rel => exact ⟨3, 3, _, 8, by omega, rfl, by rw [HS.out]; simp [bits, bv], rfl, rfl, rfl, rfl⟩
        case measure => simp [intOf]
      · go_wp2_with fail
        go_round
        case rel => exact ⟨3, 3, _, 8, by omega, rfl, by rw [HS.out]; simp [bits, bv], rfl, rfl, rfl, rfl⟩
        case measure => simp [intOf]
    · obtain rfl : q = 3 := hq
      obtain rfl : u = 8 := hu
      have ck : w2.cell? ⟨g, 3, none⟩ = some (.bool b3) := bT.cell 3
      cases b3
      · go_wp2_with fail
        go_round
        case rel => exact ⟨4, 4, _, 16, by omega, rfl, by rw [HS.out]; simp [bits, bv], rfl, rfl, rfl, rfl⟩
        case measure => simp [intOf]
      · go_wp2_with fail
        go_round
        case rel => exact ⟨4, 4, _, 16, by omega, rfl, by rw [HS.out]; simp [bits, bv], rfl, rfl, rfl, rfl⟩
        case measure => simp [intOf]
    · obtain rfl : q = 4 := hq
      obtain rfl : u = 16 := hu
      have ck : w2.cell? ⟨g, 4, none⟩ = some (.bool b4) := bT.cell 4
      cases b4
      · go_wp2_with fail
        go_round
        case rel => exact ⟨5, 5, _, 32, by omega, rfl, by rw [HS.out]; simp [bits, bv], rfl, rfl, rfl, rfl⟩
        case measure => simp [intOf]
      · go_wp2_with fail
        go_round
        case rel => exact ⟨5, 5, _, 32, by omega, rfl, by rw [HS.out]; simp [bits, bv], rfl, rfl, rfl, rfl⟩
        case measure => simp [intOf]
    · obtain rfl : q = 5 := hq
      obtain rfl : u = 32 := hu
      have ck : w2.cell? ⟨g, 5, none⟩ = some (.bool b5) := bT.cell 5
      cases b5
      · go_wp2_with fail
        go_round
        case rel => exact ⟨6, 6, _, 64, by omega, rfl, by rw [HS.out]; simp [bits, bv], rfl, rfl, rfl, rfl⟩
        case measure => simp [intOf]
      · go_wp2_with fail
        go_round
        case rel => exact ⟨6, 6, _, 64, by omega, rfl, by rw [HS.out]; simp [bits, bv], rfl, rfl, rfl, rfl⟩
        case measure => simp [intOf]
    · obtain rfl : q = 6 := hq
      obtain rfl : u = 64 := hu
      have ck : w2.cell? ⟨g, 6, none⟩ = some (.bool b6) := bT.cell 6
      cases b6
      · go_wp2_with fail
        go_round
        case rel => exact ⟨7, 7, _, 128, by omega, rfl, by rw [HS.out]; simp [bits, bv], rfl, rfl, rfl, rfl⟩
        case measure => simp [intOf]
      · go_wp2_with fail
        go_round
        case rel => exact ⟨7, 7, _, 128, by omega, rfl, by rw [HS.out]; simp [bits, bv], rfl, rfl, rfl, rfl⟩
        case measure => simp [intOf]
    · obtain rfl : q = 7 := hq
      clear hu
      go_wp2_with fail
      go_ret
      exact ⟨by rw [HS.out]; rfl, hB2⟩

def codeGo : List K9 → Bool
  | [] => true
  | c :: t => c.ok && codeGo t
theorem codeGo_all : ∀ {cs : List K9}, codeGo cs = true → ∀ x ∈ cs, x.ok = true
  | [], _ => by simp
  | c :: t, h => by
    simp only [codeGo, Bool.and_eq_true] at h
    intro x hx
    rcases List.mem_cons.1 hx with rfl | hx
    · exact h.1
    · exact codeGo_all h.2 x hx
def candOk (r : R5) (cs : List K9) : Bool := codeGo cs && r.ok && decide (cs.length ≤ 60)
def candCode (r : R5) (cs : List K9) : Int := if candOk r cs = true then 0 else 1

set_option maxRecDepth 100000 in
set_option maxHeartbeats 4000000 in
theorem l06Code_any (r : R5) (vz vj v : Value) (cs : List K9) (w : World) (lo lo' lo2 : Nat) (hz : SlI w lo w.heap.size vz r.zones) (hj : SlI w lo' w.heap.size vj r.jobs) (hc : SlR K9.vals 9 w lo2 w.heap.size v cs) (hs : ∀ x ∈ cs, x.small) :
    Calls Try.prog 60 #[.agg #[.int .i64 r.yr, .int .i64 r.lo, .int .i64 r.hi, vz, vj], v] w fun e w' => e = .returned (.int .i64 (candCode r cs)) ∧ Below w.heap.size w w' := by
  obtain ⟨A, ca, rfl, _, _⟩ := hz.form
  obtain ⟨B, d, rfl, _, _⟩ := hj.form
  obtain ⟨C, cc, rfl, _, _⟩ := hc.form
  have Hs := Lib.hid hs
  clear hs
  have bR := Blk.new w 41 #[.int .i64 r.yr, .int .i64 r.lo, .int .i64 r.hi, .slice A r.zones.length ca, .slice B r.jobs.length d]
  have hB : Below w.heap.size w (w.alloc (.cells #[.int .i64 r.yr, .int .i64 r.lo, .int .i64 r.hi, .slice A r.zones.length ca, .slice B r.jobs.length d] 41)) := (Below.refl _ _).alloc (Nat.le_refl _) _
  go_enter Try.func60, Try.ntmps60
  go_wp2_with fail
  generalize (w.alloc (.cells #[.int .i64 r.yr, .int .i64 r.lo, .int .i64 r.hi, .slice A r.zones.length ca, .slice B r.jobs.length d] 41)) = w1 at *
  replace hz := hz.bel hB
  replace hj := hj.bel hB
  replace hc := hc.bel hB
  go_loopw [5] (fun i wr => ∃ (k : Nat), i = .int .i64 k ∧ k ≤ cs.length ∧ Hid (codeGo cs = codeGo (cs.drop k)) ∧ Below w1.heap.size w1 wr) (fun i wr => cs.length - (intOf i).toNat)
  case atStart => exact ⟨0, rfl, Nat.zero_le _, Lib.hid rfl, Below.refl _ _⟩
  case round =>
    obtain ⟨k, rfl, hk, Hgo, hbr⟩ := hrel
    have bR := bR.below' hbr
    have hz := hz.bel hbr
    have hj := hj.bel hbr
    have hc := hc.bel hbr
    have hB := hB.trans (hbr.mono hB.size)
    by_cases hlt : k < cs.length
    · obtain ⟨x, hx⟩ := some_at hlt
      have hxs := Hs.out x (List.mem_of_getElem? hx)
      obtain ⟨b, off, rfl, _, hbb, c0, c1, c2, c3, c4, c5, c6, c7, c8⟩ := at_K9 hc hx
      have Hd := Lib.hid (drop_cons hx)
      clear hx
      go_wp2_with fail
      refine (specIsCandidate_any x wr hxs).mono ?_
      rintro e w2 ⟨rfl, hb2⟩
      clear c0 c1 c2 c3 c4 c5 c6 c7 c8
      cases hok : x.ok
      · have e : candCode r cs = 1 := by simp [candCode, candOk, Hgo.out, Hd.out, codeGo, hok]
        have E := Lib.hid e
        clear e
        go_wp2_with fail
        go_ret
        exact ⟨by rw [E.out]; rfl, hB.trans (hb2.mono hB.size)⟩
      · go_wp2_with fail
        go_roundw
        case rel => exact ⟨k + 1, by go_num, hlt, Lib.hid (by rw [Hgo.out, Hd.out, codeGo, hok]; rfl), hbr.trans (hb2.mono hbr.size)⟩
        case measure => simp [intOf]; omega
    · have hgo : codeGo cs = true := by rw [Hgo.out, List.drop_of_length_le (by omega)]; rfl
      have HG := Lib.hid hgo
      clear hgo Hgo
      obtain ⟨d0, d1, d2, d3, d4⟩ := r5_cells bR
      go_wp2_with fail
      refine (specAreRules_any r _ _ wr _ _ hz hj).mono ?_
      rintro e w2 ⟨rfl, hb2⟩
      clear d0 d1 d2 d3 d4
      have hB2 := hB.trans (hb2.mono hB.size)
      cases hr : r.ok
      · have e : candCode r cs = 1 := by simp [candCode, candOk, hr]
        have E := Lib.hid e
        clear e
        go_wp2_with fail
        go_ret
        exact ⟨by rw [E.out]; rfl, hB2⟩
      · by_cases hl : (60 : Int) < (cs.length : Int)
        · have e : candCode r cs = 1 := by
            have : decide (cs.length ≤ 60) = false := by simp; omega
            simp [candCode, candOk, this]
          have E := Lib.hid e
          clear e
          go_wp2_with fail
          go_ret
          exact ⟨by rw [E.out]; rfl, hB2⟩
        · have e : candCode r cs = 0 := by
            have : decide (cs.length ≤ 60) = true := by simp; omega
            simp [candCode, candOk, this, hr, HG.out]
          have E := Lib.hid e
          clear e
          go_wp2_with fail
          go_ret
          exact ⟨by rw [E.out]; rfl, hB2⟩

def qualF (r : R5) (c : K9) : Bool × Int := if (r.ok && c.ok) = true then (r.against c == 0, 0) else (false, 1)
theorem candOk_one (r : R5) (c : K9) : candOk r [c] = (r.ok && c.ok) := by simp [candOk, codeGo, Bool.and_comm]
theorem ok_bounds {r : R5} {c : K9} (hr : r.ok = true) (hc : c.ok = true) : (1900 ≤ r.yr ∧ r.yr ≤ 2200) ∧ (1900 ≤ c.born ∧ c.born ≤ 2100) := by
  simp only [R5.ok, K9.ok, K9.personOk, Bool.and_eq_true, inB_iff] at hr hc
  omega

set_option maxRecDepth 100000 in
set_option maxHeartbeats 4000000 in
theorem specIsQualified_any (r : R5) (c : K9) (vz vj : Value) (w : World) (lo lo' : Nat) (hz : SlI w lo w.heap.size vz r.zones) (hj : SlI w lo' w.heap.size vj r.jobs) (hs : c.small) :
    Calls Try.prog 16 #[.agg #[.int .i64 r.yr, .int .i64 r.lo, .int .i64 r.hi, vz, vj], .agg #[.int .i64 c.num, .string c.first, .string c.last, .int .i64 c.born, .int .i64 c.zone, .bool c.cit, .bool c.conv, .bool c.flu, .int .i64 c.job]] w fun e w' => e = .returned (.tuple #[.bool (qualF r c).1, .int .i64 (qualF r c).2]) ∧ Below w.heap.size w w' := by
  obtain ⟨A, ca, rfl, _, _⟩ := hz.form
  obtain ⟨B, d, rfl, _, _⟩ := hj.form
  have bR : Blk (((w.alloc (.cells #[.int .i64 r.yr, .int .i64 r.lo, .int .i64 r.hi, .slice A r.zones.length ca, .slice B r.jobs.length d] 41)).alloc (.cells #[.int .i64 c.num, .string c.first, .string c.last, .int .i64 c.born, .int .i64 c.zone, .bool c.cit, .bool c.conv, .bool c.flu, .int .i64 c.job] 45)).alloc (.cells #[.int .i64 c.num, .string c.first, .string c.last, .int .i64 c.born, .int .i64 c.zone, .bool c.cit, .bool c.conv, .bool c.flu, .int .i64 c.job] 45)) w.heap.size _ _ := ((Blk.new w _ _).alloc _).alloc _
  have bC : Blk (((w.alloc (.cells #[.int .i64 r.yr, .int .i64 r.lo, .int .i64 r.hi, .slice A r.zones.length ca, .slice B r.jobs.length d] 41)).alloc (.cells #[.int .i64 c.num, .string c.first, .string c.last, .int .i64 c.born, .int .i64 c.zone, .bool c.cit, .bool c.conv, .bool c.flu, .int .i64 c.job] 45)).alloc (.cells #[.int .i64 c.num, .string c.first, .string c.last, .int .i64 c.born, .int .i64 c.zone, .bool c.cit, .bool c.conv, .bool c.flu, .int .i64 c.job] 45)) (w.heap.size + 1) _ _ := (Blk.new' (by simp)).alloc _
  have hB : Below w.heap.size w (((w.alloc (.cells #[.int .i64 r.yr, .int .i64 r.lo, .int .i64 r.hi, .slice A r.zones.length ca, .slice B r.jobs.length d] 41)).alloc (.cells #[.int .i64 c.num, .string c.first, .string c.last, .int .i64 c.born, .int .i64 c.zone, .bool c.cit, .bool c.conv, .bool c.flu, .int .i64 c.job] 45)).alloc (.cells #[.int .i64 c.num, .string c.first, .string c.last, .int .i64 c.born, .int .i64 c.zone, .bool c.cit, .bool c.conv, .bool c.flu, .int .i64 c.job] 45)) := (((Below.refl _ _).alloc (Nat.le_refl _) _).alloc (by simp) _).alloc (by simp; omega) _
  have hl := rec_sl (f := K9.vals) (s := 9) (fun _ => rfl) ((w.alloc (.cells #[.int .i64 r.yr, .int .i64 r.lo, .int .i64 r.hi, .slice A r.zones.length ca, .slice B r.jobs.length d] 41)).alloc (.cells #[.int .i64 c.num, .string c.first, .string c.last, .int .i64 c.born, .int .i64 c.zone, .bool c.cit, .bool c.conv, .bool c.flu, .int .i64 c.job] 45)) 45 (cx := #[.int .i64 c.num, .string c.first, .string c.last, .int .i64 c.born, .int .i64 c.zone, .bool c.cit, .bool c.conv, .bool c.flu, .int .i64 c.job]) (x := c) rfl
  have hl2 : SlR K9.vals 9 (((w.alloc (.cells #[.int .i64 r.yr, .int .i64 r.lo, .int .i64 r.hi, .slice A r.zones.length ca, .slice B r.jobs.length d] 41)).alloc (.cells #[.int .i64 c.num, .string c.first, .string c.last, .int .i64 c.born, .int .i64 c.zone, .bool c.cit, .bool c.conv, .bool c.flu, .int .i64 c.job] 45)).alloc (.cells #[.int .i64 c.num, .string c.first, .string c.last, .int .i64 c.born, .int .i64 c.zone, .bool c.cit, .bool c.conv, .bool c.flu, .int .i64 c.job] 45)) 0 (((w.alloc (.cells #[.int .i64 r.yr, .int .i64 r.lo, .int .i64 r.hi, .slice A r.zones.length ca, .slice B r.jobs.length d] 41)).alloc (.cells #[.int .i64 c.num, .string c.first, .string c.last, .int .i64 c.born, .int .i64 c.zone, .bool c.cit, .bool c.conv, .bool c.flu, .int .i64 c.job] 45)).alloc (.cells #[.int .i64 c.num, .string c.first, .string c.last, .int .i64 c.born, .int .i64 c.zone, .bool c.cit, .bool c.conv, .bool c.flu, .int .i64 c.job] 45)).heap.size (.slice (some ⟨w.heap.size + 1 + 1, 0, none⟩) 1 1) [c] := by
    have := hl.more (lo' := 0) (hi' := (((w.alloc (.cells #[.int .i64 r.yr, .int .i64 r.lo, .int .i64 r.hi, .slice A r.zones.length ca, .slice B r.jobs.length d] 41)).alloc (.cells #[.int .i64 c.num, .string c.first, .string c.last, .int .i64 c.born, .int .i64 c.zone, .bool c.cit, .bool c.conv, .bool c.flu, .int .i64 c.job] 45)).alloc (.cells #[.int .i64 c.num, .string c.first, .string c.last, .int .i64 c.born, .int .i64 c.zone, .bool c.cit, .bool c.conv, .bool c.flu, .int .i64 c.job] 45)).heap.size) (Nat.zero_le _) (by simp)
    simpa using this
  clear hl
  go_enter Try.func16, Try.ntmps16
  go_wp2_with fail
  generalize (((w.alloc (.cells #[.int .i64 r.yr, .int .i64 r.lo, .int .i64 r.hi, .slice A r.zones.length ca, .slice B r.jobs.length d] 41)).alloc (.cells #[.int .i64 c.num, .string c.first, .string c.last, .int .i64 c.born, .int .i64 c.zone, .bool c.cit, .bool c.conv, .bool c.flu, .int .i64 c.job] 45)).alloc (.cells #[.int .i64 c.num, .string c.first, .string c.last, .int .i64 c.born, .int .i64 c.zone, .bool c.cit, .bool c.conv, .bool c.flu, .int .i64 c.job] 45)) = w1 at *
  refine (l06Code_any r _ _ _ [c] w1 _ _ _ (hz.bel hB) (hj.bel hB) hl2 (by simpa using hs)).mono ?_
  rintro e w2 ⟨rfl, hb2⟩
  have hB2 := hB.trans (hb2.mono hB.size)
  have bR := bR.below' hb2
  have bC := bC.below' hb2
  rw [candCode, candOk_one]
  cases hok : (r.ok && c.ok)
  · have e : qualF r c = (false, 1) := by simp [qualF, hok]
    have E := Lib.hid e
    clear e
    rw [if_neg (by simp)]
    go_wp2_with fail
    go_ret2
    exact ⟨by rw [E.out]; rfl, hB2⟩
  · have e : qualF r c = (r.against c == 0, 0) := by simp [qualF, hok]
    have E := Lib.hid e
    clear e
    simp only [Bool.and_eq_true] at hok
    have hbd := ok_bounds hok.1 hok.2
    rw [if_pos rfl]
    obtain ⟨d0, d1, d2, d3, d4⟩ := r5_cells bR
    obtain ⟨e0, e1, e2, e3, e4, e5, e6, e7, e8⟩ := r9_cells bC
    go_wp2_with fail
    refine (specReasons_any r c _ _ w2 _ _ (hz.bel hB2) (hj.bel hB2) (by omega) (by omega)).mono ?_
    rintro e w3 ⟨rfl, hb3⟩
    clear d0 d1 d2 d3 d4 e0 e1 e2 e3 e4 e5 e6 e7 e8
    go_wp2_with fail
    go_ret2
    exact ⟨by rw [E.out]; rfl, hB2.trans (hb3.mono hB2.size)⟩
end Go.Proofs.Ytkhojhgcopnenaa
