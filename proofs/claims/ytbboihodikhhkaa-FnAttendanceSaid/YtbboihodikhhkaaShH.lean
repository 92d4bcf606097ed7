/- MostPresent: the reference's. No condition. -/
import Derived.Test.YtbboihodikhhkaaShE
namespace Go.Proofs.Ytbboihodikhhkaa
open Go.RowKit

def cntOf (z : List (Int × List Int)) (x : Int) : Nat := (daysOf z x).length
def mostStep (z : List (Int × List Int)) (s : Int × Nat) (x : Int) : Int × Nat := if s.2 < cntOf z x ∨ (cntOf z x = s.2 ∧ x < s.1) then (x, cntOf z x) else s
def mostGo (z : List (Int × List Int)) : Int × Nat := (z.flatMap (·.2)).foldl (mostStep z) (0, 0)
def mostF (z : List (Int × List Int)) : Int × Int × Int := if sheetsOk z = true then if (mostGo z).2 = 0 then (0, 0, 4) else ((mostGo z).1, (mostGo z).2, 0) else (0, 0, 1)
theorem cntOf_le (z : List (Int × List Int)) (x : Int) : cntOf z x ≤ z.length := daysOf_len z x

set_option maxRecDepth 100000 in
set_option maxHeartbeats 4000000 in
theorem specMostPresent_any (v : Value) (z : List (Int × List Int)) (w : World) (lo : Nat) (h : RdH w lo w.heap.size v z) :
    Calls Try.prog 8 #[v] w fun e w' => e = .returned (.tuple #[.int .i64 (mostF z).1, .int .i64 (mostF z).2.1, .int .i64 (mostF z).2.2]) ∧ Below w.heap.size w w' := by
  have hz := h
  obtain ⟨xs, h, hct⟩ := h
  have hxl : xs.length = z.length := by rw [← hct, List.length_map]
  obtain ⟨A, c, rfl, hc1, hc2⟩ := h.form
  have Hxl := Lib.hid hxl
  have Hct := Lib.hid hct
  clear hxl hct
  go_enter Try.func8, Try.ntmps8
  go_wp2_with fail
  refine (specAreSheets_z _ z w lo hz).mono ?_
  rintro e w1 ⟨rfl, hb1⟩
  cases h1 : sheetsOk z
  · have hF : mostF z = (0, 0, 1) := by simp [mostF, h1]
    have HF := Lib.hid hF
    clear hF
    go_wp2_with fail
    go_ret3
    exact ⟨by rw [HF.out]; rfl, hb1⟩
  have hlen : z.length ≤ 15 := sheetsOk_len h1
  have h' : SlH w1 lo w1.heap.size (.slice A xs.length c) xs := (h.below hb1 (Nat.le_refl _)).more (Nat.le_refl _) hb1.size
  have hz' : RdH w1 lo w1.heap.size (.slice A xs.length c) z := (hz.below hb1 (Nat.le_refl _)).more (Nat.le_refl _) hb1.size
  have hF : mostF z = (if (mostGo z).2 = 0 then ((0 : Int), (0 : Int), (4 : Int)) else ((mostGo z).1, ((mostGo z).2 : Int), (0 : Int))) := by simp [mostF, h1]
  have HF := Lib.hid hF
  have hcnt : ∀ x, cntOf z x ≤ 15 := fun x => Nat.le_trans (cntOf_le z x) hlen
  have Hcnt := Lib.hid hcnt
  have hx15 : xs.length ≤ 15 := by have := Hxl.out; omega
  clear hF hz h hcnt
  go_wp2_with fail
  go_loopw [5, 6, 7] (fun q r i wr => ∃ (k : Nat) (b : Int) (m : Nat), i = .int .i64 k ∧ q = .int .i64 b ∧ r = .int .i64 m ∧ k ≤ xs.length ∧ m ≤ 15 ∧ Hid (mostGo z = ((z.drop k).flatMap (·.2)).foldl (mostStep z) (b, m)) ∧ Below w1.heap.size w1 wr) (fun q r i wr => xs.length - (intOf i).toNat)
  case atStart => exact ⟨0, 0, 0, rfl, rfl, rfl, Nat.zero_le _, Nat.zero_le _, Lib.hid rfl, Below.refl _ _⟩
  case round =>
    obtain ⟨k, b, m, rfl, rfl, rfl, hk, hm, Hgo, hbr⟩ := hrel
    by_cases hlt : k < xs.length
    · obtain ⟨x, hx⟩ := some_at hlt
      have hzx : z[k]? = some x.ct := by rw [← Hct.out, List.getElem?_map, hx]; rfl
      have Hd := Lib.hid (drop_cons hzx)
      have Hx := Lib.hid hx
      have Hgo2 := Lib.hid (show mostGo z = (x.pres ++ (z.drop (k + 1)).flatMap (·.2)).foldl (mostStep z) (b, m) by rw [Hgo.out, Hd.out]; rfl)
      clear hx hzx Hgo
      go_wp2_with fail
      obtain ⟨wo, rfl⟩ : ∃ wo : World, wo = wr := ⟨_, rfl⟩
      go_loopw [5, 6, 8] (fun q r i wr2 => ∃ (j : Nat) (b : Int) (m : Nat), i = .int .i64 j ∧ q = .int .i64 b ∧ r = .int .i64 m ∧ j ≤ x.pres.length ∧ m ≤ 15 ∧ Hid (mostGo z = (x.pres.drop j ++ (z.drop (k + 1)).flatMap (·.2)).foldl (mostStep z) (b, m)) ∧ Below w1.heap.size w1 wr2) (fun q r i wr2 => x.pres.length - (intOf i).toNat)
      case atStart => exact ⟨0, b, m, rfl, rfl, rfl, Nat.zero_le _, hm, Hgo2, hbr⟩
      case round =>
        obtain ⟨j, b2, m2, rfl, rfl, rfl, hj, hm2, Hg, hbr2⟩ := hrel
        have hs2 := hbr2.size
        obtain ⟨bb, off, rfl, _, hbb, c0, c1, hin⟩ := ((h'.below hbr2 (Nat.le_refl _)).more (Nat.le_refl _) hs2).at_ Hx.out
        by_cases hlt2 : j < x.pres.length
        · obtain ⟨y, hy⟩ := some_at hlt2
          have Hy := Lib.hid (drop_cons hy)
          obtain ⟨b3, off3, e3, _, hb3, d0⟩ := hin.int_at hy
          obtain ⟨hcc1, hcc2⟩ := hin.caps
          have hst : mostGo z = (x.pres.drop (j + 1) ++ (z.drop (k + 1)).flatMap (·.2)).foldl (mostStep z) (mostStep z (b2, m2) y) := by rw [Hg.out, Hy.out]; rfl
          have Hst := Lib.hid hst
          have E3 := Lib.hid e3
          obtain ⟨day, AA, cc, pres⟩ := x
          dsimp only at *
          have e3' : AA = some ⟨b3, off3, none⟩ := E3.out
          subst e3'
          clear hy hst e3
          go_wp2_with fail
          refine (l11Days_any _ z y _ lo ((hz'.below hbr2 (Nat.le_refl _)).more (Nat.le_refl _) hs2) (by omega)).mono ?_
          rintro e w4 ⟨v4, rfl, o4, hb4⟩
          obtain ⟨A4, c4, rfl, _, _, _⟩ := own_form (OwnR.own o4)
          have hcy : (daysOf z y).length ≤ 15 := Hcnt.out y
          have hB4 := hbr2.trans (hb4.mono hs2)
          have hms : mostStep z (b2, m2) y = if m2 < (daysOf z y).length ∨ ((daysOf z y).length = m2 ∧ y < b2) then (y, (daysOf z y).length) else (b2, m2) := rfl
          generalize (daysOf z y).length = nn at *
          by_cases q1 : m2 < nn
          · have hS : mostStep z (b2, m2) y = (y, nn) := by rw [hms, if_pos (.inl q1)]
            have HS := Lib.hid hS
            clear hS hms
            go_wp2_with fail
            go_roundw
            case rel => exact ⟨j + 1, y, nn, by go_num, rfl, rfl, hlt2, hcy, Lib.hid (by rw [Hst.out, HS.out]), hB4⟩
            case measure => simp [intOf]; omega
          · by_cases q2 : nn = m2
            · subst q2
              by_cases q3 : y < b2
              · have hS : mostStep z (b2, nn) y = (y, nn) := by rw [hms, if_pos (.inr ⟨rfl, q3⟩)]
                have HS := Lib.hid hS
                clear hS hms
                go_wp2_with fail
                go_roundw
                case rel => exact ⟨j + 1, y, nn, by go_num, rfl, rfl, hlt2, hcy, Lib.hid (by rw [Hst.out, HS.out]), hB4⟩
                case measure => simp [intOf]; omega
              · have hS : mostStep z (b2, nn) y = (b2, nn) := by rw [hms, if_neg (by omega)]
                have HS := Lib.hid hS
                clear hS hms
                go_wp2_with fail
                go_roundw
                case rel => exact ⟨j + 1, b2, nn, by go_num, rfl, rfl, hlt2, hcy, Lib.hid (by rw [Hst.out, HS.out]), hB4⟩
                case measure => simp [intOf]; omega
            · have hS : mostStep z (b2, m2) y = (b2, m2) := by rw [hms, if_neg (by omega)]
              have HS := Lib.hid hS
              have q2' : ((nn : Int) == (m2 : Int)) = false := by simp; omega
              clear hS hms
              go_wp2_with fail
              go_roundw
              case rel => exact ⟨j + 1, b2, m2, by go_num, rfl, rfl, hlt2, hm2, Lib.hid (by rw [Hst.out, HS.out]), hB4⟩
              case measure => simp [intOf]; omega
        · have hjn : x.pres.drop j = [] := List.drop_eq_nil_of_le (by omega)
          have Hg2 := Lib.hid (show mostGo z = ((z.drop (k + 1)).flatMap (·.2)).foldl (mostStep z) (b2, m2) by rw [Hg.out, hjn]; rfl)
          clear hjn
          go_wp2_with fail
          go_roundw
          case rel => exact ⟨k + 1, b2, m2, by go_num, rfl, rfl, hlt, hm2, Hg2, hbr2⟩
          case measure => simp [intOf]; omega
    · have hkn : z.drop k = [] := List.drop_eq_nil_of_le (by have := Hxl.out; omega)
      have hfin : mostGo z = (b, m) := by rw [Hgo.out, hkn]; rfl
      have HG := Lib.hid hfin
      clear hkn hfin
      have hB := hb1.trans (hbr.mono hb1.size)
      by_cases q0 : m = 0
      · have hq : ((m : Int) == 0) = true := by simp [q0]
        have Hq := Lib.hid q0
        clear q0
        go_wp2_with fail
        go_ret3
        exact ⟨by rw [HF.out, HG.out, if_pos Hq.out]; rfl, hB⟩
      · have hq : ((m : Int) == 0) = false := by simp [q0]
        have Hq := Lib.hid q0
        clear q0
        go_wp2_with fail
        go_ret3
        exact ⟨by rw [HF.out, HG.out, if_neg Hq.out]; rfl, hB⟩
end Go.Proofs.Ytbboihodikhhkaa
