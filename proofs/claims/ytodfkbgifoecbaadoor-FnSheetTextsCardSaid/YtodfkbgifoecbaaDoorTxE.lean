/- Numbers and sheets as texts: the program's own functions. What they ask: the package-level variables as the program lays them. -/
import Derived.Test.YtodfkbgifoecbaaDoorTxC
import Derived.Test.YtodfkbgifoecbaaDoorShelfT
import Derived.Test.YtodfkbgifoecbaaDoorApAt
import Derived.Test.YtodfkbgifoecbaaDoorReg
import Derived.Lib.AppendIntMem
import Derived.Laws.BytesArg
import Derived.Lib.AtoiErrMem
import Derived.Laws.Strings
namespace Go.Proofs.YtodfkbgifoecbaaDoor
open Go.RowKit
open Go.Lib hiding intOf
attribute [local go_sem ↓] Go.wp_at_zero Go.wp_at_succ

/-- The package-level variables read as the program lays them, here and wherever nothing below B has turned. -/
def Env (B : Nat) (w : World) : Prop := ∀ w', Below B w w' → w'.ShapedOpen Tryd.prog ∧ Lib.TabIs Tryd.prog w' "internal/strconv.uint64pow10" .u64 Lib.pow10Tab ∧ (∃ tp p, w'.var? Tryd.prog "strconv.ErrSyntax" = some #[.iface tp p]) ∧ ∃ tp p, w'.var? Tryd.prog "strconv.ErrRange" = some #[.iface tp p]
/-- The table of powers alone. -/
def EnvT (B : Nat) (w : World) : Prop := ∀ w', Below B w w' → Lib.TabIs Tryd.prog w' "internal/strconv.uint64pow10" .u64 Lib.pow10Tab
theorem EnvT.on {B : Nat} {w w' : World} (h : EnvT B w) (hb : Below B w w') : EnvT B w' := fun w2 h2 => h w2 (hb.trans h2)
theorem EnvT.here {B : Nat} {w : World} (h : EnvT B w) : Lib.TabIs Tryd.prog w "internal/strconv.uint64pow10" .u64 Lib.pow10Tab := h w (Below.refl _ _)
theorem Env.tab {B : Nat} {w : World} (h : Env B w) : EnvT B w := fun w' h' => (h w' h').2.1
theorem Env.on {B : Nat} {w w' : World} (h : Env B w) (hb : Below B w w') : Env B w' := fun w2 h2 => h w2 (hb.trans h2)
theorem Env.here {B : Nat} {w : World} (h : Env B w) : w.ShapedOpen Tryd.prog ∧ Lib.TabIs Tryd.prog w "internal/strconv.uint64pow10" .u64 Lib.pow10Tab ∧ (∃ tp p, w.var? Tryd.prog "strconv.ErrSyntax" = some #[.iface tp p]) ∧ ∃ tp p, w.var? Tryd.prog "strconv.ErrRange" = some #[.iface tp p] := h w (Below.refl _ _)
def str (l : List UInt8) : ByteArray := ⟨l.toArray⟩
theorem str_data (l : List UInt8) : (str l).data.toList = l := rfl
theorem str_eq (l : List UInt8) (s : ByteArray) : str l = s ↔ l = s.data.toList := by
  constructor
  · intro h; rw [← h]; rfl
  · intro h; rw [h]; rfl
theorem str_size (l : List UInt8) : (str l).size = l.length := by
  show l.toArray.size = l.length
  simp
theorem str_append (a b : List UInt8) : str a ++ str b = str (a ++ b) := by
  apply ByteArray.ext
  simp [str]
theorem size_data (s : ByteArray) : s.data.toList.length = s.size := by
  show s.data.toList.length = s.data.size
  simp
def strs (s : ByteArray) : List Value := [.string s]
abbrev SlS (w : World) (lo hi : Nat) (v : Value) (xs : List ByteArray) : Prop := SlR strs 1 w lo hi v xs
theorem strs_one : ∀ (x : ByteArray), ∀ u ∈ strs x, u.oneCell' = true := by intro x u hu; simp [strs] at hu; subst hu; rfl
theorem Tryd.infoS : (Tryd.prog.info? 9).map (fun i => (i.zero, i.size, i.bytes)) = some (some (.string ⟨#[]⟩), 1, 16) := by kernel_rfl
theorem str_at {w : World} {lo hi : Nat} {xs : List ByteArray} {A : Option Addr} {n c k : Nat} {x : ByteArray} (h : SlS w lo hi (.slice A n c) xs) (hk : xs[k]? = some x) :
    ∃ b off, A = some ⟨b, off, none⟩ ∧ lo ≤ b ∧ b < hi ∧ w.cell? ⟨b, off + k, none⟩ = some (.string x) := by
  obtain ⟨b, off, e, h1, h2, h3⟩ := h.at_ hk
  exact ⟨b, off, e, h1, h2, by have := h3 0 _ rfl; simpa using this⟩
theorem itoa_len {v : Int} (h0 : -9223372036854775808 ≤ v) (h1 : v ≤ 9223372036854775807) : (itoa v).length ≤ 21 := itoa_length_le v h0 h1

theorem bl_ne {a b : ByteArray} (h : a ≠ b) : (a.toList == b.toList) = false := by
  rw [ByteArray.toList_eq, ByteArray.toList_eq, beq_eq_false_iff_ne]
  intro e
  exact h (ByteArray.ext (Array.toList_inj.1 e))
theorem bl_eq (a : ByteArray) : (a.toList == a.toList) = true := beq_self_eq_true _

theorem decimal_any (n : Int) (w : World) (B : Nat) (hE : EnvT B w) (h0 : -9223372036854775808 ≤ n) (h1 : n ≤ 9223372036854775807) :
    Calls Tryd.prog 35 #[.int .i64 n] w fun e w' => e = .returned (.string (str (itoa n))) ∧ Below w.heap.size w w' := by
  have ht := hE.here
  go_enter Tryd.func35, Tryd.ntmps35
  go_wp2_with (go_at_call 60; refine (Tryd.strconv_FormatInt_10 n h0 h1 _ ht).mono ?_; rintro e w' ⟨rfl, k, os, rfl⟩)
  go_ret
  exact ⟨rfl, below_grow _ _ (Nat.le_refl _) _ _⟩

set_option maxHeartbeats 2000000 in
theorem readDecimal_any (s : ByteArray) (w : World) (B : Nat) (hE : Env B w) (hB : B ≤ w.heap.size) (hs : s.size ≤ 281474976710656) :
    Calls Tryd.prog 42 #[.string s] w fun e w' => e = .returned (.tuple #[.int .i64 (rdF s.data.toList).1, .bool (rdF s.data.toList).2]) ∧ Below w.heap.size w w' := by
  have hE1 := hE.here
  cases hp : parseIntB 64 s.data.toList with
  | ok v =>
    have hin := parseIntB_in hp
    have HF : Hid (rdF s.data.toList = if itoa v = s.data.toList then (v, true) else (0, false)) := Lib.hid (by rw [rdF, hp])
    go_enter Tryd.func42, Tryd.ntmps42
    go_wp2_with (fail)
    refine (Tryd.strconv_ParseInt_10_at64_ok s (by omega) v hp _).mono ?_
    rintro e w1 ⟨rfl, hw⟩
    have hb1 : Below w.heap.size w w1 := by
      rcases hw with rfl | ⟨t, rfl⟩
      · exact Below.refl _ _
      · exact bytesWorld_below _ _ _
    clear hw
    by_cases he : itoa v = s.data.toList
    · have h2 : ((str (itoa v)).toList == s.toList) = true := by rw [(str_eq (itoa v) s).2 he]; exact beq_self_eq_true _
      have E := Lib.hid (show rdF s.data.toList = (v, true) by rw [HF.out, if_pos he])
      clear he
      go_wp2_with (go_at_call 35; refine (decimal_any v _ B (hE.tab.on (hb1.mono hB)) hin.1 hin.2).mono ?_; rintro e w' ⟨rfl, hb2⟩)
      go_ret2
      exact ⟨by rw [E.out]; rfl, hb1.trans (hb2.mono hb1.size)⟩
    · have h2 : ((str (itoa v)).toList == s.toList) = false := bl_ne fun e => he ((str_eq (itoa v) s).1 e)
      have E := Lib.hid (show rdF s.data.toList = (0, false) by rw [HF.out, if_neg he])
      clear he
      go_wp2_with (go_at_call 35; refine (decimal_any v _ B (hE.tab.on (hb1.mono hB)) hin.1 hin.2).mono ?_; rintro e w' ⟨rfl, hb2⟩)
      go_ret2
      exact ⟨by rw [E.out]; rfl, hb1.trans (hb2.mono hb1.size)⟩
  | range =>
    have HF : Hid (rdF s.data.toList = (0, false)) := Lib.hid (by rw [rdF, hp])
    obtain ⟨tp, p, hv⟩ := hE1.2.2.2
    go_enter Tryd.func42, Tryd.ntmps42
    go_wp2_with (go_at_call 65; refine (Tryd.strconv_ParseInt_10_at64_range_var s hs hp tp p _ hv).mono ?_; rintro e w' ⟨N, rfl, _, _, hb⟩)
    go_ret2
    exact ⟨by rw [HF.out]; rfl, hb⟩
  | _ =>
    have HF : Hid (rdF s.data.toList = (0, false)) := Lib.hid (by rw [rdF, hp])
    obtain ⟨tp, p, hv⟩ := hE1.2.2.1
    go_enter Tryd.func42, Tryd.ntmps42
    go_wp2_with (go_at_call 65; refine (Tryd.strconv_ParseInt_10_at64_bad_var s hs (fun v e => by rw [hp] at e; cases e) (fun e => by rw [hp] at e; cases e) tp p _ hv).mono ?_; rintro e w' ⟨N, rfl, _, _, hb⟩)
    go_ret2
    exact ⟨by rw [HF.out]; rfl, hb⟩

theorem lens_le : ∀ (ps : List (List UInt8)), (∀ p ∈ ps, p.length ≤ 21) → (joinL 44 ps).length ≤ 22 * ps.length
  | [], _ => Nat.le_refl _
  | [p], h => by have := h p (List.mem_cons_self ..); simp only [joinL, List.length_singleton]; omega
  | p :: q :: r, h => by
    have h1 := h p (List.mem_cons_self ..)
    have h2 := lens_le (q :: r) (fun x hx => h x (List.mem_cons_of_mem _ hx))
    rw [joinL, List.length_append, List.length_cons, List.length_cons]
    omega
theorem numT_len {zs : List Int} (h : ∀ z ∈ zs, -9223372036854775808 ≤ z ∧ z ≤ 9223372036854775807) : (numT zs).length ≤ 22 * zs.length + 1 := by
  unfold numT
  split
  · simp
  · have := lens_le (zs.map itoa) (fun p hp => by obtain ⟨z, hz, rfl⟩ := List.mem_map.1 hp; exact itoa_len (h z hz).1 (h z hz).2)
    rw [List.length_map] at this; omega

set_option maxRecDepth 100000 in
set_option maxHeartbeats 4000000 in
theorem numbersText_any (v : Value) (zs : List Int) (w : World) (lo : Nat) (h : SlI w lo w.heap.size v zs) (B : Nat) (hE : EnvT B w) (hB : B ≤ w.heap.size) (hl : zs.length ≤ 1048576) (hz : ∀ z ∈ zs, -9223372036854775808 ≤ z ∧ z ≤ 9223372036854775807) :
    Calls Tryd.prog 36 #[v] w fun e w' => e = .returned (.string (str (numT zs))) ∧ Below w.heap.size w w' := by
  obtain ⟨A, c, rfl, hc1, hc2⟩ := h.form
  by_cases h0 : zs.length = 0
  · have e : zs = [] := List.eq_nil_of_length_eq_zero h0
    subst e
    go_enter Tryd.func36, Tryd.ntmps36
    go_wp2_with fail
    go_ret
    exact ⟨rfl, Below.refl _ _⟩
  · have hne : zs ≠ [] := fun e => h0 (by rw [e]; rfl)
    have hlen := numT_len hz
    have hd : ((zs.length : Int) == 0) = false := by simp; omega
    have HN : Hid (numT zs = joinL 44 (zs.map itoa)) := Lib.hid (by rw [numT, if_neg hne])
    have HL := Lib.hid hlen
    have H0 := Lib.hid h0
    have HZ := Lib.hid hz
    clear hlen hne h0 hz
    go_enter Tryd.func36, Tryd.ntmps36
    go_wp2_with fail
    go_loopw [3, 12] (fun q i wr => ∃ (k : Nat), i = .int .i64 k ∧ k ≤ zs.length ∧ OwnR strs 1 wr w.heap.size 9 q ((zs.map fun z => str (itoa z)).take k) ∧ Below w.heap.size w wr) (fun q i wr => zs.length - (intOf i).toNat)
    case atStart => exact ⟨0, rfl, Nat.zero_le _, own_empty w _ 1 strs, (Below.refl _ _).alloc (Nat.le_refl _) _⟩
    case round =>
      obtain ⟨k, rfl, hk, hown, hbr⟩ := hrel
      have hsz := hbr.size
      by_cases hlt : k < zs.length
      · obtain ⟨z, hz⟩ := some_at hlt
        obtain ⟨b, off, rfl, _, hbb, c0⟩ := SlR.int_at ((h.below hbr (Nat.le_refl _)).more (Nat.le_refl _) hbr.size) hz
        have hzb := HZ.out z (List.mem_of_getElem? hz)
        have HK : Hid ((zs.map fun z => str (itoa z)).take (k + 1) = (zs.map fun z => str (itoa z)).take k ++ [str (itoa z)]) := Lib.hid (take_snoc (by rw [List.getElem?_map, hz]; rfl))
        clear hz
        go_wp2_with fail
        refine (decimal_any z wr B (hE.on (hbr.mono hB)) hzb.1 hzb.2).mono ?_
        rintro e w2 ⟨rfl, hb2⟩
        have hown2 := hown.below hb2
        have hbr2 := hbr.trans (hb2.mono hbr.size)
        have hs2 := hbr2.size
        clear hown c0
        go_wp2_with (at_builtin; refine wpList_append_rec (f := strs) (s := 1) 9 _ _ (fun _ => rfl) strs_one rfl _ _ 59 rfl w.heap.size Tryd.infoS Tryd.underlying59 rfl (by decide) _ _ (str (itoa z)) rfl hown2 rfl rfl rfl (by rw [List.length_take, List.length_map]; omega) (by rw [List.length_take, List.length_map]; omega) (by omega) ?_)
        intro v' w3 o3 hb3
        have hb3 := hb3 _ _ hbr2 (Nat.le_refl _)
        go_wp2_with fail
        go_roundw
        case rel => exact ⟨k + 1, by go_num, hlt, by rw [HK.out]; exact o3, hb3⟩
        case measure => simp [intOf]; omega
      · have hkn : k = zs.length := by omega
        subst hkn
        rw [List.take_of_length_le (by rw [List.length_map]; exact Nat.le_refl _)] at hown
        have hsl := own_slR (f := strs) (s := 1) (fun _ => rfl) (OwnR.own hown)
        have hml : (zs.map fun z => str (itoa z)).length = zs.length := List.length_map _
        obtain ⟨A', c', rfl, hcc1, hcc2⟩ := hsl.form
        have hpos : 0 < (zs.map fun z => str (itoa z)).length := by rw [hml]; have := H0.out; omega
        obtain ⟨x0, hx0⟩ := some_at hpos
        obtain ⟨bk, o, rfl, _, hbk, _⟩ := str_at hsl hx0
        have hcells : ∀ (j : Nat) x, (zs.map fun z => str (itoa z))[j]? = some x → wr.cell? ⟨bk, o + j, none⟩ = some (.string x) := by
          intro j x hx
          obtain ⟨b', o', e, _, _, hc⟩ := str_at hsl hx
          injection e with e
          injection e with e1 e2
          subst e1 e2
          exact hc
        have hj : (zs.map fun z => str (itoa z)).map (·.data.toList) = zs.map itoa := by
          rw [List.map_map]; rfl
        have HJ : Hid (Lib.join ((zs.map fun z => str (itoa z)).map (·.data.toList)) [44] = numT zs) := Lib.hid (by rw [hj, join_eq, HN.out])
        have CJ := Tryd.strings_Join bk o c' (zs.map fun z => str (itoa z)) ⟨#[44]⟩ wr hcells hbk (by rw [hml]; omega) hcc1 (by show (Lib.join _ [44]).length ≤ _; rw [HJ.out]; have := HL.out; omega)
        have e44 : (⟨#[44]⟩ : ByteArray).data.toList = [44] := rfl
        rw [e44, HJ.out, hml] at CJ
        clear hcells hx0 hj hsl hown e44
        go_wp2_with fail
        refine CJ.mono ?_
        clear CJ
        rintro e w4 ⟨rfl, hb4⟩
        go_wp2_with fail
        go_ret
        exact ⟨rfl, hbr.trans (hb4.mono hbr.size)⟩
end Go.Proofs.YtodfkbgifoecbaaDoor
