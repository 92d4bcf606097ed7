/- The words of reasons: the program's and the reference's functions answer the same function of the number. No condition. -/
import Derived.Test.YtkhojhgcopnenaaQualA
import Derived.Test.YtkhojhgcopnenaaTxB
import Derived.Test.YtkhojhgcopnenaaShelfT
import Derived.Test.YtkhojhgcopnenaaReg
import Derived.Laws.Strings
import Derived.Laws.DeepStrings4
namespace Go.Proofs.Ytkhojhgcopnenaa
open Go.RowKit
open Go.Lib hiding intOf
attribute [local go_sem ↓] Go.wp_at_zero Go.wp_at_succ

def str (l : List UInt8) : ByteArray := ⟨l.toArray⟩
theorem str_size (l : List UInt8) : (str l).size = l.length := by
  show l.toArray.size = l.length
  simp
theorem str_append (a b : List UInt8) : str a ++ str b = str (a ++ b) := by
  apply ByteArray.ext
  simp [str]
theorem str_of (s : ByteArray) : str s.data.toList = s := rfl
theorem size_data (s : ByteArray) : s.data.toList.length = s.size := by
  show s.data.toList.length = s.data.size
  simp
def strs (s : ByteArray) : List Value := [.string s]
abbrev SlS (w : World) (lo hi : Nat) (v : Value) (xs : List ByteArray) : Prop := SlR strs 1 w lo hi v xs
theorem strs_one : ∀ (x : ByteArray), ∀ u ∈ strs x, u.oneCell' = true := by intro x u hu; simp [strs] at hu; subst hu; rfl
theorem Try.infoS : (Try.prog.info? 9).map (fun i => (i.zero, i.size, i.bytes)) = some (some (.string ⟨#[]⟩), 1, 16) := by kernel_rfl
theorem str_at {w : World} {lo hi : Nat} {xs : List ByteArray} {A : Option Addr} {n c k : Nat} {x : ByteArray} (h : SlS w lo hi (.slice A n c) xs) (hk : xs[k]? = some x) :
    ∃ b off, A = some ⟨b, off, none⟩ ∧ lo ≤ b ∧ b < hi ∧ w.cell? ⟨b, off + k, none⟩ = some (.string x) := by
  obtain ⟨b, off, e, h1, h2, h3⟩ := h.at_ hk
  exact ⟨b, off, e, h1, h2, by have := h3 0 _ rfl; simpa using this⟩
theorem bl_eq (a : ByteArray) : (a.toList == a.toList) = true := beq_self_eq_true _
theorem joinL_snocQ (c : UInt8) (p : List UInt8) : ∀ ps : List (List UInt8), ps ≠ [] → joinL c (ps ++ [p]) = joinL c ps ++ c :: p
  | [], h => absurd rfl h
  | [q], _ => rfl
  | q :: r :: t, _ => by
    have ih := joinL_snocQ c p (r :: t) (by simp)
    rw [List.cons_append, joinL_cons q (by simp), ih, joinL_cons q (by simp)]
    simp
def bytesOf (xs : List ByteArray) : List (List UInt8) := xs.map (·.data.toList)
theorem joinQ_len : ∀ (xs : List ByteArray), (∀ x ∈ xs, x.size ≤ 16) → (joinL 44 (bytesOf xs)).length ≤ 17 * xs.length
  | [], _ => Nat.le_refl _
  | [p], h => by have := h p (List.mem_cons_self ..); simp only [bytesOf, List.map_cons, List.map_nil, joinL, List.length_singleton]; rw [size_data]; omega
  | p :: q :: r, h => by
    have h1 := h p (List.mem_cons_self ..)
    have h2 := joinQ_len (q :: r) (fun x hx => h x (List.mem_cons_of_mem _ hx))
    simp only [bytesOf, List.map_cons, joinL, List.length_append, List.length_cons] at h2 ⊢
    rw [size_data]
    omega

/-- The words whose bits are set. -/
def pickW : Nat → List ByteArray → List ByteArray
  | _, [] => []
  | n, x :: t => if n % 2 = 1 then x :: pickW (n / 2) t else pickW (n / 2) t
def words7 : List ByteArray := [⟨#[121, 111, 117, 110, 103]⟩, ⟨#[111, 108, 100]⟩, ⟨#[122, 111, 110, 101]⟩, ⟨#[102, 111, 114, 101, 105, 103, 110]⟩, ⟨#[99, 111, 110, 118, 105, 99, 116, 101, 100]⟩, ⟨#[108, 97, 110, 103, 117, 97, 103, 101]⟩, ⟨#[106, 111, 98]⟩]
def rsnW (n : Nat) : List ByteArray := pickW n words7
def rsnT (n : Nat) : List UInt8 := if rsnW n = [] then [45] else joinL 44 (bytesOf (rsnW n))
def rsnF (z : Int) : List UInt8 × Int := if 0 ≤ z ∧ z ≤ 127 then (rsnT z.toNat, 0) else ([], 1)
theorem pickW_mem : ∀ (l : List ByteArray) (n : Nat), ∀ x ∈ pickW n l, x ∈ l
  | [], _, x, h => by simp [pickW] at h
  | y :: t, n, x, h => by
    rw [pickW] at h
    split at h
    · rcases List.mem_cons.1 h with h | h
      · exact h ▸ List.mem_cons_self ..
      · exact List.mem_cons_of_mem _ (pickW_mem t _ x h)
    · exact List.mem_cons_of_mem _ (pickW_mem t _ x h)
theorem pickW_len : ∀ (l : List ByteArray) (n : Nat), (pickW n l).length ≤ l.length
  | [], _ => by simp [pickW]
  | y :: t, n => by
    have := pickW_len t (n / 2)
    rw [pickW]
    split <;> simp <;> omega
theorem words7_ok : ∀ x ∈ words7, wordB x = true ∧ x.size ≤ 16 := by decide
theorem rsnW_ok (n : Nat) : (∀ x ∈ rsnW n, wordB x = true ∧ x.size ≤ 16) ∧ (rsnW n).length ≤ 7 := ⟨fun x hx => words7_ok x (pickW_mem _ _ x hx), pickW_len _ _⟩
theorem pick_yes {n k : Nat} {x : ByteArray} {l : List ByteArray} (hx : l[k]? = some x) (h : n / 2 ^ k % 2 = 1) : pickW (n / 2 ^ k) (l.drop k) = x :: pickW (n / 2 ^ (k + 1)) (l.drop (k + 1)) := by
  rw [drop_cons hx, pickW, if_pos h, Nat.div_div_eq_div_mul, ← Nat.pow_succ]
theorem pick_no {n k : Nat} {x : ByteArray} {l : List ByteArray} (hx : l[k]? = some x) (h : ¬ n / 2 ^ k % 2 = 1) : pickW (n / 2 ^ k) (l.drop k) = pickW (n / 2 ^ (k + 1)) (l.drop (k + 1)) := by
  rw [drop_cons hx, pickW, if_neg h, Nat.div_div_eq_div_mul, ← Nat.pow_succ]
theorem rsn_dash : ∀ n : Fin 128, (rsnT n.val = [45]) ↔ n.val = 0 := by decide +kernel
theorem bit_one : ∀ v : Fin 128, Go.bits BinOp.and IntKind.i64 ((v.val : Nat) : Int) 1 = ((v.val % 2 : Nat) : Int) := by decide
theorem bit_at {n k : Nat} (hn : n ≤ 127) : Go.bits BinOp.and IntKind.i64 ((n : Int) / 2 ^ k) 1 = ((n / 2 ^ k % 2 : Nat) : Int) := by
  have e : (n : Int) / 2 ^ k = ((n / 2 ^ k : Nat) : Int) := by
    rw [Int.natCast_ediv, Int.natCast_pow]; rfl
  rw [e]
  have hlt : n / 2 ^ k < 128 := Nat.lt_of_le_of_lt (Nat.div_le_self _ _) (by omega)
  exact bit_one ⟨n / 2 ^ k, hlt⟩

set_option maxRecDepth 100000 in
set_option maxHeartbeats 2000000 in
theorem areWords_any (v : Value) (xs : List ByteArray) (w : World) (lo hi : Nat) (h : SlS w lo hi v xs) (hx : ∀ x ∈ xs, wordB x = true ∧ x.size ≤ 16) :
    Calls Try.prog 85 #[v] w fun e w' => e = .returned (.bool true) ∧ w = w' := by
  obtain ⟨A, c, rfl, hc1, hc2⟩ := h.form
  have HX := Lib.hid hx
  clear hx
  go_enter Try.func85, Try.ntmps85
  go_wp2_with fail
  go_loop [7] (fun i => ∃ (k : Nat), i = .int .i64 k ∧ k ≤ xs.length) (fun i => xs.length - (RowKit.intOf i).toNat)
  case atStart => exact ⟨0, rfl, Nat.zero_le _⟩
  case round =>
    obtain ⟨k, rfl, hk⟩ := hrel
    by_cases hlt : k < xs.length
    · obtain ⟨x, hx⟩ := some_at hlt
      obtain ⟨b, off, rfl, _, _, c0⟩ := str_at h hx
      obtain ⟨hw, hs⟩ := HX.out x (List.mem_of_getElem? hx)
      have hs2 : x.size ≤ maxLen := by unfold maxLen; omega
      have C := implIsWord_as hw w hs2
      clear hx hw hs hs2
      go_wp2_with (go_at_call 87; refine C.mono ?_; rintro e w' ⟨rfl, rfl⟩)
      go_round
      case rel => exact ⟨k + 1, by go_num, hlt⟩
      case measure => simp [RowKit.intOf]; omega
    · go_wp2_with fail
      go_ret
      exact ⟨rfl, rfl⟩

set_option maxRecDepth 100000 in
set_option maxHeartbeats 4000000 in
theorem implWordsText_any (v : Value) (xs : List ByteArray) (w : World) (lo : Nat) (h : SlS w lo w.heap.size v xs) (hx : ∀ x ∈ xs, wordB x = true ∧ x.size ≤ 16) (hl : xs.length ≤ 7) :
    Calls Try.prog 74 #[v] w fun e w' => e = .returned (.tuple #[.string (str (if xs = [] then [45] else joinL 44 (bytesOf xs))), .int .i64 0]) ∧ Below w.heap.size w w' := by
  obtain ⟨A, c, rfl, hc1, hc2⟩ := h.form
  have CA := areWords_any _ xs w _ _ h hx
  have hd : decide ((xs.length : Int) ≤ 60) = true := by simp; omega
  have CF : Calls Try.prog 57 #[.int .i64 (xs.length : Int), .int .i64 60] w fun e w' => e = .returned (.bool (decide ((xs.length : Int) ≤ 60))) ∧ w = w' := few_any _ _ _
  rw [hd] at CF
  by_cases h0 : xs = []
  · subst h0
    rw [if_pos rfl]
    go_enter Try.func74, Try.ntmps74
    go_wp2_with (first | (go_at_call 85; refine CA.mono ?_; rintro e w' ⟨rfl, rfl⟩) | (go_at_call 57; refine CF.mono ?_; rintro e w' ⟨rfl, rfl⟩))
    go_ret2
    exact ⟨rfl, Below.refl _ _⟩
  · have hpos : 0 < xs.length := by
      rcases Nat.eq_zero_or_pos xs.length with h | h
      · exact absurd (List.eq_nil_of_length_eq_zero h) h0
      · exact h
    have hd2 : ((xs.length : Int) == 0) = false := by rw [beq_eq_false_iff_ne]; omega
    rw [if_neg h0]
    obtain ⟨x0, hx0⟩ := some_at hpos
    obtain ⟨bk, o, rfl, _, hbk, _⟩ := str_at h hx0
    have hcells : ∀ (j : Nat) x, xs[j]? = some x → w.cell? ⟨bk, o + j, none⟩ = some (.string x) := by
      intro j x hx
      obtain ⟨b', o', e, _, _, hc⟩ := str_at h hx
      injection e with e
      injection e with e1 e2
      subst e1 e2
      exact hc
    have HJ : Hid (Lib.join (xs.map (·.data.toList)) [44] = joinL 44 (bytesOf xs)) := Lib.hid (join_eq 44 _)
    have hjl := joinQ_len xs (fun x hx' => (hx x hx').2)
    have CJ := Try.strings_Join bk o c xs ⟨#[44]⟩ w hcells hbk (by omega) hc1 (by show (Lib.join _ [44]).length ≤ _; rw [HJ.out]; omega)
    have e44 : (⟨#[44]⟩ : ByteArray).data.toList = [44] := rfl
    rw [e44, HJ.out] at CJ
    clear hcells hx0 e44 h0 hpos hx
    go_enter Try.func74, Try.ntmps74
    go_wp2_with (first | (go_at_call 85; refine CA.mono ?_; rintro e w' ⟨rfl, rfl⟩) | (go_at_call 57; refine CF.mono ?_; rintro e w' ⟨rfl, rfl⟩))
    refine CJ.mono ?_
    clear CJ
    rintro e w4 ⟨rfl, hb4⟩
    go_wp2_with fail
    go_ret2
    exact ⟨rfl, hb4⟩

set_option maxRecDepth 100000 in
set_option maxHeartbeats 4000000 in
theorem l01Words_any (v : Value) (xs : List ByteArray) (w : World) (lo : Nat) (h : SlS w lo w.heap.size v xs) (hx : ∀ x ∈ xs, x.size ≤ 16) (hl : xs.length ≤ 7) :
    Calls Try.prog 75 #[v, .string ⟨#[44]⟩] w fun e w' => e = .returned (.string (str (joinL 44 (bytesOf xs)))) ∧ Below w.heap.size w w' := by
  obtain ⟨A, c, rfl, hc1, hc2⟩ := h.form
  have HX := Lib.hid hx
  clear hx
  go_enter Try.func75, Try.ntmps75
  go_wp2_with fail
  go_loopw [5, 6] (fun q i wr => ∃ (k : Nat) (s : ByteArray), i = .int .i64 k ∧ q = .string s ∧ k ≤ xs.length ∧ Hid (s = str (joinL 44 (bytesOf (xs.take k)))) ∧ s.size ≤ 17 * k ∧ Below w.heap.size w wr) (fun q i wr => xs.length - (RowKit.intOf i).toNat)
  case atStart => exact ⟨0, ⟨#[]⟩, rfl, rfl, Nat.zero_le _, Lib.hid rfl, Nat.le_refl _, Below.refl _ _⟩
  case round =>
    obtain ⟨k, s, rfl, rfl, hk, HS, hsz, hbr⟩ := hrel
    by_cases hlt : k < xs.length
    · obtain ⟨x, hx⟩ := some_at hlt
      obtain ⟨b, off, rfl, _, hbb, c0⟩ := str_at ((h.below hbr (Nat.le_refl _)).more (Nat.le_refl _) hbr.size) hx
      have hs2 := HX.out x (List.mem_of_getElem? hx)
      by_cases hk0 : k = 0
      · subst hk0
        simp only [Nat.add_zero] at c0
        have HK := Lib.hid (show s ++ x = str (joinL 44 (bytesOf (xs.take (0 + 1)))) by rw [HS.out, take_snoc hx]; exact (str_append [] x.data.toList))
        have hse : (s ++ x).size ≤ 17 * (0 + 1) := by rw [ByteArray.size_append]; omega
        clear hx
        have q1 : ¬ (9223372036854775807 < s.size + x.size) := by omega
        go_wp2_with fail
        go_roundw
        case rel => exact ⟨0 + 1, s ++ x, by go_num, rfl, hlt, HK, hse, hbr⟩
        case measure => simp [RowKit.intOf]; omega
      · have hne : bytesOf (xs.take k) ≠ [] := by
          intro e
          have := congrArg List.length e
          rw [bytesOf, List.length_map, List.length_take, List.length_nil] at this
          omega
        have HK := Lib.hid (show s ++ (⟨#[44]⟩ : ByteArray) ++ x = str (joinL 44 (bytesOf (xs.take (k + 1)))) by
          have e1 : bytesOf (xs.take (k + 1)) = bytesOf (xs.take k) ++ [x.data.toList] := by rw [take_snoc hx]; simp [bytesOf]
          rw [e1, joinL_snocQ _ _ _ hne, HS.out, show (⟨#[44]⟩ : ByteArray) = str [44] from rfl, ← str_of x, str_append, str_append, str_of]; simp)
        have e44 : (⟨#[44]⟩ : ByteArray).size = 1 := rfl
        have hse : (s ++ (⟨#[44]⟩ : ByteArray) ++ x).size ≤ 17 * (k + 1) := by rw [ByteArray.size_append, ByteArray.size_append, e44]; omega
        have hkp : (0 : Int) < (k : Int) := by omega
        clear hx hne e44
        have q1 : ¬ (9223372036854775807 < s.size + 1) := by omega
        have q2 : ¬ (9223372036854775807 < s.size + 1 + x.size) := by omega
        go_wp2_with fail
        go_roundw
        case rel => exact ⟨k + 1, s ++ (⟨#[44]⟩ : ByteArray) ++ x, by go_num, rfl, hlt, HK, hse, hbr⟩
        case measure => simp [RowKit.intOf]; omega
    · have hkn : k = xs.length := by omega
      subst hkn
      have HK := HS.out
      rw [List.take_length] at HK
      have HK := Lib.hid HK
      go_wp2_with fail
      go_ret
      exact ⟨by rw [HK.out]; rfl, hbr⟩
end Go.Proofs.Ytkhojhgcopnenaa

