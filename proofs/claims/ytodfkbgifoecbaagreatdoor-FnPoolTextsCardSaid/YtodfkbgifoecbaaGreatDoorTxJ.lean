/- Lists and sheets read from texts: the program's own functions. What they ask: the package-level variables as the program lays them, and a text of bounded size. -/
import Derived.Test.YtodfkbgifoecbaaGreatDoorTxI
import Derived.Lib.SplitLaws
namespace Go.Proofs.YtodfkbgifoecbaaGreatDoor
open Go.RowKit
open Go.Lib hiding intOf
attribute [local go_sem ↓] Go.wp_at_zero Go.wp_at_succ

theorem splitL_size (c : UInt8) : ∀ l : List UInt8, (splitL c l).length ≤ l.length + 1 ∧ ∀ p ∈ splitL c l, p.length ≤ l.length := by
  intro l
  induction h : l.length using Nat.strongRecOn generalizing l with
  | _ n ih =>
    by_cases hm : c ∈ l
    · obtain ⟨a, b, rfl, ha⟩ := split_at hm
      have hl : (a ++ c :: b).length = a.length + (b.length + 1) := by simp
      obtain ⟨h1, h2⟩ := ih b.length (by omega) b rfl
      rw [splitL_some b ha]
      refine ⟨by rw [List.length_cons]; omega, fun p hp => ?_⟩
      rcases List.mem_cons.1 hp with rfl | hp
      · omega
      · have := h2 p hp; omega
    · rw [splitL_none hm]
      exact ⟨by simp, fun p hp => by rw [List.mem_singleton.1 hp]; omega⟩
theorem slS_of_blk {w : World} {g : Nat} {t : TypeId} (xs : List ByteArray) (b : Blk w g t (xs.map Value.string).toArray) (hn : xs.length ≤ 9223372036854775807) : SlS w g w.heap.size (.slice (some ⟨g, 0, none⟩) xs.length xs.length) xs := by
  refine ⟨fun _ => rfl, ⟨some ⟨g, 0, none⟩, xs.length, rfl, Nat.le_refl _, hn, flatMap_len (f := strs) (s := 1) (fun _ => rfl) xs, fun _ => ⟨g, 0, rfl, Nat.le_refl _, b.lt, fun j u hu => ?_⟩⟩⟩
  rw [Nat.zero_add, b.cell]
  have e : ∀ xs : List ByteArray, xs.flatMap strs = xs.map Value.string := fun xs => by
    induction xs with
    | nil => rfl
    | cons x t ih => rw [List.flatMap_cons, ih]; rfl
  rw [e xs] at hu
  simpa using hu
theorem split_any (s : ByteArray) (c : UInt8) (w : World) (h : w.ShapedOpen Tryz.prog) (hs : s.size ≤ 1048576) :
    Calls Tryz.prog 22 #[.string s, .string ⟨#[c]⟩] w fun e w' => ∃ (A : Option Addr) (n cp : Nat) (xs : List ByteArray), e = .returned (.slice A n cp) ∧ n = xs.length ∧ SlS w' w.heap.size w'.heap.size (.slice A n cp) xs ∧ Hid (xs.map (·.data.toList) = splitL c s.data.toList) ∧ xs.length ≤ s.size + 1 ∧ Hid (∀ x ∈ xs, x.size ≤ s.size) ∧ Below w.heap.size w w' := by
  refine (Tryz.strings_Split_shaped s ⟨#[c]⟩ w h (by omega) (Nat.le_refl _)).mono ?_
  rintro e w' ⟨rfl, rfl⟩
  have e1 : (splitB ⟨#[c]⟩ 0 (countB s ⟨#[c]⟩) s).map (·.data.toList) = splitL c s.data.toList := by
    rw [splitB_data]
    exact splitK_eq c _ _ (count_one c s.data.toList).symm
  have e2 := splitB_all ⟨#[c]⟩ (Nat.le_refl _) 0 (countB s ⟨#[c]⟩) s rfl
  obtain ⟨h1, h2⟩ := splitL_size c s.data.toList
  rw [← e1, List.length_map, size_data] at h1
  refine ⟨_, _, _, splitB ⟨#[c]⟩ 0 (countB s ⟨#[c]⟩) s, rfl, e2.symm, ?_, Lib.hid e1, h1, Lib.hid (fun x hx => ?_), (Below.refl _ _).alloc (Nat.le_refl _) _⟩
  · rw [← e2]
    exact slS_of_blk _ (Blk.new w _ _) (by omega)
  · have := h2 x.data.toList (by rw [← e1]; exact List.mem_map_of_mem hx)
    rw [size_data, size_data] at this
    exact this
theorem cutL_size (c : UInt8) : ∀ l : List UInt8, (cutL c l).1.length ≤ l.length ∧ (cutL c l).2.length ≤ l.length := by
  intro l
  by_cases hm : c ∈ l
  · obtain ⟨a, b, rfl, ha⟩ := split_at hm
    rw [cutL_some b ha]
    simp; omega
  · rw [cutL_none hm]; simp
def rlF (f : List UInt8 → Int × Bool) (l : List UInt8) : List Int × Int := match readL f l with
  | some zs => (zs, 0)
  | none => ([], 6)
theorem rdF_as {s : ByteArray} {r : Int} {b : Bool} (h : rdF s.data.toList = (r, b)) {w : World} {B : Nat} (hE : Env B w) (hB : B ≤ w.heap.size) (hs : s.size ≤ 1048576) :
    Calls Tryz.prog 24 #[.string s] w fun e w' => e = .returned (.tuple #[.int .i64 r, .bool b]) ∧ Below w.heap.size w w' := by
  have := readDecimal_any s w B hE hB (by omega)
  rw [h] at this
  exact this
set_option maxRecDepth 100000 in
set_option maxHeartbeats 4000000 in
theorem implReadList_any (s : ByteArray) (w : World) (B : Nat) (hE : Env B w) (hB : B ≤ w.heap.size) (hs : s.size ≤ 1048576) :
    Calls Tryz.prog 23 #[.string s] w fun e w' => ∃ v, e = .returned (.tuple #[v, .int .i64 (rlF rdF s.data.toList).2]) ∧ OwnR i64s 1 w' w.heap.size 2 v (rlF rdF s.data.toList).1 ∧ Below w.heap.size w w' := by
  by_cases h0 : s = str [45]
  · subst h0
    have E := Lib.hid (show rlF rdF (str [45]).data.toList = ([], 0) by rfl)
    have h2 : ((str [45]).toList == [45]) = true := by rw [ByteArray.toList_eq]; rfl
    generalize str [45] = s at *
    go_enter Tryz.func23, Tryz.ntmps23
    go_wp2_with fail
    go_ret2
    exact ⟨.slice none 0 0, by rw [E.out]; rfl, by rw [E.out]; exact own_nil _ _ _ _ _, Below.refl _ _⟩
  have h2 : (s.toList == [45]) = false := by
    rw [ByteArray.toList_eq, beq_eq_false_iff_ne]
    intro e
    exact h0 ((str_eq _ _).2 e.symm).symm
  have HN := Lib.hid (show ¬ s.data.toList = [45] from fun e => h0 ((str_eq _ _).2 e.symm).symm)
  clear h0
  have HS : Hid ((w.alloc (.cells #[] 2)).ShapedOpen Tryz.prog) := Lib.hid (hE.on ((((Below.refl w.heap.size w).alloc (Nat.le_refl _) (.cells #[] 2))).mono hB)).here.1
  have o0 := own_empty w 2 1 i64s
  have hb0 : Below w.heap.size w (w.alloc (.cells #[] 2)) := (Below.refl _ _).alloc (Nat.le_refl _) _
  go_enter Tryz.func23, Tryz.ntmps23
  go_wp2_with fail
  have z1 : (w.alloc (.cells #[] 2)).heap.size = w.heap.size + 1 := by simp
  generalize (w.alloc (.cells #[] 2)) = w1 at *
  refine (split_any s 44 w1 HS.out hs).mono ?_
  rintro e w2 ⟨A, n, cp, xs, rfl, rfl, hsl, HM, hn, HX, hb2⟩
  have hB2 := hb0.trans (hb2.mono hb0.size)
  have o2 := o0.below hb2
  have z2 := hb2.size
  clear o0 hb0 hb2 HS
  have hE2 := hE.on (hB2.mono hB)
  go_wp2_with fail
  go_loopw [4, 15] (fun q i wr => ∃ (k : Nat) (zs : List Int), i = .int .i64 k ∧ k ≤ xs.length ∧ Hid (rdAll rdF (splitL 44 s.data.toList) = (rdAll rdF ((xs.drop k).map (·.data.toList))).map (zs ++ ·)) ∧ zs.length = k ∧ OwnR i64s 1 wr w.heap.size 2 q zs ∧ Hid (∀ g, q.ownBlock = some g → g < w1.heap.size ∨ w2.heap.size ≤ g) ∧ SlS wr w1.heap.size w2.heap.size (.slice A xs.length cp) xs ∧ w2.heap.size ≤ wr.heap.size ∧ Below w.heap.size w wr) (fun q i wr => xs.length - (RowKit.intOf i).toNat)
  case atStart =>
    refine ⟨0, [], rfl, Nat.zero_le _, Lib.hid (by rw [List.drop_zero, HM.out]; simp), rfl, o2, Lib.hid (fun g hg => ?_), hsl, Nat.le_refl _, hB2⟩
    have : w.heap.size = g := by simpa [Value.ownBlock] using hg
    exact .inl (by omega)
  case round =>
    obtain ⟨k, zs, rfl, hk, HZ, hzl, hown, HO, hslr, hzr, hbr⟩ := hrel
    have hsz := hbr.size
    by_cases hlt : k < xs.length
    · obtain ⟨x, hx⟩ := some_at hlt
      have hxs := HX.out x (List.mem_of_getElem? hx)
      have HD := Lib.hid (drop_cons hx)
      obtain ⟨b, off, rfl, _, hbb, c0⟩ := str_at hslr hx
      clear hx
      obtain ⟨r, hr⟩ : ∃ r, (rdF x.data.toList).1 = r := ⟨_, rfl⟩
      cases hok : (rdF x.data.toList).2
      · have hp : rdF x.data.toList = (0, false) := rdF_no hok
        have C := rdF_as hp (hE.on (hbr.mono hB)) (Nat.le_trans hB hsz) (by omega)
        have HF := Lib.hid (show rlF rdF s.data.toList = ([], 6) by
          rw [rlF, readL, if_neg HN.out, HZ.out, HD.out, List.map_cons, rdAll, if_neg (by rw [hok]; decide)]; rfl)
        clear hr hok hp
        go_wp2_with fail
        refine C.mono ?_
        clear C
        rintro e w3 ⟨rfl, hb3⟩
        go_wp2_with fail
        go_ret2
        exact ⟨.slice none 0 0, by rw [HF.out]; rfl, by rw [HF.out]; exact own_nil _ _ _ _ _, hbr.trans (hb3.mono hsz)⟩
      · have hp : rdF x.data.toList = (r, true) := by rw [← hr, ← hok]
        have C := rdF_as hp (hE.on (hbr.mono hB)) (Nat.le_trans hB hsz) (by omega)
        have HF := Lib.hid (show rdAll rdF (splitL 44 s.data.toList) = (rdAll rdF ((xs.drop (k + 1)).map (·.data.toList))).map ((zs ++ [r]) ++ ·) by
          rw [HZ.out, HD.out, List.map_cons, rdAll, if_pos hok, hr, Option.map_map]
          congr 1
          funext l
          simp)
        clear hr hok hp
        go_wp2_with fail
        refine C.mono ?_
        clear C
        rintro e w3 ⟨rfl, hb3⟩
        have hown3 := hown.below hb3
        have hsl3 := hslr.below hb3 hzr
        have hbr3 := hbr.trans (hb3.mono hbr.size)
        have hs3 := hb3.size
        clear hown c0 hslr
        go_wp2_with (at_builtin; refine wpList_append_rec_at (f := i64s) (s := 1) 2 _ _ (fun _ => rfl) i64s_one rfl _ _ 24 rfl w.heap.size Tryz.infoI Tryz.underlying24 rfl (by decide) _ _ r rfl hown3 rfl rfl rfl (by omega) (by omega) (by omega) ?_)
        intro v' w4 o4 hg4 hv4
        have hba := hbr3.alloc (by omega) (.cells #[.int .i64 r] 2)
        have hz4 := hg4.size
        have hza : (w3.alloc (.cells #[.int .i64 r] 2)).heap.size = w3.heap.size + 1 := by simp
        have hB4 : Below w.heap.size w w4 := hba.grown hg4 (by omega) (fun g hg => by have := (hown3.own.lt g hg).1; omega)
        have hsl4 := (hsl3.below ((Below.refl _ _).alloc (Nat.le_refl _) (.cells #[.int .i64 r] 2)) (by omega)).grown hg4 (by omega) HO.out
        have HO4 : Hid (∀ g, v'.ownBlock = some g → g < w1.heap.size ∨ w2.heap.size ≤ g) := Lib.hid (fun g hg => by
          rcases hv4 with h | h
          · exact HO.out g (h ▸ hg)
          · rw [h] at hg
            have : w3.heap.size + 1 = g := Option.some.inj hg
            omega)
        clear hv4 hg4 HO hba
        go_wp2_with fail
        go_roundw
        case rel => exact ⟨k + 1, zs ++ [r], by go_num, hlt, HF, by rw [List.length_append, hzl]; rfl, o4, HO4, hsl4, by omega, hB4⟩
        case measure => simp [RowKit.intOf]; omega
    · have hkn : k = xs.length := by omega
      clear hzl
      subst hkn
      have HR := Lib.hid (show rdAll rdF (splitL 44 s.data.toList) = some zs by rw [HZ.out, List.drop_length]; simp [rdAll])
      have hsl2 := own_slR (f := i64s) (s := 1) (fun _ => rfl) (OwnR.own hown)
      obtain ⟨A', c', e', _, _⟩ := hsl2.form
      subst e'
      cases hok : okL zs
      · have hne : (codeL zs == 0) = false := by rw [beq_eq_false_iff_ne]; exact codeL_no hok
        have HF := Lib.hid (show rlF rdF s.data.toList = ([], 6) by rw [rlF, readL, if_neg HN.out, HR.out]; simp [hok])
        have C := listCode_any _ zs wr _ _ hsl2
        generalize codeL zs = cc at *
        clear hok HO hown
        go_wp2_with fail
        refine C.mono ?_
        clear C
        rintro e w3 ⟨rfl, rfl⟩
        go_wp2_with fail
        go_ret2
        exact ⟨.slice none 0 0, by rw [HF.out]; rfl, by rw [HF.out]; exact own_nil _ _ _ _ _, hbr⟩
      · have hc0 := codeL_ok hok
        have HF := Lib.hid (show rlF rdF s.data.toList = (zs, 0) by rw [rlF, readL, if_neg HN.out, HR.out]; simp [hok])
        have C := listCode_any _ zs wr _ _ hsl2
        rw [hc0] at C
        clear hok HO hc0
        go_wp2_with fail
        refine C.mono ?_
        clear C
        rintro e w3 ⟨rfl, rfl⟩
        go_wp2_with fail
        go_ret2
        exact ⟨_, by rw [HF.out]; rfl, by rw [HF.out]; exact hown, hbr⟩
end Go.Proofs.YtodfkbgifoecbaaGreatDoor
