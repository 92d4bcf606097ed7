/- Copy within a row of the call's own, the source longer than the target; the insertion of a sheet in place. No condition but the sizes that the law itself asks. -/
import Derived.Test.YtbboihodikhhkaaMkA
namespace Go.Proofs.Ytbboihodikhhkaa
open Go.RowKit
attribute [local go_sem ↓] Go.wp_at_zero Go.wp_at_succ

theorem run_copy_own_min {P : Program} {s : Nat} (w : World) (t ty : TypeId) (base : Nat) (e : TypeId) {z : Value} {bytes : Nat}
    (hinfo : (P.info? e).map (fun i => (i.zero, i.size, i.bytes)) = some (some z, s, bytes)) (ht : P.underlying t = some (.slice e))
    {g n cap : Nat} {xs : List Value} (h : w.ownsRow base e s (.slice (some ⟨g, 0, none⟩) n cap) n xs) (a : Addr) (sl sc m p d dc : Nat) (hm : Nat.min sl d = m) (vs : List Value) (hvl : vs.length = m * s)
    (hvs : ∀ j u, vs[j]? = some u → w.cell? (a.add j) = some u) (h1 : ∀ u ∈ vs, u.oneCell' = true) (hp : p + m * s ≤ n * s) :
    ∃ w', (Builtin.copy_ #[t, t] ty #[.slice (some ⟨g, p, none⟩) d dc, .slice (some a) sl sc]).run P w = .ok (goInt m) w' ∧ w'.ownsRow base e s (.slice (some ⟨g, 0, none⟩) n cap) n (xs.take p ++ vs ++ xs.drop (p + m * s)) ∧ w.grownBy w' (some g) := by
  obtain ⟨i, hi0, hi1, hi2, hi3⟩ := info_parts hinfo
  obtain ⟨w', hst, ho, hg⟩ := own_storeAt (P := P) w h vs p (by rw [hvl]; exact hp) h1
  rw [hvl] at ho
  refine ⟨w', ?_, ho, hg⟩
  have hf := run_firstCells_some (P := P) w i.size m a sl sc vs (by rw [hi2]; exact hvl) hvs
  simp [Builtin.copy_, run_underlying ht, sizeOf, typeInfo, hi0, Builtin.lenOf, hm, hf, hst]

theorem blk_sl {w : World} {h : Nat} {day : Int} {v : Value} {x : H2} (b : Blk w h 56 #[.int .i64 day, v]) (hx : H2.vals x = [.int .i64 day, v]) : SlR H2.vals 2 w h (h + 1) (.slice (some ⟨h, 0, none⟩) 1 1) [x] := by
  refine ⟨fun _ => rfl, some ⟨h, 0, none⟩, 1, rfl, Nat.le_refl _, by unfold maxLen; omega, by simp [H2.vals], fun _ => ⟨h, 0, rfl, Nat.le_refl _, by omega, fun j u hu => ?_⟩⟩
  have e : ([x] : List H2).flatMap H2.vals = [.int .i64 day, v] := by simp [hx]
  rw [e] at hu
  have := b.cell (0 + j)
  rw [this, Nat.zero_add, ← Array.getElem?_toList]
  exact hu
theorem blk_shape {w : World} {h : Nat} {t : TypeId} {cs : Array Value} (b : Blk w h t cs) : w.shape? h = some (t, cs.size) := by
  have b' : w.heap[h]? = _ := b
  simp [World.shape?, b']

set_option maxRecDepth 100000 in
set_option maxHeartbeats 4000000 in
theorem insH_end (g h n : Nat) (cs : List H2) (x : H2) (day : Int) (sv : Value) (w : World) (base : Nat) (hn : cs.length = n) (_ : n ≤ 1048576) (hown : OwnR H2.vals 2 w base 56 (.slice (some ⟨g, 0, none⟩) n (n + 1)) cs) (hb : Blk w h 56 #[.int .i64 day, sv]) (hx : H2.vals x = [.int .i64 day, sv]) :
    Calls Try.prog 49 #[.slice (some ⟨g, 0, none⟩) n (n + 1), .int .i64 (n : Int), .slice (some ⟨h, 0, none⟩) 1 1] w fun e w' => e = .returned (.slice (some ⟨g, 0, none⟩) (n + 1) (n + 1)) ∧ OwnR H2.vals 2 w' base 56 (.slice (some ⟨g, 0, none⟩) (n + 1) (n + 1)) (cs ++ [x]) ∧ w.grownBy w' (some g) := by
  have d1 : ((n : Int) == (n : Int)) = true := by simp
  have Hn := Lib.hid hn
  clear hn
  go_enter Try.func49, Try.ntmps49
  go_wp2_with (at_builtin; refine wpList_append_in (f := H2.vals) (s := 2) _ (fun _ => rfl) oneCell_H2 rfl _ _ 26 rfl base 56 Try.infoH2 Try.underlying26 g n (n + 1) cs [x] _ _ _ rfl hown rfl (blk_sl hb hx) (n + 1) rfl (Nat.le_refl _) ?_)
  intro w' o2 hg2
  go_wp2_with fail
  go_ret
  exact ⟨rfl, o2, hg2⟩

/-- A row with room for one more, seen with the spare record. -/
theorem own_room {w : World} {base : Nat} {e : TypeId} {s g n : Nat} {xs : List Value} (h : w.ownsRow base e s (.slice (some ⟨g, 0, none⟩) n (n + 1)) n xs) :
    ∃ R : List Value, R.length = s ∧ w.ownsRow base e s (.slice (some ⟨g, 0, none⟩) (n + 1) (n + 1)) (n + 1) (xs ++ R) ∧ ∃ cur, w.heap[g]? = some (.cells cur e (0, 0)) ∧ cur.size = (n + 1) * s := by
  obtain ⟨hl, h2⟩ := h
  rcases h2 with ⟨h2, _⟩ | ⟨g', cap, cur, e1, hb, hg, h5, h6, h7, h8⟩
  · cases h2
  · injection e1 with e1 e2 e3
    injection e1 with e1; injection e1 with e1
    subst e1 e3
    have hcl : cur.toList.length = (n + 1) * s := by rw [Array.length_toList, h7]
    have ec : xs ++ cur.toList.drop (n * s) = cur.toList := by rw [← h8]; exact List.take_append_drop _ _
    refine ⟨cur.toList.drop (n * s), by rw [List.length_drop, hcl, Nat.add_mul]; omega, ⟨by rw [ec, hcl], .inr ⟨g, n + 1, cur, rfl, hb, hg, Nat.le_refl _, h6, h7, by rw [ec, ← hcl]; exact List.take_length⟩⟩, cur, hg, h7⟩

theorem overlaps_no (w : World) (h g off : Nat) (day : Int) (sv : Value) (hb : Blk w h 56 #[.int .i64 day, sv]) {cur : Array Value} (hcur : w.heap[g]? = some (.cells cur 56 (0, 0))) (hcs : cur.size ≠ 0) (hgh : h ≠ g) (lb cb : Nat) :
    (callFunc 79 #[.slice (some ⟨h, 0, none⟩) 1 1, .slice (some ⟨g, off, none⟩) lb cb]).run Try.prog w = .ok (.value (.bool false)) w := by
  rw [run_callFunc_extern Try.func79 (by kernel_rfl) (by kernel_rfl) (by kernel_rfl) (e := Extern.SlicesOverlaps.overlaps #[26, 26] #[4]) (by kernel_rfl),
    Lib.run_overlaps_apart w 26 4 56 Try.underlying26 2 (fun _ => by kernel_rfl) ⟨h, 0, none⟩ ⟨g, off, none⟩ 1 1 lb cb hgh 56 56 2 cur.size (blk_shape hb) (by simp [World.shape?, hcur]) hcs (hb.frozen 0) (hb.frozen 2)]
  rfl

theorem gr_refl_drew (w : World) {r : Option Nat} : w.grownBy w.drew r := ⟨rfl, rfl, rfl, Nat.le_refl _, fun _ _ _ => rfl⟩
theorem shift_fin (T D R V : List Value) (a d : Nat) (hT : T.length = a) (hD : D.length = d) (hR : R.length = 2) :
    (((T ++ D ++ R).take (a + 2) ++ D ++ (T ++ D ++ R).drop (a + 2 + d)).take a ++ V ++ ((T ++ D ++ R).take (a + 2) ++ D ++ (T ++ D ++ R).drop (a + 2 + d)).drop (a + 2)) = T ++ V ++ D := by
  have hz : (T ++ D ++ R).length = a + d + 2 := by rw [List.length_append, List.length_append, hT, hD, hR]
  have h1 : (T ++ D ++ R).drop (a + 2 + d) = [] := List.drop_of_length_le (by omega)
  have h2 : ((T ++ D ++ R).take (a + 2)).length = a + 2 := by rw [List.length_take, hz]; omega
  rw [h1, List.append_nil, List.drop_left' h2, List.take_append_of_le_length (by omega), List.take_take, Nat.min_eq_left (by omega), List.append_assoc T D R, List.take_left' hT]

set_option maxRecDepth 100000 in
set_option maxHeartbeats 8000000 in
theorem insH_shift (g h n k : Nat) (cs : List H2) (x : H2) (day : Int) (sv : Value) (w : World) (base : Nat) (hn : cs.length = n) (hk : k < n) (hn2 : n ≤ 1048576) (hown : OwnR H2.vals 2 w base 56 (.slice (some ⟨g, 0, none⟩) n (n + 1)) cs) (hb : Blk w h 56 #[.int .i64 day, sv]) (hx : H2.vals x = [.int .i64 day, sv]) (hgh : h ≠ g) :
    Calls Try.prog 49 #[.slice (some ⟨g, 0, none⟩) n (n + 1), .int .i64 (k : Int), .slice (some ⟨h, 0, none⟩) 1 1] w fun e w' => e = .returned (.slice (some ⟨g, 0, none⟩) (n + 1) (n + 1)) ∧ OwnR H2.vals 2 w' base 56 (.slice (some ⟨g, 0, none⟩) (n + 1) (n + 1)) (cs.take k ++ [x] ++ cs.drop k) ∧ w.grownBy w' (some g) := by
  subst hn
  have ho : w.ownsRow base 56 2 (.slice (some ⟨g, 0, none⟩) cs.length (cs.length + 1)) cs.length (cs.flatMap H2.vals) := hown
  obtain ⟨R, hR, hext, cur, hcur, hcs⟩ := own_room ho
  have HR := Lib.hid hR
  have s0 := own_slR (f := H2.vals) (s := 2) (fun _ => rfl) (OwnR.own hown)
  have sd : SlR H2.vals 2 w base w.heap.size (.slice (some ⟨g, 0 + k * 2, none⟩) (cs.length - k) (cs.length + 1 - k)) (cs.drop k) := SlR.drop s0 (by omega)
  have hdl : (cs.drop k).length = cs.length - k := List.length_drop
  have hvl : ((cs.drop k).flatMap H2.vals).length = (cs.length - k) * 2 := by rw [flatMap_len (s := 2) (fun _ => rfl), hdl]
  have hvs : ∀ j u, ((cs.drop k).flatMap H2.vals)[j]? = some u → w.drew.cell? ((⟨g, k * 2, none⟩ : Addr).add j) = some u := by
    intro j u hu
    obtain ⟨_, A, c, e1, _, _, _, hat⟩ := sd
    injection e1 with e1 _ _
    subst e1
    obtain ⟨b, off, e2, _, _, h3⟩ := hat (by omega)
    injection e2 with e2
    injection e2 with e2 e3
    subst e2 e3
    rw [Addr.add_lit]
    have := h3 j u hu
    rwa [Nat.zero_add] at this
  have h1c : ∀ u ∈ (cs.drop k).flatMap H2.vals, u.oneCell' = true := fun u hu => by obtain ⟨y, _, hy⟩ := List.mem_flatMap.1 hu; exact oneCell_H2 y u hy
  obtain ⟨w2, hr1, o2, hg2⟩ := run_copy_own_min (P := Try.prog) (s := 2) w.drew 26 3 base 56 Try.infoH2 Try.underlying26 (ownsRow_drew hext) ⟨g, k * 2, none⟩ (cs.length + 1 - k) (cs.length + 1 - k) (cs.length - k) ((k + 1) * 2) (cs.length - k) (cs.length - k) (by simp only [Nat.min_def]; split <;> omega) _ hvl hvs h1c (by omega)
  have bh2 : Blk w2 h 56 #[.int .i64 day, sv] := Blk.grown (w := w.drew) hb hg2 (by intro e; exact hgh (Option.some.inj e))
  obtain ⟨w3, hr2, o3, hg3⟩ := run_copy_own (P := Try.prog) (f := H2.vals) (s := 2) w2 (fun _ => rfl) oneCell_H2 26 3 base 56 Try.infoH2 Try.underlying26 o2 [x] _ _ _ (blk_sl bh2 hx) Nat.zero_lt_one (k * 2) (cs.length + 1 - k) (cs.length + 1 - k) (by show 1 ≤ _; omega) (by show k * 2 + 1 * 2 ≤ _; omega)
  have hov := overlaps_no w h g ((k + 1) * 2) day sv hb hcur (by omega) hgh
  have HV := Lib.hid hvl
  have HT : Hid (((cs.take k).flatMap H2.vals).length = k * 2) := Lib.hid (by rw [flatMap_len (s := 2) (fun _ => rfl), List.length_take, Nat.min_eq_left (by omega)])
  have HG : Hid (w.grownBy w3 (some g)) := Lib.hid (grownBy_trans (grownBy_trans (gr_refl_drew w) hg2) hg3)
  clear hvs h1c hvl hdl sd s0 ho hext hcur hcs hg2 hg3 bh2 hR
  have d1 : ((k : Int) == (cs.length : Int)) = false := by simp; omega
  have d2 : (k : Int) ≤ (cs.length : Int) := by omega
  have d3 : (0 : Int) ≤ (k : Int) := by omega
  have d4 : (k : Int) ≤ (cs.length : Int) + 1 := by omega
  have d7 : IntKind.i64.wrap ((cs.length : Int) + 1) = (cs.length : Int) + 1 := IntWalk.i64_in _ (by omega)
  have d9 : IntKind.i64.wrap ((k : Int) + 1) = (k : Int) + 1 := IntWalk.i64_in _ (by omega)
  have e5 : (k : Int) + 1 ≤ (cs.length : Int) + 1 := by omega
  have e6 : (0 : Int) ≤ (k : Int) + 1 := by omega
  have e7 : ((k : Int) + 1).toNat = k + 1 := by omega
  have e8 : ((cs.length : Int) + 1).toNat = cs.length + 1 := by omega
  go_enter Try.func49, Try.ntmps49
  go_wp2_with (simp only [hov])
  go_region_held3 (fun _ => True) (trivial) (fail)
  go_wp2_with fail
  go_ret
  refine ⟨rfl, ?_, HG.out⟩
  have hlen : (cs.take k ++ [x] ++ cs.drop k).length = cs.length + 1 := by simp; omega
  have hfl : cs.flatMap H2.vals = (cs.take k).flatMap H2.vals ++ (cs.drop k).flatMap H2.vals := by rw [← List.flatMap_append, List.take_append_drop]
  unfold OwnR
  rw [hlen, List.flatMap_append, List.flatMap_append]
  have hfin := shift_fin _ _ R ([x].flatMap H2.vals) (k * 2) ((cs.length - k) * 2) HT.out HV.out HR.out
  rw [← hfl] at hfin
  have ek : (k + 1) * 2 = k * 2 + 2 := by omega
  rw [ek] at o3
  rw [← hfin]
  exact o3
end Go.Proofs.Ytbboihodikhhkaa
