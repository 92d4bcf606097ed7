/- copyPool; PutBack: the program's and the reference's answer the same function. No condition but the sizes that the law itself asks. -/
import Derived.Test.YtfenedoalnieaaaPoolE
namespace Go.Proofs.Ytfenedoalnieaaa
open Go.RowKit
attribute [local go_sem ↓] Go.wp_at_zero Go.wp_at_succ

theorem region_np {P : Program} {id : Nat} {ops : Array Oper} {b : Bool} {K : Act → World → Prop} {Q' : Exit → Act → World → Prop} {a : Act} {w : World} (h : (Code.region id ops b).wp P (Exit.then K fun _ _ _ => False) a w) : (Code.region id ops b).wp P (Exit.then K Q') a w :=
  Code.wp_mono (fun e a w h => by cases e <;> first | exact h | exact (h : False).elim) h

set_option maxRecDepth 100000 in
set_option maxHeartbeats 4000000 in
theorem copyPool_any (vn vd : Value) (p : P3) (w : World) (lo lo' : Nat) (hn : SlI w lo w.heap.size vn p.nums) (hd : SlI w lo' w.heap.size vd p.drawn) (hl : p.nums.length ≤ 2097152) (hl' : p.drawn.length ≤ 2097152) :
    Calls Try.prog 59 #[.agg #[vn, vd, .int .i64 p.st]] w fun e w' => ∃ g1 g2, e = .returned (.agg #[.slice (some ⟨g1, 0, none⟩) p.nums.length p.nums.length, .slice (some ⟨g2, 0, none⟩) p.drawn.length p.drawn.length, .int .i64 p.st]) ∧ OwnR i64s 1 w' w.heap.size 2 (.slice (some ⟨g1, 0, none⟩) p.nums.length p.nums.length) p.nums ∧ OwnR i64s 1 w' w.heap.size 2 (.slice (some ⟨g2, 0, none⟩) p.drawn.length p.drawn.length) p.drawn ∧ w.heap.size ≤ g1 ∧ g1 < g2 ∧ g2 < w'.heap.size ∧ Below w.heap.size w w' := by
  obtain ⟨nums, drawn, st⟩ := p
  dsimp only at hn hd hl hl' ⊢
  go_enter Try.func59, Try.ntmps59
  go_wp2_with fail
  have bA : Blk ((w.alloc (.cells #[vn, vd, .int .i64 st] 27)).alloc (.cells #[.slice none 0 0, .slice none 0 0, .int .i64 0] 27)) w.heap.size _ _ := (Blk.new w _ _).alloc _
  have bR : Blk ((w.alloc (.cells #[vn, vd, .int .i64 st] 27)).alloc (.cells #[.slice none 0 0, .slice none 0 0, .int .i64 0] 27)) (w.heap.size + 1) _ _ := Blk.new' (by simp)
  have hB1 : Below w.heap.size w ((w.alloc (.cells #[vn, vd, .int .i64 st] 27)).alloc (.cells #[.slice none 0 0, .slice none 0 0, .int .i64 0] 27)) := ((Below.refl _ _).alloc (Nat.le_refl _) _).alloc (by simp) _
  generalize ((w.alloc (.cells #[vn, vd, .int .i64 st] 27)).alloc (.cells #[.slice none 0 0, .slice none 0 0, .int .i64 0] 27)) = w1 at *
  have z1 := hB1.size
  have lR := bR.lt
  have hn1 : SlR i64s 1 w1.drew lo w1.drew.heap.size vn nums := ((hn.below hB1 (Nat.le_refl _)).more (hi' := w1.heap.size) (Nat.le_refl _) z1).drew
  have hd1 : SlR i64s 1 w1.drew lo' w.heap.size vd drawn := (hd.below hB1 (Nat.le_refl _)).drew
  have zd : w.heap.size ≤ w1.drew.heap.size := z1
  have bA : Blk w1.drew _ _ _ := bA
  have bR : Blk w1.drew _ _ _ := bR
  have hB1 : Below w.heap.size w w1.drew := hB1.drew
  have q0 : w1.cell? ⟨w.heap.size, 0, none⟩ = some vn := bA.cell 0
  have q1 : w1.cell? ⟨w.heap.size, 1, none⟩ = some vd := bA.cell 1
  have q2 : w1.cell? ⟨w.heap.size, 2, none⟩ = some (.int .i64 st) := bA.cell 2
  refine region_np ?_
  go_region_held3 (fun w' => w'.cell? ⟨w.heap.size, 0, none⟩ = some vn ∧ w'.cell? ⟨w.heap.size, 1, none⟩ = some vd ∧ w'.cell? ⟨w.heap.size, 2, none⟩ = some (.int .i64 st)) (first | exact ⟨q0, q1, q2⟩ | exact ⟨e0, e1, e2⟩ | exact ⟨g0, g1, g2⟩ | go_keep) (first
    | (go_at_call 53; (with_reducible refine (cloneI_cap vn nums w1.drew lo hn1 hl).mono ?_); rintro e w2 ⟨rfl, o2, hb2⟩; have e0 := (bA.below' hb2).cell 0; have e1 := (bA.below' hb2).cell 1; have e2 := (bA.below' hb2).cell 2)
    | (go_at_call 53; (with_reducible refine (cloneI_cap vd drawn w2 lo' ((hd1.below hb2 zd).more (Nat.le_refl _) (Nat.le_trans zd hb2.size)) hl').mono ?_); rintro e w3 ⟨rfl, o3, hb3⟩; have g0 := ((bA.below' hb2).below' hb3).cell 0; have g1 := ((bA.below' hb2).below' hb3).cell 1; have g2 := ((bA.below' hb2).below' hb3).cell 2; have c0 := ((bR.below' hb2).below' hb3).cell 0; have c1 := ((bR.below' hb2).below' hb3).cell 1; have c2 := ((bR.below' hb2).below' hb3).cell 2; have f0 := ((bR.below' hb2).below' hb3).frozen 0; have f1 := ((bR.below' hb2).below' hb3).frozen 1; have f2 := ((bR.below' hb2).below' hb3).frozen 2))
  have c0 : w3.cell? ⟨w.heap.size + 1, 0, none⟩ = some (.slice none 0 0) := c0
  have c1 : w3.cell? ⟨w.heap.size + 1, 1, none⟩ = some (.slice none 0 0) := c1
  have c2 : w3.cell? ⟨w.heap.size + 1, 2, none⟩ = some (.int .i64 0) := c2
  go_wp2_with fail
  have i4 : w1.heap.size < w2.heap.size := (o2.own.lt _ rfl).2
  have hB2 := hB1.trans (hb2.mono z1)
  have z2 : w1.heap.size ≤ w2.heap.size := hb2.size
  have hB3 := hB2.trans (hb3.mono (Nat.le_trans z1 z2))
  have z3 := hb3.size
  have o2 := o2.below hb3
  have i3 : w2.heap.size < w3.heap.size := (o3.own.lt _ rfl).2
  refine bodyPost_ret (v := .agg #[.slice (some ⟨w1.heap.size, 0, none⟩) nums.length nums.length, .slice (some ⟨w2.heap.size, 0, none⟩) drawn.length drawn.length, .int .i64 st]) (by simp [results, Try.results59, go_sem, c0, c1, c2]) rfl ⟨w1.heap.size, w2.heap.size, rfl, ?_, ?_, z1, i4, by simp; omega, ?_⟩
  · repeat' refine OwnR.setCell ?_ _ _ (fun k hk => by have : w1.heap.size = k := Option.some.inj hk; simp; omega)
    exact o2.more z1
  · repeat' refine OwnR.setCell ?_ _ _ (fun k hk => by have : w2.heap.size = k := Option.some.inj hk; simp; omega)
    exact o3.more (Nat.le_trans z1 z2)
  · repeat' refine Below.setCell ?_ (by simp) _
    exact hB3

theorem own_rebase {α : Type} {f : α → List Value} {s : Nat} {w : World} {base g n c : Nat} {e : TypeId} {xs : List α} (h : OwnR f s w base e (.slice (some ⟨g, 0, none⟩) n c) xs) : OwnR f s w g e (.slice (some ⟨g, 0, none⟩) n c) xs := by
  refine ⟨And.left h, ?_⟩
  rcases (show _ ∨ _ from And.right h) with ⟨h2, _⟩ | ⟨g', cap, cur, e1, h3, r⟩
  · cases h2
  · have e2 := e1
    injection e2 with e2
    injection e2 with e2; injection e2 with e2
    subst e2
    exact .inr ⟨g, cap, cur, e1, Nat.le_refl _, r⟩

/-! putting back -/
def distGo : List Int → List Int → Bool
  | _, [] => true
  | seen, x :: t => !hasB x seen && distGo (seen ++ [x]) t
def allIn (d : List Int) : List Int → Bool
  | [] => true
  | x :: t => hasB x d && allIn d t
def putF (p : P3) (ns : List Int) : P3 × Int :=
  if poolOk p = true then if allIn p.drawn ns = true then if distGo [] ns = true then (⟨p.nums, p.drawn.filter fun x => !hasB x ns, p.st⟩, 0) else (⟨[], [], 0⟩, 5) else (⟨[], [], 0⟩, 4) else (⟨[], [], 0⟩, 1)
theorem putF_len (p : P3) (ns : List Int) : (putF p ns).1.nums.length ≤ p.nums.length ∧ (putF p ns).1.drawn.length ≤ p.drawn.length := by
  unfold putF
  repeat' split
  all_goals first | exact ⟨Nat.le_refl _, List.length_filter_le _ _⟩ | exact ⟨Nat.zero_le _, Nat.zero_le _⟩

set_option maxHeartbeats 1000000 in
theorem putFn_gives (vs : Value) (ns : List Int) (x : Int) (B lo hi : Nat) (W : World) (hc : W.cell? ⟨B, 0, none⟩ = some vs) (hd : SlI W lo hi vs ns) :
    FnGives Try.prog 61 #[.pointer (some ⟨B, 0, none⟩)] #[.int .i64 x] (.bool (hasB x ns)) W := by
  obtain ⟨A, c, rfl, hc1, hc2⟩ := hd.form
  show Calls Try.prog 61 #[.int .i64 x, .pointer (some ⟨B, 0, none⟩)] W _
  go_enter Try.func61, Try.ntmps61
  go_wp2_with fail
  refine (has_any _ ns x W lo hi hd).mono ?_
  rintro e w1 ⟨rfl, rfl⟩
  go_wp2_with fail
  go_ret
  exact ⟨rfl, 0, rfl⟩

set_option maxRecDepth 100000 in
set_option maxHeartbeats 8000000 in
theorem implPutBack_any (vn vd : Value) (p : P3) (v : Value) (ns : List Int) (w : World) (lo lo' lo2 : Nat) (hn : SlI w lo w.heap.size vn p.nums) (hd : SlI w lo' w.heap.size vd p.drawn) (hs : SlI w lo2 w.heap.size v ns) (hl : p.nums.length ≤ 2097152) (hl' : p.drawn.length ≤ 2097152) :
    Calls Try.prog 30 #[.agg #[vn, vd, .int .i64 p.st], v] w fun e w' => ∃ xn xd Q, e = .returned (.tuple #[.agg #[xn, xd, .int .i64 (putF p ns).1.st], .int .i64 (putF p ns).2]) ∧ OwI i64s 1 2 w' w.heap.size Q xn (putF p ns).1.nums ∧ OwI i64s 1 2 w' Q w'.heap.size xd (putF p ns).1.drawn ∧ w.heap.size ≤ Q ∧ Q ≤ w'.heap.size ∧ Below w.heap.size w w' := by
  have hmf : ∀ (fn : Fn) (first cap : Array Value) (w : World), (Instr.makeFunc fn first cap).run Try.prog w = .ok (.func fn first cap) w := fun _ _ _ _ => rfl
  obtain ⟨A, c, rfl, hc1, hc2⟩ := hn.form
  obtain ⟨A', c', rfl, hc1', hc2'⟩ := hd.form
  obtain ⟨A2, c2, rfl, hc21, hc22⟩ := hs.form
  have up : ∀ {v : Value} {zs : List Int} {lo : Nat} {w1 : World}, SlI w lo w.heap.size v zs → Below w.heap.size w w1 → SlI w1 lo w1.heap.size v zs := fun h hb => (h.below hb (Nat.le_refl _)).more (Nat.le_refl _) hb.size
  go_enter Try.func30, Try.ntmps30
  go_wp2_with fail
  have bA : Blk (((w.alloc (.cells #[.slice A p.nums.length c, .slice A' p.drawn.length c', .int .i64 p.st] 27)).alloc (.cells #[.slice A2 ns.length c2] 22)).alloc (.cells #[.slice none 0 0, .slice none 0 0, .int .i64 0] 27)) w.heap.size _ _ := ((Blk.new w _ _).alloc _).alloc _
  have bS : Blk (((w.alloc (.cells #[.slice A p.nums.length c, .slice A' p.drawn.length c', .int .i64 p.st] 27)).alloc (.cells #[.slice A2 ns.length c2] 22)).alloc (.cells #[.slice none 0 0, .slice none 0 0, .int .i64 0] 27)) (w.heap.size + 1) _ _ := (Blk.new' (by simp)).alloc _
  have bR : Blk (((w.alloc (.cells #[.slice A p.nums.length c, .slice A' p.drawn.length c', .int .i64 p.st] 27)).alloc (.cells #[.slice A2 ns.length c2] 22)).alloc (.cells #[.slice none 0 0, .slice none 0 0, .int .i64 0] 27)) (w.heap.size + 1 + 1) _ _ := Blk.new' (by simp)
  have hB1 : Below w.heap.size w (((w.alloc (.cells #[.slice A p.nums.length c, .slice A' p.drawn.length c', .int .i64 p.st] 27)).alloc (.cells #[.slice A2 ns.length c2] 22)).alloc (.cells #[.slice none 0 0, .slice none 0 0, .int .i64 0] 27)) := (((Below.refl _ _).alloc (Nat.le_refl _) _).alloc (by simp) _).alloc (by simp; omega) _
  generalize (((w.alloc (.cells #[.slice A p.nums.length c, .slice A' p.drawn.length c', .int .i64 p.st] 27)).alloc (.cells #[.slice A2 ns.length c2] 22)).alloc (.cells #[.slice none 0 0, .slice none 0 0, .int .i64 0] 27)) = w1 at *
  refine (implIsPool_any _ _ p w1 _ _ (up hn hB1) (up hd hB1)).mono ?_
  rintro e w2 ⟨rfl, hb2⟩
  have hB2 := hB1.trans (hb2.mono hB1.size)
  have z2 := hB2.size
  have bA := bA.below' hb2
  have bS := bS.below' hb2
  have bR := bR.below' hb2
  have lR := bR.lt
  clear hb2
  have a0 : w2.cell? ⟨w.heap.size, 0, none⟩ = some (.slice A p.nums.length c) := bA.cell 0
  have a1 : w2.cell? ⟨w.heap.size, 1, none⟩ = some (.slice A' p.drawn.length c') := bA.cell 1
  have a2 : w2.cell? ⟨w.heap.size, 2, none⟩ = some (.int .i64 p.st) := bA.cell 2
  have s0 : w2.cell? ⟨w.heap.size + 1, 0, none⟩ = some (.slice A2 ns.length c2) := bS.cell 0
  have c0 : w2.cell? ⟨w.heap.size + 1 + 1, 0, none⟩ = some (.slice none 0 0) := bR.cell 0
  have c1 : w2.cell? ⟨w.heap.size + 1 + 1, 1, none⟩ = some (.slice none 0 0) := bR.cell 1
  have c2' : w2.cell? ⟨w.heap.size + 1 + 1, 2, none⟩ = some (.int .i64 0) := bR.cell 2
  have f0 : w2.frozen? ⟨w.heap.size + 1 + 1, 0, none⟩ = false := bR.frozen 0
  have f1 : w2.frozen? ⟨w.heap.size + 1 + 1, 1, none⟩ = false := bR.frozen 1
  have f2 : w2.frozen? ⟨w.heap.size + 1 + 1, 2, none⟩ = false := bR.frozen 2
  cases h1 : poolOk p
  · have hF : putF p ns = (⟨[], [], 0⟩, 1) := by simp [putF, h1]
    go_wp2_with fail
    refine bodyPost_ret (v := .tuple #[.agg #[.slice none 0 0, .slice none 0 0, .int .i64 0], .int .i64 1]) (by simp [results, Try.results30, go_sem, c0, c1, c2']) rfl ⟨_, _, w.heap.size, by rw [hF], by rw [hF]; exact ownI_nil _ _ _ _, by rw [hF]; exact ownI_nil _ _ _ _, Nat.le_refl _, by simp; omega, ?_⟩
    repeat' refine Below.setCell ?_ (by simp; try omega) _
    exact hB2
  have hs2 := up hs hB2
  have hd2 := up hd hB2
  go_wp2_with fail
  go_loop [17] (fun i => ∃ (k : Nat), i = .int .i64 k ∧ k ≤ ns.length ∧ Hid (allIn p.drawn ns = allIn p.drawn (ns.drop k))) (fun i => ns.length - (intOf i).toNat)
  case atStart => exact ⟨0, rfl, Nat.zero_le _, Lib.hid rfl⟩
  case round =>
    obtain ⟨k, rfl, hk, Hgo⟩ := hrel
    by_cases hlt : k < ns.length
    · obtain ⟨x, hx⟩ := some_at hlt
      obtain ⟨b, off, rfl, _, hb, e0⟩ := hs2.int_at hx
      have Hd := Lib.hid (drop_cons hx)
      clear hx
      go_wp2_with fail
      refine (has_any _ p.drawn x w2 _ _ hd2).mono ?_
      rintro e w3 ⟨rfl, rfl⟩
      cases h2 : hasB x p.drawn
      · have hA : allIn p.drawn ns = false := by rw [Hgo.out, Hd.out, allIn, h2]; rfl
        have hF : putF p ns = (⟨[], [], 0⟩, 4) := by simp [putF, h1, hA]
        go_wp2_with fail
        refine bodyPost_ret (v := .tuple #[.agg #[.slice none 0 0, .slice none 0 0, .int .i64 0], .int .i64 4]) (by simp [results, Try.results30, go_sem, c0, c1, c2']) rfl ⟨_, _, w.heap.size, by rw [hF], by rw [hF]; exact ownI_nil _ _ _ _, by rw [hF]; exact ownI_nil _ _ _ _, Nat.le_refl _, by simp; omega, ?_⟩
        repeat' refine Below.setCell ?_ (by simp; try omega) _
        exact hB2
      · go_wp2_with fail
        go_round
        case rel => exact ⟨k + 1, by go_num, hlt, Lib.hid (by rw [Hgo.out, Hd.out, allIn, h2]; rfl)⟩
        case measure => simp [intOf]; omega
    have hkn : k = ns.length := by omega
    subst hkn
    have hA : allIn p.drawn ns = true := by rw [Hgo.out, List.drop_length]; rfl
    have HA := Lib.hid hA
    clear hA Hgo
    go_wp2_with fail
    go_loop [30] (fun i => ∃ (k : Nat), i = .int .i64 k ∧ k ≤ ns.length ∧ Hid (distGo [] ns = distGo (ns.take k) (ns.drop k))) (fun i => ns.length - (intOf i).toNat)
    case atStart => exact ⟨0, rfl, Nat.zero_le _, Lib.hid rfl⟩
    case round =>
      obtain ⟨k, rfl, hk, Hgo⟩ := hrel
      by_cases hlt : k < ns.length
      · obtain ⟨x, hx⟩ := some_at hlt
        obtain ⟨b, off, rfl, _, hb, e0⟩ := hs2.int_at hx
        have htk := hs2.take (k := k) (by omega)
        have Hd := Lib.hid (drop_cons hx)
        have Ht := Lib.hid (take_snoc hx)
        clear hx
        have q2 : (k : Int) ≤ (c2 : Int) := by omega
        go_wp2_with fail
        refine (has_any _ (ns.take k) x w2 _ _ htk).mono ?_
        rintro e w3 ⟨rfl, rfl⟩
        cases h2 : hasB x (ns.take k)
        · go_wp2_with fail
          go_round
          case rel => exact ⟨k + 1, by go_num, hlt, Lib.hid (by rw [Hgo.out, Hd.out, distGo, h2, Ht.out]; rfl)⟩
          case measure => simp [intOf]; omega
        · have hA : distGo [] ns = false := by rw [Hgo.out, Hd.out, distGo, h2]; rfl
          have hF : putF p ns = (⟨[], [], 0⟩, 5) := by simp [putF, h1, HA.out, hA]
          go_wp2_with fail
          refine bodyPost_ret (v := .tuple #[.agg #[.slice none 0 0, .slice none 0 0, .int .i64 0], .int .i64 5]) (by simp [results, Try.results30, go_sem, c0, c1, c2']) rfl ⟨_, _, w.heap.size, by rw [hF], by rw [hF]; exact ownI_nil _ _ _ _, by rw [hF]; exact ownI_nil _ _ _ _, Nat.le_refl _, by simp; omega, ?_⟩
          repeat' refine Below.setCell ?_ (by simp; try omega) _
          exact hB2
      have hkn : k = ns.length := by omega
      subst hkn
      have hA : distGo [] ns = true := by rw [Hgo.out, List.drop_length]; rfl
      have hF : putF p ns = (⟨p.nums, p.drawn.filter fun x => !hasB x ns, p.st⟩, 0) := by simp [putF, h1, HA.out, hA]
      have HF := Lib.hid hF
      clear hF hA Hgo
      go_wp2_with fail
      refine (copyPool_any _ _ p w2 _ _ (up hn hB2) hd2 hl hl').mono ?_
      rintro e w3 ⟨g1, g2, rfl, o1, o2, hg1, hg12, hg2, hb3⟩
      have hB3 := hB2.trans (hb3.mono z2)
      have z3 := hb3.size
      have bS := bS.below' hb3
      have bR := bR.below' hb3
      clear a0 a1 a2 s0 c0 c1 c2' f0 f1 f2
      go_wp2_with fail
      have bO := Blk.new w3 27 #[.slice (some ⟨g1, 0, none⟩) p.nums.length p.nums.length, .slice (some ⟨g2, 0, none⟩) p.drawn.length p.drawn.length, .int .i64 p.st]
      have bS := bS.alloc (.cells #[.slice (some ⟨g1, 0, none⟩) p.nums.length p.nums.length, .slice (some ⟨g2, 0, none⟩) p.drawn.length p.drawn.length, .int .i64 p.st] 27)
      have bR := bR.alloc (.cells #[.slice (some ⟨g1, 0, none⟩) p.nums.length p.nums.length, .slice (some ⟨g2, 0, none⟩) p.drawn.length p.drawn.length, .int .i64 p.st] 27)
      have o1 := o1.alloc (.cells #[.slice (some ⟨g1, 0, none⟩) p.nums.length p.nums.length, .slice (some ⟨g2, 0, none⟩) p.drawn.length p.drawn.length, .int .i64 p.st] 27)
      have o2 := o2.alloc (.cells #[.slice (some ⟨g1, 0, none⟩) p.nums.length p.nums.length, .slice (some ⟨g2, 0, none⟩) p.drawn.length p.drawn.length, .int .i64 p.st] 27)
      have hB4 : Below w.heap.size w (w3.alloc (.cells #[.slice (some ⟨g1, 0, none⟩) p.nums.length p.nums.length, .slice (some ⟨g2, 0, none⟩) p.drawn.length p.drawn.length, .int .i64 p.st] 27)) := hB3.alloc hB3.size _
      generalize (w3.alloc (.cells #[.slice (some ⟨g1, 0, none⟩) p.nums.length p.nums.length, .slice (some ⟨g2, 0, none⟩) p.drawn.length p.drawn.length, .int .i64 p.st] 27)) = w4 at *
      have lO := bO.lt
      refine (deleteFunc_any 61 #[.pointer (some ⟨w.heap.size + 1, 0, none⟩)] (fun x => hasB x ns) g2 _ _ p.drawn w4 _ o2 (enters_of Try.func61 (by kernel_rfl) rfl) ?hw).mono ?_
      case hw =>
        intro W x hg
        have b3 := bS.grown hg (by intro e; have := Option.some.inj e; omega)
        exact putFn_gives _ ns x (w.heap.size + 1) lo2 w.heap.size W (b3.cell 0) ((hs.below hB4 (Nat.le_refl _)).grown hg hB4.size (by intro g e; have := Option.some.inj e; right; omega))
      rintro e w5 ⟨m, rfl, o5, hg5⟩
      have hm : m = (p.drawn.filter fun x => !hasB x ns).length := by
        obtain ⟨_, _, e1, _⟩ := own_form (OwnR.own o5)
        injection e1
      subst hm
      have bO := bO.grown hg5 (by intro e; have := Option.some.inj e; omega)
      have bR := bR.grown hg5 (by intro e; have := Option.some.inj e; omega)
      have o1 := o1.grown' hg5 (by intro a b ha hb; have ha : g2 = a := Option.some.inj ha; have hb : g1 = b := Option.some.inj hb; omega)
      have hB5 := hB4.grown hg5 hB4.size (by intro q hq; have := Option.some.inj hq; omega)
      have z5 := hg5.size
      have i1 := o1.own.lt _ rfl
      have d0 : w5.cell? ⟨w3.heap.size, 0, none⟩ = some (.slice (some ⟨g1, 0, none⟩) p.nums.length p.nums.length) := bO.cell 0
      have d1 : w5.cell? ⟨w3.heap.size, 1, none⟩ = some (.slice (some ⟨g2, 0, none⟩) p.drawn.length p.drawn.length) := bO.cell 1
      have d2 : w5.cell? ⟨w3.heap.size, 2, none⟩ = some (.int .i64 p.st) := bO.cell 2
      have e1 : w5.frozen? ⟨w3.heap.size, 1, none⟩ = false := bO.frozen 1
      have c0 : w5.cell? ⟨w.heap.size + 1 + 1, 0, none⟩ = some (.slice none 0 0) := bR.cell 0
      have c1 : w5.cell? ⟨w.heap.size + 1 + 1, 1, none⟩ = some (.slice none 0 0) := bR.cell 1
      have c2' : w5.cell? ⟨w.heap.size + 1 + 1, 2, none⟩ = some (.int .i64 0) := bR.cell 2
      have f0 : w5.frozen? ⟨w.heap.size + 1 + 1, 0, none⟩ = false := bR.frozen 0
      have f1 : w5.frozen? ⟨w.heap.size + 1 + 1, 1, none⟩ = false := bR.frozen 1
      have f2 : w5.frozen? ⟨w.heap.size + 1 + 1, 2, none⟩ = false := bR.frozen 2
      have ne1 : w.heap.size + 1 + 1 ≠ w3.heap.size := by omega
      have ne2 : w3.heap.size ≠ w.heap.size + 1 + 1 := by omega
      go_wp2_with fail
      refine bodyPost_ret (v := .tuple #[.agg #[.slice (some ⟨g1, 0, none⟩) p.nums.length p.nums.length, .slice (some ⟨g2, 0, none⟩) (p.drawn.filter fun x => !hasB x ns).length p.drawn.length, .int .i64 p.st], .int .i64 0]) (by simp [results, Try.results30, go_sem, c0, c1, c2', ne1, ne2]) rfl ⟨_, _, g2, by rw [HF.out], ?_, ?_, by omega, by simp; omega, ?_⟩
      · rw [HF.out]
        refine ⟨?_, fun g hg => by have : g1 = g := Option.some.inj hg; omega⟩
        repeat' refine OwnR.setCell ?_ _ _ (fun k hk => by have : g1 = k := Option.some.inj hk; simp; omega)
        exact o1.more (by omega)
      · rw [HF.out]
        refine OwI.of ?_
        repeat' refine OwnR.setCell ?_ _ _ (fun k hk => by have : g2 = k := Option.some.inj hk; simp; omega)
        exact own_rebase o5
      · repeat' refine Below.setCell ?_ (by simp; try omega) _
        exact hB5
end Go.Proofs.Ytfenedoalnieaaa
