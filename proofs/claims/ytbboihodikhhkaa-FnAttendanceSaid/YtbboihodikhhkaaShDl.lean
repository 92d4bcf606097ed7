/- Lists of sheets that the laws draw. No condition. -/
import Derived.Test.YtbboihodikhhkaaShDr
import Derived.Test.YtbboihodikhhkaaApAt
namespace Go.Proofs.Ytbboihodikhhkaa
open Go.RowKit
attribute [local go_sem ↓] Go.wp_at_zero Go.wp_at_succ

theorem oneCellH2 : ∀ x : H2, ∀ u ∈ H2.vals x, u.oneCell' = true := by intro x u hu; simp [H2.vals] at hu; rcases hu with rfl | rfl <;> rfl
def lenV : Value → Nat
  | .slice _ n _ => n
  | _ => 0
theorem RdH.bel {w w' : World} {lo : Nat} {v : Value} {z : List (Int × List Int)} (h : RdH w lo w.heap.size v z) (hb : Below w.heap.size w w') : RdH w' lo w'.heap.size v z := by
  obtain ⟨xs, h, e⟩ := h
  exact ⟨xs, (h.below hb (Nat.le_refl _)).more (Nat.le_refl _) hb.size, e⟩
theorem RdH.gr {w w' : World} {lo g : Nat} {v : Value} {z : List (Int × List Int)} (h : RdH w lo w.heap.size v z) (hg : w.grownBy w' (some g)) (hl : g < lo) : RdH w' lo w'.heap.size v z := by
  obtain ⟨xs, h, e⟩ := h
  exact ⟨xs, (h.grown hg (Nat.le_refl _) (fun k hk => by have := Option.some.inj hk; omega)).more (Nat.le_refl _) hg.size, e⟩
theorem RdH.len_form {w : World} {lo hi : Nat} {v : Value} {z : List (Int × List Int)} (h : RdH w lo hi v z) : ∃ A c, v = .slice A z.length c ∧ z.length ≤ c ∧ c ≤ 9223372036854775807 := by
  obtain ⟨xs, h, rfl⟩ := h
  rw [List.length_map]
  exact h.form

/-- The call owns the row; the lists in it are read, off the row. -/
def InnH (w : World) (base : Nat) (v : Value) (x : H2) : Prop := ∃ lo hi, base ≤ lo ∧ hi ≤ w.heap.size ∧ SlI w lo hi (.slice x.A x.pres.length x.c) x.pres ∧ ∀ g, v.ownBlock = some g → g < lo ∨ hi ≤ g
structure DrH (w : World) (base : Nat) (v : Value) (xs : List H2) : Prop where
  outer : OwnR H2.vals 2 w base 56 v xs
  inner : ∀ x ∈ xs, InnH w base v x
theorem DrH.nil (w : World) : DrH (w.alloc (.cells #[] 56)) w.heap.size (.slice (some ⟨w.heap.size, 0, none⟩) 0 0) [] := ⟨own_empty w _ 2 H2.vals, fun x hx => by cases hx⟩
theorem DrH.gr {w w' : World} {base g : Nat} {v : Value} {xs : List H2} (h : DrH w base v xs) (hg : w.grownBy w' (some g)) (hb : g < base) : DrH w' base v xs :=
  ⟨h.outer.gr hg hb, fun x hx => by
    obtain ⟨lo, hi, h1, h2, h3, h4⟩ := h.inner x hx
    exact ⟨lo, hi, h1, by have := hg.size; omega, h3.grown hg h2 (fun k hk => by have := Option.some.inj hk; omega), h4⟩⟩
theorem DrH.rd {w : World} {base : Nat} {v : Value} {xs : List H2} (h : DrH w base v xs) : RdH w base w.heap.size v (xs.map H2.ct) :=
  ⟨xs, ⟨own_slR (f := H2.vals) (s := 2) (fun _ => rfl) h.outer, fun x hx => by
    obtain ⟨lo, hi, h1, h2, h3, _⟩ := h.inner x hx
    exact h3.more h1 h2⟩, rfl⟩
theorem DrH.push {w w' : World} {base L : Nat} {v v' : Value} {xs : List H2} {x : H2} {o : Obj} (h : DrH w base v xs) (hn : SlI w L w.heap.size (.slice x.A x.pres.length x.c) x.pres) (hL : base ≤ L) (hv : ∀ g, v.ownBlock = some g → g < L)
    (g1 : OwnR H2.vals 2 w' base 56 v' (xs ++ [x])) (g2 : (w.alloc o).grownBy w' v.ownBlock) (g3 : v'.ownBlock = v.ownBlock ∨ v'.ownBlock = some (w.heap.size + 1)) : DrH w' base v' (xs ++ [x]) := by
  have hz : (w.alloc o).heap.size = w.heap.size + 1 := by simp
  have hz2 := g2.size
  have hin : ∀ y, InnH w base v y → InnH w' base v' y := fun y hy => by
    obtain ⟨lo, hi, h1, h2, h3, h4⟩ := hy
    refine ⟨lo, hi, h1, by omega, (h3.below ((Below.refl w.heap.size w).alloc (Nat.le_refl _) o) h2).grown g2 (by omega) h4, fun g hg => ?_⟩
    rcases g3 with g3 | g3
    · exact h4 g (g3 ▸ hg)
    · rw [g3] at hg; have := Option.some.inj hg; omega
  refine ⟨g1, fun y hy => ?_⟩
  rcases List.mem_append.1 hy with hy | hy
  · exact hin y (h.inner y hy)
  · have e := List.mem_singleton.1 hy
    subst e
    exact hin y ⟨L, w.heap.size, hL, Nat.le_refl _, hn, fun g hg => .inl (hv g hg)⟩

set_option maxRecDepth 100000 in
set_option maxHeartbeats 8000000 in
theorem l11List_any (g : Nat) (w : World) (h : Src w g) :
    Calls Try.prog 56 #[.pointer (some ⟨g, 0, none⟩)] w fun e w' => ∃ (v : Value) (z : List (Int × List Int)), e = .returned v ∧ RdH w' w.heap.size w'.heap.size v z ∧ z.length ≤ 30 ∧ Src w' g ∧ w.grownBy w' (some g) := by
  have lg := h.lt
  go_enter Try.func56, Try.ntmps56
  go_wp2_with fail
  have o := DrH.nil w
  replace h := h.alloc (.cells #[] 56)
  have G := gr_alloc (World.grownBy.refl w (some g)) (.cells #[] 56)
  generalize (w.alloc (.cells #[] 56)) = w0 at *
  refine (l01Next_any g 6 w0 h).mono ?_
  clear h
  rintro e w1 ⟨r1, rfl, a1, b1, _, h, g1⟩
  replace b1 := b1 (by omega)
  have z1 := g1.size
  replace o := o.gr g1 lg
  replace G := grownBy_trans G g1
  clear g1
  go_wp2_with fail
  refine (l01Next_any g 6 w1 h).mono ?_
  clear h
  rintro e w2 ⟨r2, rfl, a2, b2, _, h, g2⟩
  replace b2 := b2 (by omega)
  have z2 := g2.size
  replace o := o.gr g2 lg
  replace G := grownBy_trans G g2
  clear g2
  obtain ⟨m0, rfl⟩ : ∃ m0 : Nat, r2 = (m0 : Int) := ⟨r2.toNat, by omega⟩
  go_wp2_with fail
  go_loopw [3, 4, 5] (fun v d i wr => ∃ (m : Nat) (day : Int) (xs : List H2), i = .int .i64 m ∧ d = .int .i64 day ∧ m ≤ 5 ∧ xs.length + m ≤ 5 ∧ DrH wr w.heap.size v xs ∧ Src wr g ∧ w.grownBy wr (some g)) (fun _ _ i _ => (intOf i).toNat)
  case atStart => exact ⟨m0, _, [], rfl, rfl, by omega, by simp; omega, o, h, G⟩
  case round =>
    clear o h G
    obtain ⟨m, day, xs, rfl, rfl, hm, hxl, o, h, G⟩ := hrel
    have zr := G.size
    obtain ⟨Av, cv, rfl, _, _, _⟩ := own_form (OwnR.own o.outer)
    rcases m with _ | m
    · go_wp2_with fail
      refine (l01Next_any g 24 wr h).mono ?_
      clear h
      rintro e w3 ⟨r3, rfl, a3, b3, _, h, g3⟩
      have z3 := g3.size
      replace o := o.gr g3 lg
      replace G := grownBy_trans G g3
      clear g3
      by_cases e0 : r3 = 0
      · subst e0
        go_wp2_with fail
        go_loopw [3, 4] (fun v d wr => ∃ (day : Int) (xs : List H2), d = .int .i64 day ∧ xs.length ≤ 16 ∧ lenV v = xs.length ∧ DrH wr w.heap.size v xs ∧ Src wr g ∧ w.grownBy wr (some g)) (fun v _ _ => 30 - lenV v)
        case atStart => exact ⟨_, xs, rfl, by omega, rfl, o, h, G⟩
        case round =>
          clear o h G
          obtain ⟨day, ys, rfl, hyl, hlv, o, h, G⟩ := hrel
          have zr := G.size
          obtain ⟨Av, cv, rfl, _, _, _⟩ := own_form (OwnR.own o.outer)
          go_wp2_with fail
          refine (l01Next_any g 2 _ h).mono ?_
          clear h
          rintro e w4 ⟨r4, rfl, a4, b4, _, h, g4⟩
          replace b4 := b4 (by omega)
          have z4 := g4.size
          replace o := o.gr g4 lg
          replace G := grownBy_trans G g4
          clear g4
          by_cases hlt : (ys.length : Int) < 15 + r4
          · have ov := o.outer
            have HB := Lib.hid (fun k hk => World.ownsRow.lt (OwnR.own ov) k hk)
            have hs0 : SlI w4 w4.heap.size w4.heap.size (.slice none 0 0) [] := SlR.none (f := i64s) (s := 1) (fun _ => rfl) w4 _ _ none (by omega)
            go_wp2_with (at_builtin; refine wpList_append_rec_at (f := H2.vals) (s := 2) 56 _ _ (fun _ => rfl) oneCellH2 rfl _ _ 26 rfl w.heap.size Try.infoH2 Try.underlying26 rfl (by decide) _ ys ⟨day, none, 0, []⟩ rfl ov rfl rfl rfl (by omega) (by omega) (by omega) ?_)
            intro v5 w5 o5 g5 g5'
            have o6 := o.push (x := ⟨day, none, 0, []⟩) hs0 (by omega) (fun k hk => (HB.out k hk).2) o5 g5 g5'
            have h6 := (h.alloc (.cells #[.int .i64 day, .slice none 0 0] 56)).grown g5 (fun k hk => by have := (HB.out k hk).1; omega)
            have G6 := gr_row (gr_alloc G (.cells #[.int .i64 day, .slice none 0 0] 56)) g5 (fun k hk => (HB.out k hk).1)
            obtain ⟨A5, c5, rfl, _, _, _⟩ := own_form (OwnR.own o5)
            clear hs0 ov HB o h G o5 g5 g5'
            go_wp2_with fail
            go_roundw
            case rel => exact ⟨_, ys ++ [⟨day, none, 0, []⟩], rfl, by rw [List.length_append]; show ys.length + 1 ≤ 16; omega, rfl, o6, h6, G6⟩
            case measure => simp [lenV]; omega
          · go_wp2_with fail
            go_ret
            exact ⟨_, _, rfl, o.rd, by rw [List.length_map]; omega, h, G⟩
      replace e0 : (r3 == 0) = false := by simpa using e0
      go_wp2_with fail
      go_ret
      exact ⟨_, _, rfl, o.rd, by rw [List.length_map]; omega, h, G⟩
    · have hm0 : (0 : Int) < ((m + 1 : Nat) : Int) := by omega
      go_wp2_with fail
      refine (l11Sheet_any g day wr h).mono ?_
      clear h
      rintro e w3 ⟨dd, pv, ps, rfl, hp, hpl, h, g3⟩
      obtain ⟨pA, pc, rfl, _, _⟩ := hp.form
      have HB := Lib.hid (fun k hk => World.ownsRow.lt (OwnR.own o.outer) k hk)
      have z3 := g3.size
      replace o := o.gr g3 lg
      replace G := grownBy_trans G g3
      have ov := o.outer
      clear g3
      go_wp2_with (at_builtin; refine wpList_append_rec_at (f := H2.vals) (s := 2) 56 _ _ (fun _ => rfl) oneCellH2 rfl _ _ 26 rfl w.heap.size Try.infoH2 Try.underlying26 rfl (by decide) _ xs ⟨dd, pA, pc, ps⟩ rfl ov rfl rfl rfl (by omega) (by omega) (by omega) ?_)
      intro v5 w5 o5 g5 g5'
      have o6 := o.push (x := ⟨dd, pA, pc, ps⟩) hp (by omega) (fun k hk => (HB.out k hk).2) o5 g5 g5'
      have h6 := (h.alloc (.cells #[.int .i64 dd, .slice pA ps.length pc] 56)).grown g5 (fun k hk => by have := (HB.out k hk).1; omega)
      have G6 := gr_row (gr_alloc G (.cells #[.int .i64 dd, .slice pA ps.length pc] 56)) g5 (fun k hk => (HB.out k hk).1)
      obtain ⟨A5, c5, rfl, _, _, _⟩ := own_form (OwnR.own o5)
      clear ov HB o h G o5 g5 g5' hp
      go_wp2_with fail
      have z5 := G6.size
      refine (l01Next_any g 3 _ h6).mono ?_
      clear h6
      rintro e w7 ⟨r7, rfl, _, _, _, h, g7⟩
      have z7 := g7.size
      replace o := o6.gr g7 lg
      replace G := grownBy_trans G6 g7
      clear g7 o6 G6
      go_wp2_with fail
      go_roundw
      case rel => exact ⟨m, _, xs ++ [⟨dd, pA, pc, ps⟩], by go_num, rfl, by omega, by rw [List.length_append]; show xs.length + 1 + m ≤ 5; omega, by have := o; rw [List.length_append] at this; exact this, h, G⟩
      case measure => simp [intOf]

set_option maxRecDepth 100000 in
theorem DrawMostPresent_any (v : Value) (bs : List Int) (w : World) (hv : SlR u8s 1 w 0 w.heap.size v bs) (hb : ∀ b ∈ bs, 0 ≤ b ∧ b ≤ 255) :
    Calls Try.prog 22 #[v] w fun e w' => ∃ (y : Value) (z : List (Int × List Int)), e = .returned y ∧ RdH w' w.heap.size w'.heap.size y z ∧ z.length ≤ 30 ∧ Below w.heap.size w w' := by
  go_enter Try.func22, Try.ntmps22
  go_wp2_with fail
  refine (l01From_any v bs w hv hb).mono ?_
  rintro e w1 ⟨rfl, h, B⟩
  have lg := h.lt
  go_wp2_with fail
  refine (l11List_any w.heap.size w1 h).mono ?_
  clear h
  rintro e w2 ⟨vl, z, rfl, sl, lsl, h, g2⟩
  have z2 := g2.size
  replace B := gr_to_below B g2 (by omega) (by omega)
  obtain ⟨xs, sl, rfl⟩ := sl
  go_wp2_with fail
  go_ret
  exact ⟨_, _, rfl, ⟨xs, sl.more (by omega) (Nat.le_refl _), rfl⟩, lsl, B⟩

set_option maxRecDepth 100000 in
theorem DrawDaysPresent_any (v : Value) (bs : List Int) (w : World) (hv : SlR u8s 1 w 0 w.heap.size v bs) (hb : ∀ b ∈ bs, 0 ≤ b ∧ b ≤ 255) :
    Calls Try.prog 54 #[v] w fun e w' => ∃ (y : Value) (z : List (Int × List Int)) (n : Int), e = .returned (.tuple #[y, .int .i64 n]) ∧ RdH w' w.heap.size w'.heap.size y z ∧ z.length ≤ 30 ∧ Below w.heap.size w w' := by
  go_enter Try.func54, Try.ntmps54
  go_wp2_with fail
  refine (l01From_any v bs w hv hb).mono ?_
  rintro e w1 ⟨rfl, h, B⟩
  have lg := h.lt
  go_wp2_with fail
  refine (l11List_any w.heap.size w1 h).mono ?_
  clear h
  rintro e w2 ⟨vl, z, rfl, sl, lsl, h, g2⟩
  have z2 := g2.size
  replace B := gr_to_below B g2 (by omega) (by omega)
  clear g2
  obtain ⟨A, c, rfl, _, _⟩ := sl.len_form
  go_wp2_with fail
  refine (l01Next_any w.heap.size 24 w2 h).mono ?_
  clear h
  rintro e w3 ⟨n, rfl, _, _, _, h, g3⟩
  have z3 := g3.size
  replace sl := sl.gr g3 (by omega)
  replace B := gr_to_below B g3 (by omega) (by omega)
  clear g3
  go_wp2_with fail
  go_ret2
  obtain ⟨xs, sl, rfl⟩ := sl
  exact ⟨_, _, n, by rw [List.length_map]; rfl, ⟨xs, sl.more (by omega) (Nat.le_refl _), rfl⟩, lsl, B⟩

set_option maxRecDepth 100000 in
theorem DrawLongestRun_any (v : Value) (bs : List Int) (w : World) (hv : SlR u8s 1 w 0 w.heap.size v bs) (hb : ∀ b ∈ bs, 0 ≤ b ∧ b ≤ 255) :
    Calls Try.prog 17 #[v] w fun e w' => ∃ (y : Value) (z : List (Int × List Int)) (n : Int), e = .returned (.tuple #[y, .int .i64 n]) ∧ RdH w' w.heap.size w'.heap.size y z ∧ z.length ≤ 30 ∧ Below w.heap.size w w' := by
  go_enter Try.func17, Try.ntmps17
  go_wp2_with fail
  refine (DrawDaysPresent_any v bs w hv hb).mono ?_
  rintro e w1 ⟨y, z, n, rfl, sl, lsl, B⟩
  go_wp2_with fail
  go_ret2
  exact ⟨y, z, n, rfl, sl, lsl, B⟩
end Go.Proofs.Ytbboihodikhhkaa
