/- FnPools: for every code the law returns true. No condition. -/
import Derived.Test.YtfenedoalnieaaaDrawG
import Derived.Test.YtfenedoalnieaaaDrawL
import Derived.Test.YtfenedoalnieaaaPoolQ
namespace Go.Proofs.Ytfenedoalnieaaa.lawFnPools
open Go.ChangeShapes Go.WideShapes Go.ChangeAt Go.RowKit

set_option maxRecDepth 100000 in
set_option maxHeartbeats 2000000 in
theorem likePool_same (un ud vn vd : Value) (q : P3) (w : World) (l1 l2 l3 l4 : Nat) (h1 : SlI w l1 w.heap.size un q.nums) (h2 : SlI w l2 w.heap.size ud q.drawn) (h3 : SlI w l3 w.heap.size vn q.nums) (h4 : SlI w l4 w.heap.size vd q.drawn) :
    Calls Try.prog 43 #[.agg #[un, ud, .int .i64 q.st], .agg #[vn, vd, .int .i64 q.st]] w fun e w' => e = .returned (.bool true) ∧ Below w.heap.size w w' := by
  obtain ⟨A1, c1, rfl, _, _⟩ := h1.form
  obtain ⟨A2, c2, rfl, _, _⟩ := h2.form
  obtain ⟨A3, c3, rfl, _, _⟩ := h3.form
  obtain ⟨A4, c4, rfl, _, _⟩ := h4.form
  have up : ∀ {v : Value} {zs : List Int} {lo : Nat} {w1 : World}, SlI w lo w.heap.size v zs → Below w.heap.size w w1 → SlI w1 lo w1.heap.size v zs := fun h hb => (h.below hb (Nat.le_refl _)).more (Nat.le_refl _) hb.size
  go_enter Try.func43, Try.ntmps43
  go_wp2_with fail
  have bA : Blk ((w.alloc (.cells #[.slice A1 q.nums.length c1, .slice A2 q.drawn.length c2, .int .i64 q.st] 27)).alloc (.cells #[.slice A3 q.nums.length c3, .slice A4 q.drawn.length c4, .int .i64 q.st] 27)) w.heap.size _ _ := (Blk.new w _ _).alloc _
  have bB : Blk ((w.alloc (.cells #[.slice A1 q.nums.length c1, .slice A2 q.drawn.length c2, .int .i64 q.st] 27)).alloc (.cells #[.slice A3 q.nums.length c3, .slice A4 q.drawn.length c4, .int .i64 q.st] 27)) (w.heap.size + 1) _ _ := Blk.new' (by simp)
  have hB : Below w.heap.size w ((w.alloc (.cells #[.slice A1 q.nums.length c1, .slice A2 q.drawn.length c2, .int .i64 q.st] 27)).alloc (.cells #[.slice A3 q.nums.length c3, .slice A4 q.drawn.length c4, .int .i64 q.st] 27)) := ((Below.refl _ _).alloc (Nat.le_refl _) _).alloc (by simp) _
  generalize ((w.alloc (.cells #[.slice A1 q.nums.length c1, .slice A2 q.drawn.length c2, .int .i64 q.st] 27)).alloc (.cells #[.slice A3 q.nums.length c3, .slice A4 q.drawn.length c4, .int .i64 q.st] 27)) = w1 at *
  refine (likeInts_same _ _ q.nums w1 _ _ (up h1 hB) (up h3 hB)).mono ?_
  rintro e w2 ⟨rfl, hb2⟩
  have bA := bA.below' hb2
  have bB := bB.below' hb2
  have hB := hB.trans (hb2.mono hB.size)
  obtain ⟨d0, d1, d2⟩ := p3_cells bA
  obtain ⟨e0, e1, e2⟩ := p3_cells bB
  go_wp2_with fail
  refine (likeInts_same _ _ q.drawn w2 _ _ (up h2 hB) (up h4 hB)).mono ?_
  rintro e w3 ⟨rfl, hb3⟩
  have hB := hB.trans (hb3.mono hB.size)
  go_wp2_with fail
  go_ret
  exact ⟨rfl, hB⟩
theorem likePool_as {q q' : P3} (hq : q = q') {un ud vn vd : Value} {w : World} {l1 l2 l3 l4 : Nat} (h1 : SlI w l1 w.heap.size un q.nums) (h2 : SlI w l2 w.heap.size ud q.drawn) (h3 : SlI w l3 w.heap.size vn q.nums) (h4 : SlI w l4 w.heap.size vd q.drawn) :
    Calls Try.prog 43 #[.agg #[un, ud, .int .i64 q.st], .agg #[vn, vd, .int .i64 q.st]] w fun e w' => e = .returned (.bool true) ∧ Below w.heap.size w w' := likePool_same un ud vn vd q w l1 l2 l3 l4 h1 h2 h3 h4

set_option maxRecDepth 100000 in
set_option maxHeartbeats 16000000 in
theorem walkL (v : Value) (bs : List Int) (w : World) (h : SlR u8s 1 w 0 w.heap.size v bs) (hb : ∀ b ∈ bs, 0 ≤ b ∧ b ≤ 255) :
    Calls Try.prog 11 #[v] w fun e w' => e = .returned (.bool true) ∧ Below w.heap.size w w' := by
  have hB0 : Below w.heap.size w w := Below.refl _ _
  by_cases hbig : 4096 < bs.length
  · have hd : decide (4096 < bs.length) = true := decide_eq_true hbig
    go_enter Try.func11, Try.ntmps11
    go_wp2_with fail
    refine (big_any v bs w 0 _ h).mono ?_
    rintro e w0 ⟨rfl, rfl⟩
    go_wp2_with fail
    go_ret
    exact ⟨rfl, hB0⟩
  have hd : decide (4096 < bs.length) = false := decide_eq_false hbig
  clear hbig
  go_enter Try.func11, Try.ntmps11
  go_wp2_with fail
  refine (big_any v bs w 0 _ h).mono ?_
  rintro e w0 ⟨rfl, rfl⟩
  go_wp2_with fail
  refine (DrawTakeFrom_any v bs w h hb).mono ?_
  rintro e w1 ⟨vn1, vd1, p, k, rfl, rn1, rd1, hl1, hl1', hbw1⟩
  have h := (h.below hbw1 (Nat.le_refl _)).more (Nat.le_refl _) hbw1.size
  have Bw1 := hB0.trans (hbw1.mono hB0.size)
  clear hbw1
  obtain ⟨Xn1, kn1, rfl, _, _⟩ := rn1.form
  obtain ⟨Xd1, kd1, rfl, _, _⟩ := rd1.form
  go_wp2_with fail
  have hbw2 : Below w1.heap.size w1 (w1.alloc (.cells #[.slice Xn1 (p.nums).length kn1, .slice Xd1 (p.drawn).length kd1, .int .i64 p.st] 27)) := (Below.refl _ _).alloc (Nat.le_refl _) _
  have bx := Blk.new w1 27 #[.slice Xn1 (p.nums).length kn1, .slice Xd1 (p.drawn).length kd1, .int .i64 p.st]
  have lx : w1.heap.size < (w1.alloc (.cells #[.slice Xn1 (p.nums).length kn1, .slice Xd1 (p.drawn).length kd1, .int .i64 p.st] 27)).heap.size := by simp
  generalize (w1.alloc (.cells #[.slice Xn1 (p.nums).length kn1, .slice Xd1 (p.drawn).length kd1, .int .i64 p.st] 27)) = w2 at *
  have h := (h.below hbw2 (Nat.le_refl _)).more (Nat.le_refl _) hbw2.size
  have rn1 := (rn1.below hbw2 (Nat.le_refl _)).more (Nat.le_refl _) hbw2.size
  have rd1 := (rd1.below hbw2 (Nat.le_refl _)).more (Nat.le_refl _) hbw2.size
  have Bw2 := Bw1.trans (hbw2.mono Bw1.size)
  clear Bw1
  clear hbw2
  have b3 := bx
  clear bx lx
  have HT := Lib.hid (fun e => take_law (p := p) (k := k) e)
  have hlt := takeF_len p k
  refine (implTakeFrom_any _ _ p k w2 _ _ rn1 rd1).mono ?_
  rintro e w3 ⟨vn2, vd2, vl2, Q2, R2, rfl, rn2, rd2, rl2, _, _, _, hbw3⟩
  have h := (h.below hbw3 (Nat.le_refl _)).more (Nat.le_refl _) hbw3.size
  have rn1 := (rn1.below hbw3 (Nat.le_refl _)).more (Nat.le_refl _) hbw3.size
  have rd1 := (rd1.below hbw3 (Nat.le_refl _)).more (Nat.le_refl _) hbw3.size
  have b3 := b3.below' hbw3
  have Bw3 := Bw2.trans (hbw3.mono Bw2.size)
  clear Bw2
  clear hbw3
  have rn2 := OwI.rd (f := i64s) (s := 1) (fun _ => rfl) rn2
  have rd2 := OwI.rd (f := i64s) (s := 1) (fun _ => rfl) rd2
  have rl2 := OwI.rd (f := i64s) (s := 1) (fun _ => rfl) rl2
  obtain ⟨Xn2, kn2, rfl, _, _⟩ := rn2.form
  obtain ⟨Xd2, kd2, rfl, _, _⟩ := rd2.form
  obtain ⟨qa_b3_0, qa_b3_1, qa_b3_2⟩ := p3_cells (b3.alloc (.cells #[.slice Xn2 ((takeF p k).1.nums).length kn2, .slice Xd2 ((takeF p k).1.drawn).length kd2, .int .i64 (takeF p k).1.st] 27))
  go_wp2_with fail
  clear qa_b3_0 qa_b3_1 qa_b3_2
  have hbw4 : Below w3.heap.size w3 (w3.alloc (.cells #[.slice Xn2 ((takeF p k).1.nums).length kn2, .slice Xd2 ((takeF p k).1.drawn).length kd2, .int .i64 (takeF p k).1.st] 27)) := (Below.refl _ _).alloc (Nat.le_refl _) _
  have bx := Blk.new w3 27 #[.slice Xn2 ((takeF p k).1.nums).length kn2, .slice Xd2 ((takeF p k).1.drawn).length kd2, .int .i64 (takeF p k).1.st]
  have lx : w3.heap.size < (w3.alloc (.cells #[.slice Xn2 ((takeF p k).1.nums).length kn2, .slice Xd2 ((takeF p k).1.drawn).length kd2, .int .i64 (takeF p k).1.st] 27)).heap.size := by simp
  generalize (w3.alloc (.cells #[.slice Xn2 ((takeF p k).1.nums).length kn2, .slice Xd2 ((takeF p k).1.drawn).length kd2, .int .i64 (takeF p k).1.st] 27)) = w4 at *
  have h := (h.below hbw4 (Nat.le_refl _)).more (Nat.le_refl _) hbw4.size
  have rn1 := (rn1.below hbw4 (Nat.le_refl _)).more (Nat.le_refl _) hbw4.size
  have rd1 := (rd1.below hbw4 (Nat.le_refl _)).more (Nat.le_refl _) hbw4.size
  have rn2 := (rn2.below hbw4 (Nat.le_refl _)).more (Nat.le_refl _) hbw4.size
  have rd2 := (rd2.below hbw4 (Nat.le_refl _)).more (Nat.le_refl _) hbw4.size
  have rl2 := (rl2.below hbw4 (Nat.le_refl _)).more (Nat.le_refl _) hbw4.size
  have b3 := b3.below' hbw4
  have Bw4 := Bw3.trans (hbw4.mono Bw3.size)
  clear Bw3
  clear hbw4
  have b5 := bx
  clear bx lx
  refine (specTakeFrom_any _ _ p k w4 _ _ rn1 rd1 (by omega) (by omega)).mono ?_
  rintro e w5 ⟨vn3, vd3, vl3, rfl, rn3, rd3, rl3, hbw5⟩
  have h := (h.below hbw5 (Nat.le_refl _)).more (Nat.le_refl _) hbw5.size
  have rn1 := (rn1.below hbw5 (Nat.le_refl _)).more (Nat.le_refl _) hbw5.size
  have rd1 := (rd1.below hbw5 (Nat.le_refl _)).more (Nat.le_refl _) hbw5.size
  have rn2 := (rn2.below hbw5 (Nat.le_refl _)).more (Nat.le_refl _) hbw5.size
  have rd2 := (rd2.below hbw5 (Nat.le_refl _)).more (Nat.le_refl _) hbw5.size
  have rl2 := (rl2.below hbw5 (Nat.le_refl _)).more (Nat.le_refl _) hbw5.size
  have b3 := b3.below' hbw5
  have b5 := b5.below' hbw5
  have Bw5 := Bw4.trans (hbw5.mono Bw4.size)
  clear Bw4
  clear hbw5
  obtain ⟨Xn3, kn3, rfl, _, _⟩ := rn3.form
  obtain ⟨Xd3, kd3, rfl, _, _⟩ := rd3.form
  go_wp2_with fail
  have hbw6 : Below w5.heap.size w5 (w5.alloc (.cells #[.slice Xn3 ((takeF p k).1.nums).length kn3, .slice Xd3 ((takeF p k).1.drawn).length kd3, .int .i64 (takeF p k).1.st] 27)) := (Below.refl _ _).alloc (Nat.le_refl _) _
  have bx := Blk.new w5 27 #[.slice Xn3 ((takeF p k).1.nums).length kn3, .slice Xd3 ((takeF p k).1.drawn).length kd3, .int .i64 (takeF p k).1.st]
  have lx : w5.heap.size < (w5.alloc (.cells #[.slice Xn3 ((takeF p k).1.nums).length kn3, .slice Xd3 ((takeF p k).1.drawn).length kd3, .int .i64 (takeF p k).1.st] 27)).heap.size := by simp
  generalize (w5.alloc (.cells #[.slice Xn3 ((takeF p k).1.nums).length kn3, .slice Xd3 ((takeF p k).1.drawn).length kd3, .int .i64 (takeF p k).1.st] 27)) = w6 at *
  have h := (h.below hbw6 (Nat.le_refl _)).more (Nat.le_refl _) hbw6.size
  have rn1 := (rn1.below hbw6 (Nat.le_refl _)).more (Nat.le_refl _) hbw6.size
  have rd1 := (rd1.below hbw6 (Nat.le_refl _)).more (Nat.le_refl _) hbw6.size
  have rn2 := (rn2.below hbw6 (Nat.le_refl _)).more (Nat.le_refl _) hbw6.size
  have rd2 := (rd2.below hbw6 (Nat.le_refl _)).more (Nat.le_refl _) hbw6.size
  have rl2 := (rl2.below hbw6 (Nat.le_refl _)).more (Nat.le_refl _) hbw6.size
  have rn3 := (rn3.below hbw6 (Nat.le_refl _)).more (Nat.le_refl _) hbw6.size
  have rd3 := (rd3.below hbw6 (Nat.le_refl _)).more (Nat.le_refl _) hbw6.size
  have rl3 := (rl3.below hbw6 (Nat.le_refl _)).more (Nat.le_refl _) hbw6.size
  have b3 := b3.below' hbw6
  have b5 := b5.below' hbw6
  have Bw6 := Bw5.trans (hbw6.mono Bw5.size)
  clear Bw5
  clear hbw6
  have b8 := bx
  clear bx lx
  refine (DrawIsReplay_any v bs w6 h hb).mono ?_
  rintro e w7 ⟨vn4, vd4, x, st, rfl, rn4, rd4, hl4, hl4', hbw7⟩
  have h := (h.below hbw7 (Nat.le_refl _)).more (Nat.le_refl _) hbw7.size
  have rn1 := (rn1.below hbw7 (Nat.le_refl _)).more (Nat.le_refl _) hbw7.size
  have rd1 := (rd1.below hbw7 (Nat.le_refl _)).more (Nat.le_refl _) hbw7.size
  have rn2 := (rn2.below hbw7 (Nat.le_refl _)).more (Nat.le_refl _) hbw7.size
  have rd2 := (rd2.below hbw7 (Nat.le_refl _)).more (Nat.le_refl _) hbw7.size
  have rl2 := (rl2.below hbw7 (Nat.le_refl _)).more (Nat.le_refl _) hbw7.size
  have rn3 := (rn3.below hbw7 (Nat.le_refl _)).more (Nat.le_refl _) hbw7.size
  have rd3 := (rd3.below hbw7 (Nat.le_refl _)).more (Nat.le_refl _) hbw7.size
  have rl3 := (rl3.below hbw7 (Nat.le_refl _)).more (Nat.le_refl _) hbw7.size
  have b3 := b3.below' hbw7
  have b5 := b5.below' hbw7
  have b8 := b8.below' hbw7
  have Bw7 := Bw6.trans (hbw7.mono Bw6.size)
  clear Bw6
  clear hbw7
  obtain ⟨Xn4, kn4, rfl, _, _⟩ := rn4.form
  obtain ⟨Xd4, kd4, rfl, _, _⟩ := rd4.form
  go_wp2_with fail
  have hbw8 : Below w7.heap.size w7 (w7.alloc (.cells #[.slice Xn4 (x.nums).length kn4, .slice Xd4 (x.drawn).length kd4, .int .i64 x.st] 27)) := (Below.refl _ _).alloc (Nat.le_refl _) _
  have bx := Blk.new w7 27 #[.slice Xn4 (x.nums).length kn4, .slice Xd4 (x.drawn).length kd4, .int .i64 x.st]
  have lx : w7.heap.size < (w7.alloc (.cells #[.slice Xn4 (x.nums).length kn4, .slice Xd4 (x.drawn).length kd4, .int .i64 x.st] 27)).heap.size := by simp
  generalize (w7.alloc (.cells #[.slice Xn4 (x.nums).length kn4, .slice Xd4 (x.drawn).length kd4, .int .i64 x.st] 27)) = w8 at *
  have h := (h.below hbw8 (Nat.le_refl _)).more (Nat.le_refl _) hbw8.size
  have rn1 := (rn1.below hbw8 (Nat.le_refl _)).more (Nat.le_refl _) hbw8.size
  have rd1 := (rd1.below hbw8 (Nat.le_refl _)).more (Nat.le_refl _) hbw8.size
  have rn2 := (rn2.below hbw8 (Nat.le_refl _)).more (Nat.le_refl _) hbw8.size
  have rd2 := (rd2.below hbw8 (Nat.le_refl _)).more (Nat.le_refl _) hbw8.size
  have rl2 := (rl2.below hbw8 (Nat.le_refl _)).more (Nat.le_refl _) hbw8.size
  have rn3 := (rn3.below hbw8 (Nat.le_refl _)).more (Nat.le_refl _) hbw8.size
  have rd3 := (rd3.below hbw8 (Nat.le_refl _)).more (Nat.le_refl _) hbw8.size
  have rl3 := (rl3.below hbw8 (Nat.le_refl _)).more (Nat.le_refl _) hbw8.size
  have rn4 := (rn4.below hbw8 (Nat.le_refl _)).more (Nat.le_refl _) hbw8.size
  have rd4 := (rd4.below hbw8 (Nat.le_refl _)).more (Nat.le_refl _) hbw8.size
  have b3 := b3.below' hbw8
  have b5 := b5.below' hbw8
  have b8 := b8.below' hbw8
  have Bw8 := Bw7.trans (hbw8.mono Bw7.size)
  clear Bw7
  clear hbw8
  have b11 := bx
  clear bx lx
  refine (implIsReplay_any _ _ x st w8 _ _ rn4 rd4).mono ?_
  rintro e w9 ⟨rfl, hbw9⟩
  have h := (h.below hbw9 (Nat.le_refl _)).more (Nat.le_refl _) hbw9.size
  have rn1 := (rn1.below hbw9 (Nat.le_refl _)).more (Nat.le_refl _) hbw9.size
  have rd1 := (rd1.below hbw9 (Nat.le_refl _)).more (Nat.le_refl _) hbw9.size
  have rn2 := (rn2.below hbw9 (Nat.le_refl _)).more (Nat.le_refl _) hbw9.size
  have rd2 := (rd2.below hbw9 (Nat.le_refl _)).more (Nat.le_refl _) hbw9.size
  have rl2 := (rl2.below hbw9 (Nat.le_refl _)).more (Nat.le_refl _) hbw9.size
  have rn3 := (rn3.below hbw9 (Nat.le_refl _)).more (Nat.le_refl _) hbw9.size
  have rd3 := (rd3.below hbw9 (Nat.le_refl _)).more (Nat.le_refl _) hbw9.size
  have rl3 := (rl3.below hbw9 (Nat.le_refl _)).more (Nat.le_refl _) hbw9.size
  have rn4 := (rn4.below hbw9 (Nat.le_refl _)).more (Nat.le_refl _) hbw9.size
  have rd4 := (rd4.below hbw9 (Nat.le_refl _)).more (Nat.le_refl _) hbw9.size
  have b3 := b3.below' hbw9
  have b5 := b5.below' hbw9
  have b8 := b8.below' hbw9
  have b11 := b11.below' hbw9
  have Bw9 := Bw8.trans (hbw9.mono Bw8.size)
  clear Bw8
  clear hbw9
  obtain ⟨q_b11_0, q_b11_1, q_b11_2⟩ := p3_cells b11
  go_wp2_with fail
  clear q_b11_0 q_b11_1 q_b11_2
  refine (specIsReplay_any _ _ x st w9 _ _ rn4 rd4).mono ?_
  rintro e w10 ⟨rfl, hbw10⟩
  have h := (h.below hbw10 (Nat.le_refl _)).more (Nat.le_refl _) hbw10.size
  have rn1 := (rn1.below hbw10 (Nat.le_refl _)).more (Nat.le_refl _) hbw10.size
  have rd1 := (rd1.below hbw10 (Nat.le_refl _)).more (Nat.le_refl _) hbw10.size
  have rn2 := (rn2.below hbw10 (Nat.le_refl _)).more (Nat.le_refl _) hbw10.size
  have rd2 := (rd2.below hbw10 (Nat.le_refl _)).more (Nat.le_refl _) hbw10.size
  have rl2 := (rl2.below hbw10 (Nat.le_refl _)).more (Nat.le_refl _) hbw10.size
  have rn3 := (rn3.below hbw10 (Nat.le_refl _)).more (Nat.le_refl _) hbw10.size
  have rd3 := (rd3.below hbw10 (Nat.le_refl _)).more (Nat.le_refl _) hbw10.size
  have rl3 := (rl3.below hbw10 (Nat.le_refl _)).more (Nat.le_refl _) hbw10.size
  have rn4 := (rn4.below hbw10 (Nat.le_refl _)).more (Nat.le_refl _) hbw10.size
  have rd4 := (rd4.below hbw10 (Nat.le_refl _)).more (Nat.le_refl _) hbw10.size
  have b3 := b3.below' hbw10
  have b5 := b5.below' hbw10
  have b8 := b8.below' hbw10
  have b11 := b11.below' hbw10
  have Bw10 := Bw9.trans (hbw10.mono Bw9.size)
  clear Bw9
  clear hbw10
  go_wp2_with fail
  refine (DrawMakePool_any v bs w10 h hb).mono ?_
  rintro e w11 ⟨vc, c, s0, rfl, rc, hl5, hbw11⟩
  have h := (h.below hbw11 (Nat.le_refl _)).more (Nat.le_refl _) hbw11.size
  have rn1 := (rn1.below hbw11 (Nat.le_refl _)).more (Nat.le_refl _) hbw11.size
  have rd1 := (rd1.below hbw11 (Nat.le_refl _)).more (Nat.le_refl _) hbw11.size
  have rn2 := (rn2.below hbw11 (Nat.le_refl _)).more (Nat.le_refl _) hbw11.size
  have rd2 := (rd2.below hbw11 (Nat.le_refl _)).more (Nat.le_refl _) hbw11.size
  have rl2 := (rl2.below hbw11 (Nat.le_refl _)).more (Nat.le_refl _) hbw11.size
  have rn3 := (rn3.below hbw11 (Nat.le_refl _)).more (Nat.le_refl _) hbw11.size
  have rd3 := (rd3.below hbw11 (Nat.le_refl _)).more (Nat.le_refl _) hbw11.size
  have rl3 := (rl3.below hbw11 (Nat.le_refl _)).more (Nat.le_refl _) hbw11.size
  have rn4 := (rn4.below hbw11 (Nat.le_refl _)).more (Nat.le_refl _) hbw11.size
  have rd4 := (rd4.below hbw11 (Nat.le_refl _)).more (Nat.le_refl _) hbw11.size
  have b3 := b3.below' hbw11
  have b5 := b5.below' hbw11
  have b8 := b8.below' hbw11
  have b11 := b11.below' hbw11
  have Bw11 := Bw10.trans (hbw11.mono Bw10.size)
  clear Bw10
  clear hbw11
  obtain ⟨Xc, kc, rfl, _, _⟩ := rc.form
  go_wp2_with fail
  refine (implMakePool_any _ c s0 w11 _ rc (by omega)).mono ?_
  rintro e w12 ⟨vn5, vd5, Q5, rfl, rn5, rd5, _, _, hbw12⟩
  have h := (h.below hbw12 (Nat.le_refl _)).more (Nat.le_refl _) hbw12.size
  have rn1 := (rn1.below hbw12 (Nat.le_refl _)).more (Nat.le_refl _) hbw12.size
  have rd1 := (rd1.below hbw12 (Nat.le_refl _)).more (Nat.le_refl _) hbw12.size
  have rn2 := (rn2.below hbw12 (Nat.le_refl _)).more (Nat.le_refl _) hbw12.size
  have rd2 := (rd2.below hbw12 (Nat.le_refl _)).more (Nat.le_refl _) hbw12.size
  have rl2 := (rl2.below hbw12 (Nat.le_refl _)).more (Nat.le_refl _) hbw12.size
  have rn3 := (rn3.below hbw12 (Nat.le_refl _)).more (Nat.le_refl _) hbw12.size
  have rd3 := (rd3.below hbw12 (Nat.le_refl _)).more (Nat.le_refl _) hbw12.size
  have rl3 := (rl3.below hbw12 (Nat.le_refl _)).more (Nat.le_refl _) hbw12.size
  have rn4 := (rn4.below hbw12 (Nat.le_refl _)).more (Nat.le_refl _) hbw12.size
  have rd4 := (rd4.below hbw12 (Nat.le_refl _)).more (Nat.le_refl _) hbw12.size
  have rc := (rc.below hbw12 (Nat.le_refl _)).more (Nat.le_refl _) hbw12.size
  have b3 := b3.below' hbw12
  have b5 := b5.below' hbw12
  have b8 := b8.below' hbw12
  have b11 := b11.below' hbw12
  have Bw12 := Bw11.trans (hbw12.mono Bw11.size)
  clear Bw11
  clear hbw12
  have rn5 := OwI.rd (f := i64s) (s := 1) (fun _ => rfl) rn5
  have rd5 := OwI.rd (f := i64s) (s := 1) (fun _ => rfl) rd5
  obtain ⟨Xn5, kn5, rfl, _, _⟩ := rn5.form
  obtain ⟨Xd5, kd5, rfl, _, _⟩ := rd5.form
  go_wp2_with fail
  have hbw13 : Below w12.heap.size w12 (w12.alloc (.cells #[.slice Xn5 ((makeF c s0).1.nums).length kn5, .slice Xd5 ((makeF c s0).1.drawn).length kd5, .int .i64 (makeF c s0).1.st] 27)) := (Below.refl _ _).alloc (Nat.le_refl _) _
  have bx := Blk.new w12 27 #[.slice Xn5 ((makeF c s0).1.nums).length kn5, .slice Xd5 ((makeF c s0).1.drawn).length kd5, .int .i64 (makeF c s0).1.st]
  have lx : w12.heap.size < (w12.alloc (.cells #[.slice Xn5 ((makeF c s0).1.nums).length kn5, .slice Xd5 ((makeF c s0).1.drawn).length kd5, .int .i64 (makeF c s0).1.st] 27)).heap.size := by simp
  generalize (w12.alloc (.cells #[.slice Xn5 ((makeF c s0).1.nums).length kn5, .slice Xd5 ((makeF c s0).1.drawn).length kd5, .int .i64 (makeF c s0).1.st] 27)) = w13 at *
  have h := (h.below hbw13 (Nat.le_refl _)).more (Nat.le_refl _) hbw13.size
  have rn1 := (rn1.below hbw13 (Nat.le_refl _)).more (Nat.le_refl _) hbw13.size
  have rd1 := (rd1.below hbw13 (Nat.le_refl _)).more (Nat.le_refl _) hbw13.size
  have rn2 := (rn2.below hbw13 (Nat.le_refl _)).more (Nat.le_refl _) hbw13.size
  have rd2 := (rd2.below hbw13 (Nat.le_refl _)).more (Nat.le_refl _) hbw13.size
  have rl2 := (rl2.below hbw13 (Nat.le_refl _)).more (Nat.le_refl _) hbw13.size
  have rn3 := (rn3.below hbw13 (Nat.le_refl _)).more (Nat.le_refl _) hbw13.size
  have rd3 := (rd3.below hbw13 (Nat.le_refl _)).more (Nat.le_refl _) hbw13.size
  have rl3 := (rl3.below hbw13 (Nat.le_refl _)).more (Nat.le_refl _) hbw13.size
  have rn4 := (rn4.below hbw13 (Nat.le_refl _)).more (Nat.le_refl _) hbw13.size
  have rd4 := (rd4.below hbw13 (Nat.le_refl _)).more (Nat.le_refl _) hbw13.size
  have rc := (rc.below hbw13 (Nat.le_refl _)).more (Nat.le_refl _) hbw13.size
  have rn5 := (rn5.below hbw13 (Nat.le_refl _)).more (Nat.le_refl _) hbw13.size
  have rd5 := (rd5.below hbw13 (Nat.le_refl _)).more (Nat.le_refl _) hbw13.size
  have b3 := b3.below' hbw13
  have b5 := b5.below' hbw13
  have b8 := b8.below' hbw13
  have b11 := b11.below' hbw13
  have Bw13 := Bw12.trans (hbw13.mono Bw12.size)
  clear Bw12
  clear hbw13
  have b19 := bx
  clear bx lx
  refine (specMakePool_any _ c s0 w13 _ rc (by omega)).mono ?_
  rintro e w14 ⟨vn6, vd6, rfl, rn6, rd6, hbw14⟩
  have h := (h.below hbw14 (Nat.le_refl _)).more (Nat.le_refl _) hbw14.size
  have rn1 := (rn1.below hbw14 (Nat.le_refl _)).more (Nat.le_refl _) hbw14.size
  have rd1 := (rd1.below hbw14 (Nat.le_refl _)).more (Nat.le_refl _) hbw14.size
  have rn2 := (rn2.below hbw14 (Nat.le_refl _)).more (Nat.le_refl _) hbw14.size
  have rd2 := (rd2.below hbw14 (Nat.le_refl _)).more (Nat.le_refl _) hbw14.size
  have rl2 := (rl2.below hbw14 (Nat.le_refl _)).more (Nat.le_refl _) hbw14.size
  have rn3 := (rn3.below hbw14 (Nat.le_refl _)).more (Nat.le_refl _) hbw14.size
  have rd3 := (rd3.below hbw14 (Nat.le_refl _)).more (Nat.le_refl _) hbw14.size
  have rl3 := (rl3.below hbw14 (Nat.le_refl _)).more (Nat.le_refl _) hbw14.size
  have rn4 := (rn4.below hbw14 (Nat.le_refl _)).more (Nat.le_refl _) hbw14.size
  have rd4 := (rd4.below hbw14 (Nat.le_refl _)).more (Nat.le_refl _) hbw14.size
  have rc := (rc.below hbw14 (Nat.le_refl _)).more (Nat.le_refl _) hbw14.size
  have rn5 := (rn5.below hbw14 (Nat.le_refl _)).more (Nat.le_refl _) hbw14.size
  have rd5 := (rd5.below hbw14 (Nat.le_refl _)).more (Nat.le_refl _) hbw14.size
  have b3 := b3.below' hbw14
  have b5 := b5.below' hbw14
  have b8 := b8.below' hbw14
  have b11 := b11.below' hbw14
  have b19 := b19.below' hbw14
  have Bw14 := Bw13.trans (hbw14.mono Bw13.size)
  clear Bw13
  clear hbw14
  obtain ⟨Xn6, kn6, rfl, _, _⟩ := rn6.form
  obtain ⟨Xd6, kd6, rfl, _, _⟩ := rd6.form
  go_wp2_with fail
  have hbw15 : Below w14.heap.size w14 (w14.alloc (.cells #[.slice Xn6 ((makeF c s0).1.nums).length kn6, .slice Xd6 ((makeF c s0).1.drawn).length kd6, .int .i64 (makeF c s0).1.st] 27)) := (Below.refl _ _).alloc (Nat.le_refl _) _
  have bx := Blk.new w14 27 #[.slice Xn6 ((makeF c s0).1.nums).length kn6, .slice Xd6 ((makeF c s0).1.drawn).length kd6, .int .i64 (makeF c s0).1.st]
  have lx : w14.heap.size < (w14.alloc (.cells #[.slice Xn6 ((makeF c s0).1.nums).length kn6, .slice Xd6 ((makeF c s0).1.drawn).length kd6, .int .i64 (makeF c s0).1.st] 27)).heap.size := by simp
  generalize (w14.alloc (.cells #[.slice Xn6 ((makeF c s0).1.nums).length kn6, .slice Xd6 ((makeF c s0).1.drawn).length kd6, .int .i64 (makeF c s0).1.st] 27)) = w15 at *
  have h := (h.below hbw15 (Nat.le_refl _)).more (Nat.le_refl _) hbw15.size
  have rn1 := (rn1.below hbw15 (Nat.le_refl _)).more (Nat.le_refl _) hbw15.size
  have rd1 := (rd1.below hbw15 (Nat.le_refl _)).more (Nat.le_refl _) hbw15.size
  have rn2 := (rn2.below hbw15 (Nat.le_refl _)).more (Nat.le_refl _) hbw15.size
  have rd2 := (rd2.below hbw15 (Nat.le_refl _)).more (Nat.le_refl _) hbw15.size
  have rl2 := (rl2.below hbw15 (Nat.le_refl _)).more (Nat.le_refl _) hbw15.size
  have rn3 := (rn3.below hbw15 (Nat.le_refl _)).more (Nat.le_refl _) hbw15.size
  have rd3 := (rd3.below hbw15 (Nat.le_refl _)).more (Nat.le_refl _) hbw15.size
  have rl3 := (rl3.below hbw15 (Nat.le_refl _)).more (Nat.le_refl _) hbw15.size
  have rn4 := (rn4.below hbw15 (Nat.le_refl _)).more (Nat.le_refl _) hbw15.size
  have rd4 := (rd4.below hbw15 (Nat.le_refl _)).more (Nat.le_refl _) hbw15.size
  have rc := (rc.below hbw15 (Nat.le_refl _)).more (Nat.le_refl _) hbw15.size
  have rn5 := (rn5.below hbw15 (Nat.le_refl _)).more (Nat.le_refl _) hbw15.size
  have rd5 := (rd5.below hbw15 (Nat.le_refl _)).more (Nat.le_refl _) hbw15.size
  have rn6 := (rn6.below hbw15 (Nat.le_refl _)).more (Nat.le_refl _) hbw15.size
  have rd6 := (rd6.below hbw15 (Nat.le_refl _)).more (Nat.le_refl _) hbw15.size
  have b3 := b3.below' hbw15
  have b5 := b5.below' hbw15
  have b8 := b8.below' hbw15
  have b11 := b11.below' hbw15
  have b19 := b19.below' hbw15
  have Bw15 := Bw14.trans (hbw15.mono Bw14.size)
  clear Bw14
  clear hbw15
  have b21 := bx
  clear bx lx
  refine (DrawPutBack_any v bs w15 h hb).mono ?_
  rintro e w16 ⟨vn7, vd7, y, vb, ns, rfl, rn7, rd7, rb, hl7, hl7', hl8, hbw16⟩
  have h := (h.below hbw16 (Nat.le_refl _)).more (Nat.le_refl _) hbw16.size
  have rn1 := (rn1.below hbw16 (Nat.le_refl _)).more (Nat.le_refl _) hbw16.size
  have rd1 := (rd1.below hbw16 (Nat.le_refl _)).more (Nat.le_refl _) hbw16.size
  have rn2 := (rn2.below hbw16 (Nat.le_refl _)).more (Nat.le_refl _) hbw16.size
  have rd2 := (rd2.below hbw16 (Nat.le_refl _)).more (Nat.le_refl _) hbw16.size
  have rl2 := (rl2.below hbw16 (Nat.le_refl _)).more (Nat.le_refl _) hbw16.size
  have rn3 := (rn3.below hbw16 (Nat.le_refl _)).more (Nat.le_refl _) hbw16.size
  have rd3 := (rd3.below hbw16 (Nat.le_refl _)).more (Nat.le_refl _) hbw16.size
  have rl3 := (rl3.below hbw16 (Nat.le_refl _)).more (Nat.le_refl _) hbw16.size
  have rn4 := (rn4.below hbw16 (Nat.le_refl _)).more (Nat.le_refl _) hbw16.size
  have rd4 := (rd4.below hbw16 (Nat.le_refl _)).more (Nat.le_refl _) hbw16.size
  have rc := (rc.below hbw16 (Nat.le_refl _)).more (Nat.le_refl _) hbw16.size
  have rn5 := (rn5.below hbw16 (Nat.le_refl _)).more (Nat.le_refl _) hbw16.size
  have rd5 := (rd5.below hbw16 (Nat.le_refl _)).more (Nat.le_refl _) hbw16.size
  have rn6 := (rn6.below hbw16 (Nat.le_refl _)).more (Nat.le_refl _) hbw16.size
  have rd6 := (rd6.below hbw16 (Nat.le_refl _)).more (Nat.le_refl _) hbw16.size
  have b3 := b3.below' hbw16
  have b5 := b5.below' hbw16
  have b8 := b8.below' hbw16
  have b11 := b11.below' hbw16
  have b19 := b19.below' hbw16
  have b21 := b21.below' hbw16
  have Bw16 := Bw15.trans (hbw16.mono Bw15.size)
  clear Bw15
  clear hbw16
  obtain ⟨Xb, kb, rfl, _, _⟩ := rb.form
  obtain ⟨Xn7, kn7, rfl, _, _⟩ := rn7.form
  obtain ⟨Xd7, kd7, rfl, _, _⟩ := rd7.form
  go_wp2_with fail
  have hbw17 : Below w16.heap.size w16 (w16.alloc (.cells #[.slice Xn7 (y.nums).length kn7, .slice Xd7 (y.drawn).length kd7, .int .i64 y.st] 27)) := (Below.refl _ _).alloc (Nat.le_refl _) _
  have bx := Blk.new w16 27 #[.slice Xn7 (y.nums).length kn7, .slice Xd7 (y.drawn).length kd7, .int .i64 y.st]
  have lx : w16.heap.size < (w16.alloc (.cells #[.slice Xn7 (y.nums).length kn7, .slice Xd7 (y.drawn).length kd7, .int .i64 y.st] 27)).heap.size := by simp
  generalize (w16.alloc (.cells #[.slice Xn7 (y.nums).length kn7, .slice Xd7 (y.drawn).length kd7, .int .i64 y.st] 27)) = w17 at *
  have h := (h.below hbw17 (Nat.le_refl _)).more (Nat.le_refl _) hbw17.size
  have rn1 := (rn1.below hbw17 (Nat.le_refl _)).more (Nat.le_refl _) hbw17.size
  have rd1 := (rd1.below hbw17 (Nat.le_refl _)).more (Nat.le_refl _) hbw17.size
  have rn2 := (rn2.below hbw17 (Nat.le_refl _)).more (Nat.le_refl _) hbw17.size
  have rd2 := (rd2.below hbw17 (Nat.le_refl _)).more (Nat.le_refl _) hbw17.size
  have rl2 := (rl2.below hbw17 (Nat.le_refl _)).more (Nat.le_refl _) hbw17.size
  have rn3 := (rn3.below hbw17 (Nat.le_refl _)).more (Nat.le_refl _) hbw17.size
  have rd3 := (rd3.below hbw17 (Nat.le_refl _)).more (Nat.le_refl _) hbw17.size
  have rl3 := (rl3.below hbw17 (Nat.le_refl _)).more (Nat.le_refl _) hbw17.size
  have rn4 := (rn4.below hbw17 (Nat.le_refl _)).more (Nat.le_refl _) hbw17.size
  have rd4 := (rd4.below hbw17 (Nat.le_refl _)).more (Nat.le_refl _) hbw17.size
  have rc := (rc.below hbw17 (Nat.le_refl _)).more (Nat.le_refl _) hbw17.size
  have rn5 := (rn5.below hbw17 (Nat.le_refl _)).more (Nat.le_refl _) hbw17.size
  have rd5 := (rd5.below hbw17 (Nat.le_refl _)).more (Nat.le_refl _) hbw17.size
  have rn6 := (rn6.below hbw17 (Nat.le_refl _)).more (Nat.le_refl _) hbw17.size
  have rd6 := (rd6.below hbw17 (Nat.le_refl _)).more (Nat.le_refl _) hbw17.size
  have rn7 := (rn7.below hbw17 (Nat.le_refl _)).more (Nat.le_refl _) hbw17.size
  have rd7 := (rd7.below hbw17 (Nat.le_refl _)).more (Nat.le_refl _) hbw17.size
  have rb := (rb.below hbw17 (Nat.le_refl _)).more (Nat.le_refl _) hbw17.size
  have b3 := b3.below' hbw17
  have b5 := b5.below' hbw17
  have b8 := b8.below' hbw17
  have b11 := b11.below' hbw17
  have b19 := b19.below' hbw17
  have b21 := b21.below' hbw17
  have Bw17 := Bw16.trans (hbw17.mono Bw16.size)
  clear Bw16
  clear hbw17
  have b23 := bx
  clear bx lx
  refine (implPutBack_any _ _ y _ ns w17 _ _ _ rn7 rd7 rb (by omega) (by omega)).mono ?_
  rintro e w18 ⟨vn8, vd8, Q8, rfl, rn8, rd8, _, _, hbw18⟩
  have h := (h.below hbw18 (Nat.le_refl _)).more (Nat.le_refl _) hbw18.size
  have rn1 := (rn1.below hbw18 (Nat.le_refl _)).more (Nat.le_refl _) hbw18.size
  have rd1 := (rd1.below hbw18 (Nat.le_refl _)).more (Nat.le_refl _) hbw18.size
  have rn2 := (rn2.below hbw18 (Nat.le_refl _)).more (Nat.le_refl _) hbw18.size
  have rd2 := (rd2.below hbw18 (Nat.le_refl _)).more (Nat.le_refl _) hbw18.size
  have rl2 := (rl2.below hbw18 (Nat.le_refl _)).more (Nat.le_refl _) hbw18.size
  have rn3 := (rn3.below hbw18 (Nat.le_refl _)).more (Nat.le_refl _) hbw18.size
  have rd3 := (rd3.below hbw18 (Nat.le_refl _)).more (Nat.le_refl _) hbw18.size
  have rl3 := (rl3.below hbw18 (Nat.le_refl _)).more (Nat.le_refl _) hbw18.size
  have rn4 := (rn4.below hbw18 (Nat.le_refl _)).more (Nat.le_refl _) hbw18.size
  have rd4 := (rd4.below hbw18 (Nat.le_refl _)).more (Nat.le_refl _) hbw18.size
  have rc := (rc.below hbw18 (Nat.le_refl _)).more (Nat.le_refl _) hbw18.size
  have rn5 := (rn5.below hbw18 (Nat.le_refl _)).more (Nat.le_refl _) hbw18.size
  have rd5 := (rd5.below hbw18 (Nat.le_refl _)).more (Nat.le_refl _) hbw18.size
  have rn6 := (rn6.below hbw18 (Nat.le_refl _)).more (Nat.le_refl _) hbw18.size
  have rd6 := (rd6.below hbw18 (Nat.le_refl _)).more (Nat.le_refl _) hbw18.size
  have rn7 := (rn7.below hbw18 (Nat.le_refl _)).more (Nat.le_refl _) hbw18.size
  have rd7 := (rd7.below hbw18 (Nat.le_refl _)).more (Nat.le_refl _) hbw18.size
  have rb := (rb.below hbw18 (Nat.le_refl _)).more (Nat.le_refl _) hbw18.size
  have b3 := b3.below' hbw18
  have b5 := b5.below' hbw18
  have b8 := b8.below' hbw18
  have b11 := b11.below' hbw18
  have b19 := b19.below' hbw18
  have b21 := b21.below' hbw18
  have b23 := b23.below' hbw18
  have Bw18 := Bw17.trans (hbw18.mono Bw17.size)
  clear Bw17
  clear hbw18
  have rn8 := OwI.rd (f := i64s) (s := 1) (fun _ => rfl) rn8
  have rd8 := OwI.rd (f := i64s) (s := 1) (fun _ => rfl) rd8
  obtain ⟨Xn8, kn8, rfl, _, _⟩ := rn8.form
  obtain ⟨Xd8, kd8, rfl, _, _⟩ := rd8.form
  obtain ⟨qa_b23_0, qa_b23_1, qa_b23_2⟩ := p3_cells (b23.alloc (.cells #[.slice Xn8 ((putF y ns).1.nums).length kn8, .slice Xd8 ((putF y ns).1.drawn).length kd8, .int .i64 (putF y ns).1.st] 27))
  go_wp2_with fail
  clear qa_b23_0 qa_b23_1 qa_b23_2
  have hbw19 : Below w18.heap.size w18 (w18.alloc (.cells #[.slice Xn8 ((putF y ns).1.nums).length kn8, .slice Xd8 ((putF y ns).1.drawn).length kd8, .int .i64 (putF y ns).1.st] 27)) := (Below.refl _ _).alloc (Nat.le_refl _) _
  have bx := Blk.new w18 27 #[.slice Xn8 ((putF y ns).1.nums).length kn8, .slice Xd8 ((putF y ns).1.drawn).length kd8, .int .i64 (putF y ns).1.st]
  have lx : w18.heap.size < (w18.alloc (.cells #[.slice Xn8 ((putF y ns).1.nums).length kn8, .slice Xd8 ((putF y ns).1.drawn).length kd8, .int .i64 (putF y ns).1.st] 27)).heap.size := by simp
  generalize (w18.alloc (.cells #[.slice Xn8 ((putF y ns).1.nums).length kn8, .slice Xd8 ((putF y ns).1.drawn).length kd8, .int .i64 (putF y ns).1.st] 27)) = w19 at *
  have h := (h.below hbw19 (Nat.le_refl _)).more (Nat.le_refl _) hbw19.size
  have rn1 := (rn1.below hbw19 (Nat.le_refl _)).more (Nat.le_refl _) hbw19.size
  have rd1 := (rd1.below hbw19 (Nat.le_refl _)).more (Nat.le_refl _) hbw19.size
  have rn2 := (rn2.below hbw19 (Nat.le_refl _)).more (Nat.le_refl _) hbw19.size
  have rd2 := (rd2.below hbw19 (Nat.le_refl _)).more (Nat.le_refl _) hbw19.size
  have rl2 := (rl2.below hbw19 (Nat.le_refl _)).more (Nat.le_refl _) hbw19.size
  have rn3 := (rn3.below hbw19 (Nat.le_refl _)).more (Nat.le_refl _) hbw19.size
  have rd3 := (rd3.below hbw19 (Nat.le_refl _)).more (Nat.le_refl _) hbw19.size
  have rl3 := (rl3.below hbw19 (Nat.le_refl _)).more (Nat.le_refl _) hbw19.size
  have rn4 := (rn4.below hbw19 (Nat.le_refl _)).more (Nat.le_refl _) hbw19.size
  have rd4 := (rd4.below hbw19 (Nat.le_refl _)).more (Nat.le_refl _) hbw19.size
  have rc := (rc.below hbw19 (Nat.le_refl _)).more (Nat.le_refl _) hbw19.size
  have rn5 := (rn5.below hbw19 (Nat.le_refl _)).more (Nat.le_refl _) hbw19.size
  have rd5 := (rd5.below hbw19 (Nat.le_refl _)).more (Nat.le_refl _) hbw19.size
  have rn6 := (rn6.below hbw19 (Nat.le_refl _)).more (Nat.le_refl _) hbw19.size
  have rd6 := (rd6.below hbw19 (Nat.le_refl _)).more (Nat.le_refl _) hbw19.size
  have rn7 := (rn7.below hbw19 (Nat.le_refl _)).more (Nat.le_refl _) hbw19.size
  have rd7 := (rd7.below hbw19 (Nat.le_refl _)).more (Nat.le_refl _) hbw19.size
  have rb := (rb.below hbw19 (Nat.le_refl _)).more (Nat.le_refl _) hbw19.size
  have rn8 := (rn8.below hbw19 (Nat.le_refl _)).more (Nat.le_refl _) hbw19.size
  have rd8 := (rd8.below hbw19 (Nat.le_refl _)).more (Nat.le_refl _) hbw19.size
  have b3 := b3.below' hbw19
  have b5 := b5.below' hbw19
  have b8 := b8.below' hbw19
  have b11 := b11.below' hbw19
  have b19 := b19.below' hbw19
  have b21 := b21.below' hbw19
  have b23 := b23.below' hbw19
  have Bw19 := Bw18.trans (hbw19.mono Bw18.size)
  clear Bw18
  clear hbw19
  have b25 := bx
  clear bx lx
  refine (specPutBack_any _ _ y _ ns w19 _ _ _ rn7 rd7 rb (by omega) (by omega)).mono ?_
  rintro e w20 ⟨vn9, vd9, rfl, rn9, rd9, hbw20⟩
  have h := (h.below hbw20 (Nat.le_refl _)).more (Nat.le_refl _) hbw20.size
  have rn1 := (rn1.below hbw20 (Nat.le_refl _)).more (Nat.le_refl _) hbw20.size
  have rd1 := (rd1.below hbw20 (Nat.le_refl _)).more (Nat.le_refl _) hbw20.size
  have rn2 := (rn2.below hbw20 (Nat.le_refl _)).more (Nat.le_refl _) hbw20.size
  have rd2 := (rd2.below hbw20 (Nat.le_refl _)).more (Nat.le_refl _) hbw20.size
  have rl2 := (rl2.below hbw20 (Nat.le_refl _)).more (Nat.le_refl _) hbw20.size
  have rn3 := (rn3.below hbw20 (Nat.le_refl _)).more (Nat.le_refl _) hbw20.size
  have rd3 := (rd3.below hbw20 (Nat.le_refl _)).more (Nat.le_refl _) hbw20.size
  have rl3 := (rl3.below hbw20 (Nat.le_refl _)).more (Nat.le_refl _) hbw20.size
  have rn4 := (rn4.below hbw20 (Nat.le_refl _)).more (Nat.le_refl _) hbw20.size
  have rd4 := (rd4.below hbw20 (Nat.le_refl _)).more (Nat.le_refl _) hbw20.size
  have rc := (rc.below hbw20 (Nat.le_refl _)).more (Nat.le_refl _) hbw20.size
  have rn5 := (rn5.below hbw20 (Nat.le_refl _)).more (Nat.le_refl _) hbw20.size
  have rd5 := (rd5.below hbw20 (Nat.le_refl _)).more (Nat.le_refl _) hbw20.size
  have rn6 := (rn6.below hbw20 (Nat.le_refl _)).more (Nat.le_refl _) hbw20.size
  have rd6 := (rd6.below hbw20 (Nat.le_refl _)).more (Nat.le_refl _) hbw20.size
  have rn7 := (rn7.below hbw20 (Nat.le_refl _)).more (Nat.le_refl _) hbw20.size
  have rd7 := (rd7.below hbw20 (Nat.le_refl _)).more (Nat.le_refl _) hbw20.size
  have rb := (rb.below hbw20 (Nat.le_refl _)).more (Nat.le_refl _) hbw20.size
  have rn8 := (rn8.below hbw20 (Nat.le_refl _)).more (Nat.le_refl _) hbw20.size
  have rd8 := (rd8.below hbw20 (Nat.le_refl _)).more (Nat.le_refl _) hbw20.size
  have b3 := b3.below' hbw20
  have b5 := b5.below' hbw20
  have b8 := b8.below' hbw20
  have b11 := b11.below' hbw20
  have b19 := b19.below' hbw20
  have b21 := b21.below' hbw20
  have b23 := b23.below' hbw20
  have b25 := b25.below' hbw20
  have Bw20 := Bw19.trans (hbw20.mono Bw19.size)
  clear Bw19
  clear hbw20
  obtain ⟨Xn9, kn9, rfl, _, _⟩ := rn9.form
  obtain ⟨Xd9, kd9, rfl, _, _⟩ := rd9.form
  go_wp2_with fail
  have hbw21 : Below w20.heap.size w20 (w20.alloc (.cells #[.slice Xn9 ((putF y ns).1.nums).length kn9, .slice Xd9 ((putF y ns).1.drawn).length kd9, .int .i64 (putF y ns).1.st] 27)) := (Below.refl _ _).alloc (Nat.le_refl _) _
  have bx := Blk.new w20 27 #[.slice Xn9 ((putF y ns).1.nums).length kn9, .slice Xd9 ((putF y ns).1.drawn).length kd9, .int .i64 (putF y ns).1.st]
  have lx : w20.heap.size < (w20.alloc (.cells #[.slice Xn9 ((putF y ns).1.nums).length kn9, .slice Xd9 ((putF y ns).1.drawn).length kd9, .int .i64 (putF y ns).1.st] 27)).heap.size := by simp
  generalize (w20.alloc (.cells #[.slice Xn9 ((putF y ns).1.nums).length kn9, .slice Xd9 ((putF y ns).1.drawn).length kd9, .int .i64 (putF y ns).1.st] 27)) = w21 at *
  have h := (h.below hbw21 (Nat.le_refl _)).more (Nat.le_refl _) hbw21.size
  have rn1 := (rn1.below hbw21 (Nat.le_refl _)).more (Nat.le_refl _) hbw21.size
  have rd1 := (rd1.below hbw21 (Nat.le_refl _)).more (Nat.le_refl _) hbw21.size
  have rn2 := (rn2.below hbw21 (Nat.le_refl _)).more (Nat.le_refl _) hbw21.size
  have rd2 := (rd2.below hbw21 (Nat.le_refl _)).more (Nat.le_refl _) hbw21.size
  have rl2 := (rl2.below hbw21 (Nat.le_refl _)).more (Nat.le_refl _) hbw21.size
  have rn3 := (rn3.below hbw21 (Nat.le_refl _)).more (Nat.le_refl _) hbw21.size
  have rd3 := (rd3.below hbw21 (Nat.le_refl _)).more (Nat.le_refl _) hbw21.size
  have rl3 := (rl3.below hbw21 (Nat.le_refl _)).more (Nat.le_refl _) hbw21.size
  have rn4 := (rn4.below hbw21 (Nat.le_refl _)).more (Nat.le_refl _) hbw21.size
  have rd4 := (rd4.below hbw21 (Nat.le_refl _)).more (Nat.le_refl _) hbw21.size
  have rc := (rc.below hbw21 (Nat.le_refl _)).more (Nat.le_refl _) hbw21.size
  have rn5 := (rn5.below hbw21 (Nat.le_refl _)).more (Nat.le_refl _) hbw21.size
  have rd5 := (rd5.below hbw21 (Nat.le_refl _)).more (Nat.le_refl _) hbw21.size
  have rn6 := (rn6.below hbw21 (Nat.le_refl _)).more (Nat.le_refl _) hbw21.size
  have rd6 := (rd6.below hbw21 (Nat.le_refl _)).more (Nat.le_refl _) hbw21.size
  have rn7 := (rn7.below hbw21 (Nat.le_refl _)).more (Nat.le_refl _) hbw21.size
  have rd7 := (rd7.below hbw21 (Nat.le_refl _)).more (Nat.le_refl _) hbw21.size
  have rb := (rb.below hbw21 (Nat.le_refl _)).more (Nat.le_refl _) hbw21.size
  have rn8 := (rn8.below hbw21 (Nat.le_refl _)).more (Nat.le_refl _) hbw21.size
  have rd8 := (rd8.below hbw21 (Nat.le_refl _)).more (Nat.le_refl _) hbw21.size
  have rn9 := (rn9.below hbw21 (Nat.le_refl _)).more (Nat.le_refl _) hbw21.size
  have rd9 := (rd9.below hbw21 (Nat.le_refl _)).more (Nat.le_refl _) hbw21.size
  have b3 := b3.below' hbw21
  have b5 := b5.below' hbw21
  have b8 := b8.below' hbw21
  have b11 := b11.below' hbw21
  have b19 := b19.below' hbw21
  have b21 := b21.below' hbw21
  have b23 := b23.below' hbw21
  have b25 := b25.below' hbw21
  have Bw21 := Bw20.trans (hbw21.mono Bw20.size)
  clear Bw20
  clear hbw21
  have b27 := bx
  clear bx lx
  have HM := Lib.hid (fun e f => replay_law (ns := c) (st := s0) e f)
  have HU := Lib.hid (fun e => put_law (p := y) (ns := ns) e)
  generalize takeF p k = T at *
  generalize makeF c s0 = M at *
  generalize putF y ns = U at *
  obtain ⟨Xl2, kl2, rfl, _, _⟩ := rl2.form
  obtain ⟨Xl3, kl3, rfl, _, _⟩ := rl3.form
  have l_b5 := b5.lt
  have l_b8 := b8.lt
  have l_b19 := b19.lt
  have l_b21 := b21.lt
  have l_b25 := b25.lt
  have l_b27 := b27.lt
  have l_b11 := b11.lt
  obtain ⟨q_b5_0, q_b5_1, q_b5_2⟩ := p3_cells b5
  obtain ⟨q_b8_0, q_b8_1, q_b8_2⟩ := p3_cells b8
  obtain ⟨q_b19_0, q_b19_1, q_b19_2⟩ := p3_cells b19
  obtain ⟨q_b21_0, q_b21_1, q_b21_2⟩ := p3_cells b21
  obtain ⟨q_b25_0, q_b25_1, q_b25_2⟩ := p3_cells b25
  obtain ⟨q_b27_0, q_b27_1, q_b27_2⟩ := p3_cells b27
  obtain ⟨q_b11_0, q_b11_1, q_b11_2⟩ := p3_cells b11
  go_wp2_with fail
  refine wp_region_ext (by kernel_rfl) (by kernel_rfl) ?_
  repeat (go_big_quiet_step (first
    | (go_at_call 43; with_reducible exact calls_ext (likePool_same _ _ _ _ T.1 _ _ _ _ _ (SlR.ext rn2 (Nat.le_refl _) _) (SlR.ext rd2 (Nat.le_refl _) _) (SlR.ext rn3 (Nat.le_refl _) _) (SlR.ext rd3 (Nat.le_refl _) _)))
    | (go_at_call 38; with_reducible exact calls_ext (likeInts_same _ _ T.2.1 _ _ _ (SlR.ext rl2 (Nat.le_refl _) _) (SlR.ext rl3 (Nat.le_refl _) _)))
    | (go_at_call 43; with_reducible exact calls_ext (likePool_same _ _ _ _ M.1 _ _ _ _ _ (SlR.ext rn5 (Nat.le_refl _) _) (SlR.ext rd5 (Nat.le_refl _) _) (SlR.ext rn6 (Nat.le_refl _) _) (SlR.ext rd6 (Nat.le_refl _) _)))
    | (go_at_call 43; with_reducible exact calls_ext (likePool_same _ _ _ _ U.1 _ _ _ _ _ (SlR.ext rn8 (Nat.le_refl _) _) (SlR.ext rd8 (Nat.le_refl _) _) (SlR.ext rn9 (Nat.le_refl _) _) (SlR.ext rd9 (Nat.le_refl _) _)))
    | (go_at_call 15; with_reducible exact calls_ext (implIsPool_any _ _ x _ _ _ (SlR.ext rn4 (Nat.le_refl _) _) (SlR.ext rd4 (Nat.le_refl _) _)))
    | (go_at_call 13; with_reducible exact calls_ext (specIsPool_any _ _ x _ _ _ (SlR.ext rn4 (Nat.le_refl _) _) (SlR.ext rd4 (Nat.le_refl _) _)))))
  refine wpQuiet_nil ?_
  intro wq hbwq
  clear q_b5_0 q_b5_1 q_b5_2 q_b8_0 q_b8_1 q_b8_2 q_b19_0 q_b19_1 q_b19_2 q_b21_0 q_b21_1 q_b21_2 q_b25_0 q_b25_1 q_b25_2 q_b27_0 q_b27_1 q_b27_2 q_b11_0 q_b11_1 q_b11_2
  clear l_b5
  clear l_b8
  clear l_b19
  clear l_b21
  clear l_b25
  clear l_b27
  clear l_b11
  have h := (h.below hbwq (Nat.le_refl _)).more (Nat.le_refl _) hbwq.size
  have rn1 := (rn1.below hbwq (Nat.le_refl _)).more (Nat.le_refl _) hbwq.size
  have rd1 := (rd1.below hbwq (Nat.le_refl _)).more (Nat.le_refl _) hbwq.size
  have rn2 := (rn2.below hbwq (Nat.le_refl _)).more (Nat.le_refl _) hbwq.size
  have rd2 := (rd2.below hbwq (Nat.le_refl _)).more (Nat.le_refl _) hbwq.size
  have rl2 := (rl2.below hbwq (Nat.le_refl _)).more (Nat.le_refl _) hbwq.size
  have rn3 := (rn3.below hbwq (Nat.le_refl _)).more (Nat.le_refl _) hbwq.size
  have rd3 := (rd3.below hbwq (Nat.le_refl _)).more (Nat.le_refl _) hbwq.size
  have rl3 := (rl3.below hbwq (Nat.le_refl _)).more (Nat.le_refl _) hbwq.size
  have rn4 := (rn4.below hbwq (Nat.le_refl _)).more (Nat.le_refl _) hbwq.size
  have rd4 := (rd4.below hbwq (Nat.le_refl _)).more (Nat.le_refl _) hbwq.size
  have rc := (rc.below hbwq (Nat.le_refl _)).more (Nat.le_refl _) hbwq.size
  have rn5 := (rn5.below hbwq (Nat.le_refl _)).more (Nat.le_refl _) hbwq.size
  have rd5 := (rd5.below hbwq (Nat.le_refl _)).more (Nat.le_refl _) hbwq.size
  have rn6 := (rn6.below hbwq (Nat.le_refl _)).more (Nat.le_refl _) hbwq.size
  have rd6 := (rd6.below hbwq (Nat.le_refl _)).more (Nat.le_refl _) hbwq.size
  have rn7 := (rn7.below hbwq (Nat.le_refl _)).more (Nat.le_refl _) hbwq.size
  have rd7 := (rd7.below hbwq (Nat.le_refl _)).more (Nat.le_refl _) hbwq.size
  have rb := (rb.below hbwq (Nat.le_refl _)).more (Nat.le_refl _) hbwq.size
  have rn8 := (rn8.below hbwq (Nat.le_refl _)).more (Nat.le_refl _) hbwq.size
  have rd8 := (rd8.below hbwq (Nat.le_refl _)).more (Nat.le_refl _) hbwq.size
  have rn9 := (rn9.below hbwq (Nat.le_refl _)).more (Nat.le_refl _) hbwq.size
  have rd9 := (rd9.below hbwq (Nat.le_refl _)).more (Nat.le_refl _) hbwq.size
  have b3 := b3.below' hbwq
  have b5 := b5.below' hbwq
  have b8 := b8.below' hbwq
  have b11 := b11.below' hbwq
  have b19 := b19.below' hbwq
  have b21 := b21.below' hbwq
  have b23 := b23.below' hbwq
  have b25 := b25.below' hbwq
  have b27 := b27.below' hbwq
  have Bwq := Bw21.trans (hbwq.mono Bw21.size)
  clear Bw21
  clear hbwq
  clear rn3 rd3 rl3 rn4 rd4 rc rn6 rd6 rn7 rd7 rb rn8 rd8 rn9 rd9 b8 b11 b21 b27
  have hU4 : ((U.2 == 0) = true ∧ ((U.1.drawn.length : Int) + (ns.length : Int) != (y.drawn.length : Int)) = false ∧ U.1.drawn.length ≤ 100) ∨ (U.2 == 0) = false := by
    by_cases e : U.2 = 0
    · have := HU.out e
      exact .inl ⟨by simpa using e, by simp; omega, by omega⟩
    · exact .inr (by simpa using e)
  have hT4 : ((T.2.2 != 0) = false ∧ (leftOfF T.1).2 = 0 ∧ (leftOfF p).2 = 0 ∧ Hid (∀ x ∈ T.2.1, hasB x (leftOfF p).1 = true ∧ hasB x (leftOfF T.1).1 = false) ∧ (leftOfF T.1).1.length + T.2.1.length = (leftOfF p).1.length ∧ (T.2.1.length : Int) = k) ∨ (T.2.2 != 0) = true := by
    by_cases e : T.2.2 = 0
    · obtain ⟨_, a1, a2, a3, a4, a5⟩ := HT.out e
      exact .inl ⟨by simp [e], a1, a2, Lib.hid a3, a4, a5⟩
    · exact .inr (by simpa [bne] using e)
  have HU4 := Lib.hid hU4
  have HT4 := Lib.hid hT4
  have hLp := leftOfF_len p
  clear hU4 hT4 HU HT
  by_cases e1 : M.2 = 0
  · have m1 : (M.2 == 0) = true := by simpa using e1
    by_cases e2 : 0 < c.length
    · obtain ⟨k1, k2, k3⟩ := HM.out e1 e2
      have K1 := Lib.hid k1
      have K2 := Lib.hid k2
      have K3 := Lib.hid k3
      clear e1 k1 k2 k3 HM
      obtain ⟨x0, x1, x2⟩ := p3_cells b19
      go_wp2_with fail
      refine (implTakeFrom_any _ _ M.1 1 wq _ _ rn5 rd5).mono ?_
      rintro e w21 ⟨vnA, vdA, vlA, QA, RA, rfl, rnA, rdA, rlA, _, _, _, hb21⟩
      have rnA := OwI.rd (f := i64s) (s := 1) (fun _ => rfl) rnA
      have rdA := OwI.rd (f := i64s) (s := 1) (fun _ => rfl) rdA
      generalize takeF M.1 1 = O at *
      obtain ⟨XnA, knA, rfl, _, _⟩ := rnA.form
      obtain ⟨XdA, kdA, rfl, _, _⟩ := rdA.form
      have h := (h.below hb21 (Nat.le_refl _)).more (Nat.le_refl _) hb21.size
      have rn1 := (rn1.below hb21 (Nat.le_refl _)).more (Nat.le_refl _) hb21.size
      have rd1 := (rd1.below hb21 (Nat.le_refl _)).more (Nat.le_refl _) hb21.size
      have rn2 := (rn2.below hb21 (Nat.le_refl _)).more (Nat.le_refl _) hb21.size
      have rd2 := (rd2.below hb21 (Nat.le_refl _)).more (Nat.le_refl _) hb21.size
      have rl2 := (rl2.below hb21 (Nat.le_refl _)).more (Nat.le_refl _) hb21.size
      have b3 := b3.below' hb21
      have b5 := b5.below' hb21
      have b23 := b23.below' hb21
      have b25 := b25.below' hb21
      have Bw21 := Bwq.trans (hb21.mono Bwq.size)
      clear x0 x1 x2 hb21 Bwq b19 rn5 rd5 rlA
      go_wp2_with fail
      have hb22 : Below w21.heap.size w21 (w21.alloc (.cells #[.slice XnA O.1.nums.length knA, .slice XdA O.1.drawn.length kdA, .int .i64 O.1.st] 27)) := (Below.refl _ _).alloc (Nat.le_refl _) _
      generalize (w21.alloc (.cells #[.slice XnA O.1.nums.length knA, .slice XdA O.1.drawn.length kdA, .int .i64 O.1.st] 27)) = w22 at *
      have h := (h.below hb22 (Nat.le_refl _)).more (Nat.le_refl _) hb22.size
      have rn1 := (rn1.below hb22 (Nat.le_refl _)).more (Nat.le_refl _) hb22.size
      have rd1 := (rd1.below hb22 (Nat.le_refl _)).more (Nat.le_refl _) hb22.size
      have rn2 := (rn2.below hb22 (Nat.le_refl _)).more (Nat.le_refl _) hb22.size
      have rd2 := (rd2.below hb22 (Nat.le_refl _)).more (Nat.le_refl _) hb22.size
      have rl2 := (rl2.below hb22 (Nat.le_refl _)).more (Nat.le_refl _) hb22.size
      have rnA := (rnA.below hb22 (Nat.le_refl _)).more (Nat.le_refl _) hb22.size
      have rdA := (rdA.below hb22 (Nat.le_refl _)).more (Nat.le_refl _) hb22.size
      have b3 := b3.below' hb22
      have b5 := b5.below' hb22
      have b23 := b23.below' hb22
      have b25 := b25.below' hb22
      have Bw22 := Bw21.trans (hb22.mono Bw21.size)
      clear hb22 Bw21
      refine (implIsReplay_any _ _ O.1 s0 w22 _ _ rnA rdA).mono ?_
      rintro e w23 ⟨rfl, hb23⟩
      have h := (h.below hb23 (Nat.le_refl _)).more (Nat.le_refl _) hb23.size
      have rn1 := (rn1.below hb23 (Nat.le_refl _)).more (Nat.le_refl _) hb23.size
      have rd1 := (rd1.below hb23 (Nat.le_refl _)).more (Nat.le_refl _) hb23.size
      have rn2 := (rn2.below hb23 (Nat.le_refl _)).more (Nat.le_refl _) hb23.size
      have rd2 := (rd2.below hb23 (Nat.le_refl _)).more (Nat.le_refl _) hb23.size
      have rl2 := (rl2.below hb23 (Nat.le_refl _)).more (Nat.le_refl _) hb23.size
      have b3 := b3.below' hb23
      have b5 := b5.below' hb23
      have b23 := b23.below' hb23
      have b25 := b25.below' hb23
      have Bw23 := Bw22.trans (hb23.mono Bw22.size)
      clear hb23 Bw22 rnA rdA
      have f1 : (O.2.2 != 0) = false := by simp [K1.out]
      have f2 : ((replayF O.1 s0).2 != 0) = false := by simp [K3.out]
      have f3 := K2.out
      rcases HU4.out with ⟨hu1, hu2, hu3⟩ | hu1
      all_goals
        obtain ⟨z0, z1, z2⟩ := p3_cells b25
        obtain ⟨y0, y1, y2⟩ := p3_cells b23
        obtain ⟨x0, x1, x2⟩ := p3_cells b5
        rcases HT4.out with ⟨ht, t1, t2, t3, t4, t5⟩ | ht
        · have g1 : ((leftOfF T.1).2 == 0) = true := by simpa using t1
          have g2 : ((leftOfF p).2 == 0) = true := by simpa using t2
          have g4 : (((leftOfF T.1).1.length : Int) + (T.2.1.length : Int) == ((leftOfF p).1.length : Int)) = true := by simp; omega
          have g5 : ((T.2.1.length : Int) == k) = true := by simpa using t5
          have g6 : (leftOfF T.1).1.length ≤ 100 := by omega
          clear t1 t2 t4 t5
          go_wp2_with fail
          refine (implLeftOf_any _ _ T.1 w23 _ _ rn2 rd2 (by omega)).mono ?_
          rintro e wa ⟨xa, rfl, oa, hba⟩
          obtain ⟨Xa, ka, rfl, _, _, _⟩ := own_form (OwnR.own oa)
          have rn1 := (rn1.below hba (Nat.le_refl _)).more (Nat.le_refl _) hba.size
          have rd1 := (rd1.below hba (Nat.le_refl _)).more (Nat.le_refl _) hba.size
          have rl2 := (rl2.below hba (Nat.le_refl _)).more (Nat.le_refl _) hba.size
          have b3 := b3.below' hba
          have Ba := Bw23.trans (hba.mono Bw23.size)
          clear z0 z1 z2 y0 y1 y2 x0 x1 x2
          obtain ⟨x0, x1, x2⟩ := p3_cells b3
          go_wp2_with fail
          refine (implLeftOf_any _ _ p wa _ _ rn1 rd1 (by omega)).mono ?_
          rintro e wb ⟨xb, rfl, ob, hbb⟩
          obtain ⟨Xb', kb', rfl, _, _, _⟩ := own_form (OwnR.own ob)
          have rl2 := (rl2.below hbb (Nat.le_refl _)).more (Nat.le_refl _) hbb.size
          have rA := own_slI (oa.below hbb)
          have rB := own_slI ob
          have Bb := Ba.trans (hbb.mono Ba.size)
          clear x0 x1 x2
          go_wp2_with fail
          go_loop [38] (fun i => ∃ (j : Nat), i = .int .i64 j ∧ j ≤ T.2.1.length) (fun i => T.2.1.length - (intOf i).toNat)
          case atStart => exact ⟨0, rfl, Nat.zero_le _⟩
          case round =>
            obtain ⟨j, rfl, hj⟩ := hrel
            by_cases hlt : j < T.2.1.length
            · obtain ⟨x, hx⟩ := some_at hlt
              obtain ⟨e1, e2⟩ := t3.out x (List.mem_of_getElem? hx)
              obtain ⟨b', off', rfl, _, hbb', e0⟩ := rl2.int_at hx
              clear hx
              go_wp2_with fail
              refine (hasInt_as e1 rB).mono ?_
              rintro e w' ⟨rfl, rfl⟩
              go_wp2_with fail
              refine (hasInt_as e2 rA).mono ?_
              rintro e w' ⟨rfl, rfl⟩
              go_wp2_with fail
              go_round
              case rel => exact ⟨j + 1, by go_num, hlt⟩
              case measure => simp [intOf]; omega
            · go_wp2_with fail
              go_ret
              exact ⟨rfl, Bb⟩
        · go_wp2_with fail
          go_ret
          exact ⟨rfl, Bw23⟩
    · have e3 : ¬ (0 : Int) < (c.length : Int) := by omega
      clear e1 HM
      rcases HU4.out with ⟨hu1, hu2, hu3⟩ | hu1
      all_goals
        obtain ⟨z0, z1, z2⟩ := p3_cells b25
        obtain ⟨y0, y1, y2⟩ := p3_cells b23
        obtain ⟨x0, x1, x2⟩ := p3_cells b5
        rcases HT4.out with ⟨ht, t1, t2, t3, t4, t5⟩ | ht
        · have g1 : ((leftOfF T.1).2 == 0) = true := by simpa using t1
          have g2 : ((leftOfF p).2 == 0) = true := by simpa using t2
          have g4 : (((leftOfF T.1).1.length : Int) + (T.2.1.length : Int) == ((leftOfF p).1.length : Int)) = true := by simp; omega
          have g5 : ((T.2.1.length : Int) == k) = true := by simpa using t5
          have g6 : (leftOfF T.1).1.length ≤ 100 := by omega
          clear t1 t2 t4 t5
          go_wp2_with fail
          refine (implLeftOf_any _ _ T.1 wq _ _ rn2 rd2 (by omega)).mono ?_
          rintro e wa ⟨xa, rfl, oa, hba⟩
          obtain ⟨Xa, ka, rfl, _, _, _⟩ := own_form (OwnR.own oa)
          have rn1 := (rn1.below hba (Nat.le_refl _)).more (Nat.le_refl _) hba.size
          have rd1 := (rd1.below hba (Nat.le_refl _)).more (Nat.le_refl _) hba.size
          have rl2 := (rl2.below hba (Nat.le_refl _)).more (Nat.le_refl _) hba.size
          have b3 := b3.below' hba
          have Ba := Bwq.trans (hba.mono Bwq.size)
          clear z0 z1 z2 y0 y1 y2 x0 x1 x2
          obtain ⟨x0, x1, x2⟩ := p3_cells b3
          go_wp2_with fail
          refine (implLeftOf_any _ _ p wa _ _ rn1 rd1 (by omega)).mono ?_
          rintro e wb ⟨xb, rfl, ob, hbb⟩
          obtain ⟨Xb', kb', rfl, _, _, _⟩ := own_form (OwnR.own ob)
          have rl2 := (rl2.below hbb (Nat.le_refl _)).more (Nat.le_refl _) hbb.size
          have rA := own_slI (oa.below hbb)
          have rB := own_slI ob
          have Bb := Ba.trans (hbb.mono Ba.size)
          clear x0 x1 x2
          go_wp2_with fail
          go_loop [38] (fun i => ∃ (j : Nat), i = .int .i64 j ∧ j ≤ T.2.1.length) (fun i => T.2.1.length - (intOf i).toNat)
          case atStart => exact ⟨0, rfl, Nat.zero_le _⟩
          case round =>
            obtain ⟨j, rfl, hj⟩ := hrel
            by_cases hlt : j < T.2.1.length
            · obtain ⟨x, hx⟩ := some_at hlt
              obtain ⟨e1, e2⟩ := t3.out x (List.mem_of_getElem? hx)
              obtain ⟨b', off', rfl, _, hbb', e0⟩ := rl2.int_at hx
              clear hx
              go_wp2_with fail
              refine (hasInt_as e1 rB).mono ?_
              rintro e w' ⟨rfl, rfl⟩
              go_wp2_with fail
              refine (hasInt_as e2 rA).mono ?_
              rintro e w' ⟨rfl, rfl⟩
              go_wp2_with fail
              go_round
              case rel => exact ⟨j + 1, by go_num, hlt⟩
              case measure => simp [intOf]; omega
            · go_wp2_with fail
              go_ret
              exact ⟨rfl, Bb⟩
        · go_wp2_with fail
          go_ret
          exact ⟨rfl, Bwq⟩
  · have m1 : (M.2 == 0) = false := by simpa using e1
    clear e1 HM
    rcases HU4.out with ⟨hu1, hu2, hu3⟩ | hu1
    all_goals
      obtain ⟨z0, z1, z2⟩ := p3_cells b25
      obtain ⟨y0, y1, y2⟩ := p3_cells b23
      obtain ⟨x0, x1, x2⟩ := p3_cells b5
      rcases HT4.out with ⟨ht, t1, t2, t3, t4, t5⟩ | ht
      · have g1 : ((leftOfF T.1).2 == 0) = true := by simpa using t1
        have g2 : ((leftOfF p).2 == 0) = true := by simpa using t2
        have g4 : (((leftOfF T.1).1.length : Int) + (T.2.1.length : Int) == ((leftOfF p).1.length : Int)) = true := by simp; omega
        have g5 : ((T.2.1.length : Int) == k) = true := by simpa using t5
        have g6 : (leftOfF T.1).1.length ≤ 100 := by omega
        clear t1 t2 t4 t5
        go_wp2_with fail
        refine (implLeftOf_any _ _ T.1 wq _ _ rn2 rd2 (by omega)).mono ?_
        rintro e wa ⟨xa, rfl, oa, hba⟩
        obtain ⟨Xa, ka, rfl, _, _, _⟩ := own_form (OwnR.own oa)
        have rn1 := (rn1.below hba (Nat.le_refl _)).more (Nat.le_refl _) hba.size
        have rd1 := (rd1.below hba (Nat.le_refl _)).more (Nat.le_refl _) hba.size
        have rl2 := (rl2.below hba (Nat.le_refl _)).more (Nat.le_refl _) hba.size
        have b3 := b3.below' hba
        have Ba := Bwq.trans (hba.mono Bwq.size)
        clear z0 z1 z2 y0 y1 y2 x0 x1 x2
        obtain ⟨x0, x1, x2⟩ := p3_cells b3
        go_wp2_with fail
        refine (implLeftOf_any _ _ p wa _ _ rn1 rd1 (by omega)).mono ?_
        rintro e wb ⟨xb, rfl, ob, hbb⟩
        obtain ⟨Xb', kb', rfl, _, _, _⟩ := own_form (OwnR.own ob)
        have rl2 := (rl2.below hbb (Nat.le_refl _)).more (Nat.le_refl _) hbb.size
        have rA := own_slI (oa.below hbb)
        have rB := own_slI ob
        have Bb := Ba.trans (hbb.mono Ba.size)
        clear x0 x1 x2
        go_wp2_with fail
        go_loop [38] (fun i => ∃ (j : Nat), i = .int .i64 j ∧ j ≤ T.2.1.length) (fun i => T.2.1.length - (intOf i).toNat)
        case atStart => exact ⟨0, rfl, Nat.zero_le _⟩
        case round =>
          obtain ⟨j, rfl, hj⟩ := hrel
          by_cases hlt : j < T.2.1.length
          · obtain ⟨x, hx⟩ := some_at hlt
            obtain ⟨e1, e2⟩ := t3.out x (List.mem_of_getElem? hx)
            obtain ⟨b', off', rfl, _, hbb', e0⟩ := rl2.int_at hx
            clear hx
            go_wp2_with fail
            refine (hasInt_as e1 rB).mono ?_
            rintro e w' ⟨rfl, rfl⟩
            go_wp2_with fail
            refine (hasInt_as e2 rA).mono ?_
            rintro e w' ⟨rfl, rfl⟩
            go_wp2_with fail
            go_round
            case rel => exact ⟨j + 1, by go_num, hlt⟩
            case measure => simp [intOf]; omega
          · go_wp2_with fail
            go_ret
            exact ⟨rfl, Bb⟩
      · go_wp2_with fail
        go_ret
        exact ⟨rfl, Bwq⟩

theorem walk (v0 : Value) (w : World) (g0 : ∃ bs, SlR u8s 1 w 0 w.heap.size v0 bs ∧ ∀ b ∈ bs, 0 ≤ b ∧ b ≤ 255) :
    Calls Try.prog 11 #[v0] w fun e w' => e = .returned (.bool true) ∧ Below w.heap.size w w' := by
  obtain ⟨bs, h, hb⟩ := g0
  exact walkL v0 bs w h hb

theorem own : ownKnob Try.prog.godebug = none := by kernel_rfl
theorem laidOut : laidOutB Try.prog = true := by kernel_rfl

set_option maxRecDepth 100000 in
theorem lifted (os : Os) (started : os.Started) (H : Type) (enc : TypeId × Value → H) :
    ReturnsInHanded {} Try.checked os 11 .any (Rows.fnPoolsSpec.pre6 enc Try.prog Try.f11 Rows.fnPoolsRow.domain false) (Rows.fnPoolsSpec.post enc Try.prog Try.f11 false true false false) := by
  refine returnsInHanded_of_change (C := Try.checked) own started (by kernel_rfl) Try.func11
    (ChangeSpec.witness6 (enc := enc) (C := Try.checked) false ⟨#[], #[.slice none 0 0], []⟩ 8 (by kernel_rfl) (by kernel_rfl) (by kernel_rfl) (by kernel_rfl)) ?_
  intro W base args ds gs before hval0 hW hcnd _
  have hval : ∀ (j : Nat) t v, Try.f11.params[j]? = some t → args[j]? = some v → Value.okWide Try.prog W .any base t v := hval0
  have hW' := hW
  obtain ⟨p, q, hA0, hV, rfl, hfz, hnd⟩ := hW
  have hA : DataW.TrodAll enc Try.prog W 0 (fun _ => true) true Try.f11.params.toList args.toList ds p := hA0
  rw [Try.params11] at hA hval
  obtain ⟨v0, vs0, d0, ds0, p0, q0, hargs, rfl, rfl, h0, r0⟩ := trodAll_cons hA
  obtain ⟨rfl, rfl, rfl⟩ := trodAll_nil r0
  obtain rfl : args = #[v0] := by cases args; simp_all
  obtain ⟨rfl, rfl⟩ := trodVars_none hV
  have lt0 : ∀ x ∈ p0, x.block < W.heap.size := by obtain ⟨m, hm⟩ := h0; exact DataW.trod_lt m _ _ _ hm
  have g0 := open_ByteS (hval 0 49 v0 rfl rfl) h0
  clear hA0 hval0
  refine (walk v0 W g0).mono fun e W' ⟨he, bel⟩ => ?_
  subst he
  exact ⟨_, rfl, _, _, _, [], _, [], hW', trodAll_mk1 (shut_bool Try.underlying4 _), (trodAll_cons_mk (Below.trod laidOut (by kernel_rfl) (of_decide_eq_true (by kernel_rfl)) h0 bel lt0) trodAll_mk0), rfl, bel.frame _, fun h => by cases h⟩

theorem over : Rows.fnPoolsRow.holds Try.pinned (OpenSpec.ofChange Rows.fnPoolsSpec) :=
  OpenClaim.holds_of_wide 11 Try.f11 rfl rfl rfl rfl rfl rfl rfl ⟨rfl, rfl, rfl, rfl, rfl⟩ rfl rfl rfl rfl rfl (by kernel_rfl) Try.func11 (by kernel_rfl)
    (of_decide_eq_true (by kernel_rfl)) (by unfold Func.isWrapper; first | (rw [if_pos (by decide +kernel)]; kernel_rfl) | (rw [if_neg (by decide +kernel)]; exact ⟨rfl, rfl⟩))
    (fun os started H enc _ => lifted os started H enc)

theorem proved : Rows.FnPoolsSaid := over
#print axioms proved
end Go.Proofs.Ytfenedoalnieaaa.lawFnPools
