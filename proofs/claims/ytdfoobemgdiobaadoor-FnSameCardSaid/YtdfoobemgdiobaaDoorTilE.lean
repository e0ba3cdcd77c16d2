/- Walks of the reference's tiles: points and boxes of cells, with their values. -/
import Derived.Test.YtdfoobemgdiobaaDoorTilB
import Derived.Test.YtdfoobemgdiobaaDoorTilD
namespace Go.Proofs.YtdfoobemgdiobaaDoor
open Go.RowKit
attribute [local go_sem ↓] Go.wp_at_zero Go.wp_at_succ

set_option maxHeartbeats 400000 in
theorem l7Point_is (cx cy d : Nat) (i j : Int) (hd : d ≤ 11) {p q x y : Nat} (h1 : floatBits .mul .f32 (floatOfInt .f32 j) (Flo.sideF d) = some p) (h2 : floatBits .mul .f32 (floatOfInt .f32 i) (Flo.sideF d) = some q)
    (h3 : floatBits .add .f32 cx p = some x) (h4 : floatBits .add .f32 cy q = some y) (w : World) :
    Calls Tryd.prog 23 #[.complex .f32 cx cy, .int .i64 d, .int .i64 i, .int .i64 j] w fun e w' => e = .returned (.complex .f32 x y) ∧ w = w' := by
  have g1 := fun w => run_float_arith (P := Tryd.prog) w .mul 66 .f32 _ _ _ h1
  have g2 := fun w => run_float_arith (P := Tryd.prog) w .mul 66 .f32 _ _ _ h2
  have g3 := fun w => run_complex_sum (P := Tryd.prog) w .add (.inl rfl) 23 .f32 cx cy p q x y (by unfold cSumBits; rw [h3, h4]; rfl)
  have HS := Lib.hid (fun w => l7Side_is d hd w)
  clear h1 h2 h3 h4
  generalize Flo.sideF d = r at *
  go_enter Tryd.func23, Tryd.ntmps23
  go_wp2_with (go_at_call 40; refine (HS.out _).mono ?_; rintro e w' ⟨rfl, rfl⟩)
  go_ret
  exact ⟨rfl, rfl⟩
set_option maxHeartbeats 400000 in
theorem pointOf_is (cx cy d : Nat) (i j : Int) (hd : d ≤ 11) {p q x y : Nat} (h1 : floatBits .mul .f32 (floatOfInt .f32 j) (Flo.sideF d) = some p) (h2 : floatBits .mul .f32 (floatOfInt .f32 i) (Flo.sideF d) = some q)
    (h3 : floatBits .add .f32 cx p = some x) (h4 : floatBits .add .f32 cy q = some y) (w : World) :
    Calls Tryd.prog 20 #[.complex .f32 cx cy, .int .i64 d, .int .i64 i, .int .i64 j] w fun e w' => e = .returned (.complex .f32 x y) ∧ w = w' := by
  have g1 := fun w => run_float_arith (P := Tryd.prog) w .mul 66 .f32 _ _ _ h1
  have g2 := fun w => run_float_arith (P := Tryd.prog) w .mul 66 .f32 _ _ _ h2
  have g3 := fun w => run_complex_sum (P := Tryd.prog) w .add (.inl rfl) 23 .f32 cx cy p q x y (by unfold cSumBits; rw [h3, h4]; rfl)
  have HS := Lib.hid (fun w => sideOf_is d hd w)
  clear h1 h2 h3 h4
  generalize Flo.sideF d = r at *
  go_enter Tryd.func20, Tryd.ntmps20
  go_wp2_with (go_at_call 38; refine (HS.out _).mono ?_; rintro e w' ⟨rfl, rfl⟩)
  go_ret
  exact ⟨rfl, rfl⟩
set_option maxRecDepth 100000 in
set_option maxHeartbeats 1000000 in
theorem l4Steps_val (x d : Nat) (n N : Int) (hd : d ≤ 11) (hx : Flo.Pt x d n) (hn : n.natAbs ≤ 65536) (hN : N = n * (2 ^ (24 - d) : Nat)) (h1 : -134217728 ≤ N) (h2 : N ≤ 134217728) (w : World) :
    Calls Tryd.prog 78 #[.float .f32 x] w fun e w' => e = .returned (.tuple #[.int .i64 N, .int .i64 N, .bool true]) ∧ w = w' := by
  obtain ⟨y1, y, e1, e2, hv, e3⟩ := Flo.steps_pt hd hx hn
  rw [← hN] at hv e3
  obtain ⟨b1, b2, b3, b4⟩ := Flo.steps_tests (by omega) hv
  rw [decide_eq_true h1] at b1
  rw [decide_eq_true h2] at b2
  have g1 := fun w => run_convert_float_float (P := Tryd.prog) w 66 55 .f32 .f64 _ _ (by kernel_rfl) Tryd.underlying55 e1
  have g2 := fun w => run_float_arith (P := Tryd.prog) w .mul 55 .f64 _ _ _ e2
  have g3 := fun w => run_convert_float_int (P := Tryd.prog) w 55 3 .f64 .i64 _ _ (by kernel_rfl) Tryd.underlying3 e3
  clear e1 e2 e3 hv hx hn hN h1 h2 hd
  go_enter Tryd.func78, Tryd.ntmps78
  go_wp2
  go_ret3
  exact ⟨rfl, rfl⟩
set_option maxHeartbeats 1000000 in
theorem l4Done_val (a b c d : Int) (hv : boxOK a b c d = true) (w : World) : Calls Tryd.prog 79 #[.agg #[.int .i64 a, .int .i64 b, .int .i64 c, .int .i64 d]] w fun e w' => e = .returned (.tuple #[.agg #[.int .i64 a, .int .i64 b, .int .i64 c, .int .i64 d], .bool true]) ∧ Below w.heap.size w w' := by
  have X0 : Box w w.heap.size #[.int .i64 a, .int .i64 b, .int .i64 c, .int .i64 d] 96 ((w.alloc (.cells #[.int .i64 a, .int .i64 b, .int .i64 c, .int .i64 d] 96)).alloc (.cells #[.int .i64 0, .int .i64 0, .int .i64 0, .int .i64 0] 96)) := (Box.new w _ _).alloc _
  have X1 : Box w (w.heap.size + 1) #[.int .i64 0, .int .i64 0, .int .i64 0, .int .i64 0] 96 ((w.alloc (.cells #[.int .i64 a, .int .i64 b, .int .i64 c, .int .i64 d] 96)).alloc (.cells #[.int .i64 0, .int .i64 0, .int .i64 0, .int .i64 0] 96)) := by
    have := (Box.new (w.alloc (.cells #[.int .i64 a, .int .i64 b, .int .i64 c, .int .i64 d] 96)) #[.int .i64 0, .int .i64 0, .int .i64 0, .int .i64 0] 96).up (w0 := w) ((Below.refl _ _).alloc (Nat.le_refl _) _)
    rwa [World.size_alloc] at this
  have HF : Hid (∀ W, Below w.heap.size w W → ∀ u0 u1 u2 u3, Below w.heap.size w ((((W.setCell ⟨w.heap.size + 1, 0, none⟩ u0).setCell ⟨w.heap.size + 1, 1, none⟩ u1).setCell ⟨w.heap.size + 1, 2, none⟩ u2).setCell ⟨w.heap.size + 1, 3, none⟩ u3)) := fun W h u0 u1 u2 u3 =>
    (((h.setCell (p := ⟨w.heap.size + 1, 0, none⟩) (by simp) _).setCell (p := ⟨w.heap.size + 1, 1, none⟩) (by simp) _).setCell (p := ⟨w.heap.size + 1, 2, none⟩) (by simp) _).setCell (p := ⟨w.heap.size + 1, 3, none⟩) (by simp) _
  go_enter Tryd.func79, Tryd.ntmps79
  go_wp2_with fail
  refine (boxValid_any a b c d _).mono ?_
  rw [hv]
  rintro e w1 ⟨rfl, hb⟩
  replace X0 := X0.step hb
  replace X1 := X1.step hb
  clear hb
  have x0 := X0.cell 0 _ rfl
  have x1 := X0.cell 1 _ rfl
  have x2 := X0.cell 2 _ rfl
  have x3 := X0.cell 3 _ rfl
  have c0 := X1.cell 0 _ rfl
  have c1 := X1.cell 1 _ rfl
  have c2 := X1.cell 2 _ rfl
  have c3 := X1.cell 3 _ rfl
  have f0 := X1.frozen 0
  have f1 := X1.frozen 1
  have f2 := X1.frozen 2
  have f3 := X1.frozen 3
  have HB := Lib.hid X1.old
  clear X0 X1
  go_wp2
  exact bodyPost_ret (v := .tuple #[.agg #[.int .i64 a, .int .i64 b, .int .i64 c, .int .i64 d], .bool true]) (by simp [results, Tryd.f79, go_sem, c0, c1, c2, c3]) rfl ⟨rfl, HF.out _ HB.out _ _ _ _⟩
set_option maxHeartbeats 1000000 in
theorem boxOf_val (x y d : Nat) (a b A B : Int) (hd : d ≤ 11) (hx : Flo.Pt x d a) (hy : Flo.Pt y d b) (ha : a.natAbs ≤ 65536) (hb : b.natAbs ≤ 65536) (hA : A = a * (2 ^ (24 - d) : Nat)) (hB : B = b * (2 ^ (24 - d) : Nat))
    (h1 : -134217728 ≤ A) (h2 : A ≤ 134217728) (h3 : -134217728 ≤ B) (h4 : B ≤ 134217728) (w : World) :
    Calls Tryd.prog 67 #[.complex .f32 x y] w fun e w' => e = .returned (.tuple #[.agg #[.int .i64 A, .int .i64 A, .int .i64 B, .int .i64 B], .bool true]) ∧ Below w.heap.size w w' := by
  have X := Box.new w #[.int .i64 0, .int .i64 0, .int .i64 0, .int .i64 0] 96
  have HF : Hid (∀ W, Below w.heap.size w W → ∀ u0 u1 u2 u3, Below w.heap.size w ((((W.setCell ⟨w.heap.size, 0, none⟩ u0).setCell ⟨w.heap.size, 1, none⟩ u1).setCell ⟨w.heap.size, 2, none⟩ u2).setCell ⟨w.heap.size, 3, none⟩ u3)) := fun W h u0 u1 u2 u3 =>
    (((h.setCell (p := ⟨w.heap.size, 0, none⟩) (Nat.le_refl _) _).setCell (p := ⟨w.heap.size, 1, none⟩) (Nat.le_refl _) _).setCell (p := ⟨w.heap.size, 2, none⟩) (Nat.le_refl _) _).setCell (p := ⟨w.heap.size, 3, none⟩) (Nat.le_refl _) _
  have HX := Lib.hid (fun w => l4Steps_val x d a A hd hx ha hA h1 h2 w)
  have HY := Lib.hid (fun w => l4Steps_val y d b B hd hy hb hB h3 h4 w)
  have HV : Hid (boxOK A A B B = true) := by
    show boxOK A A B B = true
    unfold boxOK inB
    simp only [Bool.and_eq_true, decide_eq_true_eq]
    omega
  clear hx hy hA hB ha hb
  go_enter Tryd.func67, Tryd.ntmps67
  go_wp2_with fail
  refine (HX.out _).mono ?_
  rintro e w1 ⟨rfl, rfl⟩
  go_wp2_with fail
  refine (HY.out _).mono ?_
  rintro e w1 ⟨rfl, rfl⟩
  go_wp2_with fail
  refine (l4Done_val A A B B HV.out _).mono ?_
  rintro e w3 ⟨rfl, hb⟩
  replace X := X.step hb
  clear hb
  have c0 := X.cell 0 _ rfl
  have c1 := X.cell 1 _ rfl
  have c2 := X.cell 2 _ rfl
  have c3 := X.cell 3 _ rfl
  have f0 := X.frozen 0
  have f1 := X.frozen 1
  have f2 := X.frozen 2
  have f3 := X.frozen 3
  have HB := Lib.hid X.old
  clear X
  go_wp2
  exact bodyPost_ret (v := .tuple #[.agg #[.int .i64 A, .int .i64 A, .int .i64 B, .int .i64 B], .bool true]) (by simp [results, Tryd.f67, go_sem, c0, c1, c2, c3]) rfl ⟨rfl, HF.out _ HB.out _ _ _ _⟩
theorem side_steps (d : Nat) (hd : d ≤ 11) : (16777216 : Int) / 2 ^ d = (2 ^ (24 - d) : Nat) := by
  rcases (by omega : d = 0 ∨ d = 1 ∨ d = 2 ∨ d = 3 ∨ d = 4 ∨ d = 5 ∨ d = 6 ∨ d = 7 ∨ d = 8 ∨ d = 9 ∨ d = 10 ∨ d = 11) with rfl | rfl | rfl | rfl | rfl | rfl | rfl | rfl | rfl | rfl | rfl | rfl <;> rfl
set_option maxHeartbeats 4000000 in
theorem l7Box_val (cx cy d : Nat) (i j : Int) (a b A B S : Int) (hd : d ≤ 11) (hx : Flo.Pt cx d a) (hy : Flo.Pt cy d b) (ha : a.natAbs ≤ 60000) (hb : b.natAbs ≤ 60000) (hi : i.natAbs ≤ 5000) (hj : j.natAbs ≤ 5000)
    (hS : S = (2 ^ (24 - d) : Nat)) (hA : A = (a + j) * S) (hB : B = (b + i) * S) (h1 : -134217728 ≤ A) (h2 : A + S ≤ 134217728) (h3 : -134217728 ≤ B) (h4 : B + S ≤ 134217728) (w : World) :
    Calls Tryd.prog 57 #[.complex .f32 cx cy, .int .i64 d, .int .i64 i, .int .i64 j] w fun e w' => e = .returned (.tuple #[.agg #[.int .i64 A, .int .i64 (A + S), .int .i64 B, .int .i64 (B + S)], .bool true]) ∧ Below w.heap.size w w' := by
  have R := Box.new w #[.int .i64 0, .int .i64 0, .int .i64 0, .int .i64 0] 96
  have hS0 : 0 < S := by rw [hS]; have := Nat.two_pow_pos (24 - d); omega
  obtain ⟨p, x, e1, e2, hp⟩ := Flo.point_pt hd hx (by omega) j (by omega)
  obtain ⟨q, y, e3, e4, hq⟩ := Flo.point_pt hd hy (by omega) i (by omega)
  have HP := Lib.hid (fun w => l7Point_is cx cy d i j hd e1 e3 e2 e4 w)
  have HO := Lib.hid (fun w => boxOf_val x y d (a + j) (b + i) A B hd hp hq (by omega) (by omega) (by rw [hA, hS]) (by rw [hB, hS]) h1 (by omega) h3 (by omega) w)
  have hV : boxOK A (A + S) B (B + S) = true := by
    unfold boxOK inB
    simp only [Bool.and_eq_true, decide_eq_true_eq]
    omega
  have hsd : (16777216 : Int) / 2 ^ d = S := by rw [hS]; exact side_steps d hd
  have hw1 : -9000000000 ≤ A + S := by omega
  have hw2 : A + S ≤ 9000000000 := by omega
  have hw3 : -9000000000 ≤ B + S := by omega
  have hw4 : B + S ≤ 9000000000 := by omega
  have HV := Lib.hid hV
  clear e1 e2 e3 e4 hp hq hx hy ha hb hi hj hS hA hB hV
  go_enter Tryd.func57, Tryd.ntmps57
  go_wp2_with fail
  refine (HP.out _).mono ?_
  rintro e w1 ⟨rfl, rfl⟩
  go_wp2_with fail
  refine (HO.out _).mono ?_
  rintro e w2 ⟨rfl, hb⟩
  replace R := R.step hb
  clear hb HP HO
  have X := (Box.new w2 #[.int .i64 A, .int .i64 A, .int .i64 B, .int .i64 B] 96).up R.old
  have hne : w2.heap.size ≠ w.heap.size := by have := R.lt; omega
  have hxb : w.heap.size ≤ w2.heap.size := R.old.size
  replace R := R.alloc (.cells #[.int .i64 A, .int .i64 A, .int .i64 B, .int .i64 B] 96)
  have x1 := X.cell 1 _ rfl
  have x3 := X.cell 3 _ rfl
  have f1 := X.frozen 1
  have f3 := X.frozen 3
  go_upto_region 5 with fail
  clear x1 x3 f1 f3 X
  have X := (Box.new w2 #[.int .i64 A, .int .i64 (A + S), .int .i64 B, .int .i64 (B + S)] 96).up (w0 := w) (by have := R.old; exact ⟨this.os, this.tape, this.output, hxb, fun k hk => by rw [← this.block k hk]; exact (Below.heap_alloc _ _ _ (by omega)).symm⟩)
  replace R : Box w w.heap.size #[.int .i64 0, .int .i64 0, .int .i64 0, .int .i64 0] 96 (w2.alloc (.cells #[.int .i64 A, .int .i64 (A + S), .int .i64 B, .int .i64 (B + S)] 96)) := by
    refine ⟨?_, X.old⟩
    have := R.blk
    rw [Below.heap_alloc _ _ _ (by have := R.lt; simp at this; omega)] at this
    rw [Below.heap_alloc _ _ _ (by have := R.lt; simp at this; omega)]
    exact this
  clear hsd
  generalize w2.heap.size = xb at *
  generalize w2.alloc (.cells #[.int .i64 A, .int .i64 (A + S), .int .i64 B, .int .i64 (B + S)] 96) = W at *
  have HF : Hid (∀ W, Below w.heap.size w W → ∀ u0 u1 u2 u3, Below w.heap.size w ((((W.setCell ⟨w.heap.size, 0, none⟩ u0).setCell ⟨w.heap.size, 1, none⟩ u1).setCell ⟨w.heap.size, 2, none⟩ u2).setCell ⟨w.heap.size, 3, none⟩ u3)) := fun W h u0 u1 u2 u3 =>
    (((h.setCell (p := ⟨w.heap.size, 0, none⟩) (Nat.le_refl _) _).setCell (p := ⟨w.heap.size, 1, none⟩) (Nat.le_refl _) _).setCell (p := ⟨w.heap.size, 2, none⟩) (Nat.le_refl _) _).setCell (p := ⟨w.heap.size, 3, none⟩) (Nat.le_refl _) _
  have x0 := X.cell 0 _ rfl
  have x1 := X.cell 1 _ rfl
  have x2 := X.cell 2 _ rfl
  have x3 := X.cell 3 _ rfl
  replace R := R.step ((Drw.refl _).drew.below _)
  have HBV := Lib.hid (fun W => boxValid_any A (A + S) B (B + S) W)
  rw [HV.out] at HBV
  go_region_with (first
    | (go_at_call 68
       refine (HBV.out _).mono ?_
       rintro e w3 ⟨rfl, hb⟩
       replace X := X.step (((Drw.refl _).drew.below _).trans hb)
       replace R := R.step hb
       have x0 := X.cell 0 _ rfl
       have x1 := X.cell 1 _ rfl
       have x2 := X.cell 2 _ rfl
       have x3 := X.cell 3 _ rfl
       have c0 := R.cell 0 _ rfl
       have c1 := R.cell 1 _ rfl
       have c2 := R.cell 2 _ rfl
       have c3 := R.cell 3 _ rfl
       have f0 := R.frozen 0
       have f1 := R.frozen 1
       have f2 := R.frozen 2
       have f3 := R.frozen 3
       have HB := Lib.hid R.old))
  all_goals
    go_wp2
    exact bodyPost_ret (v := .tuple #[.agg #[.int .i64 A, .int .i64 (A + S), .int .i64 B, .int .i64 (B + S)], .bool true]) (by simp [results, Tryd.f57, go_sem, c0, c1, c2, c3]) rfl ⟨rfl, HF.out _ HB.out _ _ _ _⟩
end Go.Proofs.YtdfoobemgdiobaaDoor
