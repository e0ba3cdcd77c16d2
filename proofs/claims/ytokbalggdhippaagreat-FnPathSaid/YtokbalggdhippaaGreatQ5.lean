/- Merged texts: TilE, BoxT, FloN, TilF, TrdF. -/
import Derived.Test.YtokbalggdhippaaGreatQ4
import Derived.Deep.RegionWith
import Derived.Deep.DrawnRows
import Derived.Deep.Cut
import Derived.Outline
import Derived.Test.YtokbalggdhippaaGreatQ2
import Derived.Laws.BitsAllLaws
set_option linter.all false
section
namespace Go.Proofs.YtokbalggdhippaaGreat
open Go.RowKit
attribute [local go_sem ↓] Go.wp_at_zero Go.wp_at_succ
set_option maxHeartbeats 400000 in
theorem l7Point_is (cx cy d : Nat) (i j : Int) (hd : d ≤ 11) {p q x y : Nat} (h1 : floatBits .mul .f32 (floatOfInt .f32 j) (Flo.sideF d) = some p) (h2 : floatBits .mul .f32 (floatOfInt .f32 i) (Flo.sideF d) = some q)
    (h3 : floatBits .add .f32 cx p = some x) (h4 : floatBits .add .f32 cy q = some y) (w : World) :
    Calls Vp.prog 55 #[.complex .f32 cx cy, .int .i64 d, .int .i64 i, .int .i64 j] w fun e w' => e = .returned (.complex .f32 x y) ∧ w = w' := by
  have g1 := fun w => run_float_arith (P := Vp.prog) w .mul 63 .f32 _ _ _ h1
  have g2 := fun w => run_float_arith (P := Vp.prog) w .mul 63 .f32 _ _ _ h2
  have g3 := fun w => run_complex_sum (P := Vp.prog) w .add (.inl rfl) 23 .f32 cx cy p q x y (by unfold cSumBits; rw [h3, h4]; rfl)
  have HS := Lib.hid (fun w => l7Side_is d hd w)
  clear h1 h2 h3 h4
  generalize Flo.sideF d = r at *
  go_enter Vp.func55, Tryz.ntmps55
  go_wp2_with (go_at_call 63; refine (HS.out _).mono ?_; rintro e w' ⟨rfl, rfl⟩)
  go_ret
  exact ⟨rfl, rfl⟩
set_option maxHeartbeats 400000 in
theorem pointOf_is (cx cy d : Nat) (i j : Int) (hd : d ≤ 11) {p q x y : Nat} (h1 : floatBits .mul .f32 (floatOfInt .f32 j) (Flo.sideF d) = some p) (h2 : floatBits .mul .f32 (floatOfInt .f32 i) (Flo.sideF d) = some q)
    (h3 : floatBits .add .f32 cx p = some x) (h4 : floatBits .add .f32 cy q = some y) (w : World) :
    Calls Vp.prog 34 #[.complex .f32 cx cy, .int .i64 d, .int .i64 i, .int .i64 j] w fun e w' => e = .returned (.complex .f32 x y) ∧ w = w' := by
  have g1 := fun w => run_float_arith (P := Vp.prog) w .mul 63 .f32 _ _ _ h1
  have g2 := fun w => run_float_arith (P := Vp.prog) w .mul 63 .f32 _ _ _ h2
  have g3 := fun w => run_complex_sum (P := Vp.prog) w .add (.inl rfl) 23 .f32 cx cy p q x y (by unfold cSumBits; rw [h3, h4]; rfl)
  have HS := Lib.hid (fun w => sideOf_is d hd w)
  clear h1 h2 h3 h4
  generalize Flo.sideF d = r at *
  go_enter Vp.func34, Tryz.ntmps34
  go_wp2_with (go_at_call 59; refine (HS.out _).mono ?_; rintro e w' ⟨rfl, rfl⟩)
  go_ret
  exact ⟨rfl, rfl⟩
set_option maxRecDepth 100000 in
set_option maxHeartbeats 1000000 in
theorem l4Steps_val (x d : Nat) (n N : Int) (hd : d ≤ 11) (hx : Flo.Pt x d n) (hn : n.natAbs ≤ 65536) (hN : N = n * (2 ^ (24 - d) : Nat)) (h1 : -134217728 ≤ N) (h2 : N ≤ 134217728) (w : World) :
    Calls Vp.prog 98 #[.float .f32 x] w fun e w' => e = .returned (.tuple #[.int .i64 N, .int .i64 N, .bool true]) ∧ w = w' := by
  obtain ⟨y1, y, e1, e2, hv, e3⟩ := Flo.steps_pt hd hx hn
  rw [← hN] at hv e3
  obtain ⟨b1, b2, b3, b4⟩ := Flo.steps_tests (by omega) hv
  rw [decide_eq_true h1] at b1
  rw [decide_eq_true h2] at b2
  have g1 := fun w => run_convert_float_float (P := Vp.prog) w 63 109 .f32 .f64 _ _ (by kernel_rfl) (Vp.und Tryz.underlying109) e1
  have g2 := fun w => run_float_arith (P := Vp.prog) w .mul 109 .f64 _ _ _ e2
  have g3 := fun w => run_convert_float_int (P := Vp.prog) w 109 3 .f64 .i64 _ _ (by kernel_rfl) (Vp.und Tryz.underlying3) e3
  clear e1 e2 e3 hv hx hn hN h1 h2 hd
  go_enter Vp.func98, Tryz.ntmps98
  go_wp2
  go_ret3
  exact ⟨rfl, rfl⟩
set_option maxHeartbeats 1000000 in
theorem l4Done_val (a b c d : Int) (hv : boxOK a b c d = true) (w : World) : Calls Vp.prog 99 #[.agg #[.int .i64 a, .int .i64 b, .int .i64 c, .int .i64 d]] w fun e w' => e = .returned (.tuple #[.agg #[.int .i64 a, .int .i64 b, .int .i64 c, .int .i64 d], .bool true]) ∧ Below w.heap.size w w' := by
  have X0 : Box w w.heap.size #[.int .i64 a, .int .i64 b, .int .i64 c, .int .i64 d] 101 ((w.alloc (.cells #[.int .i64 a, .int .i64 b, .int .i64 c, .int .i64 d] 101)).alloc (.cells #[.int .i64 0, .int .i64 0, .int .i64 0, .int .i64 0] 101)) := (Box.new w _ _).alloc _
  have X1 : Box w (w.heap.size + 1) #[.int .i64 0, .int .i64 0, .int .i64 0, .int .i64 0] 101 ((w.alloc (.cells #[.int .i64 a, .int .i64 b, .int .i64 c, .int .i64 d] 101)).alloc (.cells #[.int .i64 0, .int .i64 0, .int .i64 0, .int .i64 0] 101)) := by
    have := (Box.new (w.alloc (.cells #[.int .i64 a, .int .i64 b, .int .i64 c, .int .i64 d] 101)) #[.int .i64 0, .int .i64 0, .int .i64 0, .int .i64 0] 101).up (w0 := w) ((Below.refl _ _).alloc (Nat.le_refl _) _)
    rwa [World.size_alloc] at this
  have HF : Hid (∀ W, Below w.heap.size w W → ∀ u0 u1 u2 u3, Below w.heap.size w ((((W.setCell ⟨w.heap.size + 1, 0, none⟩ u0).setCell ⟨w.heap.size + 1, 1, none⟩ u1).setCell ⟨w.heap.size + 1, 2, none⟩ u2).setCell ⟨w.heap.size + 1, 3, none⟩ u3)) := fun W h u0 u1 u2 u3 =>
    (((h.setCell (p := ⟨w.heap.size + 1, 0, none⟩) (by simp) _).setCell (p := ⟨w.heap.size + 1, 1, none⟩) (by simp) _).setCell (p := ⟨w.heap.size + 1, 2, none⟩) (by simp) _).setCell (p := ⟨w.heap.size + 1, 3, none⟩) (by simp) _
  go_enter Vp.func99, Tryz.ntmps99
  go_wp2_with fail
  refine (boxValid_any a b c d _).mono ?_
  rw [hv]
  rintro e w1 ⟨rfl, hb⟩
  replace X0 := X0.step hb
  replace X1 := X1.step hb
  clear hb
  have x0 := X0.cell 0 _ rfl
  have x1 := X0.cell 1 _ rfl
  have x2 := X0.cell 2 _ rfl
  have x3 := X0.cell 3 _ rfl
  have c0 := X1.cell 0 _ rfl
  have c1 := X1.cell 1 _ rfl
  have c2 := X1.cell 2 _ rfl
  have c3 := X1.cell 3 _ rfl
  have f0 := X1.frozen 0
  have f1 := X1.frozen 1
  have f2 := X1.frozen 2
  have f3 := X1.frozen 3
  have HB := Lib.hid X1.old
  clear X0 X1
  go_wp2
  exact bodyPost_ret (v := .tuple #[.agg #[.int .i64 a, .int .i64 b, .int .i64 c, .int .i64 d], .bool true]) (by simp [results, Tryz.f99, go_sem, c0, c1, c2, c3]) rfl ⟨rfl, HF.out _ HB.out _ _ _ _⟩
set_option maxHeartbeats 1000000 in
theorem boxOf_val (x y d : Nat) (a b A B : Int) (hd : d ≤ 11) (hx : Flo.Pt x d a) (hy : Flo.Pt y d b) (ha : a.natAbs ≤ 65536) (hb : b.natAbs ≤ 65536) (hA : A = a * (2 ^ (24 - d) : Nat)) (hB : B = b * (2 ^ (24 - d) : Nat))
    (h1 : -134217728 ≤ A) (h2 : A ≤ 134217728) (h3 : -134217728 ≤ B) (h4 : B ≤ 134217728) (w : World) :
    Calls Vp.prog 78 #[.complex .f32 x y] w fun e w' => e = .returned (.tuple #[.agg #[.int .i64 A, .int .i64 A, .int .i64 B, .int .i64 B], .bool true]) ∧ Below w.heap.size w w' := by
  have X := Box.new w #[.int .i64 0, .int .i64 0, .int .i64 0, .int .i64 0] 101
  have HF : Hid (∀ W, Below w.heap.size w W → ∀ u0 u1 u2 u3, Below w.heap.size w ((((W.setCell ⟨w.heap.size, 0, none⟩ u0).setCell ⟨w.heap.size, 1, none⟩ u1).setCell ⟨w.heap.size, 2, none⟩ u2).setCell ⟨w.heap.size, 3, none⟩ u3)) := fun W h u0 u1 u2 u3 =>
    (((h.setCell (p := ⟨w.heap.size, 0, none⟩) (Nat.le_refl _) _).setCell (p := ⟨w.heap.size, 1, none⟩) (Nat.le_refl _) _).setCell (p := ⟨w.heap.size, 2, none⟩) (Nat.le_refl _) _).setCell (p := ⟨w.heap.size, 3, none⟩) (Nat.le_refl _) _
  have HX := Lib.hid (fun w => l4Steps_val x d a A hd hx ha hA h1 h2 w)
  have HY := Lib.hid (fun w => l4Steps_val y d b B hd hy hb hB h3 h4 w)
  have HV : Hid (boxOK A A B B = true) := by
    show boxOK A A B B = true
    unfold boxOK inB
    simp only [Bool.and_eq_true, decide_eq_true_eq]
    omega
  clear hx hy hA hB ha hb
  go_enter Vp.func78, Tryz.ntmps78
  go_wp2_with fail
  refine (HX.out _).mono ?_
  rintro e w1 ⟨rfl, rfl⟩
  go_wp2_with fail
  refine (HY.out _).mono ?_
  rintro e w1 ⟨rfl, rfl⟩
  go_wp2_with fail
  refine (l4Done_val A A B B HV.out _).mono ?_
  rintro e w3 ⟨rfl, hb⟩
  replace X := X.step hb
  clear hb
  have c0 := X.cell 0 _ rfl
  have c1 := X.cell 1 _ rfl
  have c2 := X.cell 2 _ rfl
  have c3 := X.cell 3 _ rfl
  have f0 := X.frozen 0
  have f1 := X.frozen 1
  have f2 := X.frozen 2
  have f3 := X.frozen 3
  have HB := Lib.hid X.old
  clear X
  go_wp2
  exact bodyPost_ret (v := .tuple #[.agg #[.int .i64 A, .int .i64 A, .int .i64 B, .int .i64 B], .bool true]) (by simp [results, Tryz.f78, go_sem, c0, c1, c2, c3]) rfl ⟨rfl, HF.out _ HB.out _ _ _ _⟩
theorem side_steps (d : Nat) (hd : d ≤ 11) : (16777216 : Int) / 2 ^ d = (2 ^ (24 - d) : Nat) := by
  rcases (by omega : d = 0 ∨ d = 1 ∨ d = 2 ∨ d = 3 ∨ d = 4 ∨ d = 5 ∨ d = 6 ∨ d = 7 ∨ d = 8 ∨ d = 9 ∨ d = 10 ∨ d = 11) with rfl | rfl | rfl | rfl | rfl | rfl | rfl | rfl | rfl | rfl | rfl | rfl <;> rfl
end Go.Proofs.YtokbalggdhippaaGreat
end

section
namespace Go.Proofs.YtokbalggdhippaaGreat
open Go.RowKit
def boxV (x y z u : Int) : Value := .agg #[.int .i64 x, .int .i64 y, .int .i64 z, .int .i64 u]
end Go.Proofs.YtokbalggdhippaaGreat
end

section
namespace Go.Proofs.YtokbalggdhippaaGreat
namespace Flo
open Ieee
theorem neg_neg (k : FloatKind) (x : Nat) : Op.negFloat k (Op.negFloat k x) = x := by
  unfold Op.negFloat
  rw [Nat.xor_assoc, Nat.xor_self, Nat.xor_zero]
end Flo
end Go.Proofs.YtokbalggdhippaaGreat
end

section
namespace Go.Proofs.YtokbalggdhippaaGreat
open Go.RowKit
theorem cut_down (neg : Bool) (t drop : Nat) : Ieee.Toward.down.cut neg (t * 2 ^ drop) drop = t := by
  unfold Ieee.Toward.cut
  simp only []
  by_cases hd : drop ≤ (t * 2 ^ drop).log2 + 2
  · rw [Nat.min_eq_left hd, Nat.one_shiftLeft, Nat.mul_div_cancel _ (Nat.two_pow_pos _), Nat.mul_mod_left]; simp
  · have h0 : t = 0 := by
      rcases Nat.eq_zero_or_pos t with h | h
      · exact h
      · exfalso
        have hlt : t * 2 ^ drop < 2 ^ ((t * 2 ^ drop).log2 + 1) := Nat.lt_log2_self
        have h2 : 2 ^ ((t * 2 ^ drop).log2 + 1) ≤ 2 ^ drop := Nat.pow_le_pow_right (by omega) (by omega)
        have h3 := Nat.mul_le_mul_right (2 ^ drop) h
        omega
    subst h0; simp
theorem floor_val {z : Nat} {A : Int} (hz : Flo.Val Ieee.double z (A * (2 ^ Flo.u64 : Nat))) :
    ∃ s m e, FloatKind.f64.decode z = .number s m e ∧ Flo.Val Ieee.double (FloatKind.f64.encode ((Ieee.Datum.number s m e).integral .down)) (A * (2 ^ Flo.u64 : Nat)) := by
  refine ⟨_, _, _, Flo.read_fin hz.fin, ?_⟩
  have hd := Flo.val_digits hz
  rw [Int.natAbs_mul, Int.natAbs_natCast] at hd
  have hm : Ieee.Toward.down.cut (Flo.sgn Ieee.double z) (Flo.rm Ieee.double (Flo.rung Ieee.double z) <<< (Ieee.double.leastPlace + Flo.re Ieee.double (Flo.rung Ieee.double z)).toNat) (-(Ieee.double.leastPlace + (Flo.re Ieee.double (Flo.rung Ieee.double z) : Int))).toNat = A.natAbs := by
    rw [Flo.least64]
    generalize Flo.re Ieee.double (Flo.rung Ieee.double z) = e at *
    generalize Flo.rm Ieee.double (Flo.rung Ieee.double z) = m at *
    generalize Flo.sgn Ieee.double z = s at *
    rcases Nat.le_total Flo.u64 e with h | h
    · obtain ⟨r, rfl⟩ : ∃ r, e = r + Flo.u64 := ⟨e - Flo.u64, by omega⟩
      have e1 : (-(Flo.u64 : Int) + ((r + Flo.u64 : Nat) : Int)).toNat = r := by omega
      have e2 : (-(-(Flo.u64 : Int) + ((r + Flo.u64 : Nat) : Int))).toNat = 0 := by omega
      rw [e1, e2]
      rw [Nat.pow_add, ← Nat.mul_assoc] at hd
      have hA := Nat.eq_of_mul_eq_mul_right (Nat.two_pow_pos Flo.u64) hd
      have := cut_down s A.natAbs 0
      rw [Nat.pow_zero, Nat.mul_one] at this
      rw [Nat.shiftLeft_eq, ← hA]; exact this
    · obtain ⟨r, hr⟩ : ∃ r, Flo.u64 = r + e := ⟨Flo.u64 - e, by omega⟩
      have e1 : (-(Flo.u64 : Int) + (e : Int)).toNat = 0 := by omega
      have e2 : (-(-(Flo.u64 : Int) + (e : Int))).toNat = r := by omega
      rw [e1, e2]
      rw [hr, Nat.pow_add, ← Nat.mul_assoc] at hd
      have hA := Nat.eq_of_mul_eq_mul_right (Nat.two_pow_pos e) hd
      rw [Nat.shiftLeft_zero, ← hA]
      exact cut_down s A.natAbs r
  show Flo.Val Ieee.double (Ieee.double.nearest (Flo.sgn Ieee.double z) (Ieee.Toward.down.cut (Flo.sgn Ieee.double z) (Flo.rm Ieee.double (Flo.rung Ieee.double z) <<< (Ieee.double.leastPlace + Flo.re Ieee.double (Flo.rung Ieee.double z)).toNat) (-(Ieee.double.leastPlace + (Flo.re Ieee.double (Flo.rung Ieee.double z) : Int))).toNat) 0) _
  rw [hm]
  have hiv := hz.iv
  unfold Flo.iv at hiv
  refine Flo.nearest_val (a := Flo.u64) (b := 0) hz.rep (by rw [Flo.least64]; omega) (by rw [Int.natAbs_mul, Int.natAbs_natCast, Nat.pow_zero, Nat.mul_one]) (fun hneg => ?_) (fun hpos => ?_)
  · cases hs : Flo.sgn Ieee.double z
    · rw [hs] at hiv
      simp only [Bool.false_eq_true, if_false] at hiv
      omega
    · rfl
  · cases hs : Flo.sgn Ieee.double z
    · rfl
    · rw [hs] at hiv
      simp only [if_true] at hiv
      omega
theorem toIntegral_num (z : Nat) (s : Bool) (m : Nat) (e : Int) (hd : FloatKind.f64.decode z = .number s m e) : Go.Extern.MathFloor.toIntegral "math.archFloor" .down #[.float .f64 z] = pure (.float .f64 (FloatKind.f64.encode ((Ieee.Datum.number s m e).integral .down))) := by
  show (match FloatKind.f64.decode z with | .nan s t => _ | d => pure (Value.float .f64 (FloatKind.f64.encode (d.integral .down)))) = _
  rw [hd]
theorem archFloor_run (z : Nat) (w : World) : (callFunc 107 #[.float .f64 z]).run Vp.prog w = (do let v ← Go.Extern.MathFloor.toIntegral "math.archFloor" .down #[.float .f64 z]; pure (Next.value v)).run Vp.prog w := by
  kernel_rfl
set_option maxRecDepth 100000 in
theorem mathFloor_is (z : Nat) (A : Int) (hz : Flo.Val Ieee.double z (A * (2 ^ Flo.u64 : Nat))) (w : World) : Calls Vp.prog 85 #[.float .f64 z] w fun e w' => (∃ y, e = .returned (.float .f64 y) ∧ Flo.Val Ieee.double y (A * (2 ^ Flo.u64 : Nat))) ∧ w = w' := by
  obtain ⟨s, m, e, hd, hv⟩ := floor_val hz
  have hr : ∀ w, (callFunc 107 #[.float .f64 z]).run Vp.prog w = .ok (.value (.float .f64 (FloatKind.f64.encode ((Ieee.Datum.number s m e).integral .down)))) w := fun w => by
    rw [archFloor_run, toIntegral_num z s m e hd]
    rfl
  have HV := Lib.hid hv
  generalize FloatKind.f64.encode ((Ieee.Datum.number s m e).integral .down) = y at *
  clear hz hv hd
  go_enter Vp.func85, Tryz.ntmps85
  go_wp2
  go_ret
  exact ⟨⟨y, rfl, HV.out⟩, rfl⟩
set_option maxRecDepth 100000 in
set_option maxHeartbeats 1000000 in
theorem cornerWell_ok (x d : Nat) (hx : x < 4294967296) (hd : d ≤ 11) (h : Flo.wholeB x d = true) (w : World) : Calls Vp.prog 58 #[.float .f32 x, .int .i64 d] w fun e w' => e = .returned (.bool true) ∧ w = w' := by
  obtain ⟨A, hA, hb⟩ := Flo.whole_pt hx hd h
  have hdp : 2 ^ d ≤ 2 ^ 11 := Nat.pow_le_pow_right (by omega) hd
  obtain ⟨y1, h1, v1⟩ := Flo.widen_val hA
  have hD : Flo.Val Ieee.double (floatOfInt .f64 ((2 ^ d : Nat) : Int)) (((2 ^ d : Nat) : Int) * (2 ^ Flo.u64 : Nat)) := Flo.ofInt_val (k := .f64) Flo.least64 _ (by rw [Int.natAbs_natCast]; show _ < 2 * Ieee.double.binade; rw [Flo.double_binade]; omega) (by show (Flo.u64 + 2) * Ieee.double.binade ≤ Ieee.double.infRung; rw [Flo.double_inf, Flo.u64_eq]; exact Nat.mul_le_mul_right _ (by omega))
  have hrep : Flo.Rep Ieee.double (A * (2 ^ Flo.u64 : Nat)) := by
    refine Flo.rep_gen (m := A.natAbs) (e := Flo.u64) (by rw [Int.natAbs_mul, Int.natAbs_natCast]) (by rw [Flo.double_binade]; omega) ?_
    rw [Flo.double_inf, Flo.u64_eq]
    exact Nat.mul_le_mul_right _ (by omega)
  have hc : A * (2 ^ (Flo.u32 - d) : Nat) * (2 ^ Flo.wup : Nat) * (((2 ^ d : Nat) : Int) * (2 ^ Flo.u64 : Nat)) = A * (2 ^ Flo.u64 : Nat) * (2 ^ Flo.u64 : Nat) := by
    have e : (2 ^ (Flo.u32 - d) * 2 ^ Flo.wup * 2 ^ d : Nat) = 2 ^ Flo.u64 := by
      rw [← Nat.pow_add, ← Nat.pow_add]
      congr 1
      rw [Flo.u32_eq, Flo.wup_eq, Flo.u64_eq]; omega
    have e2 : ((2 ^ (Flo.u32 - d) : Nat) : Int) * (2 ^ Flo.wup : Nat) * (2 ^ d : Nat) = (2 ^ Flo.u64 : Nat) := by
      have := congrArg (fun x : Nat => (x : Int)) e
      simp only [Int.natCast_mul] at this
      exact this
    generalize ((2 ^ (Flo.u32 - d) : Nat) : Int) = P at *
    generalize ((2 ^ Flo.wup : Nat) : Int) = Q at *
    generalize ((2 ^ Flo.u64 : Nat) : Int) = R at *
    generalize ((2 ^ d : Nat) : Int) = S at *
    calc A * P * Q * (S * R) = A * (P * Q * S) * R := by simp only [Int.mul_assoc]
      _ = A * R * R := by rw [e2]
  obtain ⟨y, hy, v2⟩ := Flo.mul_val (f := Ieee.double) (c := A * (2 ^ Flo.u64 : Nat)) Flo.least64 v1 hD hc hrep
  have hF := Lib.hid (mathFloor_is y A v2)
  have hee : Hid (∀ t, Flo.Val Ieee.double t (A * (2 ^ Flo.u64 : Nat)) → (FloatKind.f64.format.order y t == some .eq) = true) := fun t ht => by rw [Flo.order_eq_val (k := .f64) v2 ht]; simp
  obtain ⟨q, hq⟩ : ∃ q : Int, wrap64 (2 ^ d) = q := ⟨_, rfl⟩
  have hqd : ((2 ^ d : Nat) : Int) = q := by rw [← hq, wrap_pow d hd]
  rw [hqd] at hy
  have g1 := fun w => run_convert_float_float (P := Vp.prog) w 63 109 .f32 .f64 _ _ (by kernel_rfl) (Vp.und Tryz.underlying109) h1
  have g2 := fun w => run_float_arith (P := Vp.prog) w .mul 109 .f64 _ _ _ hy
  have hw := Flo.inFour_val hx (by unfold Flo.wholeB at h; rw [Bool.and_eq_true] at h; exact h.1)
  have t1 : (FloatKind.f32.format.order 3229614080 x == some .lt || FloatKind.f32.format.order 3229614080 x == some .eq) = true := by
    rw [Flo.order_lt_val (k := .f32) Flo.minus_four_val hw.1, Flo.order_eq_val (k := .f32) Flo.minus_four_val hw.1]
    have := hw.2
    simp only [Bool.or_eq_true, decide_eq_true_eq]
    generalize 2 ^ Flo.u32 = U at *
    omega
  have t2 : (FloatKind.f32.format.order x 1082130432 == some .lt || FloatKind.f32.format.order x 1082130432 == some .eq) = true := by
    unfold Flo.wholeB Flo.inFour at h
    rw [Bool.and_eq_true, Bool.and_eq_true] at h
    exact h.1.2
  clear h hA hb hdp h1 v1 hD hrep hc hy v2 hqd hw hx
  go_enter Vp.func58, Tryz.ntmps58
  go_wp2_with (go_at_call 85; refine (hF.out _).mono ?_; rintro e w' ⟨⟨t, rfl, ht⟩, rfl⟩; have hte := hee.out t ht; clear ht)
  go_ret
  exact ⟨rfl, rfl⟩
set_option maxRecDepth 100000 in
set_option maxHeartbeats 1000000 in
theorem placeWell_ok (cx cy : Nat) (deep size : Int) (hx : cx < 4294967296) (hy : cy < 4294967296) (h : placeB cx cy deep size = true) (w : World) : Calls Vp.prog 33 #[.complex .f32 cx cy, .int .i64 deep, .int .i64 size] w fun e w' => e = .returned (.bool true) ∧ w = w' := by
  obtain ⟨h1, h2, h3, h4⟩ := placeB_bd h
  obtain ⟨d, rfl⟩ := Int.eq_ofNat_of_zero_le h1
  unfold placeB at h
  rw [Bool.and_eq_true, Bool.and_eq_true, Int.toNat_natCast] at h
  have hX := Lib.hid (cornerWell_ok cx d hx (by omega) h.1.2)
  have hY := Lib.hid (cornerWell_ok cy d hy (by omega) h.2)
  clear h
  have a1 : decide ((d : Int) < 0) = false := by simp
  have a2 : decide (10 < (d : Int)) = false := by simpa using h2
  have a3 : decide (size < 1) = false := by simpa using h3
  have a4 : decide (8 < size) = false := by simpa using h4
  go_enter Vp.func33, Tryz.ntmps33
  go_wp2_with (first | (go_at_call 58; (with_reducible refine (hX.out _).mono ?_); rintro e w' ⟨rfl, rfl⟩) | (go_at_call 58; (with_reducible refine (hY.out _).mono ?_); rintro e w' ⟨rfl, rfl⟩))
  go_ret
  exact ⟨rfl, rfl⟩
end Go.Proofs.YtokbalggdhippaaGreat
end

section
namespace Go.Proofs.YtokbalggdhippaaGreat
open Go.RowKit
theorem order_flip (f : Ieee.Format) (x y : Nat) : f.order y x = (f.order x y).map Ordering.swap := by
  unfold Ieee.Format.order
  cases f.read x with
  | nan s t => cases f.read y <;> rfl
  | infinity s =>
    cases f.read y with
    | nan => rfl
    | infinity t => cases s <;> cases t <;> rfl
    | number => cases s <;> rfl
  | number s m i =>
    cases f.read y with
    | nan => rfl
    | infinity t => cases t <;> rfl
    | number t n j =>
      simp only [Ieee.Datum.order, Option.map_some, Option.some.injEq]
      rw [Int.min_comm j i]
      exact Std.OrientedCmp.eq_swap
theorem flip_ge (f : Ieee.Format) (x y : Nat) : (f.order y x == some .lt || f.order y x == some .eq) = (f.order x y == some .gt || f.order x y == some .eq) := by
  rw [order_flip f x y]
  cases f.order x y with
  | none => rfl
  | some o => cases o <;> rfl
theorem cut_le (s : Bool) (n drop : Nat) : Ieee.Toward.down.cut s n drop ≤ n / 2 ^ drop + 1 := by
  have h := Flo.cut_zero s n drop
  unfold Ieee.Toward.cut at h ⊢
  simp only [Bool.toNat_false, Nat.add_zero] at h
  simp only [h]
  have : ∀ b : Bool, b.toNat ≤ 1 := by decide
  have := this (s && n % (1 <<< min drop (n.log2 + 2)) != 0)
  omega
theorem floor_any {z : Nat} {v : Int} (hz : Flo.Val Ieee.double z v) (hb : v.natAbs ≤ 1048576 * 2 ^ Flo.u64) :
    ∃ (s : Bool) (m : Nat) (e B : Int), FloatKind.f64.decode z = .number s m e ∧ Flo.Val Ieee.double (FloatKind.f64.encode ((Ieee.Datum.number s m e).integral .down)) (B * (2 ^ Flo.u64 : Nat)) := by
  have hd := Flo.val_digits hz
  obtain ⟨K, hK, hK2⟩ : ∃ K, Ieee.Toward.down.cut (Flo.sgn Ieee.double z) (Flo.rm Ieee.double (Flo.rung Ieee.double z) <<< (Ieee.double.leastPlace + Flo.re Ieee.double (Flo.rung Ieee.double z)).toNat) (-(Ieee.double.leastPlace + (Flo.re Ieee.double (Flo.rung Ieee.double z) : Int))).toNat = K ∧ K ≤ 1048577 := by
    refine ⟨_, rfl, ?_⟩
    refine Nat.le_trans (cut_le _ _ _) ?_
    rw [Flo.least64]
    rw [hd] at hb
    generalize Flo.re Ieee.double (Flo.rung Ieee.double z) = e at *
    generalize Flo.rm Ieee.double (Flo.rung Ieee.double z) = m at *
    rcases Nat.le_total Flo.u64 e with h | h
    · obtain ⟨r, rfl⟩ : ∃ r, e = r + Flo.u64 := ⟨e - Flo.u64, by omega⟩
      have e1 : (-(Flo.u64 : Int) + ((r + Flo.u64 : Nat) : Int)).toNat = r := by omega
      have e2 : (-(-(Flo.u64 : Int) + ((r + Flo.u64 : Nat) : Int))).toNat = 0 := by omega
      rw [e1, e2, Nat.pow_zero, Nat.div_one, Nat.shiftLeft_eq]
      rw [Nat.pow_add, ← Nat.mul_assoc] at hb
      have := Nat.le_of_mul_le_mul_right hb (Nat.two_pow_pos Flo.u64)
      omega
    · obtain ⟨r, hr⟩ : ∃ r, Flo.u64 = r + e := ⟨Flo.u64 - e, by omega⟩
      have e1 : (-(Flo.u64 : Int) + (e : Int)).toNat = 0 := by omega
      have e2 : (-(-(Flo.u64 : Int) + (e : Int))).toNat = r := by omega
      rw [e1, e2, Nat.shiftLeft_zero]
      rw [hr, Nat.pow_add, ← Nat.mul_assoc] at hb
      have h1 := Nat.le_of_mul_le_mul_right hb (Nat.two_pow_pos e)
      have h2 : m / 2 ^ r ≤ 1048576 := Nat.div_le_of_le_mul (by rw [Nat.mul_comm]; exact h1)
      omega
  refine ⟨_, _, _, if Flo.sgn Ieee.double z then -(K : Int) else K, Flo.read_fin hz.fin, ?_⟩
  show Flo.Val Ieee.double (Ieee.double.nearest (Flo.sgn Ieee.double z) (Ieee.Toward.down.cut (Flo.sgn Ieee.double z) (Flo.rm Ieee.double (Flo.rung Ieee.double z) <<< (Ieee.double.leastPlace + Flo.re Ieee.double (Flo.rung Ieee.double z)).toNat) (-(Ieee.double.leastPlace + (Flo.re Ieee.double (Flo.rung Ieee.double z) : Int))).toNat) 0) _
  rw [hK]
  generalize Flo.sgn Ieee.double z = s at *
  have hna : ((if s then -(K : Int) else K) * ((2 ^ Flo.u64 : Nat) : Int)).natAbs = K * 2 ^ Flo.u64 := by
    rw [Int.natAbs_mul, Int.natAbs_natCast]
    cases s <;> simp
  have hpos : (0 : Int) < ((2 ^ Flo.u64 : Nat) : Int) := by have := Nat.two_pow_pos Flo.u64; omega
  refine Flo.nearest_val (a := Flo.u64) (b := 0) (Flo.rep_gen (m := K) (e := Flo.u64) hna (by rw [Flo.double_binade]; omega) ?_) (by rw [Flo.least64]; omega) (by rw [hna, Nat.pow_zero, Nat.mul_one]) (fun hneg => ?_) (fun hp => ?_)
  · rw [Flo.double_inf, Flo.u64_eq]; exact Nat.mul_le_mul_right _ (by omega)
  · cases s
    · exfalso
      have : (0 : Int) ≤ (K : Int) * ((2 ^ Flo.u64 : Nat) : Int) := Int.mul_nonneg (by omega) (by omega)
      simp only [Bool.false_eq_true, if_false] at hneg
      omega
    · rfl
  · cases s
    · rfl
    · exfalso
      have : (0 : Int) ≤ (K : Int) * ((2 ^ Flo.u64 : Nat) : Int) := Int.mul_nonneg (by omega) (by omega)
      simp only [if_true, Int.neg_mul] at hp
      omega
set_option maxRecDepth 100000 in
theorem mathFloor_any (z : Nat) (v : Int) (hz : Flo.Val Ieee.double z v) (hb : v.natAbs ≤ 1048576 * 2 ^ Flo.u64) (w : World) : Calls Vp.prog 85 #[.float .f64 z] w fun e w' => (∃ (y : Nat) (B : Int), e = .returned (.float .f64 y) ∧ Flo.Val Ieee.double y (B * (2 ^ Flo.u64 : Nat))) ∧ w = w' := by
  obtain ⟨s, m, e, B, hd, hv⟩ := floor_any hz hb
  have hr : ∀ w, (callFunc 107 #[.float .f64 z]).run Vp.prog w = .ok (.value (.float .f64 (FloatKind.f64.encode ((Ieee.Datum.number s m e).integral .down)))) w := fun w => by
    rw [archFloor_run, toIntegral_num z s m e hd]
    rfl
  have HV := Lib.hid hv
  generalize FloatKind.f64.encode ((Ieee.Datum.number s m e).integral .down) = y at *
  clear hz hb hv hd
  go_enter Vp.func85, Tryz.ntmps85
  go_wp2
  go_ret
  exact ⟨⟨y, B, rfl, HV.out⟩, rfl⟩
end Go.Proofs.YtokbalggdhippaaGreat
end
