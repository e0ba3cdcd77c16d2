/- Floats: points of cells, and their steps. Plain. -/
import Derived.Test.YtdfoobemgdiobaaDoorFloW
namespace Go.Proofs.YtdfoobemgdiobaaDoor
namespace Flo
open Ieee

/-- the bits of 1 / 2 ^ d -/
def sideF (d : Nat) : Nat := (127 - d) * 8388608
theorem sideF_lt (d : Nat) : sideF d < 4294967296 := by unfold sideF; omega
/-- a float32 that is n / 2 ^ d -/
def Pt (x d : Nat) (n : Int) : Prop := Val single x (n * (2 ^ (u32 - d) : Nat))
theorem pow_split {d : Nat} (hd : d ≤ 11) : 2 ^ u32 = 2 ^ (u32 - d) * 2 ^ d := by
  rw [← Nat.pow_add]; congr 1; rw [u32_eq]; omega
theorem side_val (d : Nat) (hd : d ≤ 11) : Pt (sideF d) d 1 := by
  unfold Pt
  rw [Int.one_mul]
  rcases (by omega : d = 0 ∨ d = 1 ∨ d = 2 ∨ d = 3 ∨ d = 4 ∨ d = 5 ∨ d = 6 ∨ d = 7 ∨ d = 8 ∨ d = 9 ∨ d = 10 ∨ d = 11) with rfl | rfl | rfl | rfl | rfl | rfl | rfl | rfl | rfl | rfl | rfl | rfl
  all_goals
    refine ⟨by decide, by unfold fin; decide, ?_⟩
    unfold iv u32
    rw [if_neg (by decide)]
    congr 1
/-- of a corner: what it is in sides -/
theorem whole_pt {x d : Nat} (hx : x < 4294967296) (hd : d ≤ 11) (h : wholeB x d = true) : ∃ A : Int, Pt x d A ∧ A.natAbs ≤ 4 * 2 ^ d := by
  unfold wholeB at h
  rw [Bool.and_eq_true, decide_eq_true_eq] at h
  obtain ⟨hv, hb⟩ := inFour_val hx h.1
  have hs := pow_split hd
  have hp : (0 : Int) < (2 ^ d : Nat) := by have := Nat.two_pow_pos d; omega
  obtain ⟨A, hA⟩ := Int.dvd_of_emod_eq_zero h.2
  have hA2 : iv single x = A * (2 ^ (u32 - d) : Nat) := by
    refine Int.eq_of_mul_eq_mul_right (Int.ne_of_gt hp) ?_
    rw [hA, hs, Int.natCast_mul, Int.mul_assoc A, Int.mul_comm A]
  refine ⟨A, ?_, ?_⟩
  · unfold Pt; rw [← hA2]; exact hv
  · rw [hA2, Int.natAbs_mul, Int.natAbs_natCast, hs] at hb
    have : 4 * (2 ^ (u32 - d) * 2 ^ d) = 4 * 2 ^ d * 2 ^ (u32 - d) := by rw [Nat.mul_assoc, Nat.mul_comm (2 ^ (u32 - d))]
    rw [this] at hb
    exact Nat.le_of_mul_le_mul_right hb (Nat.two_pow_pos _)
theorem pt_rep {d : Nat} (hd : d ≤ 11) {n : Int} (hn : n.natAbs < 16777216) : Rep single (n * (2 ^ (u32 - d) : Nat)) := by
  refine rep_gen (m := n.natAbs) (e := u32 - d) (by rw [Int.natAbs_mul, Int.natAbs_natCast]) (by rw [single_binade]; omega) ?_
  rw [single_inf, u32_eq]
  exact Nat.mul_le_mul_right _ (by omega)
/-- a number of sides -/
theorem sides_pt (d : Nat) (hd : d ≤ 11) (j : Int) (hj : j.natAbs ≤ 65536) : ∃ p, floatBits .mul .f32 (floatOfInt .f32 j) (sideF d) = some p ∧ Pt p d j := by
  have hJ : Val single (floatOfInt .f32 j) (j * (2 ^ u32 : Nat)) := ofInt_val (k := .f32) least32 _ (by show _ < 2 * single.binade; rw [single_binade]; omega) (by show (u32 + 2) * single.binade ≤ single.infRung; rw [single_inf, u32_eq]; exact Nat.mul_le_mul_right _ (by omega))
  obtain ⟨p, hp, hv⟩ := mul_val (f := single) (c := j * (2 ^ (u32 - d) : Nat)) least32 hJ (side_val d hd) (by rw [Int.one_mul, Int.mul_right_comm]) (pt_rep hd (by omega))
  exact ⟨p, hp, hv⟩
/-- the sum of two numbers of sides -/
theorem sum_pt {d x y : Nat} {a b : Int} (hd : d ≤ 11) (hx : Pt x d a) (hy : Pt y d b) (h : (a + b).natAbs < 16777216) : ∃ z, floatBits .add .f32 x y = some z ∧ Pt z d (a + b) := by
  have hr := pt_rep hd h
  rw [Int.add_mul] at hr
  obtain ⟨z, hz, hv⟩ := add_val hx hy hr
  refine ⟨z, hz, ?_⟩
  unfold Pt
  rw [Int.add_mul]
  exact hv
/-- a part of a point: bits, and what they are -/
theorem point_pt {c d : Nat} {A : Int} (hd : d ≤ 11) (hc : Pt c d A) (hA : A.natAbs ≤ 65536) (j : Int) (hj : j.natAbs ≤ 65536) :
    ∃ p x, floatBits .mul .f32 (floatOfInt .f32 j) (sideF d) = some p ∧ floatBits .add .f32 c p = some x ∧ Pt x d (A + j) := by
  obtain ⟨p, hp, hv⟩ := sides_pt d hd j hj
  obtain ⟨x, hx, hv2⟩ := sum_pt hd hc hv (by omega)
  exact ⟨p, x, hp, hx, hv2⟩
theorem pt_lt {x d : Nat} {n : Int} (h : Pt x d n) : x < 4294967296 := h.lt
/-- a point in steps of 1 / 2 ^ 24 -/
theorem steps_pt {x d : Nat} {n : Int} (hd : d ≤ 11) (hx : Pt x d n) (hn : n.natAbs ≤ 65536) :
    ∃ y1 y, floatToFloatBits .f32 x .f64 = some y1 ∧ floatBits .mul .f64 y1 4715268809856909312 = some y ∧ Val double y (n * (2 ^ (24 - d) : Nat) * (2 ^ u64 : Nat)) ∧ floatToIntVal .f64 y .i64 = some (n * (2 ^ (24 - d) : Nat)) := by
  obtain ⟨y1, h1, v1⟩ := widen_val hx
  have hU : Val double 4715268809856909312 ((16777216 : Int) * (2 ^ u64 : Nat)) := by
    have := ofInt_val (k := .f64) least64 16777216 (by show _ < 2 * double.binade; rw [double_binade]; omega) (by show (u64 + 2) * double.binade ≤ double.infRung; rw [double_inf, u64_eq]; exact Nat.mul_le_mul_right _ (by omega))
    have e : floatOfInt .f64 16777216 = 4715268809856909312 := by kernel_rfl
    rw [e] at this
    exact this
  have hpd : 2 ^ (24 - d) ≤ 2 ^ 24 := Nat.pow_le_pow_right (by omega) (by omega)
  have hN : (n * (2 ^ (24 - d) : Nat)).natAbs ≤ 65536 * 16777216 := by
    rw [Int.natAbs_mul, Int.natAbs_natCast]
    exact Nat.mul_le_mul hn (by omega)
  have hrep : Rep double (n * (2 ^ (24 - d) : Nat) * (2 ^ u64 : Nat)) := by
    refine rep_gen (m := (n * (2 ^ (24 - d) : Nat)).natAbs) (e := u64) (by rw [Int.natAbs_mul, Int.natAbs_natCast]) (by rw [double_binade]; omega) ?_
    rw [double_inf, u64_eq]
    exact Nat.mul_le_mul_right _ (by omega)
  have hc : n * (2 ^ (u32 - d) : Nat) * (2 ^ wup : Nat) * ((16777216 : Int) * (2 ^ u64 : Nat)) = n * (2 ^ (24 - d) : Nat) * (2 ^ u64 : Nat) * (2 ^ u64 : Nat) := by
    have e : (2 ^ (u32 - d) * 2 ^ wup * 16777216 : Nat) = 2 ^ (24 - d) * 2 ^ u64 := by
      rw [show (16777216 : Nat) = 2 ^ 24 by decide, ← Nat.pow_add, ← Nat.pow_add, ← Nat.pow_add]
      congr 1
      rw [u32_eq, wup_eq, u64_eq]; omega
    have e2 : ((2 ^ (u32 - d) : Nat) : Int) * (2 ^ wup : Nat) * 16777216 = (2 ^ (24 - d) : Nat) * (2 ^ u64 : Nat) := by
      have := congrArg (fun x : Nat => (x : Int)) e
      simp only [Int.natCast_mul] at this
      exact this
    generalize ((2 ^ (u32 - d) : Nat) : Int) = P at *
    generalize ((2 ^ wup : Nat) : Int) = Q at *
    generalize ((2 ^ u64 : Nat) : Int) = R at *
    generalize ((2 ^ (24 - d) : Nat) : Int) = S at *
    calc n * P * Q * (16777216 * R) = n * (P * Q * 16777216) * R := by simp only [Int.mul_assoc]
      _ = n * S * R * R := by rw [e2]; simp only [Int.mul_assoc]
  obtain ⟨y, hy, v2⟩ := mul_val (f := double) (c := n * (2 ^ (24 - d) : Nat) * (2 ^ u64 : Nat)) least64 v1 hU hc hrep
  refine ⟨y1, y, h1, hy, v2, ?_⟩
  have hti := toInt_val (f := double) least64 v2
  have hp : ((2 ^ u64 : Nat) : Int) ≠ 0 := by have := Nat.two_pow_pos u64; omega
  rw [Int.mul_tdiv_cancel _ hp] at hti
  unfold floatToIntVal
  have : (FloatKind.f64.decode y).toInt .zero = some (n * (2 ^ (24 - d) : Nat)) := hti
  rw [this]
  simp only
  rw [if_pos]
  have h1 : IntKind.i64.min = -9223372036854775808 := by decide
  have h2 : IntKind.i64.max = 9223372036854775807 := by decide
  rw [h1, h2]
  omega
theorem edge_val : Val double 4728779608739020800 ((134217728 : Int) * (2 ^ u64 : Nat)) := by
  have := ofInt_val (k := .f64) least64 134217728 (by show _ < 2 * double.binade; rw [double_binade]; omega) (by show (u64 + 2) * double.binade ≤ double.infRung; rw [double_inf, u64_eq]; exact Nat.mul_le_mul_right _ (by omega))
  have e : floatOfInt .f64 134217728 = 4728779608739020800 := by kernel_rfl
  rw [e] at this
  exact this
theorem minus_edge_val : Val double 13952151645593796608 ((-134217728 : Int) * (2 ^ u64 : Nat)) := by
  have := ofInt_val (k := .f64) least64 (-134217728) (by show _ < 2 * double.binade; rw [double_binade]; omega) (by show (u64 + 2) * double.binade ≤ double.infRung; rw [double_inf, u64_eq]; exact Nat.mul_le_mul_right _ (by omega))
  have e : floatOfInt .f64 (-134217728) = 13952151645593796608 := by kernel_rfl
  rw [e] at this
  exact this
theorem mul_le_iff {a b : Int} : (a * (2 ^ u64 : Nat) ≤ b * (2 ^ u64 : Nat)) ↔ a ≤ b := by
  have hp : (0 : Int) < (2 ^ u64 : Nat) := by have := Nat.two_pow_pos u64; omega
  exact ⟨fun h => Int.le_of_mul_le_mul_right h hp, fun h => Int.mul_le_mul_of_nonneg_right h (Int.le_of_lt hp)⟩
/-- the tests of l4Steps -/
theorem steps_tests {y : Nat} {N : Int} (hN : N.natAbs ≤ 1099511627776) (hy : Val double y (N * (2 ^ u64 : Nat))) :
    (FloatKind.f64.format.order y 13952151645593796608 == some .gt || FloatKind.f64.format.order y 13952151645593796608 == some .eq) = decide (-134217728 ≤ N) ∧
    (FloatKind.f64.format.order y 4728779608739020800 == some .lt || FloatKind.f64.format.order y 4728779608739020800 == some .eq) = decide (N ≤ 134217728) ∧
    (FloatKind.f64.format.order (floatOfInt .f64 N) y == some .gt) = false ∧ (FloatKind.f64.format.order (floatOfInt .f64 N) y == some .lt) = false := by
  have hNv : Val double (floatOfInt .f64 N) (N * (2 ^ u64 : Nat)) := ofInt_val (k := .f64) least64 N (by show _ < 2 * double.binade; rw [double_binade]; omega) (by show (u64 + 2) * double.binade ≤ double.infRung; rw [double_inf, u64_eq]; exact Nat.mul_le_mul_right _ (by omega))
  have m1 := @mul_le_iff (-134217728) N
  have m2 := @mul_le_iff N 134217728
  refine ⟨?_, ?_, ?_, ?_⟩
  · rw [order_gt_val (k := .f64) hy minus_edge_val, order_eq_val (k := .f64) hy minus_edge_val, Bool.eq_iff_iff]
    simp only [Bool.or_eq_true, decide_eq_true_eq]
    rw [← m1]; omega
  · rw [order_lt_val (k := .f64) hy edge_val, order_eq_val (k := .f64) hy edge_val, Bool.eq_iff_iff]
    simp only [Bool.or_eq_true, decide_eq_true_eq]
    rw [← m2]; omega
  · rw [order_gt_val (k := .f64) hNv hy]; simp
  · rw [order_lt_val (k := .f64) hNv hy]; simp
end Flo
end Go.Proofs.YtdfoobemgdiobaaDoor
