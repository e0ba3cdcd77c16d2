/- Floats: the bits of whole numbers. Plain. -/
import Derived.Test.YtdfoobemgdiobaaDoorFloP
import Derived.Laws.BitsAllLaws
namespace Go.Proofs.YtdfoobemgdiobaaDoor
namespace Flo
open Ieee

theorem and_keep (a m : Nat) (ha : a < 2 ^ 64) (h : a % 2 ^ m = 0) (hm : m ≤ 64) : a &&& (2 ^ 64 - 1 - (2 ^ m - 1)) = a := by
  have hle : 2 ^ m ≤ 2 ^ 64 := Nat.pow_le_pow_right (by omega) hm
  have hp := Nat.two_pow_pos m
  rw [show 2 ^ 64 - 1 - (2 ^ m - 1) = 2 ^ 64 - ((2 ^ m - 1) + 1) by omega]
  apply Nat.eq_of_testBit_eq
  intro i
  rw [Nat.testBit_and, Nat.testBit_two_pow_sub_succ (by omega), Nat.testBit_two_pow_sub_one]
  by_cases h1 : i < m
  · have : (a % 2 ^ m).testBit i = (decide (i < m) && a.testBit i) := Nat.testBit_mod_two_pow _ _ _
    rw [h, Nat.zero_testBit, decide_eq_true h1, Bool.true_and] at this
    rw [← this, Bool.false_and]
  · by_cases h2 : i < 64
    · simp [h1, h2]
    · have : a.testBit i = false := Nat.testBit_lt_two_pow (Nat.lt_of_lt_of_le ha (Nat.pow_le_pow_right (by omega) (by omega)))
      rw [this, Bool.false_and]
theorem andNot_low (z m : Nat) (hz : z < 18446744073709551616) (h : z % 2 ^ m = 0) (hm : m ≤ 60) : bits .andNot .u64 (z : Int) ((2 ^ m - 1 : Nat) : Int) = z := by
  have hle : 2 ^ m ≤ 2 ^ 60 := Nat.pow_le_pow_right (by omega) hm
  rw [u64_andNot_nat z (2 ^ m - 1) hz (by omega)]
  have := and_keep z m (by omega) h (by omega)
  rw [show (18446744073709551615 : Nat) = 2 ^ 64 - 1 by decide, this]
theorem andNot_sign (z : Nat) (hz : z < 18446744073709551616) : bits .andNot .u64 (z : Int) 9223372036854775808 = ((z % 9223372036854775808 : Nat) : Int) := by
  have h := u64_andNot_nat z 9223372036854775808 hz (by omega)
  rw [show (18446744073709551615 - 9223372036854775808 : Nat) = 2 ^ 63 - 1 by decide, Nat.and_two_pow_sub_one_eq_mod] at h
  exact h
theorem one_val : Val double 4607182418800017408 ((1 : Int) * (2 ^ u64 : Nat)) := by
  have := ofInt_val (k := .f64) least64 1 (by show _ < 2 * double.binade; rw [double_binade]; omega) (by show (u64 + 2) * double.binade ≤ double.infRung; rw [double_inf, u64_eq]; exact Nat.mul_le_mul_right _ (by omega))
  have e : floatOfInt .f64 1 = 4607182418800017408 := by kernel_rfl
  rw [e] at this
  exact this
theorem zero_val : Val double 0 ((0 : Int) * (2 ^ u64 : Nat)) := by
  have := ofInt_val (k := .f64) least64 0 (by show _ < 2 * double.binade; rw [double_binade]; omega) (by show (u64 + 2) * double.binade ≤ double.infRung; rw [double_inf, u64_eq]; exact Nat.mul_le_mul_right _ (by omega))
  have e : floatOfInt .f64 0 = 0 := by kernel_rfl
  rw [e] at this
  exact this
/-- the greatest float64 -/
def e45 : Nat := 2045
theorem e45_eq : e45 = 2045 := rfl
def maxU : Nat := (2 ^ 53 - 1) * 2 ^ e45
theorem max_rv : rv double (rung double 9218868437227405311) = maxU := by kernel_rfl
theorem max_val : Val double 9218868437227405311 (maxU : Int) := by
  refine ⟨by decide, by unfold fin; decide, ?_⟩
  unfold iv
  rw [if_neg (by decide), max_rv]
theorem max_ge : 8192 * 2 ^ u64 ≤ maxU := by
  unfold maxU
  calc 8192 * 2 ^ u64 ≤ (2 ^ 53 - 1) * 2 ^ u64 := Nat.mul_le_mul_right _ (by decide)
    _ ≤ (2 ^ 53 - 1) * 2 ^ e45 := Nat.mul_le_mul_left _ (Nat.pow_le_pow_right (by omega) (by rw [u64_eq, e45_eq]; omega))
theorem mul_lt_iff {a b : Int} : (a * (2 ^ u64 : Nat) < b * (2 ^ u64 : Nat)) ↔ a < b := by
  have hp : (0 : Int) < (2 ^ u64 : Nat) := by have := Nat.two_pow_pos u64; omega
  exact ⟨fun h => Int.lt_of_mul_lt_mul_right h (Int.le_of_lt hp), fun h => Int.mul_lt_mul_of_pos_right h hp⟩
theorem mul_eq_iff {a b : Int} : (a * (2 ^ u64 : Nat) = b * (2 ^ u64 : Nat)) ↔ a = b := by
  have hp : ((2 ^ u64 : Nat) : Int) ≠ 0 := by have := Nat.two_pow_pos u64; omega
  exact ⟨fun h => Int.eq_of_mul_eq_mul_right hp h, fun h => by rw [h]⟩
/-- the sign of a word is that of its number -/
theorem val_pos {f : Format} {x : Nat} {v : Int} (h : Val f x v) (hv : 0 < v) : x = rung f x ∧ sgn f x = false := by
  have hiv := h.iv
  unfold iv at hiv
  cases hs : sgn f x with
  | true => rw [hs] at hiv; simp at hiv; omega
  | false =>
    refine ⟨?_, rfl⟩
    have hp := signWeight_pos f
    unfold sgn at hs
    have hl : x < 2 * f.signWeight := by
      have := h.lt
      unfold Format.width at this
      unfold Format.signWeight
      rw [Nat.add_assoc, Nat.pow_add] at this
      exact this
    have hq : x / f.signWeight < 2 := (Nat.div_lt_iff_lt_mul hp).2 hl
    have h0 : x / f.signWeight = 0 := by
      generalize x / f.signWeight = q at *
      rcases (by omega : q = 0 ∨ q = 1) with h | h
      · exact h
      · rw [h] at hs; simp at hs
    unfold rung
    exact (Nat.mod_eq_of_lt ((Nat.div_eq_zero_iff_lt hp).1 h0)).symm
/-- the bits of a small positive whole number -/
theorem whole_bits {z : Nat} {A : Int} (h1 : 1 ≤ A) (h2 : A ≤ 8192) (hz : Val double z (A * (2 ^ u64 : Nat))) : ∃ k, k ≤ 13 ∧ z < 9223372036854775808 ∧ z / 4503599627370496 = k + 1023 ∧ z % 2 ^ (52 - k) = 0 := by
  obtain ⟨a, rfl⟩ := Int.eq_ofNat_of_zero_le (show 0 ≤ A by omega)
  have hU := Nat.two_pow_pos u64
  have hpos : (0 : Int) < (a : Int) * (2 ^ u64 : Nat) := Int.mul_pos (by omega) (by omega)
  obtain ⟨hr, hs⟩ := val_pos hz hpos
  have hdg := val_digits hz
  rw [Int.natAbs_mul, Int.natAbs_natCast, Int.natAbs_natCast] at hdg
  have hm := rm_lt double (rung double z)
  have heq := rung_eq double (rung double z)
  rw [← hr] at hdg hm heq
  have hge := rm_ge double z
  rw [double_binade] at hm heq hge
  have hzb := hz.fin
  unfold fin at hzb
  rw [← hr, double_inf, double_binade] at hzb
  generalize re double z = e at *
  generalize rm double z = m at *
  have he1 : 1022 ≤ e := by
    rcases Nat.lt_or_ge e 1022 with h | h
    · exfalso
      have h3 : m * 2 ^ e < 9007199254740992 * 2 ^ e := Nat.mul_lt_mul_of_pos_right (by omega) (Nat.two_pow_pos _)
      have h4 : 9007199254740992 * 2 ^ e ≤ 2 ^ u64 := by
        rw [show (9007199254740992 : Nat) = 2 ^ 53 by decide, ← Nat.pow_add]
        exact Nat.pow_le_pow_right (by omega) (by rw [u64_eq]; omega)
      have h5 : 1 * 2 ^ u64 ≤ a * 2 ^ u64 := Nat.mul_le_mul_right _ (by omega)
      rw [hdg] at h5
      generalize m * 2 ^ e = X at *
      generalize 9007199254740992 * 2 ^ e = Y at *
      generalize 2 ^ u64 = U at *
      omega
    · exact h
  have he2 : e ≤ 1035 := by
    rcases Nat.lt_or_ge 1035 e with h | h
    · exfalso
      have h3 : 4503599627370496 * 2 ^ (u64 - 38) ≤ m * 2 ^ e := Nat.mul_le_mul (hge (by omega)) (Nat.pow_le_pow_right (by omega) (by rw [u64_eq]; omega))
      have h4 : a * 2 ^ u64 ≤ 8192 * 2 ^ u64 := Nat.mul_le_mul_right _ (by omega)
      have h5 : 4503599627370496 * 2 ^ (u64 - 38) = 2 * (8192 * 2 ^ u64) := by
        rw [show (4503599627370496 : Nat) = 2 ^ 52 by decide, show (8192 : Nat) = 2 ^ 13 by decide, ← Nat.pow_add, ← Nat.pow_add, ← Nat.pow_succ']
        congr 1
      rw [h5, ← hdg] at h3
      generalize a * 2 ^ u64 = X at *
      generalize 2 ^ u64 = U at *
      omega
    · exact h
  have hge' := hge (by omega)
  obtain ⟨k, hk⟩ : ∃ k, e = 1022 + k := ⟨e - 1022, by omega⟩
  subst hk
  have hma : m = a * 2 ^ (52 - k) := by
    have : m * 2 ^ (1022 + k) = a * 2 ^ (52 - k) * 2 ^ (1022 + k) := by
      rw [← hdg, Nat.mul_assoc, ← Nat.pow_add, show 52 - k + (1022 + k) = u64 by rw [u64_eq]; omega]
    exact Nat.eq_of_mul_eq_mul_right (Nat.two_pow_pos _) this
  refine ⟨k, by omega, by omega, by omega, ?_⟩
  rw [heq, hma]
  have h52 : 4503599627370496 = 2 ^ k * 2 ^ (52 - k) := by
    rw [← Nat.pow_add, show k + (52 - k) = 52 by omega]
  rw [h52, ← Nat.mul_assoc, ← Nat.add_mul]
  exact Nat.mul_mod_left _ _
end Flo
end Go.Proofs.YtdfoobemgdiobaaDoor
