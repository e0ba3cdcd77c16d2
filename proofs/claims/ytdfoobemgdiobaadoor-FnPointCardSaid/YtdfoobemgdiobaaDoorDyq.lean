/- Plain: floats cut into an odd number and a power. -/
import Derived.Test.YtdfoobemgdiobaaDoorDyaP
import Derived.Test.YtdfoobemgdiobaaDoorTilF
import Derived.Lib.TrailingZeros
namespace Go.Proofs.YtdfoobemgdiobaaDoor
open Flo

/-- what the cut of a float must be -/
def SplitOf (A : Int) (d : Nat) (o p : Int) : Prop := (A = 0 ∧ o = 0 ∧ p = 0) ∨ ∃ j : Nat, j ≤ 16 ∧ A = o * (2 ^ j : Nat) ∧ p = (j : Int) - d ∧ o % 2 = 1
theorem pow_cut {a n b m : Nat} (h : a * 2 ^ n = (2 * b + 1) * 2 ^ m) : ∃ j, m = n + j ∧ a = (2 * b + 1) * 2 ^ j := by
  rcases Nat.lt_or_ge m n with h1 | h1
  · obtain ⟨t, rfl⟩ : ∃ t, n = m + (t + 1) := ⟨n - m - 1, by omega⟩
    rw [Nat.pow_add, Nat.mul_comm (2 ^ m), ← Nat.mul_assoc] at h
    have := Nat.eq_of_mul_eq_mul_right (Nat.two_pow_pos m) h
    rw [Nat.pow_succ, ← Nat.mul_assoc] at this
    omega
  · obtain ⟨j, rfl⟩ : ∃ j, m = n + j := ⟨m - n, by omega⟩
    rw [Nat.pow_add, Nat.mul_comm (2 ^ n), ← Nat.mul_assoc] at h
    exact ⟨j, rfl, Nat.eq_of_mul_eq_mul_right (Nat.two_pow_pos n) h⟩
theorem pow_small {j b : Nat} (h : (2 * b + 1) * 2 ^ j ≤ 65536) : j ≤ 16 := by
  rcases Nat.lt_or_ge 16 j with h1 | h1
  · have h2 : 2 ^ 17 ≤ 2 ^ j := Nat.pow_le_pow_right (by omega) h1
    have h3 : 1 * 2 ^ j ≤ (2 * b + 1) * 2 ^ j := Nat.mul_le_mul_right _ (by omega)
    omega
  · exact h1
theorem val_sgn {z : Nat} {v : Int} (h : Val Ieee.double z v) : (v < 0 → sgn Ieee.double z = true) ∧ (0 < v → sgn Ieee.double z = false) := by
  have hiv := h.iv
  unfold iv at hiv
  constructor
  · intro hv
    cases hs : sgn Ieee.double z
    · rw [hs] at hiv
      simp only [Bool.false_eq_true, if_false] at hiv
      omega
    · rfl
  · intro hv
    cases hs : sgn Ieee.double z
    · rfl
    · rw [hs] at hiv
      simp only [if_true] at hiv
      omega
theorem split_plain {z : Nat} {A : Int} {d : Nat} (hd : d ≤ 11) (hA : A.natAbs ≤ 65536) (hz : Val Ieee.double z (A * (2 ^ (u64 - d) : Nat))) :
    (A = 0 ∧ z % 9223372036854775808 / 4503599627370496 = 0 ∧ z % 4503599627370496 = 0) ∨
    (0 < z % 9223372036854775808 / 4503599627370496 ∧ z % 9223372036854775808 / 4503599627370496 < 2047 ∧ ∃ o j : Nat, z % 4503599627370496 + 4503599627370496 = 2 ^ Lib.ctz 64 (z % 4503599627370496 + 4503599627370496) * (2 * o + 1) ∧ Lib.ctz 64 (z % 4503599627370496 + 4503599627370496) < 64 ∧
      Lib.ctz 64 (z % 4503599627370496 + 4503599627370496) + z % 9223372036854775808 / 4503599627370496 = 1075 - d + j ∧ j ≤ 16 ∧ 2 * o + 1 ≤ 65536 ∧
      ((A < 0 ∧ z / 9223372036854775808 = 1 ∧ A = -(2 * o + 1 : Int) * (2 ^ j : Nat)) ∨ (0 < A ∧ z / 9223372036854775808 = 0 ∧ A = (2 * o + 1 : Int) * (2 ^ j : Nat)))) := by
  obtain ⟨h1, h2, h3, h4⟩ := split_bits hz
  obtain ⟨s1, s2⟩ := val_sgn hz
  have hm : z % 4503599627370496 < 4503599627370496 := Nat.mod_lt _ (by omega)
  generalize z % 9223372036854775808 / 4503599627370496 = e at *
  generalize z % 4503599627370496 = m at *
  generalize z / 9223372036854775808 = s at *
  have hP : 0 < 2 ^ (u64 - d) := Nat.two_pow_pos _
  have hP52 : 2 ^ 52 ≤ 2 ^ (u64 - d) := Nat.pow_le_pow_right (by omega) (by rw [u64_eq]; omega)
  rw [Int.natAbs_mul, Int.natAbs_natCast] at h2
  by_cases hA0 : A = 0
  · left
    subst hA0
    have : 0 < 2 ^ (e - 1) := Nat.two_pow_pos _
    simp only [Int.natAbs_zero, Nat.zero_mul] at h2
    have h5 := (Nat.mul_eq_zero.1 h2.symm).resolve_right (by omega)
    split at h5
    · exact ⟨rfl, ‹_›, h5⟩
    · omega
  · right
    have he : e ≠ 0 := by
      rintro rfl
      rw [if_pos rfl] at h2
      simp only [Nat.zero_sub, Nat.pow_zero, Nat.mul_one] at h2
      have : 1 * 2 ^ (u64 - d) ≤ A.natAbs * 2 ^ (u64 - d) := Nat.mul_le_mul_right _ (by omega)
      omega
    rw [if_neg he] at h2
    obtain ⟨o, ho, hk⟩ := Lib.ctzFrom_spec 64 (m + 4503599627370496) (by omega) (by omega)
    have hc : Lib.ctz 64 (m + 4503599627370496) = Lib.ctzFrom 64 (m + 4503599627370496) := by unfold Lib.ctz; rw [if_neg (by omega)]
    rw [← hc] at ho hk
    generalize Lib.ctz 64 (m + 4503599627370496) = k at *
    have h6 : A.natAbs * 2 ^ (u64 - d) = (2 * o + 1) * 2 ^ (k + (e - 1)) := by
      rw [h2, ho, Nat.pow_add, Nat.mul_comm (2 ^ k), Nat.mul_assoc]
    obtain ⟨j, hj, ha⟩ := pow_cut h6
    have hj16 : j ≤ 16 := pow_small (b := o) (by omega)
    have ho2 : 2 * o + 1 ≤ 65536 := by
      have : (2 * o + 1) * 1 ≤ (2 * o + 1) * 2 ^ j := Nat.mul_le_mul_left _ (Nat.two_pow_pos j)
      omega
    refine ⟨by omega, h4, o, j, ho, hk, by rw [u64_eq] at hj; omega, hj16, ho2, ?_⟩
    have hpos : (0 : Int) < (2 ^ (u64 - d) : Nat) := Int.ofNat_lt.2 hP
    have ha2 : (A.natAbs : Int) = (2 * o + 1 : Int) * (2 ^ j : Nat) := by rw [ha]; simp
    rcases Int.lt_or_lt_of_ne hA0 with h | h
    · left
      rw [s1 (Int.mul_neg_of_neg_of_pos h hpos)] at h3
      refine ⟨h, h3, ?_⟩
      rw [Int.neg_mul, ← ha2]
      omega
    · right
      rw [s2 (Int.mul_pos h hpos)] at h3
      refine ⟨h, h3, ?_⟩
      rw [← ha2]
      omega
theorem u64_and_mask (a m : Nat) (ha : a < 18446744073709551616) (hm : m ≤ 63) : bits .and .u64 (a : Int) ((2 ^ m - 1 : Nat) : Int) = ((a % 2 ^ m : Nat) : Int) := by
  have hp : 2 ^ m ≤ 2 ^ 63 := Nat.pow_le_pow_right (by omega) hm
  have hp0 : 0 < 2 ^ m := Nat.two_pow_pos m
  have hlt : a % 2 ^ m < 2 ^ m := Nat.mod_lt _ hp0
  show IntKind.u64.wrap ((BitVec.ofInt 64 a &&& BitVec.ofInt 64 ((2 ^ m - 1 : Nat) : Int)).toNat : Int) = _
  rw [BitVec.toNat_and, BitVec.toNat_ofInt, BitVec.toNat_ofInt]
  rw [show ((a : Int) % (2 ^ 64 : Nat)).toNat = a by omega, show (((2 ^ m - 1 : Nat) : Int) % (2 ^ 64 : Nat)).toNat = 2 ^ m - 1 by omega, Nat.and_two_pow_sub_one_eq_mod]
  generalize a % 2 ^ m = r at *
  simp [IntKind.wrap, IntKind.bits, IntKind.signed]
  omega
theorem i64_and_mask (a m : Nat) (ha : a < 9223372036854775808) (hm : m ≤ 62) : bits .and .i64 (a : Int) ((2 ^ m - 1 : Nat) : Int) = ((a % 2 ^ m : Nat) : Int) := by
  have hp : 2 ^ m ≤ 2 ^ 62 := Nat.pow_le_pow_right (by omega) hm
  have hp0 : 0 < 2 ^ m := Nat.two_pow_pos m
  have hlt : a % 2 ^ m < 2 ^ m := Nat.mod_lt _ hp0
  show IntKind.i64.wrap ((BitVec.ofInt 64 a &&& BitVec.ofInt 64 ((2 ^ m - 1 : Nat) : Int)).toNat : Int) = _
  rw [BitVec.toNat_and, BitVec.toNat_ofInt, BitVec.toNat_ofInt]
  rw [show ((a : Int) % (2 ^ 64 : Nat)).toNat = a by omega, show (((2 ^ m - 1 : Nat) : Int) % (2 ^ 64 : Nat)).toNat = 2 ^ m - 1 by omega, Nat.and_two_pow_sub_one_eq_mod]
  generalize a % 2 ^ m = r at *
  simp [IntKind.wrap, IntKind.bits, IntKind.signed]
  omega
theorem u64_or_top (a m : Nat) (ha : a < 2 ^ m) (hm : m ≤ 62) : bits .or .u64 (a : Int) ((2 ^ m : Nat) : Int) = ((a + 2 ^ m : Nat) : Int) := by
  have hp : 2 ^ m ≤ 2 ^ 62 := Nat.pow_le_pow_right (by omega) hm
  show IntKind.u64.wrap ((BitVec.ofInt 64 a ||| BitVec.ofInt 64 ((2 ^ m : Nat) : Int)).toNat : Int) = _
  rw [BitVec.toNat_or, BitVec.toNat_ofInt, BitVec.toNat_ofInt]
  rw [show ((a : Int) % (2 ^ 64 : Nat)).toNat = a by omega, show (((2 ^ m : Nat) : Int) % (2 ^ 64 : Nat)).toNat = 2 ^ m by omega]
  have e := Nat.two_pow_add_eq_or_of_lt ha 1
  rw [Nat.mul_one] at e
  rw [Nat.or_comm, ← e]
  generalize 2 ^ m = P at *
  simp [IntKind.wrap, IntKind.bits, IntKind.signed]
  omega
end Go.Proofs.YtdfoobemgdiobaaDoor
