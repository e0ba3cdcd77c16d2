/- Merged texts: FloV, FloN, DyaP, TzB, TilF, Dya. -/
import Derived.Test.YtidbdokoonikpaaGreatDoorJ2
import Derived.Laws.BitsAllLaws
import Derived.Test.YtidbdokoonikpaaGreatDoorRows
import Derived.Test.YtidbdokoonikpaaGreatDoorJ1
import Derived.Laws.Bits64b
import Derived.Lib.TrailingZeros
import Derived.Shelf.Spec.TrailingZeros
import Derived.Test.YtidbdokoonikpaaGreatDoorJ3
import Derived.Outline
import Derived.Deep.Cut
section
/- Floats: the bits of whole numbers. Plain. -/
namespace Go.Proofs.YtidbdokoonikpaaGreatDoor
namespace Flo
open Ieee

theorem and_keep (a m : Nat) (ha : a < 2 ^ 64) (h : a % 2 ^ m = 0) (hm : m ≤ 64) : a &&& (2 ^ 64 - 1 - (2 ^ m - 1)) = a := by
  have hle : 2 ^ m ≤ 2 ^ 64 := Nat.pow_le_pow_right (by omega) hm
  have hp := Nat.two_pow_pos m
  rw [show 2 ^ 64 - 1 - (2 ^ m - 1) = 2 ^ 64 - ((2 ^ m - 1) + 1) by omega]
  apply Nat.eq_of_testBit_eq
  intro i
  rw [Nat.testBit_and, Nat.testBit_two_pow_sub_succ (by omega), Nat.testBit_two_pow_sub_one]
  by_cases h1 : i < m
  · have : (a % 2 ^ m).testBit i = (decide (i < m) && a.testBit i) := Nat.testBit_mod_two_pow _ _ _
    rw [h, Nat.zero_testBit, decide_eq_true h1, Bool.true_and] at this
    rw [← this, Bool.false_and]
  · by_cases h2 : i < 64
    · simp [h1, h2]
    · have : a.testBit i = false := Nat.testBit_lt_two_pow (Nat.lt_of_lt_of_le ha (Nat.pow_le_pow_right (by omega) (by omega)))
      rw [this, Bool.false_and]
theorem andNot_low (z m : Nat) (hz : z < 18446744073709551616) (h : z % 2 ^ m = 0) (hm : m ≤ 60) : bits .andNot .u64 (z : Int) ((2 ^ m - 1 : Nat) : Int) = z := by
  have hle : 2 ^ m ≤ 2 ^ 60 := Nat.pow_le_pow_right (by omega) hm
  rw [u64_andNot_nat z (2 ^ m - 1) hz (by omega)]
  have := and_keep z m (by omega) h (by omega)
  rw [show (18446744073709551615 : Nat) = 2 ^ 64 - 1 by decide, this]
theorem andNot_sign (z : Nat) (hz : z < 18446744073709551616) : bits .andNot .u64 (z : Int) 9223372036854775808 = ((z % 9223372036854775808 : Nat) : Int) := by
  have h := u64_andNot_nat z 9223372036854775808 hz (by omega)
  rw [show (18446744073709551615 - 9223372036854775808 : Nat) = 2 ^ 63 - 1 by decide, Nat.and_two_pow_sub_one_eq_mod] at h
  exact h
theorem one_val : Val double 4607182418800017408 ((1 : Int) * (2 ^ u64 : Nat)) := by
  have := ofInt_val (k := .f64) least64 1 (by show _ < 2 * double.binade; rw [double_binade]; omega) (by show (u64 + 2) * double.binade ≤ double.infRung; rw [double_inf, u64_eq]; exact Nat.mul_le_mul_right _ (by omega))
  have e : floatOfInt .f64 1 = 4607182418800017408 := by kernel_rfl
  rw [e] at this
  exact this
theorem zero_val : Val double 0 ((0 : Int) * (2 ^ u64 : Nat)) := by
  have := ofInt_val (k := .f64) least64 0 (by show _ < 2 * double.binade; rw [double_binade]; omega) (by show (u64 + 2) * double.binade ≤ double.infRung; rw [double_inf, u64_eq]; exact Nat.mul_le_mul_right _ (by omega))
  have e : floatOfInt .f64 0 = 0 := by kernel_rfl
  rw [e] at this
  exact this
/-- the greatest float64 -/
def e45 : Nat := 2045
theorem e45_eq : e45 = 2045 := rfl
def maxU : Nat := (2 ^ 53 - 1) * 2 ^ e45
theorem max_rv : rv double (rung double 9218868437227405311) = maxU := by kernel_rfl
theorem max_val : Val double 9218868437227405311 (maxU : Int) := by
  refine ⟨by decide, by unfold fin; decide, ?_⟩
  unfold iv
  rw [if_neg (by decide), max_rv]
theorem max_ge : 8192 * 2 ^ u64 ≤ maxU := by
  unfold maxU
  calc 8192 * 2 ^ u64 ≤ (2 ^ 53 - 1) * 2 ^ u64 := Nat.mul_le_mul_right _ (by decide)
    _ ≤ (2 ^ 53 - 1) * 2 ^ e45 := Nat.mul_le_mul_left _ (Nat.pow_le_pow_right (by omega) (by rw [u64_eq, e45_eq]; omega))
theorem mul_lt_iff {a b : Int} : (a * (2 ^ u64 : Nat) < b * (2 ^ u64 : Nat)) ↔ a < b := by
  have hp : (0 : Int) < (2 ^ u64 : Nat) := by have := Nat.two_pow_pos u64; omega
  exact ⟨fun h => Int.lt_of_mul_lt_mul_right h (Int.le_of_lt hp), fun h => Int.mul_lt_mul_of_pos_right h hp⟩
theorem mul_eq_iff {a b : Int} : (a * (2 ^ u64 : Nat) = b * (2 ^ u64 : Nat)) ↔ a = b := by
  have hp : ((2 ^ u64 : Nat) : Int) ≠ 0 := by have := Nat.two_pow_pos u64; omega
  exact ⟨fun h => Int.eq_of_mul_eq_mul_right hp h, fun h => by rw [h]⟩
/-- the sign of a word is that of its number -/
theorem val_pos {f : Format} {x : Nat} {v : Int} (h : Val f x v) (hv : 0 < v) : x = rung f x ∧ sgn f x = false := by
  have hiv := h.iv
  unfold iv at hiv
  cases hs : sgn f x with
  | true => rw [hs] at hiv; simp at hiv; omega
  | false =>
    refine ⟨?_, rfl⟩
    have hp := signWeight_pos f
    unfold sgn at hs
    have hl : x < 2 * f.signWeight := by
      have := h.lt
      unfold Format.width at this
      unfold Format.signWeight
      rw [Nat.add_assoc, Nat.pow_add] at this
      exact this
    have hq : x / f.signWeight < 2 := (Nat.div_lt_iff_lt_mul hp).2 hl
    have h0 : x / f.signWeight = 0 := by
      generalize x / f.signWeight = q at *
      rcases (by omega : q = 0 ∨ q = 1) with h | h
      · exact h
      · rw [h] at hs; simp at hs
    unfold rung
    exact (Nat.mod_eq_of_lt ((Nat.div_eq_zero_iff_lt hp).1 h0)).symm
/-- the bits of a small positive whole number -/
theorem whole_bits {z : Nat} {A : Int} (h1 : 1 ≤ A) (h2 : A ≤ 8192) (hz : Val double z (A * (2 ^ u64 : Nat))) : ∃ k, k ≤ 13 ∧ z < 9223372036854775808 ∧ z / 4503599627370496 = k + 1023 ∧ z % 2 ^ (52 - k) = 0 := by
  obtain ⟨a, rfl⟩ := Int.eq_ofNat_of_zero_le (show 0 ≤ A by omega)
  have hU := Nat.two_pow_pos u64
  have hpos : (0 : Int) < (a : Int) * (2 ^ u64 : Nat) := Int.mul_pos (by omega) (by omega)
  obtain ⟨hr, hs⟩ := val_pos hz hpos
  have hdg := val_digits hz
  rw [Int.natAbs_mul, Int.natAbs_natCast, Int.natAbs_natCast] at hdg
  have hm := rm_lt double (rung double z)
  have heq := rung_eq double (rung double z)
  rw [← hr] at hdg hm heq
  have hge := rm_ge double z
  rw [double_binade] at hm heq hge
  have hzb := hz.fin
  unfold fin at hzb
  rw [← hr, double_inf, double_binade] at hzb
  generalize re double z = e at *
  generalize rm double z = m at *
  have he1 : 1022 ≤ e := by
    rcases Nat.lt_or_ge e 1022 with h | h
    · exfalso
      have h3 : m * 2 ^ e < 9007199254740992 * 2 ^ e := Nat.mul_lt_mul_of_pos_right (by omega) (Nat.two_pow_pos _)
      have h4 : 9007199254740992 * 2 ^ e ≤ 2 ^ u64 := by
        rw [show (9007199254740992 : Nat) = 2 ^ 53 by decide, ← Nat.pow_add]
        exact Nat.pow_le_pow_right (by omega) (by rw [u64_eq]; omega)
      have h5 : 1 * 2 ^ u64 ≤ a * 2 ^ u64 := Nat.mul_le_mul_right _ (by omega)
      rw [hdg] at h5
      generalize m * 2 ^ e = X at *
      generalize 9007199254740992 * 2 ^ e = Y at *
      generalize 2 ^ u64 = U at *
      omega
    · exact h
  have he2 : e ≤ 1035 := by
    rcases Nat.lt_or_ge 1035 e with h | h
    · exfalso
      have h3 : 4503599627370496 * 2 ^ (u64 - 38) ≤ m * 2 ^ e := Nat.mul_le_mul (hge (by omega)) (Nat.pow_le_pow_right (by omega) (by rw [u64_eq]; omega))
      have h4 : a * 2 ^ u64 ≤ 8192 * 2 ^ u64 := Nat.mul_le_mul_right _ (by omega)
      have h5 : 4503599627370496 * 2 ^ (u64 - 38) = 2 * (8192 * 2 ^ u64) := by
        rw [show (4503599627370496 : Nat) = 2 ^ 52 by decide, show (8192 : Nat) = 2 ^ 13 by decide, ← Nat.pow_add, ← Nat.pow_add, ← Nat.pow_succ']
        congr 1
      rw [h5, ← hdg] at h3
      generalize a * 2 ^ u64 = X at *
      generalize 2 ^ u64 = U at *
      omega
    · exact h
  have hge' := hge (by omega)
  obtain ⟨k, hk⟩ : ∃ k, e = 1022 + k := ⟨e - 1022, by omega⟩
  subst hk
  have hma : m = a * 2 ^ (52 - k) := by
    have : m * 2 ^ (1022 + k) = a * 2 ^ (52 - k) * 2 ^ (1022 + k) := by
      rw [← hdg, Nat.mul_assoc, ← Nat.pow_add, show 52 - k + (1022 + k) = u64 by rw [u64_eq]; omega]
    exact Nat.eq_of_mul_eq_mul_right (Nat.two_pow_pos _) this
  refine ⟨k, by omega, by omega, by omega, ?_⟩
  rw [heq, hma]
  have h52 : 4503599627370496 = 2 ^ k * 2 ^ (52 - k) := by
    rw [← Nat.pow_add, show k + (52 - k) = 52 by omega]
  rw [h52, ← Nat.mul_assoc, ← Nat.add_mul]
  exact Nat.mul_mod_left _ _
end Flo
end Go.Proofs.YtidbdokoonikpaaGreatDoor
end

section
/- Floats: negatives and sizes. Plain. -/
namespace Go.Proofs.YtidbdokoonikpaaGreatDoor
namespace Flo
open Ieee

theorem xor_top (a n : Nat) (h : a < 2 ^ n) : a ^^^ 2 ^ n = 2 ^ n + a := by
  apply Nat.eq_of_testBit_eq
  intro i
  rw [Nat.testBit_xor, Nat.testBit_two_pow]
  rcases Nat.lt_trichotomy i n with h1 | h1 | h1
  · rw [Nat.testBit_two_pow_add_gt h1]
    have : decide (n = i) = false := by simp; omega
    rw [this, Bool.xor_false]
  · subst h1
    rw [Nat.testBit_two_pow_add_eq]
    simp
  · have h2 : 2 ^ n + a < 2 ^ i := by
      have : 2 ^ (n + 1) ≤ 2 ^ i := Nat.pow_le_pow_right (by omega) h1
      rw [Nat.pow_succ] at this
      omega
    have h3 : a < 2 ^ i := by omega
    rw [Nat.testBit_lt_two_pow h2, Nat.testBit_lt_two_pow h3]
    have : decide (n = i) = false := by simp; omega
    rw [this]; rfl
theorem width_eq (f : Format) : 2 ^ f.width = 2 * f.signWeight := by
  unfold Format.width Format.signWeight
  rw [Nat.add_assoc, Nat.pow_add]
theorem negFloat_eq (k : FloatKind) (x : Nat) (h : x < 2 ^ k.format.width) : Op.negFloat k x = if x < k.format.signWeight then k.format.signWeight + x else x - k.format.signWeight := by
  rw [width_eq] at h
  unfold Op.negFloat
  have hs : 2 ^ (k.format.exponentBits + k.format.fractionBits) = k.format.signWeight := rfl
  split
  · rename_i hl
    exact xor_top x _ hl
  · rename_i hl
    obtain ⟨y, rfl⟩ : ∃ y, x = k.format.signWeight + y := ⟨x - k.format.signWeight, by omega⟩
    rw [hs]
    have hy : y < k.format.signWeight := by omega
    have := xor_top y (k.format.exponentBits + k.format.fractionBits) hy
    rw [hs] at this
    rw [← this, Nat.xor_assoc, Nat.xor_self, Nat.xor_zero, this]
    omega
theorem neg_neg (k : FloatKind) (x : Nat) : Op.negFloat k (Op.negFloat k x) = x := by
  unfold Op.negFloat
  rw [Nat.xor_assoc, Nat.xor_self, Nat.xor_zero]
theorem rung_flip (f : Format) (x : Nat) (h : x < f.signWeight) : rung f x = x ∧ sgn f x = false ∧ rung f (f.signWeight + x) = x ∧ sgn f (f.signWeight + x) = true := by
  have hp := signWeight_pos f
  unfold rung sgn
  rw [Nat.mod_eq_of_lt h, Nat.div_eq_of_lt h, Nat.add_mod_left, Nat.mod_eq_of_lt h, Nat.add_div_left _ hp, Nat.div_eq_of_lt h]
  exact ⟨rfl, rfl, rfl, rfl⟩
theorem neg_val {k : FloatKind} {x : Nat} {v : Int} (h : Val k.format x v) : Val k.format (Op.negFloat k x) (-v) := by
  have hl := h.lt
  rw [width_eq] at hl
  refine ⟨?_, ?_, ?_⟩
  · exact neg_lt k x h.lt
  · have hf := h.fin
    rw [negFloat_eq k x h.lt]
    unfold fin at hf ⊢
    split
    · rename_i h1
      rw [(rung_flip k.format x h1).2.2.1]
      rw [(rung_flip k.format x h1).1] at hf; exact hf
    · rename_i h1
      obtain ⟨y, rfl⟩ : ∃ y, x = k.format.signWeight + y := ⟨x - k.format.signWeight, by omega⟩
      have hy := rung_flip k.format y (by omega)
      rw [hy.2.2.1] at hf
      rw [Nat.add_sub_cancel_left, hy.1]; exact hf
  · have hiv := h.iv
    rw [negFloat_eq k x h.lt]
    unfold iv at hiv ⊢
    split
    · rename_i h1
      have hx := rung_flip k.format x h1
      rw [hx.2.1, hx.1] at hiv
      rw [hx.2.2.1, hx.2.2.2]
      simp at hiv ⊢; omega
    · rename_i h1
      obtain ⟨y, rfl⟩ : ∃ y, x = k.format.signWeight + y := ⟨x - k.format.signWeight, by omega⟩
      have hy := rung_flip k.format y (by omega)
      rw [hy.2.2.1, hy.2.2.2] at hiv
      rw [Nat.add_sub_cancel_left, hy.1, hy.2.1]
      simp at hiv ⊢; omega
theorem abs_val {f : Format} {x : Nat} {v : Int} (h : Val f x v) : Val f (x % f.signWeight) (v.natAbs : Int) := by
  have hp := signWeight_pos f
  have hlt := Nat.mod_lt x hp
  have hx := rung_flip f (x % f.signWeight) hlt
  refine ⟨?_, ?_, ?_⟩
  · rw [width_eq]; omega
  · unfold fin; rw [hx.1]; exact h.fin
  · have hiv := h.iv
    unfold iv at hiv ⊢
    rw [hx.1, hx.2.1]
    show (rv f (x % f.signWeight) : Int) = _
    rw [← hiv]
    show (rv f (rung f x) : Int) = _
    split <;> simp
theorem signWeight64 : double.signWeight = 9223372036854775808 := by decide
/-- not beyond the greatest float -/
theorem not_inf {z : Nat} {A : Int} (hA : A.natAbs ≤ 8192) (hz : Val double z (A * (2 ^ u64 : Nat))) : (FloatKind.f64.format.order (z % 9223372036854775808) 9218868437227405311 == some .gt) = false := by
  have h := abs_val hz
  rw [signWeight64] at h
  rw [order_gt_val (k := .f64) h max_val]
  rw [Int.natAbs_mul, Int.natAbs_natCast]
  have h2 : A.natAbs * 2 ^ u64 ≤ 8192 * 2 ^ u64 := Nat.mul_le_mul_right _ hA
  have h3 := max_ge
  have h4 : A.natAbs * 2 ^ u64 ≤ maxU := Nat.le_trans h2 h3
  simp only [decide_eq_false_iff_not]
  exact Int.not_lt.2 (Int.ofNat_le.2 h4)
end Flo
end Go.Proofs.YtidbdokoonikpaaGreatDoor
end

section
/- Plain: exact numbers in lowest terms. -/
namespace Go.Proofs.YtidbdokoonikpaaGreatDoor

/-- lowest terms -/
def lowT (X Y : Int) : Nat → Int × Int × Nat
  | 0 => (X, Y, 0)
  | d + 1 => if X % 2 = 0 ∧ Y % 2 = 0 then lowT (X / 2) (Y / 2) d else (X, Y, d + 1)
theorem lowT_up (X Y : Int) (d t : Nat) : lowT (X * (2 ^ t : Nat)) (Y * (2 ^ t : Nat)) (d + t) = lowT X Y d := by
  induction t with
  | zero => simp
  | succ t ih =>
    have e : ∀ Z : Int, Z * ((2 ^ (t + 1) : Nat) : Int) = 2 * (Z * ((2 ^ t : Nat) : Int)) := fun Z => by
      rw [Nat.pow_succ, Int.natCast_mul, ← Int.mul_assoc, Int.mul_comm]; rfl
    rw [e, e, ← Nat.add_assoc]
    show (if _ ∧ _ then _ else _) = _
    rw [if_pos ⟨by omega, by omega⟩, show 2 * (X * ((2 ^ t : Nat) : Int)) / 2 = X * ((2 ^ t : Nat) : Int) by omega, show 2 * (Y * ((2 ^ t : Nat) : Int)) / 2 = Y * ((2 ^ t : Nat) : Int) by omega]
    exact ih
structure LowIs (X Y : Int) (d : Nat) (r : Int × Int × Nat) : Prop where
  le : r.2.2 ≤ d
  re : r.1 * (2 ^ (d - r.2.2) : Nat) = X
  im : r.2.1 * (2 ^ (d - r.2.2) : Nat) = Y
  odd : r.2.2 = 0 ∨ ¬ (r.1 % 2 = 0 ∧ r.2.1 % 2 = 0)
  bre : r.1.natAbs ≤ X.natAbs
  bim : r.2.1.natAbs ≤ Y.natAbs
theorem lowT_is (X Y : Int) (d : Nat) : LowIs X Y d (lowT X Y d) := by
  induction d generalizing X Y with
  | zero => exact ⟨Nat.le_refl _, by simp [lowT], by simp [lowT], .inl rfl, Nat.le_refl _, Nat.le_refl _⟩
  | succ d ih =>
    unfold lowT
    split
    · rename_i h
      have k := ih (X / 2) (Y / 2)
      obtain ⟨k1, k2, k3, k4, k5, k6⟩ := k
      refine ⟨by omega, ?_, ?_, k4, by omega, by omega⟩
      · rw [show d + 1 - (lowT (X / 2) (Y / 2) d).2.2 = (d - (lowT (X / 2) (Y / 2) d).2.2) + 1 by omega, Nat.pow_succ, Int.natCast_mul, ← Int.mul_assoc, k2]
        have := h.1
        show X / 2 * 2 = X
        omega
      · rw [show d + 1 - (lowT (X / 2) (Y / 2) d).2.2 = (d - (lowT (X / 2) (Y / 2) d).2.2) + 1 by omega, Nat.pow_succ, Int.natCast_mul, ← Int.mul_assoc, k3]
        have := h.2
        show Y / 2 * 2 = Y
        omega
    · rename_i h
      exact ⟨Nat.le_refl _, by simp, by simp, .inr h, Nat.le_refl _, Nat.le_refl _⟩
/-- what is even or not, as the machine has it -/
theorem and_one (a : Int) (h1 : -9223372036854775808 ≤ a) (h2 : a ≤ 9223372036854775807) : bits .and .i64 a 1 = a % 2 := by
  have key : (BitVec.ofInt 64 a).toNat % 2 = (a % 2).toNat := by
    rw [BitVec.toNat_ofInt]
    omega
  show IntKind.i64.wrap ((BitVec.ofInt 64 a &&& BitVec.ofInt 64 1).toNat : Int) = _
  rw [BitVec.toNat_and, show (BitVec.ofInt 64 1).toNat = 2 ^ 1 - 1 from rfl, Nat.and_two_pow_sub_one_eq_mod]
  rw [show (2 : Nat) ^ 1 = 2 from rfl, key]
  simp [IntKind.wrap, IntKind.bits, IntKind.signed]
  omega
def evenB (a b : Int) : Bool := decide (a % 2 = 0 ∧ b % 2 = 0)
/-- is an exact number valid -/
def dyadB (a b s : Int) : Bool := decide (-1073741824 ≤ a ∧ a ≤ 1073741824 ∧ -1073741824 ≤ b ∧ b ≤ 1073741824 ∧ 0 ≤ s ∧ s ≤ 60) && (decide (s = 0) || !evenB a b)
theorem low_valid {X Y : Int} {d : Nat} (hX : X.natAbs ≤ 1073741824) (hY : Y.natAbs ≤ 1073741824) (hd : d ≤ 60) : dyadB (lowT X Y d).1 (lowT X Y d).2.1 (lowT X Y d).2.2 = true := by
  obtain ⟨k1, k2, k3, k4, k5, k6⟩ := lowT_is X Y d
  unfold dyadB evenB
  rw [Bool.and_eq_true, decide_eq_true_eq, Bool.or_eq_true, decide_eq_true_eq, Bool.not_eq_true', decide_eq_false_iff_not]
  refine ⟨by omega, ?_⟩
  rcases k4 with h | h
  · left; rw [h]; rfl
  · exact .inr h
namespace Flo
open Ieee
/-- the bits of a float of 64 bits: its digits and its power -/
theorem split_bits {z : Nat} {v : Int} (h : Val double z v) : z < 18446744073709551616 ∧ v.natAbs = (if z % 9223372036854775808 / 4503599627370496 = 0 then z % 4503599627370496 else z % 4503599627370496 + 4503599627370496) * 2 ^ (z % 9223372036854775808 / 4503599627370496 - 1) ∧ (z / 9223372036854775808 = if sgn double z then 1 else 0) ∧ z % 9223372036854775808 / 4503599627370496 < 2047 := by
  have hz : z < 18446744073709551616 := h.lt
  have hf := h.fin
  have hd := val_digits h
  have e1 : rung double z = z % 9223372036854775808 := by unfold rung; rw [signWeight64]
  have e2 : sgn double z = (z / 9223372036854775808 % 2 == 1) := by unfold sgn; rw [signWeight64]
  unfold Flo.fin at hf
  rw [double_inf, double_binade, e1] at hf
  rw [hd, e1, e2]
  generalize hr : z % 9223372036854775808 = r at *
  have hm : z % 4503599627370496 = r % 4503599627370496 := by omega
  refine ⟨hz, ?_, ?_, by omega⟩
  · have e3 : re double r = r / 4503599627370496 - 1 := by unfold re; rw [double_binade]
    have e4 : rm double r = r - (r / 4503599627370496 - 1) * 4503599627370496 := by unfold rm; rw [e3, double_binade]
    rw [e3, e4, hm]
    congr 1
    split <;> omega
  · have : z / 9223372036854775808 < 2 := by omega
    rcases (by omega : z / 9223372036854775808 = 0 ∨ z / 9223372036854775808 = 1) with h | h
    · rw [h]; rfl
    · rw [h]; rfl
end Flo
end Go.Proofs.YtidbdokoonikpaaGreatDoor
end

section
/- Walks: zeros at a number's end (cut out of AngO). -/
namespace Go.Proofs.YtidbdokoonikpaaGreatDoor
open Go.RowKit

/-- the table of the search for the lowest bit, in its variable -/
def Tab (w : World) : Prop := ∀ j, j < Lib.deBruijn64tab.length → w.cell? ⟨8, j, none⟩ = some (.int .u8 (Lib.deBruijn64tab.getD j 0))
theorem Tab.step {w w' : World} (h : Tab w) (k : Below w.heap.size w w') : Tab w' := fun j hj => (k.cell (World.block_lt_of_cell? w _ (h j hj))).trans (h j hj)
set_option maxHeartbeats 1000000 in
theorem tz64_core (x k idx : Nat) (w : World) (hz : ((x : Int) == 0) = false)
    (key : IntKind.u64.wrap (bits BinOp.and IntKind.u64 (x : Int) (IntKind.u64.wrap (-(x : Int))) * 285870213051353865) / 288230376151711744 = (idx : Int))
    (hi : idx < 64) (hk : k < 64) (hcell : w.cell? ⟨8, idx, none⟩ = some (.int .u8 k)) :
    Calls Tryz.prog 143 #[.int .u64 x] w fun e w' => e = .returned (.int .i64 k) ∧ w = w' := by
  go_enter Tryz.func143, Tryz.ntmps143
  go_wp2_with (simp only [key])
  go_ret
  exact ⟨rfl, rfl⟩
theorem tz64_any (x : Nat) (hx0 : x ≠ 0) (hx : x < 18446744073709551616) (w : World) (hT : Tab w) :
    Calls Tryz.prog 143 #[.int .u64 x] w fun e w' => e = .returned (.int .i64 (Lib.ctz 64 x)) ∧ w = w' := by
  obtain ⟨hlow, hk⟩ := Lib.lowest_bit 64 x hx0 hx
  obtain ⟨hi, htab⟩ := Lib.deBruijn64_at _ hk
  have hcell := hT _ hi
  rw [htab] at hcell
  exact tz64_core x _ _ w (by simp; omega) (tz64_key x _ hx hx0 hlow) hi hk hcell
end Go.Proofs.YtidbdokoonikpaaGreatDoor
end

section
/- Walks: math.Floor at small whole numbers; the program's placeWell. -/
namespace Go.Proofs.YtidbdokoonikpaaGreatDoor
open Go.RowKit

theorem cut_down (neg : Bool) (t drop : Nat) : Ieee.Toward.down.cut neg (t * 2 ^ drop) drop = t := by
  unfold Ieee.Toward.cut
  simp only []
  by_cases hd : drop ≤ (t * 2 ^ drop).log2 + 2
  · rw [Nat.min_eq_left hd, Nat.one_shiftLeft, Nat.mul_div_cancel _ (Nat.two_pow_pos _), Nat.mul_mod_left]; simp
  · have h0 : t = 0 := by
      rcases Nat.eq_zero_or_pos t with h | h
      · exact h
      · exfalso
        have hlt : t * 2 ^ drop < 2 ^ ((t * 2 ^ drop).log2 + 1) := Nat.lt_log2_self
        have h2 : 2 ^ ((t * 2 ^ drop).log2 + 1) ≤ 2 ^ drop := Nat.pow_le_pow_right (by omega) (by omega)
        have h3 := Nat.mul_le_mul_right (2 ^ drop) h
        omega
    subst h0; simp
/-- the floor of a whole number, as the machine has it -/
theorem floor_val {z : Nat} {A : Int} (hz : Flo.Val Ieee.double z (A * (2 ^ Flo.u64 : Nat))) :
    ∃ s m e, FloatKind.f64.decode z = .number s m e ∧ Flo.Val Ieee.double (FloatKind.f64.encode ((Ieee.Datum.number s m e).integral .down)) (A * (2 ^ Flo.u64 : Nat)) := by
  refine ⟨_, _, _, Flo.read_fin hz.fin, ?_⟩
  have hd := Flo.val_digits hz
  rw [Int.natAbs_mul, Int.natAbs_natCast] at hd
  have hm : Ieee.Toward.down.cut (Flo.sgn Ieee.double z) (Flo.rm Ieee.double (Flo.rung Ieee.double z) <<< (Ieee.double.leastPlace + Flo.re Ieee.double (Flo.rung Ieee.double z)).toNat) (-(Ieee.double.leastPlace + (Flo.re Ieee.double (Flo.rung Ieee.double z) : Int))).toNat = A.natAbs := by
    rw [Flo.least64]
    generalize Flo.re Ieee.double (Flo.rung Ieee.double z) = e at *
    generalize Flo.rm Ieee.double (Flo.rung Ieee.double z) = m at *
    generalize Flo.sgn Ieee.double z = s at *
    rcases Nat.le_total Flo.u64 e with h | h
    · obtain ⟨r, rfl⟩ : ∃ r, e = r + Flo.u64 := ⟨e - Flo.u64, by omega⟩
      have e1 : (-(Flo.u64 : Int) + ((r + Flo.u64 : Nat) : Int)).toNat = r := by omega
      have e2 : (-(-(Flo.u64 : Int) + ((r + Flo.u64 : Nat) : Int))).toNat = 0 := by omega
      rw [e1, e2]
      rw [Nat.pow_add, ← Nat.mul_assoc] at hd
      have hA := Nat.eq_of_mul_eq_mul_right (Nat.two_pow_pos Flo.u64) hd
      have := cut_down s A.natAbs 0
      rw [Nat.pow_zero, Nat.mul_one] at this
      rw [Nat.shiftLeft_eq, ← hA]; exact this
    · obtain ⟨r, hr⟩ : ∃ r, Flo.u64 = r + e := ⟨Flo.u64 - e, by omega⟩
      have e1 : (-(Flo.u64 : Int) + (e : Int)).toNat = 0 := by omega
      have e2 : (-(-(Flo.u64 : Int) + (e : Int))).toNat = r := by omega
      rw [e1, e2]
      rw [hr, Nat.pow_add, ← Nat.mul_assoc] at hd
      have hA := Nat.eq_of_mul_eq_mul_right (Nat.two_pow_pos e) hd
      rw [Nat.shiftLeft_zero, ← hA]
      exact cut_down s A.natAbs r
  show Flo.Val Ieee.double (Ieee.double.nearest (Flo.sgn Ieee.double z) (Ieee.Toward.down.cut (Flo.sgn Ieee.double z) (Flo.rm Ieee.double (Flo.rung Ieee.double z) <<< (Ieee.double.leastPlace + Flo.re Ieee.double (Flo.rung Ieee.double z)).toNat) (-(Ieee.double.leastPlace + (Flo.re Ieee.double (Flo.rung Ieee.double z) : Int))).toNat) 0) _
  rw [hm]
  have hiv := hz.iv
  unfold Flo.iv at hiv
  refine Flo.nearest_val (a := Flo.u64) (b := 0) hz.rep (by rw [Flo.least64]; omega) (by rw [Int.natAbs_mul, Int.natAbs_natCast, Nat.pow_zero, Nat.mul_one]) (fun hneg => ?_) (fun hpos => ?_)
  · cases hs : Flo.sgn Ieee.double z
    · rw [hs] at hiv
      simp only [Bool.false_eq_true, if_false] at hiv
      omega
    · rfl
  · cases hs : Flo.sgn Ieee.double z
    · rfl
    · rw [hs] at hiv
      simp only [if_true] at hiv
      omega
theorem toIntegral_num (z : Nat) (s : Bool) (m : Nat) (e : Int) (hd : FloatKind.f64.decode z = .number s m e) : Go.Extern.MathFloor.toIntegral "math.archFloor" .down #[.float .f64 z] = pure (.float .f64 (FloatKind.f64.encode ((Ieee.Datum.number s m e).integral .down))) := by
  show (match FloatKind.f64.decode z with | .nan s t => _ | d => pure (Value.float .f64 (FloatKind.f64.encode (d.integral .down)))) = _
  rw [hd]
theorem archFloor_run (z : Nat) (w : World) : (callFunc 112 #[.float .f64 z]).run Tryz.prog w = (do let v ← Go.Extern.MathFloor.toIntegral "math.archFloor" .down #[.float .f64 z]; pure (Next.value v)).run Tryz.prog w := by
  kernel_rfl
set_option maxRecDepth 100000 in
theorem mathFloor_is (z : Nat) (A : Int) (hz : Flo.Val Ieee.double z (A * (2 ^ Flo.u64 : Nat))) (w : World) : Calls Tryz.prog 87 #[.float .f64 z] w fun e w' => (∃ y, e = .returned (.float .f64 y) ∧ Flo.Val Ieee.double y (A * (2 ^ Flo.u64 : Nat))) ∧ w = w' := by
  obtain ⟨s, m, e, hd, hv⟩ := floor_val hz
  have hr : ∀ w, (callFunc 112 #[.float .f64 z]).run Tryz.prog w = .ok (.value (.float .f64 (FloatKind.f64.encode ((Ieee.Datum.number s m e).integral .down)))) w := fun w => by
    rw [archFloor_run, toIntegral_num z s m e hd]
    rfl
  have HV := Lib.hid hv
  generalize FloatKind.f64.encode ((Ieee.Datum.number s m e).integral .down) = y at *
  clear hz hv hd
  go_enter Tryz.func87, Tryz.ntmps87
  go_wp2
  go_ret
  exact ⟨⟨y, rfl, HV.out⟩, rfl⟩
set_option maxRecDepth 100000 in
set_option maxHeartbeats 1000000 in
theorem cornerWell_ok (x d : Nat) (hx : x < 4294967296) (hd : d ≤ 11) (h : Flo.wholeB x d = true) (w : World) : Calls Tryz.prog 69 #[.float .f32 x, .int .i64 d] w fun e w' => e = .returned (.bool true) ∧ w = w' := by
  obtain ⟨A, hA, hb⟩ := Flo.whole_pt hx hd h
  have hdp : 2 ^ d ≤ 2 ^ 11 := Nat.pow_le_pow_right (by omega) hd
  obtain ⟨y1, h1, v1⟩ := Flo.widen_val hA
  have hD : Flo.Val Ieee.double (floatOfInt .f64 ((2 ^ d : Nat) : Int)) (((2 ^ d : Nat) : Int) * (2 ^ Flo.u64 : Nat)) := Flo.ofInt_val (k := .f64) Flo.least64 _ (by rw [Int.natAbs_natCast]; show _ < 2 * Ieee.double.binade; rw [Flo.double_binade]; omega) (by show (Flo.u64 + 2) * Ieee.double.binade ≤ Ieee.double.infRung; rw [Flo.double_inf, Flo.u64_eq]; exact Nat.mul_le_mul_right _ (by omega))
  have hrep : Flo.Rep Ieee.double (A * (2 ^ Flo.u64 : Nat)) := by
    refine Flo.rep_gen (m := A.natAbs) (e := Flo.u64) (by rw [Int.natAbs_mul, Int.natAbs_natCast]) (by rw [Flo.double_binade]; omega) ?_
    rw [Flo.double_inf, Flo.u64_eq]
    exact Nat.mul_le_mul_right _ (by omega)
  have hc : A * (2 ^ (Flo.u32 - d) : Nat) * (2 ^ Flo.wup : Nat) * (((2 ^ d : Nat) : Int) * (2 ^ Flo.u64 : Nat)) = A * (2 ^ Flo.u64 : Nat) * (2 ^ Flo.u64 : Nat) := by
    have e : (2 ^ (Flo.u32 - d) * 2 ^ Flo.wup * 2 ^ d : Nat) = 2 ^ Flo.u64 := by
      rw [← Nat.pow_add, ← Nat.pow_add]
      congr 1
      rw [Flo.u32_eq, Flo.wup_eq, Flo.u64_eq]; omega
    have e2 : ((2 ^ (Flo.u32 - d) : Nat) : Int) * (2 ^ Flo.wup : Nat) * (2 ^ d : Nat) = (2 ^ Flo.u64 : Nat) := by
      have := congrArg (fun x : Nat => (x : Int)) e
      simp only [Int.natCast_mul] at this
      exact this
    generalize ((2 ^ (Flo.u32 - d) : Nat) : Int) = P at *
    generalize ((2 ^ Flo.wup : Nat) : Int) = Q at *
    generalize ((2 ^ Flo.u64 : Nat) : Int) = R at *
    generalize ((2 ^ d : Nat) : Int) = S at *
    calc A * P * Q * (S * R) = A * (P * Q * S) * R := by simp only [Int.mul_assoc]
      _ = A * R * R := by rw [e2]
  obtain ⟨y, hy, v2⟩ := Flo.mul_val (f := Ieee.double) (c := A * (2 ^ Flo.u64 : Nat)) Flo.least64 v1 hD hc hrep
  have hF := Lib.hid (mathFloor_is y A v2)
  have hee : Hid (∀ t, Flo.Val Ieee.double t (A * (2 ^ Flo.u64 : Nat)) → (FloatKind.f64.format.order y t == some .eq) = true) := fun t ht => by rw [Flo.order_eq_val (k := .f64) v2 ht]; simp
  obtain ⟨q, hq⟩ : ∃ q : Int, wrap64 (2 ^ d) = q := ⟨_, rfl⟩
  have hqd : ((2 ^ d : Nat) : Int) = q := by rw [← hq, wrap_pow d hd]
  rw [hqd] at hy
  have g1 := fun w => run_convert_float_float (P := Tryz.prog) w 57 92 .f32 .f64 _ _ (by kernel_rfl) Tryz.underlying92 h1
  have g2 := fun w => run_float_arith (P := Tryz.prog) w .mul 92 .f64 _ _ _ hy
  have hw := Flo.inFour_val hx (by unfold Flo.wholeB at h; rw [Bool.and_eq_true] at h; exact h.1)
  have t1 : (FloatKind.f32.format.order 3229614080 x == some .lt || FloatKind.f32.format.order 3229614080 x == some .eq) = true := by
    rw [Flo.order_lt_val (k := .f32) Flo.minus_four_val hw.1, Flo.order_eq_val (k := .f32) Flo.minus_four_val hw.1]
    have := hw.2
    simp only [Bool.or_eq_true, decide_eq_true_eq]
    generalize 2 ^ Flo.u32 = U at *
    omega
  have t2 : (FloatKind.f32.format.order x 1082130432 == some .lt || FloatKind.f32.format.order x 1082130432 == some .eq) = true := by
    unfold Flo.wholeB Flo.inFour at h
    rw [Bool.and_eq_true, Bool.and_eq_true] at h
    exact h.1.2
  clear h hA hb hdp h1 v1 hD hrep hc hy v2 hqd hw hx
  go_enter Tryz.func69, Tryz.ntmps69
  go_wp2_with (go_at_call 87; refine (hF.out _).mono ?_; rintro e w' ⟨⟨t, rfl, ht⟩, rfl⟩; have hte := hee.out t ht; clear ht)
  go_ret
  exact ⟨rfl, rfl⟩
set_option maxRecDepth 100000 in
set_option maxHeartbeats 1000000 in
theorem placeWell_ok (cx cy : Nat) (deep size : Int) (hx : cx < 4294967296) (hy : cy < 4294967296) (h : placeB cx cy deep size = true) (w : World) : Calls Tryz.prog 44 #[.complex .f32 cx cy, .int .i64 deep, .int .i64 size] w fun e w' => e = .returned (.bool true) ∧ w = w' := by
  obtain ⟨h1, h2, h3, h4⟩ := placeB_bd h
  obtain ⟨d, rfl⟩ := Int.eq_ofNat_of_zero_le h1
  unfold placeB at h
  rw [Bool.and_eq_true, Bool.and_eq_true, Int.toNat_natCast] at h
  have hX := Lib.hid (cornerWell_ok cx d hx (by omega) h.1.2)
  have hY := Lib.hid (cornerWell_ok cy d hy (by omega) h.2)
  clear h
  have a1 : decide ((d : Int) < 0) = false := by simp
  have a2 : decide (10 < (d : Int)) = false := by simpa using h2
  have a3 : decide (size < 1) = false := by simpa using h3
  have a4 : decide (8 < size) = false := by simpa using h4
  go_enter Tryz.func44, Tryz.ntmps44
  go_wp2_with (first | (go_at_call 69; (with_reducible refine (hX.out _).mono ?_); rintro e w' ⟨rfl, rfl⟩) | (go_at_call 69; (with_reducible refine (hY.out _).mono ?_); rintro e w' ⟨rfl, rfl⟩))
  go_ret
  exact ⟨rfl, rfl⟩
end Go.Proofs.YtidbdokoonikpaaGreatDoor
end

section
/- Walks: the program's exact numbers. -/
namespace Go.Proofs.YtidbdokoonikpaaGreatDoor
open Go.RowKit Flo

theorem lowT_even (m n : Int) (k : Nat) : lowT (2 * m) (2 * n) (k + 1) = lowT m n k := by
  show (if _ ∧ _ then _ else _) = _
  rw [if_pos ⟨by omega, by omega⟩, show 2 * m / 2 = m by omega, show 2 * n / 2 = n by omega]
theorem lowT_stop {X Y : Int} {k : Nat} (h : evenB X Y = false) : lowT X Y k = (X, Y, k) := by
  cases k with
  | zero => rfl
  | succ k =>
    unfold evenB at h
    rw [decide_eq_false_iff_not] at h
    show (if _ ∧ _ then _ else _) = _
    rw [if_neg h]
theorem Box.set3 {w0 W : World} {b : Nat} {v0 v1 v2 : Value} {T : TypeId} (h : Box w0 b #[v0, v1, v2] T W) (hb : w0.heap.size ≤ b) (u0 u1 u2 : Value) :
    Box w0 b #[u0, u1, u2] T (((W.setCell ⟨b, 0, none⟩ u0).setCell ⟨b, 1, none⟩ u1).setCell ⟨b, 2, none⟩ u2) := ((h.set hb 0 u0).set hb 1 u1).set hb 2 u2
theorem Box.other3 {w0 W : World} {b : Nat} {C : Array Value} {T : TypeId} (h : Box w0 b C T W) {p : Nat} (hp : w0.heap.size ≤ p) (hne : b ≠ p) (u0 u1 u2 : Value) :
    Box w0 b C T (((W.setCell ⟨p, 0, none⟩ u0).setCell ⟨p, 1, none⟩ u1).setCell ⟨p, 2, none⟩ u2) := ((h.other (p := ⟨p, 0, none⟩) hp hne u0).other (p := ⟨p, 1, none⟩) hp hne u1).other (p := ⟨p, 2, none⟩) hp hne u2
theorem Box.cells3 {w0 W : World} {b : Nat} {v0 v1 v2 : Value} {T : TypeId} (h : Box w0 b #[v0, v1, v2] T W) : W.cell? ⟨b, 0, none⟩ = some v0 ∧ W.cell? ⟨b, 1, none⟩ = some v1 ∧ W.cell? ⟨b, 2, none⟩ = some v2 := ⟨h.cell 0 _ rfl, h.cell 1 _ rfl, h.cell 2 _ rfl⟩
theorem Box.free3 {w0 W : World} {b : Nat} {C : Array Value} {T : TypeId} (h : Box w0 b C T W) : W.frozen? ⟨b, 0, none⟩ = false ∧ W.frozen? ⟨b, 1, none⟩ = false ∧ W.frozen? ⟨b, 2, none⟩ = false := ⟨h.frozen 0, h.frozen 1, h.frozen 2⟩
end Go.Proofs.YtidbdokoonikpaaGreatDoor
end
