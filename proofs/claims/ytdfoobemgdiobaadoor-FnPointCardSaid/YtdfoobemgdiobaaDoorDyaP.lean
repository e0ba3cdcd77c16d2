/- Plain: exact numbers in lowest terms. -/
import Derived.Test.YtdfoobemgdiobaaDoorFloN
namespace Go.Proofs.YtdfoobemgdiobaaDoor

/-- lowest terms -/
def lowT (X Y : Int) : Nat → Int × Int × Nat
  | 0 => (X, Y, 0)
  | d + 1 => if X % 2 = 0 ∧ Y % 2 = 0 then lowT (X / 2) (Y / 2) d else (X, Y, d + 1)
theorem lowT_up (X Y : Int) (d t : Nat) : lowT (X * (2 ^ t : Nat)) (Y * (2 ^ t : Nat)) (d + t) = lowT X Y d := by
  induction t with
  | zero => simp
  | succ t ih =>
    have e : ∀ Z : Int, Z * ((2 ^ (t + 1) : Nat) : Int) = 2 * (Z * ((2 ^ t : Nat) : Int)) := fun Z => by
      rw [Nat.pow_succ, Int.natCast_mul, ← Int.mul_assoc, Int.mul_comm]; rfl
    rw [e, e, ← Nat.add_assoc]
    show (if _ ∧ _ then _ else _) = _
    rw [if_pos ⟨by omega, by omega⟩, show 2 * (X * ((2 ^ t : Nat) : Int)) / 2 = X * ((2 ^ t : Nat) : Int) by omega, show 2 * (Y * ((2 ^ t : Nat) : Int)) / 2 = Y * ((2 ^ t : Nat) : Int) by omega]
    exact ih
structure LowIs (X Y : Int) (d : Nat) (r : Int × Int × Nat) : Prop where
  le : r.2.2 ≤ d
  re : r.1 * (2 ^ (d - r.2.2) : Nat) = X
  im : r.2.1 * (2 ^ (d - r.2.2) : Nat) = Y
  odd : r.2.2 = 0 ∨ ¬ (r.1 % 2 = 0 ∧ r.2.1 % 2 = 0)
  bre : r.1.natAbs ≤ X.natAbs
  bim : r.2.1.natAbs ≤ Y.natAbs
theorem lowT_is (X Y : Int) (d : Nat) : LowIs X Y d (lowT X Y d) := by
  induction d generalizing X Y with
  | zero => exact ⟨Nat.le_refl _, by simp [lowT], by simp [lowT], .inl rfl, Nat.le_refl _, Nat.le_refl _⟩
  | succ d ih =>
    unfold lowT
    split
    · rename_i h
      have k := ih (X / 2) (Y / 2)
      obtain ⟨k1, k2, k3, k4, k5, k6⟩ := k
      refine ⟨by omega, ?_, ?_, k4, by omega, by omega⟩
      · rw [show d + 1 - (lowT (X / 2) (Y / 2) d).2.2 = (d - (lowT (X / 2) (Y / 2) d).2.2) + 1 by omega, Nat.pow_succ, Int.natCast_mul, ← Int.mul_assoc, k2]
        have := h.1
        show X / 2 * 2 = X
        omega
      · rw [show d + 1 - (lowT (X / 2) (Y / 2) d).2.2 = (d - (lowT (X / 2) (Y / 2) d).2.2) + 1 by omega, Nat.pow_succ, Int.natCast_mul, ← Int.mul_assoc, k3]
        have := h.2
        show Y / 2 * 2 = Y
        omega
    · rename_i h
      exact ⟨Nat.le_refl _, by simp, by simp, .inr h, Nat.le_refl _, Nat.le_refl _⟩
/-- what is even or not, as the machine has it -/
theorem and_one (a : Int) (h1 : -9223372036854775808 ≤ a) (h2 : a ≤ 9223372036854775807) : bits .and .i64 a 1 = a % 2 := by
  have key : (BitVec.ofInt 64 a).toNat % 2 = (a % 2).toNat := by
    rw [BitVec.toNat_ofInt]
    omega
  show IntKind.i64.wrap ((BitVec.ofInt 64 a &&& BitVec.ofInt 64 1).toNat : Int) = _
  rw [BitVec.toNat_and, show (BitVec.ofInt 64 1).toNat = 2 ^ 1 - 1 from rfl, Nat.and_two_pow_sub_one_eq_mod]
  rw [show (2 : Nat) ^ 1 = 2 from rfl, key]
  simp [IntKind.wrap, IntKind.bits, IntKind.signed]
  omega
def evenB (a b : Int) : Bool := decide (a % 2 = 0 ∧ b % 2 = 0)
/-- is an exact number valid -/
def dyadB (a b s : Int) : Bool := decide (-1073741824 ≤ a ∧ a ≤ 1073741824 ∧ -1073741824 ≤ b ∧ b ≤ 1073741824 ∧ 0 ≤ s ∧ s ≤ 60) && (decide (s = 0) || !evenB a b)
theorem low_valid {X Y : Int} {d : Nat} (hX : X.natAbs ≤ 1073741824) (hY : Y.natAbs ≤ 1073741824) (hd : d ≤ 60) : dyadB (lowT X Y d).1 (lowT X Y d).2.1 (lowT X Y d).2.2 = true := by
  obtain ⟨k1, k2, k3, k4, k5, k6⟩ := lowT_is X Y d
  unfold dyadB evenB
  rw [Bool.and_eq_true, decide_eq_true_eq, Bool.or_eq_true, decide_eq_true_eq, Bool.not_eq_true', decide_eq_false_iff_not]
  refine ⟨by omega, ?_⟩
  rcases k4 with h | h
  · left; rw [h]; rfl
  · exact .inr h
namespace Flo
open Ieee
/-- the bits of a float of 64 bits: its digits and its power -/
theorem split_bits {z : Nat} {v : Int} (h : Val double z v) : z < 18446744073709551616 ∧ v.natAbs = (if z % 9223372036854775808 / 4503599627370496 = 0 then z % 4503599627370496 else z % 4503599627370496 + 4503599627370496) * 2 ^ (z % 9223372036854775808 / 4503599627370496 - 1) ∧ (z / 9223372036854775808 = if sgn double z then 1 else 0) ∧ z % 9223372036854775808 / 4503599627370496 < 2047 := by
  have hz : z < 18446744073709551616 := h.lt
  have hf := h.fin
  have hd := val_digits h
  have e1 : rung double z = z % 9223372036854775808 := by unfold rung; rw [signWeight64]
  have e2 : sgn double z = (z / 9223372036854775808 % 2 == 1) := by unfold sgn; rw [signWeight64]
  unfold Flo.fin at hf
  rw [double_inf, double_binade, e1] at hf
  rw [hd, e1, e2]
  generalize hr : z % 9223372036854775808 = r at *
  have hm : z % 4503599627370496 = r % 4503599627370496 := by omega
  refine ⟨hz, ?_, ?_, by omega⟩
  · have e3 : re double r = r / 4503599627370496 - 1 := by unfold re; rw [double_binade]
    have e4 : rm double r = r - (r / 4503599627370496 - 1) * 4503599627370496 := by unfold rm; rw [e3, double_binade]
    rw [e3, e4, hm]
    congr 1
    split <;> omega
  · have : z / 9223372036854775808 < 2 := by omega
    rcases (by omega : z / 9223372036854775808 = 0 ∨ z / 9223372036854775808 = 1) with h | h
    · rw [h]; rfl
    · rw [h]; rfl
end Flo
end Go.Proofs.YtdfoobemgdiobaaDoor
