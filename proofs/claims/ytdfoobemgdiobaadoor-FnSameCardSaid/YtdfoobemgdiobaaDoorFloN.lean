/- Floats: negatives and sizes. Plain. -/
import Derived.Test.YtdfoobemgdiobaaDoorFloV
namespace Go.Proofs.YtdfoobemgdiobaaDoor
namespace Flo
open Ieee

theorem xor_top (a n : Nat) (h : a < 2 ^ n) : a ^^^ 2 ^ n = 2 ^ n + a := by
  apply Nat.eq_of_testBit_eq
  intro i
  rw [Nat.testBit_xor, Nat.testBit_two_pow]
  rcases Nat.lt_trichotomy i n with h1 | h1 | h1
  · rw [Nat.testBit_two_pow_add_gt h1]
    have : decide (n = i) = false := by simp; omega
    rw [this, Bool.xor_false]
  · subst h1
    rw [Nat.testBit_two_pow_add_eq]
    simp
  · have h2 : 2 ^ n + a < 2 ^ i := by
      have : 2 ^ (n + 1) ≤ 2 ^ i := Nat.pow_le_pow_right (by omega) h1
      rw [Nat.pow_succ] at this
      omega
    have h3 : a < 2 ^ i := by omega
    rw [Nat.testBit_lt_two_pow h2, Nat.testBit_lt_two_pow h3]
    have : decide (n = i) = false := by simp; omega
    rw [this]; rfl
theorem width_eq (f : Format) : 2 ^ f.width = 2 * f.signWeight := by
  unfold Format.width Format.signWeight
  rw [Nat.add_assoc, Nat.pow_add]
theorem negFloat_eq (k : FloatKind) (x : Nat) (h : x < 2 ^ k.format.width) : Op.negFloat k x = if x < k.format.signWeight then k.format.signWeight + x else x - k.format.signWeight := by
  rw [width_eq] at h
  unfold Op.negFloat
  have hs : 2 ^ (k.format.exponentBits + k.format.fractionBits) = k.format.signWeight := rfl
  split
  · rename_i hl
    exact xor_top x _ hl
  · rename_i hl
    obtain ⟨y, rfl⟩ : ∃ y, x = k.format.signWeight + y := ⟨x - k.format.signWeight, by omega⟩
    rw [hs]
    have hy : y < k.format.signWeight := by omega
    have := xor_top y (k.format.exponentBits + k.format.fractionBits) hy
    rw [hs] at this
    rw [← this, Nat.xor_assoc, Nat.xor_self, Nat.xor_zero, this]
    omega
theorem neg_neg (k : FloatKind) (x : Nat) : Op.negFloat k (Op.negFloat k x) = x := by
  unfold Op.negFloat
  rw [Nat.xor_assoc, Nat.xor_self, Nat.xor_zero]
theorem rung_flip (f : Format) (x : Nat) (h : x < f.signWeight) : rung f x = x ∧ sgn f x = false ∧ rung f (f.signWeight + x) = x ∧ sgn f (f.signWeight + x) = true := by
  have hp := signWeight_pos f
  unfold rung sgn
  rw [Nat.mod_eq_of_lt h, Nat.div_eq_of_lt h, Nat.add_mod_left, Nat.mod_eq_of_lt h, Nat.add_div_left _ hp, Nat.div_eq_of_lt h]
  exact ⟨rfl, rfl, rfl, rfl⟩
theorem neg_val {k : FloatKind} {x : Nat} {v : Int} (h : Val k.format x v) : Val k.format (Op.negFloat k x) (-v) := by
  have hl := h.lt
  rw [width_eq] at hl
  refine ⟨?_, ?_, ?_⟩
  · exact neg_lt k x h.lt
  · have hf := h.fin
    rw [negFloat_eq k x h.lt]
    unfold fin at hf ⊢
    split
    · rename_i h1
      rw [(rung_flip k.format x h1).2.2.1]
      rw [(rung_flip k.format x h1).1] at hf; exact hf
    · rename_i h1
      obtain ⟨y, rfl⟩ : ∃ y, x = k.format.signWeight + y := ⟨x - k.format.signWeight, by omega⟩
      have hy := rung_flip k.format y (by omega)
      rw [hy.2.2.1] at hf
      rw [Nat.add_sub_cancel_left, hy.1]; exact hf
  · have hiv := h.iv
    rw [negFloat_eq k x h.lt]
    unfold iv at hiv ⊢
    split
    · rename_i h1
      have hx := rung_flip k.format x h1
      rw [hx.2.1, hx.1] at hiv
      rw [hx.2.2.1, hx.2.2.2]
      simp at hiv ⊢; omega
    · rename_i h1
      obtain ⟨y, rfl⟩ : ∃ y, x = k.format.signWeight + y := ⟨x - k.format.signWeight, by omega⟩
      have hy := rung_flip k.format y (by omega)
      rw [hy.2.2.1, hy.2.2.2] at hiv
      rw [Nat.add_sub_cancel_left, hy.1, hy.2.1]
      simp at hiv ⊢; omega
theorem abs_val {f : Format} {x : Nat} {v : Int} (h : Val f x v) : Val f (x % f.signWeight) (v.natAbs : Int) := by
  have hp := signWeight_pos f
  have hlt := Nat.mod_lt x hp
  have hx := rung_flip f (x % f.signWeight) hlt
  refine ⟨?_, ?_, ?_⟩
  · rw [width_eq]; omega
  · unfold fin; rw [hx.1]; exact h.fin
  · have hiv := h.iv
    unfold iv at hiv ⊢
    rw [hx.1, hx.2.1]
    show (rv f (x % f.signWeight) : Int) = _
    rw [← hiv]
    show (rv f (rung f x) : Int) = _
    split <;> simp
theorem signWeight64 : double.signWeight = 9223372036854775808 := by decide
/-- not beyond the greatest float -/
theorem not_inf {z : Nat} {A : Int} (hA : A.natAbs ≤ 8192) (hz : Val double z (A * (2 ^ u64 : Nat))) : (FloatKind.f64.format.order (z % 9223372036854775808) 9218868437227405311 == some .gt) = false := by
  have h := abs_val hz
  rw [signWeight64] at h
  rw [order_gt_val (k := .f64) h max_val]
  rw [Int.natAbs_mul, Int.natAbs_natCast]
  have h2 : A.natAbs * 2 ^ u64 ≤ 8192 * 2 ^ u64 := Nat.mul_le_mul_right _ hA
  have h3 := max_ge
  have h4 : A.natAbs * 2 ^ u64 ≤ maxU := Nat.le_trans h2 h3
  simp only [decide_eq_false_iff_not]
  exact Int.not_lt.2 (Int.ofNat_le.2 h4)
end Flo
end Go.Proofs.YtdfoobemgdiobaaDoor
