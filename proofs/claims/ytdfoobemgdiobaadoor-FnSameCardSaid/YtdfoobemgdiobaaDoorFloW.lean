/- Floats: whole multiples, conversions to whole numbers, bounds. Plain. -/
import Derived.Test.YtdfoobemgdiobaaDoorFloA
namespace Go.Proofs.YtdfoobemgdiobaaDoor
namespace Flo
open Ieee

/-- what the format has: digits and a place -/
theorem rep_gen {f : Format} {v : Int} {m e : Nat} (hv : v.natAbs = m * 2 ^ e) (hm : m < 2 * f.binade) (hmax : (e + 2) * f.binade ≤ f.infRung) : Rep f v := by
  have hbp := binade_pos f
  have h2 : 2 * f.binade ≤ (e + 2) * f.binade := Nat.mul_le_mul_right _ (by omega)
  by_cases hs : m * 2 ^ e < 2 * f.binade
  · refine ⟨m * 2 ^ e, ?_, ?_⟩
    · rcases Nat.eq_zero_or_pos e with h | h
      · subst h; omega
      · have : 3 * f.binade ≤ (e + 2) * f.binade := Nat.mul_le_mul_right _ (by omega)
        omega
    · rw [hv]
      have hq : m * 2 ^ e / f.binade < 2 := Nat.div_lt_of_lt_mul (by omega)
      unfold rv rm re
      have : m * 2 ^ e / f.binade - 1 = 0 := by omega
      rw [this]; simp
  · have h0 : m ≠ 0 := by intro h; subst h; simp at hs; omega
    have hl := Nat.log2_self_le h0
    have hu : m < 2 ^ (m.log2 + 1) := Nat.lt_log2_self
    have hlog : m.log2 ≤ f.fractionBits := by
      have : m.log2 < f.fractionBits + 1 := (Nat.log2_lt h0).2 (by rw [Nat.pow_succ, Nat.mul_comm]; exact hm)
      omega
    obtain ⟨k, hk⟩ : ∃ k, m.log2 + k = f.fractionBits := ⟨f.fractionBits - m.log2, by omega⟩
    have h1 : f.binade ≤ m * 2 ^ k := by
      unfold Format.binade; rw [← hk, Nat.pow_add]; exact Nat.mul_le_mul_right _ hl
    have h3 : m * 2 ^ k < 2 * f.binade := by
      unfold Format.binade
      calc m * 2 ^ k < 2 ^ (m.log2 + 1) * 2 ^ k := Nat.mul_lt_mul_of_pos_right hu (Nat.two_pow_pos _)
        _ = 2 * 2 ^ f.fractionBits := by rw [← hk, Nat.pow_succ, Nat.pow_add]; simp only [Nat.mul_comm, Nat.mul_left_comm]
    have hke : k ≤ e := by
      rcases Nat.le_total k e with h | h
      · exact h
      · exfalso
        have : m * 2 ^ e ≤ m * 2 ^ k := Nat.mul_le_mul_left _ (Nat.pow_le_pow_right (by omega) h)
        omega
    refine ⟨(e - k) * f.binade + m * 2 ^ k, ?_, ?_⟩
    · have : (e - k) * f.binade ≤ e * f.binade := Nat.mul_le_mul_right _ (by omega)
      rw [Nat.add_mul] at hmax
      omega
    · have hdiv : ((e - k) * f.binade + m * 2 ^ k) / f.binade = e - k + 1 := by
        rw [Nat.mul_comm, Nat.mul_add_div hbp]
        have : m * 2 ^ k / f.binade = 1 := by
          rw [Nat.div_eq_iff hbp]; omega
        omega
      have hre : re f ((e - k) * f.binade + m * 2 ^ k) = e - k := by unfold re; rw [hdiv]; omega
      have hrm : rm f ((e - k) * f.binade + m * 2 ^ k) = m * 2 ^ k := by unfold rm; rw [hre]; omega
      unfold rv
      rw [hre, hrm, hv, Nat.mul_assoc, ← Nat.pow_add]
      congr 2; omega
/-- cut towards zero -/
theorem cut_zero (neg : Bool) (n drop : Nat) : Toward.zero.cut neg n drop = n / 2 ^ drop := by
  unfold Toward.cut
  simp only [Bool.toNat_false, Nat.add_zero]
  by_cases hd : drop ≤ n.log2 + 2
  · rw [Nat.min_eq_left hd, Nat.one_shiftLeft]
  · have hd' : n.log2 + 2 ≤ drop := by omega
    have hlt : n < 2 ^ (n.log2 + 1) := Nat.lt_log2_self
    have h2 : 2 ^ (n.log2 + 1) ≤ 2 ^ (n.log2 + 2) := Nat.pow_le_pow_right (by omega) (by omega)
    have h3 : 2 ^ (n.log2 + 2) ≤ 2 ^ drop := Nat.pow_le_pow_right (by omega) hd'
    rw [Nat.min_eq_right hd', Nat.one_shiftLeft, Nat.div_eq_of_lt (by omega), Nat.div_eq_of_lt (by omega)]
/-- a float that is a number of units, as a whole number -/
theorem toInt_val {f : Format} {l : Nat} (hl : f.leastPlace = -(l : Int)) {x : Nat} {v : Int} (h : Val f x v) : (f.read x).toInt .zero = some (v.tdiv (2 ^ l : Nat)) := by
  have hd := val_digits h
  have hiv := h.iv
  unfold Flo.iv rv at hiv
  rw [read_fin h.fin]
  generalize re f (rung f x) = e at *
  generalize rm f (rung f x) = m at *
  generalize sgn f x = s at *
  unfold Datum.toInt Datum.integral
  simp only [Option.some.injEq]
  rw [cut_zero, hl]
  have key : (m <<< (-(l : Int) + e).toNat) / 2 ^ (-(-(l : Int) + e)).toNat = m * 2 ^ e / 2 ^ l := by
    rw [Nat.shiftLeft_eq]
    rcases Nat.le_total l e with h | h
    · obtain ⟨k, rfl⟩ : ∃ k, e = l + k := ⟨e - l, by omega⟩
      have e1 : (-(l : Int) + ((l + k : Nat) : Int)).toNat = k := by omega
      have e2 : (-(-(l : Int) + ((l + k : Nat) : Int))).toNat = 0 := by omega
      rw [e1, e2, Nat.pow_zero, Nat.div_one, Nat.pow_add, ← Nat.mul_assoc, Nat.mul_right_comm, Nat.mul_div_cancel _ (Nat.two_pow_pos l)]
    · obtain ⟨k, rfl⟩ : ∃ k, l = e + k := ⟨l - e, by omega⟩
      have e1 : (-((e + k : Nat) : Int) + (e : Int)).toNat = 0 := by omega
      have e2 : (-(-((e + k : Nat) : Int) + (e : Int))).toNat = k := by omega
      rw [e1, e2, Nat.pow_zero, Nat.mul_one, Nat.pow_add, Nat.mul_comm m, Nat.mul_div_mul_left _ _ (Nat.two_pow_pos e)]
  rw [key]
  unfold signed
  rw [Nat.shiftLeft_zero]
  cases s
  · simp only [Bool.false_eq_true, if_false] at hiv ⊢
    rw [← hiv, Int.tdiv_eq_ediv_of_nonneg (by omega)]
    exact (Int.natCast_ediv _ _)
  · simp only [if_true] at hiv ⊢
    rw [← hiv, Int.neg_tdiv, Int.tdiv_eq_ediv_of_nonneg (by omega)]
    exact congrArg Neg.neg (Int.natCast_ediv _ _)
/-- a small whole number as a float -/
theorem ofInt_val {k : FloatKind} {l : Nat} (hl : k.format.leastPlace = -(l : Int)) (n : Int) (hn : n.natAbs < 2 * k.format.binade) (hmax : (l + 2) * k.format.binade ≤ k.format.infRung) : Val k.format (floatOfInt k n) (n * (2 ^ l : Nat)) := by
  have hp : (0 : Int) < (2 ^ l : Nat) := by have := Nat.two_pow_pos l; omega
  have hab : (n * (2 ^ l : Nat)).natAbs = n.natAbs * 2 ^ l := by rw [Int.natAbs_mul, Int.natAbs_natCast]
  refine nearest_val (a := l) (b := 0) (rep_gen (m := n.natAbs) (e := l) hab hn hmax) (by rw [hl]; omega) (by rw [hab]; simp) ?_ ?_
  · intro h
    rcases Int.lt_or_le n 0 with h1 | h1
    · simp [h1]
    · have := Int.mul_nonneg h1 (Int.le_of_lt hp); omega
  · intro h
    rcases Int.lt_or_le n 0 with h1 | h1
    · have := Int.mul_neg_of_neg_of_pos h1 hp; omega
    · simp; omega
theorem order_eq_val {k : FloatKind} {x y : Nat} {a b : Int} (hx : Val k.format x a) (hy : Val k.format y b) : (k.format.order x y == some .eq) = decide (a = b) := by
  rw [order_val hx hy]
  rcases Int.lt_trichotomy a b with h | h | h
  · rw [Int.compare_eq_lt.2 h]; simp; omega
  · rw [Int.compare_eq_eq.2 h]; simp [h]
  · rw [Int.compare_eq_gt.2 h]; simp; omega
theorem order_lt_val {k : FloatKind} {x y : Nat} {a b : Int} (hx : Val k.format x a) (hy : Val k.format y b) : (k.format.order x y == some .lt) = decide (a < b) := by
  rw [order_val hx hy]
  rcases Int.lt_trichotomy a b with h | h | h
  · rw [Int.compare_eq_lt.2 h]; simp [h]
  · rw [Int.compare_eq_eq.2 h]; simp; omega
  · rw [Int.compare_eq_gt.2 h]; simp; omega
theorem order_gt_val {k : FloatKind} {x y : Nat} {a b : Int} (hx : Val k.format x a) (hy : Val k.format y b) : (k.format.order x y == some .gt) = decide (b < a) := by
  rw [order_val hx hy]
  rcases Int.lt_trichotomy a b with h | h | h
  · rw [Int.compare_eq_lt.2 h]; simp; omega
  · rw [Int.compare_eq_eq.2 h]; simp; omega
  · rw [Int.compare_eq_gt.2 h]; simp [h]
/-- between two finite numbers: finite -/
theorem fin_between {f : Format} (he : 1 ≤ f.exponentBits) {x p q : Nat} {a b : Int} (hx : x < 2 ^ f.width) (hp : Val f p a) (hq : Val f q b) (h1 : (f.order x p == some .gt || f.order x p == some .eq) = true) (h2 : (f.order x q == some .lt || f.order x q == some .eq) = true) :
    Val f x (iv f x) ∧ a ≤ iv f x ∧ iv f x ≤ b := by
  rcases kinds f he x with hf | ⟨s, hi⟩ | ⟨s, t, hn⟩
  · have hv : Val f x (iv f x) := ⟨hx, hf, rfl⟩
    refine ⟨hv, ?_, ?_⟩
    · rw [order_val hv hp] at h1
      rcases Int.lt_trichotomy (iv f x) a with h | h | h
      · rw [Int.compare_eq_lt.2 h] at h1; simp at h1
      · omega
      · omega
    · rw [order_val hv hq] at h2
      rcases Int.lt_trichotomy (iv f x) b with h | h | h
      · omega
      · omega
      · rw [Int.compare_eq_gt.2 h] at h2; simp at h2
  · exfalso
    unfold Format.order at h1 h2
    rw [hi, read_fin hp.fin] at h1
    rw [hi, read_fin hq.fin] at h2
    cases s
    · simp [Datum.order] at h2
    · simp [Datum.order] at h1
  · exfalso
    unfold Format.order at h1
    rw [hn, read_fin hp.fin] at h1
    simp [Datum.order] at h1
/-- the least place of float32 -/
def u32 : Nat := 149
theorem u32_eq : u32 = 149 := rfl
def u64 : Nat := 1074
theorem u64_eq : u64 = 1074 := rfl
theorem least32 : single.leastPlace = -(u32 : Int) := by rw [u32_eq]; exact single_least
theorem least64 : double.leastPlace = -(u64 : Int) := by rw [u64_eq]; exact double_least
theorem four_val : Val single 1082130432 (4 * (2 ^ u32 : Nat)) := by
  refine ⟨by decide, by unfold fin; decide, ?_⟩
  rw [u32_eq]
  unfold iv
  have h1 : sgn single 1082130432 = false := by decide
  have h2 : rv single (rung single 1082130432) = 4 * 2 ^ 149 := by decide +kernel
  rw [h1, h2]; simp
theorem minus_four_val : Val single 3229614080 (-(4 * (2 ^ u32 : Nat))) := by
  refine ⟨by decide, by unfold fin; decide, ?_⟩
  rw [u32_eq]
  unfold iv
  have h1 : sgn single 3229614080 = true := by decide
  have h2 : rv single (rung single 3229614080) = 4 * 2 ^ 149 := by decide +kernel
  rw [h1, h2]; simp
/-- from -4 to 4 -/
def inFour (x : Nat) : Bool := (FloatKind.f32.format.order x 3229614080 == some .gt || FloatKind.f32.format.order x 3229614080 == some .eq) && (FloatKind.f32.format.order x 1082130432 == some .lt || FloatKind.f32.format.order x 1082130432 == some .eq)
/-- a whole multiple of 1 / 2 ^ d from -4 to 4 -/
def wholeB (x d : Nat) : Bool := inFour x && decide (iv single x * (2 ^ d : Nat) % (2 ^ u32 : Nat) = 0)
theorem inFour_val {x : Nat} (hx : x < 4294967296) (h : inFour x = true) : Val single x (iv single x) ∧ (iv single x).natAbs ≤ 4 * 2 ^ u32 := by
  unfold inFour at h
  rw [Bool.and_eq_true] at h
  obtain ⟨hv, h1, h2⟩ := fin_between (f := single) (by decide) hx minus_four_val four_val h.1 h.2
  refine ⟨hv, ?_⟩
  generalize (2 : Nat) ^ u32 = U at *
  omega
/-- what l7Whole computes of such a number -/
theorem whole_steps {x d : Nat} (hx : x < 4294967296) (hd : d ≤ 11) (h : inFour x = true) :
    ∃ (y : Nat) (n : Int), floatBits .mul .f32 x (floatOfInt .f32 ((2 ^ d : Nat) : Int)) = some y ∧ floatToIntVal .f32 y .i64 = some n ∧ n = (iv single x * (2 ^ d : Nat)).tdiv (2 ^ u32 : Nat) ∧ Val single y (iv single x * (2 ^ d : Nat)) ∧
      (FloatKind.f32.format.order (floatOfInt .f32 n) y == some .eq) = decide (iv single x * (2 ^ d : Nat) % (2 ^ u32 : Nat) = 0) := by
  obtain ⟨hv, hb⟩ := inFour_val hx h
  have hdp : 2 ^ d ≤ 2 ^ 11 := Nat.pow_le_pow_right (by omega) hd
  have hD : Val single (floatOfInt .f32 ((2 ^ d : Nat) : Int)) (((2 ^ d : Nat) : Int) * (2 ^ u32 : Nat)) := ofInt_val (k := .f32) least32 _ (by rw [Int.natAbs_natCast]; show _ < 2 * single.binade; rw [single_binade]; omega) (by show (u32 + 2) * single.binade ≤ single.infRung; rw [single_inf, u32_eq]; exact Nat.mul_le_mul_right _ (by omega))
  have hdg := val_digits hv
  have hr := re_lt (e := 254) hv.fin (by decide)
  have hm := rm_lt single (rung single x)
  have hrep : Rep single (iv single x * (2 ^ d : Nat)) := by
    by_cases hz : re single (rung single x) + d + 2 ≤ 255
    · refine rep_gen (m := rm single (rung single x)) (e := re single (rung single x) + d) ?_ hm ?_
      · rw [Int.natAbs_mul, Int.natAbs_natCast, hdg, Nat.mul_assoc, ← Nat.pow_add]
      · rw [single_inf]; exact Nat.mul_le_mul_right _ hz
    · exfalso
      have hge := rm_ge single (rung single x) (by omega)
      rw [single_binade] at hge
      have h1 : 8388608 * 2 ^ re single (rung single x) ≤ rm single (rung single x) * 2 ^ re single (rung single x) := Nat.mul_le_mul_right _ hge
      have h2 : 2 ^ (u32 + 3) ≤ 2 ^ re single (rung single x) := Nat.pow_le_pow_right (by omega) (by rw [u32_eq]; omega)
      have h3 : 2 ^ (u32 + 3) = 8 * 2 ^ u32 := by rw [Nat.pow_add, Nat.mul_comm]
      have h4 := Nat.two_pow_pos u32
      rw [hdg] at hb
      omega
  obtain ⟨y, hy, hyv⟩ := mul_val (f := single) (c := iv single x * (2 ^ d : Nat)) least32 hv hD (by rw [Int.mul_assoc]) hrep
  have hti := toInt_val (f := single) least32 hyv
  generalize hA : iv single x * ((2 ^ d : Nat) : Int) = A at *
  have hAb : A.natAbs ≤ 8192 * 2 ^ u32 := by
    rw [← hA, Int.natAbs_mul, Int.natAbs_natCast]
    calc (iv single x).natAbs * 2 ^ d ≤ (4 * 2 ^ u32) * 2 ^ 11 := Nat.mul_le_mul hb hdp
      _ = 8192 * 2 ^ u32 := by rw [Nat.mul_right_comm]
  have hU := Nat.two_pow_pos u32
  have hna : (A.tdiv (2 ^ u32 : Nat)).natAbs ≤ 8192 := by
    rw [Int.natAbs_tdiv, Int.natAbs_natCast]
    exact Nat.div_le_of_le_mul (by rw [Nat.mul_comm]; exact hAb)
  have hN : Val single (floatOfInt .f32 (A.tdiv (2 ^ u32 : Nat))) (A.tdiv (2 ^ u32 : Nat) * (2 ^ u32 : Nat)) := ofInt_val (k := .f32) least32 _ (by show _ < 2 * single.binade; rw [single_binade]; omega) (by show (u32 + 2) * single.binade ≤ single.infRung; rw [single_inf, u32_eq]; exact Nat.mul_le_mul_right _ (by omega))
  refine ⟨y, A.tdiv (2 ^ u32 : Nat), hy, ?_, rfl, hyv, ?_⟩
  · unfold floatToIntVal
    have : (FloatKind.f32.decode y).toInt .zero = some (A.tdiv (2 ^ u32 : Nat)) := hti
    rw [this]
    simp only
    rw [if_pos]
    have h1 : IntKind.i64.min = -9223372036854775808 := by decide
    have h2 : IntKind.i64.max = 9223372036854775807 := by decide
    rw [h1, h2]
    omega
  · rw [order_eq_val (k := .f32) hN hyv]
    congr 1
    have hmod := Int.mul_tdiv_add_tmod A (2 ^ u32 : Nat)
    rw [Int.mul_comm] at hmod
    rw [eq_iff_iff]
    constructor
    · intro h
      exact Int.emod_eq_zero_of_dvd ⟨_, by rw [Int.mul_comm]; exact h.symm⟩
    · intro h
      exact Int.tdiv_mul_cancel (Int.dvd_of_emod_eq_zero h)
end Flo
end Go.Proofs.YtdfoobemgdiobaaDoor
