/- Merged texts: TilK, FloV, FloR. -/
import Derived.Test.YtalmhbcmagjheaaJ6
import Derived.Test.YtalmhbcmagjheaaJ2
import Derived.Laws.BitsAllLaws
import Derived.Test.YtalmhbcmagjheaaJ1
section
/- Plain: counts and checksums of the rows of a tile. -/
namespace Go.Proofs.Ytalmhbcmagjheaa

/-- how many marks are v -/
def cnt (v : Int) (ys : List Int) : Nat := (ys.filter (fun y => decide (y = v))).length
theorem cnt_nil (v : Int) : cnt v [] = 0 := rfl
theorem cnt_cons (v y : Int) (ys : List Int) : cnt v (y :: ys) = cnt v ys + if y = v then 1 else 0 := by
  unfold cnt
  by_cases h : y = v
  · rw [List.filter_cons_of_pos (by simpa using h), if_pos h]; rfl
  · rw [List.filter_cons_of_neg (by simpa using h), if_neg h]; rfl
theorem cnt_snoc (v y : Int) (ys : List Int) : cnt v (ys ++ [y]) = cnt v ys + if y = v then 1 else 0 := by
  unfold cnt
  rw [List.filter_append, List.length_append]
  by_cases h : y = v
  · rw [List.filter_cons_of_pos (by simpa using h), if_pos h]; rfl
  · rw [List.filter_cons_of_neg (by simpa using h), if_neg h]; rfl
theorem cnt_take (v : Int) (ys : List Int) (k : Nat) (h : k < ys.length) : cnt v (ys.take (k + 1)) = cnt v (ys.take k) + if ys[k] = v then 1 else 0 := by
  rw [← List.take_append_getElem h, cnt_snoc]
theorem cnt_le (v : Int) (ys : List Int) : cnt v ys ≤ ys.length := List.length_filter_le _ _
theorem cnt_total {ys : List Int} (h : ∀ y, y ∈ ys → -1 ≤ y ∧ y ≤ 1) : cnt 1 ys + cnt (-1) ys + cnt 0 ys = ys.length := by
  induction ys with
  | nil => rfl
  | cons y ys ih =>
    have h1 := h y (by simp)
    have h2 := ih (fun z hz => h z (List.mem_cons_of_mem _ hz))
    rw [cnt_cons, cnt_cons, cnt_cons, List.length_cons]
    rcases (by omega : y = -1 ∨ y = 0 ∨ y = 1) with rfl | rfl | rfl
    · simp; omega
    · simp; omega
    · simp; omega
theorem cnt_neg (v : Int) (ys : List Int) : cnt v (ys.map (fun y => -y)) = cnt (-v) ys := by
  induction ys with
  | nil => rfl
  | cons y ys ih =>
    rw [List.map_cons, cnt_cons, cnt_cons, ih]
    by_cases h : y = -v
    · rw [if_pos h, if_pos (by omega)]
    · rw [if_neg h, if_neg (by omega)]

/-- a step of the checksum -/
def sstep (h b : Nat) : Nat := ((h ^^^ b) * 16777619) % 4294967296
theorem sstep_lt (h b : Nat) : sstep h b < 4294967296 := Nat.mod_lt _ (by decide)
theorem times_inj_gen {M P Q R a b : Nat} (h : P * Q = 1 + M * R) (ha : a < M) (hb : b < M) (e : a * P % M = b * P % M) : a = b := by
  have k : ∀ x : Nat, x < M → x * P % M * Q % M = x := by
    intro x hx
    rw [Nat.mod_mul_mod, Nat.mul_assoc, h, Nat.mul_add, Nat.mul_one, Nat.mul_left_comm, Nat.add_mul_mod_self_left, Nat.mod_eq_of_lt hx]
  rw [← k a ha, ← k b hb, e]
theorem times_inj {a b : Nat} (ha : a < 4294967296) (hb : b < 4294967296) (h : a * 16777619 % 4294967296 = b * 16777619 % 4294967296) : a = b :=
  times_inj_gen (Q := 899433627) (R := 3513497) (by decide) ha hb h
theorem xor_lt32 {a b : Nat} (ha : a < 4294967296) (hb : b < 4294967296) : a ^^^ b < 4294967296 := Nat.xor_lt_two_pow (n := 32) ha hb
theorem sstep_inj {h h' b : Nat} (hh : h < 4294967296) (hh' : h' < 4294967296) (hb : b < 4294967296) (e : sstep h b = sstep h' b) : h = h' := by
  have := times_inj (xor_lt32 hh hb) (xor_lt32 hh' hb) e
  have h2 : (h ^^^ b) ^^^ b = (h' ^^^ b) ^^^ b := by rw [this]
  rwa [Nat.xor_assoc, Nat.xor_assoc, Nat.xor_self, Nat.xor_zero, Nat.xor_zero] at h2
theorem sstep_inj2 {h b b' : Nat} (hh : h < 4294967296) (hb : b < 4294967296) (hb' : b' < 4294967296) (e : sstep h b = sstep h b') : b = b' := by
  have := times_inj (xor_lt32 hh hb) (xor_lt32 hh hb') e
  have h2 : h ^^^ (h ^^^ b) = h ^^^ (h ^^^ b') := by rw [this]
  rwa [← Nat.xor_assoc, ← Nat.xor_assoc, Nat.xor_self, Nat.zero_xor, Nat.zero_xor] at h2
/-- the checksum of rows -/
def sumF (h : Nat) (p : Nat × Int) : Nat := sstep (sstep h p.1) (p.2 + 2).toNat
def sumL (xs : List Nat) (ys : List Int) (h : Nat) : Nat := (xs.zip ys).foldl sumF h
def sum0 (xs : List Nat) (ys : List Int) : Nat := sumL xs ys 2166136261
theorem sumL_cons (x : Nat) (xs : List Nat) (y : Int) (ys : List Int) (h : Nat) : sumL (x :: xs) (y :: ys) h = sumL xs ys (sumF h (x, y)) := by
  unfold sumL; rw [List.zip_cons_cons, List.foldl_cons]
theorem sumF_eq (x : Nat) (y : Int) (h : Nat) : sumF h (x, y) = sstep (sstep h x) (y + 2).toNat := by unfold sumF; simp only
theorem sumF_lt (p : Nat × Int) (h : Nat) : sumF h p < 4294967296 := by unfold sumF; exact sstep_lt (sstep h p.1) (p.2 + 2).toNat
theorem sumL_nil (ys : List Int) (h : Nat) : sumL [] ys h = h := by unfold sumL; rw [List.zip_nil_left, List.foldl_nil]
theorem sumL_nil2 (xs : List Nat) (h : Nat) : sumL xs [] h = h := by unfold sumL; rw [List.zip_nil_right, List.foldl_nil]
theorem zip_take (xs : List Nat) (ys : List Int) (k : Nat) : (xs.take k).zip (ys.take k) = (xs.zip ys).take k := by
  induction k generalizing xs ys with
  | zero => simp
  | succ k ih =>
    cases xs with
    | nil => simp
    | cons x xs =>
      cases ys with
      | nil => simp
      | cons y ys => rw [List.take_succ_cons, List.take_succ_cons, List.zip_cons_cons, List.zip_cons_cons, List.take_succ_cons, ih]
theorem sum_take (xs : List Nat) (ys : List Int) (h k : Nat) (hx : k < xs.length) (hy : k < ys.length) : sumL (xs.take (k + 1)) (ys.take (k + 1)) h = sumF (sumL (xs.take k) (ys.take k) h) (xs[k], ys[k]) := by
  unfold sumL
  rw [zip_take, zip_take, ← List.take_append_getElem (by rw [List.length_zip]; omega), List.foldl_append, List.foldl_cons, List.foldl_nil, List.getElem_zip]
theorem sumL_inj {xs : List Nat} {ys : List Int} {h h' : Nat} (hx : ∀ x, x ∈ xs → x < 4294967296) (hy : ∀ y, y ∈ ys → -1 ≤ y ∧ y ≤ 2) (hh : h < 4294967296) (hh' : h' < 4294967296) (e : sumL xs ys h = sumL xs ys h') : h = h' := by
  induction xs generalizing ys h h' with
  | nil => rwa [sumL_nil, sumL_nil] at e
  | cons x xs ih =>
    cases ys with
    | nil => rwa [sumL_nil2, sumL_nil2] at e
    | cons y ys =>
      rw [sumL_cons, sumL_cons, sumF_eq, sumF_eq] at e
      have l1 := sstep_lt (sstep h x) (y + 2).toNat
      have l2 := sstep_lt (sstep h' x) (y + 2).toNat
      have h1 := ih (fun z hz => hx z (List.mem_cons_of_mem _ hz)) (fun z hz => hy z (List.mem_cons_of_mem _ hz)) l1 l2 e
      have hy' := hy y (by simp)
      have l3 := sstep_lt h x
      have l4 := sstep_lt h' x
      have h2 := sstep_inj l3 l4 (by omega) h1
      exact sstep_inj hh hh' (hx x (by simp)) h2
theorem sumL_lt {xs : List Nat} {ys : List Int} {h : Nat} (hh : h < 4294967296) : sumL xs ys h < 4294967296 := by
  induction xs generalizing ys h with
  | nil => rwa [sumL_nil]
  | cons x xs ih =>
    cases ys with
    | nil => rwa [sumL_nil2]
    | cons y ys =>
      rw [sumL_cons]
      have l1 := sumF_lt (x, y) h
      exact ih l1
/-- another first mark: another checksum -/
theorem sum_mark {xs : List Nat} {ys : List Int} {x : Nat} {y y' : Int} (hx : ∀ z, z ∈ x :: xs → z < 4294967296) (hy : ∀ z, z ∈ ys → -1 ≤ z ∧ z ≤ 2) (h1 : -1 ≤ y ∧ y ≤ 2) (h2 : -1 ≤ y' ∧ y' ≤ 2) (hne : y ≠ y') : sum0 (x :: xs) (y :: ys) ≠ sum0 (x :: xs) (y' :: ys) := by
  intro e
  unfold sum0 at e
  rw [sumL_cons, sumL_cons, sumF_eq, sumF_eq] at e
  generalize (2166136261 : Nat) = q at e
  have l1 := sstep_lt (sstep q x) (y + 2).toNat
  have l2 := sstep_lt (sstep q x) (y' + 2).toNat
  have h3 := sumL_inj (fun z hz => hx z (List.mem_cons_of_mem _ hz)) hy l1 l2 e
  have l3 := sstep_lt q x
  have h4 := sstep_inj2 l3 (by omega) (by omega) h3
  omega
/-- another first smooth value: another checksum -/
theorem sum_smooth {xs : List Nat} {ys : List Int} {x x' : Nat} {y : Int} (hx : ∀ z, z ∈ xs → z < 4294967296) (hy : ∀ z, z ∈ ys → -1 ≤ z ∧ z ≤ 2) (h0 : -1 ≤ y ∧ y ≤ 2) (h1 : x < 4294967296) (h2 : x' < 4294967296) (hne : x ≠ x') : sum0 (x :: xs) (y :: ys) ≠ sum0 (x' :: xs) (y :: ys) := by
  intro e
  unfold sum0 at e
  rw [sumL_cons, sumL_cons, sumF_eq, sumF_eq] at e
  have l0 : (2166136261 : Nat) < 4294967296 := by decide
  generalize (2166136261 : Nat) = q at e l0
  have l1 := sstep_lt (sstep q x) (y + 2).toNat
  have l2 := sstep_lt (sstep q x') (y + 2).toNat
  have h3 := sumL_inj hx hy l1 l2 e
  have l3 := sstep_lt q x
  have l4 := sstep_lt q x'
  have h4 := sstep_inj l3 l4 (by omega) h3
  exact hne (sstep_inj2 l0 h1 h2 h4)
end Go.Proofs.Ytalmhbcmagjheaa
end

section
/- Floats: the bits of whole numbers. Plain. -/
namespace Go.Proofs.Ytalmhbcmagjheaa
namespace Flo
open Ieee

theorem and_keep (a m : Nat) (ha : a < 2 ^ 64) (h : a % 2 ^ m = 0) (hm : m ≤ 64) : a &&& (2 ^ 64 - 1 - (2 ^ m - 1)) = a := by
  have hle : 2 ^ m ≤ 2 ^ 64 := Nat.pow_le_pow_right (by omega) hm
  have hp := Nat.two_pow_pos m
  rw [show 2 ^ 64 - 1 - (2 ^ m - 1) = 2 ^ 64 - ((2 ^ m - 1) + 1) by omega]
  apply Nat.eq_of_testBit_eq
  intro i
  rw [Nat.testBit_and, Nat.testBit_two_pow_sub_succ (by omega), Nat.testBit_two_pow_sub_one]
  by_cases h1 : i < m
  · have : (a % 2 ^ m).testBit i = (decide (i < m) && a.testBit i) := Nat.testBit_mod_two_pow _ _ _
    rw [h, Nat.zero_testBit, decide_eq_true h1, Bool.true_and] at this
    rw [← this, Bool.false_and]
  · by_cases h2 : i < 64
    · simp [h1, h2]
    · have : a.testBit i = false := Nat.testBit_lt_two_pow (Nat.lt_of_lt_of_le ha (Nat.pow_le_pow_right (by omega) (by omega)))
      rw [this, Bool.false_and]
theorem andNot_low (z m : Nat) (hz : z < 18446744073709551616) (h : z % 2 ^ m = 0) (hm : m ≤ 60) : bits .andNot .u64 (z : Int) ((2 ^ m - 1 : Nat) : Int) = z := by
  have hle : 2 ^ m ≤ 2 ^ 60 := Nat.pow_le_pow_right (by omega) hm
  rw [u64_andNot_nat z (2 ^ m - 1) hz (by omega)]
  have := and_keep z m (by omega) h (by omega)
  rw [show (18446744073709551615 : Nat) = 2 ^ 64 - 1 by decide, this]
theorem andNot_sign (z : Nat) (hz : z < 18446744073709551616) : bits .andNot .u64 (z : Int) 9223372036854775808 = ((z % 9223372036854775808 : Nat) : Int) := by
  have h := u64_andNot_nat z 9223372036854775808 hz (by omega)
  rw [show (18446744073709551615 - 9223372036854775808 : Nat) = 2 ^ 63 - 1 by decide, Nat.and_two_pow_sub_one_eq_mod] at h
  exact h
theorem one_val : Val double 4607182418800017408 ((1 : Int) * (2 ^ u64 : Nat)) := by
  have := ofInt_val (k := .f64) least64 1 (by show _ < 2 * double.binade; rw [double_binade]; omega) (by show (u64 + 2) * double.binade ≤ double.infRung; rw [double_inf, u64_eq]; exact Nat.mul_le_mul_right _ (by omega))
  have e : floatOfInt .f64 1 = 4607182418800017408 := by kernel_rfl
  rw [e] at this
  exact this
theorem zero_val : Val double 0 ((0 : Int) * (2 ^ u64 : Nat)) := by
  have := ofInt_val (k := .f64) least64 0 (by show _ < 2 * double.binade; rw [double_binade]; omega) (by show (u64 + 2) * double.binade ≤ double.infRung; rw [double_inf, u64_eq]; exact Nat.mul_le_mul_right _ (by omega))
  have e : floatOfInt .f64 0 = 0 := by kernel_rfl
  rw [e] at this
  exact this
/-- the greatest float64 -/
def e45 : Nat := 2045
theorem e45_eq : e45 = 2045 := rfl
def maxU : Nat := (2 ^ 53 - 1) * 2 ^ e45
theorem max_rv : rv double (rung double 9218868437227405311) = maxU := by kernel_rfl
theorem max_val : Val double 9218868437227405311 (maxU : Int) := by
  refine ⟨by decide, by unfold fin; decide, ?_⟩
  unfold iv
  rw [if_neg (by decide), max_rv]
theorem max_ge : 8192 * 2 ^ u64 ≤ maxU := by
  unfold maxU
  calc 8192 * 2 ^ u64 ≤ (2 ^ 53 - 1) * 2 ^ u64 := Nat.mul_le_mul_right _ (by decide)
    _ ≤ (2 ^ 53 - 1) * 2 ^ e45 := Nat.mul_le_mul_left _ (Nat.pow_le_pow_right (by omega) (by rw [u64_eq, e45_eq]; omega))
theorem mul_lt_iff {a b : Int} : (a * (2 ^ u64 : Nat) < b * (2 ^ u64 : Nat)) ↔ a < b := by
  have hp : (0 : Int) < (2 ^ u64 : Nat) := by have := Nat.two_pow_pos u64; omega
  exact ⟨fun h => Int.lt_of_mul_lt_mul_right h (Int.le_of_lt hp), fun h => Int.mul_lt_mul_of_pos_right h hp⟩
theorem mul_eq_iff {a b : Int} : (a * (2 ^ u64 : Nat) = b * (2 ^ u64 : Nat)) ↔ a = b := by
  have hp : ((2 ^ u64 : Nat) : Int) ≠ 0 := by have := Nat.two_pow_pos u64; omega
  exact ⟨fun h => Int.eq_of_mul_eq_mul_right hp h, fun h => by rw [h]⟩
/-- the sign of a word is that of its number -/
theorem val_pos {f : Format} {x : Nat} {v : Int} (h : Val f x v) (hv : 0 < v) : x = rung f x ∧ sgn f x = false := by
  have hiv := h.iv
  unfold iv at hiv
  cases hs : sgn f x with
  | true => rw [hs] at hiv; simp at hiv; omega
  | false =>
    refine ⟨?_, rfl⟩
    have hp := signWeight_pos f
    unfold sgn at hs
    have hl : x < 2 * f.signWeight := by
      have := h.lt
      unfold Format.width at this
      unfold Format.signWeight
      rw [Nat.add_assoc, Nat.pow_add] at this
      exact this
    have hq : x / f.signWeight < 2 := (Nat.div_lt_iff_lt_mul hp).2 hl
    have h0 : x / f.signWeight = 0 := by
      generalize x / f.signWeight = q at *
      rcases (by omega : q = 0 ∨ q = 1) with h | h
      · exact h
      · rw [h] at hs; simp at hs
    unfold rung
    exact (Nat.mod_eq_of_lt ((Nat.div_eq_zero_iff_lt hp).1 h0)).symm
/-- the bits of a small positive whole number -/
theorem whole_bits {z : Nat} {A : Int} (h1 : 1 ≤ A) (h2 : A ≤ 8192) (hz : Val double z (A * (2 ^ u64 : Nat))) : ∃ k, k ≤ 13 ∧ z < 9223372036854775808 ∧ z / 4503599627370496 = k + 1023 ∧ z % 2 ^ (52 - k) = 0 := by
  obtain ⟨a, rfl⟩ := Int.eq_ofNat_of_zero_le (show 0 ≤ A by omega)
  have hU := Nat.two_pow_pos u64
  have hpos : (0 : Int) < (a : Int) * (2 ^ u64 : Nat) := Int.mul_pos (by omega) (by omega)
  obtain ⟨hr, hs⟩ := val_pos hz hpos
  have hdg := val_digits hz
  rw [Int.natAbs_mul, Int.natAbs_natCast, Int.natAbs_natCast] at hdg
  have hm := rm_lt double (rung double z)
  have heq := rung_eq double (rung double z)
  rw [← hr] at hdg hm heq
  have hge := rm_ge double z
  rw [double_binade] at hm heq hge
  have hzb := hz.fin
  unfold fin at hzb
  rw [← hr, double_inf, double_binade] at hzb
  generalize re double z = e at *
  generalize rm double z = m at *
  have he1 : 1022 ≤ e := by
    rcases Nat.lt_or_ge e 1022 with h | h
    · exfalso
      have h3 : m * 2 ^ e < 9007199254740992 * 2 ^ e := Nat.mul_lt_mul_of_pos_right (by omega) (Nat.two_pow_pos _)
      have h4 : 9007199254740992 * 2 ^ e ≤ 2 ^ u64 := by
        rw [show (9007199254740992 : Nat) = 2 ^ 53 by decide, ← Nat.pow_add]
        exact Nat.pow_le_pow_right (by omega) (by rw [u64_eq]; omega)
      have h5 : 1 * 2 ^ u64 ≤ a * 2 ^ u64 := Nat.mul_le_mul_right _ (by omega)
      rw [hdg] at h5
      generalize m * 2 ^ e = X at *
      generalize 9007199254740992 * 2 ^ e = Y at *
      generalize 2 ^ u64 = U at *
      omega
    · exact h
  have he2 : e ≤ 1035 := by
    rcases Nat.lt_or_ge 1035 e with h | h
    · exfalso
      have h3 : 4503599627370496 * 2 ^ (u64 - 38) ≤ m * 2 ^ e := Nat.mul_le_mul (hge (by omega)) (Nat.pow_le_pow_right (by omega) (by rw [u64_eq]; omega))
      have h4 : a * 2 ^ u64 ≤ 8192 * 2 ^ u64 := Nat.mul_le_mul_right _ (by omega)
      have h5 : 4503599627370496 * 2 ^ (u64 - 38) = 2 * (8192 * 2 ^ u64) := by
        rw [show (4503599627370496 : Nat) = 2 ^ 52 by decide, show (8192 : Nat) = 2 ^ 13 by decide, ← Nat.pow_add, ← Nat.pow_add, ← Nat.pow_succ']
        congr 1
      rw [h5, ← hdg] at h3
      generalize a * 2 ^ u64 = X at *
      generalize 2 ^ u64 = U at *
      omega
    · exact h
  have hge' := hge (by omega)
  obtain ⟨k, hk⟩ : ∃ k, e = 1022 + k := ⟨e - 1022, by omega⟩
  subst hk
  have hma : m = a * 2 ^ (52 - k) := by
    have : m * 2 ^ (1022 + k) = a * 2 ^ (52 - k) * 2 ^ (1022 + k) := by
      rw [← hdg, Nat.mul_assoc, ← Nat.pow_add, show 52 - k + (1022 + k) = u64 by rw [u64_eq]; omega]
    exact Nat.eq_of_mul_eq_mul_right (Nat.two_pow_pos _) this
  refine ⟨k, by omega, by omega, by omega, ?_⟩
  rw [heq, hma]
  have h52 : 4503599627370496 = 2 ^ k * 2 ^ (52 - k) := by
    rw [← Nat.pow_add, show k + (52 - k) = 52 by omega]
  rw [h52, ← Nat.mul_assoc, ← Nat.add_mul]
  exact Nat.mul_mod_left _ _
end Flo
end Go.Proofs.Ytalmhbcmagjheaa
end

section
/- Plain: floats that are the same, or no numbers both. -/
namespace Go.Proofs.Ytalmhbcmagjheaa.Flo
open Go.RowKit Ieee

/-- the same float, or no number both -/
def Al (k : FloatKind) (x y : Nat) : Prop := x = y ∨ (nan k x = true ∧ nan k y = true)
theorem Al.refl (k : FloatKind) (x : Nat) : Al k x x := .inl rfl
theorem Al.symm {k : FloatKind} {x y : Nat} (h : Al k x y) : Al k y x := h.elim (fun h => .inl h.symm) (fun h => .inr ⟨h.2, h.1⟩)
theorem Al.nan_eq {k : FloatKind} {x y : Nat} (h : Al k x y) : nan k x = nan k y := by
  rcases h with rfl | ⟨h1, h2⟩
  · rfl
  · rw [h1, h2]
theorem Al.trans {k : FloatKind} {x y z : Nat} (h : Al k x y) (g : Al k y z) : Al k x z := by
  rcases h with rfl | ⟨h1, h2⟩
  · exact g
  · exact .inr ⟨h1, by rw [← g.nan_eq]; exact h2⟩
theorem Al.order {k : FloatKind} {x y x' y' : Nat} (h : Al k x x') (g : Al k y y') : k.format.order x y = k.format.order x' y' := by
  rcases h with rfl | ⟨h1, h2⟩
  · rcases g with rfl | ⟨g1, g2⟩
    · rfl
    · rw [order_nan_right x g1, order_nan_right x g2]
  · rw [order_nan_left y h1, order_nan_left y' h2]
theorem sum_number {a b d : Datum} (h : Datum.sum a b = some d) : d.isNaN = false := by
  cases a <;> cases b <;> simp [Datum.sum] at h
  all_goals first
    | (obtain ⟨_, rfl⟩ := h; rfl)
    | (subst h; rfl)
theorem product_number {a b d : Datum} (h : Datum.product a b = some d) : d.isNaN = false := by
  cases a <;> cases b <;> simp [Datum.product] at h
  all_goals first
    | (obtain ⟨_, rfl⟩ := h; rfl)
    | (subst h; rfl)
theorem quotient_number {n : Nat} {a b d : Datum} (h : Datum.quotient n a b = some d) : d.isNaN = false := by
  cases a <;> cases b <;> simp [Datum.quotient] at h
  all_goals first
    | (subst h; rfl)
    | skip
  split at h
  · split at h
    · cases h
    · injection h with h; subst h; rfl
  · injection h with h; subst h; rfl
theorem write_number (f : Format) {d : Datum} (h : d.isNaN = false) : (f.read (f.write d)).isNaN = false := by
  cases d with
  | nan _ _ => cases h
  | infinity s => exact word_number f s _ (Nat.le_refl _)
  | number s m e => exact nearest_number f s m e
theorem floatBits_number {op : BinOp} {k : FloatKind} {x y r : Nat} (h : floatBits op k x y = some r) : nan k r = false := by
  unfold nan FloatKind.decode
  cases op <;> simp only [floatBits, Format.add, Format.sub, Format.mul, Format.div, Option.map_eq_some_iff] at h
  case add => obtain ⟨d, hd, rfl⟩ := h; exact write_number _ (sum_number hd)
  case sub => obtain ⟨d, hd, rfl⟩ := h; exact write_number _ (sum_number hd)
  case mul => obtain ⟨d, hd, rfl⟩ := h; exact write_number _ (product_number hd)
  case quo => obtain ⟨d, hd, rfl⟩ := h; exact write_number _ (quotient_number hd)
  all_goals cases h
theorem floatBits_left {op : BinOp} {k : FloatKind} {x : Nat} (y : Nat) (h : nan k x = true) : floatBits op k x y = none := by
  unfold nan FloatKind.decode at h
  cases op <;> simp only [floatBits, Format.add, Format.sub, Format.mul, Format.div]
  all_goals cases hx : k.format.read x <;> simp_all [Datum.isNaN, Datum.sum, Datum.product, Datum.quotient]
theorem floatBits_right {op : BinOp} {k : FloatKind} {y : Nat} (x : Nat) (h : nan k y = true) : floatBits op k x y = none := by
  unfold nan FloatKind.decode at h
  cases op <;> simp only [floatBits, Format.add, Format.sub, Format.mul, Format.div]
  all_goals cases hy : k.format.read y <;> simp_all [Datum.isNaN]
  all_goals cases hx : k.format.read x <;> simp [Datum.opposite, Datum.sum, Datum.product, Datum.quotient]
/-- some float that is no number -/
def nanW : FloatKind → Nat
  | .f32 => 2143289344
  | .f64 => 9221120237041090560
theorem nanW_nan (k : FloatKind) : nan k (nanW k) = true := by cases k <;> decide
/-- the result of an operation -/
def opC (op : BinOp) (k : FloatKind) (x y : Nat) : Nat := (floatBits op k x y).getD (nanW k)
theorem opC_al {op : BinOp} {k : FloatKind} {x y x' y' : Nat} (h : Al k x x') (g : Al k y y') : opC op k x y = opC op k x' y' := by
  rcases h with rfl | ⟨h1, h2⟩
  · rcases g with rfl | ⟨g1, g2⟩
    · rfl
    · unfold opC; rw [floatBits_right x g1, floatBits_right x g2]
  · unfold opC; rw [floatBits_left y h1, floatBits_left y' h2]
theorem cut_nan (k : FloatKind) (x y t : Nat) : nan k ((Question.nanBits k x y).cut t) = true := by
  cases k
  · exact nan_cut32 _
  · exact nan_cut64 _
theorem arith_al {P : Program} (op : BinOp) (hop : op = .add ∨ op = .sub ∨ op = .mul ∨ op = .quo) (t : TypeId) (k : FloatKind) (x y : Nat) (w : World) :
    ∃ z w', (binOp op t (.float k x) (.float k y)).run P w = .ok (.float k z) w' ∧ z < 2 ^ k.format.width ∧ Drw w w' ∧ Al k (opC op k x y) z := by
  cases h : floatBits op k x y with
  | some r =>
    refine ⟨r, w, run_float_arith w op t k x y r h, ?_, Drw.refl w, .inl ?_⟩
    · have := floatBits_wf h
      cases k <;> simpa [Lit.wf, width32, width64] using this
    · unfold opC; rw [h]; rfl
  | none =>
    refine ⟨(Question.nanBits k x y).cut (w.tape w.drawn (Question.nanBits k x y)), w.drew, ?_, ?_, (Drw.refl w).drew, .inr ⟨?_, cut_nan _ _ _ _⟩⟩
    · unfold floatBits at h
      rcases hop with rfl | rfl | rfl | rfl <;> simp only at h <;> simp [binOp, Op.floatArith, h] <;> (intro hf; simp [Question.forced] at hf)
    · cases k
      · exact cut_lt32 _ _ _
      · exact cut_lt64 _ _ _
    · unfold opC; rw [h]; exact nanW_nan k
theorem opC_lt {op : BinOp} {k : FloatKind} {x y : Nat} : opC op k x y < 2 ^ k.format.width := by
  unfold opC
  cases h : floatBits op k x y with
  | some r =>
    have := floatBits_wf h
    cases k <;> simpa [Lit.wf, width32, width64] using this
  | none => cases k <;> decide
end Go.Proofs.Ytalmhbcmagjheaa.Flo
end
