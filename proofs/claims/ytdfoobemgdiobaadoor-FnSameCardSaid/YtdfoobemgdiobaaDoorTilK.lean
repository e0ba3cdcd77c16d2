/- Plain: counts and checksums of the rows of a tile. -/
import Derived.Test.YtdfoobemgdiobaaDoorTilR
namespace Go.Proofs.YtdfoobemgdiobaaDoor

/-- how many marks are v -/
def cnt (v : Int) (ys : List Int) : Nat := (ys.filter (fun y => decide (y = v))).length
theorem cnt_nil (v : Int) : cnt v [] = 0 := rfl
theorem cnt_cons (v y : Int) (ys : List Int) : cnt v (y :: ys) = cnt v ys + if y = v then 1 else 0 := by
  unfold cnt
  by_cases h : y = v
  · rw [List.filter_cons_of_pos (by simpa using h), if_pos h]; rfl
  · rw [List.filter_cons_of_neg (by simpa using h), if_neg h]; rfl
theorem cnt_snoc (v y : Int) (ys : List Int) : cnt v (ys ++ [y]) = cnt v ys + if y = v then 1 else 0 := by
  unfold cnt
  rw [List.filter_append, List.length_append]
  by_cases h : y = v
  · rw [List.filter_cons_of_pos (by simpa using h), if_pos h]; rfl
  · rw [List.filter_cons_of_neg (by simpa using h), if_neg h]; rfl
theorem cnt_take (v : Int) (ys : List Int) (k : Nat) (h : k < ys.length) : cnt v (ys.take (k + 1)) = cnt v (ys.take k) + if ys[k] = v then 1 else 0 := by
  rw [← List.take_append_getElem h, cnt_snoc]
theorem cnt_le (v : Int) (ys : List Int) : cnt v ys ≤ ys.length := List.length_filter_le _ _
theorem cnt_total {ys : List Int} (h : ∀ y, y ∈ ys → -1 ≤ y ∧ y ≤ 1) : cnt 1 ys + cnt (-1) ys + cnt 0 ys = ys.length := by
  induction ys with
  | nil => rfl
  | cons y ys ih =>
    have h1 := h y (by simp)
    have h2 := ih (fun z hz => h z (List.mem_cons_of_mem _ hz))
    rw [cnt_cons, cnt_cons, cnt_cons, List.length_cons]
    rcases (by omega : y = -1 ∨ y = 0 ∨ y = 1) with rfl | rfl | rfl
    · simp; omega
    · simp; omega
    · simp; omega
theorem cnt_neg (v : Int) (ys : List Int) : cnt v (ys.map (fun y => -y)) = cnt (-v) ys := by
  induction ys with
  | nil => rfl
  | cons y ys ih =>
    rw [List.map_cons, cnt_cons, cnt_cons, ih]
    by_cases h : y = -v
    · rw [if_pos h, if_pos (by omega)]
    · rw [if_neg h, if_neg (by omega)]

/-- a step of the checksum -/
def sstep (h b : Nat) : Nat := ((h ^^^ b) * 16777619) % 4294967296
theorem sstep_lt (h b : Nat) : sstep h b < 4294967296 := Nat.mod_lt _ (by decide)
theorem times_inj_gen {M P Q R a b : Nat} (h : P * Q = 1 + M * R) (ha : a < M) (hb : b < M) (e : a * P % M = b * P % M) : a = b := by
  have k : ∀ x : Nat, x < M → x * P % M * Q % M = x := by
    intro x hx
    rw [Nat.mod_mul_mod, Nat.mul_assoc, h, Nat.mul_add, Nat.mul_one, Nat.mul_left_comm, Nat.add_mul_mod_self_left, Nat.mod_eq_of_lt hx]
  rw [← k a ha, ← k b hb, e]
theorem times_inj {a b : Nat} (ha : a < 4294967296) (hb : b < 4294967296) (h : a * 16777619 % 4294967296 = b * 16777619 % 4294967296) : a = b :=
  times_inj_gen (Q := 899433627) (R := 3513497) (by decide) ha hb h
theorem xor_lt32 {a b : Nat} (ha : a < 4294967296) (hb : b < 4294967296) : a ^^^ b < 4294967296 := Nat.xor_lt_two_pow (n := 32) ha hb
theorem sstep_inj {h h' b : Nat} (hh : h < 4294967296) (hh' : h' < 4294967296) (hb : b < 4294967296) (e : sstep h b = sstep h' b) : h = h' := by
  have := times_inj (xor_lt32 hh hb) (xor_lt32 hh' hb) e
  have h2 : (h ^^^ b) ^^^ b = (h' ^^^ b) ^^^ b := by rw [this]
  rwa [Nat.xor_assoc, Nat.xor_assoc, Nat.xor_self, Nat.xor_zero, Nat.xor_zero] at h2
theorem sstep_inj2 {h b b' : Nat} (hh : h < 4294967296) (hb : b < 4294967296) (hb' : b' < 4294967296) (e : sstep h b = sstep h b') : b = b' := by
  have := times_inj (xor_lt32 hh hb) (xor_lt32 hh hb') e
  have h2 : h ^^^ (h ^^^ b) = h ^^^ (h ^^^ b') := by rw [this]
  rwa [← Nat.xor_assoc, ← Nat.xor_assoc, Nat.xor_self, Nat.zero_xor, Nat.zero_xor] at h2
/-- the checksum of rows -/
def sumF (h : Nat) (p : Nat × Int) : Nat := sstep (sstep h p.1) (p.2 + 2).toNat
def sumL (xs : List Nat) (ys : List Int) (h : Nat) : Nat := (xs.zip ys).foldl sumF h
def sum0 (xs : List Nat) (ys : List Int) : Nat := sumL xs ys 2166136261
theorem sumL_cons (x : Nat) (xs : List Nat) (y : Int) (ys : List Int) (h : Nat) : sumL (x :: xs) (y :: ys) h = sumL xs ys (sumF h (x, y)) := by
  unfold sumL; rw [List.zip_cons_cons, List.foldl_cons]
theorem sumF_eq (x : Nat) (y : Int) (h : Nat) : sumF h (x, y) = sstep (sstep h x) (y + 2).toNat := by unfold sumF; simp only
theorem sumF_lt (p : Nat × Int) (h : Nat) : sumF h p < 4294967296 := by unfold sumF; exact sstep_lt (sstep h p.1) (p.2 + 2).toNat
theorem sumL_nil (ys : List Int) (h : Nat) : sumL [] ys h = h := by unfold sumL; rw [List.zip_nil_left, List.foldl_nil]
theorem sumL_nil2 (xs : List Nat) (h : Nat) : sumL xs [] h = h := by unfold sumL; rw [List.zip_nil_right, List.foldl_nil]
theorem zip_take (xs : List Nat) (ys : List Int) (k : Nat) : (xs.take k).zip (ys.take k) = (xs.zip ys).take k := by
  induction k generalizing xs ys with
  | zero => simp
  | succ k ih =>
    cases xs with
    | nil => simp
    | cons x xs =>
      cases ys with
      | nil => simp
      | cons y ys => rw [List.take_succ_cons, List.take_succ_cons, List.zip_cons_cons, List.zip_cons_cons, List.take_succ_cons, ih]
theorem sum_take (xs : List Nat) (ys : List Int) (h k : Nat) (hx : k < xs.length) (hy : k < ys.length) : sumL (xs.take (k + 1)) (ys.take (k + 1)) h = sumF (sumL (xs.take k) (ys.take k) h) (xs[k], ys[k]) := by
  unfold sumL
  rw [zip_take, zip_take, ← List.take_append_getElem (by rw [List.length_zip]; omega), List.foldl_append, List.foldl_cons, List.foldl_nil, List.getElem_zip]
theorem sumL_inj {xs : List Nat} {ys : List Int} {h h' : Nat} (hx : ∀ x, x ∈ xs → x < 4294967296) (hy : ∀ y, y ∈ ys → -1 ≤ y ∧ y ≤ 2) (hh : h < 4294967296) (hh' : h' < 4294967296) (e : sumL xs ys h = sumL xs ys h') : h = h' := by
  induction xs generalizing ys h h' with
  | nil => rwa [sumL_nil, sumL_nil] at e
  | cons x xs ih =>
    cases ys with
    | nil => rwa [sumL_nil2, sumL_nil2] at e
    | cons y ys =>
      rw [sumL_cons, sumL_cons, sumF_eq, sumF_eq] at e
      have l1 := sstep_lt (sstep h x) (y + 2).toNat
      have l2 := sstep_lt (sstep h' x) (y + 2).toNat
      have h1 := ih (fun z hz => hx z (List.mem_cons_of_mem _ hz)) (fun z hz => hy z (List.mem_cons_of_mem _ hz)) l1 l2 e
      have hy' := hy y (by simp)
      have l3 := sstep_lt h x
      have l4 := sstep_lt h' x
      have h2 := sstep_inj l3 l4 (by omega) h1
      exact sstep_inj hh hh' (hx x (by simp)) h2
theorem sumL_lt {xs : List Nat} {ys : List Int} {h : Nat} (hh : h < 4294967296) : sumL xs ys h < 4294967296 := by
  induction xs generalizing ys h with
  | nil => rwa [sumL_nil]
  | cons x xs ih =>
    cases ys with
    | nil => rwa [sumL_nil2]
    | cons y ys =>
      rw [sumL_cons]
      have l1 := sumF_lt (x, y) h
      exact ih l1
/-- another first mark: another checksum -/
theorem sum_mark {xs : List Nat} {ys : List Int} {x : Nat} {y y' : Int} (hx : ∀ z, z ∈ x :: xs → z < 4294967296) (hy : ∀ z, z ∈ ys → -1 ≤ z ∧ z ≤ 2) (h1 : -1 ≤ y ∧ y ≤ 2) (h2 : -1 ≤ y' ∧ y' ≤ 2) (hne : y ≠ y') : sum0 (x :: xs) (y :: ys) ≠ sum0 (x :: xs) (y' :: ys) := by
  intro e
  unfold sum0 at e
  rw [sumL_cons, sumL_cons, sumF_eq, sumF_eq] at e
  generalize (2166136261 : Nat) = q at e
  have l1 := sstep_lt (sstep q x) (y + 2).toNat
  have l2 := sstep_lt (sstep q x) (y' + 2).toNat
  have h3 := sumL_inj (fun z hz => hx z (List.mem_cons_of_mem _ hz)) hy l1 l2 e
  have l3 := sstep_lt q x
  have h4 := sstep_inj2 l3 (by omega) (by omega) h3
  omega
/-- another first smooth value: another checksum -/
theorem sum_smooth {xs : List Nat} {ys : List Int} {x x' : Nat} {y : Int} (hx : ∀ z, z ∈ xs → z < 4294967296) (hy : ∀ z, z ∈ ys → -1 ≤ z ∧ z ≤ 2) (h0 : -1 ≤ y ∧ y ≤ 2) (h1 : x < 4294967296) (h2 : x' < 4294967296) (hne : x ≠ x') : sum0 (x :: xs) (y :: ys) ≠ sum0 (x' :: xs) (y :: ys) := by
  intro e
  unfold sum0 at e
  rw [sumL_cons, sumL_cons, sumF_eq, sumF_eq] at e
  have l0 : (2166136261 : Nat) < 4294967296 := by decide
  generalize (2166136261 : Nat) = q at e l0
  have l1 := sstep_lt (sstep q x) (y + 2).toNat
  have l2 := sstep_lt (sstep q x') (y + 2).toNat
  have h3 := sumL_inj hx hy l1 l2 e
  have l3 := sstep_lt q x
  have l4 := sstep_lt q x'
  have h4 := sstep_inj l3 l4 (by omega) h3
  exact hne (sstep_inj2 l0 h1 h2 h4)
end Go.Proofs.YtdfoobemgdiobaaDoor
