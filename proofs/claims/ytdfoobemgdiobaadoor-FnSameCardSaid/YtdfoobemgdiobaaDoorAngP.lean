/- Plain: angles. -/
import Derived.WalkKit
namespace Go.Proofs.YtdfoobemgdiobaaDoor

/-- the tops of an angle's orbit -/
def topAt (a b : Nat) : Nat → Nat
  | 0 => a
  | k + 1 => 2 * topAt a b k % b
theorem topAt_lt {a b : Nat} (h : a < b) : ∀ k, topAt a b k < b
  | 0 => h
  | _ + 1 => Nat.mod_lt _ (by omega)
/-- is it an angle -/
def angleOK (a b : Int) : Bool := decide (1 ≤ b) && decide (b ≤ 1048576) && decide (0 ≤ a) && decide (a < b) && (Nat.gcd a.toNat b.toNat == 1)
theorem angleOK_nat {a b : Int} (h : angleOK a b = true) : ∃ m n : Nat, a = m ∧ b = n ∧ m < n ∧ n ≤ 1048576 ∧ Nat.gcd m n = 1 := by
  simp only [angleOK, Bool.and_eq_true, decide_eq_true_eq, beq_iff_eq] at h
  obtain ⟨⟨⟨⟨h1, h2⟩, h3⟩, h4⟩, h5⟩ := h
  exact ⟨a.toNat, b.toNat, by omega, by omega, by omega, by omega, h5⟩
theorem angleOK_of {m n : Nat} (h1 : m < n) (h2 : n ≤ 1048576) : angleOK m n = (Nat.gcd m n == 1) := by
  have e1 : decide ((1 : Int) ≤ n) = true := by simp; omega
  have e2 : decide ((n : Int) ≤ 1048576) = true := by simp; omega
  have e3 : decide ((0 : Int) ≤ m) = true := by simp
  have e4 : decide ((m : Int) < n) = true := by simp; omega
  unfold angleOK
  rw [e1, e2, e3, e4, Int.toNat_natCast, Int.toNat_natCast]
  rfl
theorem angleOK_not {a b : Int} (h : ¬ (1 ≤ b ∧ b ≤ 1048576 ∧ 0 ≤ a ∧ a < b)) : angleOK a b = false := by
  cases hh : angleOK a b
  · rfl
  · obtain ⟨m, n, rfl, rfl, h1, h2, _⟩ := angleOK_nat hh
    exact absurd ⟨by omega, by omega, by omega, by omega⟩ h
/-- bit number k of an angle -/
def bitAt (a b k : Nat) : UInt8 := if 2 * topAt a b k < b then 48 else 49
/-- sign number k of the kneading -/
def signAt (a b k : Nat) : UInt8 :=
  if 2 * topAt a b k = a ∨ 2 * topAt a b k = a + b then 42 else if a < 2 * topAt a b k ∧ 2 * topAt a b k < a + b then 49 else 48
/-- the first k letters -/
def firsts (f : Nat → UInt8) : Nat → List UInt8
  | 0 => []
  | k + 1 => firsts f k ++ [f k]
theorem firsts_length (f : Nat → UInt8) (k : Nat) : (firsts f k).length = k := by
  induction k with
  | zero => rfl
  | succ k ih => simp [firsts, ih]
/-- is it between -/
def inB (n lo hi : Int) : Bool := decide (lo ≤ n) && decide (n ≤ hi)
theorem inB_yes {n lo hi : Int} (h1 : lo ≤ n) (h2 : n ≤ hi) : inB n lo hi = true := by simp [inB, h1, h2]
theorem inB_no {n lo hi : Int} (h : ¬ (lo ≤ n ∧ n ≤ hi)) : inB n lo hi = false := by
  cases e : inB n lo hi
  · rfl
  · simp only [inB, Bool.and_eq_true, decide_eq_true_eq] at e; exact absurd e h
end Go.Proofs.YtdfoobemgdiobaaDoor
