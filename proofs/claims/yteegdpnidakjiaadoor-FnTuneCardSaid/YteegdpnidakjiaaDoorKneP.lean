/- Plain: the kneading of mirrored small angles. -/
import Derived.Test.YteegdpnidakjiaaDoorPerP
namespace Go.Proofs.YteegdpnidakjiaaDoor

/-- a sign by its number -/
def sgN (a b t : Nat) : Nat := cond (Nat.beq (2 * t) a || Nat.beq (2 * t) (a + b)) 42 (cond (Nat.blt a (2 * t) && Nat.blt (2 * t) (a + b)) 49 48)
theorem signAt_eq (a b k : Nat) : (signAt a b k).toNat = sgN a b (topAt a b k) := by
  unfold signAt sgN
  by_cases h1 : 2 * topAt a b k = a ∨ 2 * topAt a b k = a + b
  · rw [if_pos h1]
    have : (Nat.beq (2 * topAt a b k) a || Nat.beq (2 * topAt a b k) (a + b)) = true := by simpa [Nat.beq_eq] using h1
    rw [this]; rfl
  · rw [if_neg h1]
    have : (Nat.beq (2 * topAt a b k) a || Nat.beq (2 * topAt a b k) (a + b)) = false := by
      rw [← Bool.not_eq_true]; simpa [Nat.beq_eq] using h1
    rw [this]
    by_cases h2 : a < 2 * topAt a b k ∧ 2 * topAt a b k < a + b
    · rw [if_pos h2]
      have : (Nat.blt a (2 * topAt a b k) && Nat.blt (2 * topAt a b k) (a + b)) = true := by simpa [Nat.blt_eq] using h2
      rw [this]; rfl
    · rw [if_neg h2]
      have : (Nat.blt a (2 * topAt a b k) && Nat.blt (2 * topAt a b k) (a + b)) = false := by
        rw [← Bool.not_eq_true]; simpa [Nat.blt_eq] using h2
      rw [this]; rfl
/-- the signs of an angle and of its mirror, and where the stars stand -/
def okKn (n d m p : Nat) (z : Bool) : Nat → Nat → Nat → Nat → Bool
  | 0, _, _, _ => true
  | f + 1, k, t, u => Nat.beq (sgN n d t) (sgN m d u) && (!z || (Nat.beq (sgN n d t) 42 == Nat.beq ((k + 1) % p) 0)) && okKn n d m p z f (k + 1) (2 * t % d) (2 * u % d)
theorem okKn_all : ((List.range 65).all fun d => (List.range d).all fun n => Nat.gcd n d != 1 || (Nat.beq (lowD (d - n) d) d && okKn n d (lowN (d - n) d) (perOf d).2 (Nat.beq (perOf d).1 0) 64 0 n (lowN (d - n) d))) = true := by kernel_rfl
theorem okKn_great : (Nat.beq (lowN (1048576 - 1) 1048576) 1048575 && Nat.beq (lowD (1048576 - 1) 1048576) 1048576 && okKn 1 1048576 1048575 0 false 64 0 1 1048575) = true := by kernel_rfl
theorem okKn_at (n d m p : Nat) (z : Bool) : ∀ (f k : Nat), okKn n d m p z f k (topAt n d k) (topAt m d k) = true → ∀ j, k ≤ j → j < k + f → signAt n d j = signAt m d j ∧ (z = true → ((signAt n d j).toNat = 42 ↔ (j + 1) % p = 0))
  | 0, k, _, j, h1, h2 => by omega
  | f + 1, k, h, j, h1, h2 => by
    unfold okKn at h
    rw [Bool.and_eq_true, Bool.and_eq_true, Nat.beq_eq] at h
    obtain ⟨⟨a1, a2⟩, a3⟩ := h
    by_cases hj : j = k
    · subst hj
      rw [← signAt_eq, ← signAt_eq] at a1
      refine ⟨UInt8.toNat.inj a1, fun hz => ?_⟩
      rw [hz, ← signAt_eq] at a2
      simp only [Bool.not_true, Bool.false_or, beq_iff_eq] at a2
      rw [← Nat.beq_eq, ← Nat.beq_eq, a2]
    · exact okKn_at n d m p z f (k + 1) a3 j (by omega) (by omega)
theorem firsts_same {f g : Nat → UInt8} : ∀ k, (∀ j, j < k → f j = g j) → firsts f k = firsts g k
  | 0, _ => rfl
  | k + 1, h => by
    show firsts f k ++ [f k] = firsts g k ++ [g k]
    rw [firsts_same k (fun j hj => h j (by omega)), h k (by omega)]
theorem firsts_get (f : Nat → UInt8) : ∀ k j, j < k → (firsts f k).getD j 0 = f j
  | 0, j, h => by omega
  | k + 1, j, h => by
    show (firsts f k ++ [f k]).getD j 0 = f j
    rw [List.getD_eq_getElem?_getD]
    by_cases hj : j < k
    · rw [List.getElem?_append_left (by rw [firsts_length]; exact hj), ← List.getD_eq_getElem?_getD]
      exact firsts_get f k j hj
    · have : j = k := by omega
      subst this
      rw [List.getElem?_append_right (by rw [firsts_length]; exact Nat.le_refl _), firsts_length]
      simp
end Go.Proofs.YteegdpnidakjiaaDoor
