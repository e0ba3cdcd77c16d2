/- Plain: bits of doubled angles; an angle read from its bits. -/
import Derived.Test.YtcdkhacccbdmdaaDoorBitsL
import Derived.Test.YtcdkhacccbdmdaaDoorKneP
namespace Go.Proofs.YtcdkhacccbdmdaaDoor

/-- the first bits behind a top -/
def bl (d : Nat) : Nat → Nat → List UInt8
  | 0, _ => []
  | k + 1, t => (if 2 * t < d then 48 else 49) :: bl d k (2 * t % d)
theorem bl_length (d : Nat) : ∀ k t, (bl d k t).length = k
  | 0, _ => rfl
  | k + 1, _ => by simp [bl, bl_length d k]
theorem bl_follows (d : Nat) : ∀ k t, follows d t (bl d k t)
  | 0, _ => trivial
  | k + 1, _ => ⟨rfl, bl_follows d k _⟩
theorem firsts_bl (n d k : Nat) : firsts (bitAt n d) k = bl d k n := by
  have := follows_firsts n d (bl d k n) 0 (bl_follows d k n)
  rw [bl_length, Nat.zero_add] at this
  rw [this]; rfl
theorem bl_add (d : Nat) : ∀ a b t, bl d (a + b) t = bl d a t ++ bl d b (topN d a t)
  | 0, b, t => by rw [Nat.zero_add]; rfl
  | a + 1, b, t => by
    rw [show a + 1 + b = (a + b) + 1 by omega]
    show _ :: bl d (a + b) _ = _ :: (bl d a _ ++ bl d b (topN d a _))
    rw [bl_add d a b]
theorem bl_scale (g d : Nat) (hg : 1 ≤ g) : ∀ k t, bl (g * d) k (g * t) = bl d k t
  | 0, _ => rfl
  | k + 1, t => by
    have e : 2 * (g * t) = g * (2 * t) := by rw [Nat.mul_left_comm]
    have h : (g * (2 * t) < g * d) ↔ (2 * t < d) := Nat.mul_lt_mul_left hg
    show (if 2 * (g * t) < g * d then (48 : UInt8) else 49) :: bl (g * d) k (2 * (g * t) % (g * d)) = (if 2 * t < d then 48 else 49) :: bl d k (2 * t % d)
    rw [e, Nat.mul_mod_mul_left, bl_scale g d hg k]
    by_cases h2 : 2 * t < d
    · rw [if_pos h2, if_pos (h.2 h2)]
    · rw [if_neg h2, if_neg (fun k => h2 (h.1 k))]
/-- doubling takes the first bit away -/
theorem bits_double (n d k : Nat) (hd : 1 ≤ d) : firsts (bitAt n d) (k + 1) = bitAt n d 0 :: firsts (bitAt (lowN (2 * n) d) (lowD (2 * n) d)) k := by
  have hgp : 1 ≤ Nat.gcd (2 * n % d) d := Nat.gcd_pos_of_pos_right _ (by omega)
  have e1 : Nat.gcd (2 * n % d) d * (2 * n % d / Nat.gcd (2 * n % d) d) = 2 * n % d := Nat.mul_div_cancel' (Nat.gcd_dvd_left _ _)
  have e2 : Nat.gcd (2 * n % d) d * (d / Nat.gcd (2 * n % d) d) = d := Nat.mul_div_cancel' (Nat.gcd_dvd_right _ _)
  rw [firsts_bl, firsts_bl]
  show (if 2 * n < d then (48 : UInt8) else 49) :: bl d k (2 * n % d) = bitAt n d 0 :: _
  unfold lowN lowD
  have e3 := bl_scale (Nat.gcd (2 * n % d) d) (d / Nat.gcd (2 * n % d) d) hgp k (2 * n % d / Nat.gcd (2 * n % d) d)
  rw [e1, e2] at e3
  rw [← e3]
  rfl
/-- .. and is an angle -/
theorem low_ok (n d : Nat) (hd : 1 ≤ d) (hd2 : d ≤ 1048576) : lowN n d < lowD n d ∧ lowD n d ≤ 1048576 ∧ Nat.gcd (lowN n d) (lowD n d) = 1 := by
  have hgp : 1 ≤ Nat.gcd (n % d) d := Nat.gcd_pos_of_pos_right _ (by omega)
  have f1 : Nat.gcd (n % d) d * (n % d / Nat.gcd (n % d) d) = n % d := Nat.mul_div_cancel' (Nat.gcd_dvd_left _ _)
  have f2 : Nat.gcd (n % d) d * (d / Nat.gcd (n % d) d) = d := Nat.mul_div_cancel' (Nat.gcd_dvd_right _ _)
  refine ⟨?_, Nat.le_trans (lowD_le _ _) hd2, Nat.coprime_div_gcd_div_gcd hgp⟩
  unfold lowN lowD
  exact (Nat.mul_lt_mul_left hgp).1 (by rw [f1, f2]; exact Nat.mod_lt _ (by omega))
/-- the number that the next bits spell -/
def numB (d : Nat) : Nat → Nat → Nat → Nat
  | 0, _, acc => acc
  | k + 1, t, acc => numB d k (2 * t % d) (cond (Nat.blt (2 * t) d) (2 * acc) (2 * acc + 1))
theorem bitsFrom_bl (d : Nat) : ∀ k t acc, bitsFrom (bl d k t) acc = some (numB d k t acc)
  | 0, _, _ => rfl
  | k + 1, t, acc => by
    unfold numB bl bitsFrom
    by_cases h : 2 * t < d
    · have hb : Nat.blt (2 * t) d = true := by rw [Nat.blt_eq]; exact h
      rw [if_pos h, if_pos (by decide), hb, bitsFrom_bl d k]; rfl
    · have hb : Nat.blt (2 * t) d = false := by rw [← Bool.not_eq_true, Nat.blt_eq]; exact h
      rw [if_neg h, if_neg (by decide), if_pos (by decide), hb, bitsFrom_bl d k]; rfl
def okRead (n d pre p : Nat) : Bool :=
  Nat.blt 9 pre || Nat.blt 9 p || (Nat.ble 1 p && !Nat.beq (numB d p (topN d pre n) 0) (2 ^ p - 1) &&
    Nat.beq (lowN (numB d pre n 0 * (2 ^ p - 1) + numB d p (topN d pre n) 0) ((2 ^ p - 1) * 2 ^ pre)) n &&
    Nat.beq (lowD (numB d pre n 0 * (2 ^ p - 1) + numB d p (topN d pre n) 0) ((2 ^ p - 1) * 2 ^ pre)) d)
theorem okRead_all : ((List.range 65).all fun d => (List.range d).all fun n => Nat.gcd n d != 1 || okRead n d (perOf d).1 (perOf d).2) = true := by kernel_rfl
/-- an angle whose bits are read -/
theorem read_back {n d : Nat} (hd : d ≤ 64) (hn : n < d) (hg : Nat.gcd n d = 1) (h1 : (perOf d).1 ≤ 9) (h2 : (perOf d).2 ≤ 9) :
    angOf ⟨(bl d (perOf d).1 n).toArray⟩ ⟨(bl d (perOf d).2 (topN d (perOf d).1 n)).toArray⟩ = some (n, d) := by
  have h0 := List.all_eq_true.1 (List.all_eq_true.1 okRead_all d (List.mem_range.2 (by omega))) n (List.mem_range.2 hn)
  have h3 : okRead n d (perOf d).1 (perOf d).2 = true := by rw [hg] at h0; simpa using h0
  generalize (perOf d).1 = pre at *
  generalize (perOf d).2 = p at *
  unfold okRead at h3
  have b1 : Nat.blt 9 pre = false := by rw [← Bool.not_eq_true, Nat.blt_eq]; omega
  have b2 : Nat.blt 9 p = false := by rw [← Bool.not_eq_true, Nat.blt_eq]; omega
  rw [b1, b2] at h3
  simp only [Bool.false_or, Bool.and_eq_true, Nat.ble_eq, Bool.not_eq_true', Nat.beq_eq] at h3
  obtain ⟨⟨⟨c1, c2⟩, c3⟩, c4⟩ := h3
  have c2' : numB d p (topN d pre n) 0 ≠ 2 ^ p - 1 := by
    intro e
    rw [e] at c2
    rw [show Nat.beq (2 ^ p - 1) (2 ^ p - 1) = true by rw [Nat.beq_eq]] at c2
    cases c2
  have s1 : (⟨(bl d pre n).toArray⟩ : ByteArray).size = pre := by show (bl d pre n).toArray.size = pre; simp [bl_length]
  have s2 : (⟨(bl d p (topN d pre n)).toArray⟩ : ByteArray).size = p := by show (bl d p (topN d pre n)).toArray.size = p; simp [bl_length]
  have hf : bitsOf ⟨(bl d pre n).toArray⟩ = some (numB d pre n 0) := by show bitsFrom (bl d pre n).toArray.toList 0 = _; rw [List.toList_toArray]; exact bitsFrom_bl _ _ _ _
  have hs : bitsOf ⟨(bl d p (topN d pre n)).toArray⟩ = some (numB d p (topN d pre n) 0) := by show bitsFrom (bl d p (topN d pre n)).toArray.toList 0 = _; rw [List.toList_toArray]; exact bitsFrom_bl _ _ _ _
  rw [angOf_yes hf hs (by rw [s1, s2]; exact ⟨h1, c1, h2⟩), s1, s2, if_neg c2', c3, c4]
theorem extract_front {l r : List UInt8} {k : Nat} (h : l.length = k) : (⟨(l ++ r).toArray⟩ : ByteArray).extract 0 k = ⟨l.toArray⟩ := by
  subst h
  simp [ByteArray.ext_iff]
theorem extract_back {l r : List UInt8} {k m : Nat} (h : l.length = k) (hm : (l ++ r).length = m) : (⟨(l ++ r).toArray⟩ : ByteArray).extract k m = ⟨r.toArray⟩ := by
  subst h hm
  simp [ByteArray.ext_iff]
end Go.Proofs.YtcdkhacccbdmdaaDoor
