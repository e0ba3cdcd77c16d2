/- Plain: the angle of two texts of bits has these bits. -/
import Derived.Test.YteegdpnidakjiaaDoorAngOf
namespace Go.Proofs.YteegdpnidakjiaaDoor
/-- the number of a list of bits -/
def val : List UInt8 → Nat
  | [] => 0
  | c :: r => (if c = 49 then 2 ^ r.length else 0) + val r
theorem val_cons (c : UInt8) (r : List UInt8) : val (c :: r) = (if c = 49 then 2 ^ r.length else 0) + val r := rfl
def areBits (l : List UInt8) : Prop := ∀ c, c ∈ l → c = 48 ∨ c = 49
theorem val_lt : ∀ l, val l < 2 ^ l.length
  | [] => by decide
  | c :: r => by
    have := val_lt r
    have e : 2 ^ (c :: r).length = 2 * 2 ^ r.length := by rw [List.length_cons, Nat.pow_succ]; omega
    rw [val_cons]
    split <;> omega
theorem val_append : ∀ l r, val (l ++ r) = val l * 2 ^ r.length + val r
  | [], r => by simp [val]
  | c :: l, r => by
    rw [List.cons_append, val_cons, val_cons, val_append l r, List.length_append, Nat.pow_add]
    split
    · rw [Nat.add_mul]; omega
    · rw [Nat.zero_add, Nat.zero_add]
theorem bits_of {l : List UInt8} {n m : Nat} (h : bitsFrom l n = some m) : areBits l ∧ m = n * 2 ^ l.length + val l := by
  induction l generalizing n with
  | nil => cases h; exact ⟨fun _ h => (by cases h), by simp [val]⟩
  | cons c r ih =>
    unfold bitsFrom at h
    split at h
    · rename_i hc
      have hc' : c = 48 := UInt8.toNat.inj hc
      obtain ⟨h1, h2⟩ := ih h
      refine ⟨fun x hx => ?_, ?_⟩
      · rcases List.mem_cons.1 hx with rfl | hx
        · exact .inl hc'
        · exact h1 x hx
      · rw [h2, List.length_cons, Nat.pow_succ]
        have : val (c :: r) = val r := by rw [val_cons, hc', if_neg (by decide)]; omega
        rw [this, Nat.mul_comm 2 n, Nat.mul_assoc, Nat.mul_comm 2]
    · split at h
      · rename_i hc
        have hc' : c = 49 := UInt8.toNat.inj hc
        obtain ⟨h1, h2⟩ := ih h
        refine ⟨fun x hx => ?_, ?_⟩
        · rcases List.mem_cons.1 hx with rfl | hx
          · exact .inr hc'
          · exact h1 x hx
        · rw [h2, List.length_cons, Nat.pow_succ]
          have : val (c :: r) = 2 ^ r.length + val r := by rw [val_cons, hc', if_pos rfl]
          rw [this, Nat.add_mul, Nat.mul_comm 2 n, Nat.mul_assoc, Nat.mul_comm 2]; omega
      · cases h
/-- bits that are met from a top on -/
def follows (D : Nat) : Nat → List UInt8 → Prop
  | _, [] => True
  | T, c :: r => c = (if 2 * T < D then 48 else 49) ∧ follows D (2 * T % D) r
theorem follows_firsts (a b : Nat) : ∀ (l : List UInt8) (i : Nat), follows b (topAt a b i) l → firsts (bitAt a b) (i + l.length) = firsts (bitAt a b) i ++ l
  | [], i, _ => by simp
  | c :: r, i, h => by
    obtain ⟨h1, h2⟩ := h
    have := follows_firsts a b r (i + 1) h2
    rw [List.length_cons, show i + (r.length + 1) = i + 1 + r.length by omega, this]
    show (firsts (bitAt a b) i ++ [bitAt a b i]) ++ r = _
    rw [show bitAt a b i = c from h1.symm, List.append_assoc]; rfl
theorem follows_scale (g D : Nat) (hg : 1 ≤ g) : ∀ (l : List UInt8) (T : Nat), follows (g * D) (g * T) l → follows D T l
  | [], _, _ => trivial
  | c :: r, T, h => by
    obtain ⟨h1, h2⟩ := h
    have e : 2 * (g * T) = g * (2 * T) := by rw [Nat.mul_left_comm]
    rw [e] at h1 h2
    rw [Nat.mul_mod_mul_left] at h2
    refine ⟨?_, follows_scale g D hg r _ h2⟩
    rw [h1]
    have : (g * (2 * T) < g * D) ↔ (2 * T < D) := Nat.mul_lt_mul_left hg
    by_cases h3 : 2 * T < D
    · rw [if_pos h3, if_pos (this.2 h3)]
    · rw [if_neg h3, if_neg (fun h => h3 (this.1 h))]
/-- the round's part -/
theorem follows_round (K m R : Nat) (hK : 1 ≤ K) (hR : R + 1 = 2 ^ m) (hm : 1 ≤ m) : ∀ (rest done : List UInt8), areBits rest → rest.length + done.length = m → val (rest ++ done) < R → follows (K * R) (K * val (rest ++ done)) rest
  | [], _, _, _, _ => trivial
  | c :: r, dn, hb, hl, hv => by
    have hodd : R % 2 = 1 := by
      obtain ⟨j, rfl⟩ : ∃ j, m = j + 1 := ⟨m - 1, by omega⟩
      rw [Nat.pow_succ] at hR; omega
    have hl' : (r ++ dn).length + 1 = m := by rw [List.length_append]; simp at hl; omega
    have hp : 2 * 2 ^ (r ++ dn).length = R + 1 := by rw [hR, ← hl', Nat.pow_succ]; omega
    have hrot : val (r ++ (dn ++ [c])) = 2 * val (r ++ dn) + (if c = 49 then 1 else 0) := by
      rw [← List.append_assoc, val_append]
      simp [val]
      omega
    have hc0 : val (c :: r ++ dn) = (if c = 49 then 2 ^ (r ++ dn).length else 0) + val (r ++ dn) := rfl
    have hlt := val_lt (r ++ (dn ++ [c]))
    have hlen2 : 2 ^ (r ++ (dn ++ [c])).length = R + 1 := by rw [hR]; congr 1; simp at hl ⊢; omega
    rw [hlen2] at hlt
    have ih := follows_round K m R hK hR hm r (dn ++ [c]) (fun x hx => hb x (by simp [hx])) (by simp at hl ⊢; omega)
    have hc := hb c (by simp)
    rcases hc with rfl | rfl
    · rw [if_neg (by decide)] at hrot hc0
      have hlt2 : val (r ++ (dn ++ [48])) < R := by omega
      have key : 2 * (K * val ((48 : UInt8) :: r ++ dn)) = K * val (r ++ (dn ++ [48])) := by rw [hrot, hc0, Nat.mul_left_comm]; simp
      have hlt3 : K * val (r ++ (dn ++ [48])) < K * R := (Nat.mul_lt_mul_left hK).2 hlt2
      refine ⟨?_, ?_⟩
      · rw [key, if_pos hlt3]
      · rw [key, Nat.mod_eq_of_lt hlt3]; exact ih hlt2
    · rw [if_pos rfl] at hrot hc0
      have e2 : 2 * val ((49 : UInt8) :: r ++ dn) = R + val (r ++ (dn ++ [49])) := by omega
      have hlt2 : val (r ++ (dn ++ [49])) < R := by omega
      have key : 2 * (K * val ((49 : UInt8) :: r ++ dn)) = K * R + K * val (r ++ (dn ++ [49])) := by rw [Nat.mul_left_comm, e2, Nat.mul_add]
      have hlt3 : K * val (r ++ (dn ++ [49])) < K * R := (Nat.mul_lt_mul_left hK).2 hlt2
      refine ⟨?_, ?_⟩
      · rw [key, if_neg (by omega)]
      · rw [key, Nat.add_mod_left, Nat.mod_eq_of_lt hlt3]; exact ih hlt2
/-- the part ahead of it -/
theorem follows_ahead (R b : Nat) (hb : b < R) (tail : List UInt8) : ∀ (rest : List UInt8) (J : Nat), 1 ≤ J → areBits rest → (∀ K, 1 ≤ K → K = J * 2 ^ rest.length → follows (K * R) (K * b) tail) → follows (J * 2 ^ rest.length * R) (J * (val rest * R + b)) (rest ++ tail)
  | [], J, hJ, _, h => by
    have := h J hJ (by simp)
    simpa [val] using this
  | c :: r, J, hJ, hbits, h => by
    have ih := follows_ahead R b hb tail r (J * 2) (by omega) (fun x hx => hbits x (by simp [hx])) (fun K h1 h2 => h K h1 (by rw [h2, List.length_cons, Nat.pow_succ, Nat.mul_assoc, Nat.mul_comm 2]))
    have eD : J * 2 ^ (c :: r).length * R = J * 2 * 2 ^ r.length * R := by rw [List.length_cons, Nat.pow_succ, Nat.mul_assoc J 2, Nat.mul_comm 2]
    rw [← eD] at ih
    have hvr := val_lt r
    have hlt : val r * R + b < 2 ^ r.length * R := by
      have : (val r + 1) * R ≤ 2 ^ r.length * R := Nat.mul_le_mul_right _ (by omega)
      rw [Nat.add_mul] at this; omega
    have hlt3 : J * 2 * (val r * R + b) < J * 2 ^ (c :: r).length * R := by
      rw [eD, Nat.mul_assoc (J * 2)]
      exact (Nat.mul_lt_mul_left (by omega)).2 hlt
    have hc := hbits c (by simp)
    rcases hc with rfl | rfl
    · have hv : val ((48 : UInt8) :: r) = val r := by rw [val_cons, if_neg (by decide)]; omega
      have key : 2 * (J * (val ((48 : UInt8) :: r) * R + b)) = J * 2 * (val r * R + b) := by rw [hv, Nat.mul_comm J 2, Nat.mul_assoc]
      refine ⟨?_, ?_⟩
      · rw [key, if_pos hlt3]
      · rw [key, Nat.mod_eq_of_lt hlt3]; exact ih
    · have hv : val ((49 : UInt8) :: r) = 2 ^ r.length + val r := by rw [val_cons, if_pos rfl]
      have key : 2 * (J * (val ((49 : UInt8) :: r) * R + b)) = J * 2 ^ ((49 : UInt8) :: r).length * R + J * 2 * (val r * R + b) := by
        rw [hv, eD, Nat.add_mul, Nat.add_assoc, Nat.mul_add, Nat.mul_add, Nat.mul_comm J 2, Nat.mul_assoc 2 J, Nat.mul_assoc 2 (J * 2 ^ r.length), Nat.mul_assoc J, Nat.mul_assoc 2 J]
      refine ⟨?_, ?_⟩
      · rw [key, if_neg (by omega)]
      · rw [key, Nat.add_mod_left, Nat.mod_eq_of_lt hlt3]; exact ih
/-- the angle of two lists of bits has these bits -/
theorem low_bits (f s : List UInt8) (hf : areBits f) (hs : areBits s) (h1 : 1 ≤ s.length) (hne : val s ≠ 2 ^ s.length - 1) :
    firsts (bitAt (lowN (val f * (2 ^ s.length - 1) + val s) ((2 ^ s.length - 1) * 2 ^ f.length)) (lowD (val f * (2 ^ s.length - 1) + val s) ((2 ^ s.length - 1) * 2 ^ f.length))) (f.length + s.length) = f ++ s ∧
    lowN (val f * (2 ^ s.length - 1) + val s) ((2 ^ s.length - 1) * 2 ^ f.length) < lowD (val f * (2 ^ s.length - 1) + val s) ((2 ^ s.length - 1) * 2 ^ f.length) ∧
    Nat.gcd (lowN (val f * (2 ^ s.length - 1) + val s) ((2 ^ s.length - 1) * 2 ^ f.length)) (lowD (val f * (2 ^ s.length - 1) + val s) ((2 ^ s.length - 1) * 2 ^ f.length)) = 1 := by
  have hvs := val_lt s
  have hvf := val_lt f
  have hp : 1 ≤ 2 ^ s.length := Nat.one_le_two_pow
  obtain ⟨R, hR⟩ : ∃ R, 2 ^ s.length - 1 = R := ⟨_, rfl⟩
  rw [hR] at hne ⊢
  have hR1 : R + 1 = 2 ^ s.length := by omega
  have hb : val s < R := by omega
  have hND : val f * R + val s < R * 2 ^ f.length := by
    have : (val f + 1) * R ≤ 2 ^ f.length * R := Nat.mul_le_mul_right _ (by omega)
    rw [Nat.add_mul] at this
    rw [Nat.mul_comm R]; omega
  have hfol : follows (R * 2 ^ f.length) (val f * R + val s) (f ++ s) := by
    have := follows_ahead R (val s) hb s f 1 (Nat.le_refl _) hf (fun K h1' _ => by
      have := follows_round K s.length R h1' hR1 h1 s [] hs (by simp) (by simpa using hb)
      simpa using this)
    rw [Nat.one_mul, Nat.one_mul, Nat.mul_comm] at this
    exact this
  obtain ⟨N, hN⟩ : ∃ N, val f * R + val s = N := ⟨_, rfl⟩
  obtain ⟨D, hD⟩ : ∃ D, R * 2 ^ f.length = D := ⟨_, rfl⟩
  rw [hN, hD] at hND hfol ⊢
  have hgp : 1 ≤ Nat.gcd N D := Nat.gcd_pos_of_pos_right _ (by omega)
  unfold lowN lowD
  rw [Nat.mod_eq_of_lt hND]
  have e1 : Nat.gcd N D * (N / Nat.gcd N D) = N := Nat.mul_div_cancel' (Nat.gcd_dvd_left _ _)
  have e2 : Nat.gcd N D * (D / Nat.gcd N D) = D := Nat.mul_div_cancel' (Nat.gcd_dvd_right _ _)
  have hfol2 : follows (D / Nat.gcd N D) (N / Nat.gcd N D) (f ++ s) := follows_scale _ _ hgp _ _ (by rw [e1, e2]; exact hfol)
  refine ⟨?_, ?_, ?_⟩
  · have := follows_firsts (N / Nat.gcd N D) (D / Nat.gcd N D) (f ++ s) 0 hfol2
    rw [List.length_append, Nat.zero_add] at this
    rw [this]; rfl
  · have : Nat.gcd N D * (N / Nat.gcd N D) < Nat.gcd N D * (D / Nat.gcd N D) := by rw [e1, e2]; exact hND
    exact (Nat.mul_lt_mul_left hgp).1 this
  · exact Nat.coprime_div_gcd_div_gcd hgp
theorem angOf_bits {f s : ByteArray} {x y : Nat} (h : angOf f s = some (x, y)) :
    x < y ∧ y ≤ 1048576 ∧ Nat.gcd x y = 1 ∧ firsts (bitAt x y) (f.size + s.size) = f.data.toList ++ s.data.toList ∧ f.size ≤ 9 ∧ 1 ≤ s.size ∧ s.size ≤ 9 := by
  unfold angOf at h
  split at h
  · rename_i a b hf hs
    split at h
    · rename_i hc
      obtain ⟨h1, h2, h3, h4⟩ := hc
      obtain ⟨bf, ef⟩ := bits_of hf
      obtain ⟨bs, es⟩ := bits_of hs
      rw [Nat.zero_mul, Nat.zero_add] at ef es
      subst ef es
      have hlf := len_eq f
      have hls := len_eq s
      obtain ⟨k1, k2, k3⟩ := low_bits f.data.toList s.data.toList bf bs (by omega) (by rw [hls]; exact h4)
      rw [hlf, hls] at k1 k2 k3
      obtain ⟨_, _, _, _, _, o6, _⟩ := of_nums h1 h2 h3 (show val f.data.toList < 2 ^ f.size by rw [← hlf]; exact val_lt _)
      injection h with h
      injection h with hx hy
      rw [hx, hy] at k1 k2 k3
      have := lowD_le (val f.data.toList * (2 ^ s.size - 1) + val s.data.toList) ((2 ^ s.size - 1) * 2 ^ f.size)
      rw [hy] at this
      exact ⟨k2, by omega, k3, k1, h1, h2, h3⟩
    · cases h
  · cases h
end Go.Proofs.YteegdpnidakjiaaDoor
