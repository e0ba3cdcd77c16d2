/- Plain: the period of 2 over an odd bottom, for every bottom. -/
import Derived.Test.YteegdpnidakjiaaDoorPerP
namespace Go.Proofs.YteegdpnidakjiaaDoor

theorem pigeon : ∀ (d : Nat) (f : Nat → Nat), (∀ i, i ≤ d → f i < d) → ∃ i j, i < j ∧ j ≤ d ∧ f i = f j
  | 0, f, h => absurd (h 0 (Nat.le_refl _)) (by omega)
  | d + 1, f, h => by
    by_cases hx : ∃ i, i ≤ d ∧ f i = f (d + 1)
    · obtain ⟨i, h1, h2⟩ := hx
      exact ⟨i, d + 1, by omega, Nat.le_refl _, h2⟩
    · have hn : ∀ i, i ≤ d → f i ≠ f (d + 1) := fun i hi he => hx ⟨i, hi, he⟩
      have hv := h (d + 1) (Nat.le_refl _)
      obtain ⟨i, j, h1, h2, h3⟩ := pigeon d (fun i => if f i = d then f (d + 1) else f i) (fun i hi => by
        show (if f i = d then f (d + 1) else f i) < d
        have := hn i hi
        have := h i (by omega)
        split <;> omega)
      refine ⟨i, j, h1, by omega, ?_⟩
      have h3 : (if f i = d then f (d + 1) else f i) = (if f j = d then f (d + 1) else f j) := h3
      have n1 := hn i (by omega)
      have n2 := hn j h2
      split at h3 <;> split at h3 <;> first | omega | (exfalso; apply n2; omega) | (exfalso; apply n1; omega)
theorem topN_eq (d n : Nat) (hn : n < d) : ∀ j, topN d j n = 2 ^ j * n % d := by
  intro j
  induction j generalizing n with
  | zero => show n = _; rw [Nat.pow_zero, Nat.one_mul, Nat.mod_eq_of_lt hn]
  | succ j ih =>
    show topN d j (2 * n % d) = _
    rw [ih _ (Nat.mod_lt _ (by omega)), Nat.mul_mod, Nat.mod_mod, ← Nat.mul_mod, Nat.pow_succ, Nat.mul_assoc]
/-- the period of 2 over an odd bottom -/
def isPer (odd p : Nat) : Prop := 1 ≤ p ∧ 2 ^ p % odd = 1 % odd ∧ ∀ j, 1 ≤ j → j < p → 2 ^ j % odd ≠ 1 % odd
theorem mod_eq_dvd {a b m : Nat} (h : a ≤ b) : a % m = b % m ↔ m ∣ b - a := by
  constructor
  · intro e
    have := Nat.sub_mod_eq_zero_of_mod_eq e.symm
    exact Nat.dvd_of_mod_eq_zero this
  · rintro ⟨c, hc⟩
    have : b = a + m * c := by omega
    rw [this, Nat.add_mul_mod_self_left]
theorem two_coprime_pow {odd : Nat} (ho : odd % 2 = 1) (i : Nat) : Nat.Coprime odd (2 ^ i) := by
  apply Nat.Coprime.pow_right
  unfold Nat.Coprime
  rw [Nat.gcd_comm, Nat.gcd_rec, ho]
  simp
theorem per_exists {odd : Nat} (ho : odd % 2 = 1) : ∃ p, isPer odd p := by
  obtain ⟨i, j, h1, h2, h3⟩ := pigeon odd (fun i => 2 ^ i % odd) (fun i _ => Nat.mod_lt _ (by omega))
  have h3 : 2 ^ i % odd = 2 ^ j % odd := h3
  rw [mod_eq_dvd (Nat.pow_le_pow_right (by omega) (by omega))] at h3
  have e : 2 ^ j - 2 ^ i = 2 ^ i * (2 ^ (j - i) - 1) := by
    rw [Nat.mul_sub, ← Nat.pow_add, show i + (j - i) = j by omega, Nat.mul_one]
  rw [e] at h3
  have h4 := (two_coprime_pow ho i).dvd_of_dvd_mul_left h3
  have h5 : ∃ k, 1 ≤ k ∧ 2 ^ k % odd = 1 % odd := ⟨j - i, by omega, ((mod_eq_dvd (Nat.one_le_two_pow)).2 h4).symm⟩
  -- the least
  obtain ⟨k, hk⟩ := h5
  clear h3 h4 e h1 h2
  induction k using Nat.strongRecOn with
  | _ k ih =>
    by_cases hx : ∃ j, 1 ≤ j ∧ j < k ∧ 2 ^ j % odd = 1 % odd
    · obtain ⟨j, j1, j2, j3⟩ := hx
      exact ih j j2 ⟨j1, j3⟩
    · exact ⟨k, hk.1, hk.2, fun j j1 j2 j3 => hx ⟨j, j1, j2, j3⟩⟩
theorem per_le {odd p : Nat} (ho : odd % 2 = 1) (h : isPer odd p) : p ≤ odd := by
  obtain ⟨i, j, h1, h2, h3⟩ := pigeon odd (fun i => 2 ^ i % odd) (fun i _ => Nat.mod_lt _ (by omega))
  have h3 : 2 ^ i % odd = 2 ^ j % odd := h3
  rw [mod_eq_dvd (Nat.pow_le_pow_right (by omega) (by omega))] at h3
  have e : 2 ^ j - 2 ^ i = 2 ^ i * (2 ^ (j - i) - 1) := by
    rw [Nat.mul_sub, ← Nat.pow_add, show i + (j - i) = j by omega, Nat.mul_one]
  rw [e] at h3
  have h4 := (two_coprime_pow ho i).dvd_of_dvd_mul_left h3
  have h5 := ((mod_eq_dvd (Nat.one_le_two_pow)).2 h4).symm
  rcases Nat.lt_or_ge (j - i) p with h6 | h6
  · exact absurd h5 (h.2.2 _ (by omega) (by omega))
  · omega
theorem per_unique {odd p q : Nat} (h : isPer odd p) (k : isPer odd q) : p = q := by
  rcases Nat.lt_trichotomy p q with h1 | h1 | h1
  · exact absurd h.2.1 (k.2.2 _ h.1 h1)
  · exact h1
  · exact absurd k.2.1 (h.2.2 _ k.1 h1)
/-- when two tops are the same -/
theorem top_same {n z odd i j : Nat} (ho : odd % 2 = 1) (hn : n < 2 ^ z * odd) (hg : Nat.gcd n (2 ^ z * odd) = 1) (hij : i < j) :
    topN (2 ^ z * odd) i n = topN (2 ^ z * odd) j n ↔ z ≤ i ∧ 2 ^ (j - i) % odd = 1 % odd := by
  rw [topN_eq _ _ hn, topN_eq _ _ hn, mod_eq_dvd (Nat.mul_le_mul_right _ (Nat.pow_le_pow_right (by omega) (by omega))), ← Nat.sub_mul]
  have e : 2 ^ j - 2 ^ i = 2 ^ i * (2 ^ (j - i) - 1) := by
    rw [Nat.mul_sub, ← Nat.pow_add, show i + (j - i) = j by omega, Nat.mul_one]
  have hc : Nat.Coprime (2 ^ z * odd) n := by unfold Nat.Coprime; rw [Nat.gcd_comm]; exact hg
  have hp : 1 ≤ 2 ^ (j - i) := Nat.one_le_two_pow
  have hodd : (2 ^ (j - i) - 1) % 2 = 1 := by
    obtain ⟨k, hk⟩ : ∃ k, j - i = k + 1 := ⟨j - i - 1, by omega⟩
    rw [hk, Nat.pow_succ] at hp ⊢; omega
  constructor
  · intro h
    have h1 := hc.dvd_of_dvd_mul_right h
    rw [e] at h1
    have ha : 2 ^ z ∣ 2 ^ i := by
      have h2 : 2 ^ z ∣ 2 ^ i * (2 ^ (j - i) - 1) := Nat.dvd_trans (Nat.dvd_mul_right _ _) h1
      exact (two_coprime_pow hodd z).symm.dvd_of_dvd_mul_right h2
    have hb : odd ∣ 2 ^ (j - i) - 1 := by
      have h2 : odd ∣ 2 ^ i * (2 ^ (j - i) - 1) := Nat.dvd_trans (Nat.dvd_mul_left _ _) h1
      exact (two_coprime_pow ho i).dvd_of_dvd_mul_left h2
    exact ⟨(Nat.pow_dvd_pow_iff_le_right (by omega)).1 ha, ((mod_eq_dvd hp).2 hb).symm⟩
  · rintro ⟨h1, h2⟩
    have hb := (mod_eq_dvd hp).1 h2.symm
    rw [e]
    exact Nat.dvd_trans (Nat.mul_dvd_mul (Nat.pow_dvd_pow 2 h1) hb) (Nat.dvd_mul_right _ _)
/-- what the period of a bottom is -/
def PerIs (d z p : Nat) : Prop := z = Lib.ctz 64 d ∧ isPer (d / 2 ^ z) p
theorem ctz_parts {d z : Nat} (h0 : d ≠ 0) (h : d < 18446744073709551616) (hz : z = Lib.ctz 64 d) : 2 ^ z * (d / 2 ^ z) = d ∧ d / 2 ^ z % 2 = 1 := by
  obtain ⟨m, hm, _⟩ := Lib.ctzFrom_spec 64 d (by omega) h
  have e : z = Lib.ctzFrom 64 d := by rw [hz]; unfold Lib.ctz; rw [if_neg h0]
  rw [← e] at hm
  have h2 : d / 2 ^ z = 2 * m + 1 := by
    conv => lhs; rw [hm]
    exact Nat.mul_div_cancel_left _ (Nat.two_pow_pos _)
  rw [h2]
  exact ⟨hm.symm, by omega⟩
theorem perIs_parts {d z p : Nat} (h0 : d ≠ 0) (h : d < 18446744073709551616) (hP : PerIs d z p) : 2 ^ z * (d / 2 ^ z) = d ∧ d / 2 ^ z % 2 = 1 ∧ z < 64 ∧ 0 < d / 2 ^ z ∧ d / 2 ^ z ≤ d ∧ 1 ≤ p ∧ p ≤ d / 2 ^ z ∧ 2 ^ z ≤ d := by
  obtain ⟨h1, h2⟩ := ctz_parts h0 h hP.1
  obtain ⟨m, _, h3⟩ := Lib.ctzFrom_spec 64 d (by omega) h
  have e : z = Lib.ctzFrom 64 d := by rw [hP.1]; unfold Lib.ctz; rw [if_neg h0]
  have h4 := Nat.div_le_self d (2 ^ z)
  have h5 := hP.2
  generalize d / 2 ^ z = odd at *
  have h6 : 0 < odd := by omega
  refine ⟨h1, h2, by omega, h6, h4, h5.1, per_le h2 h5, ?_⟩
  have := Nat.le_mul_of_pos_right (2 ^ z) h6
  omega
theorem perIs_exists {d : Nat} (h0 : d ≠ 0) (h : d < 18446744073709551616) : ∃ z p, PerIs d z p := by
  obtain ⟨p, hp⟩ := per_exists (ctz_parts h0 h rfl).2
  exact ⟨_, p, rfl, hp⟩
theorem isPer_dvd {odd p n : Nat} (h : isPer odd p) (hn : 2 ^ n % odd = 1 % odd) : p ∣ n := by
  have hp : ∀ k, 2 ^ (p * k) % odd = 1 % odd := by
    intro k
    induction k with
    | zero => simp
    | succ k ih => rw [Nat.mul_succ, Nat.pow_add, Nat.mul_mod, ih, h.2.1, ← Nat.mul_mod]
  have h1 : 2 ^ (n % p) % odd = 1 % odd := by
    have := hp (n / p)
    have e : 2 ^ n = 2 ^ (p * (n / p)) * 2 ^ (n % p) := by rw [← Nat.pow_add, Nat.div_add_mod]
    rw [e, Nat.mul_mod, this, ← Nat.mul_mod, Nat.one_mul] at hn
    exact hn
  rcases Nat.eq_zero_or_pos (n % p) with h2 | h2
  · exact Nat.dvd_of_mod_eq_zero h2
  · exact absurd h1 (h.2.2 _ h2 (Nat.mod_lt _ h.1))
end Go.Proofs.YteegdpnidakjiaaDoor
