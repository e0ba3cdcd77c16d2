/- Merged texts: FloM, TilQ, JoiQ, TilU. -/
import Derived.Test.YtalmhbcmagjheaaJ9
import Derived.Test.YtalmhbcmagjheaaJ2
import Derived.Test.YtalmhbcmagjheaaJ1
import Derived.Test.YtalmhbcmagjheaaJ11
section
/- Plain: rounding keeps order: sums and quarters of floats lie between numbers that the format has. -/
namespace Go.Proofs.Ytalmhbcmagjheaa
namespace Flo
open Ieee

theorem near_bd {f : Format} {s : Bool} {mag : Nat} {place : Int} {a b : Nat} {T U : Int} (hT : Rep f T) (hU : Rep f U) (hp : place - f.leastPlace = (a : Int) - b)
    (h1 : T * (2 ^ b : Nat) ≤ (if s then -(mag : Int) else mag) * (2 ^ a : Nat)) (h2 : (if s then -(mag : Int) else mag) * (2 ^ a : Nat) ≤ U * (2 ^ b : Nat)) :
    Val f (f.nearest s mag place) (iv f (f.nearest s mag place)) ∧ T ≤ iv f (f.nearest s mag place) ∧ iv f (f.nearest s mag place) ≤ U := by
  obtain ⟨rt, ht, et⟩ := hT
  obtain ⟨ru, hu, eu⟩ := hU
  have hb : (0 : Int) < (2 ^ b : Nat) := by have := Nat.two_pow_pos b; omega
  have hm : (0 : Int) ≤ (mag : Int) * (2 ^ a : Nat) := Int.mul_nonneg (Int.natCast_nonneg _) (Int.natCast_nonneg _)
  cases s with
  | false =>
    simp only [Bool.false_eq_true, if_false] at h1 h2
    have hU0 : 0 ≤ U := by
      rcases Int.lt_or_le U 0 with h | h
      · have := Int.mul_neg_of_neg_of_pos h hb; omega
      · exact h
    have hu2 : mag * 2 ^ a ≤ rv f ru * 2 ^ b := by
      rw [eu]
      have e : (U.natAbs : Int) = U := by omega
      have : ((mag * 2 ^ a : Nat) : Int) ≤ ((U.natAbs * 2 ^ b : Nat) : Int) := by rw [Int.natCast_mul, Int.natCast_mul, e]; exact h2
      exact Int.ofNat_le.1 this
    have r1 := rnd_le (neg := false) hp hu2
    have hw := iv_word f false (rnd f false mag place) (by omega)
    rw [nearest_eq]
    have hv : iv f (f.word false (rnd f false mag place)) = (rv f (rnd f false mag place) : Int) := by rw [hw.2]; rfl
    refine ⟨⟨by rw [← nearest_eq]; exact Format.nearest_lt _ _ _ _, hw.1, rfl⟩, ?_, ?_⟩
    · rw [hv]
      rcases Int.lt_or_le 0 T with h | h
      · have ht2 : rv f rt * 2 ^ b ≤ mag * 2 ^ a := by
          rw [et]
          have e : (T.natAbs : Int) = T := by omega
          have : ((T.natAbs * 2 ^ b : Nat) : Int) ≤ ((mag * 2 ^ a : Nat) : Int) := by rw [Int.natCast_mul, Int.natCast_mul, e]; exact h1
          exact Int.ofNat_le.1 this
        have := rv_mono f (rnd_ge (neg := false) (Nat.le_of_lt ht) hp ht2)
        omega
      · omega
    · rw [hv]
      have := rv_mono f r1
      omega
  | true =>
    simp only [if_true] at h1 h2
    rw [Int.neg_mul] at h1 h2
    have hT0 : T ≤ 0 := by
      rcases Int.lt_or_le 0 T with h | h
      · have := Int.mul_pos h hb; omega
      · exact h
    have ht2 : mag * 2 ^ a ≤ rv f rt * 2 ^ b := by
      rw [et]
      have e : (T.natAbs : Int) = -T := by omega
      have : ((mag * 2 ^ a : Nat) : Int) ≤ ((T.natAbs * 2 ^ b : Nat) : Int) := by rw [Int.natCast_mul, Int.natCast_mul, e, Int.neg_mul]; omega
      exact Int.ofNat_le.1 this
    have r1 := rnd_le (neg := true) hp ht2
    have hw := iv_word f true (rnd f true mag place) (by omega)
    rw [nearest_eq]
    have hv : iv f (f.word true (rnd f true mag place)) = -(rv f (rnd f true mag place) : Int) := by rw [hw.2]; rfl
    refine ⟨⟨by rw [← nearest_eq]; exact Format.nearest_lt _ _ _ _, hw.1, rfl⟩, ?_, ?_⟩
    · rw [hv]
      have := rv_mono f r1
      omega
    · rw [hv]
      rcases Int.lt_or_le U 0 with h | h
      · have hu2 : rv f ru * 2 ^ b ≤ mag * 2 ^ a := by
          rw [eu]
          have e : (U.natAbs : Int) = -U := by omega
          have : ((U.natAbs * 2 ^ b : Nat) : Int) ≤ ((mag * 2 ^ a : Nat) : Int) := by rw [Int.natCast_mul, Int.natCast_mul, e, Int.neg_mul]; omega
          exact Int.ofNat_le.1 this
        have := rv_mono f (rnd_ge (neg := true) (Nat.le_of_lt hu) hp hu2)
        omega
      · omega
theorem add_between {f : Format} {x y : Nat} {a b T U : Int} (hx : Val f x a) (hy : Val f y b) (hT : Rep f T) (hU : Rep f U) (h1 : T ≤ a + b) (h2 : a + b ≤ U) :
    ∃ z, f.add x y = some z ∧ Val f z (iv f z) ∧ T ≤ iv f z ∧ iv f z ≤ U := by
  unfold Format.add
  rw [read_fin hx.fin, read_fin hy.fin]
  have hi : signed (sgn f x) (rm f (rung f x)) (re f (rung f x)) = a := (signed_iv f x).trans hx.iv
  have hj : signed (sgn f y) (rm f (rung f y)) (re f (rung f y)) = b := (signed_iv f y).trans hy.iv
  generalize sgn f x = s at *
  generalize sgn f y = t at *
  generalize rm f (rung f x) = m at *
  generalize rm f (rung f y) = n at *
  generalize re f (rung f x) = i at *
  generalize re f (rung f y) = j at *
  simp only [Datum.sum, Option.map_some, Format.write]
  refine ⟨_, rfl, ?_⟩
  obtain ⟨c, hc⟩ : ∃ c : Nat, min (f.leastPlace + (i : Int)) (f.leastPlace + (j : Int)) = f.leastPlace + c := ⟨min i j, by omega⟩
  rw [hc]
  obtain ⟨i', hi'⟩ : ∃ i', i = i' + c := ⟨i - c, by omega⟩
  obtain ⟨j', hj'⟩ : ∃ j', j = j' + c := ⟨j - c, by omega⟩
  have e1 : (f.leastPlace + (i : Int) - (f.leastPlace + c)).toNat = i' := by omega
  have e2 : (f.leastPlace + (j : Int) - (f.leastPlace + c)).toNat = j' := by omega
  rw [e1, e2]
  rw [hi', signed_scale] at hi
  rw [hj', signed_scale] at hj
  generalize signed s m i' = p at *
  generalize signed t n j' = q at *
  have hsum : (p + q) * (2 ^ c : Nat) = a + b := by rw [Int.add_mul, hi, hj]
  have hsg : (if (if p + q = 0 then s && t else decide (p + q < 0)) then -((p + q).natAbs : Int) else ((p + q).natAbs : Int)) = p + q := by
    by_cases h0 : p + q = 0
    · rw [h0]; simp
    · rw [if_neg h0]
      by_cases hn : p + q < 0
      · rw [decide_eq_true hn, if_pos rfl]; omega
      · rw [decide_eq_false hn, if_neg (by decide)]; omega
  refine near_bd (a := c) (b := 0) hT hU (by omega) ?_ ?_
  · rw [hsg, hsum]; simpa using h1
  · rw [hsg, hsum]; simpa using h2
theorem read_four : single.read 1082130432 = .number false 8388608 (-21) := by decide +kernel
theorem quo_pow {s : Bool} {m N L F : Nat} {i p : Int} (hN : N = 2 ^ L) (hlog : N.log2 = L) (hm : m.log2 ≤ F) :
    ∃ k, (Datum.number s m i).quotient F (.number false N p) = some (.number s (2 * (m * 2 ^ k)) (i - p - (k + L : Nat) - 1)) := by
  refine ⟨F - m.log2, ?_⟩
  have hp := Nat.two_pow_pos L
  have hk : F + N.log2 - m.log2 = (F - m.log2) + L := by rw [hlog]; omega
  generalize F - m.log2 = k at *
  have hdiv : m <<< (k + L) / N = m * 2 ^ k := by
    rw [Nat.shiftLeft_eq, Nat.pow_add, ← Nat.mul_assoc, hN, Nat.mul_div_cancel _ hp]
  have hmod : m <<< (k + L) % N = 0 := by
    rw [Nat.shiftLeft_eq, Nat.pow_add, ← Nat.mul_assoc, hN, Nat.mul_mod_left]
  have h0 : ¬ N = 0 := by omega
  simp only [Datum.quotient, hk, hdiv, hmod, Bool.xor_false, if_neg h0, bne_self_eq_false, Bool.toNat_false, Nat.add_zero]
theorem quarter_core {f : Format} {s : Bool} {m i k L : Nat} {p a T U : Int} (hi : signed s m i = a) (hT : Rep f T) (hU : Rep f U) (hp : p + L = 2) (h1 : 4 * T ≤ a) (h2 : a ≤ 4 * U) :
    Val f (f.nearest s (2 * (m * 2 ^ k)) (f.leastPlace + i - p - (k + L : Nat) - 1)) (iv f (f.nearest s (2 * (m * 2 ^ k)) (f.leastPlace + i - p - (k + L : Nat) - 1))) ∧ T ≤ iv f (f.nearest s (2 * (m * 2 ^ k)) (f.leastPlace + i - p - (k + L : Nat) - 1)) ∧ iv f (f.nearest s (2 * (m * 2 ^ k)) (f.leastPlace + i - p - (k + L : Nat) - 1)) ≤ U := by
  have hp2 : (0 : Int) < (2 ^ k : Nat) := by have := Nat.two_pow_pos k; omega
  have e3 : ((2 ^ (k + 3) : Nat) : Int) = 8 * (2 ^ k : Nat) := by rw [Nat.pow_add]; omega
  have hv : (if s then -((2 * (m * 2 ^ k) : Nat) : Int) else ((2 * (m * 2 ^ k) : Nat) : Int)) * (2 ^ i : Nat) = 2 * (a * (2 ^ k : Nat)) := by
    rw [← hi]
    unfold signed
    rw [Nat.shiftLeft_eq]
    have e : ((2 * (m * 2 ^ k) : Nat) : Int) * (2 ^ i : Nat) = 2 * (((m * 2 ^ i : Nat) : Int) * (2 ^ k : Nat)) := by
      rw [← Int.natCast_mul, ← Int.natCast_mul]
      have : 2 * (m * 2 ^ k) * 2 ^ i = 2 * (m * 2 ^ i * 2 ^ k) := by
        rw [Nat.mul_assoc, Nat.mul_assoc, Nat.mul_assoc, Nat.mul_comm (2 ^ k)]
      omega
    cases s
    · simp only [Bool.false_eq_true, if_false]
      exact e
    · simp only [if_true]
      rw [Int.neg_mul, e, Int.neg_mul, Int.mul_neg]
  generalize ((2 ^ k : Nat) : Int) = K at *
  refine near_bd (a := i) (b := k + 3) hT hU (by omega) ?_ ?_
  · rw [hv, e3]
    have := Int.mul_le_mul_of_nonneg_right h1 (Int.le_of_lt hp2)
    rw [Int.mul_assoc] at this
    rw [Int.mul_left_comm T]
    omega
  · rw [hv, e3]
    have := Int.mul_le_mul_of_nonneg_right h2 (Int.le_of_lt hp2)
    rw [Int.mul_assoc] at this
    rw [Int.mul_left_comm U]
    omega
/-- the fourth part of a float -/
theorem quo4_between {x : Nat} {a T U : Int} (hx : Val single x a) (hT : Rep single T) (hU : Rep single U) (h1 : 4 * T ≤ a) (h2 : a ≤ 4 * U) :
    ∃ z, floatBits .quo .f32 x 1082130432 = some z ∧ Val single z (iv single z) ∧ T ≤ iv single z ∧ iv single z ≤ U := by
  have hi : signed (sgn single x) (rm single (rung single x)) (re single (rung single x)) = a := (signed_iv single x).trans hx.iv
  have hm : (rm single (rung single x)).log2 ≤ single.fractionBits + 2 := by
    have h := rm_lt single (rung single x)
    rcases Nat.eq_zero_or_pos (rm single (rung single x)) with h0 | h0
    · rw [h0]; exact Nat.zero_le _
    · have h2 : rm single (rung single x) < 2 ^ (single.fractionBits + 2) := by
        unfold Format.binade at h
        rw [Nat.pow_succ, Nat.pow_succ]
        omega
      have := (Nat.log2_lt (by omega)).2 h2
      omega
  obtain ⟨k, hk⟩ := quo_pow (s := sgn single x) (m := rm single (rung single x)) (N := 8388608) (L := 23) (F := single.fractionBits + 2) (i := single.leastPlace + re single (rung single x)) (p := -21) (by decide) (by decide +kernel) hm
  refine ⟨_, ?_, quarter_core (k := k) (L := 23) (p := -21) hi hT hU (by decide) h1 h2⟩
  show single.div x 1082130432 = _
  unfold Format.div
  rw [read_fin hx.fin, read_four, hk]
  rfl
def k260 : Nat := 260
theorem k260_eq : k260 = 260 := rfl
theorem rep_small {v : Int} (h : Rep single v) (hb : v.natAbs < 2 ^ k260) : ∃ m e, v.natAbs = m * 2 ^ e ∧ m < 2 * single.binade ∧ e ≤ 249 := by
  obtain ⟨r, hr, he⟩ := h
  refine ⟨rm single r, re single r, he.symm, rm_lt _ _, ?_⟩
  rcases Nat.lt_or_ge 249 (re single r) with h | h
  · exfalso
    have hg := rm_ge single r (by omega)
    have h3 : 2 ^ 23 * 2 ^ (k260 - 10) ≤ rv single r := by
      unfold rv
      refine Nat.mul_le_mul (by rw [single_binade] at hg; exact hg) (Nat.pow_le_pow_right (by decide) (by rw [k260_eq]; omega))
    rw [← Nat.pow_add] at h3
    have h4 : 2 ^ k260 ≤ 2 ^ (23 + (k260 - 10)) := Nat.pow_le_pow_right (by decide) (by rw [k260_eq]; omega)
    omega
  · exact h
theorem rep_more {v : Int} (h : Rep single v) (hb : v.natAbs < 2 ^ k260) : Rep single (2 * v) ∧ Rep single (4 * v) := by
  obtain ⟨m, e, h1, h2, h3⟩ := rep_small h hb
  refine ⟨rep_gen (m := m) (e := e + 1) ?_ h2 ?_, rep_gen (m := m) (e := e + 2) ?_ h2 ?_⟩
  · rw [show (2 * v).natAbs = 2 * v.natAbs by omega, h1, Nat.pow_succ, Nat.mul_left_comm, Nat.mul_comm 2]
  · rw [single_inf]; exact Nat.mul_le_mul_right _ (by omega)
  · rw [show (4 * v).natAbs = 4 * v.natAbs by omega, h1, Nat.pow_add, Nat.mul_left_comm, Nat.mul_comm 4]
  · rw [single_inf]; exact Nat.mul_le_mul_right _ (by omega)
/-- the mean of four floats lies between what bounds them -/
theorem mean_between {a b c d : Nat} {va vb vc vd T U : Int} (ha : Val single a va) (hb : Val single b vb) (hc : Val single c vc) (hd : Val single d vd) (hT : Rep single T) (hU : Rep single U) (bT : T.natAbs < 2 ^ k260) (bU : U.natAbs < 2 ^ k260)
    (h1 : T ≤ va ∧ T ≤ vb ∧ T ≤ vc ∧ T ≤ vd) (h2 : va ≤ U ∧ vb ≤ U ∧ vc ≤ U ∧ vd ≤ U) :
    Val single (opC .quo .f32 (opC .add .f32 (opC .add .f32 a b) (opC .add .f32 c d)) 1082130432) (iv single (opC .quo .f32 (opC .add .f32 (opC .add .f32 a b) (opC .add .f32 c d)) 1082130432)) ∧
      T ≤ iv single (opC .quo .f32 (opC .add .f32 (opC .add .f32 a b) (opC .add .f32 c d)) 1082130432) ∧ iv single (opC .quo .f32 (opC .add .f32 (opC .add .f32 a b) (opC .add .f32 c d)) 1082130432) ≤ U := by
  obtain ⟨t2, t4⟩ := rep_more hT bT
  obtain ⟨u2, u4⟩ := rep_more hU bU
  obtain ⟨x, ex, vx, x1, x2⟩ := add_between ha hb t2 u2 (by omega) (by omega)
  obtain ⟨y, ey, vy, y1, y2⟩ := add_between hc hd t2 u2 (by omega) (by omega)
  obtain ⟨z, ez, vz, z1, z2⟩ := add_between vx vy t4 u4 (by omega) (by omega)
  obtain ⟨q, eq, vq, q1, q2⟩ := quo4_between vz hT hU z1 z2
  have fx : opC .add .f32 a b = x := by unfold opC; rw [show floatBits .add .f32 a b = some x from ex]; rfl
  have fy : opC .add .f32 c d = y := by unfold opC; rw [show floatBits .add .f32 c d = some y from ey]; rfl
  have fz : opC .add .f32 x y = z := by unfold opC; rw [show floatBits .add .f32 x y = some z from ez]; rfl
  have fq : opC .quo .f32 z 1082130432 = q := by unfold opC; rw [eq]; rfl
  rw [fx, fy, fz, fq]
  exact ⟨vq, q1, q2⟩
end Flo
end Go.Proofs.Ytalmhbcmagjheaa
end

section
/- Plain: the range of floats. -/
namespace Go.Proofs.Ytalmhbcmagjheaa
namespace Flo
open Ieee

/-- where a float that is no NaN stands: infinite or not, then its value -/
def kA (f : Format) (x : Nat) : Int := match f.read x with | .infinity s => if s then -1 else 1 | _ => 0
def kB (f : Format) (x : Nat) : Int := match f.read x with | .infinity _ => 0 | _ => iv f x
theorem key_order {k : FloatKind} (he : 1 ≤ k.format.exponentBits) {x y : Nat} (hx : nan k x = false) (hy : nan k y = false) :
    k.format.order x y = some (if kA k.format x < kA k.format y ∨ (kA k.format x = kA k.format y ∧ kB k.format x < kB k.format y) then .lt else if kA k.format x = kA k.format y ∧ kB k.format x = kB k.format y then .eq else .gt) := by
  have nn : ∀ z, nan k z = false → fin k.format z ∨ ∃ s, k.format.read z = .infinity s := by
    intro z hz
    rcases kinds k.format he z with h | h | ⟨s, t, h⟩
    · exact .inl h
    · exact .inr h
    · exfalso
      have : nan k z = true := by
        unfold nan FloatKind.decode
        rw [h]; rfl
      rw [this] at hz; cases hz
  rcases nn x hx with fx | ⟨s, ix⟩
  · obtain ⟨sx, mx, px, rx⟩ : ∃ s m p, k.format.read x = .number s m p := ⟨_, _, _, read_fin fx⟩
    have ax : kA k.format x = 0 := by unfold kA; rw [rx]
    have bx : kB k.format x = iv k.format x := by unfold kB; rw [rx]
    rcases nn y hy with fy | ⟨t, iy⟩
    · obtain ⟨sy, my, py, ry⟩ : ∃ s m p, k.format.read y = .number s m p := ⟨_, _, _, read_fin fy⟩
      have ay : kA k.format y = 0 := by unfold kA; rw [ry]
      have by' : kB k.format y = iv k.format y := by unfold kB; rw [ry]
      rw [order_fin fx fy, ax, ay, bx, by']
      congr 1
      rcases Int.lt_trichotomy (iv k.format x) (iv k.format y) with h | h | h
      · rw [if_pos (by omega)]; exact Int.compare_eq_lt.2 h
      · rw [if_neg (by omega), if_pos (by omega)]; exact Int.compare_eq_eq.2 h
      · rw [if_neg (by omega), if_neg (by omega)]; exact Int.compare_eq_gt.2 h
    · have ay : kA k.format y = if t then -1 else 1 := by unfold kA; rw [iy]
      have by' : kB k.format y = 0 := by unfold kB; rw [iy]
      show (k.format.read x).order (k.format.read y) = _
      rw [ax, ay, bx, by', rx, iy]
      cases t <;> simp [Datum.order]
  · have ax : kA k.format x = if s then -1 else 1 := by unfold kA; rw [ix]
    have bx : kB k.format x = 0 := by unfold kB; rw [ix]
    rcases nn y hy with fy | ⟨t, iy⟩
    · obtain ⟨sy, my, py, ry⟩ : ∃ s m p, k.format.read y = .number s m p := ⟨_, _, _, read_fin fy⟩
      have ay : kA k.format y = 0 := by unfold kA; rw [ry]
      have by' : kB k.format y = iv k.format y := by unfold kB; rw [ry]
      show (k.format.read x).order (k.format.read y) = _
      rw [ax, ay, bx, by', ix, ry]
      cases s <;> simp [Datum.order]
    · have ay : kA k.format y = if t then -1 else 1 := by unfold kA; rw [iy]
      have by' : kB k.format y = 0 := by unfold kB; rw [iy]
      show (k.format.read x).order (k.format.read y) = _
      rw [ax, ay, bx, by', ix, iy]
      cases s <;> cases t <;> simp [Datum.order] <;> decide
end Flo
def fLt (x y : Nat) : Bool := FloatKind.f32.format.order x y == some .lt
def fGt (x y : Nat) : Bool := FloatKind.f32.format.order x y == some .gt
theorem fLt_key {x y : Nat} (hx : Flo.nan .f32 x = false) (hy : Flo.nan .f32 y = false) : fLt x y = true ↔ (Flo.kA Ieee.single x < Flo.kA Ieee.single y ∨ (Flo.kA Ieee.single x = Flo.kA Ieee.single y ∧ Flo.kB Ieee.single x < Flo.kB Ieee.single y)) := by
  unfold fLt
  rw [Flo.key_order (k := .f32) (by decide) hx hy]
  show _ ↔ (Flo.kA FloatKind.f32.format x < Flo.kA FloatKind.f32.format y ∨ (Flo.kA FloatKind.f32.format x = Flo.kA FloatKind.f32.format y ∧ Flo.kB FloatKind.f32.format x < Flo.kB FloatKind.f32.format y))
  split
  · rename_i h; simp [h]
  · rename_i h
    split <;> simp [h]
theorem fGt_key {x y : Nat} (hx : Flo.nan .f32 x = false) (hy : Flo.nan .f32 y = false) : fGt x y = true ↔ (Flo.kA Ieee.single y < Flo.kA Ieee.single x ∨ (Flo.kA Ieee.single y = Flo.kA Ieee.single x ∧ Flo.kB Ieee.single y < Flo.kB Ieee.single x)) := by
  unfold fGt
  rw [Flo.key_order (k := .f32) (by decide) hx hy]
  show _ ↔ (Flo.kA FloatKind.f32.format y < Flo.kA FloatKind.f32.format x ∨ (Flo.kA FloatKind.f32.format y = Flo.kA FloatKind.f32.format x ∧ Flo.kB FloatKind.f32.format y < Flo.kB FloatKind.f32.format x))
  generalize Flo.kA FloatKind.f32.format x = a
  generalize Flo.kA FloatKind.f32.format y = b
  generalize Flo.kB FloatKind.f32.format x = c
  generalize Flo.kB FloatKind.f32.format y = d
  split
  · simp; omega
  · split
    · simp; omega
    · simp; omega
theorem fLe_key {x y : Nat} (hx : Flo.nan .f32 x = false) (hy : Flo.nan .f32 y = false) : (FloatKind.f32.format.order x y == some .lt || FloatKind.f32.format.order x y == some .eq) = true ↔ (Flo.kA Ieee.single x < Flo.kA Ieee.single y ∨ (Flo.kA Ieee.single x = Flo.kA Ieee.single y ∧ Flo.kB Ieee.single x ≤ Flo.kB Ieee.single y)) := by
  rw [Flo.key_order (k := .f32) (by decide) hx hy]
  show _ ↔ (Flo.kA FloatKind.f32.format x < Flo.kA FloatKind.f32.format y ∨ (Flo.kA FloatKind.f32.format x = Flo.kA FloatKind.f32.format y ∧ Flo.kB FloatKind.f32.format x ≤ Flo.kB FloatKind.f32.format y))
  generalize Flo.kA FloatKind.f32.format x = a
  generalize Flo.kA FloatKind.f32.format y = b
  generalize Flo.kB FloatKind.f32.format x = c
  generalize Flo.kB FloatKind.f32.format y = d
  split
  · simp; omega
  · split
    · simp; omega
    · simp; omega
/-- one more value -/
def rgStep (s : Nat × Nat × Bool) (x : Nat) : Nat × Nat × Bool :=
  if Flo.nan .f32 x then s else (if !s.2.2 || fLt x s.1 then x else s.1, if !s.2.2 || fGt x s.2.1 then x else s.2.1, true)
def rgL (xs : List Nat) : Nat × Nat × Bool := xs.foldl rgStep (3212836864, 3212836864, false)
theorem rgL_take (xs : List Nat) (k : Nat) (h : k < xs.length) : rgL (xs.take (k + 1)) = rgStep (rgL (xs.take k)) xs[k] := by
  unfold rgL
  rw [← List.take_append_getElem h, List.foldl_append]; rfl
/-- what the range is of -/
structure RgOK (xs : List Nat) (s : Nat × Nat × Bool) : Prop where
  nl : Flo.nan .f32 s.1 = false
  nh : Flo.nan .f32 s.2.1 = false
  bl : s.1 < 4294967296
  bh : s.2.1 < 4294967296
  le : (FloatKind.f32.format.order s.1 s.2.1 == some .lt || FloatKind.f32.format.order s.1 s.2.1 == some .eq) = true
  all : ∀ x, x ∈ xs → Flo.nan .f32 x = false → s.2.2 = true ∧ fLt x s.1 = false ∧ fGt x s.2.1 = false
theorem RgOK.step {xs : List Nat} {s : Nat × Nat × Bool} (h : RgOK xs s) (x : Nat) (hx : x < 4294967296) : RgOK (xs ++ [x]) (rgStep s x) := by
  cases hn : Flo.nan .f32 x with
  | true =>
    have e : rgStep s x = s := by unfold rgStep; rw [if_pos hn]
    rw [e]
    refine ⟨h.nl, h.nh, h.bl, h.bh, h.le, fun y hy hny => ?_⟩
    rcases List.mem_append.1 hy with hy | hy
    · exact h.all y hy hny
    · rw [List.mem_singleton] at hy; rw [hy, hn] at hny; cases hny
  | false =>
    obtain ⟨low, high, met⟩ := s
    have e : rgStep (low, high, met) x = (if !met || fLt x low then x else low, if !met || fGt x high then x else high, true) := by unfold rgStep; rw [if_neg (by rw [hn]; decide)]
    rw [e]
    obtain ⟨nl, nh, bl, bh, le, all⟩ := h
    simp only at nl nh bl bh le all
    have le' := (fLe_key nl nh).1 le
    have k1 := fLt_key hn nl
    have k2 := fGt_key hn nh
    have ff : ∀ {b : Bool}, (b = false) ↔ ¬ (b = true) := by intro b; cases b <;> simp
    have k3 : fLt x x = false := ff.2 (fun h => by have := (fLt_key hn hn).1 h; omega)
    have k4 : fGt x x = false := ff.2 (fun h => by have := (fGt_key hn hn).1 h; omega)
    have k5 : (FloatKind.f32.format.order x x == some .lt || FloatKind.f32.format.order x x == some .eq) = true := (fLe_key hn hn).2 (by omega)
    cases met with
    | false =>
      simp only [Bool.not_false, Bool.true_or, if_true]
      refine ⟨hn, hn, hx, hx, k5, fun y hy hny => ?_⟩
      rcases List.mem_append.1 hy with hy | hy
      · have := (all y hy hny).1; cases this
      · rw [List.mem_singleton] at hy; subst hy; exact ⟨rfl, k3, k4⟩
    | true =>
      simp only [Bool.not_true, Bool.false_or]
      refine ⟨?_, ?_, ?_, ?_, ?_, fun y hy hny => ?_⟩
      · show Flo.nan .f32 (if fLt x low = true then x else low) = false
        split <;> assumption
      · show Flo.nan .f32 (if fGt x high = true then x else high) = false
        split <;> assumption
      · show (if fLt x low = true then x else low) < _
        split <;> assumption
      · show (if fGt x high = true then x else high) < _
        split <;> assumption
      · show (FloatKind.f32.format.order (if fLt x low = true then x else low) (if fGt x high = true then x else high) == some .lt || FloatKind.f32.format.order (if fLt x low = true then x else low) (if fGt x high = true then x else high) == some .eq) = true
        by_cases c1 : fLt x low = true
        · rw [if_pos c1]
          by_cases c2 : fGt x high = true
          · rw [if_pos c2]; exact k5
          · rw [if_neg c2]
            refine (fLe_key hn nh).2 ?_
            have := k1.1 c1
            omega
        · rw [if_neg c1]
          by_cases c2 : fGt x high = true
          · rw [if_pos c2]
            refine (fLe_key nl hn).2 ?_
            have := k2.1 c2
            omega
          · rw [if_neg c2]; exact le
      · refine ⟨rfl, ?_, ?_⟩
        · show fLt y (if fLt x low = true then x else low) = false
          refine ff.2 (fun hlt => ?_)
          rcases List.mem_append.1 hy with hy | hy
          · have ha := (all y hy hny).2.1
            have h1 : ¬ _ := fun h => ff.1 ha ((fLt_key hny nl).2 h)
            by_cases c1 : fLt x low = true
            · rw [if_pos c1] at hlt
              have := (fLt_key hny hn).1 hlt
              have := k1.1 c1
              omega
            · rw [if_neg c1] at hlt
              exact h1 ((fLt_key hny nl).1 hlt)
          · rw [List.mem_singleton] at hy; subst hy
            by_cases c1 : fLt y low = true
            · rw [if_pos c1, k3] at hlt; cases hlt
            · rw [if_neg c1] at hlt; exact c1 hlt
        · show fGt y (if fGt x high = true then x else high) = false
          refine ff.2 (fun hlt => ?_)
          rcases List.mem_append.1 hy with hy | hy
          · have ha := (all y hy hny).2.2
            have h1 : ¬ _ := fun h => ff.1 ha ((fGt_key hny nh).2 h)
            by_cases c1 : fGt x high = true
            · rw [if_pos c1] at hlt
              have := (fGt_key hny hn).1 hlt
              have := k2.1 c1
              omega
            · rw [if_neg c1] at hlt
              exact h1 ((fGt_key hny nh).1 hlt)
          · rw [List.mem_singleton] at hy; subst hy
            by_cases c1 : fGt y high = true
            · rw [if_pos c1, k4] at hlt; cases hlt
            · rw [if_neg c1] at hlt; exact c1 hlt
theorem rgOK_take {xs : List Nat} (hx : ∀ x, x ∈ xs → x < 4294967296) : ∀ k, k ≤ xs.length → RgOK (xs.take k) (rgL (xs.take k)) := by
  intro k
  induction k with
  | zero =>
    intro _
    rw [List.take_zero]
    exact ⟨by decide, by decide, by decide, by decide, by decide, fun x hx => by cases hx⟩
  | succ k ih =>
    intro hk
    have h := (ih (by omega)).step xs[k] (hx _ (List.getElem_mem (by omega)))
    rw [rgL_take xs k (by omega)]
    rw [List.take_append_getElem (by omega)] at h
    exact h
theorem rgOK_all {xs : List Nat} (hx : ∀ x, x ∈ xs → x < 4294967296) : RgOK xs (rgL xs) := by
  have := rgOK_take hx xs.length (Nat.le_refl _)
  rwa [List.take_length] at this
end Go.Proofs.Ytalmhbcmagjheaa
end

section
/- Plain: the range of a join lies within the range of its parts. -/
namespace Go.Proofs.Ytalmhbcmagjheaa
open Flo Ieee

def mBig : Int := iv single 1900671690
theorem big_pos : Val single 1900671690 mBig := ⟨by decide, by unfold fin; decide, rfl⟩
theorem big_neg : Val single 4048155338 (-mBig) := ⟨by decide, by unfold fin; decide, by decide +kernel⟩
theorem big_lim : mBig.natAbs < 2 ^ k260 := by decide +kernel
theorem big_ge : 0 ≤ mBig := by decide +kernel
/-- a value within both bounds -/
theorem in_range {x : Nat} (hx : x < 4294967296) (h1 : (FloatKind.f32.format.order x 4048155338 == some .gt) = true) (h2 : (FloatKind.f32.format.order x 1900671690 == some .lt) = true) : Val single x (iv single x) ∧ -mBig ≤ iv single x ∧ iv single x ≤ mBig :=
  fin_between (by decide) hx big_neg big_pos (by show (FloatKind.f32.format.order x 4048155338 == some .gt || _) = true; rw [h1]; rfl) (by show (FloatKind.f32.format.order x 1900671690 == some .lt || _) = true; rw [h2]; rfl)
theorem run_min_val {P : Program} {x y : Nat} {a b : Int} (hx : Val single x a) (hy : Val single y b) : ∃ z, Val single z (min a b) ∧ ∀ ts t w, (Builtin.min_ ts t #[.float .f32 x, .float .f32 y]).run P w = .ok (.float .f32 z) w := by
  have ho : FloatKind.f32.format.order x y = some (compare a b) := order_val hx hy
  rcases Int.lt_trichotomy a b with h | h | h
  · rw [Int.compare_eq_lt.2 h] at ho
    exact ⟨x, by rw [Int.min_eq_left (by omega)]; exact hx, fun ts t w => by simp [Builtin.min_, Builtin.min2, ho]⟩
  · rw [Int.compare_eq_eq.2 h] at ho
    by_cases hn : (FloatKind.f32.decode x).neg = true
    · exact ⟨x, by rw [Int.min_eq_left (by omega)]; exact hx, fun ts t w => by simp [Builtin.min_, Builtin.min2, ho, hn]⟩
    · exact ⟨y, by rw [Int.min_eq_right (by omega)]; exact hy, fun ts t w => by simp [Builtin.min_, Builtin.min2, ho, hn]⟩
  · rw [Int.compare_eq_gt.2 h] at ho
    exact ⟨y, by rw [Int.min_eq_right (by omega)]; exact hy, fun ts t w => by simp [Builtin.min_, Builtin.min2, ho]⟩
theorem run_max_val {P : Program} {x y : Nat} {a b : Int} (hx : Val single x a) (hy : Val single y b) : ∃ z, Val single z (max a b) ∧ ∀ ts t w, (Builtin.max_ ts t #[.float .f32 x, .float .f32 y]).run P w = .ok (.float .f32 z) w := by
  have ho : FloatKind.f32.format.order x y = some (compare a b) := order_val hx hy
  rcases Int.lt_trichotomy a b with h | h | h
  · rw [Int.compare_eq_lt.2 h] at ho
    exact ⟨y, by rw [Int.max_eq_right (by omega)]; exact hy, fun ts t w => by simp [Builtin.max_, Builtin.max2, ho]⟩
  · rw [Int.compare_eq_eq.2 h] at ho
    by_cases hn : (FloatKind.f32.decode x).neg = true
    · exact ⟨y, by rw [Int.max_eq_right (by omega)]; exact hy, fun ts t w => by simp [Builtin.max_, Builtin.max2, ho, hn]⟩
    · exact ⟨x, by rw [Int.max_eq_left (by omega)]; exact hx, fun ts t w => by simp [Builtin.max_, Builtin.max2, ho, hn]⟩
  · rw [Int.compare_eq_gt.2 h] at ho
    exact ⟨x, by rw [Int.max_eq_left (by omega)]; exact hx, fun ts t w => by simp [Builtin.max_, Builtin.max2, ho]⟩
theorem lt_val {x y : Nat} {a b : Int} (hx : Val single x a) (hy : Val single y b) : fLt x y = true ↔ a < b := by
  have := order_lt_val (k := .f32) hx hy
  unfold fLt
  rw [this]; simp
theorem gt_val {x y : Nat} {a b : Int} (hx : Val single x a) (hy : Val single y b) : fGt x y = true ↔ b < a := by
  have := order_gt_val (k := .f32) hx hy
  unfold fGt
  rw [this]; simp
/-- where the range's ends lie -/
theorem rgStep_mem {xs : List Nat} {s : Nat × Nat × Bool} {x : Nat} (h1 : s.1 = 3212836864 ∨ s.1 ∈ xs) (h2 : s.2.1 = 3212836864 ∨ s.2.1 ∈ xs) (h3 : s.2.2 = true → s.1 ∈ xs ∧ s.2.1 ∈ xs) (hx : x ∈ xs) :
    ((rgStep s x).1 = 3212836864 ∨ (rgStep s x).1 ∈ xs) ∧ ((rgStep s x).2.1 = 3212836864 ∨ (rgStep s x).2.1 ∈ xs) ∧ ((rgStep s x).2.2 = true → (rgStep s x).1 ∈ xs ∧ (rgStep s x).2.1 ∈ xs) := by
  unfold rgStep
  split
  · exact ⟨h1, h2, h3⟩
  · obtain ⟨low, high, met⟩ := s
    simp only at h1 h2 h3 ⊢
    cases met with
    | false => simp only [Bool.not_false, Bool.true_or, if_true]; exact ⟨.inr hx, .inr hx, fun _ => ⟨hx, hx⟩⟩
    | true =>
      obtain ⟨m1, m2⟩ := h3 rfl
      simp only [Bool.not_true, Bool.false_or]
      refine ⟨.inr ?_, .inr ?_, fun _ => ⟨?_, ?_⟩⟩ <;> split <;> assumption
theorem rgL_mem (xs : List Nat) : ((rgL xs).1 = 3212836864 ∨ (rgL xs).1 ∈ xs) ∧ ((rgL xs).2.1 = 3212836864 ∨ (rgL xs).2.1 ∈ xs) ∧ ((rgL xs).2.2 = true → (rgL xs).1 ∈ xs ∧ (rgL xs).2.1 ∈ xs) := by
  have : ∀ (l : List Nat) (s : Nat × Nat × Bool), (∀ x, x ∈ l → x ∈ xs) → (s.1 = 3212836864 ∨ s.1 ∈ xs) → (s.2.1 = 3212836864 ∨ s.2.1 ∈ xs) → (s.2.2 = true → s.1 ∈ xs ∧ s.2.1 ∈ xs) →
      ((l.foldl rgStep s).1 = 3212836864 ∨ (l.foldl rgStep s).1 ∈ xs) ∧ ((l.foldl rgStep s).2.1 = 3212836864 ∨ (l.foldl rgStep s).2.1 ∈ xs) ∧ ((l.foldl rgStep s).2.2 = true → (l.foldl rgStep s).1 ∈ xs ∧ (l.foldl rgStep s).2.1 ∈ xs) := by
    intro l
    induction l with
    | nil => intro s _ h1 h2 h3; exact ⟨h1, h2, h3⟩
    | cons x l ih =>
      intro s hl h1 h2 h3
      obtain ⟨k1, k2, k3⟩ := rgStep_mem h1 h2 h3 (hl x (List.mem_cons_self ..))
      exact ih _ (fun y hy => hl y (List.mem_cons_of_mem _ hy)) k1 k2 k3
  exact this xs _ (fun _ h => h) (.inl rfl) (.inl rfl) (fun h => by cases h)
theorem minus_one : Val single 3212836864 (iv single 3212836864) ∧ -mBig ≤ iv single 3212836864 ∧ iv single 3212836864 ≤ mBig := ⟨⟨by decide, by unfold fin; decide, rfl⟩, by decide +kernel, by decide +kernel⟩
/-- all values are within the bounds -/
def AllIn (xs : List Nat) : Prop := ∀ x, x ∈ xs → Val single x (iv single x) ∧ -mBig ≤ iv single x ∧ iv single x ≤ mBig
/-- the range of values within the bounds -/
theorem range_of {xs : List Nat} (h : AllIn xs) : (Val single (rgL xs).1 (iv single (rgL xs).1) ∧ -mBig ≤ iv single (rgL xs).1 ∧ iv single (rgL xs).1 ≤ mBig) ∧ (Val single (rgL xs).2.1 (iv single (rgL xs).2.1) ∧ -mBig ≤ iv single (rgL xs).2.1 ∧ iv single (rgL xs).2.1 ≤ mBig) ∧
    (∀ x, x ∈ xs → iv single (rgL xs).1 ≤ iv single x ∧ iv single x ≤ iv single (rgL xs).2.1) ∧ (xs ≠ [] → (rgL xs).1 ∈ xs ∧ (rgL xs).2.1 ∈ xs) := by
  obtain ⟨m1, m2, m3⟩ := rgL_mem xs
  have R := rgOK_all (xs := xs) (fun x hx => (h x hx).1.lt)
  have v1 : Val single (rgL xs).1 (iv single (rgL xs).1) ∧ -mBig ≤ iv single (rgL xs).1 ∧ iv single (rgL xs).1 ≤ mBig := by
    rcases m1 with e | e
    · rw [e]; exact minus_one
    · exact h _ e
  have v2 : Val single (rgL xs).2.1 (iv single (rgL xs).2.1) ∧ -mBig ≤ iv single (rgL xs).2.1 ∧ iv single (rgL xs).2.1 ≤ mBig := by
    rcases m2 with e | e
    · rw [e]; exact minus_one
    · exact h _ e
  refine ⟨v1, v2, fun x hx => ?_, fun hne => ?_⟩
  · have hn : nan .f32 x = false := val_nan (k := .f32) (h x hx).1
    obtain ⟨-, a1, a2⟩ := R.all x hx hn
    have l1 : ¬ iv single x < iv single (rgL xs).1 := fun hh => by have := (lt_val (h x hx).1 v1.1).2 hh; rw [a1] at this; cases this
    have l2 : ¬ iv single (rgL xs).2.1 < iv single x := fun hh => by have := (gt_val (h x hx).1 v2.1).2 hh; rw [a2] at this; cases this
    omega
  · cases xs with
    | nil => exact absurd rfl hne
    | cons x xs => exact m3 (R.all x (List.mem_cons_self ..) (val_nan (k := .f32) (h x (List.mem_cons_self ..)).1)).1
/-- the ends of the joined range -/
theorem join_range {X : Nat → List Nat} {n : Nat} (h1 : 1 ≤ n) (h8 : n ≤ 8) {T U : Int} {lo hi : Nat} (hlo : Val single lo T) (hhi : Val single hi U) (bT : -mBig ≤ T ∧ T ≤ mBig) (bU : -mBig ≤ U ∧ U ≤ mBig)
    (hX : ∀ q, q < 4 → (X q).length = n * n ∧ ∀ x, x ∈ X q → Val single x (iv single x) ∧ T ≤ iv single x ∧ iv single x ≤ U) {xs : List Nat} (hx : JX X n (n * n) xs) :
    (FloatKind.f32.format.order (rgL xs).1 lo == some .gt || FloatKind.f32.format.order (rgL xs).1 lo == some .eq) = true ∧ (FloatKind.f32.format.order (rgL xs).2.1 hi == some .lt || FloatKind.f32.format.order (rgL xs).2.1 hi == some .eq) = true := by
  have hb := big_lim
  have hg := big_ge
  have rT : Rep single T := hlo.rep
  have rU : Rep single U := hhi.rep
  have hall : ∀ x, x ∈ xs → Val single x (iv single x) ∧ T ≤ iv single x ∧ iv single x ≤ U := by
    intro x hxm
    obtain ⟨c, hc⟩ := List.getElem?_of_mem hxm
    have hcl : c < n * n := by have := (List.getElem?_eq_some_iff.1 hc).1; rw [hx.1] at this; exact this
    obtain ⟨hal, -⟩ := hx.2 c x hc
    have V := fun k (hk : k < 4) => show Val single (jx X n c k) (iv single (jx X n c k)) ∧ T ≤ iv single (jx X n c k) ∧ iv single (jx X n c k) ≤ U from by
      obtain ⟨q1, q2⟩ := jq_lt h1 h8 hcl hk
      obtain ⟨l, hq⟩ := hX _ q1
      refine hq _ ?_
      unfold jx
      rw [List.getD_eq_getElem?_getD, List.getElem?_eq_getElem (by omega)]
      exact List.getElem_mem _
    obtain ⟨a0, a1, a2⟩ := V 0 (by decide)
    obtain ⟨b0, b1, b2⟩ := V 1 (by decide)
    obtain ⟨c0, c1, c2⟩ := V 2 (by decide)
    obtain ⟨d0, d1, d2⟩ := V 3 (by decide)
    obtain ⟨m0, m1, m2⟩ := mean_between a0 b0 c0 d0 rT rU (by omega) (by omega) ⟨a1, b1, c1, d1⟩ ⟨a2, b2, c2, d2⟩
    have hal' : Al .f32 (jsm X n c) x := hal
    have e : x = jsm X n c := by
      rcases hal' with e | ⟨e, -⟩
      · exact e.symm
      · have := val_nan (k := .f32) m0
        unfold jsm jmean at e
        rw [show nan .f32 (opC .quo .f32 (opC .add .f32 (opC .add .f32 (jx X n c 0) (jx X n c 1)) (opC .add .f32 (jx X n c 2) (jx X n c 3))) 1082130432) = false from this] at e
        cases e
    rw [e]
    exact ⟨m0, m1, m2⟩
  have hin : AllIn xs := fun x hxm => by
    obtain ⟨v, l, u⟩ := hall x hxm
    exact ⟨v, by omega, by omega⟩
  obtain ⟨v1, v2, -, hm⟩ := range_of hin
  have hne : xs ≠ [] := by
    intro e
    have := hx.1
    rw [e] at this
    have : 0 < n * n := Nat.mul_pos h1 h1
    simp at *
    omega
  obtain ⟨m1, m2⟩ := hm hne
  have k1 := (hall _ m1).2.1
  have k2 := (hall _ m2).2.2
  rw [order_val (f := FloatKind.f32.format) v1.1 hlo, order_val (f := FloatKind.f32.format) v2.1 hhi]
  constructor
  · rcases Int.lt_or_eq_of_le k1 with h | h
    · rw [Int.compare_eq_gt.2 h]; rfl
    · rw [Int.compare_eq_eq.2 h.symm]; rfl
  · rcases Int.lt_or_eq_of_le k2 with h | h
    · rw [Int.compare_eq_lt.2 h]; rfl
    · rw [Int.compare_eq_eq.2 h]; rfl
end Go.Proofs.Ytalmhbcmagjheaa
end

section
/- Walks: the program's and the reference's TileRange at a tile whose place is told. (printed by wip/gen_tilu.py) -/
namespace Go.Proofs.Ytalmhbcmagjheaa
open Go.RowKit

theorem rg_round {xs : List Nat} {m : Nat} (h1 : xs.length = m) (hx : ∀ x, x ∈ xs → x < 4294967296) (k : Nat) (h : k < m) :
    ∃ x : Nat, (xs.map floV)[k]? = some (.float .f32 x) ∧ x < 4294967296 ∧ rgL (xs.take (k + 1)) = rgStep (rgL (xs.take k)) x := by
  subst h1
  exact ⟨xs[k], by rw [List.getElem?_map, List.getElem?_eq_getElem h]; rfl, hx _ (List.getElem_mem _), rgL_take xs k h⟩
theorem rgStep_nan {s : Nat × Nat × Bool} {x : Nat} (h : Flo.nan .f32 x = true) : rgStep s x = s := by unfold rgStep; rw [if_pos h]
theorem rgStep_new {l h : Nat} {x : Nat} (hn : Flo.nan .f32 x = false) : rgStep (l, h, false) x = (x, x, true) := by unfold rgStep; rw [if_neg (by rw [hn]; decide)]; rfl
theorem rgStep_old {l h : Nat} {x : Nat} (hn : Flo.nan .f32 x = false) : rgStep (l, h, true) x = (if fLt x l then x else l, if fGt x h then x else h, true) := by
  unfold rgStep; rw [if_neg (by rw [hn]; decide)]; simp
/-- float64 of a float32: a NaN just where that is one -/
theorem widen_run (x : Nat) (hx : x < 4294967296) (w : World) : ∃ z w', (convert 41 67 (.float .f32 x)).run Try.prog w = .ok (.float .f64 z) w' ∧ Flo.nan .f64 z = Flo.nan .f32 x ∧ Drw w w' := by
  obtain ⟨u, hs'⟩ := Option.isSome_iff_exists.1 (show (Try.prog.underlying 41).isSome = true by kernel_rfl)
  obtain ⟨z, w', h, _, hd, ha⟩ := Flo.conv_al (P := Try.prog) .f32 .f64 x (by decide) (Flo.widen_ok hx) w
  refine ⟨z, w', ?_, ?_, hd⟩
  · cases u <;> simp [convert, run_underlying hs', run_underlying Try.underlying67, h]
  · rw [← ha.nan_eq]
    cases hn : Flo.nan .f32 x with
    | true => rw [Flo.toFloat_nan (by decide) hn]; exact Flo.nanW_nan .f64
    | false =>
      obtain ⟨y, hy, hyn⟩ := Flo.widen_any (by rw [Flo.pow32]; exact hx) hn
      rw [hy]; exact hyn
set_option maxHeartbeats 400000 in
theorem isNaN_is (z : Nat) (b : Bool) (hb : Flo.nan .f64 z = b) (w : World) : Calls Try.prog 34 #[.float .f64 z] w fun e w' => e = .returned (.bool b) ∧ w = w' := by
  cases b with
  | true =>
    have h : (FloatKind.f64.format.order z z != some .eq) = true := by rw [Flo.order_nan_left z hb]; rfl
    clear hb
    go_enter Try.func34, Try.ntmps34
    go_wp2
    go_ret
    exact ⟨rfl, rfl⟩
  | false =>
    have h : (FloatKind.f64.format.order z z != some .eq) = false := by rw [Flo.order_self hb]; rfl
    clear hb
    go_enter Try.func34, Try.ntmps34
    go_wp2
    go_ret
    exact ⟨rfl, rfl⟩
set_option maxRecDepth 100000 in
set_option maxHeartbeats 1000000 in
theorem implRange_bad (cx cy : Nat) (deep size : Int) (hx : cx < 4294967296) (hy : cy < 4294967296) (hp : placeB cx cy deep size = true) (a a' : Option Addr) (n c c' : Nat) (ys : List Int) (hl : ys.length ≤ 1048576) (w : World) (hs : Sl w a' (ys.map intV)) (hw : wellB size n ys = false) :
    Calls Try.prog 17 #[.agg #[.complex .f32 cx cy, .int .i64 deep, .int .i64 size, .slice a n c, .slice a' ys.length c']] w fun e w' => e = .returned (.tuple #[.float .f32 0, .float .f32 0, .bool false]) ∧ Below w.heap.size w w' := by
  have B := Box.new w #[.complex .f32 cx cy, .int .i64 deep, .int .i64 size, .slice a n c, .slice a' ys.length c'] 37
  have HW := Lib.hid (implWell_is cx cy deep size hx hy hp a a' n c c' ys hl _ (hs.alloc (.cells #[.complex .f32 cx cy, .int .i64 deep, .int .i64 size, .slice a n c, .slice a' ys.length c'] 37)))
  rw [hw] at HW
  clear hp hs hw
  go_enter Try.func17, Try.ntmps17
  go_wp2_with fail
  refine HW.out.mono ?_
  rintro e w1 ⟨rfl, hd⟩
  replace B := Lib.hid (B.step hd).old
  clear hd HW
  go_wp2
  go_ret3
  exact ⟨rfl, B.out⟩
set_option maxRecDepth 100000 in
set_option maxHeartbeats 4000000 in
theorem implRange_good (cx cy : Nat) (deep size : Int) (hx : cx < 4294967296) (hy : cy < 4294967296) (hp : placeB cx cy deep size = true) (a a' : Option Addr) (c c' : Nat) (xs : List Nat) (ys : List Int) (hl : ys.length ≤ 1048576) (hxx : ∀ x, x ∈ xs → x < 4294967296) (w : World) (hs : Sl w a (xs.map floV)) (hs' : Sl w a' (ys.map intV)) (hw : wellB size xs.length ys = true) :
    Calls Try.prog 17 #[.agg #[.complex .f32 cx cy, .int .i64 deep, .int .i64 size, .slice a xs.length c, .slice a' ys.length c']] w fun e w' => e = .returned (.tuple #[.float .f32 (rgL xs).1, .float .f32 (rgL xs).2.1, .bool true]) ∧ Below w.heap.size w w' := by
  obtain ⟨g1, g2, g3⟩ := wellB_all hw
  have B := Box.new w #[.complex .f32 cx cy, .int .i64 deep, .int .i64 size, .slice a xs.length c, .slice a' ys.length c'] 37
  have HW := Lib.hid (implWell_is cx cy deep size hx hy hp a a' xs.length c c' ys hl _ (hs'.alloc (.cells #[.complex .f32 cx cy, .int .i64 deep, .int .i64 size, .slice a xs.length c, .slice a' ys.length c'] 37)))
  rw [hw] at HW
  obtain ⟨m, hm⟩ : ∃ m, xs.length = m := ⟨_, rfl⟩
  have HT := Lib.hid (fun k => rg_round (k := k) hm hxx)
  have HE : Hid (rgL (xs.take m) = rgL xs) := by
    show _ = _
    rw [← hm, List.take_length]
  have H1 := Lib.hid hs
  have hm2 : ys.length = m := by omega
  rw [hm, hm2] at HW B
  rw [hm2] at hl
  rw [hm, hm2]
  clear hp hs hs' hw hxx hm hm2 g1 g2 g3
  go_enter Try.func17, Try.ntmps17
  go_wp2_with fail
  refine HW.out.mono ?_
  rintro e w1 ⟨rfl, hd⟩
  replace B := B.step hd
  have HB := Lib.hid B
  clear hd HW B
  have b3 := HB.out.cell 3 (.slice a m c) rfl
  go_wp2
  go_loopw [5, 6, 7, 9, 16] (fun l h t _ i wr => ∃ (k l0 h0 : Nat) (t0 : Bool), k ≤ m ∧ i = .int .i64 k ∧ l = .float .f32 l0 ∧ h = .float .f32 h0 ∧ t = .bool t0 ∧ Hid (rgL (xs.take k) = (l0, h0, t0)) ∧ Hid (Drw w1 wr)) (fun _ _ _ _ i _ => (m - intOf i).toNat)
  case atStart => exact ⟨0, 3212836864, 3212836864, false, by omega, rfl, rfl, rfl, rfl, rfl, Drw.refl _⟩
  case round =>
    obtain ⟨k, l0, h0, t0, hk, rfl, rfl, rfl, rfl, HS, HD⟩ := hrel
    have B := HB.out.step (HD.out.below _)
    have b3 := B.cell 3 (.slice a m c) rfl
    by_cases hlt : k < m
    · obtain ⟨x, hxk, x1, hN⟩ := HT.out k hlt
      obtain ⟨b, off, rfl, hc⟩ := (H1.out.step B.old).at hxk
      rw [HS.out] at hN
      have HN := Lib.hid hN
      clear hxk hN B
      obtain ⟨z, w5, hz, hzn, hd5⟩ := widen_run x x1 wr
      have HD5 := Lib.hid (HD.out.trans hd5)
      have HI := Lib.hid (isNaN_is z _ hzn)
      clear hd5 hzn
      cases hn : Flo.nan .f32 x with
      | true =>
        have HQ : Hid (rgL (xs.take (k + 1)) = (l0, h0, t0)) := by rw [HN.out, rgStep_nan hn]; rfl
        rw [hn] at HI
        clear hn
        go_wp2_with (go_at_call 34; refine (HI.out _).mono ?_; rintro e w6 ⟨rfl, rfl⟩)
        go_roundw
        case rel => exact ⟨k + 1, l0, h0, t0, by omega, by go_num, rfl, rfl, rfl, HQ, HD5⟩
        case measure => simp [intOf]; omega
      | false =>
        rw [hn] at HI
        cases t0 with
        | false =>
          have HQ : Hid (rgL (xs.take (k + 1)) = (x, x, true)) := by rw [HN.out, rgStep_new hn]; rfl
          clear hn
          go_wp2_with (go_at_call 34; refine (HI.out _).mono ?_; rintro e w6 ⟨rfl, rfl⟩)
          go_roundw
          case rel => exact ⟨k + 1, x, x, true, by omega, by go_num, rfl, rfl, rfl, HQ, HD5⟩
          case measure => simp [intOf]; omega
        | true =>
          cases hl1 : fLt x l0 with
          | true =>
            cases hl2 : fGt x h0 with
            | true =>
              have HQ : Hid (rgL (xs.take (k + 1)) = (x, x, true)) := by rw [HN.out, rgStep_old hn, hl1, hl2]; rfl
              unfold fLt at hl1
              unfold fGt at hl2
              clear hn
              go_wp2_with (go_at_call 34; refine (HI.out _).mono ?_; rintro e w6 ⟨rfl, rfl⟩)
              go_roundw
              case rel => exact ⟨k + 1, x, x, true, by omega, by go_num, rfl, rfl, rfl, HQ, HD5⟩
              case measure => simp [intOf]; omega
            | false =>
              have HQ : Hid (rgL (xs.take (k + 1)) = (x, h0, true)) := by rw [HN.out, rgStep_old hn, hl1, hl2]; rfl
              unfold fLt at hl1
              unfold fGt at hl2
              clear hn
              go_wp2_with (go_at_call 34; refine (HI.out _).mono ?_; rintro e w6 ⟨rfl, rfl⟩)
              go_roundw
              case rel => exact ⟨k + 1, x, h0, true, by omega, by go_num, rfl, rfl, rfl, HQ, HD5⟩
              case measure => simp [intOf]; omega
          | false =>
            cases hl2 : fGt x h0 with
            | true =>
              have HQ : Hid (rgL (xs.take (k + 1)) = (l0, x, true)) := by rw [HN.out, rgStep_old hn, hl1, hl2]; rfl
              unfold fLt at hl1
              unfold fGt at hl2
              clear hn
              go_wp2_with (go_at_call 34; refine (HI.out _).mono ?_; rintro e w6 ⟨rfl, rfl⟩)
              go_roundw
              case rel => exact ⟨k + 1, l0, x, true, by omega, by go_num, rfl, rfl, rfl, HQ, HD5⟩
              case measure => simp [intOf]; omega
            | false =>
              have HQ : Hid (rgL (xs.take (k + 1)) = (l0, h0, true)) := by rw [HN.out, rgStep_old hn, hl1, hl2]; rfl
              unfold fLt at hl1
              unfold fGt at hl2
              clear hn
              go_wp2_with (go_at_call 34; refine (HI.out _).mono ?_; rintro e w6 ⟨rfl, rfl⟩)
              go_roundw
              case rel => exact ⟨k + 1, l0, h0, true, by omega, by go_num, rfl, rfl, rfl, HQ, HD5⟩
              case measure => simp [intOf]; omega
    · have HF := Lib.hid B.old
      obtain rfl : k = m := by omega
      have HQ : Hid (rgL xs = (l0, h0, t0)) := by rw [← HE.out]; exact HS
      clear B
      go_wp2
      go_ret3
      exact ⟨by rw [HQ.out]; rfl, HF.out⟩
end Go.Proofs.Ytalmhbcmagjheaa
end
