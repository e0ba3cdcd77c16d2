/- Floats: what is not a number, conversions and comparisons of whatever floats. Plain. -/
import Derived.WalkKit
import Derived.WalkLawsBesides
import Derived.Laws.FloatArith
import Derived.Laws.ComplexArith
import Derived.Test.YtdfoobemgdiobaaDoorFloT
namespace Go.Proofs.YtdfoobemgdiobaaDoor
namespace Flo

/-- not a number -/
def nan (k : FloatKind) (x : Nat) : Bool := (k.decode x).isNaN

theorem order_nan_left {k : FloatKind} {x : Nat} (y : Nat) (h : nan k x = true) : k.format.order x y = none := by
  unfold nan FloatKind.decode at h
  unfold Ieee.Format.order
  cases hx : k.format.read x <;> simp_all [Ieee.Datum.isNaN, Ieee.Datum.order]
theorem order_nan_right {k : FloatKind} {y : Nat} (x : Nat) (h : nan k y = true) : k.format.order x y = none := by
  unfold nan FloatKind.decode at h
  unfold Ieee.Format.order
  cases hy : k.format.read y <;> simp_all [Ieee.Datum.isNaN]
  cases k.format.read x <;> simp [Ieee.Datum.order]
theorem order_self {k : FloatKind} {x : Nat} (h : nan k x = false) : k.format.order x x = some .eq := by
  unfold nan FloatKind.decode at h
  unfold Ieee.Format.order
  cases hx : k.format.read x <;> simp_all [Ieee.Datum.isNaN, Ieee.Datum.order]

/-- the NaN that a conversion draws -/
def nanC (k : FloatKind) (x : Nat) (w : World) : Nat := (Question.nanConv k x).cut (w.tape w.drawn (Question.nanConv k x))
theorem nan_cut32 (t : Nat) : nan .f32 ((t % 2) * 2 ^ 31 + 0x7f800000 + 1 + (t / 2) % (2 ^ 23 - 1)) = true := by
  unfold nan FloatKind.decode
  have h1 : t % 2 < 2 := Nat.mod_lt _ (by omega)
  have h2 : (t / 2) % (2 ^ 23 - 1) < 8388607 := Nat.mod_lt _ (by omega)
  generalize t % 2 = a at *
  generalize (t / 2) % (2 ^ 23 - 1) = b at *
  show (Ieee.single.read _).isNaN = true
  unfold Ieee.Format.read
  have hs : Ieee.single.signWeight = 2147483648 := by decide
  have hb : Ieee.single.binade = 8388608 := by decide
  have hi : Ieee.single.infRung = 2139095040 := by decide
  simp only [hs, hb, hi]
  have hm : (a * 2 ^ 31 + 2139095040 + 1 + b) % 2147483648 = 2139095041 + b := by omega
  rw [hm]
  rw [if_neg (by omega), if_neg (by omega), if_neg (by omega)]
  rfl
theorem nan_cut64 (t : Nat) : nan .f64 ((t % 2) * 2 ^ 63 + 0x7ff0000000000000 + 1 + (t / 2) % (2 ^ 52 - 1)) = true := by
  unfold nan FloatKind.decode
  have h1 : t % 2 < 2 := Nat.mod_lt _ (by omega)
  have h2 : (t / 2) % (2 ^ 52 - 1) < 2 ^ 52 - 1 := Nat.mod_lt _ (by omega)
  generalize t % 2 = a at *
  generalize (t / 2) % (2 ^ 52 - 1) = b at *
  show (Ieee.double.read _).isNaN = true
  unfold Ieee.Format.read
  have hs : Ieee.double.signWeight = 9223372036854775808 := by decide
  have hb : Ieee.double.binade = 4503599627370496 := by decide
  have hi : Ieee.double.infRung = 9218868437227405312 := by decide
  simp only [hs, hb, hi]
  have hm : (a * 2 ^ 63 + 9218868437227405312 + 1 + b) % 9223372036854775808 = 9218868437227405313 + b := by omega
  rw [hm]
  rw [if_neg (by omega), if_neg (by omega), if_neg (by omega)]
  rfl
theorem nanC_nan (k : FloatKind) (x : Nat) (w : World) : nan k (nanC k x w) = true := by
  cases k
  · exact nan_cut32 _
  · exact nan_cut64 _
theorem run_convert_nan {P : Program} (src dst : TypeId) (s k : FloatKind) (b : Nat) (hne : s ≠ k) (hs : (P.underlying src).isSome = true) (hd : P.underlying dst = some (.float k)) (h : nan s b = true) (w : World) :
    (convert src dst (.float s b)).run P w = .ok (.float k (nanC k b w)) w.drew := by
  obtain ⟨u, hs'⟩ := Option.isSome_iff_exists.1 hs
  unfold nan at h
  cases hd' : s.decode b <;> simp_all [Ieee.Datum.isNaN]
  cases u <;> simp [convert, run_underlying hs', run_underlying hd, Conv.floatToFloat, hne, hd', nanC] <;> (intro hf; simp [Question.forced] at hf)
/-- 1 over a zero is an infinity: the division is valid -/
theorem quo_zero {k : FloatKind} {x one : Nat} (hone : ∃ s m e, k.format.read one = .number s (m + 1) e) (h : k.format.order x 0 = some .eq) : ∃ r, floatBits .quo k one x = some r := by
  obtain ⟨s, m, e, h1⟩ := hone
  have h0 : k.format.read 0 = .number false 0 k.format.leastPlace := by cases k <;> rfl
  unfold Ieee.Format.order at h
  rw [h0] at h
  simp only [floatBits, Ieee.Format.div, h1]
  cases hx : k.format.read x with
  | nan _ _ => rw [hx] at h; simp [Ieee.Datum.order] at h
  | infinity s => rw [hx] at h; cases s <;> simp [Ieee.Datum.order] at h
  | number t n j =>
    cases n with
    | zero => exact ⟨_, rfl⟩
    | succ n => exact ⟨_, rfl⟩
theorem one64 : ∃ s m e, FloatKind.f64.format.read 4607182418800017408 = .number s (m + 1) e := ⟨false, 4503599627370495, -52, by decide⟩
theorem one32 : ∃ s m e, FloatKind.f32.format.read 1065353216 = .number s (m + 1) e := ⟨false, 8388607, -23, by decide⟩
/-- a word is finite, an infinity or no number -/
theorem kinds (f : Ieee.Format) (he : 1 ≤ f.exponentBits) (x : Nat) : fin f x ∨ (∃ s, f.read x = .infinity s) ∨ (∃ s t, f.read x = .nan s t) := by
  by_cases h : fin f x
  · exact .inl h
  · right
    unfold fin rung at h
    unfold Ieee.Format.read
    simp only
    have hb : f.binade ≤ f.infRung := by
      unfold Ieee.Format.infRung
      have : 2 ^ 1 ≤ 2 ^ f.exponentBits := Nat.pow_le_pow_right (by omega) he
      exact Nat.le_mul_of_pos_left _ (by omega)
    rw [if_neg (by omega), if_neg h]
    split
    · exact .inl ⟨_, rfl⟩
    · exact .inr ⟨_, _, rfl⟩
/-- 'float64(x)' of a float32 that is a number -/
theorem widen_any {x : Nat} (hx : x < 2 ^ 32) (h : nan .f32 x = false) : ∃ y, floatToFloatBits .f32 x .f64 = some y ∧ nan .f64 y = false := by
  rcases kinds Ieee.single (by decide) x with hf | ⟨s, hi⟩ | ⟨s, t, hn⟩
  · obtain ⟨y, hy, hv⟩ := widen_val ⟨hx, hf, rfl⟩
    exact ⟨y, hy, val_nan (k := .f64) hv⟩
  · refine ⟨FloatKind.encode .f64 (.infinity s), ?_, ?_⟩
    · unfold floatToFloatBits
      rw [if_neg (by decide)]
      have : FloatKind.decode .f32 x = .infinity s := hi
      rw [this]
    · cases s <;> decide
  · exfalso
    unfold nan FloatKind.decode at h
    have : FloatKind.format .f32 = Ieee.single := rfl
    rw [this, hn] at h
    cases h
end Flo
end Go.Proofs.YtdfoobemgdiobaaDoor
