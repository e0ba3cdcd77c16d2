/- Operations on floats: that they yield some float of the kind, in a world that has at most drawn. -/
import Derived.Test.YtdfoobemgdiobaaDoorBase
import Derived.Test.YtdfoobemgdiobaaDoorFlo
namespace Go.Proofs.YtdfoobemgdiobaaDoor.Flo
open Go.RowKit

theorem pow32 : (2 : Nat) ^ 32 = 4294967296 := by decide
theorem cut_lt32 (x y t : Nat) : (Question.nanBits .f32 x y).cut t < 2 ^ 32 := by
  show (t % 2) * 2 ^ 31 + 0x7f800000 + 1 + (t / 2) % (2 ^ 23 - 1) < 2 ^ 32
  omega
theorem cut_lt64 (x y t : Nat) : (Question.nanBits .f64 x y).cut t < 2 ^ 64 := by
  show (t % 2) * 2 ^ 63 + 0x7ff0000000000000 + 1 + (t / 2) % (2 ^ 52 - 1) < 2 ^ 64
  omega
theorem cut_conv32 (x t : Nat) : (Question.nanConv .f32 x).cut t < 2 ^ 32 := by
  show (t % 2) * 2 ^ 31 + 0x7f800000 + 1 + (t / 2) % (2 ^ 23 - 1) < 2 ^ 32
  omega
theorem width32 : FloatKind.f32.format.width = 32 := rfl
theorem width64 : FloatKind.f64.format.width = 64 := rfl
/-- + - * / : some float, and draws -/
theorem arith_any {P : Program} (op : BinOp) (hop : op = .add ∨ op = .sub ∨ op = .mul ∨ op = .quo) (t : TypeId) (k : FloatKind) (x y : Nat) (w : World) :
    ∃ z w', (binOp op t (.float k x) (.float k y)).run P w = .ok (.float k z) w' ∧ z < 2 ^ k.format.width ∧ Drw w w' := by
  cases h : floatBits op k x y with
  | some r =>
    refine ⟨r, w, run_float_arith w op t k x y r h, ?_, Drw.refl w⟩
    have := floatBits_wf h
    cases k <;> simpa [Lit.wf, width32, width64] using this
  | none =>
    refine ⟨(Question.nanBits k x y).cut (w.tape w.drawn (Question.nanBits k x y)), w.drew, ?_, ?_, (Drw.refl w).drew⟩
    · unfold floatBits at h
      rcases hop with rfl | rfl | rfl | rfl <;> simp only at h <;> simp [binOp, Op.floatArith, h] <;> (intro hf; simp [Question.forced] at hf)
    · cases k
      · exact cut_lt32 _ _ _
      · exact cut_lt64 _ _ _
/-- - : some float -/
theorem neg_lt (k : FloatKind) (x : Nat) (h : x < 2 ^ k.format.width) : Op.negFloat k x < 2 ^ k.format.width := by
  unfold Op.negFloat
  cases k
  · exact Nat.xor_lt_two_pow h (by decide)
  · exact Nat.xor_lt_two_pow h (by decide)
theorem run_neg {P : Program} (k : FloatKind) (x : Nat) (w : World) : (Op.unary .neg (.float k x)).run P w = .ok (.float k (Op.negFloat k x)) w := rfl
theorem neg_ne (k : FloatKind) (x : Nat) : Op.negFloat k x ≠ x := by
  unfold Op.negFloat
  intro h
  have : x ^^^ (x ^^^ 2 ^ (k.format.exponentBits + k.format.fractionBits)) = x ^^^ x := by rw [h]
  rw [← Nat.xor_assoc, Nat.xor_self, Nat.zero_xor] at this
  exact absurd this (Nat.pos_iff_ne_zero.1 (Nat.two_pow_pos _))
/-- the narrower kind: some float -/
theorem narrow_any {P : Program} (src dst : TypeId) (hs : (P.underlying src).isSome = true) (hd : P.underlying dst = some (.float .f32)) (x : Nat) (w : World) :
    ∃ z w', (convert src dst (.float .f64 x)).run P w = .ok (.float .f32 z) w' ∧ z < 4294967296 ∧ Drw w w' := by
  obtain ⟨u, hs'⟩ := Option.isSome_iff_exists.1 hs
  cases hx : FloatKind.f64.decode x with
  | nan s f =>
    have hn : nan .f64 x = true := by unfold nan; rw [hx]; rfl
    exact ⟨_, _, run_convert_nan src dst .f64 .f32 x (by decide) hs hd hn w, by rw [← pow32]; exact cut_conv32 _ _, (Drw.refl w).drew⟩
  | infinity s =>
    refine ⟨FloatKind.f32.encode (.infinity s), w, run_convert_float_float w src dst .f64 .f32 x _ hs hd (by simp [floatToFloatBits, hx]), ?_, Drw.refl w⟩
    rw [← pow32]; exact Ieee.Format.write_lt _ _
  | number s m e =>
    by_cases hi : (FloatKind.f32.decode (FloatKind.f32.encode (.number s m e))).isInfinity = true
    · refine ⟨(Question.floatToFloat x).cut (w.tape w.drawn (Question.floatToFloat x)), w.drew, ?_, ?_, (Drw.refl w).drew⟩
      · cases u <;> simp [convert, run_underlying hs', run_underlying hd, Conv.floatToFloat, hx, hi] <;> (intro hf; simp [Question.forced] at hf)
      · rw [← pow32]; exact Nat.mod_lt _ (by decide)
    · refine ⟨FloatKind.f32.encode (.number s m e), w, run_convert_float_float w src dst .f64 .f32 x _ hs hd (by simp [floatToFloatBits, hx, hi]), ?_, Drw.refl w⟩
      rw [← pow32]; exact Ieee.Format.write_lt _ _
theorem word_number (f : Ieee.Format) (s : Bool) (r : Nat) (h : r ≤ f.infRung) : (f.read (f.word s r)).isNaN = false := by
  have hr : f.word s r % f.signWeight = r := rung_word f s r (Nat.lt_of_le_of_lt h (Ieee.Format.infRung_lt f))
  unfold Ieee.Format.read
  simp only [hr]
  split
  · rfl
  · split
    · rfl
    · rw [if_pos (by omega)]; rfl
theorem nearest_number (f : Ieee.Format) (s : Bool) (m : Nat) (p : Int) : (f.read (f.nearest s m p)).isNaN = false := by
  rw [nearest_eq]; exact word_number f s _ (rnd_le_inf f s m p)
/-- 1 over what is a number: a number -/
theorem quo_number {k : FloatKind} {x one : Nat} (hone : ∃ s m e, k.format.read one = .number s (m + 1) e) (h : nan k x = false) : ∃ r, floatBits .quo k one x = some r ∧ nan k r = false := by
  obtain ⟨s, m, e, h1⟩ := hone
  unfold nan FloatKind.decode at h ⊢
  simp only [floatBits, Ieee.Format.div, h1]
  cases hx : k.format.read x with
  | nan _ _ => rw [hx] at h; cases h
  | infinity t => exact ⟨_, rfl, nearest_number _ _ _ _⟩
  | number t n j =>
    cases n with
    | zero => exact ⟨_, rfl, word_number _ _ _ (Nat.le_refl _)⟩
    | succ n => exact ⟨_, rfl, nearest_number _ _ _ _⟩
end Go.Proofs.YtdfoobemgdiobaaDoor.Flo
