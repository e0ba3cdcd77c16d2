/- Operations on floats and complex numbers: that they yield some value of the kind, in a world that has at most drawn. -/
import Derived.Test.YtdfoobemgdiobaaDoorFloA
namespace Go.Proofs.YtdfoobemgdiobaaDoor.Flo
open Go.RowKit

theorem lit_lt {k : FloatKind} {r : Nat} (h : (Lit.float k r).wf = true) : r < 2 ^ k.format.width := by
  cases k <;> simpa [Lit.wf, width32, width64] using h
/-- + - * / : some float, and draws -/
theorem farith_any {P : Program} (op : BinOp) (hop : op = .add ∨ op = .sub ∨ op = .mul ∨ op = .quo) (k : FloatKind) (x y : Nat) (w : World) :
    ∃ z w', (Op.floatArith op k x y).run P w = .ok (.float k z) w' ∧ z < 2 ^ k.format.width ∧ Drw w w' := by
  obtain ⟨z, w', h, r⟩ := arith_any (P := P) op hop 0 k x y w
  refine ⟨z, w', ?_, r⟩
  rcases hop with rfl | rfl | rfl | rfl <;> simpa [binOp] using h
theorem carith_any {P : Program} (op : BinOp) (hop : op = .add ∨ op = .sub ∨ op = .mul ∨ op = .quo) (k : FloatKind) (x y : Nat) (w : World) :
    ∃ z w', (Op.Complex.arith op k x y).run P w = .ok z w' ∧ z < 2 ^ k.format.width ∧ Drw w w' := by
  obtain ⟨z, w', h, r⟩ := farith_any (P := P) op hop k x y w
  exact ⟨z, w', by simp [Op.Complex.arith, h], r⟩
/-- + - of complex numbers -/
theorem csum_any {P : Program} (op : BinOp) (hop : op = .add ∨ op = .sub) (t : TypeId) (k : FloatKind) (a b c d : Nat) (w : World) :
    ∃ re im w', (binOp op t (.complex k a b) (.complex k c d)).run P w = .ok (.complex k re im) w' ∧ re < 2 ^ k.format.width ∧ im < 2 ^ k.format.width ∧ Drw w w' := by
  have hop' : op = .add ∨ op = .sub ∨ op = .mul ∨ op = .quo := by rcases hop with h | h <;> simp [h]
  obtain ⟨x, w1, h1, hx, d1⟩ := carith_any (P := P) op hop' k a c w
  obtain ⟨y, w2, h2, hy, d2⟩ := carith_any (P := P) op hop' k b d w1
  refine ⟨x, y, w2, ?_, hx, hy, d1.trans d2⟩
  rcases hop with rfl | rfl <;> simp [binOp, Op.complexOp, h1, h2]
/-- float to float: some float -/
theorem conv_any {P : Program} (s k : FloatKind) (x : Nat) (hx : x < 2 ^ s.format.width) (w : World) :
    ∃ z w', (Conv.floatToFloat s x k).run P w = .ok (.float k z) w' ∧ z < 2 ^ k.format.width ∧ Drw w w' := by
  by_cases hsk : s = k
  · subst hsk
    exact ⟨x, w, by simp [Conv.floatToFloat], hx, Drw.refl w⟩
  · cases hd : s.decode x with
    | nan sg f =>
      refine ⟨(Question.nanConv k x).cut (w.tape w.drawn (Question.nanConv k x)), w.drew, ?_, ?_, (Drw.refl w).drew⟩
      · simp [Conv.floatToFloat, hsk, hd]
        intro hf; simp [Question.forced] at hf
      · cases k
        · exact cut_conv32 _ _
        · show (_ % 2) * 2 ^ 63 + 0x7ff0000000000000 + 1 + (_ / 2) % (2 ^ 52 - 1) < 2 ^ 64
          omega
    | infinity sg =>
      exact ⟨k.encode (.infinity sg), w, by simp [Conv.floatToFloat, hsk, hd], Ieee.Format.write_lt _ _, Drw.refl w⟩
    | number sg m e =>
      by_cases hi : (k.decode (k.encode (.number sg m e))).isInfinity = true
      · refine ⟨(Question.floatToFloat x).cut (w.tape w.drawn (Question.floatToFloat x)), w.drew, ?_, ?_, (Drw.refl w).drew⟩
        · simp [Conv.floatToFloat, hsk, hd, hi]
          intro hf; simp [Question.forced] at hf
        · cases k
          · exact Nat.mod_lt _ (by decide)
          · exact Nat.lt_trans (Nat.mod_lt _ (by decide)) (by decide : 2 ^ 32 < 2 ^ 64)
      · exact ⟨k.encode (.number sg m e), w, by simp [Conv.floatToFloat, hsk, hd, hi], Ieee.Format.write_lt _ _, Drw.refl w⟩
theorem convert_any {P : Program} (src dst : TypeId) (s k : FloatKind) (hs : (P.underlying src).isSome = true) (hd : P.underlying dst = some (.float k)) (x : Nat) (hx : x < 2 ^ s.format.width) (w : World) :
    ∃ z w', (convert src dst (.float s x)).run P w = .ok (.float k z) w' ∧ z < 2 ^ k.format.width ∧ Drw w w' := by
  obtain ⟨u, hs'⟩ := Option.isSome_iff_exists.1 hs
  obtain ⟨z, w', h, r⟩ := conv_any (P := P) s k x hx w
  refine ⟨z, w', ?_, r⟩
  cases u <;> simp [convert, run_underlying hs', run_underlying hd, h]
theorem cconvert_any {P : Program} (src dst : TypeId) (s k : FloatKind) (hs : (P.underlying src).isSome = true) (hd : P.underlying dst = some (.complex k)) (x y : Nat) (hx : x < 2 ^ s.format.width) (hy : y < 2 ^ s.format.width) (w : World) :
    ∃ re im w', (convert src dst (.complex s x y)).run P w = .ok (.complex k re im) w' ∧ re < 2 ^ k.format.width ∧ im < 2 ^ k.format.width ∧ Drw w w' := by
  obtain ⟨u, hs'⟩ := Option.isSome_iff_exists.1 hs
  obtain ⟨z, w1, h1, hz, d1⟩ := conv_any (P := P) s k x hx w
  obtain ⟨z2, w2, h2, hz2, d2⟩ := conv_any (P := P) s k y hy w1
  refine ⟨z, z2, w2, ?_, hz, hz2, d1.trans d2⟩
  cases u <;> simp [convert, run_underlying hs', run_underlying hd, Conv.complexToComplex, h1, h2]
/-- float to a whole number: some whole number -/
theorem toInt_any {P : Program} (src dst : TypeId) (s : FloatKind) (hs : (P.underlying src).isSome = true) (hd : P.underlying dst = some (.int .i64)) (x : Nat) (w : World) :
    ∃ n w', (convert src dst (.float s x)).run P w = .ok (.int .i64 n) w' ∧ Drw w w' := by
  obtain ⟨u, hs'⟩ := Option.isSome_iff_exists.1 hs
  cases ht : (s.decode x).toInt .zero with
  | none =>
    refine ⟨IntKind.i64.wrap ((Question.floatToInt s x .i64).cut (w.tape w.drawn (Question.floatToInt s x .i64)) : Nat), w.drew, ?_, (Drw.refl w).drew⟩
    cases u <;> simp [convert, run_underlying hs', run_underlying hd, Conv.floatToInt, ht] <;> (intro hf; simp [Question.forced] at hf)
  | some n =>
    by_cases hb : IntKind.i64.min ≤ n ∧ n ≤ IntKind.i64.max
    · exact ⟨n, w, run_convert_float_int w src dst s .i64 x n hs hd (by unfold floatToIntVal; rw [ht]; simp only; rw [if_pos hb]), Drw.refl w⟩
    · refine ⟨IntKind.i64.wrap ((Question.floatToInt s x .i64).cut (w.tape w.drawn (Question.floatToInt s x .i64)) : Nat), w.drew, ?_, (Drw.refl w).drew⟩
      have hc : (Conv.floatToInt s x .i64).run P w = .ok (.int .i64 (IntKind.i64.wrap ((Question.floatToInt s x .i64).cut (w.tape w.drawn (Question.floatToInt s x .i64)) : Nat))) w.drew := by
        unfold Conv.floatToInt
        rw [ht]
        simp only
        rw [if_neg hb]
        simp
        intro hf; simp [Question.forced] at hf
      cases u <;> simp [convert, run_underlying hs', run_underlying hd, hc]
end Go.Proofs.YtdfoobemgdiobaaDoor.Flo
