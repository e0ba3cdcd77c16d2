/- Plain: floats that are the same, or no numbers both. -/
import Derived.Test.YtdfoobemgdiobaaDoorFloB
import Derived.Test.YtdfoobemgdiobaaDoorFlo
namespace Go.Proofs.YtdfoobemgdiobaaDoor.Flo
open Go.RowKit Ieee

/-- the same float, or no number both -/
def Al (k : FloatKind) (x y : Nat) : Prop := x = y ∨ (nan k x = true ∧ nan k y = true)
theorem Al.refl (k : FloatKind) (x : Nat) : Al k x x := .inl rfl
theorem Al.symm {k : FloatKind} {x y : Nat} (h : Al k x y) : Al k y x := h.elim (fun h => .inl h.symm) (fun h => .inr ⟨h.2, h.1⟩)
theorem Al.nan_eq {k : FloatKind} {x y : Nat} (h : Al k x y) : nan k x = nan k y := by
  rcases h with rfl | ⟨h1, h2⟩
  · rfl
  · rw [h1, h2]
theorem Al.trans {k : FloatKind} {x y z : Nat} (h : Al k x y) (g : Al k y z) : Al k x z := by
  rcases h with rfl | ⟨h1, h2⟩
  · exact g
  · exact .inr ⟨h1, by rw [← g.nan_eq]; exact h2⟩
theorem Al.order {k : FloatKind} {x y x' y' : Nat} (h : Al k x x') (g : Al k y y') : k.format.order x y = k.format.order x' y' := by
  rcases h with rfl | ⟨h1, h2⟩
  · rcases g with rfl | ⟨g1, g2⟩
    · rfl
    · rw [order_nan_right x g1, order_nan_right x g2]
  · rw [order_nan_left y h1, order_nan_left y' h2]
theorem sum_number {a b d : Datum} (h : Datum.sum a b = some d) : d.isNaN = false := by
  cases a <;> cases b <;> simp [Datum.sum] at h
  all_goals first
    | (obtain ⟨_, rfl⟩ := h; rfl)
    | (subst h; rfl)
theorem product_number {a b d : Datum} (h : Datum.product a b = some d) : d.isNaN = false := by
  cases a <;> cases b <;> simp [Datum.product] at h
  all_goals first
    | (obtain ⟨_, rfl⟩ := h; rfl)
    | (subst h; rfl)
theorem quotient_number {n : Nat} {a b d : Datum} (h : Datum.quotient n a b = some d) : d.isNaN = false := by
  cases a <;> cases b <;> simp [Datum.quotient] at h
  all_goals first
    | (subst h; rfl)
    | skip
  split at h
  · split at h
    · cases h
    · injection h with h; subst h; rfl
  · injection h with h; subst h; rfl
theorem write_number (f : Format) {d : Datum} (h : d.isNaN = false) : (f.read (f.write d)).isNaN = false := by
  cases d with
  | nan _ _ => cases h
  | infinity s => exact word_number f s _ (Nat.le_refl _)
  | number s m e => exact nearest_number f s m e
theorem floatBits_number {op : BinOp} {k : FloatKind} {x y r : Nat} (h : floatBits op k x y = some r) : nan k r = false := by
  unfold nan FloatKind.decode
  cases op <;> simp only [floatBits, Format.add, Format.sub, Format.mul, Format.div, Option.map_eq_some_iff] at h
  case add => obtain ⟨d, hd, rfl⟩ := h; exact write_number _ (sum_number hd)
  case sub => obtain ⟨d, hd, rfl⟩ := h; exact write_number _ (sum_number hd)
  case mul => obtain ⟨d, hd, rfl⟩ := h; exact write_number _ (product_number hd)
  case quo => obtain ⟨d, hd, rfl⟩ := h; exact write_number _ (quotient_number hd)
  all_goals cases h
theorem floatBits_left {op : BinOp} {k : FloatKind} {x : Nat} (y : Nat) (h : nan k x = true) : floatBits op k x y = none := by
  unfold nan FloatKind.decode at h
  cases op <;> simp only [floatBits, Format.add, Format.sub, Format.mul, Format.div]
  all_goals cases hx : k.format.read x <;> simp_all [Datum.isNaN, Datum.sum, Datum.product, Datum.quotient]
theorem floatBits_right {op : BinOp} {k : FloatKind} {y : Nat} (x : Nat) (h : nan k y = true) : floatBits op k x y = none := by
  unfold nan FloatKind.decode at h
  cases op <;> simp only [floatBits, Format.add, Format.sub, Format.mul, Format.div]
  all_goals cases hy : k.format.read y <;> simp_all [Datum.isNaN]
  all_goals cases hx : k.format.read x <;> simp [Datum.opposite, Datum.sum, Datum.product, Datum.quotient]
/-- some float that is no number -/
def nanW : FloatKind → Nat
  | .f32 => 2143289344
  | .f64 => 9221120237041090560
theorem nanW_nan (k : FloatKind) : nan k (nanW k) = true := by cases k <;> decide
/-- the result of an operation -/
def opC (op : BinOp) (k : FloatKind) (x y : Nat) : Nat := (floatBits op k x y).getD (nanW k)
theorem opC_al {op : BinOp} {k : FloatKind} {x y x' y' : Nat} (h : Al k x x') (g : Al k y y') : opC op k x y = opC op k x' y' := by
  rcases h with rfl | ⟨h1, h2⟩
  · rcases g with rfl | ⟨g1, g2⟩
    · rfl
    · unfold opC; rw [floatBits_right x g1, floatBits_right x g2]
  · unfold opC; rw [floatBits_left y h1, floatBits_left y' h2]
theorem cut_nan (k : FloatKind) (x y t : Nat) : nan k ((Question.nanBits k x y).cut t) = true := by
  cases k
  · exact nan_cut32 _
  · exact nan_cut64 _
theorem arith_al {P : Program} (op : BinOp) (hop : op = .add ∨ op = .sub ∨ op = .mul ∨ op = .quo) (t : TypeId) (k : FloatKind) (x y : Nat) (w : World) :
    ∃ z w', (binOp op t (.float k x) (.float k y)).run P w = .ok (.float k z) w' ∧ z < 2 ^ k.format.width ∧ Drw w w' ∧ Al k (opC op k x y) z := by
  cases h : floatBits op k x y with
  | some r =>
    refine ⟨r, w, run_float_arith w op t k x y r h, ?_, Drw.refl w, .inl ?_⟩
    · have := floatBits_wf h
      cases k <;> simpa [Lit.wf, width32, width64] using this
    · unfold opC; rw [h]; rfl
  | none =>
    refine ⟨(Question.nanBits k x y).cut (w.tape w.drawn (Question.nanBits k x y)), w.drew, ?_, ?_, (Drw.refl w).drew, .inr ⟨?_, cut_nan _ _ _ _⟩⟩
    · unfold floatBits at h
      rcases hop with rfl | rfl | rfl | rfl <;> simp only at h <;> simp [binOp, Op.floatArith, h] <;> (intro hf; simp [Question.forced] at hf)
    · cases k
      · exact cut_lt32 _ _ _
      · exact cut_lt64 _ _ _
    · unfold opC; rw [h]; exact nanW_nan k
theorem opC_lt {op : BinOp} {k : FloatKind} {x y : Nat} : opC op k x y < 2 ^ k.format.width := by
  unfold opC
  cases h : floatBits op k x y with
  | some r =>
    have := floatBits_wf h
    cases k <;> simpa [Lit.wf, width32, width64] using this
  | none => cases k <;> decide
end Go.Proofs.YtdfoobemgdiobaaDoor.Flo
