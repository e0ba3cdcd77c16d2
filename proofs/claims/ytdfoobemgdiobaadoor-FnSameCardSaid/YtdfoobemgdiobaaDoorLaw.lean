/- What closes a law: from 'the call returns true and leaves old memory as it was' to the given row's post. -/
import Derived.Test.YtdfoobemgdiobaaDoorRows
import Derived.WalkKit
import Derived.ProofKit
import Derived.OpenVars
import Derived.Lib.SmallJoins
import Derived.Test.YtdfoobemgdiobaaDoorSl
namespace Go.Proofs.YtdfoobemgdiobaaDoor
open Go.ChangeShapes Go.WideShapes Go.ChangeAt Go.RowKit

theorem own : ownKnob Tryd.prog.godebug = none := by kernel_rfl
theorem laidOut : laidOutB Tryd.prog = true := by kernel_rfl

/-- each parameter's type can be read and is a row of the table -/
def parsRowed (P : Program) (ts : List TypeId) : Bool := ts.all fun t => P.readableRec t && decide (t < P.types.size)

theorem trodAll_below {H : Type} {enc : TypeId × Value → H} {P : Program} (hl : laidOutB P = true) {W W' : World} (hb : Below W.heap.size W W') :
    ∀ {ts : List TypeId} {vs : List Value} {ds : List (DataW H)} {ps : List MemPlace}, parsRowed P ts = true →
      DataW.TrodAll enc P W 0 (fun _ => true) true ts vs ds ps → (∀ x ∈ ps, x.block < W.heap.size) →
      DataW.TrodAll enc P W' 0 (fun b => decide (b < W.heap.size)) true ts vs ds ps
  | [], [], [], _, _, h, _ => h
  | [], [], _ :: _, _, _, h, _ => h.elim
  | [], _ :: _, _, _, _, h, _ => h.elim
  | _ :: _, [], _, _, _, h, _ => h.elim
  | _ :: _, _ :: _, [], _, _, h, _ => h.elim
  | t :: ts, v :: vs, d :: ds, ps, hv, h, hlt => by
    obtain ⟨p, q, h1, h2, rfl⟩ := h
    simp only [parsRowed, List.all_cons, Bool.and_eq_true, decide_eq_true_eq] at hv
    exact ⟨p, q, Below.trod hl hv.1.1 hv.1.2 h1 hb (fun x hx => hlt x (by simp [hx])),
      trodAll_below hl hb (by simpa [parsRowed] using hv.2) h2 (fun x hx => hlt x (by simp [hx])), rfl⟩

/-- THE POST OF A LAW -/
theorem law_post {H : Type} {enc : TypeId × Value → H} {P : Program} {fn : Func} {s : ChangeSpec} {apart : Bool} {W W' : World} {args : Array Value} {ds gs : List (DataW H)} {before : List MemPlace} {tb : TypeId}
    (hl : laidOutB P = true) (hp : parsRowed P fn.params.toList = true) (hvr : varsRowed P s.vars = true) (hr : fn.resultTypes = #[tb]) (htb : P.underlying tb = some .bool)
    (hW : DataW.Whole enc P fn.params.toList s.vars apart W args.toList ds gs before)
    (hs : (s.fn H (ds ++ gs)).results = [.lit (.bool true)]) (ha : (s.fn H (ds ++ gs)).args = ds) (hv : (s.fn H (ds ++ gs)).vars = gs)
    (hb : Below W.heap.size W W') : s.post enc P fn apart true false false W args (.bool true) W' := by
  have hlt := hW.lt
  have hW2 := hW
  obtain ⟨p, q, hA, hV, rfl, hz, hn⟩ := hW
  refine ⟨ds, gs, p ++ q, [], p, q, hW2, ?_, ?_, ?_, ?_, fun h => by cases h⟩
  · rw [hs, hr]
    exact trodAll_mk1 (shut_bool htb true)
  · rw [ha]
    exact trodAll_below hl hb hp hA (fun x hx => hlt x (by simp [hx]))
  · rw [hv]
    exact Below.trodVars hl hb hvr hV
  · exact hb.frame _
/-- a struct of two ints, by value -/
theorem open_angle {H : Type} {enc : TypeId × Value → H} {P : Program} {w : World} {base : Nat} {spare : Nat → Bool} {held : Bool} {r : Reach} {b0 : Nat} {t : TypeId} {f0 f1 : Field} {v : Value} {d : DataW H} {p : List MemPlace}
    (hs : P.underlying t = some (.struct #[f0, f1])) (hone : Deep.oneCellFields P #[f0, f1] = true) (hC : P.cellsOf t = 2) (h0 : P.underlying f0.type = some (.int .i64)) (h1 : P.underlying f1.type = some (.int .i64))
    (hv : Value.okWide P w r b0 t v) (h : DataW.Trod enc P w base spare held t v d p) :
    ∃ x y : Int, v = .agg #[.int .i64 x, .int .i64 y] ∧ (Lit.int .i64 x).wf = true ∧ (Lit.int .i64 y).wf = true := by
  obtain ⟨c0, c1, y0, y1, m, rfl, rfl, rfl, hy0, hy1⟩ := Joins.open_agg2 hs hone hC hv h
  obtain ⟨a, e0, rfl, wa⟩ := DataW.trod_int h0 hy0
  obtain ⟨b, e1, rfl, wb⟩ := DataW.trod_int h1 hy1
  simp at e0 e1
  subst e0 e1
  exact ⟨a, b, rfl, wa, wb⟩
open Go.Deep in
/-- a struct of five fields of one cell each, by value -/
theorem open_agg5 {H : Type} {enc : TypeId × Value → H} {P : Program} {w : World} {base : Nat} {spare : Nat → Bool} {held : Bool} {r : Reach} {b0 : Nat} {t : TypeId} {f0 f1 f2 f3 f4 : Field} {v : Value} {d : DataW H} {p : List MemPlace} (hs : P.underlying t = some (.struct #[f0, f1, f2, f3, f4])) (hone : oneCellFields P #[f0, f1, f2, f3, f4] = true) (hC : P.cellsOf t = 5)
    (hv : Value.okWide P w r b0 t v) (h : DataW.Trod enc P w base spare held t v d p) :
    ∃ (v0 v1 v2 v3 v4 : Value) (y0 y1 y2 y3 y4 : DataW H × List MemPlace) (n : Nat), v = .agg #[v0, v1, v2, v3, v4] ∧
      DataW.trod enc P w base spare held n f0.type [v0] = some y0 ∧ DataW.trod enc P w base spare held n f1.type [v1] = some y1 ∧ DataW.trod enc P w base spare held n f2.type [v2] = some y2 ∧ DataW.trod enc P w base spare held n f3.type [v3] = some y3 ∧ DataW.trod enc P w base spare held n f4.type [v4] = some y4 := by
  obtain ⟨cs, rfl, hsz⟩ := okWide_struct hs hv
  obtain ⟨c0, c1, c2, c3, c4, rfl⟩ : ∃ c0 c1 c2 c3 c4, cs = #[c0, c1, c2, c3, c4] := by
    replace hsz := hsz.trans hC
    obtain ⟨l⟩ := cs
    match l, hsz with
    | [c0, c1, c2, c3, c4], _ => exact ⟨c0, c1, c2, c3, c4, rfl⟩
  obtain ⟨fuel, hf⟩ := h
  obtain ⟨xs, n, _, _, hl, hlen, hf⟩ := DataW.trod_struct hs hf
  obtain ⟨o0, k0⟩ := hone_of hone 0 f0 rfl
  obtain ⟨o1, k1⟩ := hone_of hone 1 f1 rfl
  obtain ⟨o2, k2⟩ := hone_of hone 2 f2 rfl
  obtain ⟨o3, k3⟩ := hone_of hone 3 f3 rfl
  obtain ⟨o4, k4⟩ := hone_of hone 4 f4 rfl
  match xs, hlen with
  | [y0, y1, y2, y3, y4], _ =>
    have g0 := by simpa using hf 0 f0 rfl
    have g1 := by simpa using hf 1 f1 rfl
    have g2 := by simpa using hf 2 f2 rfl
    have g3 := by simpa using hf 3 f3 rfl
    have g4 := by simpa using hf 4 f4 rfl
    exact ⟨c0, c1, c2, c3, c4, y0, y1, y2, y3, y4, n, rfl, by simpa [Value.cells, o0, k0] using g0, by simpa [Value.cells, o1, k1] using g1, by simpa [Value.cells, o2, k2] using g2, by simpa [Value.cells, o3, k3] using g3, by simpa [Value.cells, o4, k4] using g4⟩
theorem list_of {α : Type} {f : α → Value} {R : α → Prop} {V : Nat → Value} : ∀ {len : Nat}, (∀ i, i < len → ∃ x, V i = f x ∧ R x) → ∃ X : List α, X.length = len ∧ ∀ i x, X[i]? = some x → V i = f x ∧ R x
  | 0, _ => ⟨[], rfl, by simp⟩
  | k + 1, hV => by
    obtain ⟨X, hX, hX2⟩ := list_of (len := k) (fun i hi => hV i (by omega))
    obtain ⟨x, hx⟩ := hV k (by omega)
    refine ⟨X ++ [x], by simp [hX], fun i u hu => ?_⟩
    by_cases hi : i < X.length
    · rw [List.getElem?_append_left hi] at hu; exact hX2 i u hu
    · rw [List.getElem?_append_right (by omega)] at hu
      have : i - X.length = 0 := by
        rcases Nat.eq_zero_or_pos (i - X.length) with h | h
        · exact h
        · rw [List.getElem?_eq_none (by simp; omega)] at hu; cases hu
      rw [this] at hu
      simp at hu
      subst hu
      obtain rfl : i = k := by omega
      exact hx
/-- a slice that came in, its elements of one cell -/
theorem open_sl {H : Type} {enc : TypeId × Value → H} {P : Program} {w : World} {base : Nat} {spare : Nat → Bool} {held : Bool} {t e : TypeId} {α : Type} {f : α → Value} {R : α → Prop} (ht : P.underlying t = some (.slice e)) (hc : P.cellsOf e = 1)
    (he : ∀ n v (y : DataW H × List MemPlace), DataW.trod enc P w base spare held n e [v] = some y → ∃ x, v = f x ∧ R x) {n : Nat} {v : Value} {y : DataW H × List MemPlace} (h : DataW.trod enc P w base spare held n t [v] = some y) :
    ∃ (a : Option Addr) (c : Nat) (xs : List α), v = .slice a xs.length c ∧ xs.length ≤ maxLen ∧ Sl w a (xs.map f) ∧ (∀ x ∈ xs, R x) ∧ xs.length ≤ c := by
  rcases Deep.open_slice1 ht hc h with ⟨h, _⟩ | ⟨a, len, cap, m, n, V, D, Pl, hcs, _, hl, hm, hmm, _, hx⟩
  · simp at h; exact ⟨none, 0, [], h, Nat.zero_le _, .inl rfl, by simp, Nat.le_refl _⟩
  · have hlm : len ≤ m := by rw [hmm]; split <;> omega
    have hV : ∀ i, i < len → ∃ x, V i = f x ∧ R x := fun i hi => he _ _ _ (hx i (by omega)).2
    obtain ⟨X, hX, hX2⟩ := list_of hV
    simp at hcs
    subst hcs
    refine ⟨some a, cap, X, by rw [hX], by omega, ?_, fun x hx => ?_, by omega⟩
    · by_cases h0 : len = 0
      · exact .inl (by rw [List.eq_nil_of_length_eq_zero (show X.length = 0 by omega)]; rfl)
      · have hspot : a = ⟨a.block, a.off, none⟩ := by
          have := (hx 0 (by omega)).1
          obtain ⟨b, o, s⟩ := a
          cases s with
          | none => rfl
          | some s => simp [Addr.add, World.cell?] at this; split at this <;> simp at this
        refine .inr ⟨a.block, a.off, by rw [← hspot], fun i v hv => ?_⟩
        rw [List.getElem?_map] at hv
        obtain ⟨x, hx1, rfl⟩ := Option.map_eq_some_iff.1 hv
        have hi : i < len := by
          have := (List.getElem?_eq_some_iff.1 hx1).1; omega
        rw [← (hX2 i x hx1).1, ← (hx i (by omega)).1]
        congr 1
        unfold Addr.add
        by_cases hi0 : i = 0
        · rw [if_pos hi0, hi0, Nat.add_zero]; exact hspot.symm
        · rw [if_neg hi0]
    · obtain ⟨i, hi, rfl⟩ := List.getElem_of_mem hx
      exact (hX2 i _ (List.getElem?_eq_getElem hi)).2
/-- bytes that came in -/
theorem open_bytes {H : Type} {enc : TypeId × Value → H} {P : Program} {w : World} {base : Nat} {spare : Nat → Bool} {held : Bool} {r : Reach} {b0 : Nat} {t e : TypeId} {v : Value} {d : DataW H} {p : List MemPlace} (ht : P.underlying t = some (.slice e)) (hu : P.underlying e = some (.int .u8)) (hc : P.cellsOf e = 1)
    (hv : Value.okWide P w r b0 t v) (h : DataW.Trod enc P w base spare held t v d p) : ∃ (a : Option Addr) (c : Nat) (bs : List UInt8), v = .slice a bs.length c ∧ bs.length ≤ maxLen ∧ bs.length ≤ c ∧ Sl w a (bs.map byteV) := by
  obtain ⟨fuel, hf⟩ := h
  obtain ⟨a, l, c, rfl⟩ : ∃ a l c, v = .slice a l c := okWide_slice ht hv
  obtain ⟨a, c, xs, e, hn, hS, _, hc⟩ := open_sl (f := byteV) (R := fun _ => True) ht hc (fun n v y hy => by
    obtain ⟨x, e, _, hw⟩ := DataW.trod_int hu hy
    simp at e
    subst e
    have : x.toNat < 256 ∧ 0 ≤ x := by simp [Lit.wf, IntKind.min, IntKind.max, IntKind.signed, IntKind.bits] at hw; omega
    refine ⟨⟨⟨x.toNat, by omega⟩⟩, ?_, trivial⟩
    unfold byteV
    congr 1
    show x = (x.toNat : Int)
    omega) (by simpa [Value.cells] using hf)
  exact ⟨a, c, xs, e, hn, hc, hS⟩
end Go.Proofs.YtdfoobemgdiobaaDoor
