/- Words for slices that are read, and for slices that the call makes. -/
import Derived.Test.YtdfoobemgdiobaaDoorBase
import Derived.Laws.MakeOwn
import Derived.Lib.FrozenHead
namespace Go.Proofs.YtdfoobemgdiobaaDoor
open Go.RowKit

/-- the cells of bytes -/
def byteV (x : UInt8) : Value := .int .u8 x.toNat
/-- the slice with address a reads as xs -/
def Sl (W : World) (a : Option Addr) (xs : List Value) : Prop := xs = [] ∨ ∃ b off, a = some ⟨b, off, none⟩ ∧ ∀ i v, xs[i]? = some v → W.cell? ⟨b, off + i, none⟩ = some v
theorem Sl.nil (W : World) (a : Option Addr) : Sl W a [] := .inl rfl
theorem Sl.step {W W' : World} {a : Option Addr} {xs : List Value} (h : Sl W a xs) (k : Below W.heap.size W W') : Sl W' a xs := by
  rcases h with h | ⟨b, off, ha, h⟩
  · exact .inl h
  · refine .inr ⟨b, off, ha, fun i v hv => ?_⟩
    have h1 := h i v hv
    exact (k.cell (p := ⟨b, off + i, none⟩) (World.block_lt_of_cell? W _ h1)).trans h1
theorem Sl.drw {W W' : World} {a : Option Addr} {xs : List Value} (h : Sl W a xs) (k : Drw W W') : Sl W' a xs := h.step (k.below _)
theorem Sl.alloc {W : World} {a : Option Addr} {xs : List Value} (h : Sl W a xs) (o : Obj) : Sl (W.alloc o) a xs := h.step ((Below.refl _ _).alloc (Nat.le_refl _) _)
/-- at an index that is there: the address and the cell -/
theorem Sl.at {W : World} {a : Option Addr} {xs : List Value} {i : Nat} {v : Value} (h : Sl W a xs) (hv : xs[i]? = some v) : ∃ b off, a = some ⟨b, off, none⟩ ∧ W.cell? ⟨b, off + i, none⟩ = some v := by
  rcases h with h | ⟨b, off, ha, h⟩
  · subst h; simp at hv
  · exact ⟨b, off, ha, h i v hv⟩
/-- a whole block of the call's own, read as a slice -/
theorem Sl.of_box {w0 W : World} {b : Nat} {C : Array Value} {T : TypeId} {xs : List Value} (h : Box w0 b C T W) (hC : C.toList = xs) : Sl W (some ⟨b, 0, none⟩) xs := by
  refine .inr ⟨b, 0, rfl, fun i v hv => ?_⟩
  rw [Nat.zero_add]
  exact h.cell i v (by rw [← hC] at hv; simpa using hv)
theorem Box.set {w0 W : World} {b : Nat} {C : Array Value} {T : TypeId} (h : Box w0 b C T W) (hb : w0.heap.size ≤ b) (j : Nat) (v : Value) : Box w0 b (C.setIfInBounds j v) T (W.setCell ⟨b, j, none⟩ v) := by
  refine ⟨?_, h.old.setCell (p := ⟨b, j, none⟩) hb v⟩
  obtain ⟨hlt, he⟩ := Array.getElem?_eq_some_iff.1 h.blk
  show (W.heap.modify b _)[b]? = _
  rw [Array.getElem?_eq_getElem (by rw [Array.size_modify]; exact hlt), Array.getElem_modify_self, he]
  rfl
theorem Box.other {w0 W : World} {b : Nat} {C : Array Value} {T : TypeId} (h : Box w0 b C T W) {p : Addr} (hp : w0.heap.size ≤ p.block) (hne : b ≠ p.block) (v : Value) : Box w0 b C T (W.setCell p v) :=
  ⟨(Below.heap_setCell W p v b hne).trans h.blk, h.old.setCell hp v⟩
theorem Box.up {w0 w1 W : World} {b : Nat} {C : Array Value} {T : TypeId} (h : Box w1 b C T W) (k : Below w0.heap.size w0 w1) : Box w0 b C T W :=
  ⟨h.blk, k.trans (h.old.mono k.size)⟩
theorem Sl.other {W : World} {b : Nat} {xs : List Value} (h : Sl W (some ⟨b, 0, none⟩) xs) {p : Addr} (hne : b ≠ p.block) (v : Value) : Sl (W.setCell p v) (some ⟨b, 0, none⟩) xs := by
  rcases h with h | ⟨b', off, hb, h⟩
  · exact .inl h
  · refine .inr ⟨b', off, hb, fun i u hu => ?_⟩
    have hbe : b' = b := by injection hb with hb; injection hb with hb _ _; exact hb.symm
    rw [← h i u hu]
    exact World.cell?_of_block (Below.heap_setCell _ _ _ _ (by simpa [hbe] using hne))
theorem size_set (W : World) (p : Addr) (v : Value) : (W.setCell p v).heap.size = W.heap.size := by simp [World.setCell]
/-- make([]T, n) -/
theorem run_make_n {P : Program} (t e : TypeId) (i : TypeInfo) (z : Value) (ht : P.underlying t = some (.slice e)) (hi : P.info? e = some i) (hz : i.zero = some z) (n : Nat) (hb : i.bytes ≤ 128) (hn : n ≤ 1099511627776) :
    ∃ C : Array Value, C.size = n * i.size ∧ ∀ w : World, (Instr.makeSlice t (.int .i64 n) (.int .i64 n)).run P w = .ok (.slice (some ⟨w.heap.size, 0, none⟩) n n) (w.alloc (.cells C e)) := by
  refine ⟨madeCells z.cells (n * i.size), size_madeCells _ _, fun w => ?_⟩
  have hm : i.bytes * n ≤ 128 * 1099511627776 := Nat.mul_le_mul hb hn
  have hm2 : ((i.bytes * n : Nat) : Int) = (i.bytes : Int) * n := by simp
  have h := run_make w t e i z ht hi hz .i64 .i64 (n : Int) n (by omega) (Int.le_refl _) (by omega) (by omega)
  rw [Int.toNat_natCast] at h
  exact h
end Go.Proofs.YtdfoobemgdiobaaDoor
