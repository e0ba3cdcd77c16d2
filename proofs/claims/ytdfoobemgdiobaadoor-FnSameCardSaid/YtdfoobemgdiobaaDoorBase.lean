/- Words for worlds: only draws. -/
import Derived.WalkKit
import Derived.WalkSpells
import Derived.WalkLawsBesides
import Derived.Lib.Hide
import Derived.Deep.QuietTactic
import Derived.BigQuiet
namespace Go.Proofs.YtdfoobemgdiobaaDoor
open Go.RowKit

/-- nothing but draws -/
def Drw (w w' : World) : Prop := ∃ n, w' = w.drewN n
theorem Drw.refl (w : World) : Drw w w := ⟨0, rfl⟩
theorem Drw.trans {a b c : World} (h : Drw a b) (k : Drw b c) : Drw a c := by
  obtain ⟨n, rfl⟩ := h
  obtain ⟨m, rfl⟩ := k
  exact ⟨n + m, by rw [World.drewN_drewN]⟩
theorem Drw.drewN {a b : World} (h : Drw a b) (n : Nat) : Drw a (b.drewN n) := h.trans ⟨n, rfl⟩
theorem Drw.drew {a b : World} (h : Drw a b) : Drw a b.drew := h.trans ⟨1, rfl⟩
theorem Drw.of_eq {a b : World} (h : a = b) : Drw a b := h ▸ Drw.refl a
theorem Drw.below {a b : World} (h : Drw a b) (B : Nat) : Below B a b := by
  obtain ⟨n, rfl⟩ := h
  exact ⟨rfl, rfl, rfl, Nat.le_refl _, fun _ _ => rfl⟩
theorem Drw.heap {a b : World} (h : Drw a b) : b.heap = a.heap := by obtain ⟨n, rfl⟩ := h; rfl
theorem Drw.cell {a b : World} (h : Drw a b) (p : Addr) : b.cell? p = a.cell? p := by obtain ⟨n, rfl⟩ := h; rfl
theorem Drw.frozen {a b : World} (h : Drw a b) (p : Addr) : b.frozen? p = a.frozen? p := by obtain ⟨n, rfl⟩ := h; rfl
theorem below_drewN {B : Nat} {a w : World} (h : Below B a w) (n : Nat) : Below B a (w.drewN n) := ⟨h.os, h.tape, h.output, h.size, h.block⟩
/-- a callee that only draws, within a region that draws -/
theorem quiet_drw {P : Program} {f : FuncId} {args : Array Value} {w : World} {n : Nat} {v : Value}
    (h : Calls P f args (w.drewN n) fun e w' => e = .returned v ∧ Drw (w.drewN n) w') : Calls P f args (w.drewN n) fun e w'' => e = .returned v ∧ ∃ m, w'' = w.drewN m :=
  h.mono fun _ _ ⟨he, m, hm⟩ => ⟨he, n + m, by rw [hm, World.drewN_drewN]⟩
theorem quiet_eq {P : Program} {f : FuncId} {args : Array Value} {w : World} {n : Nat} {v : Value}
    (h : Calls P f args (w.drewN n) fun e w' => e = .returned v ∧ w.drewN n = w') : Calls P f args (w.drewN n) fun e w'' => e = .returned v ∧ ∃ m, w'' = w.drewN m :=
  h.mono fun _ _ ⟨he, hm⟩ => ⟨he, n, hm.symm⟩
/-- a box laid ahead of a call reads behind it as it did -/
theorem below_box {B : Nat} {w w' : World} {C : Array Value} {T : TypeId} (h : Below B (w.alloc (.cells C T)) w') (hB : w.heap.size < B) (j : Nat) : w'.cell? ⟨w.heap.size, j, none⟩ = C[j]? :=
  (h.cell (p := ⟨w.heap.size, j, none⟩) hB).trans (World.cell?_alloc_mark w C T (0, 0) j)
theorem below_alloc {w w' : World} {o : Obj} {B : Nat} (h : Below B (w.alloc o) w') (hB : w.heap.size ≤ B) : Below w.heap.size w w' :=
  ((Below.refl _ w).alloc (Nat.le_refl _) o).trans (h.mono hB)
/-- a box that the call has laid, behind what leaves older memory alone -/
structure Box (w0 : World) (b : Nat) (C : Array Value) (T : TypeId) (W : World) : Prop where
  blk : W.heap[b]? = some (.cells C T (0, 0))
  old : Below w0.heap.size w0 W
theorem Box.new (w : World) (C : Array Value) (T : TypeId) : Box w w.heap.size C T (w.alloc (.cells C T)) :=
  ⟨(MapKept.heap_alloc w _).1, (Below.refl _ _).alloc (Nat.le_refl _) _⟩
theorem Box.lt {w0 W : World} {b : Nat} {C : Array Value} {T : TypeId} (h : Box w0 b C T W) : b < W.heap.size := (Array.getElem?_eq_some_iff.1 h.blk).1
theorem Box.step {w0 W W' : World} {b : Nat} {C : Array Value} {T : TypeId} (h : Box w0 b C T W) (k : Below W.heap.size W W') : Box w0 b C T W' :=
  ⟨(k.block b h.lt).trans h.blk, h.old.trans (k.mono h.old.size)⟩
theorem Box.alloc {w0 W : World} {b : Nat} {C : Array Value} {T : TypeId} (h : Box w0 b C T W) (o : Obj) : Box w0 b C T (W.alloc o) :=
  h.step ((Below.refl _ _).alloc (Nat.le_refl _) _)
theorem Box.cell {w0 W : World} {b : Nat} {C : Array Value} {T : TypeId} (h : Box w0 b C T W) (j : Nat) (v : Value) (hv : C[j]? = some v) : W.cell? ⟨b, j, none⟩ = some v := by
  simp [World.cell?, h.blk, hv]
theorem Box.frozen {w0 W : World} {b : Nat} {C : Array Value} {T : TypeId} (h : Box w0 b C T W) (j : Nat) : W.frozen? ⟨b, j, none⟩ = false := by
  simp [World.frozen?, h.blk]
theorem ret_int {k : IntKind} {a b : Int} (h : a = b) : Ending.returned (.int k a) = .returned (.int k b) := by rw [h]
theorem ret_bool {a b : Bool} (h : a = b) : Ending.returned (.bool a) = .returned (.bool b) := by rw [h]
theorem ret_str {a b : ByteArray} (h : a = b) : Ending.returned (.string a) = .returned (.string b) := by rw [h]
theorem len_eq (s : ByteArray) : s.data.toList.length = s.size := Array.length_toList
theorem byte_eq (s : ByteArray) (j : Nat) (h : j < s.size) : s[j] = s.data.toList.getD j 0 := by
  have h' : j < s.data.toList.length := by rw [len_eq]; exact h
  rw [List.getD_eq_getElem?_getD, List.getElem?_eq_getElem h']
  rfl
end Go.Proofs.YtdfoobemgdiobaaDoor
