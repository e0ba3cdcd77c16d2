/- Walks: angles drawn. -/
import Derived.Test.YteegdpnidakjiaaDoorAngM
import Derived.Test.YteegdpnidakjiaaDoorRd
namespace Go.Proofs.YteegdpnidakjiaaDoor
open Go.RowKit

theorem Box.only {w0 W W' : World} {b b' : Nat} {C : Array Value} {T : TypeId} (h : Box w0 b' C T W) (k : Only b W W') (hne : b' ≠ b) (hb : w0.heap.size ≤ b) : Box w0 b' C T W' :=
  ⟨(k.block b' h.lt hne).trans h.blk, h.old.trans (k.below _ h.old.size hb)⟩
theorem Rd.own {w0 : World} {b p : Nat} {W : World} (h : Rd w0 b p W) : w0.heap.size ≤ b ∧ b < W.heap.size := by
  obtain ⟨_, _, _, h, _, h2, _⟩ := h; exact ⟨h2, h.lt⟩
theorem Rd.other {w0 : World} {b q : Nat} {W : World} (h : Rd w0 b q W) {p : Addr} (hp : w0.heap.size ≤ p.block) (hne : b ≠ p.block) (v : Value) : Rd w0 b q (W.setCell p v) := by
  obtain ⟨a, c, bs, h, r⟩ := h; exact ⟨a, c, bs, h.other hp hne v, r⟩
/-- what is drawn: a small bottom, or the greatest -/
def DrawnA (x y : Int) : Prop := y ≤ 64 ∨ (x = 1 ∧ y = 1048576)
end Go.Proofs.YteegdpnidakjiaaDoor
