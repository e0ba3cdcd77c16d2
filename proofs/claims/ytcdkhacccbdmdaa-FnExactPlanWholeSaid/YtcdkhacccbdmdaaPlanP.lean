/- Plain: paths of plans. -/
import Derived.Test.YtcdkhacccbdmdaaBase
namespace Go.Proofs.Ytcdkhacccbdmdaa

def digitOK (c : UInt8) : Bool := decide (48 ≤ c.toNat) && decide (c.toNat ≤ 51)
/-- a path has only its signs and at most a number of them -/
def pathOK (s : ByteArray) (most : Nat) : Bool := decide (s.size ≤ most) && s.data.toList.all digitOK
/-- the greatest length, if all are paths -/
def depthTo : List ByteArray → Nat → Option Nat
  | [], d => some d
  | s :: r, d => if pathOK s 10 then depthTo r (max d s.size) else none
def planDepth (ss : List ByteArray) (m : Nat) : Option Nat := if ss.length = 0 then none else if m = ss.length then depthTo ss 0 else none
theorem pathOK_of {s : ByteArray} {most : Nat} (h : s.size ≤ most) (hd : ∀ j, j < s.size → digitOK (s.data.toList.getD j 0) = true) : pathOK s most = true := by
  simp only [pathOK, Bool.and_eq_true, decide_eq_true_eq, List.all_eq_true]
  refine ⟨h, fun c hc => ?_⟩
  obtain ⟨i, hi, rfl⟩ := List.getElem_of_mem hc
  have hi' : i < s.size := by rw [← len_eq]; exact hi
  have := hd i hi'
  rwa [List.getD_eq_getElem?_getD, List.getElem?_eq_getElem hi] at this
theorem pathOK_long {s : ByteArray} {most : Nat} (h : most < s.size) : pathOK s most = false := by
  have : decide (s.size ≤ most) = false := by simp; omega
  simp only [pathOK, this, Bool.false_and]
theorem pathOK_bad {s : ByteArray} {most j : Nat} (hj : j < s.size) (hd : digitOK (s.data.toList.getD j 0) = false) : pathOK s most = false := by
  have hi : j < s.data.toList.length := by rw [len_eq]; exact hj
  rw [List.getD_eq_getElem?_getD, List.getElem?_eq_getElem hi] at hd
  have : s.data.toList.all digitOK = false := by
    rw [List.all_eq_false]
    exact ⟨_, List.getElem_mem hi, by simpa using hd⟩
  simp only [pathOK, this, Bool.and_false]
theorem depthTo_ok {s : ByteArray} {r : List ByteArray} {d : Nat} (h : pathOK s 10 = true) : depthTo (s :: r) d = depthTo r (max d s.size) := by
  simp only [depthTo, h, if_true]
theorem depthTo_no {s : ByteArray} {r : List ByteArray} {d : Nat} (h : pathOK s 10 = false) : depthTo (s :: r) d = none := by
  simp only [depthTo, h, Bool.false_eq_true, if_false]
end Go.Proofs.Ytcdkhacccbdmdaa
