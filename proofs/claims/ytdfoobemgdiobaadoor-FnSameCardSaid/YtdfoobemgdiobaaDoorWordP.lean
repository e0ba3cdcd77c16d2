/- Plain: the hexadecimal digits of a word of 32 bits. -/
import Derived.WalkKit
import Derived.Laws.BitsAllLaws
import Derived.Lib.Bytealg
namespace Go.Proofs.YtdfoobemgdiobaaDoor
/-- the digits -/
def hexL : List UInt8 := [48, 49, 50, 51, 52, 53, 54, 55, 56, 57, 97, 98, 99, 100, 101, 102]
theorem hexL_length : hexL.length = 16 := rfl
def hexD (d : Nat) : UInt8 := hexL.getD d 0
/-- digit number j, from the highest on -/
def hexAt (n j : Nat) : Nat := n / 2 ^ (4 * (7 - j)) % 16
theorem hexAt_lt (n j : Nat) : hexAt n j < 16 := Nat.mod_lt _ (by omega)
/-- the first j digits -/
def wordTo (n : Nat) : Nat → List UInt8
  | 0 => []
  | j + 1 => wordTo n j ++ [hexD (hexAt n j)]
def wordL (n : Nat) : List UInt8 := wordTo n 8
theorem wordTo_length (n j : Nat) : (wordTo n j).length = j := by
  induction j with
  | zero => rfl
  | succ j ih => simp [wordTo, ih]
theorem hexL_extract (d : Nat) (h : d < 16) : (⟨hexL.toArray⟩ : ByteArray).extract d (d + 1) = ⟨#[hexD d]⟩ := by
  have : ∀ d : Fin 16, (⟨hexL.toArray⟩ : ByteArray).extract d (d + 1) = ⟨#[hexD d]⟩ := by decide +kernel
  exact this ⟨d, h⟩
theorem hexAt_walk (n j : Nat) (h : n < 4294967296) : bits BinOp.and IntKind.u32 ((n : Int) / 2 ^ (4 * (7 - j))) 15 = ((hexAt n j : Nat) : Int) := by
  have e : (n : Int) / 2 ^ (4 * (7 - j)) = ((n / 2 ^ (4 * (7 - j)) : Nat) : Int) := by simp
  have hl : n / 2 ^ (4 * (7 - j)) ≤ n := Nat.div_le_self _ _
  rw [e, show (15 : Int) = ((15 : Nat) : Int) from rfl, u32_and_nat _ _ (by omega) (by omega)]
  rw [Nat.and_two_pow_sub_one_eq_mod _ 4]; rfl
/-- the cells of the array behind j rounds -/
def wordCells (n j : Nat) : Array Value := ((wordTo n j ++ List.replicate (8 - j) 0).map fun b : UInt8 => Value.int .u8 b.toNat).toArray
theorem wordCells_size (n j : Nat) (h : j ≤ 8) : (wordCells n j).size = 8 := by
  simp [wordCells, wordTo_length]; omega
theorem wordCells_set (n j : Nat) (h : j < 8) : (wordCells n j).setIfInBounds j (.int .u8 (hexD (hexAt n j)).toNat) = wordCells n (j + 1) := by
  apply Array.toList_inj.1
  simp only [wordCells, Array.toList_setIfInBounds]
  have e : List.replicate (8 - j) (0 : UInt8) = 0 :: List.replicate (8 - (j + 1)) 0 := by
    rw [show 8 - j = (8 - (j + 1)) + 1 by omega]; rfl
  rw [e, wordTo]
  have hl := wordTo_length n j
  rw [List.map_append, List.set_append_right _ _ (by simp [hl])]
  simp [hl]
theorem wordCells_zero (n : Nat) : wordCells n 0 = #[.int .u8 0, .int .u8 0, .int .u8 0, .int .u8 0, .int .u8 0, .int .u8 0, .int .u8 0, .int .u8 0] := rfl
theorem wordCells_cell (n j : Nat) (h : j < 8) : (wordCells n 8)[j]? = some (.int .u8 ((wordL n)[j]'(by rw [wordL, wordTo_length]; exact h)).toNat) := by
  have hl := wordTo_length n 8
  simp [wordCells, wordL, List.getElem?_eq_getElem (show j < (wordTo n 8).length by omega)]
theorem wordL_length (n : Nat) : (wordL n).length = 8 := wordTo_length n 8
theorem hex_get (d : Nat) (h : d < (⟨#[48, 49, 50, 51, 52, 53, 54, 55, 56, 57, 97, 98, 99, 100, 101, 102]⟩ : ByteArray).size) : (⟨#[48, 49, 50, 51, 52, 53, 54, 55, 56, 57, 97, 98, 99, 100, 101, 102]⟩ : ByteArray)[d] = hexD d := by
  have hd : d < 16 := h
  have : ∀ d : Fin 16, (⟨#[48, 49, 50, 51, 52, 53, 54, 55, 56, 57, 97, 98, 99, 100, 101, 102]⟩ : ByteArray)[d.val]'d.isLt = hexD d := by decide +kernel
  exact this ⟨d, hd⟩
/-- the digit that a byte is -/
def hexV (c : UInt8) : Option Nat := hexL.idxOf? c
/-- the first j digits' number; none: one of them is no digit -/
def readTo (l : List UInt8) : Nat → Option Nat
  | 0 => some 0
  | j + 1 => (readTo l j).bind fun n => (hexV (l.getD j 0)).map fun d => n * 16 + d
/-- what a word reads as -/
def wordR (l : List UInt8) : Option Nat := if l.length = 8 then readTo l 8 else none
theorem hexV_some {c : UInt8} {m : Nat} (hm : m < 16) (hne : ∀ i, i < m → hexL.getD i 0 ≠ c) (he : hexL.getD m 0 = c) : hexV c = some m := by
  subst he
  revert hne
  have : ∀ m : Fin 16, (hexV (hexL.getD m 0) = some m.val) := by decide +kernel
  intro _
  exact this ⟨m, hm⟩
theorem hexV_none {c : UInt8} (hne : ∀ i, i < 16 → hexL.getD i 0 ≠ c) : hexV c = none := by
  unfold hexV
  rw [List.idxOf?_eq_none_iff]
  intro hc
  obtain ⟨i, hi, he⟩ := List.getElem_of_mem hc
  refine hne i (by simpa [hexL] using hi) ?_
  rw [List.getD_eq_getElem?_getD, List.getElem?_eq_getElem hi]
  simpa using he
theorem hexV_lt {c : UInt8} {d : Nat} (h : hexV c = some d) : d < 16 := by
  unfold hexV at h
  have := List.idxOf?_eq_some_iff.1 h
  obtain ⟨hd, _⟩ := this
  simpa [hexL] using hd
theorem readTo_lt {l : List UInt8} : ∀ {j n : Nat}, readTo l j = some n → n < 16 ^ j := by
  intro j
  induction j with
  | zero => intro n h; simp [readTo] at h; subst h; decide
  | succ j ih =>
    intro n h
    simp only [readTo] at h
    cases hj : readTo l j with
    | none => rw [hj] at h; simp at h
    | some a =>
      rw [hj] at h
      cases hd : hexV (l.getD j 0) with
      | none => simp only [hd, Option.bind_some, Option.map_none] at h; cases h
      | some d =>
        have h1 := ih hj
        have h2 := hexV_lt hd
        simp only [hd, Option.bind_some, Option.map_some, Option.some.injEq] at h
        subst h
        rw [Nat.pow_succ]
        omega
theorem readTo_none_le {l : List UInt8} {j k : Nat} (h : readTo l j = none) (hk : j ≤ k) : readTo l k = none := by
  induction k with
  | zero => obtain rfl : j = 0 := by omega
            exact h
  | succ k ih =>
    by_cases e : j = k + 1
    · subst e; exact h
    · simp [readTo, ih (by omega)]
theorem wordR_lt {l : List UInt8} {n : Nat} (h : wordR l = some n) : n < 4294967296 := by
  unfold wordR at h
  split at h
  · exact readTo_lt h
  · cases h
theorem indexByte_eq (l : List UInt8) (c : UInt8) : Lib.indexByte l c = match l.idxOf? c with | some d => (d : Int) | none => -1 := by
  induction l with
  | nil => rfl
  | cons b l ih =>
    unfold Lib.indexByte
    rw [List.idxOf?_cons]
    by_cases h : b == c
    · simp [h]
    · simp only [h, Bool.false_eq_true, if_false]
      rw [ih]
      cases hl : l.idxOf? c with
      | none => simp
      | some d => simp
theorem hexV_index (c : UInt8) : Lib.indexByte hexL c = match hexV c with | some d => (d : Int) | none => -1 := indexByte_eq hexL c
end Go.Proofs.YtdfoobemgdiobaaDoor
