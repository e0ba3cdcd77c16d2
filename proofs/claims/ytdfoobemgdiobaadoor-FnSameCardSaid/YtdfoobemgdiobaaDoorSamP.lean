/- Plain: the text of a tile. -/
import Derived.Test.YtdfoobemgdiobaaDoorWordP
import Derived.Test.YtdfoobemgdiobaaDoorWordB
import Derived.Test.YtdfoobemgdiobaaDoorSamB
namespace Go.Proofs.YtdfoobemgdiobaaDoor

def sgnC (y : Int) : UInt8 := if y = -1 then 45 else if y = 0 then 111 else 43
def cellT (p : Nat × Int) : List UInt8 := 32 :: (wordL p.1 ++ [sgnC p.2])
def cellsT (xs : List Nat) (ys : List Int) (j : Nat) : List UInt8 := (((xs.zip ys).take j).map cellT).flatten
theorem cellsT_zero (xs : List Nat) (ys : List Int) : cellsT xs ys 0 = [] := rfl
theorem cellsT_snoc (xs : List Nat) (ys : List Int) (j : Nat) (h1 : j < xs.length) (h2 : j < ys.length) : cellsT xs ys (j + 1) = cellsT xs ys j ++ 32 :: (wordL (xs[j]'h1) ++ [sgnC (ys[j]'h2)]) := by
  unfold cellsT
  have hz : j < (xs.zip ys).length := by rw [List.length_zip]; omega
  rw [List.take_succ_eq_append_getElem hz, List.map_append, List.flatten_append]
  simp [cellT]
theorem cellsT_len (xs : List Nat) (ys : List Int) : ∀ j, j ≤ xs.length → j ≤ ys.length → (cellsT xs ys j).length = 10 * j
  | 0, _, _ => rfl
  | j + 1, h1, h2 => by
    rw [cellsT_snoc xs ys j (by omega) (by omega), List.length_append, cellsT_len xs ys j (by omega) (by omega)]
    simp only [List.length_cons, List.length_append, wordL_length, List.length_nil]
    omega
def headT (cx cy d s : Nat) : List UInt8 := [116, 105, 108, 101, 32] ++ wordL cx ++ [32] ++ wordL cy ++ [32] ++ (decS d).data.toList ++ [32] ++ (decS s).data.toList
def textT (cx cy d s : Nat) (xs : List Nat) (ys : List Int) (sum : Nat) : List UInt8 := headT cx cy d s ++ cellsT xs ys xs.length ++ [32] ++ wordL sum
theorem textT_word {cx cy d s cx' cy' d' s' : Nat} {xs xs' : List Nat} {ys ys' : List Int} {sum sum' : Nat} (h : textT cx cy d s xs ys sum = textT cx' cy' d' s' xs' ys' sum') : wordL sum = wordL sum' := by
  unfold textT at h
  exact List.append_inj_right' h (by rw [wordL_length, wordL_length])
theorem text_step {O X E : ByteArray} {l r : List UInt8} {x : Nat} {g : UInt8} (hO : O.data.toList = l ++ r) (hX : ⟨(wordL x).toArray⟩ = X) (hE : E = ⟨#[g]⟩) : (O ++ ⟨#[32]⟩ ++ X ++ E).data.toList = l ++ (r ++ 32 :: (wordL x ++ [g])) := by
  subst hX hE
  simp [ByteArray.data_append, hO]
theorem text_last {O : ByteArray} {cx cy d s : Nat} {xs : List Nat} {ys : List Int} {k sum : Nat} (hO : O.data.toList = headT cx cy d s ++ cellsT xs ys k) (hk : k = xs.length) : O ++ ⟨#[32]⟩ ++ ⟨(wordL sum).toArray⟩ = ⟨(textT cx cy d s xs ys sum).toArray⟩ := by
  subst hk
  apply ByteArray.ext
  apply Array.toList_inj.1
  simp [ByteArray.data_append, hO, textT]
end Go.Proofs.YtdfoobemgdiobaaDoor
