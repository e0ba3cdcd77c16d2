/- Plain: a word read is the number it was written from. -/
import Derived.Test.YtdfoobemgdiobaaDoorWordP
import Derived.Lib.Strings
namespace Go.Proofs.YtdfoobemgdiobaaDoor

theorem wordTo_getD (n : Nat) : ∀ (k j : Nat), j < k → (wordTo n k).getD j 0 = hexD (hexAt n j)
  | 0, j, h => absurd h (by omega)
  | k + 1, j, h => by
    unfold wordTo
    by_cases hj : j < k
    · rw [List.getD_eq_getElem?_getD, List.getElem?_append_left (by rw [wordTo_length]; exact hj), ← List.getD_eq_getElem?_getD]
      exact wordTo_getD n k j hj
    · obtain rfl : j = k := by omega
      rw [List.getD_eq_getElem?_getD, List.getElem?_append_right (by rw [wordTo_length]; omega), wordTo_length, Nat.sub_self]
      rfl
theorem hexV_hexD (d : Nat) (h : d < 16) : hexV (hexD d) = some d := by
  have : ∀ m : Fin 16, (hexV (hexL.getD m 0) = some m.val) := by decide +kernel
  exact this ⟨d, h⟩
theorem readTo_word (n : Nat) (hn : n < 4294967296) : ∀ j, j ≤ 8 → readTo (wordL n) j = some (n / 2 ^ (4 * (8 - j)))
  | 0, _ => by
    show some 0 = _
    rw [Nat.div_eq_of_lt (by simpa using hn)]
  | j + 1, h => by
    unfold readTo
    rw [readTo_word n hn j (by omega), wordL, wordTo_getD n 8 j (by omega), hexV_hexD _ (hexAt_lt n j)]
    simp only [Option.bind_some, Option.map_some]
    congr 1
    unfold hexAt
    rw [show 8 - (j + 1) = 7 - j by omega, show 4 * (8 - j) = 4 * (7 - j) + 4 by omega, Nat.pow_add, ← Nat.div_div_eq_div_mul]
    generalize n / 2 ^ (4 * (7 - j)) = q
    omega
theorem wordR_wordL (n : Nat) (hn : n < 4294967296) : wordR (wordL n) = some n := by
  unfold wordR
  rw [if_pos (wordL_length n), readTo_word n hn 8 (Nat.le_refl _)]
  simp
theorem wordL_inj {x y : Nat} (hx : x < 4294967296) (hy : y < 4294967296) (h : wordL x = wordL y) : x = y := by
  have h1 := wordR_wordL x hx
  rw [h, wordR_wordL y hy] at h1
  simpa using h1.symm
theorem word_ne {x y : Nat} (hx : x < 4294967296) (hy : y < 4294967296) (h : x ≠ y) : ((⟨(wordL x).toArray⟩ : ByteArray).toList == (⟨(wordL y).toArray⟩ : ByteArray).toList) = false := by
  rw [ByteArray.toList_eq, ByteArray.toList_eq]
  simp only [beq_eq_false_iff_ne]
  intro he
  exact h (wordL_inj hx hy (by simpa using he))
theorem word_size (x : Nat) : (⟨(wordL x).toArray⟩ : ByteArray).size = 8 := wordL_length x
theorem hexV_back {c : UInt8} {d : Nat} (h : hexV c = some d) : hexD d = c := by
  have : ∀ k : Fin 256, (hexV (UInt8.ofNat k.val)).all (fun d => hexD d == UInt8.ofNat k.val) = true := by decide +kernel
  have h1 := this ⟨c.toNat, c.toNat_lt⟩
  rw [show UInt8.ofNat c.toNat = c by simp, h] at h1
  simpa using h1
theorem readTo_back {l : List UInt8} : ∀ {j n : Nat}, readTo l j = some n → ∀ i, i < j → l.getD i 0 = hexD (n / 16 ^ (j - 1 - i) % 16)
  | 0, _, _, i, hi => absurd hi (by omega)
  | j + 1, n, h, i, hi => by
    unfold readTo at h
    obtain ⟨m, hm, h2⟩ := Option.bind_eq_some_iff.1 h
    obtain ⟨d, hd, rfl⟩ := Option.map_eq_some_iff.1 h2
    have hlt := hexV_lt hd
    by_cases hij : i = j
    · subst hij
      rw [show i + 1 - 1 - i = 0 by omega, Nat.pow_zero, Nat.div_one, show (m * 16 + d) % 16 = d by omega]
      exact (hexV_back hd).symm
    · rw [readTo_back hm i (by omega), show j + 1 - 1 - i = (j - 1 - i) + 1 by omega, Nat.pow_succ, Nat.mul_comm (16 ^ _) 16, ← Nat.div_div_eq_div_mul, show (m * 16 + d) / 16 = m by omega]
theorem wordL_wordR {l : List UInt8} {n : Nat} (h : wordR l = some n) : wordL n = l := by
  unfold wordR at h
  split at h
  · rename_i h8
    refine List.ext_getElem (by rw [wordL_length, h8]) fun i h1 h2 => ?_
    have e1 := wordTo_getD n 8 i (by rw [h8] at h2; exact h2)
    have e2 := readTo_back h i (by rw [h8] at h2; exact h2)
    rw [show l.getD i 0 = l[i] by rw [List.getD_eq_getElem?_getD, List.getElem?_eq_getElem h2]; rfl] at e2
    have e3 : (wordTo n 8).getD i 0 = (wordL n)[i] := by rw [List.getD_eq_getElem?_getD, ← wordL, List.getElem?_eq_getElem h1]; rfl
    rw [← e3, e1, e2]
    unfold hexAt
    rw [show 8 - 1 - i = 7 - i by omega, Nat.pow_mul]
  · cases h
end Go.Proofs.YtdfoobemgdiobaaDoor
