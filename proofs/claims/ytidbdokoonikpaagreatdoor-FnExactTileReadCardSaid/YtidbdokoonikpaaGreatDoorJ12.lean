/- Merged texts: WordB, SamB, SamP, WordW, TilS, SamS. -/
import Derived.Test.YtidbdokoonikpaaGreatDoorJ11
import Derived.Lib.Strings
import Derived.Test.YtidbdokoonikpaaGreatDoorRows
import Derived.Test.YtidbdokoonikpaaGreatDoorJ1
import Derived.Deep.RegionWith
import Derived.Deep.Cut
import Derived.WalkKit
import Derived.WalkSpells
import Derived.WalkLawsBesides
import Derived.Lib.Hide
import Derived.Test.YtidbdokoonikpaaGreatDoorJ9
import Derived.Laws.BitsAllLaws
import Derived.Deep.RegionHeld3
import Derived.Deep.CutRange
section
/- Plain: a word read is the number it was written from. -/
namespace Go.Proofs.YtidbdokoonikpaaGreatDoor

theorem wordTo_getD (n : Nat) : ∀ (k j : Nat), j < k → (wordTo n k).getD j 0 = hexD (hexAt n j)
  | 0, j, h => absurd h (by omega)
  | k + 1, j, h => by
    unfold wordTo
    by_cases hj : j < k
    · rw [List.getD_eq_getElem?_getD, List.getElem?_append_left (by rw [wordTo_length]; exact hj), ← List.getD_eq_getElem?_getD]
      exact wordTo_getD n k j hj
    · obtain rfl : j = k := by omega
      rw [List.getD_eq_getElem?_getD, List.getElem?_append_right (by rw [wordTo_length]; omega), wordTo_length, Nat.sub_self]
      rfl
theorem hexV_hexD (d : Nat) (h : d < 16) : hexV (hexD d) = some d := by
  have : ∀ m : Fin 16, (hexV (hexL.getD m 0) = some m.val) := by decide +kernel
  exact this ⟨d, h⟩
theorem readTo_word (n : Nat) (hn : n < 4294967296) : ∀ j, j ≤ 8 → readTo (wordL n) j = some (n / 2 ^ (4 * (8 - j)))
  | 0, _ => by
    show some 0 = _
    rw [Nat.div_eq_of_lt (by simpa using hn)]
  | j + 1, h => by
    unfold readTo
    rw [readTo_word n hn j (by omega), wordL, wordTo_getD n 8 j (by omega), hexV_hexD _ (hexAt_lt n j)]
    simp only [Option.bind_some, Option.map_some]
    congr 1
    unfold hexAt
    rw [show 8 - (j + 1) = 7 - j by omega, show 4 * (8 - j) = 4 * (7 - j) + 4 by omega, Nat.pow_add, ← Nat.div_div_eq_div_mul]
    generalize n / 2 ^ (4 * (7 - j)) = q
    omega
theorem wordR_wordL (n : Nat) (hn : n < 4294967296) : wordR (wordL n) = some n := by
  unfold wordR
  rw [if_pos (wordL_length n), readTo_word n hn 8 (Nat.le_refl _)]
  simp
theorem wordL_inj {x y : Nat} (hx : x < 4294967296) (hy : y < 4294967296) (h : wordL x = wordL y) : x = y := by
  have h1 := wordR_wordL x hx
  rw [h, wordR_wordL y hy] at h1
  simpa using h1.symm
theorem word_ne {x y : Nat} (hx : x < 4294967296) (hy : y < 4294967296) (h : x ≠ y) : ((⟨(wordL x).toArray⟩ : ByteArray).toList == (⟨(wordL y).toArray⟩ : ByteArray).toList) = false := by
  rw [ByteArray.toList_eq, ByteArray.toList_eq]
  simp only [beq_eq_false_iff_ne]
  intro he
  exact h (wordL_inj hx hy (by simpa using he))
theorem word_size (x : Nat) : (⟨(wordL x).toArray⟩ : ByteArray).size = 8 := wordL_length x
theorem hexV_back {c : UInt8} {d : Nat} (h : hexV c = some d) : hexD d = c := by
  have : ∀ k : Fin 256, (hexV (UInt8.ofNat k.val)).all (fun d => hexD d == UInt8.ofNat k.val) = true := by decide +kernel
  have h1 := this ⟨c.toNat, c.toNat_lt⟩
  rw [show UInt8.ofNat c.toNat = c by simp, h] at h1
  simpa using h1
theorem readTo_back {l : List UInt8} : ∀ {j n : Nat}, readTo l j = some n → ∀ i, i < j → l.getD i 0 = hexD (n / 16 ^ (j - 1 - i) % 16)
  | 0, _, _, i, hi => absurd hi (by omega)
  | j + 1, n, h, i, hi => by
    unfold readTo at h
    obtain ⟨m, hm, h2⟩ := Option.bind_eq_some_iff.1 h
    obtain ⟨d, hd, rfl⟩ := Option.map_eq_some_iff.1 h2
    have hlt := hexV_lt hd
    by_cases hij : i = j
    · subst hij
      rw [show i + 1 - 1 - i = 0 by omega, Nat.pow_zero, Nat.div_one, show (m * 16 + d) % 16 = d by omega]
      exact (hexV_back hd).symm
    · rw [readTo_back hm i (by omega), show j + 1 - 1 - i = (j - 1 - i) + 1 by omega, Nat.pow_succ, Nat.mul_comm (16 ^ _) 16, ← Nat.div_div_eq_div_mul, show (m * 16 + d) / 16 = m by omega]
theorem wordL_wordR {l : List UInt8} {n : Nat} (h : wordR l = some n) : wordL n = l := by
  unfold wordR at h
  split at h
  · rename_i h8
    refine List.ext_getElem (by rw [wordL_length, h8]) fun i h1 h2 => ?_
    have e1 := wordTo_getD n 8 i (by rw [h8] at h2; exact h2)
    have e2 := readTo_back h i (by rw [h8] at h2; exact h2)
    rw [show l.getD i 0 = l[i] by rw [List.getD_eq_getElem?_getD, List.getElem?_eq_getElem h2]; rfl] at e2
    have e3 : (wordTo n 8).getD i 0 = (wordL n)[i] := by rw [List.getD_eq_getElem?_getD, ← wordL, List.getElem?_eq_getElem h1]; rfl
    rw [← e3, e1, e2]
    unfold hexAt
    rw [show 8 - 1 - i = 7 - i by omega, Nat.pow_mul]
  · cases h
end Go.Proofs.YtidbdokoonikpaaGreatDoor
end

section
/- Walks: small decimals, of the reference and of the library. -/
namespace Go.Proofs.YtidbdokoonikpaaGreatDoor
open Go.RowKit

/-- a decimal from 0 to 10 -/
def decS (n : Nat) : ByteArray := if n = 10 then ⟨#[49, 48]⟩ else ⟨#[(48 + n).toUInt8]⟩
theorem decS_size (n : Nat) : (decS n).size ≤ 2 := by
  unfold decS
  split
  · decide
  · show 1 ≤ 2
    omega
theorem decS_one {n : Nat} (h : n < 10) : (decS n).size = 1 := by
  unfold decS
  rw [if_neg (by omega)]
  rfl
theorem decS_two (n : Nat) : (decS n).size = 1 ∨ (decS n).size = 2 := by
  by_cases h : n = 10
  · right; subst h; rfl
  · left; unfold decS; rw [if_neg h]; rfl
set_option maxRecDepth 100000 in
set_option maxHeartbeats 2000000 in
theorem small_is (n : Nat) (hn : n ≤ 10) (w : World) : Calls Tryz.prog 98 #[.int .i64 n] w fun e w' => e = .returned (.string (decS n)) ∧ w = w' := by
  rcases (by omega : n = 0 ∨ n = 1 ∨ n = 2 ∨ n = 3 ∨ n = 4 ∨ n = 5 ∨ n = 6 ∨ n = 7 ∨ n = 8 ∨ n = 9 ∨ n = 10) with rfl | rfl | rfl | rfl | rfl | rfl | rfl | rfl | rfl | rfl | rfl
  all_goals
    go_enter Tryz.func98, Tryz.ntmps98
    go_wp2_with fail
    go_ret
    exact ⟨by first | rfl | kernel_rfl, rfl⟩
set_option maxHeartbeats 2000000 in
theorem formatInt_small (n : Nat) (hn : n ≤ 10) (w : World) : Calls Tryz.prog 78 #[.int .i64 n, .int .i64 10] w fun e w' => e = .returned (.string (decS n)) ∧ w = w' := by
  have H := Lib.hid (fun w => small_is n hn w)
  have h1 : decide ((0 : Int) ≤ n) = true := by simp
  have h2 : decide ((n : Int) < 100) = true := by simp; omega
  generalize decS n = s at *
  go_enter Tryz.func78, Tryz.ntmps78
  go_wp2_with fail
  with_reducible refine (H.out _).mono ?_
  rintro e w1 ⟨rfl, rfl⟩
  go_wp2
  go_ret
  exact ⟨rfl, rfl⟩
set_option maxHeartbeats 2000000 in
theorem itoaI (n : Nat) (hn : n ≤ 10) (w : World) : Calls Tryz.prog 57 #[.int .i64 n] w fun e w' => e = .returned (.string (decS n)) ∧ w = w' := by
  have H := Lib.hid (fun w => formatInt_small n hn w)
  generalize decS n = s at *
  go_enter Tryz.func57, Tryz.ntmps57
  go_wp2_with fail
  with_reducible refine (H.out _).mono ?_
  rintro e w1 ⟨rfl, rfl⟩
  go_wp2
  go_ret
  exact ⟨rfl, rfl⟩
set_option maxHeartbeats 2000000 in
theorem itoa_small (n : Nat) (hn : n ≤ 10) (w : World) : Calls Tryz.prog 27 #[.int .i64 n] w fun e w' => e = .returned (.string (decS n)) ∧ w = w' := by
  have hI := Lib.hid (fun w => itoaI n hn w)
  generalize decS n = s at *
  go_enter Tryz.func27, Tryz.ntmps27
  go_wp2_with fail
  with_reducible refine (hI.out _).mono ?_
  rintro e w1 ⟨rfl, rfl⟩
  go_wp2
  go_ret
  exact ⟨rfl, rfl⟩
theorem byte_str (b : UInt8) (W : World) (k : Int) (hk : k = b.toNat) : (convert 22 9 (.slice (some ⟨W.heap.size, 0, none⟩) 1 1)).run Tryz.prog (W.alloc (.cells #[.int .u8 k] 5)) = .ok (.string ⟨#[b]⟩) (W.alloc (.cells #[.int .u8 k] 5)) := by
  have B := Box.new W #[.int .u8 k] 5
  subst hk
  exact run_convert_bytes_back _ _ _ 5 ⟨W.heap.size, 0, none⟩ 1 [b] Tryz.underlying22 Tryz.underlying5 Tryz.underlying9 (fun j hj => by
    obtain rfl : j = 0 := by simp at hj; omega
    exact B.cell 0 _ rfl)
set_option maxRecDepth 100000 in
set_option maxHeartbeats 1000000 in
theorem l6Dec_digit (n : Nat) (hn : n < 10) (w : World) : Calls Tryz.prog 32 #[.int .i64 n] w fun e w' => e = .returned (.string (decS n)) ∧ Below w.heap.size w w' := by
  have HB := Lib.hid (fun k => (Below.refl w.heap.size w).alloc (Nat.le_refl _) (.cells #[.int .u8 k] 5))
  rcases (by omega : n = 0 ∨ n = 1 ∨ n = 2 ∨ n = 3 ∨ n = 4 ∨ n = 5 ∨ n = 6 ∨ n = 7 ∨ n = 8 ∨ n = 9) with rfl | rfl | rfl | rfl | rfl | rfl | rfl | rfl | rfl | rfl
  · have h := byte_str 48 w 48 rfl
    go_enter Tryz.func32, Tryz.ntmps32
    go_wp2_with fail
    go_ret
    exact ⟨rfl, HB.out _⟩
  · have h := byte_str 49 w 49 rfl
    go_enter Tryz.func32, Tryz.ntmps32
    go_wp2_with fail
    go_ret
    exact ⟨rfl, HB.out _⟩
  · have h := byte_str 50 w 50 rfl
    go_enter Tryz.func32, Tryz.ntmps32
    go_wp2_with fail
    go_ret
    exact ⟨rfl, HB.out _⟩
  · have h := byte_str 51 w 51 rfl
    go_enter Tryz.func32, Tryz.ntmps32
    go_wp2_with fail
    go_ret
    exact ⟨rfl, HB.out _⟩
  · have h := byte_str 52 w 52 rfl
    go_enter Tryz.func32, Tryz.ntmps32
    go_wp2_with fail
    go_ret
    exact ⟨rfl, HB.out _⟩
  · have h := byte_str 53 w 53 rfl
    go_enter Tryz.func32, Tryz.ntmps32
    go_wp2_with fail
    go_ret
    exact ⟨rfl, HB.out _⟩
  · have h := byte_str 54 w 54 rfl
    go_enter Tryz.func32, Tryz.ntmps32
    go_wp2_with fail
    go_ret
    exact ⟨rfl, HB.out _⟩
  · have h := byte_str 55 w 55 rfl
    go_enter Tryz.func32, Tryz.ntmps32
    go_wp2_with fail
    go_ret
    exact ⟨rfl, HB.out _⟩
  · have h := byte_str 56 w 56 rfl
    go_enter Tryz.func32, Tryz.ntmps32
    go_wp2_with fail
    go_ret
    exact ⟨rfl, HB.out _⟩
  · have h := byte_str 57 w 57 rfl
    go_enter Tryz.func32, Tryz.ntmps32
    go_wp2_with fail
    go_ret
    exact ⟨rfl, HB.out _⟩
theorem cell_str (b : UInt8) (W : World) (g : Nat) (k : Int) (hk : k = b.toNat) (hc : W.cell? ⟨g, 0, none⟩ = some (.int .u8 k)) : (convert 22 9 (.slice (some ⟨g, 0, none⟩) 1 1)).run Tryz.prog W = .ok (.string ⟨#[b]⟩) W := by
  subst hk
  exact run_convert_bytes_back _ _ _ 5 ⟨g, 0, none⟩ 1 [b] Tryz.underlying22 Tryz.underlying5 Tryz.underlying9 (fun j hj => by
    obtain rfl : j = 0 := by simp at hj; omega
    exact hc)
set_option maxRecDepth 100000 in
set_option maxHeartbeats 1000000 in
theorem l6Dec_ten (w : World) : Calls Tryz.prog 32 #[.int .i64 10] w fun e w' => e = .returned (.string ⟨#[49, 48]⟩) ∧ Below w.heap.size w w' := by
  have HL : Hid (∀ w, Calls Tryz.prog 32 #[.int .i64 1] w fun e w' => e = .returned (.string ⟨#[49]⟩) ∧ Below w.heap.size w w') := fun w => l6Dec_digit 1 (by omega) w
  have HC : Hid (∀ W g, W.cell? ⟨g, 0, none⟩ = some (.int .u8 48) → (convert 22 9 (.slice (some ⟨g, 0, none⟩) 1 1)).run Tryz.prog W = .ok (.string ⟨#[48]⟩) W) := fun W g h => cell_str 48 W g 48 rfl h
  have h1 := byte_str 48 w 48 rfl
  have HC2 : Hid (∀ W5, Below (w.alloc (.cells #[.int .u8 48] 5)).drew.heap.size (w.alloc (.cells #[.int .u8 48] 5)).drew W5 → (convert 22 9 (.slice (some ⟨w.heap.size, 0, none⟩) 1 1)).run Tryz.prog W5 = .ok (.string ⟨#[48]⟩) W5) := fun W5 h =>
    HC.out W5 _ ((((Box.new w #[.int .u8 48] 5).step ((Drw.refl _).drew.below _)).step h).cell 0 _ rfl)
  have HE : Hid (∀ W5, Below w.drew.heap.size w.drew W5 → Below w.heap.size w (W5.alloc (.cells #[.int .u8 48] 5))) := fun W5 h => ((Below.refl _ _).drew.trans h).alloc h.size _
  have HE2 : Hid (∀ W5, Below (w.alloc (.cells #[.int .u8 48] 5)).drew.heap.size (w.alloc (.cells #[.int .u8 48] 5)).drew W5 → Below w.heap.size w W5) := fun W5 h => (((Below.refl w.heap.size w).alloc (Nat.le_refl _) _).drew).trans (h.mono (by show w.heap.size ≤ (w.alloc (.cells #[.int .u8 48] 5)).heap.size; simp))
  have h1d := HC2.out _ (Below.refl _ _)
  clear HC
  go_enter Tryz.func32, Tryz.ntmps32
  go_upto_region 7 with fail
  have k1 : IntKind.i64.wrap 1 = 1 := by decide
  have k2 : IntKind.i64.wrap 48 = 48 := by decide
  have k3 : IntKind.u8.wrap 48 = 48 := by decide
  go_region_with (go_at_call 32; with_reducible refine (HL.out _).mono ?_; rintro e w5 ⟨rfl, hb⟩; have h2 := byte_str 48 w5 48 rfl; (first | (have h3 := HC2.out _ hb) | skip))
  all_goals
    go_wp2
    go_ret
    first
      | exact ⟨rfl, HE.out _ hb⟩
      | exact ⟨rfl, HE2.out _ hb⟩
theorem l6Dec_small (n : Nat) (hn : n ≤ 10) (w : World) : Calls Tryz.prog 32 #[.int .i64 n] w fun e w' => e = .returned (.string (decS n)) ∧ Below w.heap.size w w' := by
  rcases (by omega : n < 10 ∨ n = 10) with h | rfl
  · exact l6Dec_digit n h w
  · exact l6Dec_ten w
end Go.Proofs.YtidbdokoonikpaaGreatDoor
end

section
/- Plain: the text of a tile. -/
namespace Go.Proofs.YtidbdokoonikpaaGreatDoor

def sgnC (y : Int) : UInt8 := if y = -1 then 45 else if y = 0 then 111 else 43
def cellT (p : Nat × Int) : List UInt8 := 32 :: (wordL p.1 ++ [sgnC p.2])
def cellsT (xs : List Nat) (ys : List Int) (j : Nat) : List UInt8 := (((xs.zip ys).take j).map cellT).flatten
theorem cellsT_zero (xs : List Nat) (ys : List Int) : cellsT xs ys 0 = [] := rfl
theorem cellsT_snoc (xs : List Nat) (ys : List Int) (j : Nat) (h1 : j < xs.length) (h2 : j < ys.length) : cellsT xs ys (j + 1) = cellsT xs ys j ++ 32 :: (wordL (xs[j]'h1) ++ [sgnC (ys[j]'h2)]) := by
  unfold cellsT
  have hz : j < (xs.zip ys).length := by rw [List.length_zip]; omega
  rw [List.take_succ_eq_append_getElem hz, List.map_append, List.flatten_append]
  simp [cellT]
theorem cellsT_len (xs : List Nat) (ys : List Int) : ∀ j, j ≤ xs.length → j ≤ ys.length → (cellsT xs ys j).length = 10 * j
  | 0, _, _ => rfl
  | j + 1, h1, h2 => by
    rw [cellsT_snoc xs ys j (by omega) (by omega), List.length_append, cellsT_len xs ys j (by omega) (by omega)]
    simp only [List.length_cons, List.length_append, wordL_length, List.length_nil]
    omega
def headT (cx cy d s : Nat) : List UInt8 := [116, 105, 108, 101, 32] ++ wordL cx ++ [32] ++ wordL cy ++ [32] ++ (decS d).data.toList ++ [32] ++ (decS s).data.toList
def textT (cx cy d s : Nat) (xs : List Nat) (ys : List Int) (sum : Nat) : List UInt8 := headT cx cy d s ++ cellsT xs ys xs.length ++ [32] ++ wordL sum
theorem textT_word {cx cy d s cx' cy' d' s' : Nat} {xs xs' : List Nat} {ys ys' : List Int} {sum sum' : Nat} (h : textT cx cy d s xs ys sum = textT cx' cy' d' s' xs' ys' sum') : wordL sum = wordL sum' := by
  unfold textT at h
  exact List.append_inj_right' h (by rw [wordL_length, wordL_length])
theorem text_step {O X E : ByteArray} {l r : List UInt8} {x : Nat} {g : UInt8} (hO : O.data.toList = l ++ r) (hX : ⟨(wordL x).toArray⟩ = X) (hE : E = ⟨#[g]⟩) : (O ++ ⟨#[32]⟩ ++ X ++ E).data.toList = l ++ (r ++ 32 :: (wordL x ++ [g])) := by
  subst hX hE
  simp [ByteArray.data_append, hO]
theorem text_last {O : ByteArray} {cx cy d s : Nat} {xs : List Nat} {ys : List Int} {k sum : Nat} (hO : O.data.toList = headT cx cy d s ++ cellsT xs ys k) (hk : k = xs.length) : O ++ ⟨#[32]⟩ ++ ⟨(wordL sum).toArray⟩ = ⟨(textT cx cy d s xs ys sum).toArray⟩ := by
  subst hk
  apply ByteArray.ext
  apply Array.toList_inj.1
  simp [ByteArray.data_append, hO, textT]
end Go.Proofs.YtidbdokoonikpaaGreatDoor
end

section
/- Walks of the words. -/
namespace Go.Proofs.YtidbdokoonikpaaGreatDoor
open Go.RowKit

set_option maxHeartbeats 400000 in
theorem l9Digits_any (w : World) :
    Calls Tryz.prog 59 #[] w fun e w' => e = .returned (.string ⟨hexL.toArray⟩) ∧ w = w' := by
  go_enter Tryz.func59, Tryz.ntmps59
  go_wp2
  go_ret
  exact ⟨by kernel_rfl, rfl⟩

set_option maxHeartbeats 400000 in
theorem l9Word_any (n : Nat) (h1 : n < 4294967296) (w : World) :
    Calls Tryz.prog 33 #[.int .u32 n] w fun e w' => e = .returned (.string ⟨(wordL n).toArray⟩) ∧ w = w' := by
  go_enter Tryz.func33, Tryz.ntmps33
  go_wp2
  go_loop [3, 4, 5] (fun t i k => ∃ j : Nat, j ≤ 8 ∧ i = .int .i64 (7 - j) ∧ t = .string ⟨(wordTo n j).toArray⟩) (fun _ i _ => (intOf i + 1).toNat)
  case atStart => exact ⟨0, by omega, rfl, rfl⟩
  case round =>
    obtain ⟨j, hj, rfl, rfl⟩ := hrel
    by_cases hlt : j < 8
    · have hd := hexAt_walk n j h1
      have hdl := hexAt_lt n j
      have hsl := hexL_extract _ hdl
      have hlen := hexL_length
      generalize hA : hexAt n j = d at *
      have HD := Lib.hid hA; clear hA
      have hpl : (wordTo n j).length ≤ 8 := by have := wordTo_length n j; omega
      go_wp2_with (go_at_call 59; refine (l9Digits_any _).mono ?_; rintro e w' ⟨rfl, rfl⟩)
      go_round
      case rel =>
        refine ⟨j + 1, by omega, by go_num, ?_⟩
        rw [wordTo, HD.out]; simp [ByteArray.ext_iff]
      case measure => simp [intOf]; omega
    · go_wp2
      go_ret
      obtain rfl : j = 8 := by omega
      exact ⟨rfl, rfl⟩

set_option maxHeartbeats 400000 in
theorem wordOfBits_any (n : Nat) (h1 : n < 4294967296) (w : World) :
    Calls Tryz.prog 28 #[.int .u32 n] w fun e w' => e = .returned (.string ⟨(wordL n).toArray⟩) ∧ Below w.heap.size w w' := by
  go_enter Tryz.func28, Tryz.ntmps28
  go_wp2
  go_loopw [4, 5] (fun t i wr => ∃ j : Nat, j ≤ 8 ∧ i = .int .i64 j ∧ wr = w.alloc (.cells (wordCells n j) 87)) (fun _ i _ => (8 - intOf i).toNat)
  case atStart => exact ⟨0, by omega, rfl, by rw [wordCells_zero]⟩
  case round =>
    obtain ⟨j, hj, rfl, rfl⟩ := hrel
    by_cases hlt : j < 8
    · have hd := hexAt_walk n j h1
      have hdl := hexAt_lt n j
      have hset := wordCells_set n j hlt
      have HS : Hid (wordCells n (j + 1) = (wordCells n j).setIfInBounds j (.int .u8 (hexD (hexAt n j)).toNat)) := hset.symm
      have hsz := wordCells_size n j hj
      clear hset
      generalize hexAt n j = d at *
      go_wp2
      go_roundw
      case rel => exact ⟨j + 1, by omega, by go_num, by rw [HS.out, hex_get]⟩
      case measure => simp [intOf]; omega
    · obtain rfl : j = 8 := by omega
      have hb := run_convert_bytes_back (P := Tryz.prog) (w.alloc (.cells (wordCells n 8) 87)) 22 9 5 ⟨w.heap.size, 0, none⟩ 8 (wordL n) Tryz.underlying22 Tryz.underlying5 Tryz.underlying9 (by
        intro j hj
        rw [wordL_length] at hj
        have := wordCells_cell n j hj
        rw [Addr.add_lit, Nat.zero_add, World.cell?_alloc_mark]
        exact this)
      rw [wordL_length] at hb
      go_wp2
      go_ret
      exact ⟨rfl, (Below.refl _ _).alloc (Nat.le_refl _) _⟩

theorem Float32bits_run (x : Nat) (w : World) : (callFunc 55 #[.float .f32 x]).run Tryz.prog w = .ok (.value (.int .u32 x)) w := by
  kernel_rfl
set_option maxHeartbeats 400000 in
theorem specWordOf_any (x : Nat) (h1 : x < 4294967296) (w : World) :
    Calls Tryz.prog 31 #[.float .f32 x] w fun e w' => e = .returned (.string ⟨(wordL x).toArray⟩) ∧ w = w' := by
  have hf := Float32bits_run x
  go_enter Tryz.func31, Tryz.ntmps31
  go_wp2_with (go_at_call 33; refine (l9Word_any _ h1 _).mono ?_; rintro e w' ⟨rfl, rfl⟩)
  go_ret
  exact ⟨rfl, rfl⟩
set_option maxHeartbeats 400000 in
theorem implWordOf_any (x : Nat) (h1 : x < 4294967296) (w : World) :
    Calls Tryz.prog 25 #[.float .f32 x] w fun e w' => e = .returned (.string ⟨(wordL x).toArray⟩) ∧ Below w.heap.size w w' := by
  have hf := Float32bits_run x
  go_enter Tryz.func25, Tryz.ntmps25
  go_wp2_with (go_at_call 28; refine (wordOfBits_any _ h1 _).mono ?_; rintro e w' ⟨rfl, hb⟩)
  go_ret
  exact ⟨rfl, hb⟩
end Go.Proofs.YtidbdokoonikpaaGreatDoor
end

section
/- Walks: the program's and the reference's TileSum at a tile whose place is told. -/
namespace Go.Proofs.YtidbdokoonikpaaGreatDoor
open Go.RowKit

theorem sstep_int {h b : Nat} (hh : h < 4294967296) (hb : b < 4294967296) : bits .xor .u32 (h : Int) (b : Int) = ((h ^^^ b : Nat) : Int) ∧ (((h ^^^ b : Nat) : Int) * 16777619) % 4294967296 = (sstep h b : Nat) :=
  ⟨u32_xor_nat h b hh hb, by unfold sstep; omega⟩
theorem bits32_run (x : Nat) (w : World) : (callFunc 55 #[.float .f32 x]).run Tryz.prog w = .ok (.value (.int .u32 x)) w := by
  kernel_rfl
theorem sum_walk {h x : Nat} {y : Int} (hh : h < 4294967296) (hx : x < 4294967296) (y1 : -1 ≤ y) (y2 : y ≤ 1) :
    bits .xor .u32 (bits .xor .u32 (h : Int) (x : Int) * 16777619 % 4294967296) (y + 2) * 16777619 % 4294967296 = (sstep (sstep h x) (y + 2).toNat : Nat) := by
  obtain ⟨b, hb⟩ := Int.eq_ofNat_of_zero_le (show 0 ≤ y + 2 by omega)
  have e1 := sstep_int hh hx
  have e2 := sstep_int (sstep_lt h x) (show b < 4294967296 by omega)
  rw [e1.1, e1.2, hb, e2.1, e2.2, Int.toNat_natCast]
theorem sum_at {xs : List Nat} {ys : List Int} {m : Nat} (h1 : xs.length = m) (h2 : ys.length = m) (hx : ∀ x, x ∈ xs → x < 4294967296) (hy : ∀ y, y ∈ ys → -1 ≤ y ∧ y ≤ 1) (k : Nat) (h : k < m) :
    ∃ (x : Nat) (y : Int), (xs.map floV)[k]? = some (.float .f32 x) ∧ (ys.map intV)[k]? = some (.int .i64 y) ∧ x < 4294967296 ∧ -1 ≤ y ∧ y ≤ 1 ∧ sumL (xs.take (k + 1)) (ys.take (k + 1)) 2166136261 = sstep (sstep (sumL (xs.take k) (ys.take k) 2166136261) x) (y + 2).toNat ∧ sumL (xs.take k) (ys.take k) 2166136261 < 4294967296 := by
  subst h1
  refine ⟨xs[k], ys[k], by rw [List.getElem?_map, List.getElem?_eq_getElem h]; rfl, by rw [List.getElem?_map, List.getElem?_eq_getElem (by omega)]; rfl, hx _ (List.getElem_mem _), (hy _ (List.getElem_mem _)).1, (hy _ (List.getElem_mem _)).2, ?_, sumL_lt (by decide)⟩
  rw [sum_take xs ys _ k (by omega) (by omega), sumF_eq]
set_option maxRecDepth 100000 in
set_option maxHeartbeats 1000000 in
theorem specSum_bad (cx cy : Nat) (deep size : Int) (hx : cx < 4294967296) (hy : cy < 4294967296) (hp : placeB cx cy deep size = true) (a a' : Option Addr) (n c c' : Nat) (ys : List Int) (hl : ys.length ≤ 1048576) (w : World) (hs : Sl w a' (ys.map intV)) (hw : wellB size n ys = false) :
    Calls Tryz.prog 30 #[.agg #[.complex .f32 cx cy, .int .i64 deep, .int .i64 size, .slice a n c, .slice a' ys.length c']] w fun e w' => e = .returned (.tuple #[.int .u32 0, .bool false]) ∧ Below w.heap.size w w' := by
  have B := Box.new w #[.complex .f32 cx cy, .int .i64 deep, .int .i64 size, .slice a n c, .slice a' ys.length c'] 27
  have HW := Lib.hid (specWell_is cx cy deep size hx hy hp a a' n c c' ys hl _ (hs.alloc (.cells #[.complex .f32 cx cy, .int .i64 deep, .int .i64 size, .slice a n c, .slice a' ys.length c'] 27)))
  rw [hw] at HW
  clear hp hs hw
  go_enter Tryz.func30, Tryz.ntmps30
  go_wp2_with fail
  refine HW.out.mono ?_
  rintro e w1 ⟨rfl, hd⟩
  replace B := Lib.hid (B.step hd).old
  clear hd HW
  go_wp2
  go_ret2
  exact ⟨rfl, B.out⟩
set_option maxRecDepth 100000 in
set_option maxHeartbeats 2000000 in
theorem specSum_good (cx cy : Nat) (deep size : Int) (hx : cx < 4294967296) (hy : cy < 4294967296) (hp : placeB cx cy deep size = true) (a a' : Option Addr) (c c' : Nat) (xs : List Nat) (ys : List Int) (hl : ys.length ≤ 1048576) (hxx : ∀ x, x ∈ xs → x < 4294967296) (w : World) (hs : Sl w a (xs.map floV)) (hs' : Sl w a' (ys.map intV)) (hw : wellB size xs.length ys = true) :
    Calls Tryz.prog 30 #[.agg #[.complex .f32 cx cy, .int .i64 deep, .int .i64 size, .slice a xs.length c, .slice a' ys.length c']] w fun e w' => e = .returned (.tuple #[.int .u32 (sum0 xs ys), .bool true]) ∧ Below w.heap.size w w' := by
  obtain ⟨g1, g2, g3⟩ := wellB_all hw
  have B := Box.new w #[.complex .f32 cx cy, .int .i64 deep, .int .i64 size, .slice a xs.length c, .slice a' ys.length c'] 27
  have HW := Lib.hid (specWell_is cx cy deep size hx hy hp a a' xs.length c c' ys hl _ (hs'.alloc (.cells #[.complex .f32 cx cy, .int .i64 deep, .int .i64 size, .slice a xs.length c, .slice a' ys.length c'] 27)))
  rw [hw] at HW
  obtain ⟨m, hm⟩ : ∃ m, xs.length = m := ⟨_, rfl⟩
  have HT := Lib.hid (fun k => sum_at (k := k) hm (g2.trans hm) hxx g3)
  have HE : Hid (sumL (xs.take m) (ys.take m) 2166136261 = sum0 xs ys) := by
    show _ = _
    rw [← hm, List.take_length, ← g2, List.take_length]; rfl
  have H1 := Lib.hid (hs.alloc (.cells #[.complex .f32 cx cy, .int .i64 deep, .int .i64 size, .slice a xs.length c, .slice a' ys.length c'] 27))
  have H2 := Lib.hid (hs'.alloc (.cells #[.complex .f32 cx cy, .int .i64 deep, .int .i64 size, .slice a xs.length c, .slice a' ys.length c'] 27))
  have hm2 : ys.length = m := by omega
  rw [hm, hm2] at HW B H1 H2
  rw [hm2] at hl
  rw [hm, hm2]
  have hf := bits32_run
  clear hp hs hs' hw hxx hm hm2 g1 g2 g3
  go_enter Tryz.func30, Tryz.ntmps30
  go_wp2_with fail
  refine HW.out.mono ?_
  rintro e w1 ⟨rfl, hd⟩
  replace B := B.step hd
  replace H1 := Lib.hid (H1.out.step hd)
  replace H2 := Lib.hid (H2.out.step hd)
  have b3 := B.cell 3 _ rfl
  have b4 := B.cell 4 _ rfl
  have HB := Lib.hid B.old
  clear hd HW B
  go_wp2
  go_loopw [4, 5] (fun h i wr => ∃ k : Nat, k ≤ m ∧ i = .int .i64 k ∧ h = .int .u32 (sumL (xs.take k) (ys.take k) 2166136261) ∧ wr = w1) (fun _ i _ => (m - intOf i).toNat)
  case atStart => exact ⟨0, by omega, rfl, rfl, rfl⟩
  case round =>
    obtain ⟨k, hk, rfl, rfl, rfl⟩ := hrel
    by_cases hlt : k < m
    · obtain ⟨x, y, hxk, hyk, x1, y1, y2, hN, hh⟩ := HT.out k hlt
      have HN := Lib.hid hN
      obtain ⟨b, off, rfl, hc⟩ := H1.out.at hxk
      obtain ⟨b', off', rfl, hc'⟩ := H2.out.at hyk
      clear hxk hyk hN
      generalize sumL (xs.take k) (ys.take k) 2166136261 = h at *
      go_wp2
      go_roundw
      case rel => exact ⟨k + 1, by omega, by go_num, by rw [HN.out, sum_walk hh x1 y1 y2], by trivial⟩
      case measure => simp [intOf]; omega
    · go_wp2
      go_ret2
      obtain rfl : k = m := by omega
      exact ⟨by rw [HE.out]; rfl, HB.out⟩
set_option maxRecDepth 100000 in
set_option maxHeartbeats 1000000 in
theorem implSum_bad (cx cy : Nat) (deep size : Int) (hx : cx < 4294967296) (hy : cy < 4294967296) (hp : placeB cx cy deep size = true) (a a' : Option Addr) (n c c' : Nat) (ys : List Int) (hl : ys.length ≤ 1048576) (w : World) (hs : Sl w a' (ys.map intV)) (hw : wellB size n ys = false) :
    Calls Tryz.prog 23 #[.agg #[.complex .f32 cx cy, .int .i64 deep, .int .i64 size, .slice a n c, .slice a' ys.length c']] w fun e w' => e = .returned (.tuple #[.int .u32 0, .bool false]) ∧ Below w.heap.size w w' := by
  have B := Box.new w #[.complex .f32 cx cy, .int .i64 deep, .int .i64 size, .slice a n c, .slice a' ys.length c'] 27
  have HW := Lib.hid (implWell_is cx cy deep size hx hy hp a a' n c c' ys hl _ (hs.alloc (.cells #[.complex .f32 cx cy, .int .i64 deep, .int .i64 size, .slice a n c, .slice a' ys.length c'] 27)))
  rw [hw] at HW
  clear hp hs hw
  go_enter Tryz.func23, Tryz.ntmps23
  go_wp2_with fail
  refine HW.out.mono ?_
  rintro e w1 ⟨rfl, hd⟩
  replace B := Lib.hid (B.step hd).old
  clear hd HW
  go_wp2
  go_ret2
  exact ⟨rfl, B.out⟩
set_option maxRecDepth 100000 in
set_option maxHeartbeats 2000000 in
theorem implSum_good (cx cy : Nat) (deep size : Int) (hx : cx < 4294967296) (hy : cy < 4294967296) (hp : placeB cx cy deep size = true) (a a' : Option Addr) (c c' : Nat) (xs : List Nat) (ys : List Int) (hl : ys.length ≤ 1048576) (hxx : ∀ x, x ∈ xs → x < 4294967296) (w : World) (hs : Sl w a (xs.map floV)) (hs' : Sl w a' (ys.map intV)) (hw : wellB size xs.length ys = true) :
    Calls Tryz.prog 23 #[.agg #[.complex .f32 cx cy, .int .i64 deep, .int .i64 size, .slice a xs.length c, .slice a' ys.length c']] w fun e w' => e = .returned (.tuple #[.int .u32 (sum0 xs ys), .bool true]) ∧ Below w.heap.size w w' := by
  obtain ⟨g1, g2, g3⟩ := wellB_all hw
  have B := Box.new w #[.complex .f32 cx cy, .int .i64 deep, .int .i64 size, .slice a xs.length c, .slice a' ys.length c'] 27
  have HW := Lib.hid (implWell_is cx cy deep size hx hy hp a a' xs.length c c' ys hl _ (hs'.alloc (.cells #[.complex .f32 cx cy, .int .i64 deep, .int .i64 size, .slice a xs.length c, .slice a' ys.length c'] 27)))
  rw [hw] at HW
  obtain ⟨m, hm⟩ : ∃ m, xs.length = m := ⟨_, rfl⟩
  have HT := Lib.hid (fun k => sum_at (k := k) hm (g2.trans hm) hxx g3)
  have HE : Hid (sumL (xs.take m) (ys.take m) 2166136261 = sum0 xs ys) := by
    show _ = _
    rw [← hm, List.take_length, ← g2, List.take_length]; rfl
  have H1 := Lib.hid (hs.alloc (.cells #[.complex .f32 cx cy, .int .i64 deep, .int .i64 size, .slice a xs.length c, .slice a' ys.length c'] 27))
  have H2 := Lib.hid (hs'.alloc (.cells #[.complex .f32 cx cy, .int .i64 deep, .int .i64 size, .slice a xs.length c, .slice a' ys.length c'] 27))
  have hm2 : ys.length = m := by omega
  rw [hm, hm2] at HW B H1 H2
  rw [hm2] at hl
  rw [hm, hm2]
  have hf := bits32_run
  clear hp hs hs' hw hxx hm hm2 g1 g2 g3
  go_enter Tryz.func23, Tryz.ntmps23
  go_wp2_with fail
  refine HW.out.mono ?_
  rintro e w1 ⟨rfl, hd⟩
  replace B := B.step hd
  replace H1 := Lib.hid (H1.out.step hd)
  replace H2 := Lib.hid (H2.out.step hd)
  have b3 := B.cell 3 _ rfl
  have b4 := B.cell 4 _ rfl
  have HB := Lib.hid B.old
  clear hd HW B
  go_wp2
  go_loopw [4, 5, 6, 13] (fun h _ _ i wr => ∃ k : Nat, k ≤ m ∧ i = .int .i64 k ∧ h = .int .u32 (sumL (xs.take k) (ys.take k) 2166136261) ∧ wr = w1) (fun _ _ _ i _ => (m - intOf i).toNat)
  case atStart => exact ⟨0, by omega, rfl, rfl, rfl⟩
  case round =>
    obtain ⟨k, hk, rfl, rfl, rfl⟩ := hrel
    by_cases hlt : k < m
    · obtain ⟨x, y, hxk, hyk, x1, y1, y2, hN, hh⟩ := HT.out k hlt
      have HN := Lib.hid hN
      obtain ⟨b, off, rfl, hc⟩ := H1.out.at hxk
      obtain ⟨b', off', rfl, hc'⟩ := H2.out.at hyk
      clear hxk hyk hN
      generalize sumL (xs.take k) (ys.take k) 2166136261 = h at *
      go_wp2
      go_roundw
      case rel => exact ⟨k + 1, by omega, by go_num, by rw [HN.out, sum_walk hh x1 y1 y2], by trivial⟩
      case measure => simp [intOf]; omega
    · go_wp2
      go_ret2
      obtain rfl : k = m := by omega
      exact ⟨by rw [HE.out]; rfl, HB.out⟩
end Go.Proofs.YtidbdokoonikpaaGreatDoor
end

section
/- Walks: the reference's text of a tile. -/
namespace Go.Proofs.YtidbdokoonikpaaGreatDoor
open Go.RowKit Flo

set_option maxRecDepth 100000 in
set_option maxHeartbeats 1000000 in
theorem specText_bad (cx cy : Nat) (deep size : Int) (hx : cx < 4294967296) (hy : cy < 4294967296) (hp : placeB cx cy deep size = true) (a a' : Option Addr) (n c c' : Nat) (ys : List Int) (hl : ys.length ≤ 1048576) (w : World) (hs : Sl w a' (ys.map intV)) (hw : wellB size n ys = false) :
    Calls Tryz.prog 9 #[.agg #[.complex .f32 cx cy, .int .i64 deep, .int .i64 size, .slice a n c, .slice a' ys.length c']] w fun e w' => e = .returned (.tuple #[.string ⟨#[]⟩, .bool false]) ∧ Below w.heap.size w w' := by
  have B := Box.new w #[.complex .f32 cx cy, .int .i64 deep, .int .i64 size, .slice a n c, .slice a' ys.length c'] 27
  have HW := Lib.hid (specSum_bad cx cy deep size hx hy hp a a' n c c' ys hl _ (hs.alloc (.cells #[.complex .f32 cx cy, .int .i64 deep, .int .i64 size, .slice a n c, .slice a' ys.length c'] 27)) hw)
  clear hp hs hw
  go_enter Tryz.func9, Tryz.ntmps9
  go_wp2_with fail
  with_reducible refine HW.out.mono ?_
  rintro e w1 ⟨rfl, hd⟩
  have HB := Lib.hid (B.step hd).old
  clear hd HW B
  go_wp2
  go_ret2
  exact ⟨rfl, HB.out⟩
set_option maxRecDepth 100000 in
set_option maxHeartbeats 1000000 in
theorem specText_good (cx cy d s : Nat) (hx : cx < 4294967296) (hy : cy < 4294967296) (hp : placeB cx cy d s = true) (a a' : Option Addr) (c c' : Nat) (xs : List Nat) (ys : List Int) (hl : ys.length ≤ 1048576) (hxx : ∀ x, x ∈ xs → x < 4294967296) (w : World) (hs : Sl w a (xs.map floV)) (hs' : Sl w a' (ys.map intV)) (hw : wellB s xs.length ys = true) :
    Calls Tryz.prog 9 #[.agg #[.complex .f32 cx cy, .int .i64 d, .int .i64 s, .slice a xs.length c, .slice a' ys.length c']] w fun e w' => e = .returned (.tuple #[.string ⟨(textT cx cy d s xs ys (sum0 xs ys)).toArray⟩, .bool true]) ∧ Below w.heap.size w w' := by
  obtain ⟨p1, p2, p3, p4⟩ := placeB_bd hp
  have B := Box.new w #[.complex .f32 cx cy, .int .i64 d, .int .i64 s, .slice a xs.length c, .slice a' ys.length c'] 27
  have HW := Lib.hid (specSum_good cx cy d s hx hy hp a a' c c' xs ys hl hxx _ (hs.alloc (.cells #[.complex .f32 cx cy, .int .i64 d, .int .i64 s, .slice a xs.length c, .slice a' ys.length c'] 27)) (hs'.alloc (.cells #[.complex .f32 cx cy, .int .i64 d, .int .i64 s, .slice a xs.length c, .slice a' ys.length c'] 27)) hw)
  have w1' := fun w => specWordOf_any cx hx w
  have w2' := fun w => specWordOf_any cy hy w
  have d1' := fun w => l6Dec_small d (by omega) w
  have d2' := fun w => l6Dec_small s (by omega) w
  obtain ⟨X1, hX1⟩ : ∃ X : ByteArray, ⟨(wordL cx).toArray⟩ = X := ⟨_, rfl⟩
  obtain ⟨X2, hX2⟩ : ∃ X : ByteArray, ⟨(wordL cy).toArray⟩ = X := ⟨_, rfl⟩
  obtain ⟨X3, hX3⟩ : ∃ X : ByteArray, decS d = X := ⟨_, rfl⟩
  obtain ⟨X4, hX4⟩ : ∃ X : ByteArray, decS s = X := ⟨_, rfl⟩
  rw [hX1] at w1'
  rw [hX2] at w2'
  rw [hX3] at d1'
  rw [hX4] at d2'
  have z1 : X1.size = 8 := by rw [← hX1]; exact wordL_length cx
  have z2 : X2.size = 8 := by rw [← hX2]; exact wordL_length cy
  have HZ : Hid (X3.size = 1 ∨ X3.size = 2) := by show _ ∨ _; rw [← hX3]; exact decS_two d
  have z4 : X4.size = 1 := by rw [← hX4]; exact decS_one (by omega)
  have W1 := Lib.hid w1'
  have W2 := Lib.hid w2'
  have D1 := Lib.hid d1'
  have D2 := Lib.hid d2'
  have HXS := Lib.hid (And.intro hX1 (And.intro hX2 (And.intro hX3 hX4)))
  clear w1' w2' d1' d2' hX1 hX2 hX3 hX4
  have HB := Lib.hid B
  obtain ⟨g1, g2, g3⟩ := wellB_all hw
  have HT := Lib.hid (fun k => sum_at (k := k) (m := xs.length) rfl g2 hxx g3)
  have H1 := Lib.hid hs
  have H2 := Lib.hid hs'
  have hL1 : xs.length ≤ 64 := by
    have h8 : (s : Int) * s ≤ 8 * 8 := Int.mul_le_mul (by omega) (by omega) (by omega) (by omega)
    omega
  have HL2 := Lib.hid g2
  clear hp hs hs' hw B g1 g2 g3
  go_enter Tryz.func9, Tryz.ntmps9
  go_wp2_with fail
  with_reducible refine HW.out.mono ?_
  rintro e w1 ⟨rfl, hd⟩
  have HB1 := Lib.hid (HB.out.step hd)
  clear hd HW HB
  obtain ⟨b0, b1, b2, b3, b4⟩ := HB1.out.cells5
  go_upto_region 4 with fail
  have HBd := Lib.hid (HB1.out.step ((Drw.refl _).drew.below _))
  have HS : Hid (∀ W, Box w w.heap.size #[.complex .f32 cx cy, .int .i64 d, .int .i64 s, .slice a xs.length c, .slice a' ys.length c'] 27 W → W.cell? ⟨w.heap.size, 0, none⟩ = some (.complex .f32 cx cy) ∧ W.cell? ⟨w.heap.size, 1, none⟩ = some (.int .i64 d) ∧ W.cell? ⟨w.heap.size, 2, none⟩ = some (.int .i64 s)) := fun W h => ⟨h.cells5.1, h.cells5.2.1, h.cells5.2.2.1⟩
  go_cut [6] from 16 to 36 (fun o wx => o = .string (⟨#[116, 105, 108, 101, 32]⟩ ++ X1 ++ ⟨#[32]⟩ ++ X2 ++ ⟨#[32]⟩ ++ X3 ++ ⟨#[32]⟩ ++ X4) ∧ Hid (Box w w.heap.size #[.complex .f32 cx cy, .int .i64 d, .int .i64 s, .slice a xs.length c, .slice a' ys.length c'] 27 wx))
  case first =>
    rcases HZ.out with z3 | z3
    · go_region_held3 (fun w' => w'.cell? ⟨w.heap.size, 0, none⟩ = some (.complex .f32 cx cy) ∧ w'.cell? ⟨w.heap.size, 1, none⟩ = some (.int .i64 d) ∧ w'.cell? ⟨w.heap.size, 2, none⟩ = some (.int .i64 s)) (((first | dsimp only | skip); first | (with_reducible exact HS.out _ HBd.out) | (with_reducible exact HS.out _ HB5.out) | (with_reducible exact HS.out _ HB6.out))) (first
      | (with_reducible refine (W1.out _).mono ?_; rintro e w4 ⟨rfl, rfl⟩)
      | (with_reducible refine (W2.out _).mono ?_; rintro e w4 ⟨rfl, rfl⟩)
      | (with_reducible refine (D1.out _).mono ?_; rintro e w5 ⟨rfl, hd⟩; have HB5 := Lib.hid (HBd.out.step hd); clear hd)
      | (with_reducible refine (D2.out _).mono ?_; rintro e w6 ⟨rfl, hd⟩; have HB6 := Lib.hid (HB5.out.step hd); clear hd))
      all_goals
        go_wp2_with fail
        go_meet
        exact ⟨rfl, HB6⟩
    · go_region_held3 (fun w' => w'.cell? ⟨w.heap.size, 0, none⟩ = some (.complex .f32 cx cy) ∧ w'.cell? ⟨w.heap.size, 1, none⟩ = some (.int .i64 d) ∧ w'.cell? ⟨w.heap.size, 2, none⟩ = some (.int .i64 s)) (((first | dsimp only | skip); first | (with_reducible exact HS.out _ HBd.out) | (with_reducible exact HS.out _ HB5.out) | (with_reducible exact HS.out _ HB6.out))) (first
      | (with_reducible refine (W1.out _).mono ?_; rintro e w4 ⟨rfl, rfl⟩)
      | (with_reducible refine (W2.out _).mono ?_; rintro e w4 ⟨rfl, rfl⟩)
      | (with_reducible refine (D1.out _).mono ?_; rintro e w5 ⟨rfl, hd⟩; have HB5 := Lib.hid (HBd.out.step hd); clear hd)
      | (with_reducible refine (D2.out _).mono ?_; rintro e w6 ⟨rfl, hd⟩; have HB6 := Lib.hid (HB5.out.step hd); clear hd))
      all_goals
        go_wp2_with fail
        go_meet
        exact ⟨rfl, HB6⟩
  case rest =>
    obtain ⟨rfl, HB7⟩ := hcut
    have HE0 : Hid ((⟨#[116, 105, 108, 101, 32]⟩ ++ X1 ++ ⟨#[32]⟩ ++ X2 ++ ⟨#[32]⟩ ++ X3 ++ ⟨#[32]⟩ ++ X4 : ByteArray).data.toList = headT cx cy d s ++ cellsT xs ys 0) := by
      show _ = _
      obtain ⟨e1, e2, e3, e4⟩ := HXS.out
      rw [← e1, ← e2, ← e3, ← e4, cellsT_zero, headT]
      simp [ByteArray.data_append]
    generalize (⟨#[116, 105, 108, 101, 32]⟩ ++ X1 ++ ⟨#[32]⟩ ++ X2 ++ ⟨#[32]⟩ ++ X3 ++ ⟨#[32]⟩ ++ X4 : ByteArray) = O0 at *
    clear HXS HZ z1 z2 z4 b0 b1 b2 b3 b4 HS HBd HB1 W1 W2 D1 D2
    have hsm := sumL_lt (xs := xs) (ys := ys) (h := 2166136261) (by decide)
    have HSW := Lib.hid (fun w => l9Word_any (sum0 xs ys) hsm w)
    have HSM := Lib.hid hsm
    have Hhead : Hid ((headT cx cy d s).length ≤ 100) := by
      show _ ≤ _
      have e1 := decS_size d
      have e2 := decS_size s
      unfold headT
      simp only [List.length_append, wordL_length, List.length_cons, List.length_nil]
      have e3 : (decS d).data.toList.length ≤ 2 := by rw [len_eq]; exact e1
      have e4 : (decS s).data.toList.length ≤ 2 := by rw [len_eq]; exact e2
      omega
    obtain ⟨b0, b1, b2, b3, b4⟩ := HB7.out.cells5
    clear hsm
    go_wp2
    go_loopw [6, 7, 8] (fun o i _ wr => ∃ k : Nat, k ≤ xs.length ∧ i = .int .i64 k ∧ (∃ O : ByteArray, o = .string O ∧ O.data.toList = headT cx cy d s ++ cellsT xs ys k) ∧ Drw wc wr) (fun _ i _ _ => (xs.length - intOf i).toNat)
    case atStart => exact ⟨0, Nat.zero_le _, rfl, ⟨_, rfl, HE0.out⟩, Drw.refl _⟩
    case round =>
      obtain ⟨k, hk, rfl, ⟨O, rfl, hO⟩, hd⟩ := hrel
      have HO := Lib.hid hO
      have h1 := H1.out.step HB7.out.old
      have h2 := H2.out.step HB7.out.old
      have hOs : O.size ≤ 1000 := by
        have e := congrArg List.length hO
        rw [len_eq, List.length_append, cellsT_len xs ys k hk (by rw [HL2.out]; exact hk)] at e
        have := Hhead.out
        omega
      clear hO
      by_cases hlt : k < xs.length
      · obtain ⟨x, y, hxk, hyk, x1, y1, y2, -, -⟩ := HT.out k hlt
        have HX : Hid (cellsT xs ys (k + 1) = cellsT xs ys k ++ 32 :: (wordL x ++ [sgnC y])) := by
          show _ = _
          have hk2 : k < ys.length := by rw [HL2.out]; exact hlt
          rw [cellsT_snoc xs ys k hlt hk2]
          rw [List.getElem?_map, List.getElem?_eq_getElem hlt] at hxk
          rw [List.getElem?_map, List.getElem?_eq_getElem hk2] at hyk
          simp only [Option.map_some, floV, intV, Option.some.injEq, Value.float.injEq, Value.int.injEq, true_and] at hxk hyk
          rw [hxk, hyk]
        have HWX := Lib.hid (fun w => specWordOf_any x x1 w)
        obtain ⟨X, hX⟩ : ∃ X : ByteArray, ⟨(wordL x).toArray⟩ = X := ⟨_, rfl⟩
        have zX : X.size = 8 := by rw [← hX]; exact wordL_length x
        rw [hX] at HWX
        have HXX := Lib.hid hX
        obtain ⟨bx, ox, rfl, hcx⟩ := (h1.drw hd).at hxk
        obtain ⟨bm, om, rfl, hcm⟩ := (h2.drw hd).at hyk
        have c3 := (hd.cell ⟨w.heap.size, 3, none⟩).trans b3
        have c4 := (hd.cell ⟨w.heap.size, 4, none⟩).trans b4
        have hyl : k < ys.length := by rw [HL2.out]; exact hlt
        clear hX hxk hyk h1 h2 b0 b1 b2 b3 b4
        rcases (by omega : y = -1 ∨ y = 0 ∨ y = 1) with rfl | rfl | rfl
        all_goals
          go_wp2
          go_quiet ((go_at_call 31; exact quiet_eq (HWX.out _)))
          go_wp2
          go_roundw
        case measure => simp [intOf]; omega
        case rel => exact ⟨k + 1, by omega, by go_num, ⟨_, rfl, by rw [HX.out]; exact text_step HO.out HXX.out (by decide)⟩, hd.drewN _⟩
        case measure => simp [intOf]; omega
        case rel => exact ⟨k + 1, by omega, by go_num, ⟨_, rfl, by rw [HX.out]; exact text_step HO.out HXX.out (by decide)⟩, hd.drewN _⟩
        case measure => simp [intOf]; omega
        case rel => exact ⟨k + 1, by omega, by go_num, ⟨_, rfl, by rw [HX.out]; exact text_step HO.out HXX.out (by decide)⟩, hd.drewN _⟩
      · have hke : k = xs.length := by omega
        have HK := Lib.hid hke
        have HB8 := Lib.hid (HB7.out.step (hd.below _)).old
        have hwl : (⟨(wordL (sum0 xs ys)).toArray⟩ : ByteArray).size = 8 := wordL_length _
        have c3 := (hd.cell ⟨w.heap.size, 3, none⟩).trans b3
        obtain ⟨X, hX⟩ : ∃ X : ByteArray, ⟨(wordL (sum0 xs ys)).toArray⟩ = X := ⟨_, rfl⟩
        have HE : Hid (O ++ ⟨#[32]⟩ ++ X = ⟨(textT cx cy d s xs ys (sum0 xs ys)).toArray⟩) := by
          show _ = _
          rw [← hX]
          exact text_last HO.out hke
        rw [hX] at HSW hwl
        clear h1 h2 b0 b1 b2 b3 b4 hX hke
        go_wp2_with fail
        with_reducible refine (HSW.out _).mono ?_
        rintro e w9 ⟨rfl, rfl⟩
        go_wp2
        go_ret2
        exact ⟨by rw [HE.out]; rfl, HB8.out⟩
end Go.Proofs.YtidbdokoonikpaaGreatDoor
end
