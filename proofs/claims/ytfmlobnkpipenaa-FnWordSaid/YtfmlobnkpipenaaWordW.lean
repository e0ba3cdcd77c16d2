/- Walks of the words. -/
import Derived.Test.YtfmlobnkpipenaaRows
import Derived.Test.YtfmlobnkpipenaaWordP
import Derived.WalkKit
import Derived.WalkSpells
import Derived.WalkLawsBesides
import Derived.Lib.Hide
namespace Go.Proofs.Ytfmlobnkpipenaa
open Go.RowKit

set_option maxHeartbeats 400000 in
theorem l9Digits_any (w : World) :
    Calls Try.prog 48 #[] w fun e w' => e = .returned (.string ⟨hexL.toArray⟩) ∧ w = w' := by
  go_enter Try.func48, Try.ntmps48
  go_wp2
  go_ret
  exact ⟨by kernel_rfl, rfl⟩

set_option maxHeartbeats 400000 in
theorem l9Word_any (n : Nat) (h1 : n < 4294967296) (w : World) :
    Calls Try.prog 26 #[.int .u32 n] w fun e w' => e = .returned (.string ⟨(wordL n).toArray⟩) ∧ w = w' := by
  go_enter Try.func26, Try.ntmps26
  go_wp2
  go_loop [3, 4, 5] (fun t i k => ∃ j : Nat, j ≤ 8 ∧ i = .int .i64 (7 - j) ∧ t = .string ⟨(wordTo n j).toArray⟩) (fun _ i _ => (intOf i + 1).toNat)
  case atStart => exact ⟨0, by omega, rfl, rfl⟩
  case round =>
    obtain ⟨j, hj, rfl, rfl⟩ := hrel
    by_cases hlt : j < 8
    · have hd := hexAt_walk n j h1
      have hdl := hexAt_lt n j
      have hsl := hexL_extract _ hdl
      have hlen := hexL_length
      generalize hA : hexAt n j = d at *
      have HD := Lib.hid hA; clear hA
      have hpl : (wordTo n j).length ≤ 8 := by have := wordTo_length n j; omega
      go_wp2_with (go_at_call 48; refine (l9Digits_any _).mono ?_; rintro e w' ⟨rfl, rfl⟩)
      go_round
      case rel =>
        refine ⟨j + 1, by omega, by go_num, ?_⟩
        rw [wordTo, HD.out]; simp [ByteArray.ext_iff]
      case measure => simp [intOf]; omega
    · go_wp2
      go_ret
      obtain rfl : j = 8 := by omega
      exact ⟨rfl, rfl⟩

set_option maxHeartbeats 400000 in
theorem wordOfBits_any (n : Nat) (h1 : n < 4294967296) (w : World) :
    Calls Try.prog 28 #[.int .u32 n] w fun e w' => e = .returned (.string ⟨(wordL n).toArray⟩) ∧ Below w.heap.size w w' := by
  go_enter Try.func28, Try.ntmps28
  go_wp2
  go_loopw [4, 5] (fun t i wr => ∃ j : Nat, j ≤ 8 ∧ i = .int .i64 j ∧ wr = w.alloc (.cells (wordCells n j) 80)) (fun _ i _ => (8 - intOf i).toNat)
  case atStart => exact ⟨0, by omega, rfl, by rw [wordCells_zero]⟩
  case round =>
    obtain ⟨j, hj, rfl, rfl⟩ := hrel
    by_cases hlt : j < 8
    · have hd := hexAt_walk n j h1
      have hdl := hexAt_lt n j
      have hset := wordCells_set n j hlt
      have HS : Hid (wordCells n (j + 1) = (wordCells n j).setIfInBounds j (.int .u8 (hexD (hexAt n j)).toNat)) := hset.symm
      have hsz := wordCells_size n j hj
      clear hset
      generalize hexAt n j = d at *
      go_wp2
      go_roundw
      case rel => exact ⟨j + 1, by omega, by go_num, by rw [HS.out, hex_get]⟩
      case measure => simp [intOf]; omega
    · obtain rfl : j = 8 := by omega
      have hb := run_convert_bytes_back (P := Try.prog) (w.alloc (.cells (wordCells n 8) 80)) 37 9 5 ⟨w.heap.size, 0, none⟩ 8 (wordL n) Try.underlying37 Try.underlying5 Try.underlying9 (by
        intro j hj
        rw [wordL_length] at hj
        have := wordCells_cell n j hj
        rw [Addr.add_lit, Nat.zero_add, World.cell?_alloc_mark]
        exact this)
      rw [wordL_length] at hb
      go_wp2
      go_ret
      exact ⟨rfl, (Below.refl _ _).alloc (Nat.le_refl _) _⟩

theorem Float32bits_run (x : Nat) (w : World) : (callFunc 27 #[.float .f32 x]).run Try.prog w = .ok (.value (.int .u32 x)) w := by
  kernel_rfl
set_option maxHeartbeats 400000 in
theorem specWordOf_any (x : Nat) (h1 : x < 4294967296) (w : World) :
    Calls Try.prog 9 #[.float .f32 x] w fun e w' => e = .returned (.string ⟨(wordL x).toArray⟩) ∧ w = w' := by
  have hf := Float32bits_run x
  go_enter Try.func9, Try.ntmps9
  go_wp2_with (go_at_call 26; refine (l9Word_any _ h1 _).mono ?_; rintro e w' ⟨rfl, rfl⟩)
  go_ret
  exact ⟨rfl, rfl⟩
set_option maxHeartbeats 400000 in
theorem implWordOf_any (x : Nat) (h1 : x < 4294967296) (w : World) :
    Calls Try.prog 10 #[.float .f32 x] w fun e w' => e = .returned (.string ⟨(wordL x).toArray⟩) ∧ Below w.heap.size w w' := by
  have hf := Float32bits_run x
  go_enter Try.func10, Try.ntmps10
  go_wp2_with (go_at_call 28; refine (wordOfBits_any _ h1 _).mono ?_; rintro e w' ⟨rfl, hb⟩)
  go_ret
  exact ⟨rfl, hb⟩
end Go.Proofs.Ytfmlobnkpipenaa
