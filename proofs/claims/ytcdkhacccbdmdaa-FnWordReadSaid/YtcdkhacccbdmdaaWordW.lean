/- Walks of the words. -/
import Derived.Test.YtcdkhacccbdmdaaRows
import Derived.Test.YtcdkhacccbdmdaaWordP
import Derived.WalkKit
import Derived.WalkSpells
import Derived.WalkLawsBesides
import Derived.Lib.Hide
namespace Go.Proofs.Ytcdkhacccbdmdaa
open Go.RowKit

set_option maxHeartbeats 400000 in
theorem l9Digits_any (w : World) :
    Calls Try.prog 43 #[] w fun e w' => e = .returned (.string ⟨hexL.toArray⟩) ∧ w = w' := by
  go_enter Try.func43, Try.ntmps43
  go_wp2
  go_ret
  exact ⟨by kernel_rfl, rfl⟩

set_option maxHeartbeats 400000 in
theorem l9Word_any (n : Nat) (h1 : n < 4294967296) (w : World) :
    Calls Try.prog 41 #[.int .u32 n] w fun e w' => e = .returned (.string ⟨(wordL n).toArray⟩) ∧ w = w' := by
  go_enter Try.func41, Try.ntmps41
  go_wp2
  go_loop [3, 4, 5] (fun t i k => ∃ j : Nat, j ≤ 8 ∧ i = .int .i64 (7 - j) ∧ t = .string ⟨(wordTo n j).toArray⟩) (fun _ i _ => (intOf i + 1).toNat)
  case atStart => exact ⟨0, by omega, rfl, rfl⟩
  case round =>
    obtain ⟨j, hj, rfl, rfl⟩ := hrel
    by_cases hlt : j < 8
    · have hd := hexAt_walk n j h1
      have hdl := hexAt_lt n j
      have hsl := hexL_extract _ hdl
      have hlen := hexL_length
      generalize hA : hexAt n j = d at *
      have HD := Lib.hid hA; clear hA
      have hpl : (wordTo n j).length ≤ 8 := by have := wordTo_length n j; omega
      go_wp2_with (go_at_call 43; refine (l9Digits_any _).mono ?_; rintro e w' ⟨rfl, rfl⟩)
      go_round
      case rel =>
        refine ⟨j + 1, by omega, by go_num, ?_⟩
        rw [wordTo, HD.out]; simp [ByteArray.ext_iff]
      case measure => simp [intOf]; omega
    · go_wp2
      go_ret
      obtain rfl : j = 8 := by omega
      exact ⟨rfl, rfl⟩

set_option maxHeartbeats 400000 in
theorem wordOfBits_any (n : Nat) (h1 : n < 4294967296) (w : World) :
    Calls Try.prog 30 #[.int .u32 n] w fun e w' => e = .returned (.string ⟨(wordL n).toArray⟩) ∧ Below w.heap.size w w' := by
  go_enter Try.func30, Try.ntmps30
  go_wp2
  go_loopw [4, 5] (fun t i wr => ∃ j : Nat, j ≤ 8 ∧ i = .int .i64 j ∧ wr = w.alloc (.cells (wordCells n j) 71)) (fun _ i _ => (8 - intOf i).toNat)
  case atStart => exact ⟨0, by omega, rfl, by rw [wordCells_zero]⟩
  case round =>
    obtain ⟨j, hj, rfl, rfl⟩ := hrel
    by_cases hlt : j < 8
    · have hd := hexAt_walk n j h1
      have hdl := hexAt_lt n j
      have hset := wordCells_set n j hlt
      have HS : Hid (wordCells n (j + 1) = (wordCells n j).setIfInBounds j (.int .u8 (hexD (hexAt n j)).toNat)) := hset.symm
      have hsz := wordCells_size n j hj
      clear hset
      generalize hexAt n j = d at *
      go_wp2
      go_roundw
      case rel => exact ⟨j + 1, by omega, by go_num, by rw [HS.out, hex_get]⟩
      case measure => simp [intOf]; omega
    · obtain rfl : j = 8 := by omega
      have hb := run_convert_bytes_back (P := Try.prog) (w.alloc (.cells (wordCells n 8) 71)) 22 9 5 ⟨w.heap.size, 0, none⟩ 8 (wordL n) Try.underlying22 Try.underlying5 Try.underlying9 (by
        intro j hj
        rw [wordL_length] at hj
        have := wordCells_cell n j hj
        rw [Addr.add_lit, Nat.zero_add, World.cell?_alloc_mark]
        exact this)
      rw [wordL_length] at hb
      go_wp2
      go_ret
      exact ⟨rfl, (Below.refl _ _).alloc (Nat.le_refl _) _⟩

theorem Float32bits_run (x : Nat) (w : World) : (callFunc 31 #[.float .f32 x]).run Try.prog w = .ok (.value (.int .u32 x)) w := by
  kernel_rfl
set_option maxHeartbeats 400000 in
theorem specWordOf_any (x : Nat) (h1 : x < 4294967296) (w : World) :
    Calls Try.prog 22 #[.float .f32 x] w fun e w' => e = .returned (.string ⟨(wordL x).toArray⟩) ∧ w = w' := by
  have hf := Float32bits_run x
  go_enter Try.func22, Try.ntmps22
  go_wp2_with (go_at_call 41; refine (l9Word_any _ h1 _).mono ?_; rintro e w' ⟨rfl, rfl⟩)
  go_ret
  exact ⟨rfl, rfl⟩
set_option maxHeartbeats 400000 in
theorem implWordOf_any (x : Nat) (h1 : x < 4294967296) (w : World) :
    Calls Try.prog 11 #[.float .f32 x] w fun e w' => e = .returned (.string ⟨(wordL x).toArray⟩) ∧ Below w.heap.size w w' := by
  have hf := Float32bits_run x
  go_enter Try.func11, Try.ntmps11
  go_wp2_with (go_at_call 30; refine (wordOfBits_any _ h1 _).mono ?_; rintro e w' ⟨rfl, hb⟩)
  go_ret
  exact ⟨rfl, hb⟩
end Go.Proofs.Ytcdkhacccbdmdaa
