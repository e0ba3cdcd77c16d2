/- Walks of the words. -/
import Derived.Test.YtdfoobemgdiobaaDoorRows
import Derived.Test.YtdfoobemgdiobaaDoorWordP
import Derived.WalkKit
import Derived.WalkSpells
import Derived.WalkLawsBesides
import Derived.Lib.Hide
namespace Go.Proofs.YtdfoobemgdiobaaDoor
open Go.RowKit

set_option maxHeartbeats 400000 in
theorem l9Digits_any (w : World) :
    Calls Tryd.prog 65 #[] w fun e w' => e = .returned (.string ⟨hexL.toArray⟩) ∧ w = w' := by
  go_enter Tryd.func65, Tryd.ntmps65
  go_wp2
  go_ret
  exact ⟨by kernel_rfl, rfl⟩

set_option maxHeartbeats 400000 in
theorem l9Word_any (n : Nat) (h1 : n < 4294967296) (w : World) :
    Calls Tryd.prog 55 #[.int .u32 n] w fun e w' => e = .returned (.string ⟨(wordL n).toArray⟩) ∧ w = w' := by
  go_enter Tryd.func55, Tryd.ntmps55
  go_wp2
  go_loop [3, 4, 5] (fun t i k => ∃ j : Nat, j ≤ 8 ∧ i = .int .i64 (7 - j) ∧ t = .string ⟨(wordTo n j).toArray⟩) (fun _ i _ => (intOf i + 1).toNat)
  case atStart => exact ⟨0, by omega, rfl, rfl⟩
  case round =>
    obtain ⟨j, hj, rfl, rfl⟩ := hrel
    by_cases hlt : j < 8
    · have hd := hexAt_walk n j h1
      have hdl := hexAt_lt n j
      have hsl := hexL_extract _ hdl
      have hlen := hexL_length
      generalize hA : hexAt n j = d at *
      have HD := Lib.hid hA; clear hA
      have hpl : (wordTo n j).length ≤ 8 := by have := wordTo_length n j; omega
      go_wp2_with (go_at_call 65; refine (l9Digits_any _).mono ?_; rintro e w' ⟨rfl, rfl⟩)
      go_round
      case rel =>
        refine ⟨j + 1, by omega, by go_num, ?_⟩
        rw [wordTo, HD.out]; simp [ByteArray.ext_iff]
      case measure => simp [intOf]; omega
    · go_wp2
      go_ret
      obtain rfl : j = 8 := by omega
      exact ⟨rfl, rfl⟩

set_option maxHeartbeats 400000 in
theorem wordOfBits_any (n : Nat) (h1 : n < 4294967296) (w : World) :
    Calls Tryd.prog 50 #[.int .u32 n] w fun e w' => e = .returned (.string ⟨(wordL n).toArray⟩) ∧ Below w.heap.size w w' := by
  go_enter Tryd.func50, Tryd.ntmps50
  go_wp2
  go_loopw [4, 5] (fun t i wr => ∃ j : Nat, j ≤ 8 ∧ i = .int .i64 j ∧ wr = w.alloc (.cells (wordCells n j) 104)) (fun _ i _ => (8 - intOf i).toNat)
  case atStart => exact ⟨0, by omega, rfl, by rw [wordCells_zero]⟩
  case round =>
    obtain ⟨j, hj, rfl, rfl⟩ := hrel
    by_cases hlt : j < 8
    · have hd := hexAt_walk n j h1
      have hdl := hexAt_lt n j
      have hset := wordCells_set n j hlt
      have HS : Hid (wordCells n (j + 1) = (wordCells n j).setIfInBounds j (.int .u8 (hexD (hexAt n j)).toNat)) := hset.symm
      have hsz := wordCells_size n j hj
      clear hset
      generalize hexAt n j = d at *
      go_wp2
      go_roundw
      case rel => exact ⟨j + 1, by omega, by go_num, by rw [HS.out, hex_get]⟩
      case measure => simp [intOf]; omega
    · obtain rfl : j = 8 := by omega
      have hb := run_convert_bytes_back (P := Tryd.prog) (w.alloc (.cells (wordCells n 8) 104)) 22 9 5 ⟨w.heap.size, 0, none⟩ 8 (wordL n) Tryd.underlying22 Tryd.underlying5 Tryd.underlying9 (by
        intro j hj
        rw [wordL_length] at hj
        have := wordCells_cell n j hj
        rw [Addr.add_lit, Nat.zero_add, World.cell?_alloc_mark]
        exact this)
      rw [wordL_length] at hb
      go_wp2
      go_ret
      exact ⟨rfl, (Below.refl _ _).alloc (Nat.le_refl _) _⟩

theorem Float32bits_run (x : Nat) (w : World) : (callFunc 34 #[.float .f32 x]).run Tryd.prog w = .ok (.value (.int .u32 x)) w := by
  kernel_rfl
set_option maxHeartbeats 400000 in
theorem specWordOf_any (x : Nat) (h1 : x < 4294967296) (w : World) :
    Calls Tryd.prog 53 #[.float .f32 x] w fun e w' => e = .returned (.string ⟨(wordL x).toArray⟩) ∧ w = w' := by
  have hf := Float32bits_run x
  go_enter Tryd.func53, Tryd.ntmps53
  go_wp2_with (go_at_call 55; refine (l9Word_any _ h1 _).mono ?_; rintro e w' ⟨rfl, rfl⟩)
  go_ret
  exact ⟨rfl, rfl⟩
set_option maxHeartbeats 400000 in
theorem implWordOf_any (x : Nat) (h1 : x < 4294967296) (w : World) :
    Calls Tryd.prog 47 #[.float .f32 x] w fun e w' => e = .returned (.string ⟨(wordL x).toArray⟩) ∧ Below w.heap.size w w' := by
  have hf := Float32bits_run x
  go_enter Tryd.func47, Tryd.ntmps47
  go_wp2_with (go_at_call 50; refine (wordOfBits_any _ h1 _).mono ?_; rintro e w' ⟨rfl, hb⟩)
  go_ret
  exact ⟨rfl, hb⟩
end Go.Proofs.YtdfoobemgdiobaaDoor
