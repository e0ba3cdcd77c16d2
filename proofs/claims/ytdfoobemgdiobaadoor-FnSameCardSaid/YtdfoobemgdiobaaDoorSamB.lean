/- Walks: small decimals, of the reference and of the library. -/
import Derived.Test.YtdfoobemgdiobaaDoorRows
import Derived.Test.YtdfoobemgdiobaaDoorBase
import Derived.Deep.RegionWith
import Derived.Deep.Cut
namespace Go.Proofs.YtdfoobemgdiobaaDoor
open Go.RowKit

/-- a decimal from 0 to 10 -/
def decS (n : Nat) : ByteArray := if n = 10 then ⟨#[49, 48]⟩ else ⟨#[(48 + n).toUInt8]⟩
theorem decS_size (n : Nat) : (decS n).size ≤ 2 := by
  unfold decS
  split
  · decide
  · show 1 ≤ 2
    omega
theorem decS_one {n : Nat} (h : n < 10) : (decS n).size = 1 := by
  unfold decS
  rw [if_neg (by omega)]
  rfl
theorem decS_two (n : Nat) : (decS n).size = 1 ∨ (decS n).size = 2 := by
  by_cases h : n = 10
  · right; subst h; rfl
  · left; unfold decS; rw [if_neg h]; rfl
set_option maxRecDepth 100000 in
set_option maxHeartbeats 2000000 in
theorem small_is (n : Nat) (hn : n ≤ 10) (w : World) : Calls Tryd.prog 89 #[.int .i64 n] w fun e w' => e = .returned (.string (decS n)) ∧ w = w' := by
  rcases (by omega : n = 0 ∨ n = 1 ∨ n = 2 ∨ n = 3 ∨ n = 4 ∨ n = 5 ∨ n = 6 ∨ n = 7 ∨ n = 8 ∨ n = 9 ∨ n = 10) with rfl | rfl | rfl | rfl | rfl | rfl | rfl | rfl | rfl | rfl | rfl
  all_goals
    go_enter Tryd.func89, Tryd.ntmps89
    go_wp2_with fail
    go_ret
    exact ⟨by first | rfl | kernel_rfl, rfl⟩
set_option maxHeartbeats 2000000 in
theorem formatInt_small (n : Nat) (hn : n ≤ 10) (w : World) : Calls Tryd.prog 76 #[.int .i64 n, .int .i64 10] w fun e w' => e = .returned (.string (decS n)) ∧ w = w' := by
  have H := Lib.hid (fun w => small_is n hn w)
  have h1 : decide ((0 : Int) ≤ n) = true := by simp
  have h2 : decide ((n : Int) < 100) = true := by simp; omega
  generalize decS n = s at *
  go_enter Tryd.func76, Tryd.ntmps76
  go_wp2_with fail
  with_reducible refine (H.out _).mono ?_
  rintro e w1 ⟨rfl, rfl⟩
  go_wp2
  go_ret
  exact ⟨rfl, rfl⟩
set_option maxHeartbeats 2000000 in
theorem itoaI (n : Nat) (hn : n ≤ 10) (w : World) : Calls Tryd.prog 64 #[.int .i64 n] w fun e w' => e = .returned (.string (decS n)) ∧ w = w' := by
  have H := Lib.hid (fun w => formatInt_small n hn w)
  generalize decS n = s at *
  go_enter Tryd.func64, Tryd.ntmps64
  go_wp2_with fail
  with_reducible refine (H.out _).mono ?_
  rintro e w1 ⟨rfl, rfl⟩
  go_wp2
  go_ret
  exact ⟨rfl, rfl⟩
set_option maxHeartbeats 2000000 in
theorem itoa_small (n : Nat) (hn : n ≤ 10) (w : World) : Calls Tryd.prog 49 #[.int .i64 n] w fun e w' => e = .returned (.string (decS n)) ∧ w = w' := by
  have hI := Lib.hid (fun w => itoaI n hn w)
  generalize decS n = s at *
  go_enter Tryd.func49, Tryd.ntmps49
  go_wp2_with fail
  with_reducible refine (hI.out _).mono ?_
  rintro e w1 ⟨rfl, rfl⟩
  go_wp2
  go_ret
  exact ⟨rfl, rfl⟩
theorem byte_str (b : UInt8) (W : World) (k : Int) (hk : k = b.toNat) : (convert 22 9 (.slice (some ⟨W.heap.size, 0, none⟩) 1 1)).run Tryd.prog (W.alloc (.cells #[.int .u8 k] 5)) = .ok (.string ⟨#[b]⟩) (W.alloc (.cells #[.int .u8 k] 5)) := by
  have B := Box.new W #[.int .u8 k] 5
  subst hk
  exact run_convert_bytes_back _ _ _ 5 ⟨W.heap.size, 0, none⟩ 1 [b] Tryd.underlying22 Tryd.underlying5 Tryd.underlying9 (fun j hj => by
    obtain rfl : j = 0 := by simp at hj; omega
    exact B.cell 0 _ rfl)
set_option maxRecDepth 100000 in
set_option maxHeartbeats 1000000 in
theorem l6Dec_digit (n : Nat) (hn : n < 10) (w : World) : Calls Tryd.prog 54 #[.int .i64 n] w fun e w' => e = .returned (.string (decS n)) ∧ Below w.heap.size w w' := by
  have HB := Lib.hid (fun k => (Below.refl w.heap.size w).alloc (Nat.le_refl _) (.cells #[.int .u8 k] 5))
  rcases (by omega : n = 0 ∨ n = 1 ∨ n = 2 ∨ n = 3 ∨ n = 4 ∨ n = 5 ∨ n = 6 ∨ n = 7 ∨ n = 8 ∨ n = 9) with rfl | rfl | rfl | rfl | rfl | rfl | rfl | rfl | rfl | rfl
  · have h := byte_str 48 w 48 rfl
    go_enter Tryd.func54, Tryd.ntmps54
    go_wp2_with fail
    go_ret
    exact ⟨rfl, HB.out _⟩
  · have h := byte_str 49 w 49 rfl
    go_enter Tryd.func54, Tryd.ntmps54
    go_wp2_with fail
    go_ret
    exact ⟨rfl, HB.out _⟩
  · have h := byte_str 50 w 50 rfl
    go_enter Tryd.func54, Tryd.ntmps54
    go_wp2_with fail
    go_ret
    exact ⟨rfl, HB.out _⟩
  · have h := byte_str 51 w 51 rfl
    go_enter Tryd.func54, Tryd.ntmps54
    go_wp2_with fail
    go_ret
    exact ⟨rfl, HB.out _⟩
  · have h := byte_str 52 w 52 rfl
    go_enter Tryd.func54, Tryd.ntmps54
    go_wp2_with fail
    go_ret
    exact ⟨rfl, HB.out _⟩
  · have h := byte_str 53 w 53 rfl
    go_enter Tryd.func54, Tryd.ntmps54
    go_wp2_with fail
    go_ret
    exact ⟨rfl, HB.out _⟩
  · have h := byte_str 54 w 54 rfl
    go_enter Tryd.func54, Tryd.ntmps54
    go_wp2_with fail
    go_ret
    exact ⟨rfl, HB.out _⟩
  · have h := byte_str 55 w 55 rfl
    go_enter Tryd.func54, Tryd.ntmps54
    go_wp2_with fail
    go_ret
    exact ⟨rfl, HB.out _⟩
  · have h := byte_str 56 w 56 rfl
    go_enter Tryd.func54, Tryd.ntmps54
    go_wp2_with fail
    go_ret
    exact ⟨rfl, HB.out _⟩
  · have h := byte_str 57 w 57 rfl
    go_enter Tryd.func54, Tryd.ntmps54
    go_wp2_with fail
    go_ret
    exact ⟨rfl, HB.out _⟩
theorem cell_str (b : UInt8) (W : World) (g : Nat) (k : Int) (hk : k = b.toNat) (hc : W.cell? ⟨g, 0, none⟩ = some (.int .u8 k)) : (convert 22 9 (.slice (some ⟨g, 0, none⟩) 1 1)).run Tryd.prog W = .ok (.string ⟨#[b]⟩) W := by
  subst hk
  exact run_convert_bytes_back _ _ _ 5 ⟨g, 0, none⟩ 1 [b] Tryd.underlying22 Tryd.underlying5 Tryd.underlying9 (fun j hj => by
    obtain rfl : j = 0 := by simp at hj; omega
    exact hc)
set_option maxRecDepth 100000 in
set_option maxHeartbeats 1000000 in
theorem l6Dec_ten (w : World) : Calls Tryd.prog 54 #[.int .i64 10] w fun e w' => e = .returned (.string ⟨#[49, 48]⟩) ∧ Below w.heap.size w w' := by
  have HL : Hid (∀ w, Calls Tryd.prog 54 #[.int .i64 1] w fun e w' => e = .returned (.string ⟨#[49]⟩) ∧ Below w.heap.size w w') := fun w => l6Dec_digit 1 (by omega) w
  have HC : Hid (∀ W g, W.cell? ⟨g, 0, none⟩ = some (.int .u8 48) → (convert 22 9 (.slice (some ⟨g, 0, none⟩) 1 1)).run Tryd.prog W = .ok (.string ⟨#[48]⟩) W) := fun W g h => cell_str 48 W g 48 rfl h
  have h1 := byte_str 48 w 48 rfl
  have HC2 : Hid (∀ W5, Below (w.alloc (.cells #[.int .u8 48] 5)).drew.heap.size (w.alloc (.cells #[.int .u8 48] 5)).drew W5 → (convert 22 9 (.slice (some ⟨w.heap.size, 0, none⟩) 1 1)).run Tryd.prog W5 = .ok (.string ⟨#[48]⟩) W5) := fun W5 h =>
    HC.out W5 _ ((((Box.new w #[.int .u8 48] 5).step ((Drw.refl _).drew.below _)).step h).cell 0 _ rfl)
  have HE : Hid (∀ W5, Below w.drew.heap.size w.drew W5 → Below w.heap.size w (W5.alloc (.cells #[.int .u8 48] 5))) := fun W5 h => ((Below.refl _ _).drew.trans h).alloc h.size _
  have HE2 : Hid (∀ W5, Below (w.alloc (.cells #[.int .u8 48] 5)).drew.heap.size (w.alloc (.cells #[.int .u8 48] 5)).drew W5 → Below w.heap.size w W5) := fun W5 h => (((Below.refl w.heap.size w).alloc (Nat.le_refl _) _).drew).trans (h.mono (by show w.heap.size ≤ (w.alloc (.cells #[.int .u8 48] 5)).heap.size; simp))
  have h1d := HC2.out _ (Below.refl _ _)
  clear HC
  go_enter Tryd.func54, Tryd.ntmps54
  go_upto_region 7 with fail
  have k1 : IntKind.i64.wrap 1 = 1 := by decide
  have k2 : IntKind.i64.wrap 48 = 48 := by decide
  have k3 : IntKind.u8.wrap 48 = 48 := by decide
  go_region_with (go_at_call 54; with_reducible refine (HL.out _).mono ?_; rintro e w5 ⟨rfl, hb⟩; have h2 := byte_str 48 w5 48 rfl; (first | (have h3 := HC2.out _ hb) | skip))
  all_goals
    go_wp2
    go_ret
    first
      | exact ⟨rfl, HE.out _ hb⟩
      | exact ⟨rfl, HE2.out _ hb⟩
theorem l6Dec_small (n : Nat) (hn : n ≤ 10) (w : World) : Calls Tryd.prog 54 #[.int .i64 n] w fun e w' => e = .returned (.string (decS n)) ∧ Below w.heap.size w w' := by
  rcases (by omega : n < 10 ∨ n = 10) with h | rfl
  · exact l6Dec_digit n h w
  · exact l6Dec_ten w
end Go.Proofs.YtdfoobemgdiobaaDoor
