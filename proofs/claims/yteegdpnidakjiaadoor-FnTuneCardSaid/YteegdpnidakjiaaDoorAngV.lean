/- Walks: what is an angle. -/
import Derived.Test.YteegdpnidakjiaaDoorRows
import Derived.Test.YteegdpnidakjiaaDoorBase
import Derived.Test.YteegdpnidakjiaaDoorAngP
namespace Go.Proofs.YteegdpnidakjiaaDoor
open Go.RowKit

set_option maxHeartbeats 400000 in
theorem l6In_any (n lo hi : Int) (w : World) : Calls Tryd.prog 33 #[.int .i64 n, .int .i64 lo, .int .i64 hi] w fun e w' => e = .returned (.bool (inB n lo hi)) ∧ w = w' := by
  by_cases h1 : lo ≤ n
  · by_cases h2 : n ≤ hi
    · rw [inB_yes h1 h2]
      have h2' : ¬ hi < n := by omega
      go_enter Tryd.func33, Tryd.ntmps33
      go_wp2
      go_ret
      exact ⟨rfl, rfl⟩
    · rw [inB_no (by omega)]
      go_enter Tryd.func33, Tryd.ntmps33
      go_wp2
      go_ret
      exact ⟨rfl, rfl⟩
  · rw [inB_no (by omega)]
    go_enter Tryd.func33, Tryd.ntmps33
    go_wp2
    go_ret
    exact ⟨rfl, rfl⟩
theorem gcd_step (p q : Nat) : Nat.gcd q (p % q) = Nat.gcd p q := by
  rw [Nat.gcd_comm p q, Nat.gcd_rec q p, Nat.gcd_comm]
set_option maxHeartbeats 400000 in
theorem l6aGcd_any (a b : Nat) (ha : a ≤ 2147483648) (hb : b ≤ 2147483648) (w : World) : Calls Tryd.prog 43 #[.int .i64 a, .int .i64 b] w fun e w' => e = .returned (.int .i64 (Nat.gcd a b : Nat)) ∧ w = w' := by
  go_enter Tryd.func43, Tryd.ntmps43
  go_wp2
  go_loop [0, 1] (fun x y => ∃ p q : Nat, p ≤ 2147483648 ∧ q ≤ 2147483648 ∧ x = .int .i64 p ∧ y = .int .i64 q ∧ Hid (Nat.gcd p q = Nat.gcd a b)) (fun _ y => (intOf y).toNat)
  case atStart => exact ⟨a, b, ha, hb, rfl, rfl, rfl⟩
  case round =>
    obtain ⟨p, q, hp, hq, rfl, rfl, HG⟩ := hrel
    by_cases h0 : q = 0
    · subst h0
      go_wp2
      go_ret
      have := HG.out
      rw [Nat.gcd_zero_right] at this
      rw [this]
      exact ⟨rfl, rfl⟩
    · have hne : ((q : Int) != 0) = true := by simp; omega
      have hne' : ((q : Int) == 0) = false := by simp; omega
      have hlt : p % q < q := Nat.mod_lt _ (by omega)
      go_wp2
      go_round
      case rel =>
        refine ⟨q, p % q, hq, by omega, rfl, by go_num, ?_⟩
        rw [gcd_step p q]; exact HG.out
      case measure => simp [intOf]; omega
set_option maxHeartbeats 400000 in
theorem divisor_any (a b : Nat) (ha : a ≤ 2147483648) (hb : b ≤ 2147483648) (w : World) : Calls Tryd.prog 35 #[.int .i64 a, .int .i64 b] w fun e w' => e = .returned (.int .i64 (Nat.gcd a b : Nat)) ∧ Drw w w' := by
  go_enter Tryd.func35, Tryd.ntmps35
  go_wp2
  go_loopw [0, 1] (fun x y wr => ∃ p q : Nat, p ≤ 2147483648 ∧ q ≤ 2147483648 ∧ x = .int .i64 p ∧ y = .int .i64 q ∧ Hid (Nat.gcd p q = Nat.gcd a b) ∧ Drw w wr) (fun _ y _ => (intOf y).toNat)
  case atStart => exact ⟨a, b, ha, hb, rfl, rfl, rfl, Drw.refl _⟩
  case round =>
    obtain ⟨p, q, hp, hq, rfl, rfl, HG, hw⟩ := hrel
    obtain ⟨wo, rfl⟩ : ∃ wo : World, wo = wr := ⟨_, rfl⟩
    by_cases h0 : q = 0
    · subst h0
      go_wp2
      go_ret
      have := HG.out
      rw [Nat.gcd_zero_right] at this
      rw [this]
      exact ⟨rfl, hw⟩
    · have hne : ((q : Int) != 0) = true := by simp; omega
      have hne' : ((q : Int) == 0) = false := by simp; omega
      have hlt : p % q < q := Nat.mod_lt _ (by omega)
      go_wp2
      go_quiet (fail)
      go_wp2
      go_roundw
      case rel => exact ⟨q, p % q, hq, by omega, rfl, by go_num, by rw [gcd_step p q]; exact HG.out, hw.drewN _⟩
      case measure => simp [intOf]; omega
theorem gcd_one (m n : Nat) : (((Nat.gcd m n : Nat) : Int) == 1) = (Nat.gcd m n == 1) := by
  rw [Bool.eq_iff_iff]; simp; omega
set_option maxHeartbeats 400000 in
theorem specAngleValid_any (a b : Int) (w : World) : Calls Tryd.prog 32 #[.agg #[.int .i64 a, .int .i64 b]] w fun e w' => e = .returned (.bool (angleOK a b)) ∧ Below w.heap.size w w' := by
  by_cases h1 : 1 ≤ b ∧ b ≤ 1048576
  · obtain ⟨h1a, h1b⟩ := h1
    have e1 := inB_yes h1a h1b
    by_cases h2 : 0 ≤ a ∧ a ≤ b - 1
    · have e2 := inB_yes h2.1 h2.2
      obtain ⟨m, rfl⟩ := Int.eq_ofNat_of_zero_le h2.1
      obtain ⟨n, rfl⟩ := Int.eq_ofNat_of_zero_le (show 0 ≤ b by omega)
      have hmn : m < n := by omega
      rw [angleOK_of hmn (by omega)]
      clear h2
      go_enter Tryd.func32, Tryd.ntmps32
      go_wp2_with (first | (go_at_call 33; refine (l6In_any _ _ _ _).mono ?_; rintro e w' ⟨rfl, rfl⟩) | (go_at_call 43; refine (l6aGcd_any m n (by omega) (by omega) _).mono ?_; rintro e w' ⟨rfl, rfl⟩))
      go_ret
      exact ⟨ret_bool (gcd_one m n), (Below.refl _ _).alloc (Nat.le_refl _) _⟩
    · have e2 := inB_no h2
      rw [angleOK_not (by omega)]
      clear h2
      go_enter Tryd.func32, Tryd.ntmps32
      go_wp2_with (first | (go_at_call 33; refine (l6In_any _ _ _ _).mono ?_; rintro e w' ⟨rfl, rfl⟩) | (go_at_call 43; refine (l6aGcd_any m n (by omega) (by omega) _).mono ?_; rintro e w' ⟨rfl, rfl⟩))
      go_ret
      exact ⟨rfl, (Below.refl _ _).alloc (Nat.le_refl _) _⟩
  · have e1 := inB_no h1
    rw [angleOK_not (by omega)]
    clear h1
    go_enter Tryd.func32, Tryd.ntmps32
    go_wp2_with (first | (go_at_call 33; refine (l6In_any _ _ _ _).mono ?_; rintro e w' ⟨rfl, rfl⟩))
    go_ret
    exact ⟨rfl, (Below.refl _ _).alloc (Nat.le_refl _) _⟩
set_option maxHeartbeats 400000 in
theorem implAngleValid_any (a b : Int) (w : World) : Calls Tryd.prog 22 #[.agg #[.int .i64 a, .int .i64 b]] w fun e w' => e = .returned (.bool (angleOK a b)) ∧ Below w.heap.size w w' := by
  by_cases h1 : b < 1
  · rw [angleOK_not (by omega)]
    go_enter Tryd.func22, Tryd.ntmps22
    go_wp2
    go_ret
    exact ⟨rfl, (Below.refl _ _).alloc (Nat.le_refl _) _⟩
  by_cases h2 : 1048576 < b
  · rw [angleOK_not (by omega)]
    go_enter Tryd.func22, Tryd.ntmps22
    go_wp2
    go_ret
    exact ⟨rfl, (Below.refl _ _).alloc (Nat.le_refl _) _⟩
  by_cases h3 : a < 0
  · rw [angleOK_not (by omega)]
    go_enter Tryd.func22, Tryd.ntmps22
    go_wp2
    go_ret
    exact ⟨rfl, (Below.refl _ _).alloc (Nat.le_refl _) _⟩
  by_cases h4 : b ≤ a
  · rw [angleOK_not (by omega)]
    go_enter Tryd.func22, Tryd.ntmps22
    go_wp2
    go_ret
    exact ⟨rfl, (Below.refl _ _).alloc (Nat.le_refl _) _⟩
  obtain ⟨m, rfl⟩ := Int.eq_ofNat_of_zero_le (show 0 ≤ a by omega)
  obtain ⟨n, rfl⟩ := Int.eq_ofNat_of_zero_le (show 0 ≤ b by omega)
  have hmn : m < n := by omega
  rw [angleOK_of hmn (by omega)]
  go_enter Tryd.func22, Tryd.ntmps22
  go_wp2_with (go_at_call 35; refine (divisor_any m n (by omega) (by omega) _).mono ?_; rintro e w' ⟨rfl, hd⟩)
  go_ret
  exact ⟨ret_bool (gcd_one m n), ((Below.refl _ _).alloc (Nat.le_refl _) _).trans (hd.below _)⟩
end Go.Proofs.YteegdpnidakjiaaDoor
