/- Walks of the reference's tiles: is a place one of a tile. -/
import Derived.Test.YtdfoobemgdiobaaDoorTilA
import Derived.Test.YtdfoobemgdiobaaDoorFloP
namespace Go.Proofs.YtdfoobemgdiobaaDoor
open Go.RowKit

theorem wrap_pow (d : Nat) (h : d ≤ 11) : wrap64 (2 ^ d) = ((2 ^ d : Nat) : Int) := by
  rcases (by omega : d = 0 ∨ d = 1 ∨ d = 2 ∨ d = 3 ∨ d = 4 ∨ d = 5 ∨ d = 6 ∨ d = 7 ∨ d = 8 ∨ d = 9 ∨ d = 10 ∨ d = 11) with rfl | rfl | rfl | rfl | rfl | rfl | rfl | rfl | rfl | rfl | rfl | rfl <;> kernel_rfl
set_option maxRecDepth 100000 in
set_option maxHeartbeats 1000000 in
theorem l7Whole_is (x d : Nat) (hx : x < 4294967296) (hd : d ≤ 11) (w : World) : Calls Tryd.prog 61 #[.float .f32 x, .int .i64 d] w fun e w' => e = .returned (.bool (Flo.wholeB x d)) ∧ Drw w w' := by
  have hdp : 2 ^ d ≤ 2 ^ 11 := Nat.pow_le_pow_right (by omega) hd
  obtain ⟨q, hq⟩ : ∃ q : Int, wrap64 (2 ^ d) = q := ⟨_, rfl⟩
  have hqd : ((2 ^ d : Nat) : Int) = q := by rw [← hq, wrap_pow d hd]
  cases h4 : Flo.inFour x with
  | false =>
    have hw : Flo.wholeB x d = false := by unfold Flo.wholeB; rw [h4]; rfl
    rw [hw]
    obtain ⟨y, w1, h1, _, d1⟩ := Flo.arith_any (P := Tryd.prog) .mul (by simp) 66 .f32 x (floatOfInt .f32 q) w
    have HD := Lib.hid d1
    unfold Flo.inFour at h4
    clear d1 hqd hdp hw
    cases b1 : (FloatKind.f32.format.order x 3229614080 == some .gt || FloatKind.f32.format.order x 3229614080 == some .eq) with
    | false =>
      clear h4
      go_enter Tryd.func61, Tryd.ntmps61
      go_wp2
      go_ret
      exact ⟨rfl, HD.out⟩
    | true =>
      rw [b1, Bool.true_and] at h4
      go_enter Tryd.func61, Tryd.ntmps61
      go_wp2
      go_ret
      exact ⟨rfl, HD.out⟩
  | true =>
    obtain ⟨y, n, h1, h2, -, -, h3⟩ := Flo.whole_steps hx hd h4
    have hw : Flo.wholeB x d = (FloatKind.f32.format.order (floatOfInt .f32 n) y == some .eq) := by unfold Flo.wholeB; rw [h4, h3]; rfl
    rw [hw]
    rw [hqd] at h1
    have g1 : ∀ w, (binOp .mul 66 (.float .f32 x) (.float .f32 (floatOfInt .f32 q))).run Tryd.prog w = .ok (.float .f32 y) w := fun w => run_float_arith w .mul _ .f32 _ _ _ h1
    have g2 : ∀ w, (convert 66 3 (.float .f32 y)).run Tryd.prog w = .ok (.int .i64 n) w := fun w => run_convert_float_int w _ _ .f32 .i64 _ _ (by kernel_rfl) Tryd.underlying3 h2
    unfold Flo.inFour at h4
    rw [Bool.and_eq_true] at h4
    obtain ⟨b1, b2⟩ := h4
    clear h1 h2 h3 hw hqd hdp
    cases b3 : (FloatKind.f32.format.order (floatOfInt .f32 n) y == some .eq) with
    | false =>
      go_enter Tryd.func61, Tryd.ntmps61
      go_wp2
      go_ret
      exact ⟨rfl, Drw.refl _⟩
    | true =>
      go_enter Tryd.func61, Tryd.ntmps61
      go_wp2
      go_ret
      exact ⟨rfl, Drw.refl _⟩
/-- is it a place of a tile -/
def placeB (cx cy : Nat) (deep size : Int) : Bool := inB deep 0 10 && inB size 1 8 && Flo.wholeB cx deep.toNat && Flo.wholeB cy deep.toNat
theorem placeB_bd {cx cy : Nat} {deep size : Int} (h : placeB cx cy deep size = true) : 0 ≤ deep ∧ deep ≤ 10 ∧ 1 ≤ size ∧ size ≤ 8 := by
  unfold placeB inB at h
  simp only [Bool.and_eq_true, decide_eq_true_eq] at h
  omega
set_option maxHeartbeats 1000000 in
theorem l7Place_is (cx cy : Nat) (deep size : Int) (hx : cx < 4294967296) (hy : cy < 4294967296) (w : World) : Calls Tryd.prog 39 #[.complex .f32 cx cy, .int .i64 deep, .int .i64 size] w fun e w' => e = .returned (.bool (placeB cx cy deep size)) ∧ Drw w w' := by
  unfold placeB
  cases h1 : inB deep 0 10 with
  | false =>
    go_enter Tryd.func39, Tryd.ntmps39
    go_wp2_with (go_at_call 22; refine (l6In_any _ _ _ _).mono ?_; rintro e w' ⟨rfl, rfl⟩)
    go_ret
    exact ⟨rfl, Drw.refl _⟩
  | true =>
    cases h2 : inB size 1 8 with
    | false =>
      go_enter Tryd.func39, Tryd.ntmps39
      go_wp2_with (go_at_call 22; refine (l6In_any _ _ _ _).mono ?_; rintro e w' ⟨rfl, rfl⟩)
      go_ret
      exact ⟨rfl, Drw.refl _⟩
    | true =>
      obtain ⟨d, rfl, hd⟩ : ∃ d : Nat, deep = d ∧ d ≤ 11 := by
        unfold inB at h1
        simp only [Bool.and_eq_true, decide_eq_true_eq] at h1
        exact ⟨deep.toNat, by omega, by omega⟩
      rw [Int.toNat_natCast]
      have HX := Lib.hid (fun w => l7Whole_is cx d hx hd w)
      have HY := Lib.hid (fun w => l7Whole_is cy d hy hd w)
      cases h3 : Flo.wholeB cx d with
      | false =>
        rw [h3] at HX
        go_enter Tryd.func39, Tryd.ntmps39
        go_wp2_with (first | (go_at_call 22; refine (l6In_any _ _ _ _).mono ?_; rintro e w' ⟨rfl, rfl⟩) | (go_at_call 61; refine (HX.out _).mono ?_; rintro e w1 ⟨rfl, d1⟩; have H1 := Lib.hid d1; clear d1))
        go_ret
        exact ⟨rfl, H1.out⟩
      | true =>
        rw [h3] at HX
        cases h4 : Flo.wholeB cy d with
        | false =>
          rw [h4] at HY
          go_enter Tryd.func39, Tryd.ntmps39
          go_wp2_with (first | (go_at_call 22; refine (l6In_any _ _ _ _).mono ?_; rintro e w' ⟨rfl, rfl⟩) | (go_at_call 61; refine (HX.out _).mono ?_; rintro e w1 ⟨rfl, d1⟩; have H1 := Lib.hid d1; clear d1 HX) | (go_at_call 61; refine (HY.out _).mono ?_; rintro e w2 ⟨rfl, d1⟩; have H2 := Lib.hid (H1.out.trans d1); clear d1))
          go_ret
          exact ⟨rfl, H2.out⟩
        | true =>
          rw [h4] at HY
          go_enter Tryd.func39, Tryd.ntmps39
          go_wp2_with (first | (go_at_call 22; refine (l6In_any _ _ _ _).mono ?_; rintro e w' ⟨rfl, rfl⟩) | (go_at_call 61; refine (HX.out _).mono ?_; rintro e w1 ⟨rfl, d1⟩; have H1 := Lib.hid d1; clear d1 HX) | (go_at_call 61; refine (HY.out _).mono ?_; rintro e w2 ⟨rfl, d1⟩; have H2 := Lib.hid (H1.out.trans d1); clear d1))
          go_ret
          exact ⟨rfl, H2.out⟩
end Go.Proofs.YtdfoobemgdiobaaDoor
