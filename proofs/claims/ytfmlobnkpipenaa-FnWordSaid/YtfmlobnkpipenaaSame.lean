/- Walks of the comparisons of floats in the laws. -/
import Derived.Test.YtfmlobnkpipenaaRows
import Derived.Test.YtfmlobnkpipenaaBase
import Derived.Test.YtfmlobnkpipenaaFlo
import Derived.Test.YtfmlobnkpipenaaFloA
namespace Go.Proofs.Ytfmlobnkpipenaa
open Go.RowKit

set_option maxHeartbeats 400000 in
theorem sameFloat_refl (a : Nat) (h : Flo.nan .f64 a = false) (w : World) :
    Calls Try.prog 13 #[.float .f64 a, .float .f64 a] w fun e w' => e = .returned (.bool true) ∧ w = w' := by
  have hs : (FloatKind.f64.format.order a a == some .eq) = true := by rw [Flo.order_self h]; rfl
  have hs' : (FloatKind.f64.format.order a a != some .eq) = false := by rw [Flo.order_self h]; rfl
  clear h
  by_cases h0 : FloatKind.f64.format.order a 0 = some .eq
  · obtain ⟨r, hr⟩ := Flo.quo_zero Flo.one64 h0
    have hq := fun w => run_float_arith (P := Try.prog) w .quo 28 .f64 _ _ _ hr
    have hz : (FloatKind.f64.format.order a 0 == some .eq) = true := by rw [h0]; rfl
    clear h0 hr
    go_enter Try.func13, Try.ntmps13
    go_wp2
    go_ret
    exact ⟨by simp, rfl⟩
  · have hz : (FloatKind.f64.format.order a 0 == some .eq) = false := by simpa using h0
    clear h0
    go_enter Try.func13, Try.ntmps13
    go_wp2
    go_ret
    exact ⟨rfl, rfl⟩
set_option maxHeartbeats 400000 in
theorem sameFloat_nan (a b : Nat) (ha : Flo.nan .f64 a = true) (hb : Flo.nan .f64 b = true) (w : World) :
    Calls Try.prog 13 #[.float .f64 a, .float .f64 b] w fun e w' => e = .returned (.bool true) ∧ w = w' := by
  have h1 : (FloatKind.f64.format.order a a != some .eq) = true := by rw [Flo.order_nan_left a ha]; rfl
  have h2 : (FloatKind.f64.format.order b b != some .eq) = true := by rw [Flo.order_nan_left b hb]; rfl
  clear ha hb
  go_enter Try.func13, Try.ntmps13
  go_wp2
  go_ret
  exact ⟨rfl, rfl⟩
set_option maxHeartbeats 400000 in
theorem alikeFloat_refl (a : Nat) (h : Flo.nan .f64 a = false) (w : World) :
    Calls Try.prog 40 #[.float .f64 a, .float .f64 a] w fun e w' => e = .returned (.bool true) ∧ w = w' := by
  obtain ⟨r, hr, hr2⟩ := Flo.quo_number Flo.one64 h
  have hs : (FloatKind.f64.format.order a a == some .eq) = true := by rw [Flo.order_self h]; rfl
  have hs' : (FloatKind.f64.format.order a a != some .eq) = false := by rw [Flo.order_self h]; rfl
  have hq := fun w => run_float_arith (P := Try.prog) w .quo 28 .f64 _ _ _ hr
  have hz : (FloatKind.f64.format.order r r == some .eq) = true := by rw [Flo.order_self hr2]; rfl
  clear h hr hr2
  go_enter Try.func40, Try.ntmps40
  go_wp2
  go_ret
  exact ⟨rfl, rfl⟩
set_option maxHeartbeats 400000 in
theorem sameSmall_refl (x : Nat) (hx : x < 4294967296) (h : Flo.nan .f32 x = false) (w : World) :
    Calls Try.prog 20 #[.float .f32 x, .float .f32 x] w fun e w' => e = .returned (.bool true) ∧ w = w' := by
  obtain ⟨y, hy, hy2⟩ := Flo.widen_any (by rw [Flo.pow32]; exact hx) h
  have hc := fun w => run_convert_float_float (P := Try.prog) w 22 28 .f32 .f64 x y (by kernel_rfl) Try.underlying28 hy
  have H := Lib.hid (alikeFloat_refl y hy2)
  clear hy hy2 h
  go_enter Try.func20, Try.ntmps20
  go_wp2_with (go_at_call 40; refine (H.out _).mono ?_; rintro e w' ⟨rfl, rfl⟩)
  go_ret
  exact ⟨rfl, rfl⟩
end Go.Proofs.Ytfmlobnkpipenaa
