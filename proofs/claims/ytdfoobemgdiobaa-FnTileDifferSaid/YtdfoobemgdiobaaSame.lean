/- Walks of the comparisons of floats in the laws. -/
import Derived.Test.YtdfoobemgdiobaaRows
import Derived.Test.YtdfoobemgdiobaaBase
import Derived.Test.YtdfoobemgdiobaaFlo
import Derived.Test.YtdfoobemgdiobaaFloA
namespace Go.Proofs.Ytdfoobemgdiobaa
open Go.RowKit

theorem run_convert_nan64 (src dst : TypeId) (hs : (Try.prog.underlying src).isSome = true) (hd : Try.prog.underlying dst = some (.float .f64)) {b : Nat} (h : Flo.nan .f32 b = true) (w : World) :
    ∃ y, (convert src dst (.float .f32 b)).run Try.prog w = .ok (.float .f64 y) w.drew ∧ Flo.nan .f64 y = true :=
  ⟨_, Flo.run_convert_nan src dst .f32 .f64 b (by decide) hs hd h w, Flo.nanC_nan _ _ _⟩
set_option maxHeartbeats 400000 in
theorem alikeFloat_refl (a : Nat) (h : Flo.nan .f64 a = false) (w : World) :
    Calls Try.prog 52 #[.float .f64 a, .float .f64 a] w fun e w' => e = .returned (.bool true) ∧ w = w' := by
  obtain ⟨r, hr, hr2⟩ := Flo.quo_number Flo.one64 h
  have hs : (FloatKind.f64.format.order a a == some .eq) = true := by rw [Flo.order_self h]; rfl
  have hs' : (FloatKind.f64.format.order a a != some .eq) = false := by rw [Flo.order_self h]; rfl
  have hq := fun w => run_float_arith (P := Try.prog) w .quo 72 .f64 _ _ _ hr
  have hz : (FloatKind.f64.format.order r r == some .eq) = true := by rw [Flo.order_self hr2]; rfl
  clear h hr hr2
  go_enter Try.func52, Try.ntmps52
  go_wp2
  go_ret
  exact ⟨rfl, rfl⟩
set_option maxHeartbeats 400000 in
theorem sameSmall_refl (x : Nat) (hx : x < 4294967296) (h : Flo.nan .f32 x = false) (w : World) :
    Calls Try.prog 29 #[.float .f32 x, .float .f32 x] w fun e w' => e = .returned (.bool true) ∧ w = w' := by
  obtain ⟨y, hy, hy2⟩ := Flo.widen_any (by rw [Flo.pow32]; exact hx) h
  have hc := fun w => run_convert_float_float (P := Try.prog) w 44 72 .f32 .f64 x y (by kernel_rfl) Try.underlying72 hy
  have H := Lib.hid (alikeFloat_refl y hy2)
  clear hy hy2 h
  go_enter Try.func29, Try.ntmps29
  go_wp2_with (go_at_call 52; refine (H.out _).mono ?_; rintro e w' ⟨rfl, rfl⟩)
  go_ret
  exact ⟨rfl, rfl⟩
set_option maxHeartbeats 400000 in
theorem alikeFloat_nan (a b : Nat) (ha : Flo.nan .f64 a = true) (hb : Flo.nan .f64 b = true) (w : World) :
    Calls Try.prog 52 #[.float .f64 a, .float .f64 b] w fun e w' => e = .returned (.bool true) ∧ w = w' := by
  have h1 : (FloatKind.f64.format.order a a != some .eq) = true := by rw [Flo.order_nan_left a ha]; rfl
  have h2 : (FloatKind.f64.format.order b b != some .eq) = true := by rw [Flo.order_nan_left b hb]; rfl
  clear ha hb
  go_enter Try.func52, Try.ntmps52
  go_wp2
  go_ret
  exact ⟨rfl, rfl⟩
set_option maxHeartbeats 400000 in
theorem sameSmall_self (x : Nat) (hx : x < 4294967296) (w : World) :
    Calls Try.prog 29 #[.float .f32 x, .float .f32 x] w fun e w' => e = .returned (.bool true) ∧ Drw w w' := by
  by_cases h : Flo.nan .f32 x = true
  · have h1 := run_convert_nan64 44 72 (by kernel_rfl) Try.underlying72 h w
    have h2 := run_convert_nan64 44 72 (by kernel_rfl) Try.underlying72 h w.drew
    obtain ⟨y, hy, hyn⟩ := h1
    obtain ⟨z, hz, hzn⟩ := h2
    have H := Lib.hid (alikeFloat_nan y z hyn hzn)
    clear hyn hzn h
    go_enter Try.func29, Try.ntmps29
    go_wp2_with (go_at_call 52; refine (H.out _).mono ?_; rintro e w' ⟨rfl, rfl⟩)
    go_ret
    exact ⟨rfl, (Drw.refl w).drew.drew⟩
  · exact (sameSmall_refl x hx (by simpa using h) w).mono fun e w' h => ⟨h.1, Drw.of_eq h.2⟩
end Go.Proofs.Ytdfoobemgdiobaa
