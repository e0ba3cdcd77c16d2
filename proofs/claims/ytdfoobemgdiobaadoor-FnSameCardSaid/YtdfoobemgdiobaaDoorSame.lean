/- Walks of the comparisons of floats in the laws. -/
import Derived.Test.YtdfoobemgdiobaaDoorRows
import Derived.Test.YtdfoobemgdiobaaDoorBase
import Derived.Test.YtdfoobemgdiobaaDoorFlo
import Derived.Test.YtdfoobemgdiobaaDoorFloA
namespace Go.Proofs.YtdfoobemgdiobaaDoor
open Go.RowKit

theorem run_convert_nan64 (src dst : TypeId) (hs : (Tryd.prog.underlying src).isSome = true) (hd : Tryd.prog.underlying dst = some (.float .f64)) {b : Nat} (h : Flo.nan .f32 b = true) (w : World) :
    ∃ y, (convert src dst (.float .f32 b)).run Tryd.prog w = .ok (.float .f64 y) w.drew ∧ Flo.nan .f64 y = true :=
  ⟨_, Flo.run_convert_nan src dst .f32 .f64 b (by decide) hs hd h w, Flo.nanC_nan _ _ _⟩
set_option maxHeartbeats 400000 in
theorem alikeFloat_refl (a : Nat) (h : Flo.nan .f64 a = false) (w : World) :
    Calls Tryd.prog 41 #[.float .f64 a, .float .f64 a] w fun e w' => e = .returned (.bool true) ∧ w = w' := by
  obtain ⟨r, hr, hr2⟩ := Flo.quo_number Flo.one64 h
  have hs : (FloatKind.f64.format.order a a == some .eq) = true := by rw [Flo.order_self h]; rfl
  have hs' : (FloatKind.f64.format.order a a != some .eq) = false := by rw [Flo.order_self h]; rfl
  have hq := fun w => run_float_arith (P := Tryd.prog) w .quo 55 .f64 _ _ _ hr
  have hz : (FloatKind.f64.format.order r r == some .eq) = true := by rw [Flo.order_self hr2]; rfl
  clear h hr hr2
  go_enter Tryd.func41, Tryd.ntmps41
  go_wp2
  go_ret
  exact ⟨rfl, rfl⟩
set_option maxHeartbeats 400000 in
theorem alikeFloat_nan (a b : Nat) (ha : Flo.nan .f64 a = true) (hb : Flo.nan .f64 b = true) (w : World) :
    Calls Tryd.prog 41 #[.float .f64 a, .float .f64 b] w fun e w' => e = .returned (.bool true) ∧ w = w' := by
  have h1 : (FloatKind.f64.format.order a a != some .eq) = true := by rw [Flo.order_nan_left a ha]; rfl
  have h2 : (FloatKind.f64.format.order b b != some .eq) = true := by rw [Flo.order_nan_left b hb]; rfl
  clear ha hb
  go_enter Tryd.func41, Tryd.ntmps41
  go_wp2
  go_ret
  exact ⟨rfl, rfl⟩
end Go.Proofs.YtdfoobemgdiobaaDoor
