/- Walks of the reference's tiles, their floats: sides, points, boxes. -/
import Derived.Test.YtdfoobemgdiobaaDoorFloB
import Derived.Test.YtdfoobemgdiobaaDoorFloP
import Derived.Test.YtdfoobemgdiobaaDoorBoxS
namespace Go.Proofs.YtdfoobemgdiobaaDoor
open Go.RowKit

theorem side_bits (d : Nat) (h : d ≤ 11) : floatBits .quo .f32 1065353216 (floatOfInt .f32 (wrap64 (2 ^ d))) = some (Flo.sideF d) := by
  rcases (by omega : d = 0 ∨ d = 1 ∨ d = 2 ∨ d = 3 ∨ d = 4 ∨ d = 5 ∨ d = 6 ∨ d = 7 ∨ d = 8 ∨ d = 9 ∨ d = 10 ∨ d = 11) with rfl | rfl | rfl | rfl | rfl | rfl | rfl | rfl | rfl | rfl | rfl | rfl <;> kernel_rfl
set_option maxHeartbeats 400000 in
theorem l7Side_is (d : Nat) (hd : d ≤ 11) (w : World) : Calls Tryd.prog 40 #[.int .i64 d] w fun e w' => e = .returned (.float .f32 (Flo.sideF d)) ∧ w = w' := by
  obtain ⟨q, hq⟩ : ∃ q : Int, wrap64 (2 ^ d) = q := ⟨_, rfl⟩
  have hz : ∀ w, (binOp .quo 66 (.float .f32 1065353216) (.float .f32 (floatOfInt .f32 q))).run Tryd.prog w = .ok (.float .f32 (Flo.sideF d)) w := fun w =>
    run_float_arith w _ _ _ _ _ _ (by rw [← hq]; exact side_bits d hd)
  generalize Flo.sideF d = r at *
  go_enter Tryd.func40, Tryd.ntmps40
  go_wp2
  go_ret
  exact ⟨rfl, rfl⟩
set_option maxHeartbeats 400000 in
theorem sideOf_is (d : Nat) (hd : d ≤ 11) (w : World) : Calls Tryd.prog 38 #[.int .i64 d] w fun e w' => e = .returned (.float .f32 (Flo.sideF d)) ∧ w = w' := by
  obtain ⟨q, hq⟩ : ∃ q : Int, wrap64 (2 ^ d) = q := ⟨_, rfl⟩
  have hz : ∀ w, (binOp .quo 66 (.float .f32 1065353216) (.float .f32 (floatOfInt .f32 q))).run Tryd.prog w = .ok (.float .f32 (Flo.sideF d)) w := fun w =>
    run_float_arith w _ _ _ _ _ _ (by rw [← hq]; exact side_bits d hd)
  generalize Flo.sideF d = r at *
  go_enter Tryd.func38, Tryd.ntmps38
  go_wp2
  go_ret
  exact ⟨rfl, rfl⟩
set_option maxHeartbeats 400000 in
theorem l7Point_any (cx cy d : Nat) (i j : Int) (hd : d ≤ 11) (w : World) :
    Calls Tryd.prog 23 #[.complex .f32 cx cy, .int .i64 d, .int .i64 i, .int .i64 j] w fun e w' => (∃ x y, e = .returned (.complex .f32 x y) ∧ x < 4294967296 ∧ y < 4294967296) ∧ Drw w w' := by
  obtain ⟨x1, w1, h1, hx1, d1⟩ := Flo.arith_any (P := Tryd.prog) .mul (by simp) 66 .f32 (floatOfInt .f32 j) (Flo.sideF d) w
  obtain ⟨x2, w2, h2, hx2, d2⟩ := Flo.arith_any (P := Tryd.prog) .mul (by simp) 66 .f32 (floatOfInt .f32 i) (Flo.sideF d) w1
  obtain ⟨x, y, w3, h3, hx, hy, d3⟩ := Flo.csum_any (P := Tryd.prog) .add (by simp) 23 .f32 cx cy x1 x2 w2
  have HD := Lib.hid ((d1.trans d2).trans d3)
  have HS := Lib.hid (fun w => l7Side_is d hd w)
  clear d1 d2 d3
  generalize Flo.sideF d = r at *
  go_enter Tryd.func23, Tryd.ntmps23
  go_wp2_with (go_at_call 40; refine (HS.out _).mono ?_; rintro e w' ⟨rfl, rfl⟩)
  go_ret
  exact ⟨⟨x, y, rfl, hx, hy⟩, HD.out⟩
set_option maxRecDepth 100000 in
set_option maxHeartbeats 1000000 in
theorem l4Steps_any (x : Nat) (hx : x < 4294967296) (w : World) :
    Calls Tryd.prog 78 #[.float .f32 x] w fun e w' => (∃ (a b : Int) (t : Bool), e = .returned (.tuple #[.int .i64 a, .int .i64 b, .bool t])) ∧ Drw w w' := by
  obtain ⟨x1, w1, h1, hx1, d1⟩ := Flo.convert_any (P := Tryd.prog) 66 55 .f32 .f64 (by kernel_rfl) Tryd.underlying55 x hx w
  obtain ⟨y, w2, h2, hy, d2⟩ := Flo.arith_any (P := Tryd.prog) .mul (by simp) 55 .f64 x1 4715268809856909312 w1
  obtain ⟨n, w3, h3, d3⟩ := Flo.toInt_any (P := Tryd.prog) 55 3 .f64 (by kernel_rfl) Tryd.underlying3 y w2
  have HD2 := Lib.hid (d1.trans d2)
  have HD := Lib.hid ((d1.trans d2).trans d3)
  clear d1 d2 d3 hx hx1 hy
  cases b1 : (FloatKind.f64.format.order y 13952151645593796608 == some .gt || FloatKind.f64.format.order y 13952151645593796608 == some .eq) with
  | false =>
    go_enter Tryd.func78, Tryd.ntmps78
    go_wp2
    go_ret3
    exact ⟨⟨_, _, _, rfl⟩, HD2.out⟩
  | true =>
    cases b2 : (FloatKind.f64.format.order y 4728779608739020800 == some .lt || FloatKind.f64.format.order y 4728779608739020800 == some .eq) with
    | false =>
      go_enter Tryd.func78, Tryd.ntmps78
      go_wp2
      go_ret3
      exact ⟨⟨_, _, _, rfl⟩, HD2.out⟩
    | true =>
      go_enter Tryd.func78, Tryd.ntmps78
      go_wp2
      all_goals
        go_ret3
        exact ⟨⟨_, _, _, rfl⟩, HD.out⟩
end Go.Proofs.YtdfoobemgdiobaaDoor
