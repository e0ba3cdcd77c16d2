/- Walks of the reference's orbits of single numbers, for what tiles need of them: they end, with numbers. -/
import Derived.Test.YtdfoobemgdiobaaDoorTilA
namespace Go.Proofs.YtdfoobemgdiobaaDoor
open Go.RowKit

set_option maxHeartbeats 400000 in
theorem specSquare_any (x y : Nat) (w : World) : Calls Tryd.prog 102 #[.complex .f64 x y] w fun e w' => (∃ a b, e = .returned (.complex .f64 a b) ∧ a < 18446744073709551616 ∧ b < 18446744073709551616) ∧ Drw w w' := by
  obtain ⟨x1, w1, h1, _, d1⟩ := Flo.arith_any (P := Tryd.prog) .mul (by simp) 55 .f64 x x w
  obtain ⟨x2, w2, h2, _, d2⟩ := Flo.arith_any (P := Tryd.prog) .mul (by simp) 55 .f64 y y w1
  obtain ⟨a, w3, h3, ha, d3⟩ := Flo.arith_any (P := Tryd.prog) .sub (by simp) 55 .f64 x1 x2 w2
  obtain ⟨x4, w4, h4, _, d4⟩ := Flo.arith_any (P := Tryd.prog) .mul (by simp) 55 .f64 x y w3
  obtain ⟨b, w5, h5, hb, d5⟩ := Flo.arith_any (P := Tryd.prog) .mul (by simp) 55 .f64 4611686018427387904 x4 w4
  have HD := Lib.hid ((((d1.trans d2).trans d3).trans d4).trans d5)
  clear d1 d2 d3 d4 d5
  go_enter Tryd.func102, Tryd.ntmps102
  go_wp2
  go_ret
  exact ⟨⟨a, b, rfl, ha, hb⟩, HD.out⟩
set_option maxHeartbeats 400000 in
theorem specNorm_any (x y : Nat) (w : World) : Calls Tryd.prog 73 #[.complex .f64 x y] w fun e w' => (∃ a, e = .returned (.float .f64 a) ∧ a < 18446744073709551616) ∧ Drw w w' := by
  obtain ⟨x1, w1, h1, _, d1⟩ := Flo.arith_any (P := Tryd.prog) .mul (by simp) 55 .f64 x x w
  obtain ⟨x2, w2, h2, _, d2⟩ := Flo.arith_any (P := Tryd.prog) .mul (by simp) 55 .f64 y y w1
  obtain ⟨a, w3, h3, ha, d3⟩ := Flo.arith_any (P := Tryd.prog) .add (by simp) 55 .f64 x1 x2 w2
  have HD := Lib.hid ((d1.trans d2).trans d3)
  clear d1 d2 d3
  go_enter Tryd.func73, Tryd.ntmps73
  go_wp2
  go_ret
  exact ⟨⟨a, rfl, ha⟩, HD.out⟩
set_option maxHeartbeats 400000 in
theorem squareSingle_any (x y : Nat) (hx : x < 4294967296) (hy : y < 4294967296) (w : World) : Calls Tryd.prog 95 #[.complex .f32 x y] w fun e w' => (∃ a b, e = .returned (.complex .f32 a b) ∧ a < 4294967296 ∧ b < 4294967296) ∧ Drw w w' := by
  obtain ⟨p, q, w1, h1, _, _, d1⟩ := Flo.cconvert_any (P := Tryd.prog) 23 37 .f32 .f64 (by kernel_rfl) Tryd.underlying37 x y hx hy w
  have H1 := Lib.hid d1
  clear d1 hx hy
  go_enter Tryd.func95, Tryd.ntmps95
  go_wp2_with fail
  refine (specSquare_any p q _).mono ?_
  rintro e w2 ⟨⟨a, b, rfl, ha, hb⟩, hd⟩
  obtain ⟨u, v, w3, h3, hu, hv, d3⟩ := Flo.cconvert_any (P := Tryd.prog) 37 23 .f64 .f32 (by kernel_rfl) Tryd.underlying23 a b ha hb w2
  have HD := Lib.hid ((H1.out.trans hd).trans d3)
  clear hd d3 h1 H1
  go_wp2
  go_ret
  exact ⟨⟨u, v, rfl, hu, hv⟩, HD.out⟩
set_option maxHeartbeats 400000 in
theorem specStep_any (x y c d : Nat) (hx : x < 4294967296) (hy : y < 4294967296) (w : World) : Calls Tryd.prog 86 #[.complex .f32 x y, .complex .f32 c d] w fun e w' => (∃ a b, e = .returned (.complex .f32 a b) ∧ a < 4294967296 ∧ b < 4294967296) ∧ Drw w w' := by
  go_enter Tryd.func86, Tryd.ntmps86
  go_wp2_with fail
  refine (squareSingle_any x y hx hy _).mono ?_
  rintro e w2 ⟨⟨a, b, rfl, ha, hb⟩, hd⟩
  obtain ⟨u, v, w3, h3, hu, hv, d3⟩ := Flo.csum_any (P := Tryd.prog) .add (by simp) 23 .f32 a b c d w2
  have HD := Lib.hid (hd.trans d3)
  clear hd d3
  go_wp2
  go_ret
  exact ⟨⟨u, v, rfl, hu, hv⟩, HD.out⟩
set_option maxHeartbeats 2000000 in
theorem l3Escape_any (c d : Nat) (n : Int) (w : World) : Calls Tryd.prog 72 #[.complex .f32 c d, .int .i64 n] w fun e w' => (∃ (k : Int) (a b : Nat), e = .returned (.tuple #[.int .i64 k, .complex .f32 a b]) ∧ a < 4294967296 ∧ b < 4294967296) ∧ Drw w w' := by
  go_enter Tryd.func72, Tryd.ntmps72
  go_wp2
  go_loopw [6, 7] (fun z i wr => ∃ k x y : Nat, k ≤ 401 ∧ i = .int .i64 k ∧ z = .complex .f32 x y ∧ x < 4294967296 ∧ y < 4294967296 ∧ Hid (Drw w wr)) (fun _ i _ => (401 - intOf i).toNat)
  case atStart => exact ⟨0, 0, 0, by omega, rfl, rfl, by omega, by omega, Drw.refl _⟩
  case round =>
    obtain ⟨k, x, y, hk, rfl, rfl, hx, hy, HD⟩ := hrel
    obtain ⟨wo, rfl⟩ : ∃ wo, wo = wr := ⟨_, rfl⟩
    go_wp2_with fail
    refine (l3Most_any n _).mono ?_
    rintro e w1 ⟨⟨r, rfl, r0, r1⟩, rfl⟩
    by_cases hkr : (k : Int) ≤ r
    · obtain ⟨p, q, w1, h1, _, _, d1⟩ := Flo.cconvert_any (P := Tryd.prog) 23 37 .f32 .f64 (by kernel_rfl) Tryd.underlying37 x y hx hy wo
      have H1 := Lib.hid (HD.out.trans d1)
      clear d1
      go_wp2_with fail
      refine (specNorm_any p q _).mono ?_
      rintro e w2 ⟨⟨m, rfl, hm⟩, hd⟩
      have H2 := Lib.hid (H1.out.trans hd)
      clear hd H1 HD h1
      cases hb : (FloatKind.f64.format.order m 4616189618054758400 == some .lt || FloatKind.f64.format.order m 4616189618054758400 == some .eq) with
      | false =>
        go_wp2
        go_ret2
        exact ⟨⟨_, x, y, rfl, hx, hy⟩, H2.out⟩
      | true =>
        go_wp2_with fail
        refine (specStep_any x y c d hx hy _).mono ?_
        rintro e w3 ⟨⟨a, b, rfl, ha, hb'⟩, hd⟩
        have H3 := Lib.hid (H2.out.trans hd)
        clear hd H2
        go_wp2
        go_roundw
        case rel => exact ⟨k + 1, a, b, by omega, by go_num, rfl, ha, hb', H3⟩
        case measure => simp [intOf]; omega
    · go_wp2
      go_ret2
      exact ⟨⟨_, x, y, rfl, hx, hy⟩, HD.out⟩
set_option maxRecDepth 100000 in
set_option maxHeartbeats 1000000 in
theorem specSmooth_any (c d : Nat) (n : Int) (w : World) : Calls Tryd.prog 59 #[.complex .f32 c d, .int .i64 n] w fun e w' => (∃ a, e = .returned (.float .f32 a) ∧ a < 4294967296) ∧ Drw w w' := by
  go_enter Tryd.func59, Tryd.ntmps59
  go_wp2_with fail
  refine (l3Escape_any c d n _).mono ?_
  rintro e w1 ⟨⟨k, a, b, rfl, ha, hb⟩, hd⟩
  have H1 := Lib.hid hd
  clear hd
  by_cases hk : k < 0
  · go_wp2
    go_ret
    exact ⟨⟨_, rfl, by omega⟩, H1.out⟩
  · obtain ⟨p, q, w2, h2, _, _, d2⟩ := Flo.cconvert_any (P := Tryd.prog) 23 37 .f32 .f64 (by kernel_rfl) Tryd.underlying37 a b ha hb w1
    have H2 := Lib.hid (H1.out.trans d2)
    clear d2 H1
    go_wp2_with fail
    refine (specNorm_any p q _).mono ?_
    rintro e w3 ⟨⟨m, rfl, hm⟩, hd⟩
    obtain ⟨x1, w4, h4, _, d4⟩ := Flo.convert_any (P := Tryd.prog) 55 66 .f64 .f32 (by kernel_rfl) Tryd.underlying66 m hm w3
    obtain ⟨x2, w5, h5, _, d5⟩ := Flo.arith_any (P := Tryd.prog) .quo (by simp) 66 .f32 1082130432 x1 w4
    obtain ⟨x3, w6, h6, hx3, d6⟩ := Flo.arith_any (P := Tryd.prog) .add (by simp) 66 .f32 (floatOfInt .f32 k) x2 w5
    have H3 := Lib.hid ((((H2.out.trans hd).trans d4).trans d5).trans d6)
    clear hd d4 d5 d6 H2 h2 hm
    go_wp2
    go_ret
    exact ⟨⟨_, rfl, hx3⟩, H3.out⟩
end Go.Proofs.YtdfoobemgdiobaaDoor
