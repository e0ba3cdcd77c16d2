/- Walks of what draws places of tiles. -/
import Derived.Test.YtdfoobemgdiobaaDoorRdF
import Derived.Test.YtdfoobemgdiobaaDoorFloB
namespace Go.Proofs.YtdfoobemgdiobaaDoor
open Go.RowKit

set_option maxHeartbeats 1000000 in
theorem wide_any (w0 : World) (b p : Nat) (hp : p ≤ 1099511626000) (W : World) (h : Rd w0 b p W) :
    Calls Tryd.prog 66 #[.pointer (some ⟨b, 0, none⟩)] W fun e w' => (∃ x y, e = .returned (.complex .f64 x y) ∧ x < 18446744073709551616 ∧ y < 18446744073709551616) ∧ (∃ p', p' ≤ p + 6 ∧ Rd w0 b p' w') ∧ Only b W w' := by
  go_enter Tryd.func66, Tryd.ntmps66
  go_wp2_with fail
  refine (part_any w0 b p (by omega) _ h).mono ?_
  rintro e w1 ⟨⟨x, rfl, hx⟩, ⟨p1, hp1, hR⟩, hO⟩
  have HO := Lib.hid hO
  clear hO h
  go_wp2_with fail
  refine (part_any w0 b p1 (by omega) _ hR).mono ?_
  rintro e w2 ⟨⟨y, rfl, hy⟩, ⟨p2, hp2, hR2⟩, hO2⟩
  have HR2 := Lib.hid hR2
  have HO2 := Lib.hid (HO.out.trans hO2)
  clear hO2 hR hR2
  go_wp2
  go_ret
  exact ⟨⟨x, y, rfl, hx, hy⟩, ⟨p2, by omega, HR2.out⟩, HO2.out⟩
set_option maxRecDepth 100000 in
set_option maxHeartbeats 4000000 in
theorem corner_any (w0 : World) (b p d : Nat) (hd : d ≤ 4) (hp : p ≤ 1099511620000) (W : World) (h : Rd w0 b p W) :
    Calls Tryd.prog 56 #[.pointer (some ⟨b, 0, none⟩), .int .i64 d] W fun e w' => (∃ x y, e = .returned (.complex .f32 x y) ∧ x < 4294967296 ∧ y < 4294967296) ∧ (∃ p', p' ≤ p + 10 ∧ Rd w0 b p' w') ∧ Only b W w' := by
  obtain ⟨q, hq⟩ : ∃ q : Int, wrap64 (2 ^ d) = q := ⟨_, rfl⟩
  have hqb : 1 ≤ q ∧ q ≤ 16 := by
    rcases (by omega : d = 0 ∨ d = 1 ∨ d = 2 ∨ d = 3 ∨ d = 4) with rfl | rfl | rfl | rfl | rfl
    · have : wrap64 (2 ^ 0) = 1 := by kernel_rfl
      omega
    · have : wrap64 (2 ^ 1) = 2 := by kernel_rfl
      omega
    · have : wrap64 (2 ^ 2) = 4 := by kernel_rfl
      omega
    · have : wrap64 (2 ^ 3) = 8 := by kernel_rfl
      omega
    · have : wrap64 (2 ^ 4) = 16 := by kernel_rfl
      omega
  obtain ⟨q1, q2⟩ := hqb
  obtain ⟨u, hu⟩ : ∃ u, (5 * q) % 251 = u := ⟨_, rfl⟩
  obtain ⟨v, hv⟩ : ∃ v, (3 * q) % 251 = v := ⟨_, rfl⟩
  have u1 : 0 ≤ u := by omega
  have u2 : u ≤ 251 := by omega
  have v1 : 0 ≤ v := by omega
  have v2 : v ≤ 251 := by omega
  go_enter Tryd.func56, Tryd.ntmps56
  go_wp2_with fail
  refine (pick_any w0 b p (u + 1) (by omega) (by omega) _ h).mono ?_
  rintro e w1 ⟨⟨r, rfl, r0, r1⟩, hR, hO⟩
  obtain ⟨x1, w1', h1, _, d1⟩ := Flo.arith_any (P := Tryd.prog) .quo (by simp) 66 .f32 (floatOfInt .f32 r) (floatOfInt .f32 q) w1
  have HR := Lib.hid (hR.drw d1)
  have HO := Lib.hid (hO.trans (Only.of_below (d1.below _)))
  clear hR hO d1 h
  go_wp2_with fail
  refine (pick_any w0 b (p + 1) (v + 1) (by omega) (by omega) _ HR.out).mono ?_
  rintro e w2 ⟨⟨r', rfl, r0', r1'⟩, hR, hO⟩
  obtain ⟨x2, w2', h2, _, d2⟩ := Flo.arith_any (P := Tryd.prog) .quo (by simp) 66 .f32 (floatOfInt .f32 r') (floatOfInt .f32 q) w2
  have HR2 := Lib.hid (hR.drw d2)
  have HO2 := Lib.hid (HO.out.trans (hO.trans (Only.of_below (d2.below _))))
  clear hR hO d2 h1 HR HO
  go_wp2_with fail
  refine (pick_any w0 b (p + 1 + 1) 20 (by omega) (by omega) _ HR2.out).mono ?_
  rintro e w3 ⟨⟨r3, rfl, r30, r31⟩, hR, hO⟩
  have HR3 := Lib.hid hR
  have HO3 := Lib.hid (HO2.out.trans hO)
  clear hR hO h2 HR2 HO2 hq hu hv
  by_cases h3 : r3 = 0
  · subst h3
    go_wp2_with fail
    refine (wide_any w0 b (p + 1 + 1 + 1) (by omega) _ HR3.out).mono ?_
    rintro e w4 ⟨⟨x, y, rfl, hx, hy⟩, ⟨p4, hp4, hR⟩, hO⟩
    obtain ⟨a, c, w5, h5, ha, hc, d5⟩ := Flo.cconvert_any (P := Tryd.prog) 37 23 .f64 .f32 (by kernel_rfl) Tryd.underlying23 x y hx hy w4
    have HR5 := Lib.hid (hR.drw d5)
    have HO5 := Lib.hid (HO3.out.trans (hO.trans (Only.of_below (d5.below _))))
    clear hR hO d5 hx hy HR3 HO3
    go_wp2
    go_ret
    exact ⟨⟨a, c, rfl, ha, hc⟩, ⟨p4, by omega, HR5.out⟩, HO5.out⟩
  · have h3' : (r3 == 0) = false := by simpa using h3
    obtain ⟨x3, w4, h4, hx3, d4⟩ := Flo.arith_any (P := Tryd.prog) .sub (by simp) 66 .f32 x1 1073741824 w3
    obtain ⟨x4, w5, h5, _, d5⟩ := Flo.arith_any (P := Tryd.prog) .sub (by simp) 66 .f32 x2 1069547520 w4
    have HR5 := Lib.hid (HR3.out.drw (d4.trans d5))
    have HO5 := Lib.hid (HO3.out.trans (Only.of_below ((d4.trans d5).below _)))
    clear d4 d5 HR3 HO3
    go_wp2_with fail
    refine (pick_any w0 b (p + 1 + 1 + 1) 2 (by omega) (by omega) _ HR5.out).mono ?_
    rintro e w6 ⟨⟨r6, rfl, r60, r61⟩, hR, hO⟩
    obtain ⟨x5, w7, h7, _, d7⟩ := Flo.arith_any (P := Tryd.prog) .mul (by simp) 66 .f32 1056964608 (floatOfInt .f32 r6) w6
    obtain ⟨x6, w8, h8, hx6, d8⟩ := Flo.arith_any (P := Tryd.prog) .add (by simp) 66 .f32 x4 x5 w7
    have HR8 := Lib.hid (hR.drw (d7.trans d8))
    have HO8 := Lib.hid (HO5.out.trans (hO.trans (Only.of_below ((d7.trans d8).below _))))
    clear hR hO d7 d8 HR5 HO5 h4 h5
    go_wp2
    go_ret
    exact ⟨⟨x3, x6, rfl, hx3, hx6⟩, ⟨p + 1 + 1 + 1 + 1, by omega, HR8.out⟩, HO8.out⟩
set_option maxRecDepth 100000 in
set_option maxHeartbeats 4000000 in
theorem place_any (w0 : World) (b p : Nat) (hp : p ≤ 1099511610000) (W : World) (h : Rd w0 b p W) :
    Calls Tryd.prog 35 #[.pointer (some ⟨b, 0, none⟩)] W fun e w' => (∃ (x y : Nat) (d s m : Int), e = .returned (.tuple #[.complex .f32 x y, .int .i64 d, .int .i64 s, .int .i64 m]) ∧ x < 4294967296 ∧ y < 4294967296 ∧ 1 ≤ m ∧ m ≤ 31) ∧ (∃ p', p' ≤ p + 20 ∧ Rd w0 b p' w') ∧ Only b W w' := by
  go_enter Tryd.func35, Tryd.ntmps35
  go_wp2_with fail
  refine (pick_any w0 b p 5 (by omega) (by omega) _ h).mono ?_
  rintro e w1 ⟨⟨r, rfl, r0, r1⟩, hR, hO⟩
  have HO := Lib.hid hO
  obtain ⟨d, rfl⟩ := Int.eq_ofNat_of_zero_le r0
  have hd : d ≤ 4 := by omega
  clear h hO r0 r1
  go_wp2_with fail
  refine (corner_any w0 b (p + 1) d hd (by omega) _ hR).mono ?_
  rintro e w2 ⟨⟨x, y, rfl, hx, hy⟩, ⟨p2, hp2, hR2⟩, hO⟩
  have HO2 := Lib.hid (HO.out.trans hO)
  clear hO HO hR
  go_wp2_with fail
  refine (pick_any w0 b p2 4 (by omega) (by omega) _ hR2).mono ?_
  rintro e w3 ⟨⟨s, rfl, s0, s1⟩, hR3, hO⟩
  have HO3 := Lib.hid (HO2.out.trans hO)
  clear hO HO2 hR2
  go_wp2_with fail
  refine (pick_any w0 b (p2 + 1) 24 (by omega) (by omega) _ hR3).mono ?_
  rintro e w4 ⟨⟨k, rfl, k0, k1⟩, hR4, hO⟩
  have HO4 := Lib.hid (HO3.out.trans hO)
  have HK := Lib.hid (pick_any w0 b (p2 + 1 + 1) 30 (by omega) (by omega) w4 hR4)
  clear hO HO3 hR3 hR4
  have fin : ∀ (x y : Nat) (d s m : Int) w', x < 4294967296 → y < 4294967296 → 0 ≤ m → (m < 30 ∨ m = 0) → Rd w0 b (p2 + 1 + 1 + 1) w' → Only b w4 w' → (∃ (x' y' : Nat) (d' s' m' : Int), Ending.returned (.tuple #[.complex .f32 x y, .int .i64 d, .int .i64 s, .int .i64 (1 + m)]) = .returned (.tuple #[.complex .f32 x' y', .int .i64 d', .int .i64 s', .int .i64 m']) ∧ x' < 4294967296 ∧ y' < 4294967296 ∧ 1 ≤ m' ∧ m' ≤ 31) ∧ (∃ p', p' ≤ p + 20 ∧ Rd w0 b p' w') ∧ Only b W w' :=
    fun x y d s m w' h1 h2 h3 h4 h5 h6 => ⟨⟨x, y, d, s, 1 + m, rfl, h1, h2, by omega, by omega⟩, ⟨_, by omega, h5⟩, HO4.out.trans h6⟩
  have HF := Lib.hid fin
  clear fin
  by_cases c0 : k = 0
  · subst c0
    go_wp2_with fail
    refine HK.out.mono ?_
    rintro e w5 ⟨⟨m, rfl, m0, m1⟩, hR5, hO⟩
    have H5 := Lib.hid (And.intro hR5 hO)
    clear hR5 hO
    go_wp2
    exact bodyPost_ret (v := .tuple #[.complex .f32 x y, .int .i64 d, .int .i64 9, .int .i64 (1 + m)]) (by simp [results, Tryd.f35, go_sem]) rfl (HF.out _ _ _ _ _ _ hx hy m0 m1 H5.out.1 H5.out.2)
  by_cases c1 : k = 1
  · subst c1
    go_wp2_with fail
    refine HK.out.mono ?_
    rintro e w5 ⟨⟨m, rfl, m0, m1⟩, hR5, hO⟩
    have H5 := Lib.hid (And.intro hR5 hO)
    clear hR5 hO
    go_wp2
    exact bodyPost_ret (v := .tuple #[.complex .f32 x y, .int .i64 11, .int .i64 (1 + s), .int .i64 (1 + m)]) (by simp [results, Tryd.f35, go_sem]) rfl (HF.out _ _ _ _ _ _ hx hy m0 m1 H5.out.1 H5.out.2)
  by_cases c2 : k = 2
  · subst c2
    go_wp2_with fail
    refine HK.out.mono ?_
    rintro e w5 ⟨⟨m, rfl, m0, m1⟩, hR5, hO⟩
    have H5 := Lib.hid (And.intro hR5 hO)
    clear hR5 hO
    go_wp2
    exact bodyPost_ret (v := .tuple #[.complex .f32 1082130432 1082130432, .int .i64 d, .int .i64 (1 + s), .int .i64 (1 + m)]) (by simp [results, Tryd.f35, go_sem]) rfl (HF.out _ _ _ _ _ _ (by omega) (by omega) m0 m1 H5.out.1 H5.out.2)
  have g0 : (k == 0) = false := by simpa using c0
  have g1 : (k == 1) = false := by simpa using c1
  have g2 : (k == 2) = false := by simpa using c2
  go_wp2_with fail
  refine HK.out.mono ?_
  rintro e w5 ⟨⟨m, rfl, m0, m1⟩, hR5, hO⟩
  have H5 := Lib.hid (And.intro hR5 hO)
  clear hR5 hO
  go_wp2
  exact bodyPost_ret (v := .tuple #[.complex .f32 x y, .int .i64 d, .int .i64 (1 + s), .int .i64 (1 + m)]) (by simp [results, Tryd.f35, go_sem]) rfl (HF.out _ _ _ _ _ _ hx hy m0 m1 H5.out.1 H5.out.2)
end Go.Proofs.YtdfoobemgdiobaaDoor
