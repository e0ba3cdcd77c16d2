/- The draws of numbers. -/
import Derived.Test.YtdfoobemgdiobaaDoorRd
import Derived.Test.YtdfoobemgdiobaaDoorFloA
namespace Go.Proofs.YtdfoobemgdiobaaDoor
open Go.RowKit

set_option maxHeartbeats 2000000 in
theorem part_any (w0 : World) (b p : Nat) (hp : p ≤ 1099511627000) (W : World) (h : Rd w0 b p W) :
    Calls Tryd.prog 77 #[.pointer (some ⟨b, 0, none⟩)] W fun e w' => (∃ x, e = .returned (.float .f64 x) ∧ x < 18446744073709551616) ∧ (∃ p', p' ≤ p + 3 ∧ Rd w0 b p' w') ∧ Only b W w' := by
  go_enter Tryd.func77, Tryd.ntmps77
  go_wp2_with fail
  refine (pick_any w0 b p 24 (by omega) (by omega) _ h).mono ?_
  rintro e w1 ⟨⟨r, rfl, r0, r1⟩, hR, hO⟩
  have HR := Lib.hid hR
  have HO := Lib.hid hO
  have HF : Hid (∀ x w', x < 18446744073709551616 → Drw w1 w' → (∃ y, Ending.returned (.float .f64 x) = .returned (.float .f64 y) ∧ y < 18446744073709551616) ∧ (∃ p', p' ≤ p + 3 ∧ Rd w0 b p' w') ∧ Only b W w') :=
    fun x w' hx hd => ⟨⟨x, rfl, hx⟩, ⟨p + 1, by omega, hR.drw hd⟩, hO.trans (Only.of_below (hd.below _))⟩
  clear hR hO h
  by_cases h0 : r = 0
  · subst h0; go_wp2; go_ret; exact HF.out _ _ (by omega) (Drw.refl _)
  by_cases h1 : r = 1
  · subst h1
    obtain ⟨z, w2, hz, hz2, hd⟩ := Flo.arith_any (P := Tryd.prog) .mul (by simp) 55 .f64 (Op.negFloat .f64 0) 4607182418800017408 w1
    have hn := fun w => Flo.run_neg (P := Tryd.prog) .f64 0 w
    generalize Op.negFloat .f64 0 = q at *
    go_wp2; go_ret; exact HF.out _ _ hz2 hd
  by_cases h2 : r = 2
  · subst h2
    obtain ⟨z, w2, hz, hz2, hd⟩ := Flo.arith_any (P := Tryd.prog) .quo (by simp) 55 .f64 4607182418800017408 0 w1
    go_wp2; go_ret; exact HF.out _ _ hz2 hd
  by_cases h3 : r = 3
  · subst h3
    obtain ⟨z, w2, hz, hz2, hd⟩ := Flo.arith_any (P := Tryd.prog) .quo (by simp) 55 .f64 0 0 w1
    go_wp2; go_ret; exact HF.out _ _ hz2 hd
  by_cases h4 : r = 4
  · subst h4
    obtain ⟨z, w2, hz, hz2, hd⟩ := Flo.arith_any (P := Tryd.prog) .quo (by simp) 55 .f64 13830554455654793216 0 w1
    go_wp2; go_ret; exact HF.out _ _ hz2 hd
  by_cases h5 : r = 5
  · subst h5; go_wp2; go_ret; exact HF.out _ _ (by omega) (Drw.refl _)
  by_cases h6 : r = 6
  · subst h6; go_wp2; go_ret; exact HF.out _ _ (by omega) (Drw.refl _)
  by_cases h7 : r = 7
  · subst h7; go_wp2; go_ret; exact HF.out _ _ (by omega) (Drw.refl _)
  by_cases h8 : r = 8
  · subst h8; go_wp2; go_ret; exact HF.out _ _ (by omega) (Drw.refl _)
  by_cases h9 : r = 9
  · subst h9; go_wp2; go_ret; exact HF.out _ _ (by omega) (Drw.refl _)
  have g0 : (r == 0) = false := by simpa using h0
  have g1 : (r == 1) = false := by simpa using h1
  have g2 : (r == 2) = false := by simpa using h2
  have g3 : (r == 3) = false := by simpa using h3
  have g4 : (r == 4) = false := by simpa using h4
  have g5 : (r == 5) = false := by simpa using h5
  have g6 : (r == 6) = false := by simpa using h6
  have g7 : (r == 7) = false := by simpa using h7
  have g8 : (r == 8) = false := by simpa using h8
  have g9 : (r == 9) = false := by simpa using h9
  clear HF
  go_wp2_with fail
  refine (pick_any w0 b (p + 1) 65 (by omega) (by omega) _ HR.out).mono ?_
  rintro e w2 ⟨⟨x, rfl, x0, x1⟩, hR2, hO2⟩
  have HR2 := Lib.hid hR2
  have HO2 := Lib.hid (HO.out.trans hO2)
  clear hR2 hO2 HR HO
  go_wp2_with fail
  refine (pick_any w0 b (p + 1 + 1) 7 (by omega) (by omega) _ HR2.out).mono ?_
  rintro e w3 ⟨⟨y, rfl, y0, y1⟩, hR3, hO3⟩
  have HR3 := Lib.hid hR3
  have HO3 := Lib.hid (HO2.out.trans hO3)
  clear hR3 hO3 HR2 HO2
  have HF : Hid (∀ x w', x < 18446744073709551616 → Drw w3 w' → (∃ y, Ending.returned (.float .f64 x) = .returned (.float .f64 y) ∧ y < 18446744073709551616) ∧ (∃ p', p' ≤ p + 3 ∧ Rd w0 b p' w') ∧ Only b W w') :=
    fun x w' hx hd => ⟨⟨x, rfl, hx⟩, ⟨p + 1 + 1 + 1, by omega, HR3.out.drw hd⟩, HO3.out.trans (Only.of_below (hd.below _))⟩
  clear HR3 HO3
  have key := fun q => Flo.arith_any (P := Tryd.prog) .quo (by simp) 55 .f64 (floatOfInt .f64 (x - 32)) (floatOfInt .f64 q) w3
  rcases (by omega : y = 0 ∨ y = 1 ∨ y = 2 ∨ y = 3 ∨ y = 4 ∨ y = 5 ∨ y = 6) with rfl | rfl | rfl | rfl | rfl | rfl | rfl
  · obtain ⟨z, w4, hz, hz2, hd⟩ := key 1
    clear key; go_wp2; go_ret; exact HF.out _ _ hz2 hd
  · obtain ⟨z, w4, hz, hz2, hd⟩ := key 2
    clear key; go_wp2; go_ret; exact HF.out _ _ hz2 hd
  · obtain ⟨z, w4, hz, hz2, hd⟩ := key 4
    clear key; go_wp2; go_ret; exact HF.out _ _ hz2 hd
  · obtain ⟨z, w4, hz, hz2, hd⟩ := key 8
    clear key; go_wp2; go_ret; exact HF.out _ _ hz2 hd
  · obtain ⟨z, w4, hz, hz2, hd⟩ := key 16
    clear key; go_wp2; go_ret; exact HF.out _ _ hz2 hd
  · obtain ⟨z, w4, hz, hz2, hd⟩ := key 32
    clear key; go_wp2; go_ret; exact HF.out _ _ hz2 hd
  · obtain ⟨z, w4, hz, hz2, hd⟩ := key 64
    clear key; go_wp2; go_ret; exact HF.out _ _ hz2 hd
end Go.Proofs.YtdfoobemgdiobaaDoor
