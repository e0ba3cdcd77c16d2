/- Walks: math.Floor at small whole numbers; the program's placeWell. -/
import Derived.Test.YtdfoobemgdiobaaDoorFloN
import Derived.Test.YtdfoobemgdiobaaDoorTilD
import Derived.Outline
namespace Go.Proofs.YtdfoobemgdiobaaDoor
open Go.RowKit

theorem cut_down (neg : Bool) (t drop : Nat) : Ieee.Toward.down.cut neg (t * 2 ^ drop) drop = t := by
  unfold Ieee.Toward.cut
  simp only []
  by_cases hd : drop ≤ (t * 2 ^ drop).log2 + 2
  · rw [Nat.min_eq_left hd, Nat.one_shiftLeft, Nat.mul_div_cancel _ (Nat.two_pow_pos _), Nat.mul_mod_left]; simp
  · have h0 : t = 0 := by
      rcases Nat.eq_zero_or_pos t with h | h
      · exact h
      · exfalso
        have hlt : t * 2 ^ drop < 2 ^ ((t * 2 ^ drop).log2 + 1) := Nat.lt_log2_self
        have h2 : 2 ^ ((t * 2 ^ drop).log2 + 1) ≤ 2 ^ drop := Nat.pow_le_pow_right (by omega) (by omega)
        have h3 := Nat.mul_le_mul_right (2 ^ drop) h
        omega
    subst h0; simp
/-- the floor of a whole number, as the machine has it -/
theorem floor_val {z : Nat} {A : Int} (hz : Flo.Val Ieee.double z (A * (2 ^ Flo.u64 : Nat))) :
    ∃ s m e, FloatKind.f64.decode z = .number s m e ∧ Flo.Val Ieee.double (FloatKind.f64.encode ((Ieee.Datum.number s m e).integral .down)) (A * (2 ^ Flo.u64 : Nat)) := by
  refine ⟨_, _, _, Flo.read_fin hz.fin, ?_⟩
  have hd := Flo.val_digits hz
  rw [Int.natAbs_mul, Int.natAbs_natCast] at hd
  have hm : Ieee.Toward.down.cut (Flo.sgn Ieee.double z) (Flo.rm Ieee.double (Flo.rung Ieee.double z) <<< (Ieee.double.leastPlace + Flo.re Ieee.double (Flo.rung Ieee.double z)).toNat) (-(Ieee.double.leastPlace + (Flo.re Ieee.double (Flo.rung Ieee.double z) : Int))).toNat = A.natAbs := by
    rw [Flo.least64]
    generalize Flo.re Ieee.double (Flo.rung Ieee.double z) = e at *
    generalize Flo.rm Ieee.double (Flo.rung Ieee.double z) = m at *
    generalize Flo.sgn Ieee.double z = s at *
    rcases Nat.le_total Flo.u64 e with h | h
    · obtain ⟨r, rfl⟩ : ∃ r, e = r + Flo.u64 := ⟨e - Flo.u64, by omega⟩
      have e1 : (-(Flo.u64 : Int) + ((r + Flo.u64 : Nat) : Int)).toNat = r := by omega
      have e2 : (-(-(Flo.u64 : Int) + ((r + Flo.u64 : Nat) : Int))).toNat = 0 := by omega
      rw [e1, e2]
      rw [Nat.pow_add, ← Nat.mul_assoc] at hd
      have hA := Nat.eq_of_mul_eq_mul_right (Nat.two_pow_pos Flo.u64) hd
      have := cut_down s A.natAbs 0
      rw [Nat.pow_zero, Nat.mul_one] at this
      rw [Nat.shiftLeft_eq, ← hA]; exact this
    · obtain ⟨r, hr⟩ : ∃ r, Flo.u64 = r + e := ⟨Flo.u64 - e, by omega⟩
      have e1 : (-(Flo.u64 : Int) + (e : Int)).toNat = 0 := by omega
      have e2 : (-(-(Flo.u64 : Int) + (e : Int))).toNat = r := by omega
      rw [e1, e2]
      rw [hr, Nat.pow_add, ← Nat.mul_assoc] at hd
      have hA := Nat.eq_of_mul_eq_mul_right (Nat.two_pow_pos e) hd
      rw [Nat.shiftLeft_zero, ← hA]
      exact cut_down s A.natAbs r
  show Flo.Val Ieee.double (Ieee.double.nearest (Flo.sgn Ieee.double z) (Ieee.Toward.down.cut (Flo.sgn Ieee.double z) (Flo.rm Ieee.double (Flo.rung Ieee.double z) <<< (Ieee.double.leastPlace + Flo.re Ieee.double (Flo.rung Ieee.double z)).toNat) (-(Ieee.double.leastPlace + (Flo.re Ieee.double (Flo.rung Ieee.double z) : Int))).toNat) 0) _
  rw [hm]
  have hiv := hz.iv
  unfold Flo.iv at hiv
  refine Flo.nearest_val (a := Flo.u64) (b := 0) hz.rep (by rw [Flo.least64]; omega) (by rw [Int.natAbs_mul, Int.natAbs_natCast, Nat.pow_zero, Nat.mul_one]) (fun hneg => ?_) (fun hpos => ?_)
  · cases hs : Flo.sgn Ieee.double z
    · rw [hs] at hiv
      simp only [Bool.false_eq_true, if_false] at hiv
      omega
    · rfl
  · cases hs : Flo.sgn Ieee.double z
    · rfl
    · rw [hs] at hiv
      simp only [if_true] at hiv
      omega
theorem toIntegral_num (z : Nat) (s : Bool) (m : Nat) (e : Int) (hd : FloatKind.f64.decode z = .number s m e) : Go.Extern.MathFloor.toIntegral "math.archFloor" .down #[.float .f64 z] = pure (.float .f64 (FloatKind.f64.encode ((Ieee.Datum.number s m e).integral .down))) := by
  show (match FloatKind.f64.decode z with | .nan s t => _ | d => pure (Value.float .f64 (FloatKind.f64.encode (d.integral .down)))) = _
  rw [hd]
theorem archFloor_run (z : Nat) (w : World) : (callFunc 87 #[.float .f64 z]).run Tryd.prog w = (do let v ← Go.Extern.MathFloor.toIntegral "math.archFloor" .down #[.float .f64 z]; pure (Next.value v)).run Tryd.prog w := by
  kernel_rfl
set_option maxRecDepth 100000 in
theorem mathFloor_is (z : Nat) (A : Int) (hz : Flo.Val Ieee.double z (A * (2 ^ Flo.u64 : Nat))) (w : World) : Calls Tryd.prog 74 #[.float .f64 z] w fun e w' => (∃ y, e = .returned (.float .f64 y) ∧ Flo.Val Ieee.double y (A * (2 ^ Flo.u64 : Nat))) ∧ w = w' := by
  obtain ⟨s, m, e, hd, hv⟩ := floor_val hz
  have hr : ∀ w, (callFunc 87 #[.float .f64 z]).run Tryd.prog w = .ok (.value (.float .f64 (FloatKind.f64.encode ((Ieee.Datum.number s m e).integral .down)))) w := fun w => by
    rw [archFloor_run, toIntegral_num z s m e hd]
    rfl
  have HV := Lib.hid hv
  generalize FloatKind.f64.encode ((Ieee.Datum.number s m e).integral .down) = y at *
  clear hz hv hd
  go_enter Tryd.func74, Tryd.ntmps74
  go_wp2
  go_ret
  exact ⟨⟨y, rfl, HV.out⟩, rfl⟩
set_option maxRecDepth 100000 in
set_option maxHeartbeats 1000000 in
theorem cornerWell_ok (x d : Nat) (hx : x < 4294967296) (hd : d ≤ 11) (h : Flo.wholeB x d = true) (w : World) : Calls Tryd.prog 60 #[.float .f32 x, .int .i64 d] w fun e w' => e = .returned (.bool true) ∧ w = w' := by
  obtain ⟨A, hA, hb⟩ := Flo.whole_pt hx hd h
  have hdp : 2 ^ d ≤ 2 ^ 11 := Nat.pow_le_pow_right (by omega) hd
  obtain ⟨y1, h1, v1⟩ := Flo.widen_val hA
  have hD : Flo.Val Ieee.double (floatOfInt .f64 ((2 ^ d : Nat) : Int)) (((2 ^ d : Nat) : Int) * (2 ^ Flo.u64 : Nat)) := Flo.ofInt_val (k := .f64) Flo.least64 _ (by rw [Int.natAbs_natCast]; show _ < 2 * Ieee.double.binade; rw [Flo.double_binade]; omega) (by show (Flo.u64 + 2) * Ieee.double.binade ≤ Ieee.double.infRung; rw [Flo.double_inf, Flo.u64_eq]; exact Nat.mul_le_mul_right _ (by omega))
  have hrep : Flo.Rep Ieee.double (A * (2 ^ Flo.u64 : Nat)) := by
    refine Flo.rep_gen (m := A.natAbs) (e := Flo.u64) (by rw [Int.natAbs_mul, Int.natAbs_natCast]) (by rw [Flo.double_binade]; omega) ?_
    rw [Flo.double_inf, Flo.u64_eq]
    exact Nat.mul_le_mul_right _ (by omega)
  have hc : A * (2 ^ (Flo.u32 - d) : Nat) * (2 ^ Flo.wup : Nat) * (((2 ^ d : Nat) : Int) * (2 ^ Flo.u64 : Nat)) = A * (2 ^ Flo.u64 : Nat) * (2 ^ Flo.u64 : Nat) := by
    have e : (2 ^ (Flo.u32 - d) * 2 ^ Flo.wup * 2 ^ d : Nat) = 2 ^ Flo.u64 := by
      rw [← Nat.pow_add, ← Nat.pow_add]
      congr 1
      rw [Flo.u32_eq, Flo.wup_eq, Flo.u64_eq]; omega
    have e2 : ((2 ^ (Flo.u32 - d) : Nat) : Int) * (2 ^ Flo.wup : Nat) * (2 ^ d : Nat) = (2 ^ Flo.u64 : Nat) := by
      have := congrArg (fun x : Nat => (x : Int)) e
      simp only [Int.natCast_mul] at this
      exact this
    generalize ((2 ^ (Flo.u32 - d) : Nat) : Int) = P at *
    generalize ((2 ^ Flo.wup : Nat) : Int) = Q at *
    generalize ((2 ^ Flo.u64 : Nat) : Int) = R at *
    generalize ((2 ^ d : Nat) : Int) = S at *
    calc A * P * Q * (S * R) = A * (P * Q * S) * R := by simp only [Int.mul_assoc]
      _ = A * R * R := by rw [e2]
  obtain ⟨y, hy, v2⟩ := Flo.mul_val (f := Ieee.double) (c := A * (2 ^ Flo.u64 : Nat)) Flo.least64 v1 hD hc hrep
  have hF := Lib.hid (mathFloor_is y A v2)
  have hee : Hid (∀ t, Flo.Val Ieee.double t (A * (2 ^ Flo.u64 : Nat)) → (FloatKind.f64.format.order y t == some .eq) = true) := fun t ht => by rw [Flo.order_eq_val (k := .f64) v2 ht]; simp
  obtain ⟨q, hq⟩ : ∃ q : Int, wrap64 (2 ^ d) = q := ⟨_, rfl⟩
  have hqd : ((2 ^ d : Nat) : Int) = q := by rw [← hq, wrap_pow d hd]
  rw [hqd] at hy
  have g1 := fun w => run_convert_float_float (P := Tryd.prog) w 66 55 .f32 .f64 _ _ (by kernel_rfl) Tryd.underlying55 h1
  have g2 := fun w => run_float_arith (P := Tryd.prog) w .mul 55 .f64 _ _ _ hy
  have hw := Flo.inFour_val hx (by unfold Flo.wholeB at h; rw [Bool.and_eq_true] at h; exact h.1)
  have t1 : (FloatKind.f32.format.order 3229614080 x == some .lt || FloatKind.f32.format.order 3229614080 x == some .eq) = true := by
    rw [Flo.order_lt_val (k := .f32) Flo.minus_four_val hw.1, Flo.order_eq_val (k := .f32) Flo.minus_four_val hw.1]
    have := hw.2
    simp only [Bool.or_eq_true, decide_eq_true_eq]
    generalize 2 ^ Flo.u32 = U at *
    omega
  have t2 : (FloatKind.f32.format.order x 1082130432 == some .lt || FloatKind.f32.format.order x 1082130432 == some .eq) = true := by
    unfold Flo.wholeB Flo.inFour at h
    rw [Bool.and_eq_true, Bool.and_eq_true] at h
    exact h.1.2
  clear h hA hb hdp h1 v1 hD hrep hc hy v2 hqd hw hx
  go_enter Tryd.func60, Tryd.ntmps60
  go_wp2_with (go_at_call 74; refine (hF.out _).mono ?_; rintro e w' ⟨⟨t, rfl, ht⟩, rfl⟩; have hte := hee.out t ht; clear ht)
  go_ret
  exact ⟨rfl, rfl⟩
set_option maxRecDepth 100000 in
set_option maxHeartbeats 1000000 in
theorem placeWell_ok (cx cy : Nat) (deep size : Int) (hx : cx < 4294967296) (hy : cy < 4294967296) (h : placeB cx cy deep size = true) (w : World) : Calls Tryd.prog 37 #[.complex .f32 cx cy, .int .i64 deep, .int .i64 size] w fun e w' => e = .returned (.bool true) ∧ w = w' := by
  obtain ⟨h1, h2, h3, h4⟩ := placeB_bd h
  obtain ⟨d, rfl⟩ := Int.eq_ofNat_of_zero_le h1
  unfold placeB at h
  rw [Bool.and_eq_true, Bool.and_eq_true, Int.toNat_natCast] at h
  have hX := Lib.hid (cornerWell_ok cx d hx (by omega) h.1.2)
  have hY := Lib.hid (cornerWell_ok cy d hy (by omega) h.2)
  clear h
  have a1 : decide ((d : Int) < 0) = false := by simp
  have a2 : decide (10 < (d : Int)) = false := by simpa using h2
  have a3 : decide (size < 1) = false := by simpa using h3
  have a4 : decide (8 < size) = false := by simpa using h4
  go_enter Tryd.func37, Tryd.ntmps37
  go_wp2_with (first | (go_at_call 60; (with_reducible refine (hX.out _).mono ?_); rintro e w' ⟨rfl, rfl⟩) | (go_at_call 60; (with_reducible refine (hY.out _).mono ?_); rintro e w' ⟨rfl, rfl⟩))
  go_ret
  exact ⟨rfl, rfl⟩
end Go.Proofs.YtdfoobemgdiobaaDoor
