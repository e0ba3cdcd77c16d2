/- Walks: floats cut into an odd number and a power; exact numbers of floats. -/
import Derived.Test.YtdfoobemgdiobaaDoorDya
import Derived.Test.YtdfoobemgdiobaaDoorDyq
import Derived.Test.YtdfoobemgdiobaaDoorTilZ
import Derived.Deep.RegionHeld3
namespace Go.Proofs.YtdfoobemgdiobaaDoor
open Go.RowKit Flo

theorem two52 : (2 : Nat) ^ 52 = 4503599627370496 := by decide
theorem mask52 (z : Nat) (hz : z < 18446744073709551616) : bits .and .u64 (z : Int) 4503599627370495 = ((z % 4503599627370496 : Nat) : Int) := by
  have h := u64_and_mask z 52 hz (by omega)
  rw [two52] at h
  exact h
theorem mask11 (z : Nat) (hz : z < 9223372036854775808) : bits .and .i64 (z : Int) 2047 = ((z % 2048 : Nat) : Int) := by
  have h := i64_and_mask z 11 hz (by omega)
  rw [show (2 : Nat) ^ 11 = 2048 by decide] at h
  exact h
theorem top52 (z : Nat) (hz : z < 4503599627370496) : bits .or .u64 (z : Int) 4503599627370496 = ((z + 4503599627370496 : Nat) : Int) := by
  have h := u64_or_top z 52 (by rw [two52]; exact hz) (by omega)
  rw [two52] at h
  exact h
theorem bits64_run (z : Nat) (w : World) : (callFunc 43 #[.float .f64 z]).run Tryd.prog w = .ok (.value (.int .u64 z)) w := by
  kernel_rfl
set_option maxHeartbeats 2000000 in
theorem splitFloat_is {z : Nat} {A : Int} {d : Nat} (hd : d ≤ 11) (hA : A.natAbs ≤ 65536) (hz : Val Ieee.double z (A * (2 ^ (u64 - d) : Nat))) (w : World) (hT : Tab w) :
    Calls Tryd.prog 27 #[.float .f64 z] w fun e w' => (∃ o p, e = .returned (.tuple #[.int .i64 o, .int .i64 p]) ∧ SplitOf A d o p) ∧ w = w' := by
  have hr := fun w => bits64_run z w
  have hlt : z < 18446744073709551616 := hz.lt
  have hs := split_plain hd hA hz
  have b1 : bits .and .u64 (z : Int) 4503599627370495 = ((z % 4503599627370496 : Nat) : Int) := mask52 z hlt
  have b2 : bits .and .i64 ((z / 4503599627370496 : Nat) : Int) 2047 = ((z / 4503599627370496 % 2048 : Nat) : Int) := mask11 _ (by omega)
  have e2 : z / 4503599627370496 % 2048 = z % 9223372036854775808 / 4503599627370496 := by omega
  rw [e2] at b2
  have hm : z % 4503599627370496 < 4503599627370496 := Nat.mod_lt _ (by omega)
  have b3 : bits .or .u64 ((z % 4503599627370496 : Nat) : Int) 4503599627370496 = ((z % 4503599627370496 + 4503599627370496 : Nat) : Int) := top52 _ hm
  have hTZ := Lib.hid (tz64_any (z % 4503599627370496 + 4503599627370496) (by omega) (by omega) w hT)
  have q1 : (z : Int) / 4503599627370496 = ((z / 4503599627370496 : Nat) : Int) := rfl
  have q2 : (z : Int) / 9223372036854775808 = ((z / 9223372036854775808 : Nat) : Int) := rfl
  have q3 : IntKind.i64.wrap ((z / 4503599627370496 : Nat) : Int) = ((z / 4503599627370496 : Nat) : Int) := IntWalk.i64_in _ (by omega)
  clear e2 hz
  generalize z % 9223372036854775808 / 4503599627370496 = e at *
  generalize z % 4503599627370496 = m at *
  generalize z / 9223372036854775808 = s at *
  generalize z / 4503599627370496 = t at *
  rcases hs with ⟨hA0, rfl, rfl⟩ | ⟨he0, he1, o, j, ho, hk, hj, hj16, ho2, hs⟩
  · have HR := Lib.hid hA0
    clear hA0 hTZ b3
    go_enter Tryd.func27, Tryd.ntmps27
    go_wp2_with fail
    go_ret2
    exact ⟨⟨_, _, rfl, .inl ⟨HR.out, rfl, rfl⟩⟩, rfl⟩
  · have d1 : ((e : Int) == 0) = false := by simp; omega
    have d2 : (((m + 4503599627370496 : Nat) : Int) == 0) = false := by simp; omega
    have HO := Lib.hid ho
    have HJ := Lib.hid hj
    have HA := Lib.hid hs
    have HD := Lib.hid (And.intro hk (And.intro he0 he1))
    clear ho hj hs
    generalize hM : m + 4503599627370496 = M at *
    clear hM hm hk
    go_enter Tryd.func27, Tryd.ntmps27
    go_wp2_with fail
    refine hTZ.out.mono ?_
    rintro e1 w1 ⟨rfl, rfl⟩
    generalize Lib.ctz 64 M = k at *
    have hk : k < 64 := HD.out.1
    have hq : (M : Int) / 2 ^ k = ((2 * o + 1 : Nat) : Int) := by
      rw [show (2 : Int) ^ k = ((2 ^ k : Nat) : Int) by simp, ← Int.natCast_ediv, HO.out, Nat.mul_div_cancel_left _ (Nat.two_pow_pos k)]
    have hsh : Op.shift .shr .u64 (M : Int) .i64 (k : Int) = pure (.int .u64 (2 * o + 1)) := by
      rw [shift_shr .u64 .i64 _ _ (by omega) (by show (k : Int) ≤ 64; omega), Int.toNat_natCast, hq]
      rfl
    have hw : (e : Int) - 1075 + k = (j : Int) - d := by
      have := HD.out
      have := HJ.out
      omega
    have HW := Lib.hid hw
    clear hw hq hk
    go_upto_region 12 with fail
    have hk : k < 64 := HD.out.1
    go_wp2_with fail
    · rename_i hs0
      go_ret2
      refine ⟨⟨_, _, rfl, ?_⟩, rfl⟩
      rw [HW.out]
      rcases HA.out with ⟨h1, h2, h3⟩ | ⟨h1, h2, h3⟩
      · exact .inr ⟨j, hj16, h3, rfl, by omega⟩
      · rw [h2] at hs0
        exact absurd hs0 (by decide)
    · rename_i hs0
      go_ret2
      refine ⟨⟨_, _, rfl, ?_⟩, rfl⟩
      rw [HW.out]
      rcases HA.out with ⟨h1, h2, h3⟩ | ⟨h1, h2, h3⟩
      · rw [h2] at hs0
        exact absurd hs0 (by decide)
      · exact .inr ⟨j, hj16, h3, rfl, by omega⟩
set_option maxHeartbeats 1000000 in
theorem raisePart_zero (u : Int) (w : World) : Calls Tryd.prog 28 #[.int .i64 0, .int .i64 u] w fun e w' => e = .returned (.tuple #[.int .i64 0, .bool true]) ∧ w = w' := by
  go_enter Tryd.func28, Tryd.ntmps28
  go_wp2_with fail
  go_ret2
  exact ⟨rfl, rfl⟩
theorem raise_bd {o : Int} {u : Nat} (hu : u ≤ 16) (hb : (o * 2 ^ u).natAbs ≤ 65536) : wrap64 (o * 2 ^ u) = o * 2 ^ u ∧ decide (o < wrap64 (-(1073741824 / 2 ^ u))) = false ∧ decide ((1073741824 : Int) / 2 ^ u < o) = false := by
  refine ⟨IntWalk.wrap64_in _ (by omega), ?_⟩
  rw [show (2 : Int) ^ u = ((2 ^ u : Nat) : Int) by simp] at *
  have hp : 2 ^ u ≤ 2 ^ 16 := Nat.pow_le_pow_right (by omega) hu
  have hp0 : 0 < 2 ^ u := Nat.two_pow_pos u
  have h1 : ((1073741824 / 2 ^ u : Nat) : Int) = 1073741824 / ((2 ^ u : Nat) : Int) := by simp
  rw [← h1]
  have h2 : 1073741824 / 2 ^ 16 ≤ 1073741824 / 2 ^ u := Nat.div_le_div_left hp hp0
  have h3 : 1073741824 / 2 ^ u ≤ 1073741824 := Nat.div_le_self _ _
  rw [Int.natAbs_mul, Int.natAbs_natCast] at hb
  have h4 : o.natAbs ≤ 1073741824 / 2 ^ u := (Nat.le_div_iff_mul_le hp0).2 (by omega)
  rw [IntWalk.wrap64_in _ (by omega)]
  generalize 1073741824 / 2 ^ u = Q at *
  simp only [decide_eq_false_iff_not]
  omega
set_option maxHeartbeats 1000000 in
theorem raisePart_is (o : Int) (u : Nat) (ho : o ≠ 0) (hu : u ≤ 16) (hb : (o * 2 ^ u).natAbs ≤ 65536) (w : World) : Calls Tryd.prog 28 #[.int .i64 o, .int .i64 u] w fun e w' => e = .returned (.tuple #[.int .i64 (o * 2 ^ u), .bool true]) ∧ w = w' := by
  have d1 : (o == 0) = false := by simp [ho]
  have d2 : decide ((30 : Int) < u) = false := by simp; omega
  obtain ⟨h1, h2, h3⟩ := raise_bd hu hb
  have h4 : min u 64 = u := by omega
  have h5 : u % 64 = u := by omega
  clear hb ho hu
  go_enter Tryd.func28, Tryd.ntmps28
  go_wp2_with fail
  go_ret2
  exact ⟨by rw [h1]; rfl, rfl⟩
set_option maxHeartbeats 400000 in
theorem isNaN_fin {z : Nat} {A : Int} (hz : Val Ieee.double z A) (w : World) : Calls Tryd.prog 25 #[.float .f64 z] w fun e w' => e = .returned (.bool false) ∧ w = w' := by
  have h : (FloatKind.f64.format.order z z != some .eq) = false := by
    have := order_eq_val (k := .f64) hz hz
    simp only [decide_true, beq_iff_eq] at this
    rw [this]
    rfl
  clear hz
  go_enter Tryd.func25, Tryd.ntmps25
  go_wp2
  go_ret
  exact ⟨rfl, rfl⟩
theorem frombits_run (z : Nat) (w : World) : (callFunc 62 #[.int .u64 z]).run Tryd.prog w = .ok (.value (.float .f64 z)) w := by
  kernel_rfl
set_option maxHeartbeats 400000 in
theorem abs_is (z : Nat) (hz : z < 18446744073709551616) (w : World) : Calls Tryd.prog 42 #[.float .f64 z] w fun e w' => e = .returned (.float .f64 (z % 9223372036854775808)) ∧ w = w' := by
  have b1 := fun w => bits64_run z w
  have b2 := andNot_sign z hz
  have b3 := fun w => frombits_run (z % 9223372036854775808) w
  generalize z % 9223372036854775808 = y at *
  go_enter Tryd.func42, Tryd.ntmps42
  go_wp2
  go_ret
  exact ⟨rfl, rfl⟩
set_option maxHeartbeats 400000 in
theorem isInf_fin {z : Nat} {A : Int} (hz : Val Ieee.double z A) (hA : A.natAbs ≤ 8192 * 2 ^ u64) (w : World) : Calls Tryd.prog 26 #[.float .f64 z, .int .i64 0] w fun e w' => e = .returned (.bool false) ∧ w = w' := by
  have h : (FloatKind.f64.format.order (z % 9223372036854775808) 9218868437227405311 == some .gt) = false := by
    have h := abs_val hz
    rw [signWeight64] at h
    rw [order_gt_val (k := .f64) h max_val]
    have h4 := Nat.le_trans hA max_ge
    simp only [decide_eq_false_iff_not]
    exact Int.not_lt.2 (Int.ofNat_le.2 h4)
  have HB := Lib.hid (fun w => abs_is z hz.lt w)
  clear hz hA
  generalize z % 9223372036854775808 = y at *
  go_enter Tryd.func26, Tryd.ntmps26
  go_wp2_with (go_at_call 42; refine (HB.out _).mono ?_; rintro e w' ⟨rfl, rfl⟩)
  go_ret
  exact ⟨rfl, rfl⟩

/-- what a part raised must be -/
def Raise (o u X : Int) : Prop := (o = 0 ∧ X = 0) ∨ (o ≠ 0 ∧ ∃ n : Nat, u = n ∧ n ≤ 16 ∧ X = o * 2 ^ n ∧ X.natAbs ≤ 65536)
theorem raise_one {A o p : Int} {d S : Nat} (hA : A.natAbs ≤ 65536) (h : SplitOf A d o p) (hS : S ≤ d) (hp : -p ≤ S) : ∃ X, Raise o (p + S) X ∧ A = X * (2 ^ (d - S) : Nat) ∧ X.natAbs ≤ 65536 := by
  rcases h with ⟨h1, h2, h3⟩ | ⟨j, h1, h2, h3, h4⟩
  · exact ⟨0, .inl ⟨h2, rfl⟩, by rw [h1, Int.zero_mul], by decide⟩
  · obtain ⟨n, hn⟩ : ∃ n : Nat, p + S = n := ⟨(p + S).toNat, by omega⟩
    have hjn : j = n + (d - S) := by omega
    have hX : A = o * 2 ^ n * (2 ^ (d - S) : Nat) := by
      rw [h2, hjn, Nat.pow_add, Int.natCast_mul, Int.mul_assoc]
      simp
    have hb : (o * 2 ^ n).natAbs ≤ 65536 := by
      have h5 := congrArg Int.natAbs hX
      rw [Int.natAbs_mul, Int.natAbs_natCast] at h5
      have h6 : (o * 2 ^ n).natAbs * 1 ≤ (o * 2 ^ n).natAbs * 2 ^ (d - S) := Nat.mul_le_mul_left _ (Nat.two_pow_pos _)
      omega
    exact ⟨o * 2 ^ n, .inr ⟨by omega, n, hn, by omega, rfl, hb⟩, hX, hb⟩
theorem split_bd {A o p : Int} {d : Nat} (hA : A.natAbs ≤ 65536) (h : SplitOf A d o p) : -(d : Int) ≤ p ∧ p ≤ 16 ∧ o.natAbs ≤ 65536 := by
  rcases h with ⟨h1, h2, h3⟩ | ⟨j, h1, h2, h3, h4⟩
  · omega
  · refine ⟨by omega, by omega, ?_⟩
    have h5 : o.natAbs * 2 ^ j = A.natAbs := by rw [h2, Int.natAbs_mul, Int.natAbs_natCast]
    have h6 : o.natAbs * 1 ≤ o.natAbs * 2 ^ j := Nat.mul_le_mul_left _ (Nat.two_pow_pos _)
    omega
theorem raisePart_any {o u X : Int} (h : Raise o u X) (w : World) : Calls Tryd.prog 28 #[.int .i64 o, .int .i64 u] w fun e w' => e = .returned (.tuple #[.int .i64 X, .bool true]) ∧ w = w' := by
  rcases h with ⟨h1, h2⟩ | ⟨h1, n, h2, h3, h4, h5⟩
  · rw [h1, h2]; exact raisePart_zero u w
  · rw [h2, h4]; rw [h4] at h5; exact raisePart_is o n h1 h3 h5 w
set_option maxRecDepth 100000 in
set_option maxHeartbeats 2000000 in
theorem dyadOf_is {x y : Nat} {A B : Int} {d : Nat} (hd : d ≤ 11) (hA : A.natAbs ≤ 8192) (hB : B.natAbs ≤ 8192) (hx : Val Ieee.double x (A * (2 ^ (u64 - d) : Nat))) (hy : Val Ieee.double y (B * (2 ^ (u64 - d) : Nat))) (w : World) (hT : Tab w) :
    Calls Tryd.prog 9 #[.complex .f64 x y] w fun e w' => e = .returned (.tuple #[.agg #[.int .i64 (lowT A B d).1, .int .i64 (lowT A B d).2.1, .int .i64 (lowT A B d).2.2], .bool true]) ∧ Below w.heap.size w w' := by
  have hbd : ∀ Z : Int, Z.natAbs ≤ 8192 → (Z * (2 ^ (u64 - d) : Nat)).natAbs ≤ 8192 * 2 ^ u64 := fun Z hZ => by
    rw [Int.natAbs_mul, Int.natAbs_natCast]
    exact Nat.mul_le_mul hZ (Nat.pow_le_pow_right (by omega) (Nat.sub_le _ _))
  have N1 := Lib.hid (fun w => isNaN_fin hx w)
  have N2 := Lib.hid (fun w => isNaN_fin hy w)
  have I1 := Lib.hid (fun w => isInf_fin hx (hbd A hA) w)
  have I2 := Lib.hid (fun w => isInf_fin hy (hbd B hB) w)
  have R := Box.new w #[.int .i64 0, .int .i64 0, .int .i64 0] 34
  have hT1 := hT.step (((Below.refl w.heap.size w).alloc (Nat.le_refl _) (.cells #[.int .i64 0, .int .i64 0, .int .i64 0] 34)))
  have S1 := Lib.hid (splitFloat_is hd (by omega) hx _ hT1)
  have S2 := Lib.hid (splitFloat_is hd (by omega) hy _ hT1)
  have HR := Lib.hid R
  clear hx hy hT hT1 R hbd
  obtain ⟨u0, u1, u2, hv⟩ : ∃ u0 u1 u2, lowT A B d = (u0, u1, u2) := ⟨_, _, _, rfl⟩
  have HV := Lib.hid hv
  rw [hv]
  clear hv
  go_enter Tryd.func9, Tryd.ntmps9
  go_wp2_with fail
  refine (N1.out _).mono ?_
  rintro e w1 ⟨rfl, rfl⟩
  go_wp2_with fail
  refine (I1.out _).mono ?_
  rintro e w1 ⟨rfl, rfl⟩
  go_wp2_with fail
  refine (N2.out _).mono ?_
  rintro e w1 ⟨rfl, rfl⟩
  go_wp2_with fail
  refine (I2.out _).mono ?_
  rintro e w1 ⟨rfl, rfl⟩
  go_wp2_with fail
  refine S1.out.mono ?_
  rintro e w1 ⟨⟨o1, p1, rfl, P1⟩, rfl⟩
  go_wp2_with fail
  refine S2.out.mono ?_
  rintro e w1 ⟨⟨o2, p2, rfl, P2⟩, rfl⟩
  clear N1 N2 I1 I2 S1 S2
  have q1 := split_bd (by omega) P1
  have q2 := split_bd (by omega) P2
  have P1 := Lib.hid P1
  have P2 := Lib.hid P2
  go_upto_region 7 with fail
  generalize hM : (if (if p1 < 0 then -p1 else 0) < -p2 then -p2 else if p1 < 0 then -p1 else 0) = M
  obtain ⟨S, hS, hSd, k1, k2⟩ : ∃ S : Nat, M = S ∧ S ≤ d ∧ -p1 ≤ S ∧ -p2 ≤ S := by
    refine ⟨M.toNat, ?_⟩
    rw [← hM]
    split <;> split <;> omega
  subst hS
  clear hM
  obtain ⟨X, r1, a1, b1⟩ := raise_one (by omega) P1.out hSd k1
  obtain ⟨Y, r2, a2, b2⟩ := raise_one (by omega) P2.out hSd k2
  have G1 := Lib.hid (fun w => raisePart_any r1 w)
  have G2 := Lib.hid (fun w => raisePart_any r2 w)
  have hl : lowT A B d = lowT X Y S := by
    have := lowT_up X Y S (d - S)
    rw [← a1, ← a2, show S + (d - S) = d by omega] at this
    exact this
  have gd := fun w => dyadMake_is X Y S (by omega) (by omega) (by omega) w
  rw [← hl, HV.out] at gd
  have GD := Lib.hid gd
  clear gd HV
  clear r1 a1 r2 a2 hl P1 P2 k1 k2
  go_wp2_with fail
  refine (G1.out _).mono ?_
  rintro e w1 ⟨rfl, rfl⟩
  go_wp2_with fail
  refine (G2.out _).mono ?_
  rintro e w1 ⟨rfl, rfl⟩
  go_wp2_with fail
  refine (GD.out _).mono ?_
  rintro e w1 ⟨rfl, hd1⟩
  have HR1 := HR.out.step hd1
  obtain ⟨r0, r1, r2⟩ := HR1.cells3
  obtain ⟨g0, g1, g2⟩ := HR1.free3
  have HZ := Lib.hid (HR1.set3 (Nat.le_refl _) (.int .i64 u0) (.int .i64 u1) (.int .i64 u2))
  clear hd1 HR1 HR G1 G2 GD
  go_wp2
  exact bodyPost_ret (v := .tuple #[.agg #[.int .i64 u0, .int .i64 u1, .int .i64 u2], .bool true]) (by simp [results, Tryd.f9, go_sem, r0, r1, r2]) rfl ⟨rfl, HZ.out.old⟩

set_option maxRecDepth 100000 in
set_option maxHeartbeats 4000000 in
theorem dyadAdd_is (X Y : Int) (d : Nat) (hX : X.natAbs ≤ 16384) (hY : Y.natAbs ≤ 16384) (hd : d ≤ 11) (w : World) :
    Calls Tryd.prog 11 #[.agg #[.int .i64 (lowT X Y d).1, .int .i64 (lowT X Y d).2.1, .int .i64 (lowT X Y d).2.2], .agg #[.int .i64 1, .int .i64 0, .int .i64 d]] w fun e w' => e = .returned (.tuple #[.agg #[.int .i64 (lowT (X + 1) Y d).1, .int .i64 (lowT (X + 1) Y d).2.1, .int .i64 (lowT (X + 1) Y d).2.2], .bool true]) ∧ Below w.heap.size w w' := by
  obtain ⟨h1, h2, h3, h4, h5, h6⟩ := lowT_is X Y d
  have hv := low_valid (X := X) (Y := Y) (d := d) (by omega) (by omega) (by omega)
  have hs : dyadB 1 0 d = true := by
    unfold dyadB evenB
    rw [Bool.and_eq_true, decide_eq_true_eq, Bool.or_eq_true, decide_eq_true_eq, Bool.not_eq_true', decide_eq_false_iff_not]
    omega
  obtain ⟨x, y, k, hl⟩ : ∃ x y k, lowT X Y d = (x, y, k) := ⟨_, _, _, rfl⟩
  rw [hl] at h1 h2 h3 h4 h5 h6 hv
  rw [hl]
  simp only at h1 h2 h3 h4 h5 h6 hv
  have hlr := hl
  clear hl
  obtain ⟨u0, u1, u2, hr⟩ : ∃ u0 u1 u2, lowT (X + 1) Y d = (u0, u1, u2) := ⟨_, _, _, rfl⟩
  have gm := fun w => dyadMake_is (X + 1) Y d (by omega) (by omega) (by omega) w
  rw [hr] at gm
  rw [hr]
  have GM := Lib.hid gm
  have V1 := Lib.hid (fun w => valid_ok x y k hv w)
  have V2 := Lib.hid (fun w => valid_ok 1 0 d hs w)
  have D := (Box.new w #[.int .i64 x, .int .i64 y, .int .i64 k] 34)
  have E1 := (Box.new (w.alloc (.cells #[.int .i64 x, .int .i64 y, .int .i64 k] 34)) #[.int .i64 1, .int .i64 0, .int .i64 d] 34).up ((Below.refl w.heap.size w).alloc (Nat.le_refl _) _)
  have R := (Box.new ((w.alloc (.cells #[.int .i64 x, .int .i64 y, .int .i64 k] 34)).alloc (.cells #[.int .i64 1, .int .i64 0, .int .i64 d] 34)) #[.int .i64 0, .int .i64 0, .int .i64 0] 34).up (w0 := w) (((Below.refl w.heap.size w).alloc (Nat.le_refl _) _).alloc (by simp) _)
  rw [show ((w.alloc (.cells #[.int .i64 x, .int .i64 y, .int .i64 k] 34)).alloc (.cells #[.int .i64 1, .int .i64 0, .int .i64 d] 34)).heap.size = w.heap.size + 1 + 1 by simp] at R
  rw [show (w.alloc (.cells #[.int .i64 x, .int .i64 y, .int .i64 k] 34)).heap.size = w.heap.size + 1 by simp] at E1
  replace E1 := E1.alloc (.cells #[.int .i64 0, .int .i64 0, .int .i64 0] 34)
  replace D := (D.alloc (.cells #[.int .i64 1, .int .i64 0, .int .i64 d] 34)).alloc (.cells #[.int .i64 0, .int .i64 0, .int .i64 0] 34)
  have HF := Lib.hid (And.intro D (And.intro E1 R))
  have HR := Lib.hid hr
  have H1 := Lib.hid (And.intro h2 (And.intro h3 h4))
  clear D E1 R hv hs gm hr h2 h3 h4 hlr
  go_enter Tryd.func11, Tryd.ntmps11
  go_wp2_with fail
  refine (V1.out _).mono ?_
  rintro e w1 ⟨rfl, hb⟩
  have HF2 := Lib.hid (And.intro (HF.out.1.step hb) (And.intro (HF.out.2.1.step hb) (HF.out.2.2.step hb)))
  obtain ⟨a0, a1, a2⟩ := HF2.out.1.cells3
  obtain ⟨b0, b1, b2⟩ := HF2.out.2.1.cells3
  clear HF hb
  go_wp2_with fail
  refine (V2.out _).mono ?_
  rintro e w2 ⟨rfl, hb⟩
  have HF := Lib.hid (And.intro (HF2.out.1.step hb) (And.intro (HF2.out.2.1.step hb) (HF2.out.2.2.step hb)))
  clear a0 a1 a2 b0 b1 b2
  obtain ⟨a0, a1, a2⟩ := HF.out.1.cells3
  obtain ⟨b0, b1, b2⟩ := HF.out.2.1.cells3
  clear HF2 hb V1 V2
  by_cases hkd : k = d
  · subst hkd
    have d1 : decide ((k : Int) < k) = false := by simp
    have e1 : x = X := by have := H1.out.1; rw [Nat.sub_self] at this; simpa using this
    have e2 : y = Y := by have := H1.out.2.1; rw [Nat.sub_self] at this; simpa using this
    subst e1 e2
    have f := HF.out.2.2.free3
    obtain ⟨f0, f1, f2⟩ := f
    go_upto_region 10 with fail
    have WX : Hid (IntKind.i64.wrap (x + IntKind.i64.wrap 1) = x + 1) := by
      show _ = _
      rw [IntWalk.i64_in 1 (by decide), IntWalk.i64_in _ (by omega)]
    have WY : Hid (IntKind.i64.wrap (y + IntKind.i64.wrap 0) = y) := by
      show _ = _
      rw [IntWalk.i64_in 0 (by decide), Int.add_zero, IntWalk.i64_in _ (by omega)]
    have HK : Hid (∀ w5, Below w2.drew.heap.size w2.drew w5 → Box w (w.heap.size + 1 + 1) #[.int .i64 0, .int .i64 0, .int .i64 0] 34 w5) := fun w5 hb => HF.out.2.2.step ((Below.refl _ _).drew.trans hb)
    have HS : Hid (∀ w5, Below w2.drew.heap.size w2.drew w5 → w5.cell? ⟨w.heap.size, 0, none⟩ = some (.int .i64 x) ∧ w5.cell? ⟨w.heap.size, 1, none⟩ = some (.int .i64 y) ∧ w5.cell? ⟨w.heap.size, 2, none⟩ = some (.int .i64 k) ∧ w5.cell? ⟨w.heap.size + 1, 0, none⟩ = some (.int .i64 1) ∧ w5.cell? ⟨w.heap.size + 1, 1, none⟩ = some (.int .i64 0)) := fun w5 hb => by
      have q := (HF.out.1.step ((Below.refl _ _).drew.trans hb)).cells3
      have p := (HF.out.2.1.step ((Below.refl _ _).drew.trans hb)).cells3
      exact ⟨q.1, q.2.1, q.2.2, p.1, p.2.1⟩
    have HS2 : Hid (∀ w5, Below w2.drew.heap.size w2.drew w5 → ∀ v0 v1 v2, (((w5.setCell ⟨w.heap.size + 1 + 1, 0, none⟩ v0).setCell ⟨w.heap.size + 1 + 1, 1, none⟩ v1).setCell ⟨w.heap.size + 1 + 1, 2, none⟩ v2).cell? ⟨w.heap.size, 0, none⟩ = some (.int .i64 x) ∧ (((w5.setCell ⟨w.heap.size + 1 + 1, 0, none⟩ v0).setCell ⟨w.heap.size + 1 + 1, 1, none⟩ v1).setCell ⟨w.heap.size + 1 + 1, 2, none⟩ v2).cell? ⟨w.heap.size, 1, none⟩ = some (.int .i64 y) ∧ (((w5.setCell ⟨w.heap.size + 1 + 1, 0, none⟩ v0).setCell ⟨w.heap.size + 1 + 1, 1, none⟩ v1).setCell ⟨w.heap.size + 1 + 1, 2, none⟩ v2).cell? ⟨w.heap.size, 2, none⟩ = some (.int .i64 k) ∧ (((w5.setCell ⟨w.heap.size + 1 + 1, 0, none⟩ v0).setCell ⟨w.heap.size + 1 + 1, 1, none⟩ v1).setCell ⟨w.heap.size + 1 + 1, 2, none⟩ v2).cell? ⟨w.heap.size + 1, 0, none⟩ = some (.int .i64 1) ∧ (((w5.setCell ⟨w.heap.size + 1 + 1, 0, none⟩ v0).setCell ⟨w.heap.size + 1 + 1, 1, none⟩ v1).setCell ⟨w.heap.size + 1 + 1, 2, none⟩ v2).cell? ⟨w.heap.size + 1, 1, none⟩ = some (.int .i64 0)) := fun w5 hb v0 v1 v2 => by
      have q := ((HF.out.1.step ((Below.refl _ _).drew.trans hb)).other3 (p := w.heap.size + 1 + 1) (by omega) (by omega) v0 v1 v2).cells3
      have p := ((HF.out.2.1.step ((Below.refl _ _).drew.trans hb)).other3 (p := w.heap.size + 1 + 1) (by omega) (by omega) v0 v1 v2).cells3
      exact ⟨q.1, q.2.1, q.2.2, p.1, p.2.1⟩
    go_region_held3 (fun w' => w'.cell? ⟨w.heap.size, 0, none⟩ = some (.int .i64 x) ∧ w'.cell? ⟨w.heap.size, 1, none⟩ = some (.int .i64 y) ∧ w'.cell? ⟨w.heap.size, 2, none⟩ = some (.int .i64 k) ∧ w'.cell? ⟨w.heap.size + 1, 0, none⟩ = some (.int .i64 1) ∧ w'.cell? ⟨w.heap.size + 1, 1, none⟩ = some (.int .i64 0)) (first | exact HS.out _ (by assumption) | exact HS2.out _ (by assumption) _ _ _ | go_keep) (first
      | (go_at_call 29; rw [WX.out, WY.out]; refine (GM.out _).mono ?_; rintro e w5 ⟨rfl, hb⟩; obtain ⟨r0, r1, r2⟩ := (HK.out _ hb).cells3; obtain ⟨g0, g1, g2⟩ := (HK.out _ hb).free3))
    go_wp2
    exact bodyPost_ret (v := .tuple #[.agg #[.int .i64 u0, .int .i64 u1, .int .i64 u2], .bool true]) (by simp [results, Tryd.f11, go_sem, r0, r1, r2]) rfl ⟨rfl, ((HK.out _ hb).set3 (by omega) (.int .i64 u0) (.int .i64 u1) (.int .i64 u2)).old⟩
  · have hlt : k < d := by omega
    have d1 : decide ((k : Int) < d) = true := by simp; omega
    obtain ⟨f0, f1, f2⟩ := HF.out.1.free3
    obtain ⟨f3, f4, f5⟩ := HF.out.2.1.free3
    have HF3 : Hid (Box w w.heap.size #[.int .i64 1, .int .i64 0, .int .i64 d] 34 ((((((w2.setCell ⟨w.heap.size, 0, none⟩ (.int .i64 1)).setCell ⟨w.heap.size, 1, none⟩ (.int .i64 0)).setCell ⟨w.heap.size, 2, none⟩ (.int .i64 d)).setCell ⟨w.heap.size + 1, 0, none⟩ (.int .i64 x)).setCell ⟨w.heap.size + 1, 1, none⟩ (.int .i64 y)).setCell ⟨w.heap.size + 1, 2, none⟩ (.int .i64 k)) ∧ Box w (w.heap.size + 1) #[.int .i64 x, .int .i64 y, .int .i64 k] 34 ((((((w2.setCell ⟨w.heap.size, 0, none⟩ (.int .i64 1)).setCell ⟨w.heap.size, 1, none⟩ (.int .i64 0)).setCell ⟨w.heap.size, 2, none⟩ (.int .i64 d)).setCell ⟨w.heap.size + 1, 0, none⟩ (.int .i64 x)).setCell ⟨w.heap.size + 1, 1, none⟩ (.int .i64 y)).setCell ⟨w.heap.size + 1, 2, none⟩ (.int .i64 k)) ∧ Box w (w.heap.size + 1 + 1) #[.int .i64 0, .int .i64 0, .int .i64 0] 34 ((((((w2.setCell ⟨w.heap.size, 0, none⟩ (.int .i64 1)).setCell ⟨w.heap.size, 1, none⟩ (.int .i64 0)).setCell ⟨w.heap.size, 2, none⟩ (.int .i64 d)).setCell ⟨w.heap.size + 1, 0, none⟩ (.int .i64 x)).setCell ⟨w.heap.size + 1, 1, none⟩ (.int .i64 y)).setCell ⟨w.heap.size + 1, 2, none⟩ (.int .i64 k))) := by
      refine ⟨?_, ?_, ?_⟩
      · exact (HF.out.1.set3 (Nat.le_refl _) _ _ _).other3 (by omega) (by omega) _ _ _
      · exact (HF.out.2.1.other3 (by omega) (by omega) _ _ _).set3 (by omega) _ _ _
      · exact (HF.out.2.2.other3 (by omega) (by omega) _ _ _).other3 (by omega) (by omega) _ _ _
    clear hkd
    go_upto_region 5 with fail
    clear a0 a1 a2 b0 b1 b2 f0 f1 f2 f3 f4 f5 HF
    generalize ((((((w2.setCell ⟨w.heap.size, 0, none⟩ (.int .i64 1)).setCell ⟨w.heap.size, 1, none⟩ (.int .i64 0)).setCell ⟨w.heap.size, 2, none⟩ (.int .i64 d)).setCell ⟨w.heap.size + 1, 0, none⟩ (.int .i64 x)).setCell ⟨w.heap.size + 1, 1, none⟩ (.int .i64 y)).setCell ⟨w.heap.size + 1, 2, none⟩ (.int .i64 k)) = w3 at *
    obtain ⟨a0, a1, a2⟩ := HF3.out.1.cells3
    obtain ⟨b0, b1, b2⟩ := HF3.out.2.1.cells3
    obtain ⟨f0, f1, f2⟩ := HF3.out.2.2.free3
    obtain ⟨r0, r1, r2⟩ := HF3.out.2.2.cells3
    by_cases hz : x = 0 ∧ y = 0
    · obtain ⟨rfl, rfl⟩ := hz
      have hk : k = 0 := by
        rcases H1.out.2.2 with h | h
        · exact h
        · exact absurd ⟨rfl, rfl⟩ h
      subst hk
      have hr2 : (u0, u1, u2) = (1, 0, d) := by
        have q1 := H1.out.1
        have q2 := H1.out.2.1
        rw [Int.zero_mul] at q1 q2
        rw [← HR.out, ← q1, ← q2]
        exact lowT_stop (by unfold evenB; simp)
      injection hr2 with e1 e2
      injection e2 with e2 e3
      subst e1 e2 e3
      have HZ := Lib.hid (HF3.out.2.2.set3 (by omega) (.int .i64 1) (.int .i64 0) (.int .i64 u2))
      go_wp2
      exact bodyPost_ret (v := .tuple #[.agg #[.int .i64 1, .int .i64 0, .int .i64 u2], .bool true]) (by simp [results, Tryd.f11, go_sem, r0, r1, r2]) rfl ⟨rfl, HZ.out.old⟩
    · clear r0 r1 r2
      obtain ⟨u, hu⟩ : ∃ u : Nat, (d : Int) - k = u := ⟨d - k, by omega⟩
      have hun : d - k = u := by omega
      have hu31 : u ≤ 11 := by omega
      rw [hun] at H1
      have g1 := H1.out.1
      have g2 := H1.out.2.1
      rw [show ((2 ^ u : Nat) : Int) = 2 ^ u by simp] at g1 g2
      have hX2 : -9223372036854775808 ≤ X + 1 ∧ X + 1 ≤ 9223372036854775807 := by omega
      have WX : Hid (IntKind.i64.wrap (1 + IntKind.i64.wrap (x * 2 ^ u)) = X + 1) := by
        show _ = _
        rw [g1, IntWalk.i64_in X (by omega), Int.add_comm, IntWalk.i64_in _ hX2]
      have WY : Hid (IntKind.i64.wrap (IntKind.i64.wrap (y * 2 ^ u)) = Y) := by
        show _ = _
        rw [g2, IntWalk.i64_in Y (by omega), IntWalk.i64_in Y (by omega)]
      clear g1 g2 hX2
      have HK : Hid (∀ w5, Below w3.drew.heap.size w3.drew w5 → Box w (w.heap.size + 1 + 1) #[.int .i64 0, .int .i64 0, .int .i64 0] 34 w5) := fun w5 hb => HF3.out.2.2.step ((Below.refl _ _).drew.trans hb)
      have HS : Hid (∀ w5, Below w3.drew.heap.size w3.drew w5 → w5.cell? ⟨w.heap.size, 0, none⟩ = some (.int .i64 1) ∧ w5.cell? ⟨w.heap.size, 1, none⟩ = some (.int .i64 0) ∧ w5.cell? ⟨w.heap.size, 2, none⟩ = some (.int .i64 d) ∧ w5.cell? ⟨w.heap.size + 1, 0, none⟩ = some (.int .i64 x) ∧ w5.cell? ⟨w.heap.size + 1, 1, none⟩ = some (.int .i64 y)) := fun w5 hb => by
        have q := (HF3.out.1.step ((Below.refl _ _).drew.trans hb)).cells3
        have p := (HF3.out.2.1.step ((Below.refl _ _).drew.trans hb)).cells3
        exact ⟨q.1, q.2.1, q.2.2, p.1, p.2.1⟩
      have HS2 : Hid (∀ w5, Below w3.drew.heap.size w3.drew w5 → ∀ v0 v1 v2, (((w5.setCell ⟨w.heap.size + 1 + 1, 0, none⟩ v0).setCell ⟨w.heap.size + 1 + 1, 1, none⟩ v1).setCell ⟨w.heap.size + 1 + 1, 2, none⟩ v2).cell? ⟨w.heap.size, 0, none⟩ = some (.int .i64 1) ∧ (((w5.setCell ⟨w.heap.size + 1 + 1, 0, none⟩ v0).setCell ⟨w.heap.size + 1 + 1, 1, none⟩ v1).setCell ⟨w.heap.size + 1 + 1, 2, none⟩ v2).cell? ⟨w.heap.size, 1, none⟩ = some (.int .i64 0) ∧ (((w5.setCell ⟨w.heap.size + 1 + 1, 0, none⟩ v0).setCell ⟨w.heap.size + 1 + 1, 1, none⟩ v1).setCell ⟨w.heap.size + 1 + 1, 2, none⟩ v2).cell? ⟨w.heap.size, 2, none⟩ = some (.int .i64 d) ∧ (((w5.setCell ⟨w.heap.size + 1 + 1, 0, none⟩ v0).setCell ⟨w.heap.size + 1 + 1, 1, none⟩ v1).setCell ⟨w.heap.size + 1 + 1, 2, none⟩ v2).cell? ⟨w.heap.size + 1, 0, none⟩ = some (.int .i64 x) ∧ (((w5.setCell ⟨w.heap.size + 1 + 1, 0, none⟩ v0).setCell ⟨w.heap.size + 1 + 1, 1, none⟩ v1).setCell ⟨w.heap.size + 1 + 1, 2, none⟩ v2).cell? ⟨w.heap.size + 1, 1, none⟩ = some (.int .i64 y)) := fun w5 hb v0 v1 v2 => by
        have q := ((HF3.out.1.step ((Below.refl _ _).drew.trans hb)).other3 (p := w.heap.size + 1 + 1) (by omega) (by omega) v0 v1 v2).cells3
        have p := ((HF3.out.2.1.step ((Below.refl _ _).drew.trans hb)).other3 (p := w.heap.size + 1 + 1) (by omega) (by omega) v0 v1 v2).cells3
        exact ⟨q.1, q.2.1, q.2.2, p.1, p.2.1⟩
      by_cases hx0 : x = 0
      · have hy0 : ¬ y = 0 := fun h => hz ⟨hx0, h⟩
        clear hz
        go_upto_region 7 with fail
        clear hx0 hy0
        go_upto_region 10 with fail
        go_region_held3 (fun w' => w'.cell? ⟨w.heap.size, 0, none⟩ = some (.int .i64 1) ∧ w'.cell? ⟨w.heap.size, 1, none⟩ = some (.int .i64 0) ∧ w'.cell? ⟨w.heap.size, 2, none⟩ = some (.int .i64 d) ∧ w'.cell? ⟨w.heap.size + 1, 0, none⟩ = some (.int .i64 x) ∧ w'.cell? ⟨w.heap.size + 1, 1, none⟩ = some (.int .i64 y)) (first | exact HS.out _ (by assumption) | exact HS2.out _ (by assumption) _ _ _ | go_keep) (first
          | (go_at_call 29; rw [WX.out, WY.out]; refine (GM.out _).mono ?_; rintro e w5 ⟨rfl, hb⟩; obtain ⟨r0, r1, r2⟩ := (HK.out _ hb).cells3; obtain ⟨g0, g1, g2⟩ := (HK.out _ hb).free3))
        go_wp2
        exact bodyPost_ret (v := .tuple #[.agg #[.int .i64 u0, .int .i64 u1, .int .i64 u2], .bool true]) (by simp [results, Tryd.f11, go_sem, r0, r1, r2]) rfl ⟨rfl, ((HK.out _ hb).set3 (by omega) (.int .i64 u0) (.int .i64 u1) (.int .i64 u2)).old⟩
      · clear hz
        go_upto_region 7 with fail
        clear hx0
        go_upto_region 10 with fail
        go_region_held3 (fun w' => w'.cell? ⟨w.heap.size, 0, none⟩ = some (.int .i64 1) ∧ w'.cell? ⟨w.heap.size, 1, none⟩ = some (.int .i64 0) ∧ w'.cell? ⟨w.heap.size, 2, none⟩ = some (.int .i64 d) ∧ w'.cell? ⟨w.heap.size + 1, 0, none⟩ = some (.int .i64 x) ∧ w'.cell? ⟨w.heap.size + 1, 1, none⟩ = some (.int .i64 y)) (first | exact HS.out _ (by assumption) | exact HS2.out _ (by assumption) _ _ _ | go_keep) (first
          | (go_at_call 29; rw [WX.out, WY.out]; refine (GM.out _).mono ?_; rintro e w5 ⟨rfl, hb⟩; obtain ⟨r0, r1, r2⟩ := (HK.out _ hb).cells3; obtain ⟨g0, g1, g2⟩ := (HK.out _ hb).free3))
        go_wp2
        exact bodyPost_ret (v := .tuple #[.agg #[.int .i64 u0, .int .i64 u1, .int .i64 u2], .bool true]) (by simp [results, Tryd.f11, go_sem, r0, r1, r2]) rfl ⟨rfl, ((HK.out _ hb).set3 (by omega) (.int .i64 u0) (.int .i64 u1) (.int .i64 u2)).old⟩
end Go.Proofs.YtdfoobemgdiobaaDoor
