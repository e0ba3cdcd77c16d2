/- Merged texts: BkA, BvP, BvS. -/
import Derived.Test.YtokbalggdhippaaGreatR5
import Derived.Test.YtokbalggdhippaaGreatR4
set_option linter.all false
section
namespace Go.Proofs.YtokbalggdhippaaGreat
open Go.RowKit
namespace Flo
open Ieee
theorem rung_mod (x:Nat):rung single (x % 4294967296)=rung single x:=by
 unfold rung
 rw [show single.signWeight=2147483648 from by decide]
 omega
theorem sgn_mod (x:Nat):sgn single (x % 4294967296)=sgn single x:=by
 unfold sgn
 rw [show single.signWeight=2147483648 from by decide]
 rw [show x % 4294967296 / 2147483648 % 2=x / 2147483648 % 2 from by omega]
theorem iv_mod (x:Nat):iv single (x % 4294967296)=iv single x:=by unfold iv; rw [rung_mod,sgn_mod]
theorem read_mod (x:Nat):single.read (x % 4294967296)=single.read x:=by
 have h1:=rung_mod x
 have h2:=sgn_mod x
 unfold rung at h1
 unfold sgn at h2
 unfold Format.read
 rw [h1,h2]
theorem ordL (x y:Nat):FloatKind.f32.format.order (x % 4294967296) y=FloatKind.f32.format.order x y:=by
 show (single.read _).order _=(single.read _).order _
 rw [read_mod]
theorem ordR (x y:Nat):FloatKind.f32.format.order x (y % 4294967296)=FloatKind.f32.format.order x y:=by
 show (single.read _).order (single.read _)=(single.read _).order (single.read _)
 rw [read_mod]
theorem convM (x:Nat):floatToFloatBits .f32 (x % 4294967296) .f64=floatToFloatBits .f32 x .f64:=by
 unfold floatToFloatBits
 rw [if_neg (by decide),if_neg (by decide)]
 rw [show FloatKind.decode .f32 (x % 4294967296)=FloatKind.decode .f32 x from read_mod x]
theorem addM (x y:Nat):floatBits .add .f32 (x % 4294967296) y=floatBits .add .f32 x y:=by
 show single.add _ _=single.add _ _
 unfold Format.add
 rw [read_mod]
theorem mulM (x y:Nat):floatBits .mul .f32 (x % 4294967296) y=floatBits .mul .f32 x y:=by
 show single.mul _ _=single.mul _ _
 unfold Format.mul
 rw [read_mod]
theorem inFour_mod (x:Nat):inFour (x % 4294967296)=inFour x:=by unfold inFour; simp only [ordL]
theorem wholeB_mod (x d:Nat):wholeB (x % 4294967296) d=wholeB x d:=by unfold wholeB; rw [inFour_mod,iv_mod]
end Flo
set_option maxRecDepth 100000 in
set_option maxHeartbeats 1000000 in
theorem cornerWell_okR (x d:Nat) (hd:d ≤ 11) (h:Flo.wholeB x d=true) (w:World):Calls Vp.prog 58 #[.float .f32 x,.int .i64 d] w fun e w' => e=.returned (.bool true) ∧ w=w':=by
 have hx:x % 4294967296 < 4294967296:=Nat.mod_lt _ (by decide)
 rw [← Flo.wholeB_mod] at h
 obtain ⟨A,hA,hb⟩:=Flo.whole_pt hx hd h
 have hdp:2 ^ d ≤ 2 ^ 11:=Nat.pow_le_pow_right (by omega) hd
 obtain ⟨y1,h1,v1⟩:=Flo.widen_val hA
 have hD:Flo.Val Ieee.double (floatOfInt .f64 ((2 ^ d:Nat):Int)) (((2 ^ d:Nat):Int) * (2 ^ Flo.u64:Nat)):=Flo.ofInt_val (k:=.f64) Flo.least64 _ (by rw [Int.natAbs_natCast]; show _ < 2 * Ieee.double.binade; rw [Flo.double_binade]; omega) (by show (Flo.u64 + 2) * Ieee.double.binade ≤ Ieee.double.infRung; rw [Flo.double_inf,Flo.u64_eq]; exact Nat.mul_le_mul_right _ (by omega))
 have hrep:Flo.Rep Ieee.double (A * (2 ^ Flo.u64:Nat)):=by
   refine Flo.rep_gen (m:=A.natAbs) (e:=Flo.u64) (by rw [Int.natAbs_mul,Int.natAbs_natCast]) (by rw [Flo.double_binade]; omega) ?_
   rw [Flo.double_inf,Flo.u64_eq]
   exact Nat.mul_le_mul_right _ (by omega)
 have hc:A * (2 ^ (Flo.u32 - d):Nat) * (2 ^ Flo.wup:Nat) * (((2 ^ d:Nat):Int) * (2 ^ Flo.u64:Nat))=A * (2 ^ Flo.u64:Nat) * (2 ^ Flo.u64:Nat):=by
   have e:(2 ^ (Flo.u32 - d) * 2 ^ Flo.wup * 2 ^ d:Nat)=2 ^ Flo.u64:=by
     rw [← Nat.pow_add,← Nat.pow_add]
     congr 1
     rw [Flo.u32_eq,Flo.wup_eq,Flo.u64_eq]; omega
   have e2:((2 ^ (Flo.u32 - d):Nat):Int) * (2 ^ Flo.wup:Nat) * (2 ^ d:Nat)=(2 ^ Flo.u64:Nat):=by
     have:=congrArg (fun x:Nat => (x:Int)) e
     simp only [Int.natCast_mul] at this
     exact this
   generalize ((2 ^ (Flo.u32 - d):Nat):Int)=P at *
   generalize ((2 ^ Flo.wup:Nat):Int)=Q at *
   generalize ((2 ^ Flo.u64:Nat):Int)=R at *
   generalize ((2 ^ d:Nat):Int)=S at *
   calc A * P * Q * (S * R)=A * (P * Q * S) * R:=by simp only [Int.mul_assoc]
     _=A * R * R:=by rw [e2]
 obtain ⟨y,hy,v2⟩:=Flo.mul_val (f:=Ieee.double) (c:=A * (2 ^ Flo.u64:Nat)) Flo.least64 v1 hD hc hrep
 have hF:=Lib.hid (mathFloor_is y A v2)
 have hee:Hid (∀ t,Flo.Val Ieee.double t (A * (2 ^ Flo.u64:Nat)) → (FloatKind.f64.format.order y t == some .eq)=true):=fun t ht => by rw [Flo.order_eq_val (k:=.f64) v2 ht]; simp
 obtain ⟨q,hq⟩:∃ q:Int,wrap64 (2 ^ d)=q:=⟨_,rfl⟩
 have hqd:((2 ^ d:Nat):Int)=q:=by rw [← hq,wrap_pow d hd]
 rw [hqd] at hy
 rw [Flo.convM] at h1
 have g1:=fun w => run_convert_float_float (P:=Vp.prog) w 63 109 .f32 .f64 _ _ (by kernel_rfl) (Vp.und Tryz.underlying109) h1
 have g2:=fun w => run_float_arith (P:=Vp.prog) w .mul 109 .f64 _ _ _ hy
 have hw:=Flo.inFour_val hx (by unfold Flo.wholeB at h; rw [Bool.and_eq_true] at h; exact h.1)
 have t1:(FloatKind.f32.format.order 3229614080 (x % 4294967296) == some .lt || FloatKind.f32.format.order 3229614080 (x % 4294967296) == some .eq)=true:=by
   rw [Flo.order_lt_val (k:=.f32) Flo.minus_four_val hw.1,Flo.order_eq_val (k:=.f32) Flo.minus_four_val hw.1]
   have:=hw.2
   simp only [Bool.or_eq_true,decide_eq_true_eq]
   generalize 2 ^ Flo.u32=U at *
   omega
 have t2:(FloatKind.f32.format.order (x % 4294967296) 1082130432 == some .lt || FloatKind.f32.format.order (x % 4294967296) 1082130432 == some .eq)=true:=by
   unfold Flo.wholeB Flo.inFour at h
   rw [Bool.and_eq_true,Bool.and_eq_true] at h
   exact h.1.2
 rw [Flo.ordR] at t1
 rw [Flo.ordL] at t2
 clear h hA hb hdp h1 v1 hD hrep hc hy v2 hqd hw hx
 go_enter Vp.func58,Tryz.ntmps58
 go_wp2_with (go_at_call 85; refine (hF.out _).mono ?_; rintro e w' ⟨⟨t,rfl,ht⟩,rfl⟩; have hte:=hee.out t ht; clear ht)
 go_ret
 exact ⟨rfl,rfl⟩
set_option maxRecDepth 100000 in
set_option maxHeartbeats 1000000 in
theorem cornerWell_noR (x d:Nat) (hd:d ≤ 11) (h:Flo.wholeB x d=false) (w:World):Calls Vp.prog 58 #[.float .f32 x,.int .i64 d] w fun e w' => e=.returned (.bool false) ∧ w=w':=by
 unfold Flo.wholeB at h
 cases hin:Flo.inFour x with
 | false =>
   unfold Flo.inFour at hin
   rw [← flip_ge] at hin
   cases t1:(FloatKind.f32.format.order 3229614080 x == some .lt || FloatKind.f32.format.order 3229614080 x == some .eq) with
   | false =>
     clear h hin
     go_enter Vp.func58,Tryz.ntmps58
     go_wp2
     go_ret
     exact ⟨rfl,rfl⟩
   | true =>
     rw [t1,Bool.true_and] at hin
     have t2:=hin
     clear h hin
     go_enter Vp.func58,Tryz.ntmps58
     go_wp2
     go_ret
     exact ⟨rfl,rfl⟩
 | true =>
   rw [hin,Bool.true_and,decide_eq_false_iff_not] at h
   obtain ⟨hv,hb⟩:=Flo.inFour_val (Nat.mod_lt x (by decide)) ((Flo.inFour_mod x).trans hin)
   rw [Flo.iv_mod] at hv hb
   obtain ⟨v,hvv⟩:∃ v,Flo.iv Ieee.single x=v:=⟨_,rfl⟩
   rw [hvv] at hv hb h
   have hdp:2 ^ d ≤ 2 ^ 11:=Nat.pow_le_pow_right (by omega) hd
   obtain ⟨y1,h1,v1⟩:=Flo.widen_val hv
   have hD:Flo.Val Ieee.double (floatOfInt .f64 ((2 ^ d:Nat):Int)) (((2 ^ d:Nat):Int) * (2 ^ Flo.u64:Nat)):=Flo.ofInt_val (k:=.f64) Flo.least64 _ (by rw [Int.natAbs_natCast]; show _ < 2 * Ieee.double.binade; rw [Flo.double_binade]; omega) (by show (Flo.u64 + 2) * Ieee.double.binade ≤ Ieee.double.infRung; rw [Flo.double_inf,Flo.u64_eq]; exact Nat.mul_le_mul_right _ (by omega))
   have hdg:=Flo.val_digits hv
   have hre:=Flo.re_lt (e:=254) hv.fin (by decide)
   have hrm:=Flo.rm_lt Ieee.single (Flo.rung Ieee.single (x % 4294967296))
   rw [Flo.single_binade] at hrm
   have hrep:Flo.Rep Ieee.double (v * (2 ^ Flo.wup:Nat) * (2 ^ d:Nat)):=by
     refine Flo.rep_gen (m:=Flo.rm Ieee.single (Flo.rung Ieee.single (x % 4294967296))) (e:=Flo.re Ieee.single (Flo.rung Ieee.single (x % 4294967296)) + Flo.wup + d) ?_ (by rw [Flo.double_binade]; omega) ?_
     · rw [Int.natAbs_mul,Int.natAbs_mul,Int.natAbs_natCast,Int.natAbs_natCast,hdg,Nat.pow_add,Nat.pow_add]
       simp only [Nat.mul_assoc]
     · rw [Flo.double_inf,Flo.wup_eq]; exact Nat.mul_le_mul_right _ (by omega)
   have hc:v * (2 ^ Flo.wup:Nat) * (((2 ^ d:Nat):Int) * (2 ^ Flo.u64:Nat))=v * (2 ^ Flo.wup:Nat) * (2 ^ d:Nat) * (2 ^ Flo.u64:Nat):=by
     simp only [Int.mul_assoc]
   obtain ⟨y,hy,v2⟩:=Flo.mul_val (f:=Ieee.double) (c:=v * (2 ^ Flo.wup:Nat) * (2 ^ d:Nat)) Flo.least64 v1 hD hc hrep
   have hU:(2 ^ Flo.u64:Nat)=2 ^ Flo.u32 * 2 ^ Flo.wup:=by rw [← Nat.pow_add]; congr 1
   have hV:(v * (2 ^ Flo.wup:Nat) * (2 ^ d:Nat)).natAbs ≤ 1048576 * 2 ^ Flo.u64:=by
     rw [Int.natAbs_mul,Int.natAbs_mul,Int.natAbs_natCast,Int.natAbs_natCast,hU]
     calc v.natAbs * 2 ^ Flo.wup * 2 ^ d ≤ (4 * 2 ^ Flo.u32) * 2 ^ Flo.wup * 2 ^ 11:=Nat.mul_le_mul (Nat.mul_le_mul_right _ hb) hdp
       _=8192 * (2 ^ Flo.u32 * 2 ^ Flo.wup):=by rw [Nat.mul_comm,← Nat.mul_assoc,← Nat.mul_assoc,Nat.mul_assoc]
       _ ≤ 1048576 * (2 ^ Flo.u32 * 2 ^ Flo.wup):=Nat.mul_le_mul_right _ (by omega)
   have hne:∀ B:Int,v * (2 ^ Flo.wup:Nat) * (2 ^ d:Nat) ≠ B * (2 ^ Flo.u64:Nat):=by
     intro B hB
     apply h
     rw [hU,Int.natCast_mul,← Int.mul_assoc,Int.mul_right_comm v] at hB
     have hp:((2 ^ Flo.wup:Nat):Int) ≠ 0:=by have:=Nat.two_pow_pos Flo.wup; omega
     have:=Int.eq_of_mul_eq_mul_right hp hB
     rw [this]
     exact Int.mul_emod_left _ _
   have hF:=Lib.hid (mathFloor_any y _ v2 hV)
   have hee:Hid (∀ (t:Nat) (B:Int),Flo.Val Ieee.double t (B * (2 ^ Flo.u64:Nat)) → (FloatKind.f64.format.order y t == some .eq)=false):=fun t B ht => by rw [Flo.order_eq_val (k:=.f64) v2 ht]; simpa using hne B
   obtain ⟨q,hq⟩:∃ q:Int,wrap64 (2 ^ d)=q:=⟨_,rfl⟩
   have hqd:((2 ^ d:Nat):Int)=q:=by rw [← hq,wrap_pow d hd]
   rw [hqd] at hy
   rw [Flo.convM] at h1
   have g1:=fun w => run_convert_float_float (P:=Vp.prog) w 63 109 .f32 .f64 _ _ (by kernel_rfl) (Vp.und Tryz.underlying109) h1
   have g2:=fun w => run_float_arith (P:=Vp.prog) w .mul 109 .f64 _ _ _ hy
   unfold Flo.inFour at hin
   rw [← flip_ge,Bool.and_eq_true] at hin
   obtain ⟨t1,t2⟩:=hin
   clear h hv hb hvv hdp h1 v1 hD hdg hre hrm hrep hc hy v2 hqd hU hV hne
   go_enter Vp.func58,Tryz.ntmps58
   go_wp2_with (go_at_call 85; refine (hF.out _).mono ?_; rintro e w' ⟨⟨t,B,rfl,ht⟩,rfl⟩; have hte:=hee.out t B ht; clear ht)
   go_ret
   exact ⟨rfl,rfl⟩
theorem cornerWell_isR (x d:Nat) (hd:d ≤ 11) (w:World):Calls Vp.prog 58 #[.float .f32 x,.int .i64 d] w fun e w' => e=.returned (.bool (Flo.wholeB x d)) ∧ w=w':=by
 cases h:Flo.wholeB x d with
 | true => exact cornerWell_okR x d hd h w
 | false => exact cornerWell_noR x d hd h w
set_option maxRecDepth 100000 in
set_option maxHeartbeats 1000000 in
theorem placeWell_isR (cx cy:Nat) (deep size:Int) (w:World):Calls Vp.prog 33 #[.complex .f32 cx cy,.int .i64 deep,.int .i64 size] w fun e w' => e=.returned (.bool (placeB cx cy deep size)) ∧ w=w':=by
 by_cases hin:0 ≤ deep ∧ deep ≤ 10 ∧ 1 ≤ size ∧ size ≤ 8
 · obtain ⟨d,rfl⟩:=Int.eq_ofNat_of_zero_le hin.1
   have hX:=Lib.hid (cornerWell_isR cx d (by omega))
   have hY:=Lib.hid (cornerWell_isR cy d (by omega))
   have HP:Hid (placeB cx cy d size=(Flo.wholeB cx d && Flo.wholeB cy d)):=by
     show _=_
     unfold placeB inB
     rw [Int.toNat_natCast,decide_eq_true hin.1,decide_eq_true hin.2.1,decide_eq_true hin.2.2.1,decide_eq_true hin.2.2.2]
     rfl
   have a1:decide ((d:Int) < 0)=false:=by simp
   have a2:decide (10 < (d:Int))=false:=by simp; omega
   have a3:decide (size < 1)=false:=by simp; omega
   have a4:decide (8 < size)=false:=by simp; omega
   rw [HP.out]
   generalize Flo.wholeB cx d=b1 at *
   generalize Flo.wholeB cy d=b2 at *
   clear HP hin
   cases b1 <;> cases b2
   all_goals
     go_enter Vp.func33,Tryz.ntmps33
     go_wp2_with (first | (go_at_call 58; (with_reducible refine (hX.out _).mono ?_); rintro e w' ⟨rfl,rfl⟩) | (go_at_call 58; (with_reducible refine (hY.out _).mono ?_); rintro e w' ⟨rfl,rfl⟩))
     go_ret
     exact ⟨rfl,rfl⟩
 · have HP:Hid (placeB cx cy deep size=false):=by
     show _=false
     cases h:placeB cx cy deep size with
     | false => rfl
     | true => exact absurd (placeB_bd h) (by omega)
   rw [HP.out]
   clear HP
   by_cases a1:deep < 0
   · have a1:=decide_eq_true a1
     go_enter Vp.func33,Tryz.ntmps33
     go_wp2
     go_ret
     exact ⟨rfl,rfl⟩
   · by_cases a2:10 < deep
     · have a1:=decide_eq_false a1
       have a2:=decide_eq_true a2
       go_enter Vp.func33,Tryz.ntmps33
       go_wp2
       go_ret
       exact ⟨rfl,rfl⟩
     · by_cases a3:size < 1
       · have a1:=decide_eq_false a1
         have a2:=decide_eq_false a2
         have a3:=decide_eq_true a3
         go_enter Vp.func33,Tryz.ntmps33
         go_wp2
         go_ret
         exact ⟨rfl,rfl⟩
       · have a4:8 < size:=by omega
         have a1:=decide_eq_false a1
         have a2:=decide_eq_false a2
         have a3:=decide_eq_false a3
         have a4:=decide_eq_true a4
         clear hin
         go_enter Vp.func33,Tryz.ntmps33
         go_wp2
         go_ret
         exact ⟨rfl,rfl⟩
set_option maxRecDepth 100000 in
set_option maxHeartbeats 1000000 in
theorem l7Whole_isR (x d:Nat) (hd:d ≤ 11) (w:World):Calls Vp.prog 77 #[.float .f32 x,.int .i64 d] w fun e w' => e=.returned (.bool (Flo.wholeB x d)) ∧ Drw w w':=by
 have hdp:2 ^ d ≤ 2 ^ 11:=Nat.pow_le_pow_right (by omega) hd
 obtain ⟨q,hq⟩:∃ q:Int,wrap64 (2 ^ d)=q:=⟨_,rfl⟩
 have hqd:((2 ^ d:Nat):Int)=q:=by rw [← hq,wrap_pow d hd]
 cases h4:Flo.inFour x with
 | false =>
   have hw:Flo.wholeB x d=false:=by unfold Flo.wholeB; rw [h4]; rfl
   rw [hw]
   obtain ⟨y,w1,h1,_,d1⟩:=Flo.arith_any (P:=Vp.prog) .mul (by simp) 63 .f32 x (floatOfInt .f32 q) w
   have HD:=Lib.hid d1
   unfold Flo.inFour at h4
   clear d1 hqd hdp hw
   cases b1:(FloatKind.f32.format.order x 3229614080 == some .gt || FloatKind.f32.format.order x 3229614080 == some .eq) with
   | false =>
     clear h4
     go_enter Vp.func77,Tryz.ntmps77
     go_wp2
     go_ret
     exact ⟨rfl,HD.out⟩
   | true =>
     rw [b1,Bool.true_and] at h4
     go_enter Vp.func77,Tryz.ntmps77
     go_wp2
     go_ret
     exact ⟨rfl,HD.out⟩
 | true =>
   obtain ⟨y,n,h1,h2,-,-,h3⟩:=Flo.whole_steps (Nat.mod_lt x (by decide)) hd ((Flo.inFour_mod x).trans h4)
   rw [Flo.mulM] at h1
   rw [Flo.iv_mod] at h3
   have hw:Flo.wholeB x d=(FloatKind.f32.format.order (floatOfInt .f32 n) y == some .eq):=by unfold Flo.wholeB; rw [h4,h3]; rfl
   rw [hw]
   rw [hqd] at h1
   have g1:∀ w,(binOp .mul 63 (.float .f32 x) (.float .f32 (floatOfInt .f32 q))).run Vp.prog w=.ok (.float .f32 y) w:=fun w => run_float_arith w .mul _ .f32 _ _ _ h1
   have g2:∀ w,(convert 63 3 (.float .f32 y)).run Vp.prog w=.ok (.int .i64 n) w:=fun w => run_convert_float_int w _ _ .f32 .i64 _ _ (by kernel_rfl) (Vp.und Tryz.underlying3) h2
   unfold Flo.inFour at h4
   rw [Bool.and_eq_true] at h4
   obtain ⟨b1,b2⟩:=h4
   clear h1 h2 h3 hw hqd hdp
   cases b3:(FloatKind.f32.format.order (floatOfInt .f32 n) y == some .eq) with
   | false =>
     go_enter Vp.func77,Tryz.ntmps77
     go_wp2
     go_ret
     exact ⟨rfl,Drw.refl _⟩
   | true =>
     go_enter Vp.func77,Tryz.ntmps77
     go_wp2
     go_ret
     exact ⟨rfl,Drw.refl _⟩
set_option maxHeartbeats 1000000 in
theorem l7Place_isR (cx cy:Nat) (deep size:Int) (w:World):Calls Vp.prog 51 #[.complex .f32 cx cy,.int .i64 deep,.int .i64 size] w fun e w' => e=.returned (.bool (placeB cx cy deep size)) ∧ Drw w w':=by
 unfold placeB
 cases h1:inB deep 0 10 with
 | false =>
   go_enter Vp.func51,Tryz.ntmps51
   go_wp2_with (go_at_call 44; refine (l6In_any _ _ _ _).mono ?_; rintro e w' ⟨rfl,rfl⟩)
   go_ret
   exact ⟨rfl,Drw.refl _⟩
 | true =>
   cases h2:inB size 1 8 with
   | false =>
     go_enter Vp.func51,Tryz.ntmps51
     go_wp2_with (go_at_call 44; refine (l6In_any _ _ _ _).mono ?_; rintro e w' ⟨rfl,rfl⟩)
     go_ret
     exact ⟨rfl,Drw.refl _⟩
   | true =>
     obtain ⟨d,rfl,hd⟩:∃ d:Nat,deep=d ∧ d ≤ 11:=by
       unfold inB at h1
       simp only [Bool.and_eq_true,decide_eq_true_eq] at h1
       exact ⟨deep.toNat,by omega,by omega⟩
     rw [Int.toNat_natCast]
     have HX:=Lib.hid (fun w => l7Whole_isR cx d hd w)
     have HY:=Lib.hid (fun w => l7Whole_isR cy d hd w)
     cases h3:Flo.wholeB cx d with
     | false =>
       rw [h3] at HX
       go_enter Vp.func51,Tryz.ntmps51
       go_wp2_with (first | (go_at_call 44; refine (l6In_any _ _ _ _).mono ?_; rintro e w' ⟨rfl,rfl⟩) | (go_at_call 77; refine (HX.out _).mono ?_; rintro e w1 ⟨rfl,d1⟩; have H1:=Lib.hid d1; clear d1))
       go_ret
       exact ⟨rfl,H1.out⟩
     | true =>
       rw [h3] at HX
       cases h4:Flo.wholeB cy d with
       | false =>
         rw [h4] at HY
         go_enter Vp.func51,Tryz.ntmps51
         go_wp2_with (first | (go_at_call 44; refine (l6In_any _ _ _ _).mono ?_; rintro e w' ⟨rfl,rfl⟩) | (go_at_call 77; refine (HX.out _).mono ?_; rintro e w1 ⟨rfl,d1⟩; have H1:=Lib.hid d1; clear d1 HX) | (go_at_call 77; refine (HY.out _).mono ?_; rintro e w2 ⟨rfl,d1⟩; have H2:=Lib.hid (H1.out.trans d1); clear d1))
         go_ret
         exact ⟨rfl,H2.out⟩
       | true =>
         rw [h4] at HY
         go_enter Vp.func51,Tryz.ntmps51
         go_wp2_with (first | (go_at_call 44; refine (l6In_any _ _ _ _).mono ?_; rintro e w' ⟨rfl,rfl⟩) | (go_at_call 77; refine (HX.out _).mono ?_; rintro e w1 ⟨rfl,d1⟩; have H1:=Lib.hid d1; clear d1 HX) | (go_at_call 77; refine (HY.out _).mono ?_; rintro e w2 ⟨rfl,d1⟩; have H2:=Lib.hid (H1.out.trans d1); clear d1))
         go_ret
         exact ⟨rfl,H2.out⟩
end Go.Proofs.YtokbalggdhippaaGreat
end

section
namespace Go.Proofs.YtokbalggdhippaaGreat
def sqLo (l h:Int):Int:=if l ≤ 0 ∧ 0 ≤ h then 0 else min (l * l) (h * h)
def sqHi (l h:Int):Int:=max (l * l) (h * h)
def cei (a k:Int):Int:=-((-a) / k)
structure Bx where
 a:Int
 b:Int
 c:Int
 d:Int
def Bx.val (x:Bx):Value:=boxV x.a x.b x.c x.d
def Bx.ok (x:Bx):Bool:=boxOK x.a x.b x.c x.d
theorem Bx.bd {x:Bx} (h:x.ok=true):-134217728 ≤ x.a ∧ x.a ≤ x.b ∧ x.b ≤ 134217728 ∧ -134217728 ≤ x.c ∧ x.c ≤ x.d ∧ x.d ≤ 134217728:=by
 unfold Bx.ok boxOK inB at h
 simp only [Bool.and_eq_true,decide_eq_true_eq] at h
 omega
def mLo (x:Bx):Int:=min (min (x.a * x.c) (x.a * x.d)) (min (x.b * x.c) (x.b * x.d))
def mHi (x:Bx):Int:=max (max (x.a * x.c) (x.a * x.d)) (max (x.b * x.c) (x.b * x.d))
def Bx.sq (x:Bx):Bx:=⟨(sqLo x.a x.b - sqHi x.c x.d) / 16777216,cei (sqHi x.a x.b - sqLo x.c x.d) 16777216,2 * mLo x / 16777216,cei (2 * mHi x) 16777216⟩
def Bx.add (x y:Bx):Bx:=⟨x.a + y.a,x.b + y.b,x.c + y.c,x.d + y.d⟩
def Bx.next (c z:Bx):Option Bx:=if z.sq.ok=true then (if (z.sq.add c).ok=true then some (z.sq.add c) else none) else none
def orbB (c:Bx):Nat → Option Bx
 | 0 => some ⟨0,0,0,0⟩
 | k + 1 => (orbB c k).bind (Bx.next c)
def nLo (z:Bx):Int:=sqLo z.a z.b + sqLo z.c z.d
def nHi (z:Bx):Int:=sqHi z.a z.b + sqHi z.c z.d
def outB (c:Bx) (k:Nat):Bool:=match orbB c k with
 | some z => decide (1125899906842624 < nLo z)
 | none => false
def whB (c:Bx) (M:Nat):Bool:=(List.range (M + 1)).any (outB c)
def Bx.coarse (x:Bx):Bx:=⟨x.a / 4096,cei x.b 4096,x.c / 4096,cei x.d 4096⟩
def discB (x:Bx):Int:=sqHi (x.coarse.a + 4096) (x.coarse.b + 4096) + sqHi x.coarse.c x.coarse.d - 1048576
def cardG (x:Bx):Int:=sqHi (x.coarse.a - 1024) (x.coarse.b - 1024) + sqHi x.coarse.c x.coarse.d + (x.coarse.b - 1024) * 4096
def cardB (x:Bx):Int:=(if cardG x < 0 then sqLo (x.coarse.a - 1024) (x.coarse.b - 1024) + sqLo x.coarse.c x.coarse.d else sqHi (x.coarse.a - 1024) (x.coarse.b - 1024) + sqHi x.coarse.c x.coarse.d) * cardG x - sqLo x.coarse.c x.coarse.d * 4194304
def stB (x:Bx) (M:Nat):Int:=if cardB x ≤ 0 ∨ discB x ≤ 0 then 1 else if whB x M=true then -1 else 0
theorem sq_nn (x:Int):0 ≤ x * x:=by
 rcases Int.le_total 0 x with h | h
 · exact Int.mul_nonneg h h
 · exact Int.mul_nonneg_of_nonpos_of_nonpos h h
theorem sq_le {x k:Int} (h1:-k ≤ x) (h2:x ≤ k):x * x ≤ k * k:=by
 rcases Int.le_total 0 x with h | h
 · exact Int.mul_le_mul h2 h2 h (by omega)
 · have:(-x) * (-x) ≤ k * k:=Int.mul_le_mul (by omega) (by omega) (by omega) (by omega)
   rwa [Int.neg_mul_neg] at this
theorem mul_bd {x y k:Int} (h1:-k ≤ x) (h2:x ≤ k) (h3:-k ≤ y) (h4:y ≤ k):-(k * k) ≤ x * y ∧ x * y ≤ k * k:=by
 have hk:0 ≤ k:=by omega
 have key:∀ p q:Int,0 ≤ p → p ≤ k → 0 ≤ q → q ≤ k → 0 ≤ p * q ∧ p * q ≤ k * k:=fun p q a b c d => ⟨Int.mul_nonneg a c,Int.mul_le_mul b d c hk⟩
 rcases Int.le_total 0 x with h | h <;> rcases Int.le_total 0 y with g | g
 · have:=key x y h h2 g h4
   omega
 · have:=key x (-y) h h2 (by omega) (by omega)
   rw [Int.mul_neg] at this
   omega
 · have:=key (-x) y (by omega) (by omega) g h4
   rw [Int.neg_mul] at this
   omega
 · have:=key (-x) (-y) (by omega) (by omega) (by omega) (by omega)
   rw [Int.neg_mul_neg] at this
   omega
theorem sqLo_bd {l h k:Int} (h1:-k ≤ l) (h2:l ≤ k):0 ≤ sqLo l h ∧ sqLo l h ≤ k * k:=by
 have a:=sq_nn l
 have b:=sq_nn h
 have c:=sq_le h1 h2
 unfold sqLo
 split <;> omega
theorem sqHi_bd {l h k:Int} (h1:-k ≤ l) (h2:l ≤ k) (h3:-k ≤ h) (h4:h ≤ k):0 ≤ sqHi l h ∧ sqHi l h ≤ k * k:=by
 have a:=sq_nn l
 have b:=sq_nn h
 have c:=sq_le h1 h2
 have d:=sq_le h3 h4
 unfold sqHi
 omega
end Go.Proofs.YtokbalggdhippaaGreat
end

section
namespace Go.Proofs.YtokbalggdhippaaGreat
open Go.RowKit
theorem w64 {x:Int} (h1:-9223372036854775808 ≤ x) (h2:x ≤ 9223372036854775807):wrap64 x=x:=IntWalk.wrap64_in _ ⟨h1,h2⟩
theorem floor_t (a b:Int) (hb:0 < b):a / b=if a.tmod b ≠ 0 ∧ a < 0 then a.tdiv b - 1 else a.tdiv b:=by
 rcases Int.le_total 0 a with h | h
 · rw [if_neg (by omega),Int.tdiv_eq_ediv_of_nonneg h]
 · by_cases ha:a=0
   · subst ha
     simp
   have h1:a.tdiv b=-((-a) / b):=by
     have:a.tdiv b=-((-a).tdiv b):=by rw [Int.neg_tdiv,Int.neg_neg]
     rw [this,Int.tdiv_eq_ediv_of_nonneg (by omega)]
   have h2:a.tmod b=-((-a) % b):=by
     have:a.tmod b=-((-a).tmod b):=by rw [Int.neg_tmod,Int.neg_neg]
     rw [this,Int.tmod_eq_emod_of_nonneg (by omega)]
   rw [h1,h2]
   have e1:=Int.mul_ediv_add_emod (-a) b
   have e2:=Int.emod_nonneg (-a) (Int.ne_of_gt hb)
   have e3:=Int.emod_lt_of_pos (-a) hb
   generalize (-a) / b=q at *
   generalize (-a) % b=r at *
   split
   · rw [Int.ediv_eq_iff_of_pos hb]
     rw [Int.sub_mul,Int.neg_mul,Int.mul_comm q b]
     omega
   · rename_i hn
     rw [Int.ediv_eq_iff_of_pos hb,Int.neg_mul,Int.mul_comm q b]
     have:r=0:=by omega
     omega
set_option maxHeartbeats 400000 in
theorem l4Floor_is (a b:Int) (hb:0 < b) (h1:-4611686018427387904 ≤ a) (h2:a ≤ 4611686018427387904) (w:World):Calls Vp.prog 132 #[.int .i64 a,.int .i64 b] w fun e w' => e=.returned (.int .i64 (a / b)) ∧ w=w':=by
 have hf:=floor_t a b hb
 have hz:(b == 0)=false:=by rw [beq_eq_false_iff_ne]; omega
 have hq1:-4611686018427387904 ≤ a.tdiv b ∧ a.tdiv b ≤ 4611686018427387904:=by
   have e1:(a.tdiv b).natAbs ≤ a.natAbs:=by rw [Int.natAbs_tdiv]; exact Nat.div_le_self _ _
   omega
 obtain ⟨q,hq⟩:∃ q,a.tdiv b=q:=⟨_,rfl⟩
 obtain ⟨m,hm⟩:∃ m,a.tmod b=m:=⟨_,rfl⟩
 obtain ⟨r,hr⟩:∃ r,a / b=r:=⟨_,rfl⟩
 rw [hq,hm,hr] at hf
 rw [hq] at hq1
 rw [hr]
 have HB:=Lib.hid hq1
 have hw1:wrap64 q=q:=w64 (by omega) (by omega)
 have hw2:wrap64 (q - 1)=q - 1:=w64 (by omega) (by omega)
 have hb':b ≠ 0:=by omega
 clear hq1 hr hb
 by_cases h0:m=0
 · have t1:(m != 0)=false:=by rw [h0]; rfl
   rw [if_neg (by omega)] at hf
   subst hf
   clear h0 h1 h2
   go_enter Vp.func132,Tryz.ntmps132
   go_wp2
   go_ret
   exact ⟨ret_int (by first | rfl | exact hw1),rfl⟩
 · have t1:(m != 0)=true:=by simpa using h0
   by_cases h3:a < 0
   · rw [if_pos ⟨h0,h3⟩] at hf
     subst hf
     clear h0 h1 h2
     go_enter Vp.func132,Tryz.ntmps132
     go_wp2
     go_ret
     exact ⟨ret_int (by first | rfl | exact hw2 | rw [hw1,hw2]),rfl⟩
   · rw [if_neg (by omega)] at hf
     subst hf
     clear h0 h1 h2
     go_enter Vp.func132,Tryz.ntmps132
     go_wp2
     go_ret
     exact ⟨ret_int (by first | rfl | exact hw1),rfl⟩
set_option maxHeartbeats 400000 in
theorem l4Ceil_is (a b:Int) (hb:0 < b) (h1:-4611686018427387904 ≤ a) (h2:a ≤ 4611686018427387904) (w:World):Calls Vp.prog 133 #[.int .i64 a,.int .i64 b] w fun e w' => e=.returned (.int .i64 (cei a b)) ∧ w=w':=by
 have hw1:wrap64 (-a)=-a:=w64 (by omega) (by omega)
 have hq1:-4611686018427387904 ≤ (-a) / b ∧ (-a) / b ≤ 4611686018427387904:=by
   have e1:=Int.mul_ediv_add_emod (-a) b
   have e2:=Int.emod_nonneg (-a) (Int.ne_of_gt hb)
   have e3:=Int.emod_lt_of_pos (-a) hb
   constructor
   · apply Int.le_ediv_of_mul_le hb
     have:-4611686018427387904 * b ≤ -4611686018427387904 * 1:=Int.mul_le_mul_of_nonpos_left (by omega) (by omega)
     omega
   · apply Int.ediv_le_of_le_mul hb
     have:4611686018427387904 * 1 ≤ 4611686018427387904 * b:=Int.mul_le_mul_of_nonneg_left (by omega) (by omega)
     omega
 have hw2:wrap64 (-((-a) / b))=cei a b:=w64 (by omega) (by omega)
 have HF:=Lib.hid (l4Floor_is (-a) b hb (by omega) (by omega))
 clear hq1 h1 h2 hb
 rw [← hw1] at HF
 obtain ⟨q,hq⟩:∃ q,wrap64 (-a) / b=q:=⟨_,rfl⟩
 rw [hq] at HF
 rw [hw1] at hq
 rw [hq] at hw2
 clear hw1 hq
 go_enter Vp.func133,Tryz.ntmps133
 go_wp2_with fail
 refine (HF.out _).mono ?_
 rintro e w1 ⟨rfl,rfl⟩
 go_wp2
 go_ret
 exact ⟨ret_int (by first | rfl | exact hw2),rfl⟩
set_option maxHeartbeats 400000 in
theorem l4Square_is (a b:Int) (h1:-1000000000 ≤ a) (h2:a ≤ 1000000000) (h3:-1000000000 ≤ b) (h4:b ≤ 1000000000) (w:World):Calls Vp.prog 101 #[.int .i64 a,.int .i64 b] w fun e w' => e=.returned (.tuple #[.int .i64 (sqLo a b),.int .i64 (sqHi a b)]) ∧ w=w':=by
 have a1:=sq_nn a
 have a2:=sq_le h1 h2
 have b1:=sq_nn b
 have b2:=sq_le h3 h4
 obtain ⟨p,hp,hpv⟩:∃ p,wrap64 (a * a)=p ∧ p=a * a:=⟨_,rfl,w64 (by omega) (by omega)⟩
 obtain ⟨q,hq,hqv⟩:∃ q,wrap64 (b * b)=q ∧ q=b * b:=⟨_,rfl,w64 (by omega) (by omega)⟩
 have HV:Hid (sqLo a b=(if a ≤ 0 ∧ 0 ≤ b then 0 else min p q) ∧ sqHi a b=max p q):=by rw [hpv,hqv]; exact ⟨rfl,rfl⟩
 clear a1 a2 b1 b2 h1 h2 h3 h4 hpv hqv
 generalize sqLo a b=r at *
 generalize sqHi a b=s at *
 obtain ⟨m,hm⟩:∃ m,(if q < p then q else p)=m:=⟨_,rfl⟩
 obtain ⟨n,hn⟩:∃ n,(if p < q then q else p)=n:=⟨_,rfl⟩
 have HM:Hid (m=min p q):=by show m=_; rw [← hm]; split <;> omega
 have HN:Hid (n=max p q):=by show n=_; rw [← hn]; split <;> omega
 by_cases h0:a ≤ 0
 · by_cases h1:0 ≤ b
   · have h:=HV.out
     rw [if_pos ⟨h0,h1⟩,← HN.out] at h
     obtain ⟨rfl,rfl⟩:=h
     clear HV HM HN
     go_enter Vp.func101,Tryz.ntmps101
     go_wp2
     all_goals
       go_ret2
       exact ⟨rfl,rfl⟩
   · have h:=HV.out
     rw [if_neg (by omega),← HN.out,← HM.out] at h
     obtain ⟨rfl,rfl⟩:=h
     clear HV HM HN
     go_enter Vp.func101,Tryz.ntmps101
     go_wp2
     all_goals
       go_ret2
       exact ⟨rfl,rfl⟩
 · have h:=HV.out
   rw [if_neg (by omega),← HN.out,← HM.out] at h
   obtain ⟨rfl,rfl⟩:=h
   clear HV HM HN
   go_enter Vp.func101,Tryz.ntmps101
   go_wp2
   all_goals
     go_ret2
     exact ⟨rfl,rfl⟩
end Go.Proofs.YtokbalggdhippaaGreat
end
