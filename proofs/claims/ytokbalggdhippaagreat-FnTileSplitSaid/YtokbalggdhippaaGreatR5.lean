/- Merged texts: TilF, TrdF. -/
import Derived.Test.YtokbalggdhippaaGreatR4
import Derived.Outline
set_option linter.all false
section
namespace Go.Proofs.YtokbalggdhippaaGreat
open Go.RowKit
theorem cut_down (neg:Bool) (t drop:Nat):Ieee.Toward.down.cut neg (t * 2 ^ drop) drop=t:=by
 unfold Ieee.Toward.cut
 simp only []
 by_cases hd:drop ≤ (t * 2 ^ drop).log2 + 2
 · rw [Nat.min_eq_left hd,Nat.one_shiftLeft,Nat.mul_div_cancel _ (Nat.two_pow_pos _),Nat.mul_mod_left]; simp
 · have h0:t=0:=by
     rcases Nat.eq_zero_or_pos t with h | h
     · exact h
     · exfalso
       have hlt:t * 2 ^ drop < 2 ^ ((t * 2 ^ drop).log2 + 1):=Nat.lt_log2_self
       have h2:2 ^ ((t * 2 ^ drop).log2 + 1) ≤ 2 ^ drop:=Nat.pow_le_pow_right (by omega) (by omega)
       have h3:=Nat.mul_le_mul_right (2 ^ drop) h
       omega
   subst h0; simp
theorem floor_val {z:Nat} {A:Int} (hz:Flo.Val Ieee.double z (A * (2 ^ Flo.u64:Nat))) :
   ∃ s m e,FloatKind.f64.decode z=.number s m e ∧ Flo.Val Ieee.double (FloatKind.f64.encode ((Ieee.Datum.number s m e).integral .down)) (A * (2 ^ Flo.u64:Nat)):=by
 refine ⟨_,_,_,Flo.read_fin hz.fin,?_⟩
 have hd:=Flo.val_digits hz
 rw [Int.natAbs_mul,Int.natAbs_natCast] at hd
 have hm:Ieee.Toward.down.cut (Flo.sgn Ieee.double z) (Flo.rm Ieee.double (Flo.rung Ieee.double z) <<< (Ieee.double.leastPlace + Flo.re Ieee.double (Flo.rung Ieee.double z)).toNat) (-(Ieee.double.leastPlace + (Flo.re Ieee.double (Flo.rung Ieee.double z):Int))).toNat=A.natAbs:=by
   rw [Flo.least64]
   generalize Flo.re Ieee.double (Flo.rung Ieee.double z)=e at *
   generalize Flo.rm Ieee.double (Flo.rung Ieee.double z)=m at *
   generalize Flo.sgn Ieee.double z=s at *
   rcases Nat.le_total Flo.u64 e with h | h
   · obtain ⟨r,rfl⟩:∃ r,e=r + Flo.u64:=⟨e - Flo.u64,by omega⟩
     have e1:(-(Flo.u64:Int) + ((r + Flo.u64:Nat):Int)).toNat=r:=by omega
     have e2:(-(-(Flo.u64:Int) + ((r + Flo.u64:Nat):Int))).toNat=0:=by omega
     rw [e1,e2]
     rw [Nat.pow_add,← Nat.mul_assoc] at hd
     have hA:=Nat.eq_of_mul_eq_mul_right (Nat.two_pow_pos Flo.u64) hd
     have:=cut_down s A.natAbs 0
     rw [Nat.pow_zero,Nat.mul_one] at this
     rw [Nat.shiftLeft_eq,← hA]; exact this
   · obtain ⟨r,hr⟩:∃ r,Flo.u64=r + e:=⟨Flo.u64 - e,by omega⟩
     have e1:(-(Flo.u64:Int) + (e:Int)).toNat=0:=by omega
     have e2:(-(-(Flo.u64:Int) + (e:Int))).toNat=r:=by omega
     rw [e1,e2]
     rw [hr,Nat.pow_add,← Nat.mul_assoc] at hd
     have hA:=Nat.eq_of_mul_eq_mul_right (Nat.two_pow_pos e) hd
     rw [Nat.shiftLeft_zero,← hA]
     exact cut_down s A.natAbs r
 show Flo.Val Ieee.double (Ieee.double.nearest (Flo.sgn Ieee.double z) (Ieee.Toward.down.cut (Flo.sgn Ieee.double z) (Flo.rm Ieee.double (Flo.rung Ieee.double z) <<< (Ieee.double.leastPlace + Flo.re Ieee.double (Flo.rung Ieee.double z)).toNat) (-(Ieee.double.leastPlace + (Flo.re Ieee.double (Flo.rung Ieee.double z):Int))).toNat) 0) _
 rw [hm]
 have hiv:=hz.iv
 unfold Flo.iv at hiv
 refine Flo.nearest_val (a:=Flo.u64) (b:=0) hz.rep (by rw [Flo.least64]; omega) (by rw [Int.natAbs_mul,Int.natAbs_natCast,Nat.pow_zero,Nat.mul_one]) (fun hneg => ?_) (fun hpos => ?_)
 · cases hs:Flo.sgn Ieee.double z
   · rw [hs] at hiv
     simp only [Bool.false_eq_true,if_false] at hiv
     omega
   · rfl
 · cases hs:Flo.sgn Ieee.double z
   · rfl
   · rw [hs] at hiv
     simp only [if_true] at hiv
     omega
theorem toIntegral_num (z:Nat) (s:Bool) (m:Nat) (e:Int) (hd:FloatKind.f64.decode z=.number s m e):Go.Extern.MathFloor.toIntegral "math.archFloor" .down #[.float .f64 z]=pure (.float .f64 (FloatKind.f64.encode ((Ieee.Datum.number s m e).integral .down))):=by
 show (match FloatKind.f64.decode z with | .nan s t => _ | d => pure (Value.float .f64 (FloatKind.f64.encode (d.integral .down))))=_
 rw [hd]
theorem archFloor_run (z:Nat) (w:World):(callFunc 107 #[.float .f64 z]).run Vp.prog w=(do let v ← Go.Extern.MathFloor.toIntegral "math.archFloor" .down #[.float .f64 z]; pure (Next.value v)).run Vp.prog w:=by
 kernel_rfl
set_option maxRecDepth 100000 in
theorem mathFloor_is (z:Nat) (A:Int) (hz:Flo.Val Ieee.double z (A * (2 ^ Flo.u64:Nat))) (w:World):Calls Vp.prog 85 #[.float .f64 z] w fun e w' => (∃ y,e=.returned (.float .f64 y) ∧ Flo.Val Ieee.double y (A * (2 ^ Flo.u64:Nat))) ∧ w=w':=by
 obtain ⟨s,m,e,hd,hv⟩:=floor_val hz
 have hr:∀ w,(callFunc 107 #[.float .f64 z]).run Vp.prog w=.ok (.value (.float .f64 (FloatKind.f64.encode ((Ieee.Datum.number s m e).integral .down)))) w:=fun w => by
   rw [archFloor_run,toIntegral_num z s m e hd]
   rfl
 have HV:=Lib.hid hv
 generalize FloatKind.f64.encode ((Ieee.Datum.number s m e).integral .down)=y at *
 clear hz hv hd
 go_enter Vp.func85,Tryz.ntmps85
 go_wp2
 go_ret
 exact ⟨⟨y,rfl,HV.out⟩,rfl⟩
set_option maxRecDepth 100000 in
set_option maxHeartbeats 1000000 in
theorem cornerWell_ok (x d:Nat) (hx:x < 4294967296) (hd:d ≤ 11) (h:Flo.wholeB x d=true) (w:World):Calls Vp.prog 58 #[.float .f32 x,.int .i64 d] w fun e w' => e=.returned (.bool true) ∧ w=w':=by
 obtain ⟨A,hA,hb⟩:=Flo.whole_pt hx hd h
 have hdp:2 ^ d ≤ 2 ^ 11:=Nat.pow_le_pow_right (by omega) hd
 obtain ⟨y1,h1,v1⟩:=Flo.widen_val hA
 have hD:Flo.Val Ieee.double (floatOfInt .f64 ((2 ^ d:Nat):Int)) (((2 ^ d:Nat):Int) * (2 ^ Flo.u64:Nat)):=Flo.ofInt_val (k:=.f64) Flo.least64 _ (by rw [Int.natAbs_natCast]; show _ < 2 * Ieee.double.binade; rw [Flo.double_binade]; omega) (by show (Flo.u64 + 2) * Ieee.double.binade ≤ Ieee.double.infRung; rw [Flo.double_inf,Flo.u64_eq]; exact Nat.mul_le_mul_right _ (by omega))
 have hrep:Flo.Rep Ieee.double (A * (2 ^ Flo.u64:Nat)):=by
   refine Flo.rep_gen (m:=A.natAbs) (e:=Flo.u64) (by rw [Int.natAbs_mul,Int.natAbs_natCast]) (by rw [Flo.double_binade]; omega) ?_
   rw [Flo.double_inf,Flo.u64_eq]
   exact Nat.mul_le_mul_right _ (by omega)
 have hc:A * (2 ^ (Flo.u32 - d):Nat) * (2 ^ Flo.wup:Nat) * (((2 ^ d:Nat):Int) * (2 ^ Flo.u64:Nat))=A * (2 ^ Flo.u64:Nat) * (2 ^ Flo.u64:Nat):=by
   have e:(2 ^ (Flo.u32 - d) * 2 ^ Flo.wup * 2 ^ d:Nat)=2 ^ Flo.u64:=by
     rw [← Nat.pow_add,← Nat.pow_add]
     congr 1
     rw [Flo.u32_eq,Flo.wup_eq,Flo.u64_eq]; omega
   have e2:((2 ^ (Flo.u32 - d):Nat):Int) * (2 ^ Flo.wup:Nat) * (2 ^ d:Nat)=(2 ^ Flo.u64:Nat):=by
     have:=congrArg (fun x:Nat => (x:Int)) e
     simp only [Int.natCast_mul] at this
     exact this
   generalize ((2 ^ (Flo.u32 - d):Nat):Int)=P at *
   generalize ((2 ^ Flo.wup:Nat):Int)=Q at *
   generalize ((2 ^ Flo.u64:Nat):Int)=R at *
   generalize ((2 ^ d:Nat):Int)=S at *
   calc A * P * Q * (S * R)=A * (P * Q * S) * R:=by simp only [Int.mul_assoc]
     _=A * R * R:=by rw [e2]
 obtain ⟨y,hy,v2⟩:=Flo.mul_val (f:=Ieee.double) (c:=A * (2 ^ Flo.u64:Nat)) Flo.least64 v1 hD hc hrep
 have hF:=Lib.hid (mathFloor_is y A v2)
 have hee:Hid (∀ t,Flo.Val Ieee.double t (A * (2 ^ Flo.u64:Nat)) → (FloatKind.f64.format.order y t == some .eq)=true):=fun t ht => by rw [Flo.order_eq_val (k:=.f64) v2 ht]; simp
 obtain ⟨q,hq⟩:∃ q:Int,wrap64 (2 ^ d)=q:=⟨_,rfl⟩
 have hqd:((2 ^ d:Nat):Int)=q:=by rw [← hq,wrap_pow d hd]
 rw [hqd] at hy
 have g1:=fun w => run_convert_float_float (P:=Vp.prog) w 63 109 .f32 .f64 _ _ (by kernel_rfl) (Vp.und Tryz.underlying109) h1
 have g2:=fun w => run_float_arith (P:=Vp.prog) w .mul 109 .f64 _ _ _ hy
 have hw:=Flo.inFour_val hx (by unfold Flo.wholeB at h; rw [Bool.and_eq_true] at h; exact h.1)
 have t1:(FloatKind.f32.format.order 3229614080 x == some .lt || FloatKind.f32.format.order 3229614080 x == some .eq)=true:=by
   rw [Flo.order_lt_val (k:=.f32) Flo.minus_four_val hw.1,Flo.order_eq_val (k:=.f32) Flo.minus_four_val hw.1]
   have:=hw.2
   simp only [Bool.or_eq_true,decide_eq_true_eq]
   generalize 2 ^ Flo.u32=U at *
   omega
 have t2:(FloatKind.f32.format.order x 1082130432 == some .lt || FloatKind.f32.format.order x 1082130432 == some .eq)=true:=by
   unfold Flo.wholeB Flo.inFour at h
   rw [Bool.and_eq_true,Bool.and_eq_true] at h
   exact h.1.2
 clear h hA hb hdp h1 v1 hD hrep hc hy v2 hqd hw hx
 go_enter Vp.func58,Tryz.ntmps58
 go_wp2_with (go_at_call 85; refine (hF.out _).mono ?_; rintro e w' ⟨⟨t,rfl,ht⟩,rfl⟩; have hte:=hee.out t ht; clear ht)
 go_ret
 exact ⟨rfl,rfl⟩
set_option maxRecDepth 100000 in
set_option maxHeartbeats 1000000 in
theorem placeWell_ok (cx cy:Nat) (deep size:Int) (hx:cx < 4294967296) (hy:cy < 4294967296) (h:placeB cx cy deep size=true) (w:World):Calls Vp.prog 33 #[.complex .f32 cx cy,.int .i64 deep,.int .i64 size] w fun e w' => e=.returned (.bool true) ∧ w=w':=by
 obtain ⟨h1,h2,h3,h4⟩:=placeB_bd h
 obtain ⟨d,rfl⟩:=Int.eq_ofNat_of_zero_le h1
 unfold placeB at h
 rw [Bool.and_eq_true,Bool.and_eq_true,Int.toNat_natCast] at h
 have hX:=Lib.hid (cornerWell_ok cx d hx (by omega) h.1.2)
 have hY:=Lib.hid (cornerWell_ok cy d hy (by omega) h.2)
 clear h
 have a1:decide ((d:Int) < 0)=false:=by simp
 have a2:decide (10 < (d:Int))=false:=by simpa using h2
 have a3:decide (size < 1)=false:=by simpa using h3
 have a4:decide (8 < size)=false:=by simpa using h4
 go_enter Vp.func33,Tryz.ntmps33
 go_wp2_with (first | (go_at_call 58; (with_reducible refine (hX.out _).mono ?_); rintro e w' ⟨rfl,rfl⟩) | (go_at_call 58; (with_reducible refine (hY.out _).mono ?_); rintro e w' ⟨rfl,rfl⟩))
 go_ret
 exact ⟨rfl,rfl⟩
end Go.Proofs.YtokbalggdhippaaGreat
end

section
namespace Go.Proofs.YtokbalggdhippaaGreat
open Go.RowKit
theorem order_flip (f:Ieee.Format) (x y:Nat):f.order y x=(f.order x y).map Ordering.swap:=by
 unfold Ieee.Format.order
 cases f.read x with
 | nan s t => cases f.read y <;> rfl
 | infinity s =>
   cases f.read y with
   | nan => rfl
   | infinity t => cases s <;> cases t <;> rfl
   | number => cases s <;> rfl
 | number s m i =>
   cases f.read y with
   | nan => rfl
   | infinity t => cases t <;> rfl
   | number t n j =>
     simp only [Ieee.Datum.order,Option.map_some,Option.some.injEq]
     rw [Int.min_comm j i]
     exact Std.OrientedCmp.eq_swap
theorem flip_ge (f:Ieee.Format) (x y:Nat):(f.order y x == some .lt || f.order y x == some .eq)=(f.order x y == some .gt || f.order x y == some .eq):=by
 rw [order_flip f x y]
 cases f.order x y with
 | none => rfl
 | some o => cases o <;> rfl
theorem cut_le (s:Bool) (n drop:Nat):Ieee.Toward.down.cut s n drop ≤ n / 2 ^ drop + 1:=by
 have h:=Flo.cut_zero s n drop
 unfold Ieee.Toward.cut at h ⊢
 simp only [Bool.toNat_false,Nat.add_zero] at h
 simp only [h]
 have:∀ b:Bool,b.toNat ≤ 1:=by decide
 have:=this (s && n % (1 <<< min drop (n.log2 + 2)) != 0)
 omega
theorem floor_any {z:Nat} {v:Int} (hz:Flo.Val Ieee.double z v) (hb:v.natAbs ≤ 1048576 * 2 ^ Flo.u64) :
   ∃ (s:Bool) (m:Nat) (e B:Int),FloatKind.f64.decode z=.number s m e ∧ Flo.Val Ieee.double (FloatKind.f64.encode ((Ieee.Datum.number s m e).integral .down)) (B * (2 ^ Flo.u64:Nat)):=by
 have hd:=Flo.val_digits hz
 obtain ⟨K,hK,hK2⟩:∃ K,Ieee.Toward.down.cut (Flo.sgn Ieee.double z) (Flo.rm Ieee.double (Flo.rung Ieee.double z) <<< (Ieee.double.leastPlace + Flo.re Ieee.double (Flo.rung Ieee.double z)).toNat) (-(Ieee.double.leastPlace + (Flo.re Ieee.double (Flo.rung Ieee.double z):Int))).toNat=K ∧ K ≤ 1048577:=by
   refine ⟨_,rfl,?_⟩
   refine Nat.le_trans (cut_le _ _ _) ?_
   rw [Flo.least64]
   rw [hd] at hb
   generalize Flo.re Ieee.double (Flo.rung Ieee.double z)=e at *
   generalize Flo.rm Ieee.double (Flo.rung Ieee.double z)=m at *
   rcases Nat.le_total Flo.u64 e with h | h
   · obtain ⟨r,rfl⟩:∃ r,e=r + Flo.u64:=⟨e - Flo.u64,by omega⟩
     have e1:(-(Flo.u64:Int) + ((r + Flo.u64:Nat):Int)).toNat=r:=by omega
     have e2:(-(-(Flo.u64:Int) + ((r + Flo.u64:Nat):Int))).toNat=0:=by omega
     rw [e1,e2,Nat.pow_zero,Nat.div_one,Nat.shiftLeft_eq]
     rw [Nat.pow_add,← Nat.mul_assoc] at hb
     have:=Nat.le_of_mul_le_mul_right hb (Nat.two_pow_pos Flo.u64)
     omega
   · obtain ⟨r,hr⟩:∃ r,Flo.u64=r + e:=⟨Flo.u64 - e,by omega⟩
     have e1:(-(Flo.u64:Int) + (e:Int)).toNat=0:=by omega
     have e2:(-(-(Flo.u64:Int) + (e:Int))).toNat=r:=by omega
     rw [e1,e2,Nat.shiftLeft_zero]
     rw [hr,Nat.pow_add,← Nat.mul_assoc] at hb
     have h1:=Nat.le_of_mul_le_mul_right hb (Nat.two_pow_pos e)
     have h2:m / 2 ^ r ≤ 1048576:=Nat.div_le_of_le_mul (by rw [Nat.mul_comm]; exact h1)
     omega
 refine ⟨_,_,_,if Flo.sgn Ieee.double z then -(K:Int) else K,Flo.read_fin hz.fin,?_⟩
 show Flo.Val Ieee.double (Ieee.double.nearest (Flo.sgn Ieee.double z) (Ieee.Toward.down.cut (Flo.sgn Ieee.double z) (Flo.rm Ieee.double (Flo.rung Ieee.double z) <<< (Ieee.double.leastPlace + Flo.re Ieee.double (Flo.rung Ieee.double z)).toNat) (-(Ieee.double.leastPlace + (Flo.re Ieee.double (Flo.rung Ieee.double z):Int))).toNat) 0) _
 rw [hK]
 generalize Flo.sgn Ieee.double z=s at *
 have hna:((if s then -(K:Int) else K) * ((2 ^ Flo.u64:Nat):Int)).natAbs=K * 2 ^ Flo.u64:=by
   rw [Int.natAbs_mul,Int.natAbs_natCast]
   cases s <;> simp
 have hpos:(0:Int) < ((2 ^ Flo.u64:Nat):Int):=by have:=Nat.two_pow_pos Flo.u64; omega
 refine Flo.nearest_val (a:=Flo.u64) (b:=0) (Flo.rep_gen (m:=K) (e:=Flo.u64) hna (by rw [Flo.double_binade]; omega) ?_) (by rw [Flo.least64]; omega) (by rw [hna,Nat.pow_zero,Nat.mul_one]) (fun hneg => ?_) (fun hp => ?_)
 · rw [Flo.double_inf,Flo.u64_eq]; exact Nat.mul_le_mul_right _ (by omega)
 · cases s
   · exfalso
     have:(0:Int) ≤ (K:Int) * ((2 ^ Flo.u64:Nat):Int):=Int.mul_nonneg (by omega) (by omega)
     simp only [Bool.false_eq_true,if_false] at hneg
     omega
   · rfl
 · cases s
   · rfl
   · exfalso
     have:(0:Int) ≤ (K:Int) * ((2 ^ Flo.u64:Nat):Int):=Int.mul_nonneg (by omega) (by omega)
     simp only [if_true,Int.neg_mul] at hp
     omega
set_option maxRecDepth 100000 in
theorem mathFloor_any (z:Nat) (v:Int) (hz:Flo.Val Ieee.double z v) (hb:v.natAbs ≤ 1048576 * 2 ^ Flo.u64) (w:World):Calls Vp.prog 85 #[.float .f64 z] w fun e w' => (∃ (y:Nat) (B:Int),e=.returned (.float .f64 y) ∧ Flo.Val Ieee.double y (B * (2 ^ Flo.u64:Nat))) ∧ w=w':=by
 obtain ⟨s,m,e,B,hd,hv⟩:=floor_any hz hb
 have hr:∀ w,(callFunc 107 #[.float .f64 z]).run Vp.prog w=.ok (.value (.float .f64 (FloatKind.f64.encode ((Ieee.Datum.number s m e).integral .down)))) w:=fun w => by
   rw [archFloor_run,toIntegral_num z s m e hd]
   rfl
 have HV:=Lib.hid hv
 generalize FloatKind.f64.encode ((Ieee.Datum.number s m e).integral .down)=y at *
 clear hz hb hv hd
 go_enter Vp.func85,Tryz.ntmps85
 go_wp2
 go_ret
 exact ⟨⟨y,B,rfl,HV.out⟩,rfl⟩
set_option maxRecDepth 100000 in
set_option maxHeartbeats 1000000 in
theorem cornerWell_no (x d:Nat) (hx:x < 4294967296) (hd:d ≤ 11) (h:Flo.wholeB x d=false) (w:World):Calls Vp.prog 58 #[.float .f32 x,.int .i64 d] w fun e w' => e=.returned (.bool false) ∧ w=w':=by
 unfold Flo.wholeB at h
 cases hin:Flo.inFour x with
 | false =>
   unfold Flo.inFour at hin
   rw [← flip_ge] at hin
   cases t1:(FloatKind.f32.format.order 3229614080 x == some .lt || FloatKind.f32.format.order 3229614080 x == some .eq) with
   | false =>
     clear h hin
     go_enter Vp.func58,Tryz.ntmps58
     go_wp2
     go_ret
     exact ⟨rfl,rfl⟩
   | true =>
     rw [t1,Bool.true_and] at hin
     have t2:=hin
     clear h hin
     go_enter Vp.func58,Tryz.ntmps58
     go_wp2
     go_ret
     exact ⟨rfl,rfl⟩
 | true =>
   rw [hin,Bool.true_and,decide_eq_false_iff_not] at h
   obtain ⟨hv,hb⟩:=Flo.inFour_val hx hin
   obtain ⟨v,hvv⟩:∃ v,Flo.iv Ieee.single x=v:=⟨_,rfl⟩
   rw [hvv] at hv hb h
   have hdp:2 ^ d ≤ 2 ^ 11:=Nat.pow_le_pow_right (by omega) hd
   obtain ⟨y1,h1,v1⟩:=Flo.widen_val hv
   have hD:Flo.Val Ieee.double (floatOfInt .f64 ((2 ^ d:Nat):Int)) (((2 ^ d:Nat):Int) * (2 ^ Flo.u64:Nat)):=Flo.ofInt_val (k:=.f64) Flo.least64 _ (by rw [Int.natAbs_natCast]; show _ < 2 * Ieee.double.binade; rw [Flo.double_binade]; omega) (by show (Flo.u64 + 2) * Ieee.double.binade ≤ Ieee.double.infRung; rw [Flo.double_inf,Flo.u64_eq]; exact Nat.mul_le_mul_right _ (by omega))
   have hdg:=Flo.val_digits hv
   have hre:=Flo.re_lt (e:=254) hv.fin (by decide)
   have hrm:=Flo.rm_lt Ieee.single (Flo.rung Ieee.single x)
   rw [Flo.single_binade] at hrm
   have hrep:Flo.Rep Ieee.double (v * (2 ^ Flo.wup:Nat) * (2 ^ d:Nat)):=by
     refine Flo.rep_gen (m:=Flo.rm Ieee.single (Flo.rung Ieee.single x)) (e:=Flo.re Ieee.single (Flo.rung Ieee.single x) + Flo.wup + d) ?_ (by rw [Flo.double_binade]; omega) ?_
     · rw [Int.natAbs_mul,Int.natAbs_mul,Int.natAbs_natCast,Int.natAbs_natCast,hdg,Nat.pow_add,Nat.pow_add]
       simp only [Nat.mul_assoc]
     · rw [Flo.double_inf,Flo.wup_eq]; exact Nat.mul_le_mul_right _ (by omega)
   have hc:v * (2 ^ Flo.wup:Nat) * (((2 ^ d:Nat):Int) * (2 ^ Flo.u64:Nat))=v * (2 ^ Flo.wup:Nat) * (2 ^ d:Nat) * (2 ^ Flo.u64:Nat):=by
     simp only [Int.mul_assoc]
   obtain ⟨y,hy,v2⟩:=Flo.mul_val (f:=Ieee.double) (c:=v * (2 ^ Flo.wup:Nat) * (2 ^ d:Nat)) Flo.least64 v1 hD hc hrep
   have hU:(2 ^ Flo.u64:Nat)=2 ^ Flo.u32 * 2 ^ Flo.wup:=by rw [← Nat.pow_add]; congr 1
   have hV:(v * (2 ^ Flo.wup:Nat) * (2 ^ d:Nat)).natAbs ≤ 1048576 * 2 ^ Flo.u64:=by
     rw [Int.natAbs_mul,Int.natAbs_mul,Int.natAbs_natCast,Int.natAbs_natCast,hU]
     calc v.natAbs * 2 ^ Flo.wup * 2 ^ d ≤ (4 * 2 ^ Flo.u32) * 2 ^ Flo.wup * 2 ^ 11:=Nat.mul_le_mul (Nat.mul_le_mul_right _ hb) hdp
       _=8192 * (2 ^ Flo.u32 * 2 ^ Flo.wup):=by rw [Nat.mul_comm,← Nat.mul_assoc,← Nat.mul_assoc,Nat.mul_assoc]
       _ ≤ 1048576 * (2 ^ Flo.u32 * 2 ^ Flo.wup):=Nat.mul_le_mul_right _ (by omega)
   have hne:∀ B:Int,v * (2 ^ Flo.wup:Nat) * (2 ^ d:Nat) ≠ B * (2 ^ Flo.u64:Nat):=by
     intro B hB
     apply h
     rw [hU,Int.natCast_mul,← Int.mul_assoc,Int.mul_right_comm v] at hB
     have hp:((2 ^ Flo.wup:Nat):Int) ≠ 0:=by have:=Nat.two_pow_pos Flo.wup; omega
     have:=Int.eq_of_mul_eq_mul_right hp hB
     rw [this]
     exact Int.mul_emod_left _ _
   have hF:=Lib.hid (mathFloor_any y _ v2 hV)
   have hee:Hid (∀ (t:Nat) (B:Int),Flo.Val Ieee.double t (B * (2 ^ Flo.u64:Nat)) → (FloatKind.f64.format.order y t == some .eq)=false):=fun t B ht => by rw [Flo.order_eq_val (k:=.f64) v2 ht]; simpa using hne B
   obtain ⟨q,hq⟩:∃ q:Int,wrap64 (2 ^ d)=q:=⟨_,rfl⟩
   have hqd:((2 ^ d:Nat):Int)=q:=by rw [← hq,wrap_pow d hd]
   rw [hqd] at hy
   have g1:=fun w => run_convert_float_float (P:=Vp.prog) w 63 109 .f32 .f64 _ _ (by kernel_rfl) (Vp.und Tryz.underlying109) h1
   have g2:=fun w => run_float_arith (P:=Vp.prog) w .mul 109 .f64 _ _ _ hy
   unfold Flo.inFour at hin
   rw [← flip_ge,Bool.and_eq_true] at hin
   obtain ⟨t1,t2⟩:=hin
   clear h hv hb hvv hdp h1 v1 hD hdg hre hrm hrep hc hy v2 hqd hx hU hV hne
   go_enter Vp.func58,Tryz.ntmps58
   go_wp2_with (go_at_call 85; refine (hF.out _).mono ?_; rintro e w' ⟨⟨t,B,rfl,ht⟩,rfl⟩; have hte:=hee.out t B ht; clear ht)
   go_ret
   exact ⟨rfl,rfl⟩
theorem cornerWell_is (x d:Nat) (hx:x < 4294967296) (hd:d ≤ 11) (w:World):Calls Vp.prog 58 #[.float .f32 x,.int .i64 d] w fun e w' => e=.returned (.bool (Flo.wholeB x d)) ∧ w=w':=by
 cases h:Flo.wholeB x d with
 | true => exact cornerWell_ok x d hx hd h w
 | false => exact cornerWell_no x d hx hd h w
set_option maxRecDepth 100000 in
set_option maxHeartbeats 1000000 in
theorem placeWell_is (cx cy:Nat) (deep size:Int) (hx:cx < 4294967296) (hy:cy < 4294967296) (w:World):Calls Vp.prog 33 #[.complex .f32 cx cy,.int .i64 deep,.int .i64 size] w fun e w' => e=.returned (.bool (placeB cx cy deep size)) ∧ w=w':=by
 by_cases hin:0 ≤ deep ∧ deep ≤ 10 ∧ 1 ≤ size ∧ size ≤ 8
 · obtain ⟨d,rfl⟩:=Int.eq_ofNat_of_zero_le hin.1
   have hX:=Lib.hid (cornerWell_is cx d hx (by omega))
   have hY:=Lib.hid (cornerWell_is cy d hy (by omega))
   have HP:Hid (placeB cx cy d size=(Flo.wholeB cx d && Flo.wholeB cy d)):=by
     show _=_
     unfold placeB inB
     rw [Int.toNat_natCast,decide_eq_true hin.1,decide_eq_true hin.2.1,decide_eq_true hin.2.2.1,decide_eq_true hin.2.2.2]
     rfl
   have a1:decide ((d:Int) < 0)=false:=by simp
   have a2:decide (10 < (d:Int))=false:=by simp; omega
   have a3:decide (size < 1)=false:=by simp; omega
   have a4:decide (8 < size)=false:=by simp; omega
   rw [HP.out]
   generalize Flo.wholeB cx d=b1 at *
   generalize Flo.wholeB cy d=b2 at *
   clear HP hin
   cases b1 <;> cases b2
   all_goals
     go_enter Vp.func33,Tryz.ntmps33
     go_wp2_with (first | (go_at_call 58; (with_reducible refine (hX.out _).mono ?_); rintro e w' ⟨rfl,rfl⟩) | (go_at_call 58; (with_reducible refine (hY.out _).mono ?_); rintro e w' ⟨rfl,rfl⟩))
     go_ret
     exact ⟨rfl,rfl⟩
 · have HP:Hid (placeB cx cy deep size=false):=by
     show _=false
     cases h:placeB cx cy deep size with
     | false => rfl
     | true => exact absurd (placeB_bd h) (by omega)
   rw [HP.out]
   clear HP
   by_cases a1:deep < 0
   · have a1:=decide_eq_true a1
     go_enter Vp.func33,Tryz.ntmps33
     go_wp2
     go_ret
     exact ⟨rfl,rfl⟩
   · by_cases a2:10 < deep
     · have a1:=decide_eq_false a1
       have a2:=decide_eq_true a2
       go_enter Vp.func33,Tryz.ntmps33
       go_wp2
       go_ret
       exact ⟨rfl,rfl⟩
     · by_cases a3:size < 1
       · have a1:=decide_eq_false a1
         have a2:=decide_eq_false a2
         have a3:=decide_eq_true a3
         go_enter Vp.func33,Tryz.ntmps33
         go_wp2
         go_ret
         exact ⟨rfl,rfl⟩
       · have a4:8 < size:=by omega
         have a1:=decide_eq_false a1
         have a2:=decide_eq_false a2
         have a3:=decide_eq_false a3
         have a4:=decide_eq_true a4
         clear hin
         go_enter Vp.func33,Tryz.ntmps33
         go_wp2
         go_ret
         exact ⟨rfl,rfl⟩
end Go.Proofs.YtokbalggdhippaaGreat
end
