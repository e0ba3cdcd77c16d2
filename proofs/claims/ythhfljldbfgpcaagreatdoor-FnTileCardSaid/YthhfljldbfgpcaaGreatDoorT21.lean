/- Merged texts: Dyi, TrdF, BkA. -/
import Derived.Test.YthhfljldbfgpcaaGreatDoorT18
import Derived.Deep.RegionWith
import Derived.Deep.RegionHeld3
import Derived.Test.YthhfljldbfgpcaaGreatDoorT4
set_option linter.all false
section
namespace Go.Proofs.YthhfljldbfgpcaaGreatDoor
open Go.RowKit Flo
theorem out_exact {x p:Int} {k:Nat} (hk:k ≤ 24) (h:x * (2 ^ (24 - k):Nat)=p):x * 16777216 / (2 ^ k:Nat)=p ∧ cei (x * 16777216) (2 ^ k:Nat)=p:=by
 have e:x * 16777216=p * ((2 ^ k:Nat):Int):=by
   rw [← h,Int.mul_assoc,← Int.natCast_mul,← Nat.pow_add,show 24 - k + k=24 from by omega]
   rfl
 have hp:((2 ^ k:Nat):Int) ≠ 0:=by have:=Nat.two_pow_pos k; omega
 rw [e]
 unfold cei
 rw [← Int.neg_mul,Int.mul_ediv_cancel _ hp,Int.mul_ediv_cancel _ hp]
 exact ⟨rfl,by omega⟩
theorem below4 {w W:World} (h:Below w.heap.size w W) {b:Nat} (hb:w.heap.size ≤ b) (u0 u1 u2 u3:Value):Below w.heap.size w ((((W.setCell ⟨b,0,none⟩ u0).setCell ⟨b,1,none⟩ u1).setCell ⟨b,2,none⟩ u2).setCell ⟨b,3,none⟩ u3) :=
 (((h.setCell (p:=⟨b,0,none⟩) hb _).setCell (p:=⟨b,1,none⟩) hb _).setCell (p:=⟨b,2,none⟩) hb _).setCell (p:=⟨b,3,none⟩) hb _
set_option maxRecDepth 100000 in
set_option maxHeartbeats 4000000 in
theorem spansOfDyad_is (x y p q:Int) (k:Nat) (hv:dyadB x y k=true) (hk:k ≤ 24) (hp:x * (2 ^ (24 - k):Nat)=p) (hq:y * (2 ^ (24 - k):Nat)=q) (w:World) :
   Calls Vp.prog 39 #[.agg #[.int .i64 x,.int .i64 y,.int .i64 k]] w fun e w' => e=.returned (.agg #[.int .i64 p,.int .i64 p,.int .i64 q,.int .i64 q]) ∧ Below w.heap.size w w':=by
 obtain ⟨b1,b2,b3,b4,b5,b6⟩:=dyadB_parts hv
 obtain ⟨p1,p2⟩:=out_exact hk hp
 obtain ⟨q1,q2⟩:=out_exact hk hq
 obtain ⟨xx,hxx⟩:∃ xx,x * 16777216=xx:=⟨_,rfl⟩
 obtain ⟨yy,hyy⟩:∃ yy,y * 16777216=yy:=⟨_,rfl⟩
 rw [hxx] at p1 p2
 rw [hyy] at q1 q2
 have HO1:=Lib.hid (fun w => spOut_is xx xx k (by omega) (by omega) (by omega) (by omega) (by omega) w)
 have HO2:=Lib.hid (fun w => spOut_is yy yy k (by omega) (by omega) (by omega) (by omega) (by omega) w)
 rw [p1,p2] at HO1
 rw [q1,q2] at HO2
 have w1:IntKind.i64.wrap (x * 16777216)=xx:=by rw [hxx]; exact IntWalk.i64_in _ (by omega)
 have w2:IntKind.i64.wrap (y * 16777216)=yy:=by rw [hyy]; exact IntWalk.i64_in _ (by omega)
 have X:=(Box.new w #[.int .i64 x,.int .i64 y,.int .i64 k] 36).alloc (.cells #[.int .i64 0,.int .i64 0,.int .i64 0,.int .i64 0] 83)
 have Z:=(Box.new (w.alloc (.cells #[.int .i64 x,.int .i64 y,.int .i64 k] 36)) #[.int .i64 0,.int .i64 0,.int .i64 0,.int .i64 0] 83).up ((Below.refl w.heap.size w).alloc (Nat.le_refl _) _)
 rw [World.size_alloc] at Z
 have HX:=Lib.hid X
 have HZ:=Lib.hid Z
 obtain ⟨x0,x1,x2⟩:=X.cells3
 clear X Z p1 p2 q1 q2 hxx hyy b1 b2 b3 b4 b5 b6 hv hp hq
 go_enter Vp.func39,Tryz.ntmps39
 go_upto_region 1 with fail
 go_region
 go_upto_region 2 with fail
 clear x0 x1 x2 w1 w2
 have HX1:=Lib.hid (HX.out.step ((Drw.refl _).drew.below _))
 have HZ1:=Lib.hid (HZ.out.step ((Drw.refl _).drew.below _))
 clear HX HZ
 generalize ((w.alloc (.cells #[.int .i64 x,.int .i64 y,.int .i64 k] 36)).alloc (.cells #[.int .i64 0,.int .i64 0,.int .i64 0,.int .i64 0] 83)).drew=W at *
 have HX:Hid (∀ W',Below W.drew.heap.size W.drew W' → Box w w.heap.size #[.int .i64 x,.int .i64 y,.int .i64 k] 36 W'):=fun W' h => (HX1.out.step ((Drw.refl _).drew.below _)).step h
 have HZ:Hid (∀ W',Below W.drew.heap.size W.drew W' → Box w (w.heap.size + 1) #[.int .i64 0,.int .i64 0,.int .i64 0,.int .i64 0] 83 W'):=fun W' h => (HZ1.out.step ((Drw.refl _).drew.below _)).step h
 have HXs:=Lib.hid (fun W' h u0 u1 u2 u3 => (HX.out W' h).other4 (b':=w.heap.size + 1) (by omega) (by omega) u0 u1 u2 u3)
 have hbk:=Below.refl W.drew.heap.size W.drew
 clear HX1 HZ1
 go_region_held3 (fun w' => w'.cell? ⟨w.heap.size,2,none⟩=some (.int .i64 k)) (((first | dsimp only | skip); first | (with_reducible exact (HX.out _ hbk).cell 2 _ rfl) | (with_reducible exact (HXs.out _ hbk _ _ _ _).cell 2 _ rfl))) (first
   | (go_at_call 70; (first | (with_reducible refine (HO1.out _).mono ?_) | (with_reducible refine (HO2.out _).mono ?_)); rintro e w' ⟨rfl,hb⟩; replace hbk:=hbk.trans (hb.mono hbk.size); clear hb; have z0:=(HZ.out _ hbk).cell 0 _ rfl; have z1:=(HZ.out _ hbk).cell 1 _ rfl; have z2:=(HZ.out _ hbk).cell 2 _ rfl; have z3:=(HZ.out _ hbk).cell 3 _ rfl; have g0:=(HZ.out _ hbk).frozen 0; have g1:=(HZ.out _ hbk).frozen 1; have g2:=(HZ.out _ hbk).frozen 2; have g3:=(HZ.out _ hbk).frozen 3))
 all_goals
   go_wp2
   exact bodyPost_ret (v:=.agg #[.int .i64 p,.int .i64 p,.int .i64 q,.int .i64 q]) (by simp [results,Tryz.f39,go_sem,z0,z1,z2,z3]) rfl ⟨rfl,below4 (HZ.out _ hbk).old (by omega) _ _ _ _⟩
theorem dyadValid_is (x y:Int) (k:Nat) (hv:dyadB x y k=true) (w:World):Calls Vp.prog 38 #[.agg #[.int .i64 x,.int .i64 y,.int .i64 k]] w fun e w' => e=.returned (.bool true) ∧ Below w.heap.size w w':=by
 have HV:=Lib.hid (fun w => valid_ok x y k hv w)
 have X:=Box.new w #[.int .i64 x,.int .i64 y,.int .i64 k] 36
 have HX:=Lib.hid X
 obtain ⟨x0,x1,x2⟩:=X.cells3
 clear X hv
 go_enter Vp.func38,Tryz.ntmps38
 go_wp2_with fail
 refine (HV.out _).mono ?_
 rintro e w1 ⟨rfl,hb⟩
 have HB:=Lib.hid (HX.out.old.trans (hb.mono HX.out.old.size))
 clear hb x0 x1 x2
 go_wp2
 go_ret
 exact ⟨rfl,HB.out⟩
set_option maxRecDepth 100000 in
set_option maxHeartbeats 4000000 in
theorem dyadState_is (x y p q n:Int) (k:Nat) (hv:dyadB x y k=true) (hk:k ≤ 24) (hp:x * (2 ^ (24 - k):Nat)=p) (hq:y * (2 ^ (24 - k):Nat)=q) (hb:boxOK p p q q=true) (w:World) :
   Calls Vp.prog 13 #[.agg #[.int .i64 x,.int .i64 y,.int .i64 k],.int .i64 n] w fun e w' => e=.returned (.tuple #[.int .i64 (stB ⟨p,p,q,q⟩ (mostN n).toNat),.bool true]) ∧ Below w.heap.size w w':=by
 have HV:=Lib.hid (fun w => dyadValid_is x y k hv w)
 have HS:=Lib.hid (fun w => spansOfDyad_is x y p q k hv hk hp hq w)
 have hd:doneV ⟨p,p,q,q⟩=.tuple #[.agg #[.int .i64 p,.int .i64 p,.int .i64 q,.int .i64 q],.bool true]:=by
   unfold doneV Bx.ok
   rw [if_pos hb]
   rfl
 have HBX:=Lib.hid (fun w => spBox_is p p q q w)
 rw [hd] at HBX
 have HC:=Lib.hid (fun w => implCell_is p p q q n hb w)
 have X:=Box.new w #[.int .i64 x,.int .i64 y,.int .i64 k] 36
 have HX:=Lib.hid X
 obtain ⟨x0,x1,x2⟩:=X.cells3
 clear X hv hd hp hq hk hb
 generalize stB ⟨p,p,q,q⟩ (mostN n).toNat=st at *
 go_enter Vp.func13,Tryz.ntmps13
 go_wp2_with fail
 refine (HV.out _).mono ?_
 rintro e w1 ⟨rfl,hb⟩
 have HX1:=Lib.hid (HX.out.step hb)
 clear x0 x1 x2 hb HX
 obtain ⟨x0,x1,x2⟩:=HX1.out.cells3
 go_wp2_with fail
 refine (HS.out _).mono ?_
 rintro e w2 ⟨rfl,hb⟩
 have HX2:=Lib.hid (HX1.out.step hb)
 clear x0 x1 x2 hb HX1
 go_wp2_with fail
 refine (HBX.out _).mono ?_
 rintro e w3 ⟨rfl,hb⟩
 have HB3:=Lib.hid ((HX2.out.step hb).old.alloc (HX2.out.step hb).old.size (.cells #[.int .i64 p,.int .i64 p,.int .i64 q,.int .i64 q] 62))
 have Z:=Box.new w3 #[.int .i64 p,.int .i64 p,.int .i64 q,.int .i64 q] 62
 have z0:=Z.cell 0 _ rfl
 have z1:=Z.cell 1 _ rfl
 have z2:=Z.cell 2 _ rfl
 have z3:=Z.cell 3 _ rfl
 clear hb Z HX2
 go_wp2_with fail
 refine (HC.out _).mono ?_
 rintro e w4 ⟨rfl,hb⟩
 have HE:=Lib.hid (HB3.out.trans (hb.mono HB3.out.size))
 clear hb z0 z1 z2 z3
 go_wp2
 exact bodyPost_ret (v:=.tuple #[.int .i64 st,.bool true]) (by simp [results,Tryz.f13,go_sem]) rfl ⟨rfl,HE.out⟩
end Go.Proofs.YthhfljldbfgpcaaGreatDoor
end

section
namespace Go.Proofs.YthhfljldbfgpcaaGreatDoor
open Go.RowKit
theorem order_flip (f:Ieee.Format) (x y:Nat):f.order y x=(f.order x y).map Ordering.swap:=by
 unfold Ieee.Format.order
 cases f.read x with
 | nan s t => cases f.read y <;> rfl
 | infinity s =>
   cases f.read y with
   | nan => rfl
   | infinity t => cases s <;> cases t <;> rfl
   | number => cases s <;> rfl
 | number s m i =>
   cases f.read y with
   | nan => rfl
   | infinity t => cases t <;> rfl
   | number t n j =>
     simp only [Ieee.Datum.order,Option.map_some,Option.some.injEq]
     rw [Int.min_comm j i]
     exact Std.OrientedCmp.eq_swap
theorem flip_ge (f:Ieee.Format) (x y:Nat):(f.order y x == some .lt || f.order y x == some .eq)=(f.order x y == some .gt || f.order x y == some .eq):=by
 rw [order_flip f x y]
 cases f.order x y with
 | none => rfl
 | some o => cases o <;> rfl
theorem cut_le (s:Bool) (n drop:Nat):Ieee.Toward.down.cut s n drop ≤ n / 2 ^ drop + 1:=by
 have h:=Flo.cut_zero s n drop
 unfold Ieee.Toward.cut at h ⊢
 simp only [Bool.toNat_false,Nat.add_zero] at h
 simp only [h]
 have:∀ b:Bool,b.toNat ≤ 1:=by decide
 have:=this (s && n % (1 <<< min drop (n.log2 + 2)) != 0)
 omega
theorem floor_any {z:Nat} {v:Int} (hz:Flo.Val Ieee.double z v) (hb:v.natAbs ≤ 1048576 * 2 ^ Flo.u64) :
   ∃ (s:Bool) (m:Nat) (e B:Int),FloatKind.f64.decode z=.number s m e ∧ Flo.Val Ieee.double (FloatKind.f64.encode ((Ieee.Datum.number s m e).integral .down)) (B * (2 ^ Flo.u64:Nat)):=by
 have hd:=Flo.val_digits hz
 obtain ⟨K,hK,hK2⟩:∃ K,Ieee.Toward.down.cut (Flo.sgn Ieee.double z) (Flo.rm Ieee.double (Flo.rung Ieee.double z) <<< (Ieee.double.leastPlace + Flo.re Ieee.double (Flo.rung Ieee.double z)).toNat) (-(Ieee.double.leastPlace + (Flo.re Ieee.double (Flo.rung Ieee.double z):Int))).toNat=K ∧ K ≤ 1048577:=by
   refine ⟨_,rfl,?_⟩
   refine Nat.le_trans (cut_le _ _ _) ?_
   rw [Flo.least64]
   rw [hd] at hb
   generalize Flo.re Ieee.double (Flo.rung Ieee.double z)=e at *
   generalize Flo.rm Ieee.double (Flo.rung Ieee.double z)=m at *
   rcases Nat.le_total Flo.u64 e with h | h
   · obtain ⟨r,rfl⟩:∃ r,e=r + Flo.u64:=⟨e - Flo.u64,by omega⟩
     have e1:(-(Flo.u64:Int) + ((r + Flo.u64:Nat):Int)).toNat=r:=by omega
     have e2:(-(-(Flo.u64:Int) + ((r + Flo.u64:Nat):Int))).toNat=0:=by omega
     rw [e1,e2,Nat.pow_zero,Nat.div_one,Nat.shiftLeft_eq]
     rw [Nat.pow_add,← Nat.mul_assoc] at hb
     have:=Nat.le_of_mul_le_mul_right hb (Nat.two_pow_pos Flo.u64)
     omega
   · obtain ⟨r,hr⟩:∃ r,Flo.u64=r + e:=⟨Flo.u64 - e,by omega⟩
     have e1:(-(Flo.u64:Int) + (e:Int)).toNat=0:=by omega
     have e2:(-(-(Flo.u64:Int) + (e:Int))).toNat=r:=by omega
     rw [e1,e2,Nat.shiftLeft_zero]
     rw [hr,Nat.pow_add,← Nat.mul_assoc] at hb
     have h1:=Nat.le_of_mul_le_mul_right hb (Nat.two_pow_pos e)
     have h2:m / 2 ^ r ≤ 1048576:=Nat.div_le_of_le_mul (by rw [Nat.mul_comm]; exact h1)
     omega
 refine ⟨_,_,_,if Flo.sgn Ieee.double z then -(K:Int) else K,Flo.read_fin hz.fin,?_⟩
 show Flo.Val Ieee.double (Ieee.double.nearest (Flo.sgn Ieee.double z) (Ieee.Toward.down.cut (Flo.sgn Ieee.double z) (Flo.rm Ieee.double (Flo.rung Ieee.double z) <<< (Ieee.double.leastPlace + Flo.re Ieee.double (Flo.rung Ieee.double z)).toNat) (-(Ieee.double.leastPlace + (Flo.re Ieee.double (Flo.rung Ieee.double z):Int))).toNat) 0) _
 rw [hK]
 generalize Flo.sgn Ieee.double z=s at *
 have hna:((if s then -(K:Int) else K) * ((2 ^ Flo.u64:Nat):Int)).natAbs=K * 2 ^ Flo.u64:=by
   rw [Int.natAbs_mul,Int.natAbs_natCast]
   cases s <;> simp
 have hpos:(0:Int) < ((2 ^ Flo.u64:Nat):Int):=by have:=Nat.two_pow_pos Flo.u64; omega
 refine Flo.nearest_val (a:=Flo.u64) (b:=0) (Flo.rep_gen (m:=K) (e:=Flo.u64) hna (by rw [Flo.double_binade]; omega) ?_) (by rw [Flo.least64]; omega) (by rw [hna,Nat.pow_zero,Nat.mul_one]) (fun hneg => ?_) (fun hp => ?_)
 · rw [Flo.double_inf,Flo.u64_eq]; exact Nat.mul_le_mul_right _ (by omega)
 · cases s
   · exfalso
     have:(0:Int) ≤ (K:Int) * ((2 ^ Flo.u64:Nat):Int):=Int.mul_nonneg (by omega) (by omega)
     simp only [Bool.false_eq_true,if_false] at hneg
     omega
   · rfl
 · cases s
   · rfl
   · exfalso
     have:(0:Int) ≤ (K:Int) * ((2 ^ Flo.u64:Nat):Int):=Int.mul_nonneg (by omega) (by omega)
     simp only [if_true,Int.neg_mul] at hp
     omega
set_option maxRecDepth 100000 in
theorem mathFloor_any (z:Nat) (v:Int) (hz:Flo.Val Ieee.double z v) (hb:v.natAbs ≤ 1048576 * 2 ^ Flo.u64) (w:World):Calls Vp.prog 77 #[.float .f64 z] w fun e w' => (∃ (y:Nat) (B:Int),e=.returned (.float .f64 y) ∧ Flo.Val Ieee.double y (B * (2 ^ Flo.u64:Nat))) ∧ w=w':=by
 obtain ⟨s,m,e,B,hd,hv⟩:=floor_any hz hb
 have hr:∀ w,(callFunc 100 #[.float .f64 z]).run Vp.prog w=.ok (.value (.float .f64 (FloatKind.f64.encode ((Ieee.Datum.number s m e).integral .down)))) w:=fun w => by
   rw [archFloor_run,toIntegral_num z s m e hd]
   rfl
 have HV:=Lib.hid hv
 generalize FloatKind.f64.encode ((Ieee.Datum.number s m e).integral .down)=y at *
 clear hz hb hv hd
 go_enter Vp.func77,Tryz.ntmps77
 go_wp2
 go_ret
 exact ⟨⟨y,B,rfl,HV.out⟩,rfl⟩
end Go.Proofs.YthhfljldbfgpcaaGreatDoor
end

section
namespace Go.Proofs.YthhfljldbfgpcaaGreatDoor
open Go.RowKit
namespace Flo
open Ieee
theorem rung_mod (x:Nat):rung single (x % 4294967296)=rung single x:=by
 unfold rung
 rw [show single.signWeight=2147483648 from by decide]
 omega
theorem sgn_mod (x:Nat):sgn single (x % 4294967296)=sgn single x:=by
 unfold sgn
 rw [show single.signWeight=2147483648 from by decide]
 rw [show x % 4294967296 / 2147483648 % 2=x / 2147483648 % 2 from by omega]
theorem iv_mod (x:Nat):iv single (x % 4294967296)=iv single x:=by unfold iv; rw [rung_mod,sgn_mod]
theorem read_mod (x:Nat):single.read (x % 4294967296)=single.read x:=by
 have h1:=rung_mod x
 have h2:=sgn_mod x
 unfold rung at h1
 unfold sgn at h2
 unfold Format.read
 rw [h1,h2]
theorem ordL (x y:Nat):FloatKind.f32.format.order (x % 4294967296) y=FloatKind.f32.format.order x y:=by
 show (single.read _).order _=(single.read _).order _
 rw [read_mod]
theorem ordR (x y:Nat):FloatKind.f32.format.order x (y % 4294967296)=FloatKind.f32.format.order x y:=by
 show (single.read _).order (single.read _)=(single.read _).order (single.read _)
 rw [read_mod]
theorem convM (x:Nat):floatToFloatBits .f32 (x % 4294967296) .f64=floatToFloatBits .f32 x .f64:=by
 unfold floatToFloatBits
 rw [if_neg (by decide),if_neg (by decide)]
 rw [show FloatKind.decode .f32 (x % 4294967296)=FloatKind.decode .f32 x from read_mod x]
theorem addM (x y:Nat):floatBits .add .f32 (x % 4294967296) y=floatBits .add .f32 x y:=by
 show single.add _ _=single.add _ _
 unfold Format.add
 rw [read_mod]
theorem mulM (x y:Nat):floatBits .mul .f32 (x % 4294967296) y=floatBits .mul .f32 x y:=by
 show single.mul _ _=single.mul _ _
 unfold Format.mul
 rw [read_mod]
theorem inFour_mod (x:Nat):inFour (x % 4294967296)=inFour x:=by unfold inFour; simp only [ordL]
theorem wholeB_mod (x d:Nat):wholeB (x % 4294967296) d=wholeB x d:=by unfold wholeB; rw [inFour_mod,iv_mod]
end Flo
set_option maxRecDepth 100000 in
set_option maxHeartbeats 1000000 in
theorem cornerWell_okR (x d:Nat) (hd:d ≤ 11) (h:Flo.wholeB x d=true) (w:World):Calls Vp.prog 48 #[.float .f32 x,.int .i64 d] w fun e w' => e=.returned (.bool true) ∧ w=w':=by
 have hx:x % 4294967296 < 4294967296:=Nat.mod_lt _ (by decide)
 rw [← Flo.wholeB_mod] at h
 obtain ⟨A,hA,hb⟩:=Flo.whole_pt hx hd h
 have hdp:2 ^ d ≤ 2 ^ 11:=Nat.pow_le_pow_right (by omega) hd
 obtain ⟨y1,h1,v1⟩:=Flo.widen_val hA
 have hD:Flo.Val Ieee.double (floatOfInt .f64 ((2 ^ d:Nat):Int)) (((2 ^ d:Nat):Int) * (2 ^ Flo.u64:Nat)):=Flo.ofInt_val (k:=.f64) Flo.least64 _ (by rw [Int.natAbs_natCast]; show _ < 2 * Ieee.double.binade; rw [Flo.double_binade]; omega) (by show (Flo.u64 + 2) * Ieee.double.binade ≤ Ieee.double.infRung; rw [Flo.double_inf,Flo.u64_eq]; exact Nat.mul_le_mul_right _ (by omega))
 have hrep:Flo.Rep Ieee.double (A * (2 ^ Flo.u64:Nat)):=by
   refine Flo.rep_gen (m:=A.natAbs) (e:=Flo.u64) (by rw [Int.natAbs_mul,Int.natAbs_natCast]) (by rw [Flo.double_binade]; omega) ?_
   rw [Flo.double_inf,Flo.u64_eq]
   exact Nat.mul_le_mul_right _ (by omega)
 have hc:A * (2 ^ (Flo.u32 - d):Nat) * (2 ^ Flo.wup:Nat) * (((2 ^ d:Nat):Int) * (2 ^ Flo.u64:Nat))=A * (2 ^ Flo.u64:Nat) * (2 ^ Flo.u64:Nat):=by
   have e:(2 ^ (Flo.u32 - d) * 2 ^ Flo.wup * 2 ^ d:Nat)=2 ^ Flo.u64:=by
     rw [← Nat.pow_add,← Nat.pow_add]
     congr 1
     rw [Flo.u32_eq,Flo.wup_eq,Flo.u64_eq]; omega
   have e2:((2 ^ (Flo.u32 - d):Nat):Int) * (2 ^ Flo.wup:Nat) * (2 ^ d:Nat)=(2 ^ Flo.u64:Nat):=by
     have:=congrArg (fun x:Nat => (x:Int)) e
     simp only [Int.natCast_mul] at this
     exact this
   generalize ((2 ^ (Flo.u32 - d):Nat):Int)=P at *
   generalize ((2 ^ Flo.wup:Nat):Int)=Q at *
   generalize ((2 ^ Flo.u64:Nat):Int)=R at *
   generalize ((2 ^ d:Nat):Int)=S at *
   calc A * P * Q * (S * R)=A * (P * Q * S) * R:=by simp only [Int.mul_assoc]
     _=A * R * R:=by rw [e2]
 obtain ⟨y,hy,v2⟩:=Flo.mul_val (f:=Ieee.double) (c:=A * (2 ^ Flo.u64:Nat)) Flo.least64 v1 hD hc hrep
 have hF:=Lib.hid (mathFloor_is y A v2)
 have hee:Hid (∀ t,Flo.Val Ieee.double t (A * (2 ^ Flo.u64:Nat)) → (FloatKind.f64.format.order y t == some .eq)=true):=fun t ht => by rw [Flo.order_eq_val (k:=.f64) v2 ht]; simp
 obtain ⟨q,hq⟩:∃ q:Int,wrap64 (2 ^ d)=q:=⟨_,rfl⟩
 have hqd:((2 ^ d:Nat):Int)=q:=by rw [← hq,wrap_pow d hd]
 rw [hqd] at hy
 rw [Flo.convM] at h1
 have g1:=fun w => run_convert_float_float (P:=Vp.prog) w 42 68 .f32 .f64 _ _ (by kernel_rfl) (Vp.und Tryz.underlying68) h1
 have g2:=fun w => run_float_arith (P:=Vp.prog) w .mul 68 .f64 _ _ _ hy
 have hw:=Flo.inFour_val hx (by unfold Flo.wholeB at h; rw [Bool.and_eq_true] at h; exact h.1)
 have t1:(FloatKind.f32.format.order 3229614080 (x % 4294967296) == some .lt || FloatKind.f32.format.order 3229614080 (x % 4294967296) == some .eq)=true:=by
   rw [Flo.order_lt_val (k:=.f32) Flo.minus_four_val hw.1,Flo.order_eq_val (k:=.f32) Flo.minus_four_val hw.1]
   have:=hw.2
   simp only [Bool.or_eq_true,decide_eq_true_eq]
   generalize 2 ^ Flo.u32=U at *
   omega
 have t2:(FloatKind.f32.format.order (x % 4294967296) 1082130432 == some .lt || FloatKind.f32.format.order (x % 4294967296) 1082130432 == some .eq)=true:=by
   unfold Flo.wholeB Flo.inFour at h
   rw [Bool.and_eq_true,Bool.and_eq_true] at h
   exact h.1.2
 rw [Flo.ordR] at t1
 rw [Flo.ordL] at t2
 clear h hA hb hdp h1 v1 hD hrep hc hy v2 hqd hw hx
 go_enter Vp.func48,Tryz.ntmps48
 go_wp2_with (go_at_call 77; refine (hF.out _).mono ?_; rintro e w' ⟨⟨t,rfl,ht⟩,rfl⟩; have hte:=hee.out t ht; clear ht)
 go_ret
 exact ⟨rfl,rfl⟩
set_option maxRecDepth 100000 in
set_option maxHeartbeats 1000000 in
theorem cornerWell_noR (x d:Nat) (hd:d ≤ 11) (h:Flo.wholeB x d=false) (w:World):Calls Vp.prog 48 #[.float .f32 x,.int .i64 d] w fun e w' => e=.returned (.bool false) ∧ w=w':=by
 unfold Flo.wholeB at h
 cases hin:Flo.inFour x with
 | false =>
   unfold Flo.inFour at hin
   rw [← flip_ge] at hin
   cases t1:(FloatKind.f32.format.order 3229614080 x == some .lt || FloatKind.f32.format.order 3229614080 x == some .eq) with
   | false =>
     clear h hin
     go_enter Vp.func48,Tryz.ntmps48
     go_wp2
     go_ret
     exact ⟨rfl,rfl⟩
   | true =>
     rw [t1,Bool.true_and] at hin
     have t2:=hin
     clear h hin
     go_enter Vp.func48,Tryz.ntmps48
     go_wp2
     go_ret
     exact ⟨rfl,rfl⟩
 | true =>
   rw [hin,Bool.true_and,decide_eq_false_iff_not] at h
   obtain ⟨hv,hb⟩:=Flo.inFour_val (Nat.mod_lt x (by decide)) ((Flo.inFour_mod x).trans hin)
   rw [Flo.iv_mod] at hv hb
   obtain ⟨v,hvv⟩:∃ v,Flo.iv Ieee.single x=v:=⟨_,rfl⟩
   rw [hvv] at hv hb h
   have hdp:2 ^ d ≤ 2 ^ 11:=Nat.pow_le_pow_right (by omega) hd
   obtain ⟨y1,h1,v1⟩:=Flo.widen_val hv
   have hD:Flo.Val Ieee.double (floatOfInt .f64 ((2 ^ d:Nat):Int)) (((2 ^ d:Nat):Int) * (2 ^ Flo.u64:Nat)):=Flo.ofInt_val (k:=.f64) Flo.least64 _ (by rw [Int.natAbs_natCast]; show _ < 2 * Ieee.double.binade; rw [Flo.double_binade]; omega) (by show (Flo.u64 + 2) * Ieee.double.binade ≤ Ieee.double.infRung; rw [Flo.double_inf,Flo.u64_eq]; exact Nat.mul_le_mul_right _ (by omega))
   have hdg:=Flo.val_digits hv
   have hre:=Flo.re_lt (e:=254) hv.fin (by decide)
   have hrm:=Flo.rm_lt Ieee.single (Flo.rung Ieee.single (x % 4294967296))
   rw [Flo.single_binade] at hrm
   have hrep:Flo.Rep Ieee.double (v * (2 ^ Flo.wup:Nat) * (2 ^ d:Nat)):=by
     refine Flo.rep_gen (m:=Flo.rm Ieee.single (Flo.rung Ieee.single (x % 4294967296))) (e:=Flo.re Ieee.single (Flo.rung Ieee.single (x % 4294967296)) + Flo.wup + d) ?_ (by rw [Flo.double_binade]; omega) ?_
     · rw [Int.natAbs_mul,Int.natAbs_mul,Int.natAbs_natCast,Int.natAbs_natCast,hdg,Nat.pow_add,Nat.pow_add]
       simp only [Nat.mul_assoc]
     · rw [Flo.double_inf,Flo.wup_eq]; exact Nat.mul_le_mul_right _ (by omega)
   have hc:v * (2 ^ Flo.wup:Nat) * (((2 ^ d:Nat):Int) * (2 ^ Flo.u64:Nat))=v * (2 ^ Flo.wup:Nat) * (2 ^ d:Nat) * (2 ^ Flo.u64:Nat):=by
     simp only [Int.mul_assoc]
   obtain ⟨y,hy,v2⟩:=Flo.mul_val (f:=Ieee.double) (c:=v * (2 ^ Flo.wup:Nat) * (2 ^ d:Nat)) Flo.least64 v1 hD hc hrep
   have hU:(2 ^ Flo.u64:Nat)=2 ^ Flo.u32 * 2 ^ Flo.wup:=by rw [← Nat.pow_add]; congr 1
   have hV:(v * (2 ^ Flo.wup:Nat) * (2 ^ d:Nat)).natAbs ≤ 1048576 * 2 ^ Flo.u64:=by
     rw [Int.natAbs_mul,Int.natAbs_mul,Int.natAbs_natCast,Int.natAbs_natCast,hU]
     calc v.natAbs * 2 ^ Flo.wup * 2 ^ d ≤ (4 * 2 ^ Flo.u32) * 2 ^ Flo.wup * 2 ^ 11:=Nat.mul_le_mul (Nat.mul_le_mul_right _ hb) hdp
       _=8192 * (2 ^ Flo.u32 * 2 ^ Flo.wup):=by rw [Nat.mul_comm,← Nat.mul_assoc,← Nat.mul_assoc,Nat.mul_assoc]
       _ ≤ 1048576 * (2 ^ Flo.u32 * 2 ^ Flo.wup):=Nat.mul_le_mul_right _ (by omega)
   have hne:∀ B:Int,v * (2 ^ Flo.wup:Nat) * (2 ^ d:Nat) ≠ B * (2 ^ Flo.u64:Nat):=by
     intro B hB
     apply h
     rw [hU,Int.natCast_mul,← Int.mul_assoc,Int.mul_right_comm v] at hB
     have hp:((2 ^ Flo.wup:Nat):Int) ≠ 0:=by have:=Nat.two_pow_pos Flo.wup; omega
     have:=Int.eq_of_mul_eq_mul_right hp hB
     rw [this]
     exact Int.mul_emod_left _ _
   have hF:=Lib.hid (mathFloor_any y _ v2 hV)
   have hee:Hid (∀ (t:Nat) (B:Int),Flo.Val Ieee.double t (B * (2 ^ Flo.u64:Nat)) → (FloatKind.f64.format.order y t == some .eq)=false):=fun t B ht => by rw [Flo.order_eq_val (k:=.f64) v2 ht]; simpa using hne B
   obtain ⟨q,hq⟩:∃ q:Int,wrap64 (2 ^ d)=q:=⟨_,rfl⟩
   have hqd:((2 ^ d:Nat):Int)=q:=by rw [← hq,wrap_pow d hd]
   rw [hqd] at hy
   rw [Flo.convM] at h1
   have g1:=fun w => run_convert_float_float (P:=Vp.prog) w 42 68 .f32 .f64 _ _ (by kernel_rfl) (Vp.und Tryz.underlying68) h1
   have g2:=fun w => run_float_arith (P:=Vp.prog) w .mul 68 .f64 _ _ _ hy
   unfold Flo.inFour at hin
   rw [← flip_ge,Bool.and_eq_true] at hin
   obtain ⟨t1,t2⟩:=hin
   clear h hv hb hvv hdp h1 v1 hD hdg hre hrm hrep hc hy v2 hqd hU hV hne
   go_enter Vp.func48,Tryz.ntmps48
   go_wp2_with (go_at_call 77; refine (hF.out _).mono ?_; rintro e w' ⟨⟨t,B,rfl,ht⟩,rfl⟩; have hte:=hee.out t B ht; clear ht)
   go_ret
   exact ⟨rfl,rfl⟩
theorem cornerWell_isR (x d:Nat) (hd:d ≤ 11) (w:World):Calls Vp.prog 48 #[.float .f32 x,.int .i64 d] w fun e w' => e=.returned (.bool (Flo.wholeB x d)) ∧ w=w':=by
 cases h:Flo.wholeB x d with
 | true => exact cornerWell_okR x d hd h w
 | false => exact cornerWell_noR x d hd h w
set_option maxRecDepth 100000 in
set_option maxHeartbeats 1000000 in
theorem placeWell_isR (cx cy:Nat) (deep size:Int) (w:World):Calls Vp.prog 19 #[.complex .f32 cx cy,.int .i64 deep,.int .i64 size] w fun e w' => e=.returned (.bool (placeB cx cy deep size)) ∧ w=w':=by
 by_cases hin:0 ≤ deep ∧ deep ≤ 10 ∧ 1 ≤ size ∧ size ≤ 8
 · obtain ⟨d,rfl⟩:=Int.eq_ofNat_of_zero_le hin.1
   have hX:=Lib.hid (cornerWell_isR cx d (by omega))
   have hY:=Lib.hid (cornerWell_isR cy d (by omega))
   have HP:Hid (placeB cx cy d size=(Flo.wholeB cx d && Flo.wholeB cy d)):=by
     show _=_
     unfold placeB inB
     rw [Int.toNat_natCast,decide_eq_true hin.1,decide_eq_true hin.2.1,decide_eq_true hin.2.2.1,decide_eq_true hin.2.2.2]
     rfl
   have a1:decide ((d:Int) < 0)=false:=by simp
   have a2:decide (10 < (d:Int))=false:=by simp; omega
   have a3:decide (size < 1)=false:=by simp; omega
   have a4:decide (8 < size)=false:=by simp; omega
   rw [HP.out]
   generalize Flo.wholeB cx d=b1 at *
   generalize Flo.wholeB cy d=b2 at *
   clear HP hin
   cases b1 <;> cases b2
   all_goals
     go_enter Vp.func19,Tryz.ntmps19
     go_wp2_with (first | (go_at_call 48; (with_reducible refine (hX.out _).mono ?_); rintro e w' ⟨rfl,rfl⟩) | (go_at_call 48; (with_reducible refine (hY.out _).mono ?_); rintro e w' ⟨rfl,rfl⟩))
     go_ret
     exact ⟨rfl,rfl⟩
 · have HP:Hid (placeB cx cy deep size=false):=by
     show _=false
     cases h:placeB cx cy deep size with
     | false => rfl
     | true => exact absurd (placeB_bd h) (by omega)
   rw [HP.out]
   clear HP
   by_cases a1:deep < 0
   · have a1:=decide_eq_true a1
     go_enter Vp.func19,Tryz.ntmps19
     go_wp2
     go_ret
     exact ⟨rfl,rfl⟩
   · by_cases a2:10 < deep
     · have a1:=decide_eq_false a1
       have a2:=decide_eq_true a2
       go_enter Vp.func19,Tryz.ntmps19
       go_wp2
       go_ret
       exact ⟨rfl,rfl⟩
     · by_cases a3:size < 1
       · have a1:=decide_eq_false a1
         have a2:=decide_eq_false a2
         have a3:=decide_eq_true a3
         go_enter Vp.func19,Tryz.ntmps19
         go_wp2
         go_ret
         exact ⟨rfl,rfl⟩
       · have a4:8 < size:=by omega
         have a1:=decide_eq_false a1
         have a2:=decide_eq_false a2
         have a3:=decide_eq_false a3
         have a4:=decide_eq_true a4
         clear hin
         go_enter Vp.func19,Tryz.ntmps19
         go_wp2
         go_ret
         exact ⟨rfl,rfl⟩
set_option maxRecDepth 100000 in
set_option maxHeartbeats 1000000 in
theorem l7Whole_isR (x d:Nat) (hd:d ≤ 11) (w:World):Calls Vp.prog 52 #[.float .f32 x,.int .i64 d] w fun e w' => e=.returned (.bool (Flo.wholeB x d)) ∧ Drw w w':=by
 have hdp:2 ^ d ≤ 2 ^ 11:=Nat.pow_le_pow_right (by omega) hd
 obtain ⟨q,hq⟩:∃ q:Int,wrap64 (2 ^ d)=q:=⟨_,rfl⟩
 have hqd:((2 ^ d:Nat):Int)=q:=by rw [← hq,wrap_pow d hd]
 cases h4:Flo.inFour x with
 | false =>
   have hw:Flo.wholeB x d=false:=by unfold Flo.wholeB; rw [h4]; rfl
   rw [hw]
   obtain ⟨y,w1,h1,_,d1⟩:=Flo.arith_any (P:=Vp.prog) .mul (by simp) 42 .f32 x (floatOfInt .f32 q) w
   have HD:=Lib.hid d1
   unfold Flo.inFour at h4
   clear d1 hqd hdp hw
   cases b1:(FloatKind.f32.format.order x 3229614080 == some .gt || FloatKind.f32.format.order x 3229614080 == some .eq) with
   | false =>
     clear h4
     go_enter Vp.func52,Tryz.ntmps52
     go_wp2
     go_ret
     exact ⟨rfl,HD.out⟩
   | true =>
     rw [b1,Bool.true_and] at h4
     go_enter Vp.func52,Tryz.ntmps52
     go_wp2
     go_ret
     exact ⟨rfl,HD.out⟩
 | true =>
   obtain ⟨y,n,h1,h2,-,-,h3⟩:=Flo.whole_steps (Nat.mod_lt x (by decide)) hd ((Flo.inFour_mod x).trans h4)
   rw [Flo.mulM] at h1
   rw [Flo.iv_mod] at h3
   have hw:Flo.wholeB x d=(FloatKind.f32.format.order (floatOfInt .f32 n) y == some .eq):=by unfold Flo.wholeB; rw [h4,h3]; rfl
   rw [hw]
   rw [hqd] at h1
   have g1:∀ w,(binOp .mul 42 (.float .f32 x) (.float .f32 (floatOfInt .f32 q))).run Vp.prog w=.ok (.float .f32 y) w:=fun w => run_float_arith w .mul _ .f32 _ _ _ h1
   have g2:∀ w,(convert 42 3 (.float .f32 y)).run Vp.prog w=.ok (.int .i64 n) w:=fun w => run_convert_float_int w _ _ .f32 .i64 _ _ (by kernel_rfl) (Vp.und Tryz.underlying3) h2
   unfold Flo.inFour at h4
   rw [Bool.and_eq_true] at h4
   obtain ⟨b1,b2⟩:=h4
   clear h1 h2 h3 hw hqd hdp
   cases b3:(FloatKind.f32.format.order (floatOfInt .f32 n) y == some .eq) with
   | false =>
     go_enter Vp.func52,Tryz.ntmps52
     go_wp2
     go_ret
     exact ⟨rfl,Drw.refl _⟩
   | true =>
     go_enter Vp.func52,Tryz.ntmps52
     go_wp2
     go_ret
     exact ⟨rfl,Drw.refl _⟩
set_option maxHeartbeats 1000000 in
theorem l7Place_isR (cx cy:Nat) (deep size:Int) (w:World):Calls Vp.prog 22 #[.complex .f32 cx cy,.int .i64 deep,.int .i64 size] w fun e w' => e=.returned (.bool (placeB cx cy deep size)) ∧ Drw w w':=by
 unfold placeB
 cases h1:inB deep 0 10 with
 | false =>
   go_enter Vp.func22,Tryz.ntmps22
   go_wp2_with (go_at_call 51; refine (l6In_any _ _ _ _).mono ?_; rintro e w' ⟨rfl,rfl⟩)
   go_ret
   exact ⟨rfl,Drw.refl _⟩
 | true =>
   cases h2:inB size 1 8 with
   | false =>
     go_enter Vp.func22,Tryz.ntmps22
     go_wp2_with (go_at_call 51; refine (l6In_any _ _ _ _).mono ?_; rintro e w' ⟨rfl,rfl⟩)
     go_ret
     exact ⟨rfl,Drw.refl _⟩
   | true =>
     obtain ⟨d,rfl,hd⟩:∃ d:Nat,deep=d ∧ d ≤ 11:=by
       unfold inB at h1
       simp only [Bool.and_eq_true,decide_eq_true_eq] at h1
       exact ⟨deep.toNat,by omega,by omega⟩
     rw [Int.toNat_natCast]
     have HX:=Lib.hid (fun w => l7Whole_isR cx d hd w)
     have HY:=Lib.hid (fun w => l7Whole_isR cy d hd w)
     cases h3:Flo.wholeB cx d with
     | false =>
       rw [h3] at HX
       go_enter Vp.func22,Tryz.ntmps22
       go_wp2_with (first | (go_at_call 51; refine (l6In_any _ _ _ _).mono ?_; rintro e w' ⟨rfl,rfl⟩) | (go_at_call 52; refine (HX.out _).mono ?_; rintro e w1 ⟨rfl,d1⟩; have H1:=Lib.hid d1; clear d1))
       go_ret
       exact ⟨rfl,H1.out⟩
     | true =>
       rw [h3] at HX
       cases h4:Flo.wholeB cy d with
       | false =>
         rw [h4] at HY
         go_enter Vp.func22,Tryz.ntmps22
         go_wp2_with (first | (go_at_call 51; refine (l6In_any _ _ _ _).mono ?_; rintro e w' ⟨rfl,rfl⟩) | (go_at_call 52; refine (HX.out _).mono ?_; rintro e w1 ⟨rfl,d1⟩; have H1:=Lib.hid d1; clear d1 HX) | (go_at_call 52; refine (HY.out _).mono ?_; rintro e w2 ⟨rfl,d1⟩; have H2:=Lib.hid (H1.out.trans d1); clear d1))
         go_ret
         exact ⟨rfl,H2.out⟩
       | true =>
         rw [h4] at HY
         go_enter Vp.func22,Tryz.ntmps22
         go_wp2_with (first | (go_at_call 51; refine (l6In_any _ _ _ _).mono ?_; rintro e w' ⟨rfl,rfl⟩) | (go_at_call 52; refine (HX.out _).mono ?_; rintro e w1 ⟨rfl,d1⟩; have H1:=Lib.hid d1; clear d1 HX) | (go_at_call 52; refine (HY.out _).mono ?_; rintro e w2 ⟨rfl,d1⟩; have H2:=Lib.hid (H1.out.trans d1); clear d1))
         go_ret
         exact ⟨rfl,H2.out⟩
end Go.Proofs.YthhfljldbfgpcaaGreatDoor
end
