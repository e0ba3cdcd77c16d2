/- Merged texts: FlE, BjB, BjC, SiA, SiB, Ro, Guard. -/
import Derived.Test.YthhfljldbfgpcaaGreatDoorT9
import Derived.Test.YthhfljldbfgpcaaGreatDoorT44
import Derived.Test.YthhfljldbfgpcaaGreatDoorT2
import Derived.Test.YthhfljldbfgpcaaGreatDoorT14
import Derived.Test.YthhfljldbfgpcaaGreatDoorT19
import Derived.Test.YthhfljldbfgpcaaGreatDoorT5
import Derived.Test.YthhfljldbfgpcaaGreatDoorT31
import Derived.Test.YthhfljldbfgpcaaGreatDoorT36
set_option linter.all false
section
namespace Go.Proofs.YthhfljldbfgpcaaGreatDoor.Flo
open Go.RowKit Ieee
structure Bd (B:Nat) (x:Nat):Prop where
 val:Val single x (iv single x)
 le:(iv single x).natAbs ≤ B * 2 ^ u32
theorem Bd.nan {B x:Nat} (h:Bd B x):Flo.nan .f32 x=false:=val_nan (k:=.f32) h.val
theorem narrow_gen {z B sR:Nat} (hr:sR < single.infRung) (hB:rv single sR=B * 2 ^ u32) (hz:Val double z (iv double z)) (hb:(iv double z).natAbs ≤ B * 2 ^ u64) :
   ∃ u,floatToFloatBits .f64 z .f32=some u ∧ Bd B u:=by
 have hd:=val_digits hz
 have hn:=nearest_bd (f:=single) (s:=sgn double z) (mag:=rm double (rung double z)) (place:=double.leastPlace + re double (rung double z)) (r:=sR) (a:=re double (rung double z)) (b:=wup) hr (by rw [single_least,double_least,wup_eq]; omega) (by
   rw [hB,← hd]
   have:B * 2 ^ u32 * 2 ^ wup=B * 2 ^ u64:=by rw [Nat.mul_assoc,← Nat.pow_add,show u32 + wup=u64 from rfl]
   rw [this]; exact hb)
 unfold floatToFloatBits
 rw [if_neg (by decide)]
 have hdec:FloatKind.decode .f64 z=.number (sgn double z) (rm double (rung double z)) (double.leastPlace + re double (rung double z)):=read_fin hz.fin
 rw [hdec]
 have hni:(FloatKind.decode .f32 (FloatKind.encode .f32 (.number (sgn double z) (rm double (rung double z)) (double.leastPlace + re double (rung double z))))).isInfinity=false:=val_inf (k:=.f32) hn.1
 simp only [hni]
 exact ⟨_,rfl,⟨hn.1,by rw [← hB]; exact hn.2⟩⟩
theorem step_bd {x y:Nat} (hx:x < 4294967296) (hy:y < 4294967296) (h:le4 (normC (widenC x) (widenC y))=true) :
   Bd 5 (narrowC (sqRe (widenC x) (widenC y))) ∧ Bd 5 (narrowC (sqIm (widenC x) (widenC y))):=by
 have hnar:∀ {z:Nat},Val double z (iv double z) → (iv double z).natAbs ≤ 5 * 2 ^ u64 → Bd 5 (narrowC z):=fun hv hb => by
   obtain ⟨u,hu,hbd⟩:=narrow_gen five_fin32 five_rv32 hv hb
   unfold narrowC; rw [hu]; exact hbd
 have vx:Val single x (iv single x):=⟨hx,fin_left h,rfl⟩
 have vy:Val single y (iv single y):=⟨hy,fin_right h,rfl⟩
 obtain ⟨X,eX,vX⟩:=widen_val vx
 obtain ⟨Y,eY,vY⟩:=widen_val vy
 have wx:widenC x=X:=by unfold widenC; rw [eX]; rfl
 have wy:widenC y=Y:=by unfold widenC; rw [eY]; rfl
 rw [wx,wy] at h ⊢
 have pxx:=prod_val vx vx vX vX
 have pyy:=prod_val vy vy vY vY
 have pxy:=prod_val vx vy vX vY
 have eK:(5 * 2 ^ u64:Nat)=5 * 2 ^ k298 * 2 ^ k776:=by rw [Nat.mul_assoc,← Nat.pow_add,show k298 + k776=u64 from rfl]
 have hsum:iv single x * iv single x + iv single y * iv single y < ((5 * 2 ^ k298:Nat):Int):=by
   rcases Int.lt_or_le (iv single x * iv single x + iv single y * iv single y) ((5 * 2 ^ k298:Nat):Int) with h1 | h1
   · exact h1
   · exfalso
     have:=add_over pxx pyy (by
       rw [eK,← Int.add_mul,Int.natCast_mul (5 * 2 ^ k298)]
       exact Int.mul_le_mul_of_nonneg_right h1 (Int.natCast_nonneg _))
     unfold normC at h
     rw [this] at h; cases h
 have sx:0 ≤ iv single x * iv single x:=sq_pos _
 have sy:0 ≤ iv single y * iv single y:=sq_pos _
 have h2:0 ≤ (iv single x - iv single y) * (iv single x - iv single y):=sq_pos _
 have h3:0 ≤ (iv single x + iv single y) * (iv single x + iv single y):=sq_pos _
 have e2:(iv single x - iv single y) * (iv single x - iv single y)=iv single x * iv single x + iv single y * iv single y - 2 * (iv single x * iv single y):=by
   rw [Int.sub_mul,Int.mul_sub,Int.mul_sub,Int.mul_comm (iv single y) (iv single x)]; omega
 have e3:(iv single x + iv single y) * (iv single x + iv single y)=iv single x * iv single x + iv single y * iv single y + 2 * (iv single x * iv single y):=by
   rw [Int.add_mul,Int.mul_add,Int.mul_add,Int.mul_comm (iv single y) (iv single x)]; omega
 rw [e2] at h2
 rw [e3] at h3
 clear e2 e3
 generalize iv single x * iv single x=A at *
 generalize iv single y * iv single y=B at *
 generalize iv single x * iv single y=C at *
 have bd:∀ T:Int,T.natAbs ≤ 5 * 2 ^ k298 → (T * (2 ^ k776:Nat)).natAbs ≤ 5 * 2 ^ u64:=by
   intro T hT
   rw [Int.natAbs_mul,Int.natAbs_natCast,eK]
   exact Nat.mul_le_mul_right _ hT
 constructor
 · obtain ⟨z,hz,hv,hb⟩:=sub_bd (r:=r5) pxx pyy five_fin (by
     rw [five_rv,← Int.sub_mul]
     exact bd _ (by generalize (2:Nat) ^ 298=U at *; omega))
   rw [five_rv] at hb
   have e:sqRe X Y=z:=by
     unfold sqRe opC
     unfold opC at hz
     rw [show floatBits .sub .f64 ((floatBits .mul .f64 X X).getD (nanW .f64)) ((floatBits .mul .f64 Y Y).getD (nanW .f64))=some z from hz]; rfl
   rw [e]
   exact hnar hv hb
 · have two:Val double 4611686018427387904 ((2:Int) * (2 ^ u64:Nat)):=by
     refine ⟨by decide,by unfold fin; decide,?_⟩
     unfold iv
     rw [if_neg (by decide)]
     have:rv double (rung double 4611686018427387904)=2 * 2 ^ u64:=by kernel_rfl
     rw [this]; simp
   have hrep:Rep double (2 * (C * (2 ^ k776:Nat))):=by
     exact rep_two pxy (by have:=bd (2 * C) (by generalize (2:Nat) ^ 298=U at *; omega); rw [Int.mul_assoc] at this; exact this)
   obtain ⟨z,hz,hv⟩:=mul_val (f:=double) (c:=2 * (C * (2 ^ k776:Nat))) least64 two pxy (by rw [Int.mul_right_comm]) hrep
   have e:sqIm X Y=z:=by
     unfold sqIm
     show (floatBits .mul .f64 4611686018427387904 (opC .mul .f64 X Y)).getD _=z
     rw [show floatBits .mul .f64 4611686018427387904 (opC .mul .f64 X Y)=some z from hz]; rfl
   rw [e]
   refine hnar (by rw [hv.iv]; exact hv) ?_
   rw [hv.iv]
   have:=bd (2 * C) (by generalize (2:Nat) ^ 298=U at *; omega)
   rw [Int.mul_assoc] at this
   exact this
theorem rep16:Rep single ((16 * 2 ^ u32:Nat):Int):=rep_of (m:=1) (e:=u32 + 4) (by rw [Int.natAbs_natCast,Nat.one_mul,Nat.pow_add,Nat.mul_comm]) (by rw [single_binade]; decide) (by decide) (by decide)
theorem Rep.neg {f:Format} {v:Int} (h:Rep f v):Rep f (-v):=by
 obtain ⟨r,h1,h2⟩:=h
 exact ⟨r,h1,by rw [Int.natAbs_neg]; exact h2⟩
theorem add_bd {x c:Nat} (hx:Bd 5 x) (hc:Bd 8 c):Bd 16 (opC .add .f32 x c):=by
 have h1:=hx.le
 have h2:=hc.le
 have hp:=Nat.two_pow_pos u32
 obtain ⟨z,hz,hv,g1,g2⟩:=add_between hx.val hc.val rep16.neg rep16 (by generalize 2 ^ u32=U at *; omega) (by generalize 2 ^ u32=U at *; omega)
 have e:opC .add .f32 x c=z:=by unfold opC; rw [show floatBits .add .f32 x c=some z from hz]; rfl
 rw [e]
 exact ⟨hv,by generalize 2 ^ u32=U at *; omega⟩
theorem bd_zero:Bd 16 0:=by
 have h:Val single 0 0:=⟨by decide,by unfold fin; decide,by decide⟩
 exact ⟨by rw [h.iv]; exact h,by rw [h.iv]; exact Nat.zero_le _⟩
theorem orb_bd {c d:Nat} (hc:Bd 8 c) (hd:Bd 8 d) {k:Nat} (h:∀ j,j < k → okS c d j=true):Bd 16 (orbS c d k).1 ∧ Bd 16 (orbS c d k).2:=by
 cases k with
 | zero => exact ⟨bd_zero,bd_zero⟩
 | succ k =>
   have ho:=h k (by omega)
   unfold okS at ho
   obtain ⟨h1,h2⟩:=step_bd (orbS_lt c d k).1 (orbS_lt c d k).2 ho
   exact ⟨add_bd h1 hc,add_bd h2 hd⟩
def s512:Nat:=1140850688
theorem rv512:rv single s512=512 * 2 ^ u32:=by kernel_rfl
theorem fin512:s512 < single.infRung:=by decide
theorem rep512:Rep double ((512 * 2 ^ u64:Nat):Int):=rep_of (m:=1) (e:=u64 + 9) (by rw [Int.natAbs_natCast,Nat.one_mul,Nat.pow_add,Nat.mul_comm]) (by rw [double_binade]; decide) (by decide) (by decide)
theorem norm_bd {x y:Nat} (hx:Bd 16 x) (hy:Bd 16 y):∃ m u,normC (widenC x) (widenC y)=m ∧ Flo.nan .f64 m=false ∧ floatToFloatBits .f64 m .f32=some u ∧ Flo.nan .f32 u=false:=by
 obtain ⟨X,eX,vX⟩:=widen_val hx.val
 obtain ⟨Y,eY,vY⟩:=widen_val hy.val
 have wx:widenC x=X:=by unfold widenC; rw [eX]; rfl
 have wy:widenC y=Y:=by unfold widenC; rw [eY]; rfl
 rw [wx,wy]
 have pxx:=prod_val hx.val hx.val vX vX
 have pyy:=prod_val hy.val hy.val vY vY
 have eK:(256 * 2 ^ u64:Nat)=16 * 2 ^ u32 * (16 * 2 ^ u32) * 2 ^ k776:=by
   have:2 ^ u64=2 ^ u32 * 2 ^ u32 * 2 ^ k776:=by rw [← Nat.pow_add,← Nat.pow_add,show u32 + u32 + k776=u64 from rfl]
   rw [this]
   generalize 2 ^ u32=U
   generalize 2 ^ k776=K
   rw [show 16 * U * (16 * U)=256 * (U * U) from by rw [Nat.mul_mul_mul_comm]]
   rw [Nat.mul_assoc 256]
 have sq:∀ a:Int,a.natAbs ≤ 16 * 2 ^ u32 → (a * a * (2 ^ k776:Nat)).natAbs ≤ 256 * 2 ^ u64:=fun a ha => by
   rw [Int.natAbs_mul,Int.natAbs_mul,Int.natAbs_natCast,eK]
   exact Nat.mul_le_mul_right _ (Nat.mul_le_mul ha ha)
 have b1:=sq _ hx.le
 have b2:=sq _ hy.le
 obtain ⟨z,hz,hv,g1,g2⟩:=add_between pxx pyy rep512.neg rep512 (by generalize 2 ^ u64=U at *; omega) (by generalize 2 ^ u64=U at *; omega)
 have e:normC X Y=z:=by
   unfold normC
   show (floatBits .add .f64 (opC .mul .f64 X X) (opC .mul .f64 Y Y)).getD _=z
   rw [show floatBits .add .f64 (opC .mul .f64 X X) (opC .mul .f64 Y Y)=some z from hz]; rfl
 obtain ⟨u,hu,hb⟩:=narrow_gen fin512 rv512 hv (by generalize 2 ^ u64=U at *; omega)
 exact ⟨z,u,e,val_nan (k:=.f64) hv,hu,hb.nan⟩
theorem four_one:∃ s m e,FloatKind.f32.format.read 1082130432=.number s (m + 1) e:=⟨false,8388607,-21,by decide +kernel⟩
theorem add_some {x y:Nat} {v:Int} (hx:Val single x v) (hy:Flo.nan .f32 y=false):∃ r,floatBits .add .f32 x y=some r:=by
 show ∃ r,single.add x y=some r
 unfold Format.add
 rw [read_fin hx.fin]
 unfold Flo.nan FloatKind.decode at hy
 have hy:(single.read y).isNaN=false:=hy
 cases h:single.read y with
 | nan _ _ => rw [h] at hy; cases hy
 | infinity t => exact ⟨_,rfl⟩
 | number t n j => exact ⟨_,rfl⟩
def smK (k:Int) (u:Nat):Nat:=opC .add .f32 (floatOfInt .f32 k) (opC .quo .f32 1082130432 u)
theorem smK_runs {k:Int} {u:Nat} (hk:k.natAbs ≤ 400) (hu:Flo.nan .f32 u=false):floatBits .quo .f32 1082130432 u=some (opC .quo .f32 1082130432 u) ∧ floatBits .add .f32 (floatOfInt .f32 k) (opC .quo .f32 1082130432 u)=some (smK k u):=by
 obtain ⟨q,hq,hqn⟩:=quo_number four_one hu
 have e:opC .quo .f32 1082130432 u=q:=by unfold opC; rw [hq]; rfl
 have hi:=ofInt_val (k:=.f32) (l:=149) (by decide) k (by show k.natAbs < 2 * single.binade; rw [single_binade]; omega) (by decide)
 obtain ⟨r,hr⟩:=add_some hi hqn
 refine ⟨by rw [e]; exact hq,?_⟩
 unfold smK opC
 rw [show floatBits .quo .f32 1082130432 u=some q from hq]
 show floatBits .add .f32 (floatOfInt .f32 k) q=some ((floatBits .add .f32 (floatOfInt .f32 k) q).getD _)
 rw [hr]; rfl
end Go.Proofs.YthhfljldbfgpcaaGreatDoor.Flo
end

section
namespace Go.Proofs.YthhfljldbfgpcaaGreatDoor
open Go.RowKit Flo
set_option maxRecDepth 100000 in
set_option maxHeartbeats 2000000 in
theorem l3Escape_val (c d:Nat) (n:Int) (w:World):Calls Vp.prog 58 #[.complex .f32 c d,.int .i64 n] w fun e w' => (∃ (k:Int) (a b:Nat),e=.returned (.tuple #[.int .i64 k,.complex .f32 a b]) ∧ IsEsc (okS c d) (mostN n) k ∧ (0 ≤ k → Al .f32 (orbS c d k.toNat).1 a ∧ Al .f32 (orbS c d k.toNat).2 b)) ∧ Drw w w':=by
 have hmb:=mostN_bd n
 go_enter Vp.func58,Tryz.ntmps58
 go_wp2
 go_loopw [6,7] (fun z i wr => ∃ k x y:Nat,k ≤ 401 ∧ i=.int .i64 k ∧ z=.complex .f32 x y ∧ x < 4294967296 ∧ y < 4294967296 ∧ Hid (Drw w wr) ∧ Hid (Al .f32 (orbS c d k).1 x ∧ Al .f32 (orbS c d k).2 y ∧ ∀ j,j < k → okS c d j=true)) (fun _ i _ => (401 - intOf i).toNat)
 case atStart => exact ⟨0,0,0,by omega,rfl,rfl,by omega,by omega,Drw.refl _,Al.refl _ _,Al.refl _ _,fun j hj => by omega⟩
 case round =>
   obtain ⟨k,x,y,hk,rfl,rfl,hx,hy,HD,HA⟩:=hrel
   obtain ⟨wo,rfl⟩:∃ wo,wo=wr:=⟨_,rfl⟩
   go_wp2_with fail
   refine (l3Most_is n _).mono ?_
   rintro e w1 ⟨rfl,rfl⟩
   by_cases hkr:(k:Int) ≤ mostN n
   · obtain ⟨p,q,w1,h1,_,_,d1,ap,aq⟩:=Flo.cwiden_al (P:=Vp.prog) 23 39 (by kernel_rfl) (Vp.und Tryz.underlying39) x y hx hy wo
     have H1:=Lib.hid (HD.out.trans d1)
     clear d1
     go_wp2_with fail
     refine (specNorm_al p q _).mono ?_
     rintro e w2 ⟨⟨m,rfl,hm,am⟩,hd⟩
     have H2:=Lib.hid (H1.out.trans hd)
     have HK:Hid (le4 m=okS c d k):=by
       unfold okS
       rw [widenC_al HA.out.1,widenC_al HA.out.2.1,normC_al ap aq]
       exact (le4_al am).symm
     clear hd H1 HD h1 ap aq am
     have hb:=HK.out
     unfold le4 at hb
     cases ho:okS c d k with
     | false =>
       rw [ho] at hb
       have HR:Hid (IsEsc (okS c d) (mostN n) k):=.inl ⟨k,rfl,hkr,ho,HA.out.2.2⟩
       have HAA:Hid (Al .f32 (orbS c d k).1 x ∧ Al .f32 (orbS c d k).2 y):=⟨HA.out.1,HA.out.2.1⟩
       clear ho HK HA
       go_wp2
       go_ret2
       exact ⟨⟨_,x,y,rfl,HR.out,fun _ => by rw [Int.toNat_natCast]; exact HAA.out⟩,H2.out⟩
     | true =>
       rw [ho] at hb
       have ho':=ho
       unfold okS at ho'
       have e1:=Al.same HA.out.1 (fin_num (fin_left ho'))
       have e2:=Al.same HA.out.2.1 (fin_num (fin_right ho'))
       subst e1 e2
       have HO:=Lib.hid ho'
       have HP:Hid (∀ j,j < k + 1 → okS c d j=true):=fun j hj => by
         by_cases e:j=k
         · rw [e]; exact ho
         · exact HA.out.2.2 j (by omega)
       clear ho ho' HK HA
       go_wp2_with fail
       refine (specStepS_al _ _ c d hx hy HO.out _).mono ?_
       rintro e w3 ⟨⟨a,b,rfl,ha,hb',aa,ab⟩,hd⟩
       have H3:=Lib.hid (H2.out.trans hd)
       have HQ:Hid (Al .f32 (orbS c d (k + 1)).1 a ∧ Al .f32 (orbS c d (k + 1)).2 b ∧ ∀ j,j < k + 1 → okS c d j=true):=⟨aa,ab,HP.out⟩
       clear hd H2 aa ab HP HO
       go_wp2
       go_roundw
       case rel => exact ⟨k + 1,a,b,by omega,by go_num,rfl,ha,hb',H3,HQ⟩
       case measure => simp [intOf]; omega
   · have HR:Hid (IsEsc (okS c d) (mostN n) (-1)):=.inr ⟨rfl,fun j hj => HA.out.2.2 j (by omega)⟩
     go_wp2
     go_ret2
     exact ⟨⟨_,x,y,rfl,HR.out,fun h => by omega⟩,HD.out⟩
def smC (c d:Nat) (n:Int):Nat :=
 if escN (okS c d) (mostN n).toNat < 0 then 3212836864
 else smK (escN (okS c d) (mostN n).toNat) (narrowC (normC (widenC (orbS c d (escN (okS c d) (mostN n).toNat).toNat).1) (widenC (orbS c d (escN (okS c d) (mostN n).toNat).toNat).2)))
theorem escN_num {ok:Nat → Bool} {n k:Int} (h:IsEsc ok (mostN n) k):k=-1 ∨ (0 ≤ k ∧ k ≤ 400 ∧ ∀ j:Nat,j < k.toNat → ok j=true):=by
 have hb:=mostN_bd n
 rcases h with ⟨m,rfl,h1,h2,h3⟩ | ⟨rfl,h1⟩
 · exact .inr ⟨by omega,by omega,fun j hj => h3 j (by omega)⟩
 · exact .inl rfl
theorem Al.id {k:FloatKind} {x a:Nat} (h:Al k x a) (g:nan k x=false):a=x:=by
 rcases h with rfl | ⟨h1,h2⟩
 · rfl
 · rw [h1] at g; cases g
set_option maxRecDepth 100000 in
set_option maxHeartbeats 2000000 in
theorem implSmooth_is (c d:Nat) (n:Int) (hc:Bd 8 c) (hd:Bd 8 d) (w:World):Calls Vp.prog 12 #[.complex .f32 c d,.int .i64 n] w fun e w' => e=.returned (.float .f32 (smC c d n)) ∧ Below w.heap.size w w':=by
 have HC:=Lib.hid hc
 have HD:=Lib.hid hd
 clear hc hd
 go_enter Vp.func12,Tryz.ntmps12
 go_wp2_with fail
 refine (escS_is c d n _).mono ?_
 rintro e w1 ⟨⟨k,nm,rfl,hk,hnm,hal⟩,hb⟩
 have HB:=Lib.hid hb
 have he:=hk.most
 have hkc:=escN_num hk
 clear hb hk
 by_cases hk0:k < 0
 · have HS:Hid (smC c d n=3212836864):=by
     show _=_
     unfold smC
     rw [← he,if_pos hk0]
   clear he hkc hal
   go_wp2
   exact bodyPost_ret (v:=.float .f32 3212836864) (by simp [results,Tryz.f12,go_sem]) rfl ⟨by rw [HS.out],HB.out⟩
 · obtain ⟨g1,g2,g3⟩:=hkc.resolve_left (by omega)
   obtain ⟨b1,b2⟩:=orb_bd HC.out HD.out g3
   obtain ⟨m,u,e1,e2,e3,e4⟩:=norm_bd b1 b2
   have hm:nm=m:=by
     have h:=hal g1
     rw [e1] at h
     exact Al.id h e2
   subst hm
   obtain ⟨r1,r2⟩:=smK_runs (k:=k) (by omega) e4
   have HS:Hid (smC c d n=smK k u):=by
     show _=_
     unfold smC
     rw [← he,if_neg hk0,e1]
     unfold narrowC
     rw [e3]; rfl
   have q1:=fun w => run_convert_float_float (P:=Vp.prog) w 68 42 .f64 .f32 nm u (by kernel_rfl) (Vp.und Tryz.underlying42) e3
   have q2:=fun w => run_float_arith (P:=Vp.prog) w .quo 42 .f32 _ _ _ r1
   have q3:=fun w => run_float_arith (P:=Vp.prog) w .add 42 .f32 _ _ _ r2
   generalize opC .quo .f32 1082130432 u=q at *
   generalize smK k u=s at *
   clear r1 r2 e1 e2 e3 e4 b1 b2 g3 hal he hkc
   go_wp2
   exact bodyPost_ret (v:=.float .f32 s) (by simp [results,Tryz.f12,go_sem]) rfl ⟨by rw [HS.out],HB.out⟩
set_option maxRecDepth 100000 in
set_option maxHeartbeats 2000000 in
theorem specSmooth_is (c d:Nat) (n:Int) (hc:Bd 8 c) (hd:Bd 8 d) (w:World):Calls Vp.prog 25 #[.complex .f32 c d,.int .i64 n] w fun e w' => e=.returned (.float .f32 (smC c d n)) ∧ Drw w w':=by
 have HC:=Lib.hid hc
 have HD:=Lib.hid hd
 clear hc hd
 go_enter Vp.func25,Tryz.ntmps25
 go_wp2_with fail
 refine (l3Escape_val c d n _).mono ?_
 rintro e w1 ⟨⟨k,a,b,rfl,hk,hal⟩,hb⟩
 have HB:=Lib.hid hb
 have he:=hk.most
 have hkc:=escN_num hk
 clear hb hk
 by_cases hk0:k < 0
 · have HS:Hid (smC c d n=3212836864):=by
     show _=_
     unfold smC
     rw [← he,if_pos hk0]
   clear he hkc hal
   go_wp2
   exact bodyPost_ret (v:=.float .f32 3212836864) (by simp [results,Tryz.f25,go_sem]) rfl ⟨by rw [HS.out],HB.out⟩
 · obtain ⟨g1,g2,g3⟩:=hkc.resolve_left (by omega)
   obtain ⟨b1,b2⟩:=orb_bd HC.out HD.out g3
   obtain ⟨m,u,e1,e2,e3,e4⟩:=norm_bd b1 b2
   obtain ⟨h1,h2⟩:=hal g1
   have ha:a=(orbS c d k.toNat).1:=Al.id h1 b1.nan
   have hb:b=(orbS c d k.toNat).2:=Al.id h2 b2.nan
   obtain ⟨r1,r2⟩:=smK_runs (k:=k) (by omega) e4
   have HS:Hid (smC c d n=smK k u):=by
     show _=_
     unfold smC
     rw [← he,if_neg hk0,e1]
     unfold narrowC
     rw [e3]; rfl
   rw [← ha,← hb] at e1
   have hal1:a < 4294967296:=by rw [ha]; exact (orbS_lt c d _).1
   have hbl1:b < 4294967296:=by rw [hb]; exact (orbS_lt c d _).2
   obtain ⟨p,q,w2,c1,_,_,d1,ap,aq⟩:=Flo.cwiden_al (P:=Vp.prog) 23 39 (by kernel_rfl) (Vp.und Tryz.underlying39) a b hal1 hbl1 w1
   have HW:=Lib.hid (HB.out.trans d1)
   have HN:Hid (∀ x,Al .f64 (normC p q) x → x=m):=fun x hx => by
     rw [← normC_al ap aq,e1] at hx
     exact Al.id hx e2
   have q1:=fun w => run_convert_float_float (P:=Vp.prog) w 68 42 .f64 .f32 m u (by kernel_rfl) (Vp.und Tryz.underlying42) e3
   have q2:=fun w => run_float_arith (P:=Vp.prog) w .quo 42 .f32 _ _ _ r1
   have q3:=fun w => run_float_arith (P:=Vp.prog) w .add 42 .f32 _ _ _ r2
   generalize opC .quo .f32 1082130432 u=qq at *
   generalize smK k u=s at *
   clear r1 r2 e1 e2 e3 e4 b1 b2 g3 hal he hkc ha hb h1 h2 d1 ap aq hal1 hbl1
   go_wp2_with fail
   refine (specNorm_al p q _).mono ?_
   rintro e w3 ⟨⟨x,rfl,_,ax⟩,hd⟩
   have hx:=HN.out x ax
   subst hx
   have HZ:=Lib.hid (HW.out.trans hd)
   clear hd ax
   go_wp2
   exact bodyPost_ret (v:=.float .f32 s) (by simp [results,Tryz.f25,go_sem]) rfl ⟨by rw [HS.out],HZ.out⟩
end Go.Proofs.YthhfljldbfgpcaaGreatDoor
end

section
namespace Go.Proofs.YthhfljldbfgpcaaGreatDoor
open Go.RowKit
attribute [local go_sem ↓] Go.wp_at_zero Go.wp_at_succ
set_option maxRecDepth 100000 in
set_option maxHeartbeats 2000000 in
theorem boxOfCell_is (x y d:Nat) (a b A B S:Int) (hd:d ≤ 11) (hx:Flo.Pt x d a) (hy:Flo.Pt y d b) (ha:a.natAbs ≤ 65536) (hb:b.natAbs ≤ 65536)
   (hS:S=(2 ^ (24 - d):Nat)) (hA:A=a * S) (hB:B=b * S) (h1:-134217728 ≤ A) (h2:A + S ≤ 134217728) (h3:-134217728 ≤ B) (h4:B + S ≤ 134217728) (w:World) :
   Calls Vp.prog 50 #[.complex .f32 x y,.int .i64 d] w fun e w' => e=.returned (.agg #[.int .i64 A,.int .i64 (A + S),.int .i64 B,.int .i64 (B + S)]) ∧ Below w.heap.size w w':=by
 have hS0:0 < S:=by rw [hS]; have:=Nat.two_pow_pos (24 - d); omega
 obtain ⟨x1,x2,e1,e2,-,e3⟩:=Flo.steps_pt hd hx ha
 obtain ⟨y1,y2,d1,d2,-,d3⟩:=Flo.steps_pt hd hy hb
 rw [← hS,← hA] at e3
 rw [← hS,← hB] at d3
 have g1:=fun w => run_convert_float_float (P:=Vp.prog) w 42 68 .f32 .f64 _ _ (by kernel_rfl) (Vp.und Tryz.underlying68) e1
 have g2:=fun w => run_float_arith (P:=Vp.prog) w .mul 68 .f64 _ _ _ e2
 have g3:=fun w => run_convert_float_int (P:=Vp.prog) w 68 3 .f64 .i64 _ _ (by kernel_rfl) (Vp.und Tryz.underlying3) e3
 have g4:=fun w => run_convert_float_float (P:=Vp.prog) w 42 68 .f32 .f64 _ _ (by kernel_rfl) (Vp.und Tryz.underlying68) d1
 have g5:=fun w => run_float_arith (P:=Vp.prog) w .mul 68 .f64 _ _ _ d2
 have g6:=fun w => run_convert_float_int (P:=Vp.prog) w 68 3 .f64 .i64 _ _ (by kernel_rfl) (Vp.und Tryz.underlying3) d3
 have hsd:(16777216:Int) / 2 ^ d=S:=by rw [hS]; exact side_steps d hd
 obtain ⟨A2,k1,e4⟩:∃ x,wrap64 (A + S)=x ∧ A + S=x:=⟨_,w64 (by omega) (by omega),rfl⟩
 obtain ⟨B2,k2,e5⟩:∃ x,wrap64 (B + S)=x ∧ B + S=x:=⟨_,w64 (by omega) (by omega),rfl⟩
 rw [e4,e5]
 clear e4 e5
 have HO:Hid (∀ u0 u1 u2 u3:Value,Below w.heap.size w (w.alloc (.cells #[u0,u1,u2,u3] 62))):=fun u0 u1 u2 u3 => (Below.refl _ w).alloc (Nat.le_refl _) _
 have R:=Box.new w #[.int .i64 A,.int .i64 A2,.int .i64 B,.int .i64 B2] 62
 have r0:=R.cell 0 _ rfl
 have r1:=R.cell 1 _ rfl
 have r2:=R.cell 2 _ rfl
 have r3:=R.cell 3 _ rfl
 clear e1 e2 e3 d1 d2 d3 hx hy ha hb hS hA hB h1 h2 h3 h4 R
 go_enter Vp.func50,Tryz.ntmps50
 go_wp2
 exact bodyPost_ret (v:=.agg #[.int .i64 A,.int .i64 A2,.int .i64 B,.int .i64 B2]) (by simp [results,Tryz.f50,go_sem,k1,k2]) rfl ⟨rfl,HO.out _ _ _ _⟩
end Go.Proofs.YthhfljldbfgpcaaGreatDoor
end

section
namespace Go.Proofs.YthhfljldbfgpcaaGreatDoor.Bar
open Go.Conc Go.Proofs.YthhfljldbfgpcaaGreatDoor.Tl Go.Proofs.YthhfljldbfgpcaaGreatDoor.Lr
inductive Sub (P:Program):St → St → Prop
 | refl (x:St):Sub P x x
 | step {x x' y:St} (τ:Tape) (d:Nat):Go1 P (x.at τ d) x' → Sub P x' y → Sub P x y
section
variable {P:Program} {F J:St → Prop}
theorem Sub.trans {x y z:St} (h:Sub P x y) (k:Sub P y z):Sub P x z:=by
 induction h with
 | refl => exact k
 | step τ d g _ ih => exact .step τ d g (ih k)
theorem way_sub {M:St → Prop} (hp:∀ x,F x → Pop x) (h0:∀ x,F x → M x) (hs:∀ x (g:Tape → Nat → St),(∀ τ d,Go1 P (x.at τ d) (g τ d)) → (∀ τ d,Way P F (g τ d)) → (∀ τ d y,Sub P (g τ d) y → M y) → M x) {x:St} (h:Way P F x):∀ y,Sub P x y → M y:=by
 induction h with
 | @fin x h =>
   intro y hy
   cases hy with
   | refl => exact h0 x h
   | step τ d g _ => exact absurd (show Pop (x.at τ d) from hp x h) g.not_pop
 | @go x g hg hw ih =>
   intro y hy
   cases hy with
   | refl => exact hs x g hg hw ih
   | @step _ x' _ τ d g' k =>
     obtain rfl:=(hg τ d).inj g'
     exact ih τ d y k
end
end Go.Proofs.YthhfljldbfgpcaaGreatDoor.Bar
end

section
namespace Go.Proofs.YthhfljldbfgpcaaGreatDoor.Lr
open Go.Conc Go.Proofs.YthhfljldbfgpcaaGreatDoor.Tl Go.Proofs.YthhfljldbfgpcaaGreatDoor.Bar
variable {X:Cx} {B:Lk} {V W V' W':World}
theorem wr_same (hw:WR X B V W) (hV:V.heap.size ≤ V'.heap.size) (hVk:∀ b,b < V.heap.size → V'.heap[b]?=V.heap[b]?) (hW:W.heap.size ≤ W'.heap.size) (hWk:∀ b,b < W.heap.size → W'.heap[b]?=W.heap[b]?)
   (ht:W'.tape=V'.tape) (hd:W'.drawn=V'.drawn) (ho:W'.os=V'.os) (hu:W'.output=V'.output):WR X B V' W':=by
 refine { tape:=ht,drawn:=hd,os:=ho,output:=hu,fn:=hw.fn,inj:=hw.inj,glob:=hw.glob,live:=?_,froz:=?_,dead:=?_,dlt:=fun b h => Nat.lt_of_lt_of_le (hw.dlt b h) hV,flt:=fun b h => Nat.lt_of_lt_of_le (hw.flt b h) hV,low:=hw.low,nV:=Nat.le_trans hw.nV hV,nW:=Nat.le_trans hw.nW hW }
 · intro b b' h hd hf
   obtain ⟨o,o',h1,h2,h3⟩:=hw.live b b' h hd hf
   exact ⟨o,o',(hVk b (hw.ltV h)).trans h1,(hWk b' (hw.ltW h)).trans h2,h3⟩
 · intro b b' h hd hf
   obtain ⟨x,x',t,t',f,h1,h2,h3⟩:=hw.froz b b' h hd hf
   exact ⟨x,x',t,t',f,(hVk b (hw.ltV h)).trans h1,(hWk b' (hw.ltW h)).trans h2,h3⟩
 · intro b b' h hd
   obtain ⟨⟨t,h1⟩,h2⟩:=hw.dead b b' h hd
   exact ⟨⟨t,(hVk b (hw.ltV h)).trans h1⟩,Nat.lt_of_lt_of_le h2 hW⟩
theorem wr_new (hw:WR X B V W) {s s':Nat} {C:Array Value} {t:TypeId} (hs:∀ y,¬ B s y) (hs':∀ x,¬ B x s') (hV:V.heap[s]?=some (.cells C t (0,0))) (hW:W.heap[s']?=some (.cells C t (0,0))) (hC:∀ v ∈ C,Flat X v) (hd:¬ X.D s) (hf:¬ X.F s) (hN:X.N ≤ s) (hN':X.N ≤ s') :
   WR X (fun b b' => B b b' ∨ (b=s ∧ b'=s')) V W:=by
 have hle:Le B (fun b b' => B b b' ∨ (b=s ∧ b'=s')):=fun _ _ h => .inl h
 refine { tape:=hw.tape,drawn:=hw.drawn,os:=hw.os,output:=hw.output,fn:=?_,inj:=?_,glob:=fun g hg => .inl (hw.glob g hg),live:=?_,froz:=?_,dead:=?_,dlt:=hw.dlt,flt:=hw.flt,low:=?_,nV:=hw.nV,nW:=hw.nW }
 · rintro b b₁ b₂ (h1 | ⟨rfl,rfl⟩) (h2 | ⟨h3,rfl⟩)
   · exact hw.fn _ _ _ h1 h2
   · subst h3; exact absurd h1 (hs _)
   · exact absurd h2 (hs _)
   · rfl
 · rintro b₁ b₂ b' (h1 | ⟨rfl,rfl⟩) (h2 | ⟨rfl,h3⟩)
   · exact hw.inj _ _ _ h1 h2
   · subst h3; exact absurd h1 (hs' _)
   · exact absurd h2 (hs' _)
   · rfl
 · rintro b b' (h | ⟨rfl,rfl⟩) hd' hf'
   · obtain ⟨o,o',h1,h2,h3⟩:=hw.live b b' h hd' hf'
     exact ⟨o,o',h1,h2,h3.mono hle⟩
   · refine ⟨_,_,hV,hW,.cells t _ ⟨rfl,fun i v v' h1 h2 => ?_⟩⟩
     rw [h1] at h2
     cases h2
     exact hC v (Array.mem_of_getElem? h1) _
 · rintro b b' (h | ⟨rfl,rfl⟩) hd' hf'
   · obtain ⟨x,x',t,t',f,h1,h2,h3⟩:=hw.froz b b' h hd' hf'
     exact ⟨x,x',t,t',f,h1,h2,⟨h3.1.mono hle,h3.2⟩⟩
   · exact absurd hf' hf
 · rintro b b' (h | ⟨rfl,rfl⟩) hd'
   · exact hw.dead b b' h hd'
   · exact absurd hd' hd
 · rintro b b' (h | ⟨rfl,rfl⟩)
   · exact hw.low b b' h
   · omega
end Go.Proofs.YthhfljldbfgpcaaGreatDoor.Lr
end

section
namespace Go.Proofs.YthhfljldbfgpcaaGreatDoor.Co
open Go Go.Conc
def Ro (P:Program) {α:Type} (s:Sem α):Prop:=∀ w v w1,s.run P w=.ok v w1 → w1=w
section
variable {P:Program}
theorem Ro.pure {α:Type} (a:α):Ro P (Pure.pure a:Sem α):=by
 intro w v w1 h
 simp at h
 exact h.2.symm
theorem Ro.bind {α β:Type} {s:Sem α} {f:α → Sem β} (h:Ro P s) (k:∀ a,Ro P (f a)):Ro P (s >>= f):=by
 intro w v w1 e
 simp only [Sem.run_bind] at e
 cases hs:s.run P w with
 | ok a w2 =>
   rw [hs] at e
   rw [h w a w2 hs] at e
   exact k a w v w1 e
 | halt a w2 => rw [hs] at e; cases e
theorem Ro.load (a:Addr):Ro P (load a):=by
 intro w v w1 h
 simp only [Go.load,Sem.run] at h
 repeat' split at h
 all_goals first
   | (injection h with _ h; exact h.symm)
   | (cases h; done)
theorem Ro.asAddr (v:Value):Ro P (asAddr v):=by
 intro w x w1 h
 unfold Go.asAddr at h
 split at h <;> simp [runtimePanic] at h
 exact h.2.symm
theorem Ro.underlying (t:TypeId):Ro P (underlying t):=by
 intro w x w1 h
 simp [Go.underlying] at h
 split at h <;> simp at h
 exact h.2.symm
theorem Ro.typeInfo (t:TypeId):Ro P (typeInfo t):=by
 intro w x w1 h
 simp [Go.typeInfo] at h
 split at h <;> simp at h
 exact h.2.symm
theorem Ro.loadCellsFrom (a:Addr):∀ (n i:Nat) (acc:Array Value),Ro P (loadCellsFrom a i n acc)
 | 0,i,acc => Ro.pure acc
 | n + 1,i,acc => by
   unfold Go.loadCellsFrom
   exact Ro.bind (Ro.load _) fun v => Ro.loadCellsFrom a n (i + 1) _
theorem Ro.isAgg (t:TypeId):Ro P (isAgg t):=by
 unfold Go.isAgg
 refine Ro.bind (Ro.underlying t) fun d => ?_
 split <;> exact Ro.pure _
theorem Ro.loadVar (t:TypeId) (a:Addr):Ro P (loadVar t a):=by
 unfold Go.loadVar
 refine Ro.bind (Ro.isAgg t) fun b => ?_
 split
 · refine Ro.bind ?_ fun n => Ro.bind (Ro.loadCellsFrom a _ 0 #[]) fun _ => Ro.pure _
   unfold Go.sizeOf
   exact Ro.bind (Ro.typeInfo t) fun _ => Ro.pure _
 · exact Ro.load a
theorem Ro.mapM {α β:Type} {f:α → Sem β} (h:∀ a,Ro P (f a)):∀ l:List α,Ro P (l.mapM f)
 | [] => by simpa using Ro.pure (P:=P) ([]:List β)
 | a :: l => by
   rw [List.mapM_cons]
   exact Ro.bind (h a) fun _ => Ro.bind (Ro.mapM h l) fun _ => Ro.pure _
theorem Ro.results (fn:Func) (t:Array Value):Ro P (results fn t):=by
 unfold Go.results
 rw [Array.mapM_eq_mapM_toList]
 refine Ro.bind ?_ fun vs => Ro.pure _
 rw [map_eq_pure_bind]
 refine Ro.bind (Ro.mapM (fun x => ?_) _) fun _ => Ro.pure _
 cases x with
 | tmp i => exact Ro.pure _
 | cell a ty => exact Ro.bind (Ro.asAddr _) fun q => Ro.loadVar _ _
end
end Go.Proofs.YthhfljldbfgpcaaGreatDoor.Co
end

section
namespace Go.Proofs.YthhfljldbfgpcaaGreatDoor
open Go
theorem mul_int {P:Program} {t:TypeId} (v:Value):(∃ n,v=.int .i64 n) ∨ ∀ w,∃ s,(binOp .mul t v (.int .i64 0)).run P w=.halt s w ∧ ((∃ m,s=.stuck m) ∨ s=.unsupported .addressObserved):=by
 unfold binOp
 cases v <;> simp
 split
 · subst_vars
   exact .inl rfl
 · exact .inr (by simp)
open Go.Conc Go.Proofs.YthhfljldbfgpcaaGreatDoor.Bar Go.Proofs.YthhfljldbfgpcaaGreatDoor.Co
theorem way_step {P:Program} {F:St → Prop} (hF:∀ x,F x → Pop x) {x:St} (h:Bar.Way P F x) (hp:¬ Pop x) (τ:Tape) (d:Nat):∃ x',Go1 P (x.at τ d) x' ∧ Bar.Way P F x':=by
 cases h with
 | fin h => exact absurd (hF x h) hp
 | go g hg hw => exact ⟨g τ d,hg τ d,hw τ d⟩
theorem way_oper {P:Program} {F:St → Prop} (hF:∀ x,F x → Pop x) {b:Frame} {a:Act} {ops:Array Oper} {i:Nat} {rest:List Nat} {k:List Item} {cs:List Frame} {V:World} {o:Oper} (ho:ops[i]?=some o) (hg:o.guard=none) (hk:b.kind ≠ .early) {v:Value}
   (hr:(∀ w,(execOp a.eval o).run P w=.ok (.value v) w) ∨ ∀ w,∃ s,(execOp a.eval o).run P w=.halt s w ∧ ((∃ m,s=.stuck m) ∨ s=.unsupported .addressObserved)) (h:Bar.Way P F ⟨b.at a (.inRegion ops (i :: rest) :: k),cs,V⟩) :
   (∀ w,(execOp a.eval o).run P w=.ok (.value v) w) ∧ Bar.Way P F ⟨b.at (a.put o.dst v) (.inRegion ops rest :: k),cs,V⟩:=by
 obtain ⟨x',⟨es,hgo⟩,hw⟩:=way_step hF h (fun hp => hp.2.1 rfl) V.tape V.drawn
 have hgo:stepG P true (G (b.at a (.inRegion ops (i :: rest) :: k)) (cs ++ [wall P])) V=_:=hgo
 rcases hr with hr | hr
 · refine ⟨hr,?_⟩
   rw [stepG_value ho (by simp [Region.wanted,hg]) hk (hr V)] at hgo
   injection hgo with h1 h2 _
   injection h1 with h3 h4 _ _
   have h5:cs=x'.cs:=List.append_cancel_right h4
   clear h4
   obtain ⟨x1,x2,x3⟩:=x'
   dsimp only at h2 h3 h5
   subst h2 h3 h5
   exact hw
 · exfalso
   obtain ⟨s,hr,hs⟩:=hr V
   rw [stepG_oper ho (by simp [Region.wanted,hg])] at hgo
   rcases hs with ⟨m,rfl⟩ | rfl
   · simp [stepG.apply,hr,GStep.after] at hgo
   · simp [stepG.apply,hr,GStep.after] at hgo
theorem way_ctl {P:Program} {F:St → Prop} (hF:∀ x,F x → Pop x) {fr fr1:Frame} {cs cs1:List Frame} {V:World} {es:Array Event} (hm:fr.mode=.run) (hst:stepG P true (G fr (cs ++ [wall P])) V=.go (G fr1 (cs1 ++ [wall P])) V es) (h:Bar.Way P F ⟨fr,cs,V⟩):Bar.Way P F ⟨fr1,cs1,V⟩:=by
 obtain ⟨x',⟨es',hgo⟩,hw⟩:=way_step hF h (fun hp => hp.2.1 hm) V.tape V.drawn
 have hgo:stepG P true (G fr (cs ++ [wall P])) V=_:=hgo
 rw [hst] at hgo
 injection hgo with h1 h2 _
 injection h1 with h3 h4 _ _
 have h5:cs1=x'.cs:=List.append_cancel_right h4
 clear h4
 obtain ⟨x1,x2,x3⟩:=x'
 dsimp only at h2 h3 h5
 subst h2 h3 h5
 exact hw
end Go.Proofs.YthhfljldbfgpcaaGreatDoor
end
