import Derived.Test.YtlfleicchbgcmaaGreatZr1
import Derived.Deep.RegionWith
import Derived.Laws.OwnMore
import Derived.OwnWalk
import Derived.Deep.AppendLies
import Derived.Deep.DrawnRows
import Derived.Outline
import Derived.Test.YtlfleicchbgcmaaGreatZr0
import Derived.Test.YtlfleicchbgcmaaGreatZrK
set_option linter.all false
set_option maxHeartbeats 16000000
set_option maxRecDepth 100000
namespace Go.Proofs.YtlfleicchbgcmaaGreat
namespace Flo
open Go.RowKit
theorem A1h {P:Program}(s k:FloatKind)(x:Nat)(hx:x<2^s.format.width)(w:World) :
 ∃z w',(Conv.floatToFloat s x k).run P w=.ok (.float k z) w'/\z<2^k.format.width/\Au w w':=by
 by_cases hsk:s=k
 ·subst hsk
  exact⟨x,w,by simp[Conv.floatToFloat],hx,Au.refl w⟩
 ·cases hd:s.decode x with
  | nan sg f =>
    refine⟨(Question.nanConv k x).cut (w.tape w.drawn (Question.nanConv k x)),w.drew,?_,?_,(Au.refl w).drew⟩
    ·simp[Conv.floatToFloat,hsk,hd];intro hf;simp[Question.forced]at hf
    ·cases k
     ·exact Tc _ _
     ·show(_ % 2)*2^63+0x7ff0000000000000+1 +(_ / 2) % (2^52-1)<2^64
      omega
  | infinity sg =>
    exact⟨k.encode (.infinity sg),w,by simp[Conv.floatToFloat,hsk,hd],Ieee.Format.write_lt _ _,Au.refl w⟩
  | number sg m e =>
    by_cases hi:(k.decode (k.encode (.number sg m e))).isInfinity=true
    ·refine⟨(Question.floatToFloat x).cut (w.tape w.drawn (Question.floatToFloat x)),w.drew,?_,?_,(Au.refl w).drew⟩
     ·simp[Conv.floatToFloat,hsk,hd,hi];intro hf;simp[Question.forced]at hf
     ·cases k
      ·exact Ara _ (by decide)
      ·exact Nat.lt_trans (Ara _ (by decide)) (by decide:2^32<2^64)
    ·exact⟨k.encode (.number sg m e),w,by simp[Conv.floatToFloat,hsk,hd,hi],Ieee.Format.write_lt _ _,Au.refl w⟩
theorem Z6 {P:Program}(src dst:TypeId)(s k:FloatKind)(hs:(P.underlying src).isSome=true)(hd:P.underlying dst=some (.complex k))(x y:Nat)(hx:x<2^s.format.width)(hy:y<2^s.format.width)(w:World) :
 ∃re im w',(convert src dst (.complex s x y)).run P w=.ok (.complex k re im) w'/\re<2^k.format.width/\im<2^k.format.width/\Au w w':=by
 obtain⟨u,hs'⟩:=Atc.1 hs;obtain⟨z,w1,h1,hz,d1⟩:=A1h (P:=P) s k x hx w;obtain⟨z2,w2,h2,hz2,d2⟩:=A1h (P:=P) s k y hy w1
 refine⟨z,z2,w2,?_,hz,hz2,d1.trans d2⟩
 cases u<;>simp[convert,As2 hs',As2 hd,Conv.complexToComplex,h1,h2]
end Flo
section
open Go.RowKit
theorem Aef (w0:World)(b p:Nat)(hp:p<=1099511626000)(W:World)(h:Rd w0 b p W) :
 Calls Vp.prog 54 #[.pointer (some ⟨b,0,none⟩)] W fun e w'=>(∃x y,e=.returned (.complex .f64 x y)/\x<18446744073709551616/\y<18446744073709551616) /\(∃p',p'<=p+6/\Rd w0 b p' w')/\C7 b W w':=by
 go_enter Vp.func54,Tryz.ntmps54
 go_wp2_with fail
 refine(A2v w0 b p (by omega) _ h).mono ?_
 rintro e w1 ⟨⟨x,rfl,hx⟩,⟨p1,hp1,hR⟩,hO⟩;have HO:=Aoy hO;clear hO h
 go_wp2_with fail
 refine(A2v w0 b p1 (by omega) _ hR).mono ?_
 rintro e w2 ⟨⟨y,rfl,hy⟩,⟨p2,hp2,hR2⟩,hO2⟩;have HR2:=Aoy hR2;have HO2:=Aoy (HO.out.trans hO2);clear hO2 hR hR2
 go_wp2
 go_ret
 exact⟨⟨x,y,rfl,hx,hy⟩,⟨p2,by omega,HR2.out⟩,HO2.out⟩
theorem A4n (w0:World)(b p d:Nat)(hd:d<=4)(hp:p<=1099511620000)(W:World)(h:Rd w0 b p W) :
 Calls Vp.prog 30 #[.pointer (some ⟨b,0,none⟩),.int .i64 d] W fun e w'=>(∃x y,e=.returned (.complex .f32 x y)/\x<4294967296/\y<4294967296) /\(∃p',p'<=p+10/\Rd w0 b p' w')/\C7 b W w':=by
 obtain⟨q,hq⟩:∃q:Int,wrap64 (2^d)=q:=⟨_,rfl⟩
 have hqb:1<=q/\q<=16:=by
  rcases(by omega:d=0\/d=1\/d=2\/d=3\/d=4)with rfl|rfl|rfl|rfl|rfl
  ·have:wrap64 (2^0)=1:=by kernel_rfl
   omega
  ·have:wrap64 (2^1)=2:=by kernel_rfl
   omega
  ·have:wrap64 (2^2)=4:=by kernel_rfl
   omega
  ·have:wrap64 (2^3)=8:=by kernel_rfl
   omega
  ·have:wrap64 (2^4)=16:=by kernel_rfl
   omega
 obtain⟨q1,q2⟩:=hqb;obtain⟨u,hu⟩:∃u,(5*q) % 251=u:=⟨_,rfl⟩;obtain⟨v,hv⟩:∃v,(3*q) % 251=v:=⟨_,rfl⟩;have u1:0<=u:=by omega
 have u2:u<=251:=by omega
 have v1:0<=v:=by omega
 have v2:v<=251:=by omega
 go_enter Vp.func30,Tryz.ntmps30
 go_wp2_with fail
 refine(Ds w0 b p (u+1) (by omega) (by omega) _ h).mono ?_
 rintro e w1 ⟨⟨r,rfl,r0,r1⟩,hR,hO⟩;obtain⟨x1,w1',h1,_,d1⟩:=Flo.Ct (P:=Vp.prog) .quo (by simp) 74 .f32 (floatOfInt .f32 r) (floatOfInt .f32 q) w1
 have HR:=Aoy (hR.Wy d1);have HO:=Aoy (hO.trans (C7.Ay (d1.below _)));clear hR hO d1 h
 go_wp2_with fail
 refine(Ds w0 b (p+1) (v+1) (by omega) (by omega) _ HR.out).mono ?_
 rintro e w2 ⟨⟨r',rfl,r0',r1'⟩,hR,hO⟩;obtain⟨x2,w2',h2,_,d2⟩:=Flo.Ct (P:=Vp.prog) .quo (by simp) 74 .f32 (floatOfInt .f32 r') (floatOfInt .f32 q) w2
 have HR2:=Aoy (hR.Wy d2);have HO2:=Aoy (HO.out.trans (hO.trans (C7.Ay (d2.below _))));clear hR hO d2 h1 HR HO
 go_wp2_with fail
 refine(Ds w0 b (p+1+1) 20 (by omega) (by omega) _ HR2.out).mono ?_
 rintro e w3 ⟨⟨r3,rfl,r30,r31⟩,hR,hO⟩;have HR3:=Aoy hR;have HO3:=Aoy (HO2.out.trans hO);clear hR hO h2 HR2 HO2 hq hu hv
 by_cases h3:r3=0
 ·subst h3
  go_wp2_with fail
  refine(Aef w0 b (p+1+1+1) (by omega) _ HR3.out).mono ?_
  rintro e w4 ⟨⟨x,y,rfl,hx,hy⟩,⟨p4,hp4,hR⟩,hO⟩;obtain⟨a,c,w5,h5,ha,hc,d5⟩:=Flo.Z6 (P:=Vp.prog) 103 23 .f64 .f32 (by kernel_rfl) (Vp.Dw Tryz.underlying23) x y hx hy w4
  have HR5:=Aoy (hR.Wy d5);have HO5:=Aoy (HO3.out.trans (hO.trans (C7.Ay (d5.below _))));clear hR hO d5 hx hy HR3 HO3
  go_wp2
  go_ret
  exact⟨⟨a,c,rfl,ha,hc⟩,⟨p4,by omega,HR5.out⟩,HO5.out⟩
 ·have h3':(r3 == 0)=false:=by simpa using h3
  obtain⟨x3,w4,h4,hx3,d4⟩:=Flo.Ct (P:=Vp.prog) .sub (by simp) 74 .f32 x1 1073741824 w3
  obtain⟨x4,w5,h5,_,d5⟩:=Flo.Ct (P:=Vp.prog) .sub (by simp) 74 .f32 x2 1069547520 w4
  have HR5:=Aoy (HR3.out.Wy (d4.trans d5));have HO5:=Aoy (HO3.out.trans (C7.Ay ((d4.trans d5).below _)));clear d4 d5 HR3 HO3
  go_wp2_with fail
  refine(Ds w0 b (p+1+1+1) 2 (by omega) (by omega) _ HR5.out).mono ?_
  rintro e w6 ⟨⟨r6,rfl,r60,r61⟩,hR,hO⟩;obtain⟨x5,w7,h7,_,d7⟩:=Flo.Ct (P:=Vp.prog) .mul (by simp) 74 .f32 1056964608 (floatOfInt .f32 r6) w6
  obtain⟨x6,w8,h8,hx6,d8⟩:=Flo.Ct (P:=Vp.prog) .add (by simp) 74 .f32 x4 x5 w7
  have HR8:=Aoy (hR.Wy (d7.trans d8));have HO8:=Aoy (HO5.out.trans (hO.trans (C7.Ay ((d7.trans d8).below _))));clear hR hO d7 d8 HR5 HO5 h4 h5
  go_wp2
  go_ret
  exact⟨⟨x3,x6,rfl,hx3,hx6⟩,⟨p+1+1+1+1,by omega,HR8.out⟩,HO8.out⟩
theorem A9j (w0:World)(b p:Nat)(hp:p<=1099511610000)(W:World)(h:Rd w0 b p W) :
 Calls Vp.prog 13 #[.pointer (some ⟨b,0,none⟩)] W fun e w'=>(∃(x y:Nat) (d s m:Int),e=.returned (.tuple #[.complex .f32 x y,.int .i64 d,.int .i64 s,.int .i64 m])/\x<4294967296/\y<4294967296/\1<=m/\m<=31) /\(∃p',p'<=p+20/\Rd w0 b p' w')/\C7 b W w':=by
 go_enter Vp.func13,Tryz.ntmps13
 go_wp2_with fail
 refine(Ds w0 b p 5 (by omega) (by omega) _ h).mono ?_
 rintro e w1 ⟨⟨r,rfl,r0,r1⟩,hR,hO⟩;have HO:=Aoy hO;obtain⟨d,rfl⟩:=Aqg r0;have hd:d<=4:=by omega
 clear h hO r0 r1
 go_wp2_with fail
 refine(A4n w0 b (p+1) d hd (by omega) _ hR).mono ?_
 rintro e w2 ⟨⟨x,y,rfl,hx,hy⟩,⟨p2,hp2,hR2⟩,hO⟩;have HO2:=Aoy (HO.out.trans hO);clear hO HO hR
 go_wp2_with fail
 refine(Ds w0 b p2 4 (by omega) (by omega) _ hR2).mono ?_
 rintro e w3 ⟨⟨s,rfl,s0,s1⟩,hR3,hO⟩;have HO3:=Aoy (HO2.out.trans hO);clear hO HO2 hR2
 go_wp2_with fail
 refine(Ds w0 b (p2+1) 24 (by omega) (by omega) _ hR3).mono ?_
 rintro e w4 ⟨⟨k,rfl,k0,k1⟩,hR4,hO⟩;have HO4:=Aoy (HO3.out.trans hO);have HK:=Aoy (Ds w0 b (p2+1+1) 30 (by omega) (by omega) w4 hR4)
 clear hO HO3 hR3 hR4
 have fin:∀(x y:Nat) (d s m:Int) w',x<4294967296->y<4294967296->0<=m ->(m<30\/m=0)->Rd w0 b (p2+1+1+1) w'->C7 b w4 w' ->(∃(x' y':Nat) (d' s' m':Int),Ending.returned (.tuple #[.complex .f32 x y,.int .i64 d,.int .i64 s,.int .i64 (1+m)])=.returned (.tuple #[.complex .f32 x' y',.int .i64 d',.int .i64 s',.int .i64 m'])/\x'<4294967296/\y'<4294967296/\1<=m'/\m'<=31) /\(∃p',p'<=p+20/\Rd w0 b p' w')/\C7 b W w' :=
  fun x y d s m w' h1 h2 h3 h4 h5 h6=>⟨⟨x,y,d,s,1+m,rfl,h1,h2,by omega,by omega⟩,⟨_,by omega,h5⟩,HO4.out.trans h6⟩
 have HF:=Aoy fin;clear fin
 by_cases c0:k=0
 ·subst c0
  go_wp2_with fail
  refine HK.out.mono ?_
  rintro e w5 ⟨⟨m,rfl,m0,m1⟩,hR5,hO⟩;have H5:=Aoy (And.intro hR5 hO);clear hR5 hO
  go_wp2
  exact Ap4 (v:=.tuple #[.complex .f32 x y,.int .i64 d,.int .i64 9,.int .i64 (1+m)]) (by simp[results,Tryz.f13,go_sem]) rfl (HF.out _ _ _ _ _ _ hx hy m0 m1 H5.out.1 H5.out.2)
 by_cases c1:k=1
 ·subst c1
  go_wp2_with fail
  refine HK.out.mono ?_
  rintro e w5 ⟨⟨m,rfl,m0,m1⟩,hR5,hO⟩;have H5:=Aoy (And.intro hR5 hO);clear hR5 hO
  go_wp2
  exact Ap4 (v:=.tuple #[.complex .f32 x y,.int .i64 11,.int .i64 (1+s),.int .i64 (1+m)]) (by simp[results,Tryz.f13,go_sem]) rfl (HF.out _ _ _ _ _ _ hx hy m0 m1 H5.out.1 H5.out.2)
 by_cases c2:k=2
 ·subst c2
  go_wp2_with fail
  refine HK.out.mono ?_
  rintro e w5 ⟨⟨m,rfl,m0,m1⟩,hR5,hO⟩;have H5:=Aoy (And.intro hR5 hO);clear hR5 hO
  go_wp2
  exact Ap4 (v:=.tuple #[.complex .f32 1082130432 1082130432,.int .i64 d,.int .i64 (1+s),.int .i64 (1+m)]) (by simp[results,Tryz.f13,go_sem]) rfl (HF.out _ _ _ _ _ _ (by omega) (by omega) m0 m1 H5.out.1 H5.out.2)
 have g0:(k == 0)=false:=by simpa using c0
 have g1:(k == 1)=false:=by simpa using c1
 have g2:(k == 2)=false:=by simpa using c2
 go_wp2_with fail
 refine HK.out.mono ?_
 rintro e w5 ⟨⟨m,rfl,m0,m1⟩,hR5,hO⟩;have H5:=Aoy (And.intro hR5 hO);clear hR5 hO
 go_wp2
 exact Ap4 (v:=.tuple #[.complex .f32 x y,.int .i64 d,.int .i64 (1+s),.int .i64 (1+m)]) (by simp[results,Tryz.f13,go_sem]) rfl (HF.out _ _ _ _ _ _ hx hy m0 m1 H5.out.1 H5.out.2)
end
section
open Go.RowKit
structure Kw (w:World) where
 W:World
 h:Below w.heap.size w W
instance  (w:World):Inhabited (Kw w):=⟨⟨w,Aph _ _⟩⟩
def Kw.step {w:World}(s:Kw w){w':World}(k:Below s.W.heap.size s.W w'):Kw w:=⟨w',s.h.trans (k.mono s.h.size)⟩
theorem V5 {P:Program}{id:Nat}{Q:Exit->Act->World->Prop}{a:Act}{w:World}{l:List Oper}(hm:P.follows .mixedOrders=true)(hB:Region.lexB .any l.toArray=true)
 (h:wpQuiet P l.toArray (fun w'=>∃s:Kw w,w'=s.W) (fun a'=>∀w',(∃s:Kw w,w'=s.W)->Q .normal a' w') l a):(Code.region id l.toArray true).wp P Q a w :=
 wp_region_quiet (C:=fun w'=>∃s:Kw w,w'=s.W) hm hB ⟨⟨w.drew,(Aph _ _).drew⟩,rfl⟩ (by simpa using h)
end
end Go.Proofs.YtlfleicchbgcmaaGreat
section
namespace Go.Proofs.YtlfleicchbgcmaaGreat
namespace Flo
open Ieee
theorem Hs {f:Format}{v:Int}{m e:Nat}(hv:v.natAbs=m*2^e)(hm:m<2*f.binade)(hmax:(e+2)*f.binade<=f.infRung):Pm f v:=by
 have hbp:=E2 f;have h2:2*f.binade <=(e+2)*f.binade:=Ap2 _ (by omega)
 by_cases hs:m*2^e<2*f.binade
 ·refine⟨m*2^e,?_,?_⟩
  ·rcases Aqq e with h|h
   ·subst h;omega
   ·have:3*f.binade <=(e+2)*f.binade:=Ap2 _ (by omega)
    omega
  ·rw[hv];have hq:m*2^e / f.binade<2:=Nat.div_lt_of_lt_mul (by omega)
   unfold rv rm re;have:m*2^e / f.binade-1=0:=by omega
   rw[this];simp
 ·have h0:m≠0:=by intro h;subst h;simp at hs;omega
  have hl:=Nat.log2_self_le h0;have hu:m<2^(m.log2+1):=At8
  have hlog:m.log2<=f.fractionBits:=by
   have:m.log2<f.fractionBits+1:=(Nat.log2_lt h0).2 (by rw[Ark,Apr];exact hm)
   omega
  obtain⟨k,hk⟩:∃k,m.log2+k=f.fractionBits:=⟨f.fractionBits-m.log2,by omega⟩
  have h1:f.binade<=m*2^k:=by
   unfold Format.binade;rw[<-hk,Apk];exact Ap2 _ hl
  have h3:m*2^k<2*f.binade:=by
   unfold Format.binade
   calc m*2^k<2^(m.log2+1)*2^k:=Arz hu (Ap9 _)
    _=2*2^f.fractionBits:=by rw[<-hk,Ark,Apk];simp only[Apr,Asc]
  have hke:k<=e:=by
   rcases Nat.le_total k e with h|h
   ·exact h
   ·exfalso
    have:m*2^e<=m*2^k:=Aty _ (Api (by omega) h)
    omega
  refine⟨(e-k)*f.binade+m*2^k,?_,?_⟩
  ·have:(e-k)*f.binade<=e*f.binade:=Ap2 _ (by omega)
   rw[Ar1]at hmax
   omega
  ·have hdiv:((e-k)*f.binade+m*2^k) / f.binade=e-k+1:=by
    rw[Apr,Aul hbp]
    have:m*2^k / f.binade=1:=by
     rw[Nat.div_eq_iff hbp];omega
    omega
   have hre:re f ((e-k)*f.binade+m*2^k)=e-k:=by unfold re;rw[hdiv];omega
   have hrm:rm f ((e-k)*f.binade+m*2^k)=m*2^k:=by unfold rm;rw[hre];omega
   unfold rv;rw[hre,hrm,hv,Apo,<-Apk]
   congr 2;omega
theorem A1l (neg:Bool)(n drop:Nat):Toward.zero.cut neg n drop=n / 2^drop:=by
 unfold Toward.cut;simp only[Bool.toNat_false,Asf]
 by_cases hd:drop<=n.log2+2
 ·rw[As0 hd,Atj]
 ·have hd':n.log2+2<=drop:=by omega
  have hlt:n<2^(n.log2+1):=At8;have h2:2^(n.log2+1)<=2^(n.log2+2):=Api (by omega) (by omega)
  have h3:2^(n.log2+2)<=2^drop:=Api (by omega) hd'
  rw[Nat.min_eq_right hd',Atj,As5 (by omega),As5 (by omega)]
theorem Yg {f:Format}{l:Nat}(hl:f.leastPlace=-(l:Int)){x:Nat}{v:Int}(h:D6 f x v):(f.read x).toInt .zero=some (v.tdiv (2^l:Nat)):=by
 have hd:=Cy h;have hiv:=h.iv;unfold Flo.iv rv at hiv;rw[Az h.fin];generalize re f (Af f x)=e at *;generalize rm f (Af f x)=m at *;generalize Il f x=s at *;unfold Datum.toInt Datum.integral;simp only[Aqj];rw[A1l,hl]
 have key:(m <<<(-(l:Int)+e).toNat) / 2^(-(-(l:Int)+e)).toNat=m*2^e / 2^l:=by
  rw[Asj]
  rcases Nat.le_total l e with h|h
  ·obtain⟨k,rfl⟩:∃k,e=l+k:=⟨e-l,by omega⟩
   have e1:(-(l:Int) +((l+k:Nat):Int)).toNat=k:=by omega
   have e2:(-(-(l:Int) +((l+k:Nat):Int))).toNat=0:=by omega
   rw[e1,e2,Atd,Nat.div_one,Apk,<-Apo,Ar8,Nat.mul_div_cancel _ (Ap9 l)]
  ·obtain⟨k,rfl⟩:∃k,l=e+k:=⟨l-e,by omega⟩
   have e1:(-((e+k:Nat):Int) +(e:Int)).toNat=0:=by omega
   have e2:(-(-((e+k:Nat):Int) +(e:Int))).toNat=k:=by omega
   rw[e1,e2,Atd,Ata,Apk,Apr m,Nat.mul_div_mul_left _ _ (Ap9 e)]
 rw[key];unfold signed;rw[Nat.shiftLeft_zero]
 cases s
 ·simp only[Aqb,At6]at hiv ⊢;rw[<-hiv,Arf (by omega)]
  exact(Int.natCast_ediv _ _)
 ·simp only[Ats]at hiv ⊢;rw[<-hiv,Int.neg_tdiv,Arf (by omega)]
  exact congrArg Neg.neg (Int.natCast_ediv _ _)
theorem Dr {k:FloatKind}{l:Nat}(hl:k.format.leastPlace=-(l:Int))(n:Int)(hn:n.natAbs<2*k.format.binade)(hmax:(l+2)*k.format.binade<=k.format.infRung):D6 k.format (floatOfInt k n) (n *(2^l:Nat)):=by
 have hp:(0:Int) <(2^l:Nat):=by have:=Ap9 l;omega
 have hab:(n *(2^l:Nat)).natAbs=n.natAbs*2^l:=by rw[Apt,Apf]
 refine Fq (a:=l) (b:=0) (Hs (m:=n.natAbs) (e:=l) hab hn hmax) (by rw[hl];omega) (by rw[hab];simp) ?_ ?_
 ·intro h
  rcases Arw n 0 with h1|h1
  ·simp[h1]
  ·have:=Aqt h1 (Asv hp);omega
 ·intro h
  rcases Arw n 0 with h1|h1
  ·have:=Int.mul_neg_of_neg_of_pos h1 hp;omega
  ·simp;omega
theorem Cq {k:FloatKind}{x y:Nat}{a b:Int}(hx:D6 k.format x a)(hy:D6 k.format y b):(k.format.order x y == some .eq)=decide (a=b):=by
 rw[Jo hx hy]
 rcases Asy a b with h|h|h
 ·rw[Atl.2 h];simp;omega
 ·rw[Aud.2 h];simp[h]
 ·rw[Atm.2 h];simp;omega
theorem G0 {k:FloatKind}{x y:Nat}{a b:Int}(hx:D6 k.format x a)(hy:D6 k.format y b):(k.format.order x y == some .lt)=decide (a<b):=by
 rw[Jo hx hy]
 rcases Asy a b with h|h|h
 ·rw[Atl.2 h];simp[h]
 ·rw[Aud.2 h];simp;omega
 ·rw[Atm.2 h];simp;omega
theorem Ke {k:FloatKind}{x y:Nat}{a b:Int}(hx:D6 k.format x a)(hy:D6 k.format y b):(k.format.order x y == some .gt)=decide (b<a):=by
 rw[Jo hx hy]
 rcases Asy a b with h|h|h
 ·rw[Atl.2 h];simp;omega
 ·rw[Aud.2 h];simp;omega
 ·rw[Atm.2 h];simp[h]
theorem A1w {f:Format}(he:1<=f.exponentBits){x p q:Nat}{a b:Int}(hx:x<2^f.width)(hp:D6 f p a)(hq:D6 f q b)(h1:(f.order x p == some .gt || f.order x p == some .eq)=true)(h2:(f.order x q == some .lt || f.order x q == some .eq)=true) :
 D6 f x (iv f x)/\a<=iv f x/\iv f x<=b:=by
 rcases kinds f he x with hf |⟨s,hi⟩ |⟨s,t,hn⟩
 ·have hv:D6 f x (iv f x):=⟨hx,hf,rfl⟩
  refine⟨hv,?_,?_⟩
  ·rw[Jo hv hp]at h1
   rcases Asy (iv f x) a with h|h|h
   ·rw[Atl.2 h]at h1;simp at h1
   ·omega
   ·omega
  ·rw[Jo hv hq]at h2
   rcases Asy (iv f x) b with h|h|h
   ·omega
   ·omega
   ·rw[Atm.2 h]at h2;simp at h2
 ·exfalso
  unfold Format.order at h1 h2;rw[hi,Az hp.fin]at h1;rw[hi,Az hq.fin]at h2
  cases s
  ·simp[Datum.order]at h2
  ·simp[Datum.order]at h1
 ·exfalso
  unfold Format.order at h1;rw[hn,Az hp.fin]at h1;simp[Datum.order]at h1
def u32:Nat:=149
theorem Ga:u32=149:=rfl
def u64:Nat:=1074
theorem Fo:u64=1074:=rfl
theorem Mi:single.leastPlace=-(u32:Int):=by rw[Ga];exact Ht
theorem Cp:double.leastPlace=-(u64:Int):=by rw[Fo];exact Hp
theorem Abu:D6 single 1082130432 (4 *(2^u32:Nat)):=by
 refine⟨by decide,by unfold fin;decide,?_⟩
 rw[Ga];unfold iv;have h1:Il single 1082130432=false:=by decide
 have h2:rv single (Af single 1082130432)=4*2^149:=by decide +kernel
 rw[h1,h2];simp
theorem Ei:D6 single 3229614080 (-(4 *(2^u32:Nat))):=by
 refine⟨by decide,by unfold fin;decide,?_⟩
 rw[Ga];unfold iv;have h1:Il single 3229614080=true:=by decide
 have h2:rv single (Af single 3229614080)=4*2^149:=by decide +kernel
 rw[h1,h2];simp
def E8 (x:Nat):Bool:=(FloatKind.f32.format.order x 3229614080 == some .gt || FloatKind.f32.format.order x 3229614080 == some .eq) && (FloatKind.f32.format.order x 1082130432 == some .lt || FloatKind.f32.format.order x 1082130432 == some .eq)
def Bi (x d:Nat):Bool:=E8 x && decide (iv single x *(2^d:Nat) % (2^u32:Nat)=0)
theorem Ih {x:Nat}(hx:x<4294967296)(h:E8 x=true):D6 single x (iv single x) /\(iv single x).natAbs<=4*2^u32:=by
 unfold E8 at h;rw[Ap7]at h;obtain⟨hv,h1,h2⟩:=A1w (f:=single) (by decide) hx Ei Abu h.1 h.2
 refine⟨hv,?_⟩
 generalize (2:Nat)^u32=U at *
 omega
theorem R8 {x d:Nat}(hx:x<4294967296)(hd:d<=11)(h:E8 x=true) :
 ∃(y:Nat) (n:Int),floatBits .mul .f32 x (floatOfInt .f32 ((2^d:Nat):Int))=some y/\floatToIntVal .f32 y .i64=some n/\n=(iv single x *(2^d:Nat)).tdiv (2^u32:Nat)/\D6 single y (iv single x *(2^d:Nat)) /\
  (FloatKind.f32.format.order (floatOfInt .f32 n) y == some .eq)=decide (iv single x *(2^d:Nat) % (2^u32:Nat)=0):=by
 obtain⟨hv,hb⟩:=Ih hx h;have hdp:2^d<=2^11:=Api (by omega) hd
 have hD:D6 single (floatOfInt .f32 ((2^d:Nat):Int)) (((2^d:Nat):Int) *(2^u32:Nat)):=Dr (k:=.f32) Mi _ (by rw[Apf];show _<2*single.binade;rw[By];omega) (by show(u32+2)*single.binade<=single.infRung;rw[Im,Ga];exact Ap2 _ (by omega))
 have hdg:=Cy hv;have hr:=A36 (e:=254) hv.fin (by decide)
 have hm:=P7 single (Af single x)
 have hrep:Pm single (iv single x *(2^d:Nat)):=by
  by_cases hz:re single (Af single x)+d+2<=255
  ·refine Hs (m:=rm single (Af single x)) (e:=re single (Af single x)+d) ?_ hm ?_
   ·rw[Apt,Apf,hdg,Apo,<-Apk]
   ·rw[Im];exact Ap2 _ hz
  ·exfalso
   have hge:=Xw single (Af single x) (by omega)
   rw[By]at hge;have h1:8388608*2^re single (Af single x)<=rm single (Af single x)*2^re single (Af single x):=Ap2 _ hge;have h2:2^(u32+3)<=2^re single (Af single x):=Api (by omega) (by rw[Ga];omega)
   have h3:2^(u32+3)=8*2^u32:=by rw[Apk,Apr]
   have h4:=Ap9 u32;rw[hdg]at hb
   omega
 obtain⟨y,hy,hyv⟩:=Hq (f:=single) (c:=iv single x *(2^d:Nat)) Mi hv hD (by rw[Aqf]) hrep
 have hti:=Yg (f:=single) Mi hyv;generalize hA:iv single x *((2^d:Nat):Int)=A at *
 have hAb:A.natAbs<=8192*2^u32:=by
  rw[<-hA,Apt,Apf]
  calc (iv single x).natAbs*2^d <=(4*2^u32)*2^11:=Aqh hb hdp
   _=8192*2^u32:=by rw[Ar8]
 have hU:=Ap9 u32
 have hna:(A.tdiv (2^u32:Nat)).natAbs<=8192:=by
  rw[Int.natAbs_tdiv,Apf]
  exact Nat.div_le_of_le_mul (by rw[Apr];exact hAb)
 have hN:D6 single (floatOfInt .f32 (A.tdiv (2^u32:Nat))) (A.tdiv (2^u32:Nat) *(2^u32:Nat)):=Dr (k:=.f32) Mi _ (by show _<2*single.binade;rw[By];omega) (by show(u32+2)*single.binade<=single.infRung;rw[Im,Ga];exact Ap2 _ (by omega))
 refine⟨y,A.tdiv (2^u32:Nat),hy,?_,rfl,hyv,?_⟩
 ·unfold floatToIntVal;have:(FloatKind.f32.decode y).toInt .zero=some (A.tdiv (2^u32:Nat)):=hti;rw[this];simp only;rw[Apb];have h1:IntKind.i64.min=-9223372036854775808:=by decide
  have h2:IntKind.i64.max=9223372036854775807:=by decide
  rw[h1,h2]
  omega
 ·rw[Cq (k:=.f32) hN hyv]
  congr 1
  have hmod:=Int.mul_tdiv_add_tmod A (2^u32:Nat);rw[Aqi]at hmod;rw[eq_iff_iff]
  constructor
  ·intro h
   exact Int.emod_eq_zero_of_dvd ⟨_,by rw[Aqi];exact h.symm⟩
  ·intro h
   exact Int.tdiv_mul_cancel (Int.dvd_of_emod_eq_zero h)
end Flo
end Go.Proofs.YtlfleicchbgcmaaGreat
end
namespace Go.Proofs.YtlfleicchbgcmaaGreat
end Go.Proofs.YtlfleicchbgcmaaGreat
section
namespace Go.Proofs.YtlfleicchbgcmaaGreat
namespace Flo
open Ieee
def De (d:Nat):Nat:=(127-d)*8388608
def Pt (x d:Nat)(n:Int):Prop:=D6 single x (n *(2^(u32-d):Nat))
theorem Q0 {d:Nat}(hd:d<=11):2^u32=2^(u32-d)*2^d:=by
 rw[<-Apk];congr 1;rw[Ga];omega
theorem Adk (d:Nat)(hd:d<=11):Pt (De d) d 1:=by
 unfold Pt;rw[Int.one_mul]
 rcases(by omega:d=0\/d=1\/d=2\/d=3\/d=4\/d=5\/d=6\/d=7\/d=8\/d=9\/d=10\/d=11)with rfl|rfl|rfl|rfl|rfl|rfl|rfl|rfl|rfl|rfl|rfl|rfl
 all_goals
  refine⟨by decide,by unfold fin;decide,?_⟩
  unfold iv u32;rw[Ap8 (by decide)]
  congr 1
theorem Jv {x d:Nat}(hx:x<4294967296)(hd:d<=11)(h:Bi x d=true):∃A:Int,Pt x d A/\A.natAbs<=4*2^d:=by
 unfold Bi at h;rw[Ap7,Apm]at h;obtain⟨hv,hb⟩:=Ih hx h.1;have hs:=Q0 hd;have hp:(0:Int) <(2^d:Nat):=by have:=Ap9 d;omega
 obtain⟨A,hA⟩:=Int.dvd_of_emod_eq_zero h.2
 have hA2:iv single x=A *(2^(u32-d):Nat):=by
  refine Int.eq_of_mul_eq_mul_right (Int.ne_of_gt hp) ?_
  rw[hA,hs,Apx,Aqf A,Aqi A]
 refine⟨A,?_,?_⟩
 ·unfold Pt;rw[<-hA2];exact hv
 ·rw[hA2,Apt,Apf,hs]at hb;have:4 *(2^(u32-d)*2^d)=4*2^d*2^(u32-d):=by rw[Apo,Apr (2^(u32-d))]
  rw[this]at hb
  exact Ard hb (Ap9 _)
theorem Ad2 {d:Nat}(hd:d<=11){n:Int}(hn:n.natAbs<16777216):Pm single (n *(2^(u32-d):Nat)):=by
 refine Hs (m:=n.natAbs) (e:=u32-d) (by rw[Apt,Apf]) (by rw[By];omega) ?_
 rw[Im,Ga]
 exact Ap2 _ (by omega)
theorem A3h (d:Nat)(hd:d<=11)(j:Int)(hj:j.natAbs<=65536):∃p,floatBits .mul .f32 (floatOfInt .f32 j) (De d)=some p/\Pt p d j:=by
 have hJ:D6 single (floatOfInt .f32 j) (j *(2^u32:Nat)):=Dr (k:=.f32) Mi _ (by show _<2*single.binade;rw[By];omega) (by show(u32+2)*single.binade<=single.infRung;rw[Im,Ga];exact Ap2 _ (by omega))
 obtain⟨p,hp,hv⟩:=Hq (f:=single) (c:=j *(2^(u32-d):Nat)) Mi hJ (Adk d hd) (by rw[Int.one_mul,Int.mul_right_comm]) (Ad2 hd (by omega))
 exact⟨p,hp,hv⟩
theorem Ae6 {d x y:Nat}{a b:Int}(hd:d<=11)(hx:Pt x d a)(hy:Pt y d b)(h:(a+b).natAbs<16777216):∃z,floatBits .add .f32 x y=some z/\Pt z d (a+b):=by
 have hr:=Ad2 hd h;rw[Asa]at hr;obtain⟨z,hz,hv⟩:=Aen hx hy hr
 refine⟨z,hz,?_⟩
 unfold Pt;rw[Asa]
 exact hv
theorem Ad1 {c d:Nat}{A:Int}(hd:d<=11)(hc:Pt c d A)(hA:A.natAbs<=65536)(j:Int)(hj:j.natAbs<=65536) :
 ∃p x,floatBits .mul .f32 (floatOfInt .f32 j) (De d)=some p/\floatBits .add .f32 c p=some x/\Pt x d (A+j):=by
 obtain⟨p,hp,hv⟩:=A3h d hd j hj;obtain⟨x,hx,hv2⟩:=Ae6 hd hc hv (by omega)
 exact⟨p,x,hp,hx,hv2⟩
theorem A7m {x d:Nat}{n:Int}(h:Pt x d n):x<4294967296:=h.lt
theorem Pd {x d:Nat}{n:Int}(hd:d<=11)(hx:Pt x d n)(hn:n.natAbs<=65536) :
 ∃y1 y,floatToFloatBits .f32 x .f64=some y1/\floatBits .mul .f64 y1 4715268809856909312=some y/\D6 double y (n *(2^(24-d):Nat) *(2^u64:Nat))/\floatToIntVal .f64 y .i64=some (n *(2^(24-d):Nat)):=by
 obtain⟨y1,h1,v1⟩:=Dv hx
 have hU:D6 double 4715268809856909312 ((16777216:Int) *(2^u64:Nat)):=by
  have:=Dr (k:=.f64) Cp 16777216 (by show _<2*double.binade;rw[An];omega) (by show(u64+2)*double.binade<=double.infRung;rw[Bp,Fo];exact Ap2 _ (by omega))
  have e:floatOfInt .f64 16777216=4715268809856909312:=by kernel_rfl
  rw[e]at this
  exact this
 have hpd:2^(24-d)<=2^24:=Api (by omega) (by omega)
 have hN:(n *(2^(24-d):Nat)).natAbs<=65536*16777216:=by
  rw[Apt,Apf]
  exact Aqh hn (by omega)
 have hrep:Pm double (n *(2^(24-d):Nat) *(2^u64:Nat)):=by
  refine Hs (m:=(n *(2^(24-d):Nat)).natAbs) (e:=u64) (by rw[Apt,Apf]) (by rw[An];omega) ?_
  rw[Bp,Fo]
  exact Ap2 _ (by omega)
 have hc:n *(2^(u32-d):Nat) *(2^Hc:Nat) *((16777216:Int) *(2^u64:Nat))=n *(2^(24-d):Nat) *(2^u64:Nat) *(2^u64:Nat):=by
  have e:(2^(u32-d)*2^Hc*16777216:Nat)=2^(24-d)*2^u64:=by
   rw[show(16777216:Nat)=2^24 by decide,<-Apk,<-Apk,<-Apk]
   congr 1
   rw[Ga,O1,Fo];omega
  have e2:((2^(u32-d):Nat):Int) *(2^Hc:Nat)*16777216=(2^(24-d):Nat) *(2^u64:Nat):=by
   have:=congrArg (fun x:Nat=>(x:Int)) e
   simp only[Apx]at this
   exact this
  generalize ((2^(u32-d):Nat):Int)=P at *;generalize ((2^Hc:Nat):Int)=Q at *;generalize ((2^u64:Nat):Int)=R at *;generalize ((2^(24-d):Nat):Int)=S at *
  calc n*P*Q *(16777216*R)=n *(P*Q*16777216)*R:=by simp only[Aqf]
   _=n*S*R*R:=by rw[e2];simp only[Aqf]
 obtain⟨y,hy,v2⟩:=Hq (f:=double) (c:=n *(2^(24-d):Nat) *(2^u64:Nat)) Cp v1 hU hc hrep
 refine⟨y1,y,h1,hy,v2,?_⟩
 have hti:=Yg (f:=double) Cp v2;have hp:((2^u64:Nat):Int)≠0:=by have:=Ap9 u64;omega
 rw[Int.mul_tdiv_cancel _ hp]at hti;unfold floatToIntVal;have:(FloatKind.f64.decode y).toInt .zero=some (n *(2^(24-d):Nat)):=hti;rw[this];simp only;rw[Apb];have h1:IntKind.i64.min=-9223372036854775808:=by decide
 have h2:IntKind.i64.max=9223372036854775807:=by decide
 rw[h1,h2]
 omega
theorem A1q:D6 double 4728779608739020800 ((134217728:Int) *(2^u64:Nat)):=by
 have:=Dr (k:=.f64) Cp 134217728 (by show _<2*double.binade;rw[An];omega) (by show(u64+2)*double.binade<=double.infRung;rw[Bp,Fo];exact Ap2 _ (by omega))
 have e:floatOfInt .f64 134217728=4728779608739020800:=by kernel_rfl
 rw[e]at this
 exact this
theorem Ln:D6 double 13952151645593796608 ((-134217728:Int) *(2^u64:Nat)):=by
 have:=Dr (k:=.f64) Cp (-134217728) (by show _<2*double.binade;rw[An];omega) (by show(u64+2)*double.binade<=double.infRung;rw[Bp,Fo];exact Ap2 _ (by omega))
 have e:floatOfInt .f64 (-134217728)=13952151645593796608:=by kernel_rfl
 rw[e]at this
 exact this
theorem Tw {a b:Int}:(a *(2^u64:Nat)<=b *(2^u64:Nat))↔a<=b:=by
 have hp:(0:Int) <(2^u64:Nat):=by have:=Ap9 u64;omega
 exact⟨fun h=>Int.le_of_mul_le_mul_right h hp,fun h=>Arn h (Asv hp)⟩
theorem R6 {y:Nat}{N:Int}(hN:N.natAbs<=1099511627776)(hy:D6 double y (N *(2^u64:Nat))) :
 (FloatKind.f64.format.order y 13952151645593796608 == some .gt || FloatKind.f64.format.order y 13952151645593796608 == some .eq)=decide (-134217728<=N) /\
 (FloatKind.f64.format.order y 4728779608739020800 == some .lt || FloatKind.f64.format.order y 4728779608739020800 == some .eq)=decide (N<=134217728) /\
 (FloatKind.f64.format.order (floatOfInt .f64 N) y == some .gt)=false /\(FloatKind.f64.format.order (floatOfInt .f64 N) y == some .lt)=false:=by
 have hNv:D6 double (floatOfInt .f64 N) (N *(2^u64:Nat)):=Dr (k:=.f64) Cp N (by show _<2*double.binade;rw[An];omega) (by show(u64+2)*double.binade<=double.infRung;rw[Bp,Fo];exact Ap2 _ (by omega))
 have m1:=@Tw (-134217728) N;have m2:=@Tw N 134217728
 refine⟨?_,?_,?_,?_⟩
 ·rw[Ke (k:=.f64) hy Ln,Cq (k:=.f64) hy Ln,Au1];simp only[Ase,Apm];rw[<-m1];omega
 ·rw[G0 (k:=.f64) hy A1q,Cq (k:=.f64) hy A1q,Au1];simp only[Ase,Apm];rw[<-m2];omega
 ·rw[Ke (k:=.f64) hNv hy];simp
 ·rw[G0 (k:=.f64) hNv hy];simp
end Flo
end Go.Proofs.YtlfleicchbgcmaaGreat
end
namespace Go.Proofs.YtlfleicchbgcmaaGreat
section
def Gt (n lo hi:Int):Bool:=decide (lo<=n) && decide (n<=hi)
theorem Afe {n lo hi:Int}(h1:lo<=n)(h2:n<=hi):Gt n lo hi=true:=by simp[Gt,h1,h2]
theorem Ac5 {n lo hi:Int}(h:¬(lo<=n/\n<=hi)):Gt n lo hi=false:=by
 cases e:Gt n lo hi
 ·rfl
 ·simp only[Gt,Ap7,Apm]at e;exact absurd e h
end
section
open Go.RowKit
theorem Cb (n lo hi:Int)(w:World):Calls Vp.prog 19 #[.int .i64 n,.int .i64 lo,.int .i64 hi] w fun e w'=>e=.returned (.bool (Gt n lo hi))/\w=w':=by
 by_cases h1:lo<=n
 ·by_cases h2:n<=hi
  ·rw[Afe h1 h2];have h2':¬hi<n:=by omega
   go_enter Vp.func19,Tryz.ntmps19
   go_wp2
   go_ret
   exact⟨rfl,rfl⟩
  ·rw[Ac5 (by omega)]
   go_enter Vp.func19,Tryz.ntmps19
   go_wp2
   go_ret
   exact⟨rfl,rfl⟩
 ·rw[Ac5 (by omega)]
  go_enter Vp.func19,Tryz.ntmps19
  go_wp2
  go_ret
  exact⟨rfl,rfl⟩
end
section
open Go.RowKit
def Bl (a b c d:Int):Bool:=Gt a (-134217728) b && Gt b a 134217728 && Gt c (-134217728) d && Gt d c 134217728
theorem Cf (a b c d:Int)(w:World):Calls Vp.prog 68 #[.agg #[.int .i64 a,.int .i64 b,.int .i64 c,.int .i64 d]] w fun e w'=>e=.returned (.bool (Bl a b c d))/\Below w.heap.size w w':=by
 have X:=A9.new w #[.int .i64 a,.int .i64 b,.int .i64 c,.int .i64 d] 93;have x0:=X.cell 0 _ rfl;have x1:=X.cell 1 _ rfl;have x2:=X.cell 2 _ rfl;have x3:=X.cell 3 _ rfl;have HB:=Aoy X.old;clear X;unfold Bl
 cases h1:Gt a (-134217728) b with
 | false =>
   go_enter Vp.func68,Tryz.ntmps68
   go_wp2_with (go_at_call 19;refine(Cb _ _ _ _).mono ?_;rintro e w' ⟨rfl,rfl⟩)
   go_ret
   exact⟨rfl,HB.out⟩
 | true =>
   cases h2:Gt b a 134217728 with
   | false =>
     go_enter Vp.func68,Tryz.ntmps68
     go_wp2_with (go_at_call 19;refine(Cb _ _ _ _).mono ?_;rintro e w' ⟨rfl,rfl⟩)
     go_ret
     exact⟨rfl,HB.out⟩
   | true =>
     cases h3:Gt c (-134217728) d with
     | false =>
       go_enter Vp.func68,Tryz.ntmps68
       go_wp2_with (go_at_call 19;refine(Cb _ _ _ _).mono ?_;rintro e w' ⟨rfl,rfl⟩)
       go_ret
       exact⟨rfl,HB.out⟩
     | true =>
       cases h4:Gt d c 134217728 with
       | false =>
         go_enter Vp.func68,Tryz.ntmps68
         go_wp2_with (go_at_call 19;refine(Cb _ _ _ _).mono ?_;rintro e w' ⟨rfl,rfl⟩)
         go_ret
         exact⟨rfl,HB.out⟩
       | true =>
         go_enter Vp.func68,Tryz.ntmps68
         go_wp2_with (go_at_call 19;refine(Cb _ _ _ _).mono ?_;rintro e w' ⟨rfl,rfl⟩)
         go_ret
         exact⟨rfl,HB.out⟩
end
section
open Go.RowKit
theorem Y4 (d:Nat)(h:d<=11):floatBits .quo .f32 1065353216 (floatOfInt .f32 (wrap64 (2^d)))=some (Flo.De d):=by
 rcases(by omega:d=0\/d=1\/d=2\/d=3\/d=4\/d=5\/d=6\/d=7\/d=8\/d=9\/d=10\/d=11)with rfl|rfl|rfl|rfl|rfl|rfl|rfl|rfl|rfl|rfl|rfl|rfl<;>kernel_rfl
theorem Xi (d:Nat)(hd:d<=11)(w:World):Calls Vp.prog 74 #[.int .i64 d] w fun e w'=>e=.returned (.float .f32 (Flo.De d))/\w=w':=by
 obtain⟨q,hq⟩:∃q:Int,wrap64 (2^d)=q:=⟨_,rfl⟩
 have hz:∀w,(binOp .quo 74 (.float .f32 1065353216) (.float .f32 (floatOfInt .f32 q))).run Vp.prog w=.ok (.float .f32 (Flo.De d)) w:=fun w =>
  Aqa w _ _ _ _ _ _ (by rw[<-hq];exact Y4 d hd)
 generalize Flo.De d=r at *
 go_enter Vp.func74,Tryz.ntmps74
 go_wp2
 go_ret
 exact⟨rfl,rfl⟩
theorem Y3 (d:Nat)(hd:d<=11)(w:World):Calls Vp.prog 56 #[.int .i64 d] w fun e w'=>e=.returned (.float .f32 (Flo.De d))/\w=w':=by
 obtain⟨q,hq⟩:∃q:Int,wrap64 (2^d)=q:=⟨_,rfl⟩
 have hz:∀w,(binOp .quo 74 (.float .f32 1065353216) (.float .f32 (floatOfInt .f32 q))).run Vp.prog w=.ok (.float .f32 (Flo.De d)) w:=fun w =>
  Aqa w _ _ _ _ _ _ (by rw[<-hq];exact Y4 d hd)
 generalize Flo.De d=r at *
 go_enter Vp.func56,Tryz.ntmps56
 go_wp2
 go_ret
 exact⟨rfl,rfl⟩
end
section
open Go.RowKit
theorem M7 (d:Nat)(h:d<=11):wrap64 (2^d)=((2^d:Nat):Int):=by
 rcases(by omega:d=0\/d=1\/d=2\/d=3\/d=4\/d=5\/d=6\/d=7\/d=8\/d=9\/d=10\/d=11)with rfl|rfl|rfl|rfl|rfl|rfl|rfl|rfl|rfl|rfl|rfl|rfl<;>kernel_rfl
theorem Tr (x d:Nat)(hx:x<4294967296)(hd:d<=11)(w:World):Calls Vp.prog 66 #[.float .f32 x,.int .i64 d] w fun e w'=>e=.returned (.bool (Flo.Bi x d))/\Au w w':=by
 have hdp:2^d<=2^11:=Api (by omega) hd
 obtain⟨q,hq⟩:∃q:Int,wrap64 (2^d)=q:=⟨_,rfl⟩;have hqd:((2^d:Nat):Int)=q:=by rw[<-hq,M7 d hd]
 cases h4:Flo.E8 x with
 | false =>
   have hw:Flo.Bi x d=false:=by unfold Flo.Bi;rw[h4];rfl
   rw[hw];obtain⟨y,w1,h1,_,d1⟩:=Flo.Ct (P:=Vp.prog) .mul (by simp) 74 .f32 x (floatOfInt .f32 q) w
   have HD:=Aoy d1;unfold Flo.E8 at h4;clear d1 hqd hdp hw
   cases b1:(FloatKind.f32.format.order x 3229614080 == some .gt || FloatKind.f32.format.order x 3229614080 == some .eq)with
   | false =>
     clear h4
     go_enter Vp.func66,Tryz.ntmps66
     go_wp2
     go_ret
     exact⟨rfl,HD.out⟩
   | true =>
     rw[b1,Ash]at h4
     go_enter Vp.func66,Tryz.ntmps66
     go_wp2
     go_ret
     exact⟨rfl,HD.out⟩
 | true =>
   obtain⟨y,n,h1,h2,-,-,h3⟩:=Flo.R8 hx hd h4;have hw:Flo.Bi x d=(FloatKind.f32.format.order (floatOfInt .f32 n) y == some .eq):=by unfold Flo.Bi;rw[h4,h3];rfl
   rw[hw];rw[hqd]at h1;have g1:∀w,(binOp .mul 74 (.float .f32 x) (.float .f32 (floatOfInt .f32 q))).run Vp.prog w=.ok (.float .f32 y) w:=fun w=>Aqa w .mul _ .f32 _ _ _ h1
   have g2:∀w,(convert 74 3 (.float .f32 y)).run Vp.prog w=.ok (.int .i64 n) w:=fun w=>Atx w _ _ .f32 .i64 _ _ (by kernel_rfl) (Vp.Dw Tryz.underlying3) h2
   unfold Flo.E8 at h4;rw[Ap7]at h4;obtain⟨b1,b2⟩:=h4;clear h1 h2 h3 hw hqd hdp
   cases b3:(FloatKind.f32.format.order (floatOfInt .f32 n) y == some .eq)with
   | false =>
     go_enter Vp.func66,Tryz.ntmps66
     go_wp2
     go_ret
     exact⟨rfl,Au.refl _⟩
   | true =>
     go_enter Vp.func66,Tryz.ntmps66
     go_wp2
     go_ret
     exact⟨rfl,Au.refl _⟩
def Bh (cx cy:Nat)(deep size:Int):Bool:=Gt deep 0 10 && Gt size 1 8 && Flo.Bi cx deep.toNat && Flo.Bi cy deep.toNat
theorem Bs {cx cy:Nat}{deep size:Int}(h:Bh cx cy deep size=true):0<=deep/\deep<=10/\1<=size/\size<=8:=by
 unfold Bh Gt at h;simp only[Ap7,Apm]at h
 omega
theorem A5a (cx cy:Nat)(deep size:Int)(hx:cx<4294967296)(hy:cy<4294967296)(w:World):Calls Vp.prog 44 #[.complex .f32 cx cy,.int .i64 deep,.int .i64 size] w fun e w'=>e=.returned (.bool (Bh cx cy deep size))/\Au w w':=by
 unfold Bh
 cases h1:Gt deep 0 10 with
 | false =>
   go_enter Vp.func44,Tryz.ntmps44
   go_wp2_with (go_at_call 19;refine(Cb _ _ _ _).mono ?_;rintro e w' ⟨rfl,rfl⟩)
   go_ret
   exact⟨rfl,Au.refl _⟩
 | true =>
   cases h2:Gt size 1 8 with
   | false =>
     go_enter Vp.func44,Tryz.ntmps44
     go_wp2_with (go_at_call 19;refine(Cb _ _ _ _).mono ?_;rintro e w' ⟨rfl,rfl⟩)
     go_ret
     exact⟨rfl,Au.refl _⟩
   | true =>
     obtain⟨d,rfl,hd⟩:∃d:Nat,deep=d/\d<=11:=by
      unfold Gt at h1;simp only[Ap7,Apm]at h1
      exact⟨deep.toNat,by omega,by omega⟩
     rw[Aqk];have HX:=Aoy (fun w=>Tr cx d hx hd w)
     have HY:=Aoy (fun w=>Tr cy d hy hd w)
     cases h3:Flo.Bi cx d with
     | false =>
       rw[h3]at HX
       go_enter Vp.func44,Tryz.ntmps44
       go_wp2_with (first |(go_at_call 19;refine(Cb _ _ _ _).mono ?_;rintro e w' ⟨rfl,rfl⟩) |(go_at_call 66;refine(HX.out _).mono ?_;rintro e w1 ⟨rfl,d1⟩;have H1:=Aoy d1;clear d1))
       go_ret
       exact⟨rfl,H1.out⟩
     | true =>
       rw[h3]at HX
       cases h4:Flo.Bi cy d with
       | false =>
         rw[h4]at HY
         go_enter Vp.func44,Tryz.ntmps44
         go_wp2_with (first |(go_at_call 19;refine(Cb _ _ _ _).mono ?_;rintro e w' ⟨rfl,rfl⟩) |(go_at_call 66;refine(HX.out _).mono ?_;rintro e w1 ⟨rfl,d1⟩;have H1:=Aoy d1;clear d1 HX) |(go_at_call 66;refine(HY.out _).mono ?_;rintro e w2 ⟨rfl,d1⟩;have H2:=Aoy (H1.out.trans d1);clear d1))
         go_ret
         exact⟨rfl,H2.out⟩
       | true =>
         rw[h4]at HY
         go_enter Vp.func44,Tryz.ntmps44
         go_wp2_with (first |(go_at_call 19;refine(Cb _ _ _ _).mono ?_;rintro e w' ⟨rfl,rfl⟩) |(go_at_call 66;refine(HX.out _).mono ?_;rintro e w1 ⟨rfl,d1⟩;have H1:=Aoy d1;clear d1 HX) |(go_at_call 66;refine(HY.out _).mono ?_;rintro e w2 ⟨rfl,d1⟩;have H2:=Aoy (H1.out.trans d1);clear d1))
         go_ret
         exact⟨rfl,H2.out⟩
end
section
open Go.RowKit
theorem A7 (P:Program)(w:World)(a:Addr)(m:Mode)(k:FloatKind)(b:Nat):(store a (.float k b) m).run P w=stored P w a (.float k b) m:=run_store P w a _ m rfl
theorem A5 (P:Program)(w:World)(a:Addr)(m:Mode)(k:FloatKind)(x y:Nat):(store a (.complex k x y) m).run P w=stored P w a (.complex k x y) m:=run_store P w a _ m rfl
attribute [local go_sem] A7 A5
end
section
open Go.RowKit
def Dd (x:Nat):Value:=.float .f32 x
def Ax (x:Int):Value:=.int .i64 x
def Bz (cx cy:Nat)(deep size:Int)(sm mk:Value):Array Value:=#[.complex .f32 cx cy,.int .i64 deep,.int .i64 size,sm,mk]
theorem Xb:(Vp.prog.info? 74).map (fun i=>(i.zero,i.size,i.bytes))=some (some (.float .f32 0),1,4):=by kernel_rfl
theorem Qn:(Vp.prog.info? 3).map (fun i=>(i.zero,i.size,i.bytes))=some (some (.int .i64 0),1,8):=by kernel_rfl
theorem Ag {w:World}{base:Nat}{e:TypeId}{size:Nat}{v:Value}{n:Nat}{xs:List Value}(h:w.ownsRow base e size v n xs){b:Nat}{C:Array Value}{T:TypeId}(hb:w.heap[b]?=some (.cells C T (0,0)))(hne:e≠T):v.ownBlock≠some b:=by
 rcases h.2 with⟨rfl,_⟩ |⟨g,cap,cur,rfl,_,hg,_⟩
 ·simp[Value.ownBlock]
 ·intro he;simp[Value.ownBlock]at he;subst he;rw[hg]at hb;injection hb with hb
  injection hb with _ hb _
  exact hne hb
theorem Cs {w:World}{base base':Nat}{e e':TypeId}{size size':Nat}{v v':Value}{n n':Nat}{xs xs':List Value}(h:w.ownsRow base e size v n xs)(h':w.ownsRow base' e' size' v' n' xs')(hne:e≠e'):v.ownBlock=none\/v.ownBlock≠v'.ownBlock:=by
 rcases h'.2 with⟨rfl,_⟩ |⟨g,cap,cur,rfl,_,hg,_⟩
 ·cases hv:v.ownBlock
  ·exact .inl rfl
  ·exact .inr (by simp[Value.ownBlock])
 ·exact .inr (Ag h hg hne)
theorem Ab {w w':World}{base:Nat}{e:TypeId}{size:Nat}{v:Value}{n:Nat}{xs:List Value}(h:w.ownsRow base e size v n xs)(k:Below w.heap.size w w'):w'.ownsRow base e size v n xs :=
 h.kept ⟨k.os,k.tape,k.output,k.size,fun i hi _=>k.block i hi⟩ (row:=none) (by cases hv:v.ownBlock<;>simp)
theorem A9.grown {w0 W W':World}{b:Nat}{C:Array Value}{T:TypeId}(h:A9 w0 b C T W){row:Option Nat}(hg:W.grownBy W' row)(hne:row≠some b)(hrow:∀k,row=some k->w0.heap.size<=k):A9 w0 b C T W' :=
 ⟨(hg.block b h.lt (fun e=>hne e.symm)).trans h.blk,h.old.grown hg h.old.size hrow⟩
structure TM (w:World)(rb ob:Nat)(cx cy:Nat)(deep size:Int)(n m:Nat)(xs:List Nat)(ys:List Int)(smv mkv:Value)(W:World):Prop where
 O:A9 w ob (Bz cx cy deep size smv mkv) 35 W
 R:A9 w rb (Bz 0 0 0 0 (.slice none 0 0) (.slice none 0 0)) 35 W
 S:W.ownsRow w.heap.size 74 1 smv n (xs.map Dd)
 M:W.ownsRow w.heap.size 3 1 mkv m (ys.map Ax)
 hx:∀x,x∈xs->x<4294967296
 hy:∀y,y∈ys->-1<=y/\y<=1
 ne:rb≠ob
 hr:w.heap.size<=rb
 ho:w.heap.size<=ob
theorem TM.step {w:World}{rb ob cx cy n m:Nat}{deep size:Int}{xs:List Nat}{ys:List Int}{smv mkv:Value}{W W':World}(h:TM w rb ob cx cy deep size n m xs ys smv mkv W)(k:Below W.heap.size W W'):TM w rb ob cx cy deep size n m xs ys smv mkv W' :=
 ⟨h.O.step k,h.R.step k,Ab h.S k,Ab h.M k,h.hx,h.hy,h.ne,h.hr,h.ho⟩
theorem TM.alloc {w:World}{rb ob cx cy n m:Nat}{deep size:Int}{xs:List Nat}{ys:List Int}{smv mkv:Value}{W:World}(h:TM w rb ob cx cy deep size n m xs ys smv mkv W)(o:Obj):TM w rb ob cx cy deep size n m xs ys smv mkv (W.alloc o) :=
 h.step ((Aph _ _).alloc (Ap0 _) o)
theorem TM.Wy {w:World}{rb ob cx cy n m:Nat}{deep size:Int}{xs:List Nat}{ys:List Int}{smv mkv:Value}{W W':World}(h:TM w rb ob cx cy deep size n m xs ys smv mkv W)(k:Au W W'):TM w rb ob cx cy deep size n m xs ys smv mkv W':=h.step (k.below _)
theorem TM.old {w:World}{rb ob cx cy n m:Nat}{deep size:Int}{xs:List Nat}{ys:List Int}{smv mkv:Value}{W:World}(h:TM w rb ob cx cy deep size n m xs ys smv mkv W):Below w.heap.size w W:=h.O.old
theorem A6 {w:World}{base:Nat}{e:TypeId}{size:Nat}{v:Value}{n:Nat}{xs:List Value}(h:w.ownsRow base e size v n xs){b j:Nat}{C:Array Value}{T:TypeId}(hb:w.heap[b]?=some (.cells C T (0,0)))(hne:e≠T)(u:Value):(w.setCell ⟨b,j,none⟩ u).ownsRow base e size v n xs :=
 ownsRow_setCell_other h (Ag h hb hne) u
theorem A9.Ad {w0 W:World}{b:Nat}{v0 v1 v2 v3 v4:Value}{T:TypeId}(h:A9 w0 b #[v0,v1,v2,v3,v4] T W) :
 W.cell? ⟨b,0,none⟩=some v0/\W.cell? ⟨b,1,none⟩=some v1/\W.cell? ⟨b,2,none⟩=some v2/\W.cell? ⟨b,3,none⟩=some v3/\W.cell? ⟨b,4,none⟩=some v4 :=
 ⟨h.cell 0 _ rfl,h.cell 1 _ rfl,h.cell 2 _ rfl,h.cell 3 _ rfl,h.cell 4 _ rfl⟩
theorem A9.Hk {w0 W:World}{b:Nat}{C:Array Value}{T:TypeId}(h:A9 w0 b C T W) :
 W.frozen? ⟨b,0,none⟩=false/\W.frozen? ⟨b,1,none⟩=false/\W.frozen? ⟨b,2,none⟩=false/\W.frozen? ⟨b,3,none⟩=false/\W.frozen? ⟨b,4,none⟩=false :=
 ⟨h.frozen 0,h.frozen 1,h.frozen 2,h.frozen 3,h.frozen 4⟩
theorem TM.oc {w:World}{rb ob cx cy n m:Nat}{deep size:Int}{xs:List Nat}{ys:List Int}{smv mkv:Value}{W:World}(h:TM w rb ob cx cy deep size n m xs ys smv mkv W) :
 W.cell? ⟨ob,0,none⟩=some (.complex .f32 cx cy)/\W.cell? ⟨ob,1,none⟩=some (.int .i64 deep)/\W.cell? ⟨ob,2,none⟩=some (.int .i64 size)/\W.cell? ⟨ob,3,none⟩=some smv/\W.cell? ⟨ob,4,none⟩=some mkv:=h.O.Ad
theorem TM.rc {w:World}{rb ob cx cy n m:Nat}{deep size:Int}{xs:List Nat}{ys:List Int}{smv mkv:Value}{W:World}(h:TM w rb ob cx cy deep size n m xs ys smv mkv W) :
 W.cell? ⟨rb,0,none⟩=some (.complex .f32 0 0)/\W.cell? ⟨rb,1,none⟩=some (.int .i64 0)/\W.cell? ⟨rb,2,none⟩=some (.int .i64 0)/\W.cell? ⟨rb,3,none⟩=some (.slice none 0 0)/\W.cell? ⟨rb,4,none⟩=some (.slice none 0 0):=h.R.Ad
theorem TM.Io {w:World}{rb ob cx cy n m:Nat}{deep size:Int}{xs:List Nat}{ys:List Int}{smv mkv v':Value}{W W':World}(h:TM w rb ob cx cy deep size n m xs ys smv mkv W){z:Nat}(hz:z<4294967296)(hown:W'.ownsRow w.heap.size 74 1 v' (n+1) (xs.map Dd++[Dd z]))(hg:W.grownBy W' smv.ownBlock) :
 TM w rb ob cx cy deep size (n+1) m (xs++[z]) ys v' mkv (W'.setCell ⟨ob,3,none⟩ v')/\W'.cell? ⟨ob,3,none⟩=some smv/\W'.frozen? ⟨ob,3,none⟩=false:=by
 have hrow:∀k,smv.ownBlock=some k->w.heap.size<=k:=fun k hk=>(h.S.lt k hk).1
 have O:=h.O.grown hg (Ag h.S h.O.blk (by decide)) hrow
 have R:=h.R.grown hg (Ag h.S h.R.blk (by decide)) hrow
 have M:=h.M.kept hg (Cs h.M h.S (by decide))
 refine⟨⟨?_,R.other (p:=⟨ob,3,none⟩) h.ho h.ne _,?_,A6 M O.blk (by decide) _,?_,h.hy,h.ne,h.hr,h.ho⟩,O.cell 3 _ rfl,O.frozen 3⟩
 ·have:=O.set h.ho 3 v'
  exact this
 ·rw[Aq2]
  exact A6 hown O.blk (by decide) _
 ·intro x hx
  rcases Aq9.1 hx with hx|hx
  ·exact h.hx x hx
  ·rw[Arq]at hx;rw[hx];exact hz
theorem TM.mark {w:World}{rb ob cx cy n m:Nat}{deep size:Int}{xs:List Nat}{ys:List Int}{smv mkv v':Value}{W W':World}(h:TM w rb ob cx cy deep size n m xs ys smv mkv W){z:Int}(hz:-1<=z/\z<=1)(hown:W'.ownsRow w.heap.size 3 1 v' (m+1) (ys.map Ax++[Ax z]))(hg:W.grownBy W' mkv.ownBlock) :
 TM w rb ob cx cy deep size n (m+1) xs (ys++[z]) smv v' (W'.setCell ⟨ob,4,none⟩ v')/\W'.cell? ⟨ob,4,none⟩=some mkv/\W'.frozen? ⟨ob,4,none⟩=false:=by
 have hrow:∀k,mkv.ownBlock=some k->w.heap.size<=k:=fun k hk=>(h.M.lt k hk).1
 have O:=h.O.grown hg (Ag h.M h.O.blk (by decide)) hrow
 have R:=h.R.grown hg (Ag h.M h.R.blk (by decide)) hrow
 have S:=h.S.kept hg (Cs h.S h.M (by decide))
 refine⟨⟨?_,R.other (p:=⟨ob,4,none⟩) h.ho h.ne _,A6 S O.blk (by decide) _,?_,h.hx,?_,h.ne,h.hr,h.ho⟩,O.cell 4 _ rfl,O.frozen 4⟩
 ·have:=O.set h.ho 4 v'
  exact this
 ·rw[Aq2]
  exact A6 hown O.blk (by decide) _
 ·intro y hy
  rcases Aq9.1 hy with hy|hy
  ·exact h.hy y hy
  ·rw[Arq]at hy;rw[hy];exact hz
theorem TM.start {w W:World}{rb:Nat}(cx cy:Nat)(deep size:Int)(R:A9 w rb (Bz 0 0 0 0 (.slice none 0 0) (.slice none 0 0)) 35 W)(hr:w.heap.size<=rb) :
 TM w rb (W.heap.size+1+1) cx cy deep size 0 0 [] [] (.slice (some ⟨W.heap.size,0,none⟩) 0 0) (.slice (some ⟨W.heap.size+1,0,none⟩) 0 0) (((W.alloc (.cells #[] 74)).alloc (.cells #[] 3)).alloc (.cells (Bz cx cy deep size (.slice (some ⟨W.heap.size,0,none⟩) 0 0) (.slice (some ⟨W.heap.size+1,0,none⟩) 0 0)) 35)):=by
 have hs:=R.old.size;have hlt:=R.lt
 refine⟨?_,((R.alloc _).alloc _).alloc _,?_,?_,(fun x hx=>by cases hx),(fun x hx=>by cases hx),by omega,hr,by omega⟩
 ·have:=(A9.new ((W.alloc (.cells #[] 74)).alloc (.cells #[] 3)) (Bz cx cy deep size (.slice (some ⟨W.heap.size,0,none⟩) 0 0) (.slice (some ⟨W.heap.size+1,0,none⟩) 0 0)) 35).up (w0:=w) ((R.alloc _).alloc _).old
  simpa only[Apl]using this
 ·have:=Asi (e:=74) (size:=1) (base:=w.heap.size) W #[] 0 hs (by decide) rfl
  exact(this.alloc _).alloc _
 ·have:=Asi (e:=3) (size:=1) (base:=w.heap.size) (W.alloc (.cells #[] 74)) #[] 0 (by simp;omega) (by decide) rfl
  rw[Apl]at this
  exact this.alloc _
structure Made (B n:Nat)(xs:List Nat)(ys:List Int)(smv mkv:Value)(W:World):Prop where
 S:W.ownsRow B 74 1 smv n (xs.map Dd)
 M:W.ownsRow B 3 1 mkv n (ys.map Ax)
 lx:xs.length=n
 ly:ys.length=n
 hx:∀x,x∈xs->x<4294967296
 hy:∀y,y∈ys->-1<=y/\y<=1
theorem Made.set {B n:Nat}{xs:List Nat}{ys:List Int}{smv mkv:Value}{W:World}(h:Made B n xs ys smv mkv W){b:Nat}{C:Array Value}(hb:W.heap[b]?=some (.cells C 35 (0,0)))(j:Nat)(u:Value):Made B n xs ys smv mkv (W.setCell ⟨b,j,none⟩ u) :=
 ⟨A6 h.S hb (by decide) u,A6 h.M hb (by decide) u,h.lx,h.ly,h.hx,h.hy⟩
theorem TM.made {w:World}{rb ob cx cy n:Nat}{deep size:Int}{s:Nat}{xs:List Nat}{ys:List Int}{smv mkv:Value}{W:World}(h:TM w rb ob cx cy deep size n n xs ys smv mkv W)(hn:n=s*s)(u0 u1 u2 u3 u4:Value) :
 Made w.heap.size ((s:Int).toNat *(s:Int).toNat) xs ys smv mkv (((((W.setCell ⟨rb,0,none⟩ u0).setCell ⟨rb,1,none⟩ u1).setCell ⟨rb,2,none⟩ u2).setCell ⟨rb,3,none⟩ u3).setCell ⟨rb,4,none⟩ u4):=by
 have lx:xs.length=n:=by have:=h.S.1;simpa using this
 have ly:ys.length=n:=by have:=h.M.1;simpa using this
 have m0:Made w.heap.size n xs ys smv mkv W:=⟨h.S,h.M,lx,ly,h.hx,h.hy⟩;have b0:=h.R;have b1:=b0.set h.hr 0 u0;have b2:=b1.set h.hr 1 u1;have b3:=b2.set h.hr 2 u2;have b4:=b3.set h.hr 3 u3;rw[Aqk,<-hn]
 exact((((m0.set b0.blk 0 u0).set b1.blk 1 u1).set b2.blk 2 u2).set b3.blk 3 u3).set b4.blk 4 u4
theorem Made.step {B n:Nat}{xs:List Nat}{ys:List Int}{smv mkv:Value}{W W':World}(h:Made B n xs ys smv mkv W)(k:Below W.heap.size W W'):Made B n xs ys smv mkv W' :=
 ⟨Ab h.S k,Ab h.M k,h.lx,h.ly,h.hx,h.hy⟩
theorem Made.mono {B B' n:Nat}{xs:List Nat}{ys:List Int}{smv mkv:Value}{W:World}(h:Made B n xs ys smv mkv W)(hB:B'<=B):Made B' n xs ys smv mkv W:=by
 obtain⟨⟨s1,s2⟩,⟨m1,m2⟩,r1,r2,r3,r4⟩:=h
 refine⟨⟨s1,?_⟩,⟨m1,?_⟩,r1,r2,r3,r4⟩
 ·rcases s2 with h |⟨g,cap,cur,h1,h2,r⟩
  ·exact .inl h
  ·exact .inr ⟨g,cap,cur,h1,Ap3 hB h2,r⟩
 ·rcases m2 with h |⟨g,cap,cur,h1,h2,r⟩
  ·exact .inl h
  ·exact .inr ⟨g,cap,cur,h1,Ap3 hB h2,r⟩
theorem Ly {w W:World}(h:Below w.heap.size w W){b:Nat}(hb:w.heap.size<=b)(u0 u1 u2 u3 u4:Value) :
 Below w.heap.size w (((((W.setCell ⟨b,0,none⟩ u0).setCell ⟨b,1,none⟩ u1).setCell ⟨b,2,none⟩ u2).setCell ⟨b,3,none⟩ u3).setCell ⟨b,4,none⟩ u4) :=
 ((((h.setCell (p:=⟨b,0,none⟩) hb _).setCell (p:=⟨b,1,none⟩) hb _).setCell (p:=⟨b,2,none⟩) hb _).setCell (p:=⟨b,3,none⟩) hb _).setCell (p:=⟨b,4,none⟩) hb _
end
section
open Go.RowKit
attribute [local go_sem ↓] Go.wp_at_zero Go.wp_at_succ
theorem Tq (cx cy d:Nat)(i j:Int)(hd:d<=11){p q x y:Nat}(h1:floatBits .mul .f32 (floatOfInt .f32 j) (Flo.De d)=some p)(h2:floatBits .mul .f32 (floatOfInt .f32 i) (Flo.De d)=some q)
 (h3:floatBits .add .f32 cx p=some x) (h4:floatBits .add .f32 cy q=some y) (w:World) :
 Calls Vp.prog 48 #[.complex .f32 cx cy,.int .i64 d,.int .i64 i,.int .i64 j] w fun e w'=>e=.returned (.complex .f32 x y)/\w=w':=by
 have g1:=fun w=>Aqa (P:=Vp.prog) w .mul 74 .f32 _ _ _ h1
 have g2:=fun w=>Aqa (P:=Vp.prog) w .mul 74 .f32 _ _ _ h2
 have g3:=fun w=>At3 (P:=Vp.prog) w .add (.inl rfl) 23 .f32 cx cy p q x y (by unfold cSumBits;rw[h3,h4];rfl)
 have HS:=Aoy (fun w=>Xi d hd w)
 clear h1 h2 h3 h4;generalize Flo.De d=r at *
 go_enter Vp.func48,Tryz.ntmps48
 go_wp2_with (go_at_call 74;refine(HS.out _).mono ?_;rintro e w' ⟨rfl,rfl⟩)
 go_ret
 exact⟨rfl,rfl⟩
theorem U4 (cx cy d:Nat)(i j:Int)(hd:d<=11){p q x y:Nat}(h1:floatBits .mul .f32 (floatOfInt .f32 j) (Flo.De d)=some p)(h2:floatBits .mul .f32 (floatOfInt .f32 i) (Flo.De d)=some q)
 (h3:floatBits .add .f32 cx p=some x) (h4:floatBits .add .f32 cy q=some y) (w:World) :
 Calls Vp.prog 32 #[.complex .f32 cx cy,.int .i64 d,.int .i64 i,.int .i64 j] w fun e w'=>e=.returned (.complex .f32 x y)/\w=w':=by
 have g1:=fun w=>Aqa (P:=Vp.prog) w .mul 74 .f32 _ _ _ h1
 have g2:=fun w=>Aqa (P:=Vp.prog) w .mul 74 .f32 _ _ _ h2
 have g3:=fun w=>At3 (P:=Vp.prog) w .add (.inl rfl) 23 .f32 cx cy p q x y (by unfold cSumBits;rw[h3,h4];rfl)
 have HS:=Aoy (fun w=>Y3 d hd w)
 clear h1 h2 h3 h4;generalize Flo.De d=r at *
 go_enter Vp.func32,Tryz.ntmps32
 go_wp2_with (go_at_call 56;refine(HS.out _).mono ?_;rintro e w' ⟨rfl,rfl⟩)
 go_ret
 exact⟨rfl,rfl⟩
theorem Iy (x d:Nat)(n N:Int)(hd:d<=11)(hx:Flo.Pt x d n)(hn:n.natAbs<=65536)(hN:N=n *(2^(24-d):Nat))(h1:-134217728<=N)(h2:N<=134217728)(w:World) :
 Calls Vp.prog 92 #[.float .f32 x] w fun e w'=>e=.returned (.tuple #[.int .i64 N,.int .i64 N,.bool true])/\w=w':=by
 obtain⟨y1,y,e1,e2,hv,e3⟩:=Flo.Pd hd hx hn;rw[<-hN]at hv e3;obtain⟨b1,b2,b3,b4⟩:=Flo.R6 (by omega) hv
 rw[Apj h1]at b1;rw[Apj h2]at b2;have g1:=fun w=>Ar2 (P:=Vp.prog) w 74 129 .f32 .f64 _ _ (by kernel_rfl) (Vp.Dw Tryz.underlying129) e1
 have g2:=fun w=>Aqa (P:=Vp.prog) w .mul 129 .f64 _ _ _ e2
 have g3:=fun w=>Atx (P:=Vp.prog) w 129 3 .f64 .i64 _ _ (by kernel_rfl) (Vp.Dw Tryz.underlying3) e3
 clear e1 e2 e3 hv hx hn hN h1 h2 hd
 go_enter Vp.func92,Tryz.ntmps92
 go_wp2
 go_ret3
 exact⟨rfl,rfl⟩
theorem A59 (a b c d:Int)(hv:Bl a b c d=true)(w:World):Calls Vp.prog 93 #[.agg #[.int .i64 a,.int .i64 b,.int .i64 c,.int .i64 d]] w fun e w'=>e=.returned (.tuple #[.agg #[.int .i64 a,.int .i64 b,.int .i64 c,.int .i64 d],.bool true])/\Below w.heap.size w w':=by
 have X0:A9 w w.heap.size #[.int .i64 a,.int .i64 b,.int .i64 c,.int .i64 d] 93 ((w.alloc (.cells #[.int .i64 a,.int .i64 b,.int .i64 c,.int .i64 d] 93)).alloc (.cells #[.int .i64 0,.int .i64 0,.int .i64 0,.int .i64 0] 93)):=(A9.new w _ _).alloc _
 have X1:A9 w (w.heap.size+1) #[.int .i64 0,.int .i64 0,.int .i64 0,.int .i64 0] 93 ((w.alloc (.cells #[.int .i64 a,.int .i64 b,.int .i64 c,.int .i64 d] 93)).alloc (.cells #[.int .i64 0,.int .i64 0,.int .i64 0,.int .i64 0] 93)):=by
  have:=(A9.new (w.alloc (.cells #[.int .i64 a,.int .i64 b,.int .i64 c,.int .i64 d] 93)) #[.int .i64 0,.int .i64 0,.int .i64 0,.int .i64 0] 93).up (w0:=w) ((Aph _ _).alloc (Ap0 _) _)
  rwa [Apl]at this
 have HF:Hid (∀W,Below w.heap.size w W->∀u0 u1 u2 u3,Below w.heap.size w ((((W.setCell ⟨w.heap.size+1,0,none⟩ u0).setCell ⟨w.heap.size+1,1,none⟩ u1).setCell ⟨w.heap.size+1,2,none⟩ u2).setCell ⟨w.heap.size+1,3,none⟩ u3)):=fun W h u0 u1 u2 u3 =>
  (((h.setCell (p:=⟨w.heap.size+1,0,none⟩) (by simp) _).setCell (p:=⟨w.heap.size+1,1,none⟩) (by simp) _).setCell (p:=⟨w.heap.size+1,2,none⟩) (by simp) _).setCell (p:=⟨w.heap.size+1,3,none⟩) (by simp) _
 go_enter Vp.func93,Tryz.ntmps93
 go_wp2_with fail
 refine(Cf a b c d _).mono ?_
 rw[hv];rintro e w1 ⟨rfl,hb⟩;replace X0:=X0.step hb;replace X1:=X1.step hb;clear hb;have x0:=X0.cell 0 _ rfl;have x1:=X0.cell 1 _ rfl;have x2:=X0.cell 2 _ rfl;have x3:=X0.cell 3 _ rfl;have c0:=X1.cell 0 _ rfl;have c1:=X1.cell 1 _ rfl;have c2:=X1.cell 2 _ rfl;have c3:=X1.cell 3 _ rfl;have f0:=X1.frozen 0;have f1:=X1.frozen 1;have f2:=X1.frozen 2;have f3:=X1.frozen 3;have HB:=Aoy X1.old;clear X0 X1
 go_wp2
 exact Ap4 (v:=.tuple #[.agg #[.int .i64 a,.int .i64 b,.int .i64 c,.int .i64 d],.bool true]) (by simp[results,Tryz.f93,go_sem,c0,c1,c2,c3]) rfl ⟨rfl,HF.out _ HB.out _ _ _ _⟩
theorem A8k (x y d:Nat)(a b A B:Int)(hd:d<=11)(hx:Flo.Pt x d a)(hy:Flo.Pt y d b)(ha:a.natAbs<=65536)(hb:b.natAbs<=65536)(hA:A=a *(2^(24-d):Nat))(hB:B=b *(2^(24-d):Nat))
 (h1:-134217728<=A) (h2:A<=134217728) (h3:-134217728<=B) (h4:B<=134217728) (w:World) :
 Calls Vp.prog 67 #[.complex .f32 x y] w fun e w'=>e=.returned (.tuple #[.agg #[.int .i64 A,.int .i64 A,.int .i64 B,.int .i64 B],.bool true])/\Below w.heap.size w w':=by
 have X:=A9.new w #[.int .i64 0,.int .i64 0,.int .i64 0,.int .i64 0] 93
 have HF:Hid (∀W,Below w.heap.size w W->∀u0 u1 u2 u3,Below w.heap.size w ((((W.setCell ⟨w.heap.size,0,none⟩ u0).setCell ⟨w.heap.size,1,none⟩ u1).setCell ⟨w.heap.size,2,none⟩ u2).setCell ⟨w.heap.size,3,none⟩ u3)):=fun W h u0 u1 u2 u3 =>
  (((h.setCell (p:=⟨w.heap.size,0,none⟩) (Ap0 _) _).setCell (p:=⟨w.heap.size,1,none⟩) (Ap0 _) _).setCell (p:=⟨w.heap.size,2,none⟩) (Ap0 _) _).setCell (p:=⟨w.heap.size,3,none⟩) (Ap0 _) _
 have HX:=Aoy (fun w=>Iy x d a A hd hx ha hA h1 h2 w)
 have HY:=Aoy (fun w=>Iy y d b B hd hy hb hB h3 h4 w)
 have HV:Hid (Bl A A B B=true):=by
  show Bl A A B B=true
  unfold Bl Gt;simp only[Ap7,Apm]
  omega
 clear hx hy hA hB ha hb
 go_enter Vp.func67,Tryz.ntmps67
 go_wp2_with fail
 refine(HX.out _).mono ?_
 rintro e w1 ⟨rfl,rfl⟩
 go_wp2_with fail
 refine(HY.out _).mono ?_
 rintro e w1 ⟨rfl,rfl⟩
 go_wp2_with fail
 refine(A59 A A B B HV.out _).mono ?_
 rintro e w3 ⟨rfl,hb⟩;replace X:=X.step hb;clear hb;have c0:=X.cell 0 _ rfl;have c1:=X.cell 1 _ rfl;have c2:=X.cell 2 _ rfl;have c3:=X.cell 3 _ rfl;have f0:=X.frozen 0;have f1:=X.frozen 1;have f2:=X.frozen 2;have f3:=X.frozen 3;have HB:=Aoy X.old;clear X
 go_wp2
 exact Ap4 (v:=.tuple #[.agg #[.int .i64 A,.int .i64 A,.int .i64 B,.int .i64 B],.bool true]) (by simp[results,Tryz.f67,go_sem,c0,c1,c2,c3]) rfl ⟨rfl,HF.out _ HB.out _ _ _ _⟩
theorem Nw (d:Nat)(hd:d<=11):(16777216:Int) / 2^d=(2^(24-d):Nat):=by
 rcases(by omega:d=0\/d=1\/d=2\/d=3\/d=4\/d=5\/d=6\/d=7\/d=8\/d=9\/d=10\/d=11)with rfl|rfl|rfl|rfl|rfl|rfl|rfl|rfl|rfl|rfl|rfl|rfl<;>rfl
end
section
open Go.RowKit
def Ajg (x y z u:Int):Value:=.agg #[.int .i64 x,.int .i64 y,.int .i64 z,.int .i64 u]
end
end Go.Proofs.YtlfleicchbgcmaaGreat
section
namespace Go.Proofs.YtlfleicchbgcmaaGreat
namespace Flo
open Ieee
theorem neg_neg (k:FloatKind)(x:Nat):Op.negFloat k (Op.negFloat k x)=x:=by
 unfold Op.negFloat;rw[Nat.xor_assoc,Nat.xor_self,Nat.xor_zero]
end Flo
end Go.Proofs.YtlfleicchbgcmaaGreat
end
namespace Go.Proofs.YtlfleicchbgcmaaGreat
section
open Go.RowKit
theorem A1i (neg:Bool)(t drop:Nat):Ieee.Toward.down.cut neg (t*2^drop) drop=t:=by
 unfold Ieee.Toward.cut;simp only[]
 by_cases hd:drop <=(t*2^drop).log2+2
 ·rw[As0 hd,Atj,Nat.mul_div_cancel _ (Ap9 _),Nat.mul_mod_left];simp
 ·have h0:t=0:=by
   rcases Aqq t with h|h
   ·exact h
   ·exfalso
    have hlt:t*2^drop<2^((t*2^drop).log2+1):=At8;have h2:2^((t*2^drop).log2+1)<=2^drop:=Api (by omega) (by omega)
    have h3:=Ap2 (2^drop) h
    omega
  subst h0;simp
theorem A8w {z:Nat}{A:Int}(hz:Flo.D6 Ieee.double z (A *(2^Flo.u64:Nat))) :
 ∃s m e,FloatKind.f64.decode z=.number s m e/\Flo.D6 Ieee.double (FloatKind.f64.encode ((Ieee.Datum.number s m e).integral .down)) (A *(2^Flo.u64:Nat)):=by
 refine⟨_,_,_,Flo.Az hz.fin,?_⟩
 have hd:=Flo.Cy hz;rw[Apt,Apf]at hd
 have hm:Ieee.Toward.down.cut (Flo.Il Ieee.double z) (Flo.rm Ieee.double (Flo.Af Ieee.double z) <<<(Ieee.double.leastPlace+Flo.re Ieee.double (Flo.Af Ieee.double z)).toNat) (-(Ieee.double.leastPlace +(Flo.re Ieee.double (Flo.Af Ieee.double z):Int))).toNat=A.natAbs:=by
  rw[Flo.Cp];generalize Flo.re Ieee.double (Flo.Af Ieee.double z)=e at *;generalize Flo.rm Ieee.double (Flo.Af Ieee.double z)=m at *;generalize Flo.Il Ieee.double z=s at *
  rcases Nat.le_total Flo.u64 e with h|h
  ·obtain⟨r,rfl⟩:∃r,e=r+Flo.u64:=⟨e-Flo.u64,by omega⟩
   have e1:(-(Flo.u64:Int) +((r+Flo.u64:Nat):Int)).toNat=r:=by omega
   have e2:(-(-(Flo.u64:Int) +((r+Flo.u64:Nat):Int))).toNat=0:=by omega
   rw[e1,e2];rw[Apk,<-Apo]at hd;have hA:=Au4 (Ap9 Flo.u64) hd;have:=A1i s A.natAbs 0;rw[Atd,Ata]at this;rw[Asj,<-hA];exact this
  ·obtain⟨r,hr⟩:∃r,Flo.u64=r+e:=⟨Flo.u64-e,by omega⟩
   have e1:(-(Flo.u64:Int) +(e:Int)).toNat=0:=by omega
   have e2:(-(-(Flo.u64:Int) +(e:Int))).toNat=r:=by omega
   rw[e1,e2];rw[hr,Apk,<-Apo]at hd;have hA:=Au4 (Ap9 e) hd;rw[Nat.shiftLeft_zero,<-hA]
   exact A1i s A.natAbs r
 show Flo.D6 Ieee.double (Ieee.double.nearest (Flo.Il Ieee.double z) (Ieee.Toward.down.cut (Flo.Il Ieee.double z) (Flo.rm Ieee.double (Flo.Af Ieee.double z) <<<(Ieee.double.leastPlace+Flo.re Ieee.double (Flo.Af Ieee.double z)).toNat) (-(Ieee.double.leastPlace +(Flo.re Ieee.double (Flo.Af Ieee.double z):Int))).toNat) 0) _
 rw[hm];have hiv:=hz.iv;unfold Flo.iv at hiv
 refine Flo.Fq (a:=Flo.u64) (b:=0) hz.rep (by rw[Flo.Cp];omega) (by rw[Apt,Apf,Atd,Ata]) (fun hneg=>?_) (fun hpos=>?_)
 ·cases hs:Flo.Il Ieee.double z
  ·rw[hs]at hiv;simp only[Aqb,At6]at hiv
   omega
  ·rfl
 ·cases hs:Flo.Il Ieee.double z
  ·rfl
  ·rw[hs]at hiv;simp only[Ats]at hiv
   omega
theorem M5 (z:Nat)(s:Bool)(m:Nat)(e:Int)(hd:FloatKind.f64.decode z=.number s m e):Go.Extern.MathFloor.toIntegral "math.archFloor" .down #[.float .f64 z]=pure (.float .f64 (FloatKind.f64.encode ((Ieee.Datum.number s m e).integral .down))):=by
 show(match FloatKind.f64.decode z with|.nan s t=>_|d=>pure (Value.float .f64 (FloatKind.f64.encode (d.integral .down))))=_
 rw[hd]
theorem Na (z:Nat)(w:World):(callFunc 101 #[.float .f64 z]).run Vp.prog w=(do let v <-Go.Extern.MathFloor.toIntegral "math.archFloor" .down #[.float .f64 z];pure (Next.value v)).run Vp.prog w:=by
 kernel_rfl
theorem Oq (z:Nat)(A:Int)(hz:Flo.D6 Ieee.double z (A *(2^Flo.u64:Nat)))(w:World):Calls Vp.prog 76 #[.float .f64 z] w fun e w'=>(∃y,e=.returned (.float .f64 y)/\Flo.D6 Ieee.double y (A *(2^Flo.u64:Nat)))/\w=w':=by
 obtain⟨s,m,e,hd,hv⟩:=A8w hz
 have hr:∀w,(callFunc 101 #[.float .f64 z]).run Vp.prog w=.ok (.value (.float .f64 (FloatKind.f64.encode ((Ieee.Datum.number s m e).integral .down)))) w:=fun w=>by
  rw[Na,M5 z s m e hd]
  rfl
 have HV:=Aoy hv;generalize FloatKind.f64.encode ((Ieee.Datum.number s m e).integral .down)=y at *;clear hz hv hd
 go_enter Vp.func76,Tryz.ntmps76
 go_wp2
 go_ret
 exact⟨⟨y,rfl,HV.out⟩,rfl⟩
theorem Nc (x d:Nat)(hx:x<4294967296)(hd:d<=11)(h:Flo.Bi x d=true)(w:World):Calls Vp.prog 55 #[.float .f32 x,.int .i64 d] w fun e w'=>e=.returned (.bool true)/\w=w':=by
 obtain⟨A,hA,hb⟩:=Flo.Jv hx hd h;have hdp:2^d<=2^11:=Api (by omega) hd
 obtain⟨y1,h1,v1⟩:=Flo.Dv hA;have hD:Flo.D6 Ieee.double (floatOfInt .f64 ((2^d:Nat):Int)) (((2^d:Nat):Int) *(2^Flo.u64:Nat)):=Flo.Dr (k:=.f64) Flo.Cp _ (by rw[Apf];show _<2*Ieee.double.binade;rw[Flo.An];omega) (by show(Flo.u64+2)*Ieee.double.binade<=Ieee.double.infRung;rw[Flo.Bp,Flo.Fo];exact Ap2 _ (by omega))
 have hrep:Flo.Pm Ieee.double (A *(2^Flo.u64:Nat)):=by
  refine Flo.Hs (m:=A.natAbs) (e:=Flo.u64) (by rw[Apt,Apf]) (by rw[Flo.An];omega) ?_
  rw[Flo.Bp,Flo.Fo]
  exact Ap2 _ (by omega)
 have hc:A *(2^(Flo.u32-d):Nat) *(2^Flo.Hc:Nat) *(((2^d:Nat):Int) *(2^Flo.u64:Nat))=A *(2^Flo.u64:Nat) *(2^Flo.u64:Nat):=by
  have e:(2^(Flo.u32-d)*2^Flo.Hc*2^d:Nat)=2^Flo.u64:=by
   rw[<-Apk,<-Apk]
   congr 1
   rw[Flo.Ga,Flo.O1,Flo.Fo];omega
  have e2:((2^(Flo.u32-d):Nat):Int) *(2^Flo.Hc:Nat) *(2^d:Nat)=(2^Flo.u64:Nat):=by
   have:=congrArg (fun x:Nat=>(x:Int)) e
   simp only[Apx]at this
   exact this
  generalize ((2^(Flo.u32-d):Nat):Int)=P at *;generalize ((2^Flo.Hc:Nat):Int)=Q at *;generalize ((2^Flo.u64:Nat):Int)=R at *;generalize ((2^d:Nat):Int)=S at *
  calc A*P*Q *(S*R)=A *(P*Q*S)*R:=by simp only[Aqf]
   _=A*R*R:=by rw[e2]
 obtain⟨y,hy,v2⟩:=Flo.Hq (f:=Ieee.double) (c:=A *(2^Flo.u64:Nat)) Flo.Cp v1 hD hc hrep;have hF:=Aoy (Oq y A v2);have hee:Hid (∀t,Flo.D6 Ieee.double t (A *(2^Flo.u64:Nat)) ->(FloatKind.f64.format.order y t == some .eq)=true):=fun t ht=>by rw[Flo.Cq (k:=.f64) v2 ht];simp
 obtain⟨q,hq⟩:∃q:Int,wrap64 (2^d)=q:=⟨_,rfl⟩;have hqd:((2^d:Nat):Int)=q:=by rw[<-hq,M7 d hd]
 rw[hqd]at hy;have g1:=fun w=>Ar2 (P:=Vp.prog) w 74 129 .f32 .f64 _ _ (by kernel_rfl) (Vp.Dw Tryz.underlying129) h1
 have g2:=fun w=>Aqa (P:=Vp.prog) w .mul 129 .f64 _ _ _ hy
 have hw:=Flo.Ih hx (by unfold Flo.Bi at h;rw[Ap7]at h;exact h.1)
 have t1:(FloatKind.f32.format.order 3229614080 x == some .lt || FloatKind.f32.format.order 3229614080 x == some .eq)=true:=by
  rw[Flo.G0 (k:=.f32) Flo.Ei hw.1,Flo.Cq (k:=.f32) Flo.Ei hw.1];have:=hw.2;simp only[Ase,Apm];generalize 2^Flo.u32=U at *
  omega
 have t2:(FloatKind.f32.format.order x 1082130432 == some .lt || FloatKind.f32.format.order x 1082130432 == some .eq)=true:=by
  unfold Flo.Bi Flo.E8 at h;rw[Ap7,Ap7]at h
  exact h.1.2
 clear h hA hb hdp h1 v1 hD hrep hc hy v2 hqd hw hx
 go_enter Vp.func55,Tryz.ntmps55
 go_wp2_with (go_at_call 76;refine(hF.out _).mono ?_;rintro e w' ⟨⟨t,rfl,ht⟩,rfl⟩;have hte:=hee.out t ht;clear ht)
 go_ret
 exact⟨rfl,rfl⟩
theorem Zz (cx cy:Nat)(deep size:Int)(hx:cx<4294967296)(hy:cy<4294967296)(h:Bh cx cy deep size=true)(w:World):Calls Vp.prog 31 #[.complex .f32 cx cy,.int .i64 deep,.int .i64 size] w fun e w'=>e=.returned (.bool true)/\w=w':=by
 obtain⟨h1,h2,h3,h4⟩:=Bs h;obtain⟨d,rfl⟩:=Aqg h1;unfold Bh at h;rw[Ap7,Ap7,Aqk]at h;have hX:=Aoy (Nc cx d hx (by omega) h.1.2)
 have hY:=Aoy (Nc cy d hy (by omega) h.2)
 clear h;have a1:decide ((d:Int)<0)=false:=by simp
 have a2:decide (10 <(d:Int))=false:=by simpa using h2
 have a3:decide (size<1)=false:=by simpa using h3
 have a4:decide (8<size)=false:=by simpa using h4
 go_enter Vp.func31,Tryz.ntmps31
 go_wp2_with (first |(go_at_call 55;(with_reducible refine(hX.out _).mono ?_);rintro e w' ⟨rfl,rfl⟩) |(go_at_call 55;(with_reducible refine(hY.out _).mono ?_);rintro e w' ⟨rfl,rfl⟩))
 go_ret
 exact⟨rfl,rfl⟩
end
end Go.Proofs.YtlfleicchbgcmaaGreat
