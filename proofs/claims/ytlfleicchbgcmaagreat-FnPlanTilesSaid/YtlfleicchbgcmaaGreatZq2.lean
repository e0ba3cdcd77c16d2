import Derived.Test.YtlfleicchbgcmaaGreatZq1
import Derived.Deep.RegionWith
import Derived.Laws.OwnMore
import Derived.OwnWalk
import Derived.Deep.AppendLies
import Derived.Deep.DrawnRows
import Derived.Outline
import Derived.Test.YtlfleicchbgcmaaGreatZq0
import Derived.Test.YtlfleicchbgcmaaGreatZqK
set_option linter.all false
set_option maxHeartbeats 16000000
set_option maxRecDepth 100000
namespace Go.Proofs.YtlfleicchbgcmaaGreat
section
open Go.RowKit
theorem A15 (w0:World)(b p:Nat)(hp:p<=1099511627000)(W:World)(h:Rd w0 b p W) :
 Calls Vp.prog 75 #[.pointer (some ⟨b,0,none⟩)] W fun e w'=>(∃x,e=.returned (.float .f64 x)/\x<18446744073709551616) /\(∃p',p'<=p+3/\Rd w0 b p' w')/\By b W w':=by
 go_enter Vp.func75,Tryz.ntmps75
 go_wp2_with fail
 refine(Dg w0 b p 24 (by omega) (by omega) _ h).mono ?_
 rintro e w1 ⟨⟨r,rfl,r0,r1⟩,hR,hO⟩;have HR:=Ai1 hR;have HO:=Ai1 hO
 have HF:Hid (∀x w',x<18446744073709551616->Aq w1 w' ->(∃y,Ending.returned (.float .f64 x)=.returned (.float .f64 y)/\y<18446744073709551616) /\(∃p',p'<=p+3/\Rd w0 b p' w')/\By b W w') :=
  fun x w' hx hd=>⟨⟨x,rfl,hx⟩,⟨p+1,by omega,hR.Vd hd⟩,hO.trans (By.Aw (hd.below _))⟩
 clear hR hO h
 by_cases h0:r=0
 ·subst h0;go_wp2;go_ret;exact HF.out _ _ (by omega) (Aq.refl _)
 by_cases h1:r=1
 ·subst h1;obtain⟨z,w2,hz,hz2,hd⟩:=Flo.Cm (P:=Vp.prog) .mul (by simp) 129 .f64 (Op.negFloat .f64 0) 4607182418800017408 w1
  have hn:=fun w=>Flo.Acs (P:=Vp.prog) .f64 0 w
  generalize Op.negFloat .f64 0=q at *
  go_wp2;go_ret;exact HF.out _ _ hz2 hd
 by_cases h2:r=2
 ·subst h2;obtain⟨z,w2,hz,hz2,hd⟩:=Flo.Cm (P:=Vp.prog) .quo (by simp) 129 .f64 4607182418800017408 0 w1
  go_wp2;go_ret;exact HF.out _ _ hz2 hd
 by_cases h3:r=3
 ·subst h3;obtain⟨z,w2,hz,hz2,hd⟩:=Flo.Cm (P:=Vp.prog) .quo (by simp) 129 .f64 0 0 w1
  go_wp2;go_ret;exact HF.out _ _ hz2 hd
 by_cases h4:r=4
 ·subst h4;obtain⟨z,w2,hz,hz2,hd⟩:=Flo.Cm (P:=Vp.prog) .quo (by simp) 129 .f64 13830554455654793216 0 w1
  go_wp2;go_ret;exact HF.out _ _ hz2 hd
 by_cases h5:r=5
 ·subst h5;go_wp2;go_ret;exact HF.out _ _ (by omega) (Aq.refl _)
 by_cases h6:r=6
 ·subst h6;go_wp2;go_ret;exact HF.out _ _ (by omega) (Aq.refl _)
 by_cases h7:r=7
 ·subst h7;go_wp2;go_ret;exact HF.out _ _ (by omega) (Aq.refl _)
 by_cases h8:r=8
 ·subst h8;go_wp2;go_ret;exact HF.out _ _ (by omega) (Aq.refl _)
 by_cases h9:r=9
 ·subst h9;go_wp2;go_ret;exact HF.out _ _ (by omega) (Aq.refl _)
 have g0:(r == 0)=false:=by simpa using h0
 have g1:(r == 1)=false:=by simpa using h1
 have g2:(r == 2)=false:=by simpa using h2
 have g3:(r == 3)=false:=by simpa using h3
 have g4:(r == 4)=false:=by simpa using h4
 have g5:(r == 5)=false:=by simpa using h5
 have g6:(r == 6)=false:=by simpa using h6
 have g7:(r == 7)=false:=by simpa using h7
 have g8:(r == 8)=false:=by simpa using h8
 have g9:(r == 9)=false:=by simpa using h9
 clear HF
 go_wp2_with fail
 refine(Dg w0 b (p+1) 65 (by omega) (by omega) _ HR.out).mono ?_
 rintro e w2 ⟨⟨x,rfl,x0,x1⟩,hR2,hO2⟩;have HR2:=Ai1 hR2;have HO2:=Ai1 (HO.out.trans hO2);clear hR2 hO2 HR HO
 go_wp2_with fail
 refine(Dg w0 b (p+1+1) 7 (by omega) (by omega) _ HR2.out).mono ?_
 rintro e w3 ⟨⟨y,rfl,y0,y1⟩,hR3,hO3⟩;have HR3:=Ai1 hR3;have HO3:=Ai1 (HO2.out.trans hO3);clear hR3 hO3 HR2 HO2
 have HF:Hid (∀x w',x<18446744073709551616->Aq w3 w' ->(∃y,Ending.returned (.float .f64 x)=.returned (.float .f64 y)/\y<18446744073709551616) /\(∃p',p'<=p+3/\Rd w0 b p' w')/\By b W w') :=
  fun x w' hx hd=>⟨⟨x,rfl,hx⟩,⟨p+1+1+1,by omega,HR3.out.Vd hd⟩,HO3.out.trans (By.Aw (hd.below _))⟩
 clear HR3 HO3;have key:=fun q=>Flo.Cm (P:=Vp.prog) .quo (by simp) 129 .f64 (floatOfInt .f64 (x-32)) (floatOfInt .f64 q) w3
 rcases(by omega:y=0\/y=1\/y=2\/y=3\/y=4\/y=5\/y=6)with rfl|rfl|rfl|rfl|rfl|rfl|rfl
 ·obtain⟨z,w4,hz,hz2,hd⟩:=key 1;clear key;go_wp2;go_ret;exact HF.out _ _ hz2 hd
 ·obtain⟨z,w4,hz,hz2,hd⟩:=key 2;clear key;go_wp2;go_ret;exact HF.out _ _ hz2 hd
 ·obtain⟨z,w4,hz,hz2,hd⟩:=key 4;clear key;go_wp2;go_ret;exact HF.out _ _ hz2 hd
 ·obtain⟨z,w4,hz,hz2,hd⟩:=key 8;clear key;go_wp2;go_ret;exact HF.out _ _ hz2 hd
 ·obtain⟨z,w4,hz,hz2,hd⟩:=key 16;clear key;go_wp2;go_ret;exact HF.out _ _ hz2 hd
 ·obtain⟨z,w4,hz,hz2,hd⟩:=key 32;clear key;go_wp2;go_ret;exact HF.out _ _ hz2 hd
 ·obtain⟨z,w4,hz,hz2,hd⟩:=key 64;clear key;go_wp2;go_ret;exact HF.out _ _ hz2 hd
end
namespace Flo
open Go.RowKit
theorem Zv {P:Program}(s k:FloatKind)(x:Nat)(hx:x<2^s.format.width)(w:World) :
 ∃z w',(Conv.floatToFloat s x k).run P w=.ok (.float k z) w'/\z<2^k.format.width/\Aq w w':=by
 by_cases hsk:s=k
 ·subst hsk
  exact⟨x,w,by simp[Conv.floatToFloat],hx,Aq.refl w⟩
 ·cases hd:s.decode x with
  | nan sg f =>
    refine⟨(Question.nanConv k x).cut (w.tape w.drawn (Question.nanConv k x)),w.drew,?_,?_,(Aq.refl w).drew⟩
    ·simp[Conv.floatToFloat,hsk,hd];intro hf;simp[Question.forced]at hf
    ·cases k
     ·exact Rp _ _
     ·show(_ % 2)*2^63+0x7ff0000000000000+1 +(_ / 2) % (2^52-1)<2^64
      omega
  | infinity sg =>
    exact⟨k.encode (.infinity sg),w,by simp[Conv.floatToFloat,hsk,hd],Ieee.Format.write_lt _ _,Aq.refl w⟩
  | number sg m e =>
    by_cases hi:(k.decode (k.encode (.number sg m e))).isInfinity=true
    ·refine⟨(Question.floatToFloat x).cut (w.tape w.drawn (Question.floatToFloat x)),w.drew,?_,?_,(Aq.refl w).drew⟩
     ·simp[Conv.floatToFloat,hsk,hd,hi];intro hf;simp[Question.forced]at hf
     ·cases k
      ·exact Akz _ (by decide)
      ·exact Nat.lt_trans (Akz _ (by decide)) (by decide:2^32<2^64)
    ·exact⟨k.encode (.number sg m e),w,by simp[Conv.floatToFloat,hsk,hd,hi],Ieee.Format.write_lt _ _,Aq.refl w⟩
theorem Xl {P:Program}(src dst:TypeId)(s k:FloatKind)(hs:(P.underlying src).isSome=true)(hd:P.underlying dst=some (.complex k))(x y:Nat)(hx:x<2^s.format.width)(hy:y<2^s.format.width)(w:World) :
 ∃re im w',(convert src dst (.complex s x y)).run P w=.ok (.complex k re im) w'/\re<2^k.format.width/\im<2^k.format.width/\Aq w w':=by
 obtain⟨u,hs'⟩:=Als.1 hs;obtain⟨z,w1,h1,hz,d1⟩:=Zv (P:=P) s k x hx w;obtain⟨z2,w2,h2,hz2,d2⟩:=Zv (P:=P) s k y hy w1
 refine⟨z,z2,w2,?_,hz,hz2,d1.trans d2⟩
 cases u<;>simp[convert,Ako hs',Ako hd,Conv.complexToComplex,h1,h2]
end Flo
section
open Go.RowKit
theorem Abc (w0:World)(b p:Nat)(hp:p<=1099511626000)(W:World)(h:Rd w0 b p W) :
 Calls Vp.prog 54 #[.pointer (some ⟨b,0,none⟩)] W fun e w'=>(∃x y,e=.returned (.complex .f64 x y)/\x<18446744073709551616/\y<18446744073709551616) /\(∃p',p'<=p+6/\Rd w0 b p' w')/\By b W w':=by
 go_enter Vp.func54,Tryz.ntmps54
 go_wp2_with fail
 refine(A15 w0 b p (by omega) _ h).mono ?_
 rintro e w1 ⟨⟨x,rfl,hx⟩,⟨p1,hp1,hR⟩,hO⟩;have HO:=Ai1 hO;clear hO h
 go_wp2_with fail
 refine(A15 w0 b p1 (by omega) _ hR).mono ?_
 rintro e w2 ⟨⟨y,rfl,hy⟩,⟨p2,hp2,hR2⟩,hO2⟩;have HR2:=Ai1 hR2;have HO2:=Ai1 (HO.out.trans hO2);clear hO2 hR hR2
 go_wp2
 go_ret
 exact⟨⟨x,y,rfl,hx,hy⟩,⟨p2,by omega,HR2.out⟩,HO2.out⟩
theorem A2t (w0:World)(b p d:Nat)(hd:d<=4)(hp:p<=1099511620000)(W:World)(h:Rd w0 b p W) :
 Calls Vp.prog 30 #[.pointer (some ⟨b,0,none⟩),.int .i64 d] W fun e w'=>(∃x y,e=.returned (.complex .f32 x y)/\x<4294967296/\y<4294967296) /\(∃p',p'<=p+10/\Rd w0 b p' w')/\By b W w':=by
 obtain⟨q,hq⟩:∃q:Int,wrap64 (2^d)=q:=⟨_,rfl⟩
 have hqb:1<=q/\q<=16:=by
  rcases(by omega:d=0\/d=1\/d=2\/d=3\/d=4)with rfl|rfl|rfl|rfl|rfl
  ·have:wrap64 (2^0)=1:=by kernel_rfl
   omega
  ·have:wrap64 (2^1)=2:=by kernel_rfl
   omega
  ·have:wrap64 (2^2)=4:=by kernel_rfl
   omega
  ·have:wrap64 (2^3)=8:=by kernel_rfl
   omega
  ·have:wrap64 (2^4)=16:=by kernel_rfl
   omega
 obtain⟨q1,q2⟩:=hqb;obtain⟨u,hu⟩:∃u,(5*q) % 251=u:=⟨_,rfl⟩;obtain⟨v,hv⟩:∃v,(3*q) % 251=v:=⟨_,rfl⟩;have u1:0<=u:=by omega
 have u2:u<=251:=by omega
 have v1:0<=v:=by omega
 have v2:v<=251:=by omega
 go_enter Vp.func30,Tryz.ntmps30
 go_wp2_with fail
 refine(Dg w0 b p (u+1) (by omega) (by omega) _ h).mono ?_
 rintro e w1 ⟨⟨r,rfl,r0,r1⟩,hR,hO⟩;obtain⟨x1,w1',h1,_,d1⟩:=Flo.Cm (P:=Vp.prog) .quo (by simp) 74 .f32 (floatOfInt .f32 r) (floatOfInt .f32 q) w1
 have HR:=Ai1 (hR.Vd d1);have HO:=Ai1 (hO.trans (By.Aw (d1.below _)));clear hR hO d1 h
 go_wp2_with fail
 refine(Dg w0 b (p+1) (v+1) (by omega) (by omega) _ HR.out).mono ?_
 rintro e w2 ⟨⟨r',rfl,r0',r1'⟩,hR,hO⟩;obtain⟨x2,w2',h2,_,d2⟩:=Flo.Cm (P:=Vp.prog) .quo (by simp) 74 .f32 (floatOfInt .f32 r') (floatOfInt .f32 q) w2
 have HR2:=Ai1 (hR.Vd d2);have HO2:=Ai1 (HO.out.trans (hO.trans (By.Aw (d2.below _))));clear hR hO d2 h1 HR HO
 go_wp2_with fail
 refine(Dg w0 b (p+1+1) 20 (by omega) (by omega) _ HR2.out).mono ?_
 rintro e w3 ⟨⟨r3,rfl,r30,r31⟩,hR,hO⟩;have HR3:=Ai1 hR;have HO3:=Ai1 (HO2.out.trans hO);clear hR hO h2 HR2 HO2 hq hu hv
 by_cases h3:r3=0
 ·subst h3
  go_wp2_with fail
  refine(Abc w0 b (p+1+1+1) (by omega) _ HR3.out).mono ?_
  rintro e w4 ⟨⟨x,y,rfl,hx,hy⟩,⟨p4,hp4,hR⟩,hO⟩;obtain⟨a,c,w5,h5,ha,hc,d5⟩:=Flo.Xl (P:=Vp.prog) 103 23 .f64 .f32 (by kernel_rfl) (Vp.Di Tryz.underlying23) x y hx hy w4
  have HR5:=Ai1 (hR.Vd d5);have HO5:=Ai1 (HO3.out.trans (hO.trans (By.Aw (d5.below _))));clear hR hO d5 hx hy HR3 HO3
  go_wp2
  go_ret
  exact⟨⟨a,c,rfl,ha,hc⟩,⟨p4,by omega,HR5.out⟩,HO5.out⟩
 ·have h3':(r3 == 0)=false:=by simpa using h3
  obtain⟨x3,w4,h4,hx3,d4⟩:=Flo.Cm (P:=Vp.prog) .sub (by simp) 74 .f32 x1 1073741824 w3
  obtain⟨x4,w5,h5,_,d5⟩:=Flo.Cm (P:=Vp.prog) .sub (by simp) 74 .f32 x2 1069547520 w4
  have HR5:=Ai1 (HR3.out.Vd (d4.trans d5));have HO5:=Ai1 (HO3.out.trans (By.Aw ((d4.trans d5).below _)));clear d4 d5 HR3 HO3
  go_wp2_with fail
  refine(Dg w0 b (p+1+1+1) 2 (by omega) (by omega) _ HR5.out).mono ?_
  rintro e w6 ⟨⟨r6,rfl,r60,r61⟩,hR,hO⟩;obtain⟨x5,w7,h7,_,d7⟩:=Flo.Cm (P:=Vp.prog) .mul (by simp) 74 .f32 1056964608 (floatOfInt .f32 r6) w6
  obtain⟨x6,w8,h8,hx6,d8⟩:=Flo.Cm (P:=Vp.prog) .add (by simp) 74 .f32 x4 x5 w7
  have HR8:=Ai1 (hR.Vd (d7.trans d8));have HO8:=Ai1 (HO5.out.trans (hO.trans (By.Aw ((d7.trans d8).below _))));clear hR hO d7 d8 HR5 HO5 h4 h5
  go_wp2
  go_ret
  exact⟨⟨x3,x6,rfl,hx3,hx6⟩,⟨p+1+1+1+1,by omega,HR8.out⟩,HO8.out⟩
theorem A75 (w0:World)(b p:Nat)(hp:p<=1099511610000)(W:World)(h:Rd w0 b p W) :
 Calls Vp.prog 13 #[.pointer (some ⟨b,0,none⟩)] W fun e w'=>(∃(x y:Nat) (d s m:Int),e=.returned (.tuple #[.complex .f32 x y,.int .i64 d,.int .i64 s,.int .i64 m])/\x<4294967296/\y<4294967296/\1<=m/\m<=31) /\(∃p',p'<=p+20/\Rd w0 b p' w')/\By b W w':=by
 go_enter Vp.func13,Tryz.ntmps13
 go_wp2_with fail
 refine(Dg w0 b p 5 (by omega) (by omega) _ h).mono ?_
 rintro e w1 ⟨⟨r,rfl,r0,r1⟩,hR,hO⟩;have HO:=Ai1 hO;obtain⟨d,rfl⟩:=Ajc r0;have hd:d<=4:=by omega
 clear h hO r0 r1
 go_wp2_with fail
 refine(A2t w0 b (p+1) d hd (by omega) _ hR).mono ?_
 rintro e w2 ⟨⟨x,y,rfl,hx,hy⟩,⟨p2,hp2,hR2⟩,hO⟩;have HO2:=Ai1 (HO.out.trans hO);clear hO HO hR
 go_wp2_with fail
 refine(Dg w0 b p2 4 (by omega) (by omega) _ hR2).mono ?_
 rintro e w3 ⟨⟨s,rfl,s0,s1⟩,hR3,hO⟩;have HO3:=Ai1 (HO2.out.trans hO);clear hO HO2 hR2
 go_wp2_with fail
 refine(Dg w0 b (p2+1) 24 (by omega) (by omega) _ hR3).mono ?_
 rintro e w4 ⟨⟨k,rfl,k0,k1⟩,hR4,hO⟩;have HO4:=Ai1 (HO3.out.trans hO);have HK:=Ai1 (Dg w0 b (p2+1+1) 30 (by omega) (by omega) w4 hR4)
 clear hO HO3 hR3 hR4
 have fin:∀(x y:Nat) (d s m:Int) w',x<4294967296->y<4294967296->0<=m ->(m<30\/m=0)->Rd w0 b (p2+1+1+1) w'->By b w4 w' ->(∃(x' y':Nat) (d' s' m':Int),Ending.returned (.tuple #[.complex .f32 x y,.int .i64 d,.int .i64 s,.int .i64 (1+m)])=.returned (.tuple #[.complex .f32 x' y',.int .i64 d',.int .i64 s',.int .i64 m'])/\x'<4294967296/\y'<4294967296/\1<=m'/\m'<=31) /\(∃p',p'<=p+20/\Rd w0 b p' w')/\By b W w' :=
  fun x y d s m w' h1 h2 h3 h4 h5 h6=>⟨⟨x,y,d,s,1+m,rfl,h1,h2,by omega,by omega⟩,⟨_,by omega,h5⟩,HO4.out.trans h6⟩
 have HF:=Ai1 fin;clear fin
 by_cases c0:k=0
 ·subst c0
  go_wp2_with fail
  refine HK.out.mono ?_
  rintro e w5 ⟨⟨m,rfl,m0,m1⟩,hR5,hO⟩;have H5:=Ai1 (And.intro hR5 hO);clear hR5 hO
  go_wp2
  exact Ai6 (v:=.tuple #[.complex .f32 x y,.int .i64 d,.int .i64 9,.int .i64 (1+m)]) (by simp[results,Tryz.f13,go_sem]) rfl (HF.out _ _ _ _ _ _ hx hy m0 m1 H5.out.1 H5.out.2)
 by_cases c1:k=1
 ·subst c1
  go_wp2_with fail
  refine HK.out.mono ?_
  rintro e w5 ⟨⟨m,rfl,m0,m1⟩,hR5,hO⟩;have H5:=Ai1 (And.intro hR5 hO);clear hR5 hO
  go_wp2
  exact Ai6 (v:=.tuple #[.complex .f32 x y,.int .i64 11,.int .i64 (1+s),.int .i64 (1+m)]) (by simp[results,Tryz.f13,go_sem]) rfl (HF.out _ _ _ _ _ _ hx hy m0 m1 H5.out.1 H5.out.2)
 by_cases c2:k=2
 ·subst c2
  go_wp2_with fail
  refine HK.out.mono ?_
  rintro e w5 ⟨⟨m,rfl,m0,m1⟩,hR5,hO⟩;have H5:=Ai1 (And.intro hR5 hO);clear hR5 hO
  go_wp2
  exact Ai6 (v:=.tuple #[.complex .f32 1082130432 1082130432,.int .i64 d,.int .i64 (1+s),.int .i64 (1+m)]) (by simp[results,Tryz.f13,go_sem]) rfl (HF.out _ _ _ _ _ _ (by omega) (by omega) m0 m1 H5.out.1 H5.out.2)
 have g0:(k == 0)=false:=by simpa using c0
 have g1:(k == 1)=false:=by simpa using c1
 have g2:(k == 2)=false:=by simpa using c2
 go_wp2_with fail
 refine HK.out.mono ?_
 rintro e w5 ⟨⟨m,rfl,m0,m1⟩,hR5,hO⟩;have H5:=Ai1 (And.intro hR5 hO);clear hR5 hO
 go_wp2
 exact Ai6 (v:=.tuple #[.complex .f32 x y,.int .i64 d,.int .i64 (1+s),.int .i64 (1+m)]) (by simp[results,Tryz.f13,go_sem]) rfl (HF.out _ _ _ _ _ _ hx hy m0 m1 H5.out.1 H5.out.2)
end
section
open Go.RowKit
structure Kw (w:World) where
 W:World
 h:Below w.heap.size w W
instance  (w:World):Inhabited (Kw w):=⟨⟨w,Aik _ _⟩⟩
def Kw.step {w:World}(s:Kw w){w':World}(k:Below s.W.heap.size s.W w'):Kw w:=⟨w',s.h.trans (k.mono s.h.size)⟩
theorem Tv {P:Program}{id:Nat}{Q:Exit->Act->World->Prop}{a:Act}{w:World}{l:List Oper}(hm:P.follows .mixedOrders=true)(hB:Region.lexB .any l.toArray=true)
 (h:wpQuiet P l.toArray (fun w'=>∃s:Kw w,w'=s.W) (fun a'=>∀w',(∃s:Kw w,w'=s.W)->Q .normal a' w') l a):(Code.region id l.toArray true).wp P Q a w :=
 wp_region_quiet (C:=fun w'=>∃s:Kw w,w'=s.W) hm hB ⟨⟨w.drew,(Aik _ _).drew⟩,rfl⟩ (by simpa using h)
end
end Go.Proofs.YtlfleicchbgcmaaGreat
section
namespace Go.Proofs.YtlfleicchbgcmaaGreat
namespace Flo
open Ieee
theorem Gz {f:Format}{v:Int}{m e:Nat}(hv:v.natAbs=m*2^e)(hm:m<2*f.binade)(hmax:(e+2)*f.binade<=f.infRung):Oe f v:=by
 have hbp:=Dp f;have h2:2*f.binade <=(e+2)*f.binade:=Ai7 _ (by omega)
 by_cases hs:m*2^e<2*f.binade
 ·refine⟨m*2^e,?_,?_⟩
  ·rcases Ajr e with h|h
   ·subst h;omega
   ·have:3*f.binade <=(e+2)*f.binade:=Ai7 _ (by omega)
    omega
  ·rw[hv];have hq:m*2^e / f.binade<2:=Nat.div_lt_of_lt_mul (by omega)
   unfold rv rm re;have:m*2^e / f.binade-1=0:=by omega
   rw[this];simp
 ·have h0:m≠0:=by intro h;subst h;simp at hs;omega
  have hl:=Nat.log2_self_le h0;have hu:m<2^(m.log2+1):=Aln
  have hlog:m.log2<=f.fractionBits:=by
   have:m.log2<f.fractionBits+1:=(Nat.log2_lt h0).2 (by rw[Alc,Aj7];exact hm)
   omega
  obtain⟨k,hk⟩:∃k,m.log2+k=f.fractionBits:=⟨f.fractionBits-m.log2,by omega⟩
  have h1:f.binade<=m*2^k:=by
   unfold Format.binade;rw[<-hk,Ail];exact Ai7 _ hl
  have h3:m*2^k<2*f.binade:=by
   unfold Format.binade
   calc m*2^k<2^(m.log2+1)*2^k:=Akl hu (Aib _)
    _=2*2^f.fractionBits:=by rw[<-hk,Alc,Ail];simp only[Aj7,Aky]
  have hke:k<=e:=by
   rcases Nat.le_total k e with h|h
   ·exact h
   ·exfalso
    have:m*2^e<=m*2^k:=Anc _ (Ain (by omega) h)
    omega
  refine⟨(e-k)*f.binade+m*2^k,?_,?_⟩
  ·have:(e-k)*f.binade<=e*f.binade:=Ai7 _ (by omega)
   rw[Nat.add_mul]at hmax
   omega
  ·have hdiv:((e-k)*f.binade+m*2^k) / f.binade=e-k+1:=by
    rw[Aj7,Nat.mul_add_div hbp]
    have:m*2^k / f.binade=1:=by
     rw[Nat.div_eq_iff hbp];omega
    omega
   have hre:re f ((e-k)*f.binade+m*2^k)=e-k:=by unfold re;rw[hdiv];omega
   have hrm:rm f ((e-k)*f.binade+m*2^k)=m*2^k:=by unfold rm;rw[hre];omega
   unfold rv;rw[hre,hrm,hv,Aiy,<-Ail]
   congr 2;omega
theorem Zz (neg:Bool)(n drop:Nat):Toward.zero.cut neg n drop=n / 2^drop:=by
 unfold Toward.cut;simp only[Bool.toNat_false,Nat.add_zero]
 by_cases hd:drop<=n.log2+2
 ·rw[Akm hd,Am2]
 ·have hd':n.log2+2<=drop:=by omega
  have hlt:n<2^(n.log2+1):=Aln;have h2:2^(n.log2+1)<=2^(n.log2+2):=Ain (by omega) (by omega)
  have h3:2^(n.log2+2)<=2^drop:=Ain (by omega) hd'
  rw[Nat.min_eq_right hd',Am2,Ama (by omega),Ama (by omega)]
theorem Wu {f:Format}{l:Nat}(hl:f.leastPlace=-(l:Int)){x:Nat}{v:Int}(h:Cu f x v):(f.read x).toInt .zero=some (v.tdiv (2^l:Nat)):=by
 have hd:=Cr h;have hiv:=h.iv;unfold Flo.iv rv at hiv;rw[Ax h.fin];generalize re f (Ae f x)=e at *;generalize rm f (Ae f x)=m at *;generalize Ht f x=s at *;unfold Datum.toInt Datum.integral;simp only[Ajj];rw[Zz,hl]
 have key:(m <<<(-(l:Int)+e).toNat) / 2^(-(-(l:Int)+e)).toNat=m*2^e / 2^l:=by
  rw[Al7]
  rcases Nat.le_total l e with h|h
  ·obtain⟨k,rfl⟩:∃k,e=l+k:=⟨e-l,by omega⟩
   have e1:(-(l:Int) +((l+k:Nat):Int)).toNat=k:=by omega
   have e2:(-(-(l:Int) +((l+k:Nat):Int))).toNat=0:=by omega
   rw[e1,e2,Alu,Nat.div_one,Ail,<-Aiy,Akt,Nat.mul_div_cancel _ (Aib l)]
  ·obtain⟨k,rfl⟩:∃k,l=e+k:=⟨l-e,by omega⟩
   have e1:(-((e+k:Nat):Int) +(e:Int)).toNat=0:=by omega
   have e2:(-(-((e+k:Nat):Int) +(e:Int))).toNat=k:=by omega
   rw[e1,e2,Alu,Alq,Ail,Aj7 m,Nat.mul_div_mul_left _ _ (Aib e)]
 rw[key];unfold signed;rw[Nat.shiftLeft_zero]
 cases s
 ·simp only[Aj8,Alx]at hiv ⊢;rw[<-hiv,Ak8 (by omega)]
  exact(Int.natCast_ediv _ _)
 ·simp only[Amg]at hiv ⊢;rw[<-hiv,Int.neg_tdiv,Ak8 (by omega)]
  exact congrArg Neg.neg (Int.natCast_ediv _ _)
theorem Df {k:FloatKind}{l:Nat}(hl:k.format.leastPlace=-(l:Int))(n:Int)(hn:n.natAbs<2*k.format.binade)(hmax:(l+2)*k.format.binade<=k.format.infRung):Cu k.format (floatOfInt k n) (n *(2^l:Nat)):=by
 have hp:(0:Int) <(2^l:Nat):=by have:=Aib l;omega
 have hab:(n *(2^l:Nat)).natAbs=n.natAbs*2^l:=by rw[Ais,Aih]
 refine Fa (a:=l) (b:=0) (Gz (m:=n.natAbs) (e:=l) hab hn hmax) (by rw[hl];omega) (by rw[hab];simp) ?_ ?_
 ·intro h
  rcases Akj n 0 with h1|h1
  ·simp[h1]
  ·have:=Ak0 h1 (Alf hp);omega
 ·intro h
  rcases Akj n 0 with h1|h1
  ·have:=Int.mul_neg_of_neg_of_pos h1 hp;omega
  ·simp;omega
theorem Cj {k:FloatKind}{x y:Nat}{a b:Int}(hx:Cu k.format x a)(hy:Cu k.format y b):(k.format.order x y == some .eq)=decide (a=b):=by
 rw[J2 hx hy]
 rcases Alj a b with h|h|h
 ·rw[Am4.2 h];simp;omega
 ·rw[Amt.2 h];simp[h]
 ·rw[Am5.2 h];simp;omega
theorem Fl {k:FloatKind}{x y:Nat}{a b:Int}(hx:Cu k.format x a)(hy:Cu k.format y b):(k.format.order x y == some .lt)=decide (a<b):=by
 rw[J2 hx hy]
 rcases Alj a b with h|h|h
 ·rw[Am4.2 h];simp[h]
 ·rw[Amt.2 h];simp;omega
 ·rw[Am5.2 h];simp;omega
theorem Jr {k:FloatKind}{x y:Nat}{a b:Int}(hx:Cu k.format x a)(hy:Cu k.format y b):(k.format.order x y == some .gt)=decide (b<a):=by
 rw[J2 hx hy]
 rcases Alj a b with h|h|h
 ·rw[Am4.2 h];simp;omega
 ·rw[Amt.2 h];simp;omega
 ·rw[Am5.2 h];simp[h]
theorem A08 {f:Format}(he:1<=f.exponentBits){x p q:Nat}{a b:Int}(hx:x<2^f.width)(hp:Cu f p a)(hq:Cu f q b)(h1:(f.order x p == some .gt || f.order x p == some .eq)=true)(h2:(f.order x q == some .lt || f.order x q == some .eq)=true) :
 Cu f x (iv f x)/\a<=iv f x/\iv f x<=b:=by
 rcases kinds f he x with hf |⟨s,hi⟩ |⟨s,t,hn⟩
 ·have hv:Cu f x (iv f x):=⟨hx,hf,rfl⟩
  refine⟨hv,?_,?_⟩
  ·rw[J2 hv hp]at h1
   rcases Alj (iv f x) a with h|h|h
   ·rw[Am4.2 h]at h1;simp at h1
   ·omega
   ·omega
  ·rw[J2 hv hq]at h2
   rcases Alj (iv f x) b with h|h|h
   ·omega
   ·omega
   ·rw[Am5.2 h]at h2;simp at h2
 ·exfalso
  unfold Format.order at h1 h2;rw[hi,Ax hp.fin]at h1;rw[hi,Ax hq.fin]at h2
  cases s
  ·simp[Datum.order]at h2
  ·simp[Datum.order]at h1
 ·exfalso
  unfold Format.order at h1;rw[hn,Ax hp.fin]at h1;simp[Datum.order]at h1
def u32:Nat:=149
theorem Fv:u32=149:=rfl
def u64:Nat:=1074
theorem F8:u64=1074:=rfl
theorem Ll:single.leastPlace=-(u32:Int):=by rw[Fv];exact H8
theorem Ci:double.leastPlace=-(u64:Int):=by rw[F8];exact Gw
theorem A97:Cu single 1082130432 (4 *(2^u32:Nat)):=by
 refine⟨by decide,by unfold fin;decide,?_⟩
 rw[Fv];unfold iv;have h1:Ht single 1082130432=false:=by decide
 have h2:rv single (Ae single 1082130432)=4*2^149:=by decide +kernel
 rw[h1,h2];simp
theorem E9:Cu single 3229614080 (-(4 *(2^u32:Nat))):=by
 refine⟨by decide,by unfold fin;decide,?_⟩
 rw[Fv];unfold iv;have h1:Ht single 3229614080=true:=by decide
 have h2:rv single (Ae single 3229614080)=4*2^149:=by decide +kernel
 rw[h1,h2];simp
def Dw (x:Nat):Bool:=(FloatKind.f32.format.order x 3229614080 == some .gt || FloatKind.f32.format.order x 3229614080 == some .eq) && (FloatKind.f32.format.order x 1082130432 == some .lt || FloatKind.f32.format.order x 1082130432 == some .eq)
def Be (x d:Nat):Bool:=Dw x && decide (iv single x *(2^d:Nat) % (2^u32:Nat)=0)
theorem Ho {x:Nat}(hx:x<4294967296)(h:Dw x=true):Cu single x (iv single x) /\(iv single x).natAbs<=4*2^u32:=by
 unfold Dw at h;rw[Aia]at h;obtain⟨hv,h1,h2⟩:=A08 (f:=single) (by decide) hx E9 A97 h.1 h.2
 refine⟨hv,?_⟩
 generalize (2:Nat)^u32=U at *
 omega
theorem Q3 {x d:Nat}(hx:x<4294967296)(hd:d<=11)(h:Dw x=true) :
 ∃(y:Nat) (n:Int),floatBits .mul .f32 x (floatOfInt .f32 ((2^d:Nat):Int))=some y/\floatToIntVal .f32 y .i64=some n/\n=(iv single x *(2^d:Nat)).tdiv (2^u32:Nat)/\Cu single y (iv single x *(2^d:Nat)) /\
  (FloatKind.f32.format.order (floatOfInt .f32 n) y == some .eq)=decide (iv single x *(2^d:Nat) % (2^u32:Nat)=0):=by
 obtain⟨hv,hb⟩:=Ho hx h;have hdp:2^d<=2^11:=Ain (by omega) hd
 have hD:Cu single (floatOfInt .f32 ((2^d:Nat):Int)) (((2^d:Nat):Int) *(2^u32:Nat)):=Df (k:=.f32) Ll _ (by rw[Aih];show _<2*single.binade;rw[Br];omega) (by show(u32+2)*single.binade<=single.infRung;rw[Hu,Fv];exact Ai7 _ (by omega))
 have hdg:=Cr hv;have hr:=A1h (e:=254) hv.fin (by decide)
 have hm:=Nw single (Ae single x)
 have hrep:Oe single (iv single x *(2^d:Nat)):=by
  by_cases hz:re single (Ae single x)+d+2<=255
  ·refine Gz (m:=rm single (Ae single x)) (e:=re single (Ae single x)+d) ?_ hm ?_
   ·rw[Ais,Aih,hdg,Aiy,<-Ail]
   ·rw[Hu];exact Ai7 _ hz
  ·exfalso
   have hge:=Wg single (Ae single x) (by omega)
   rw[Br]at hge;have h1:8388608*2^re single (Ae single x)<=rm single (Ae single x)*2^re single (Ae single x):=Ai7 _ hge;have h2:2^(u32+3)<=2^re single (Ae single x):=Ain (by omega) (by rw[Fv];omega)
   have h3:2^(u32+3)=8*2^u32:=by rw[Ail,Aj7]
   have h4:=Aib u32;rw[hdg]at hb
   omega
 obtain⟨y,hy,hyv⟩:=Gx (f:=single) (c:=iv single x *(2^d:Nat)) Ll hv hD (by rw[Ajs]) hrep
 have hti:=Wu (f:=single) Ll hyv;generalize hA:iv single x *((2^d:Nat):Int)=A at *
 have hAb:A.natAbs<=8192*2^u32:=by
  rw[<-hA,Ais,Aih]
  calc (iv single x).natAbs*2^d <=(4*2^u32)*2^11:=Ajm hb hdp
   _=8192*2^u32:=by rw[Akt]
 have hU:=Aib u32
 have hna:(A.tdiv (2^u32:Nat)).natAbs<=8192:=by
  rw[Int.natAbs_tdiv,Aih]
  exact Nat.div_le_of_le_mul (by rw[Aj7];exact hAb)
 have hN:Cu single (floatOfInt .f32 (A.tdiv (2^u32:Nat))) (A.tdiv (2^u32:Nat) *(2^u32:Nat)):=Df (k:=.f32) Ll _ (by show _<2*single.binade;rw[Br];omega) (by show(u32+2)*single.binade<=single.infRung;rw[Hu,Fv];exact Ai7 _ (by omega))
 refine⟨y,A.tdiv (2^u32:Nat),hy,?_,rfl,hyv,?_⟩
 ·unfold floatToIntVal;have:(FloatKind.f32.decode y).toInt .zero=some (A.tdiv (2^u32:Nat)):=hti;rw[this];simp only;rw[Aij];have h1:IntKind.i64.min=-9223372036854775808:=by decide
  have h2:IntKind.i64.max=9223372036854775807:=by decide
  rw[h1,h2]
  omega
 ·rw[Cj (k:=.f32) hN hyv]
  congr 1
  have hmod:=Int.mul_tdiv_add_tmod A (2^u32:Nat);rw[Ajq]at hmod;rw[eq_iff_iff]
  constructor
  ·intro h
   exact Int.emod_eq_zero_of_dvd ⟨_,by rw[Ajq];exact h.symm⟩
  ·intro h
   exact Int.tdiv_mul_cancel (Int.dvd_of_emod_eq_zero h)
end Flo
end Go.Proofs.YtlfleicchbgcmaaGreat
end
namespace Go.Proofs.YtlfleicchbgcmaaGreat
end Go.Proofs.YtlfleicchbgcmaaGreat
section
namespace Go.Proofs.YtlfleicchbgcmaaGreat
namespace Flo
open Ieee
def D7 (d:Nat):Nat:=(127-d)*8388608
def Pt (x d:Nat)(n:Int):Prop:=Cu single x (n *(2^(u32-d):Nat))
theorem Ow {d:Nat}(hd:d<=11):2^u32=2^(u32-d)*2^d:=by
 rw[<-Ail];congr 1;rw[Fv];omega
theorem Aal (d:Nat)(hd:d<=11):Pt (D7 d) d 1:=by
 unfold Pt;rw[Int.one_mul]
 rcases(by omega:d=0\/d=1\/d=2\/d=3\/d=4\/d=5\/d=6\/d=7\/d=8\/d=9\/d=10\/d=11)with rfl|rfl|rfl|rfl|rfl|rfl|rfl|rfl|rfl|rfl|rfl|rfl
 all_goals
  refine⟨by decide,by unfold fin;decide,?_⟩
  unfold iv u32;rw[Aid (by decide)]
  congr 1
theorem J9 {x d:Nat}(hx:x<4294967296)(hd:d<=11)(h:Be x d=true):∃A:Int,Pt x d A/\A.natAbs<=4*2^d:=by
 unfold Be at h;rw[Aia,Aiv]at h;obtain⟨hv,hb⟩:=Ho hx h.1;have hs:=Ow hd;have hp:(0:Int) <(2^d:Nat):=by have:=Aib d;omega
 obtain⟨A,hA⟩:=Int.dvd_of_emod_eq_zero h.2
 have hA2:iv single x=A *(2^(u32-d):Nat):=by
  refine Int.eq_of_mul_eq_mul_right (Int.ne_of_gt hp) ?_
  rw[hA,hs,Aj3,Ajs A,Ajq A]
 refine⟨A,?_,?_⟩
 ·unfold Pt;rw[<-hA2];exact hv
 ·rw[hA2,Ais,Aih,hs]at hb;have:4 *(2^(u32-d)*2^d)=4*2^d*2^(u32-d):=by rw[Aiy,Aj7 (2^(u32-d))]
  rw[this]at hb
  exact Ak7 hb (Aib _)
theorem Aa4 {d:Nat}(hd:d<=11){n:Int}(hn:n.natAbs<16777216):Oe single (n *(2^(u32-d):Nat)):=by
 refine Gz (m:=n.natAbs) (e:=u32-d) (by rw[Ais,Aih]) (by rw[Br];omega) ?_
 rw[Hu,Fv]
 exact Ai7 _ (by omega)
theorem A1r (d:Nat)(hd:d<=11)(j:Int)(hj:j.natAbs<=65536):∃p,floatBits .mul .f32 (floatOfInt .f32 j) (D7 d)=some p/\Pt p d j:=by
 have hJ:Cu single (floatOfInt .f32 j) (j *(2^u32:Nat)):=Df (k:=.f32) Ll _ (by show _<2*single.binade;rw[Br];omega) (by show(u32+2)*single.binade<=single.infRung;rw[Hu,Fv];exact Ai7 _ (by omega))
 obtain⟨p,hp,hv⟩:=Gx (f:=single) (c:=j *(2^(u32-d):Nat)) Ll hJ (Aal d hd) (by rw[Int.one_mul,Int.mul_right_comm]) (Aa4 hd (by omega))
 exact⟨p,hp,hv⟩
theorem Ab5 {d x y:Nat}{a b:Int}(hd:d<=11)(hx:Pt x d a)(hy:Pt y d b)(h:(a+b).natAbs<16777216):∃z,floatBits .add .f32 x y=some z/\Pt z d (a+b):=by
 have hr:=Aa4 hd h;rw[Alg]at hr;obtain⟨z,hz,hv⟩:=Abj hx hy hr
 refine⟨z,hz,?_⟩
 unfold Pt;rw[Alg]
 exact hv
theorem Aa3 {c d:Nat}{A:Int}(hd:d<=11)(hc:Pt c d A)(hA:A.natAbs<=65536)(j:Int)(hj:j.natAbs<=65536) :
 ∃p x,floatBits .mul .f32 (floatOfInt .f32 j) (D7 d)=some p/\floatBits .add .f32 c p=some x/\Pt x d (A+j):=by
 obtain⟨p,hp,hv⟩:=A1r d hd j hj;obtain⟨x,hx,hv2⟩:=Ab5 hd hc hv (by omega)
 exact⟨p,x,hp,hx,hv2⟩
theorem A5f {x d:Nat}{n:Int}(h:Pt x d n):x<4294967296:=h.lt
theorem O6 {x d:Nat}{n:Int}(hd:d<=11)(hx:Pt x d n)(hn:n.natAbs<=65536) :
 ∃y1 y,floatToFloatBits .f32 x .f64=some y1/\floatBits .mul .f64 y1 4715268809856909312=some y/\Cu double y (n *(2^(24-d):Nat) *(2^u64:Nat))/\floatToIntVal .f64 y .i64=some (n *(2^(24-d):Nat)):=by
 obtain⟨y1,h1,v1⟩:=Dj hx
 have hU:Cu double 4715268809856909312 ((16777216:Int) *(2^u64:Nat)):=by
  have:=Df (k:=.f64) Ci 16777216 (by show _<2*double.binade;rw[Am];omega) (by show(u64+2)*double.binade<=double.infRung;rw[Bn,F8];exact Ai7 _ (by omega))
  have e:floatOfInt .f64 16777216=4715268809856909312:=by kernel_rfl
  rw[e]at this
  exact this
 have hpd:2^(24-d)<=2^24:=Ain (by omega) (by omega)
 have hN:(n *(2^(24-d):Nat)).natAbs<=65536*16777216:=by
  rw[Ais,Aih]
  exact Ajm hn (by omega)
 have hrep:Oe double (n *(2^(24-d):Nat) *(2^u64:Nat)):=by
  refine Gz (m:=(n *(2^(24-d):Nat)).natAbs) (e:=u64) (by rw[Ais,Aih]) (by rw[Am];omega) ?_
  rw[Bn,F8]
  exact Ai7 _ (by omega)
 have hc:n *(2^(u32-d):Nat) *(2^Gj:Nat) *((16777216:Int) *(2^u64:Nat))=n *(2^(24-d):Nat) *(2^u64:Nat) *(2^u64:Nat):=by
  have e:(2^(u32-d)*2^Gj*16777216:Nat)=2^(24-d)*2^u64:=by
   rw[show(16777216:Nat)=2^24 by decide,<-Ail,<-Ail,<-Ail]
   congr 1
   rw[Fv,Mz,F8];omega
  have e2:((2^(u32-d):Nat):Int) *(2^Gj:Nat)*16777216=(2^(24-d):Nat) *(2^u64:Nat):=by
   have:=congrArg (fun x:Nat=>(x:Int)) e
   simp only[Aj3]at this
   exact this
  generalize ((2^(u32-d):Nat):Int)=P at *;generalize ((2^Gj:Nat):Int)=Q at *;generalize ((2^u64:Nat):Int)=R at *;generalize ((2^(24-d):Nat):Int)=S at *
  calc n*P*Q *(16777216*R)=n *(P*Q*16777216)*R:=by simp only[Ajs]
   _=n*S*R*R:=by rw[e2];simp only[Ajs]
 obtain⟨y,hy,v2⟩:=Gx (f:=double) (c:=n *(2^(24-d):Nat) *(2^u64:Nat)) Ci v1 hU hc hrep
 refine⟨y1,y,h1,hy,v2,?_⟩
 have hti:=Wu (f:=double) Ci v2;have hp:((2^u64:Nat):Int)≠0:=by have:=Aib u64;omega
 rw[Int.mul_tdiv_cancel _ hp]at hti;unfold floatToIntVal;have:(FloatKind.f64.decode y).toInt .zero=some (n *(2^(24-d):Nat)):=hti;rw[this];simp only;rw[Aij];have h1:IntKind.i64.min=-9223372036854775808:=by decide
 have h2:IntKind.i64.max=9223372036854775807:=by decide
 rw[h1,h2]
 omega
theorem A02:Cu double 4728779608739020800 ((134217728:Int) *(2^u64:Nat)):=by
 have:=Df (k:=.f64) Ci 134217728 (by show _<2*double.binade;rw[Am];omega) (by show(u64+2)*double.binade<=double.infRung;rw[Bn,F8];exact Ai7 _ (by omega))
 have e:floatOfInt .f64 134217728=4728779608739020800:=by kernel_rfl
 rw[e]at this
 exact this
theorem Kn:Cu double 13952151645593796608 ((-134217728:Int) *(2^u64:Nat)):=by
 have:=Df (k:=.f64) Ci (-134217728) (by show _<2*double.binade;rw[Am];omega) (by show(u64+2)*double.binade<=double.infRung;rw[Bn,F8];exact Ai7 _ (by omega))
 have e:floatOfInt .f64 (-134217728)=13952151645593796608:=by kernel_rfl
 rw[e]at this
 exact this
theorem Sc {a b:Int}:(a *(2^u64:Nat)<=b *(2^u64:Nat))↔a<=b:=by
 have hp:(0:Int) <(2^u64:Nat):=by have:=Aib u64;omega
 exact⟨fun h=>Int.le_of_mul_le_mul_right h hp,fun h=>Al4 h (Alf hp)⟩
theorem Q1 {y:Nat}{N:Int}(hN:N.natAbs<=1099511627776)(hy:Cu double y (N *(2^u64:Nat))) :
 (FloatKind.f64.format.order y 13952151645593796608 == some .gt || FloatKind.f64.format.order y 13952151645593796608 == some .eq)=decide (-134217728<=N) /\
 (FloatKind.f64.format.order y 4728779608739020800 == some .lt || FloatKind.f64.format.order y 4728779608739020800 == some .eq)=decide (N<=134217728) /\
 (FloatKind.f64.format.order (floatOfInt .f64 N) y == some .gt)=false /\(FloatKind.f64.format.order (floatOfInt .f64 N) y == some .lt)=false:=by
 have hNv:Cu double (floatOfInt .f64 N) (N *(2^u64:Nat)):=Df (k:=.f64) Ci N (by show _<2*double.binade;rw[Am];omega) (by show(u64+2)*double.binade<=double.infRung;rw[Bn,F8];exact Ai7 _ (by omega))
 have m1:=@Sc (-134217728) N;have m2:=@Sc N 134217728
 refine⟨?_,?_,?_,?_⟩
 ·rw[Jr (k:=.f64) hy Kn,Cj (k:=.f64) hy Kn,Amh];simp only[Al2,Aiv];rw[<-m1];omega
 ·rw[Fl (k:=.f64) hy A02,Cj (k:=.f64) hy A02,Amh];simp only[Al2,Aiv];rw[<-m2];omega
 ·rw[Jr (k:=.f64) hNv hy];simp
 ·rw[Fl (k:=.f64) hNv hy];simp
end Flo
end Go.Proofs.YtlfleicchbgcmaaGreat
end
namespace Go.Proofs.YtlfleicchbgcmaaGreat
section
def Gf (n lo hi:Int):Bool:=decide (lo<=n) && decide (n<=hi)
theorem Ac6 {n lo hi:Int}(h1:lo<=n)(h2:n<=hi):Gf n lo hi=true:=by simp[Gf,h1,h2]
theorem A9h {n lo hi:Int}(h:¬(lo<=n/\n<=hi)):Gf n lo hi=false:=by
 cases e:Gf n lo hi
 ·rfl
 ·simp only[Gf,Aia,Aiv]at e;exact absurd e h
end
section
open Go.RowKit
theorem C7 (n lo hi:Int)(w:World):Calls Vp.prog 19 #[.int .i64 n,.int .i64 lo,.int .i64 hi] w fun e w'=>e=.returned (.bool (Gf n lo hi))/\w=w':=by
 by_cases h1:lo<=n
 ·by_cases h2:n<=hi
  ·rw[Ac6 h1 h2];have h2':¬hi<n:=by omega
   go_enter Vp.func19,Tryz.ntmps19
   go_wp2
   go_ret
   exact⟨rfl,rfl⟩
  ·rw[A9h (by omega)]
   go_enter Vp.func19,Tryz.ntmps19
   go_wp2
   go_ret
   exact⟨rfl,rfl⟩
 ·rw[A9h (by omega)]
  go_enter Vp.func19,Tryz.ntmps19
  go_wp2
  go_ret
  exact⟨rfl,rfl⟩
end
section
open Go.RowKit
def Bg (a b c d:Int):Bool:=Gf a (-134217728) b && Gf b a 134217728 && Gf c (-134217728) d && Gf d c 134217728
theorem Cb (a b c d:Int)(w:World):Calls Vp.prog 68 #[.agg #[.int .i64 a,.int .i64 b,.int .i64 c,.int .i64 d]] w fun e w'=>e=.returned (.bool (Bg a b c d))/\Below w.heap.size w w':=by
 have X:=A8.new w #[.int .i64 a,.int .i64 b,.int .i64 c,.int .i64 d] 93;have x0:=X.cell 0 _ rfl;have x1:=X.cell 1 _ rfl;have x2:=X.cell 2 _ rfl;have x3:=X.cell 3 _ rfl;have HB:=Ai1 X.old;clear X;unfold Bg
 cases h1:Gf a (-134217728) b with
 | false =>
   go_enter Vp.func68,Tryz.ntmps68
   go_wp2_with (go_at_call 19;refine(C7 _ _ _ _).mono ?_;rintro e w' ⟨rfl,rfl⟩)
   go_ret
   exact⟨rfl,HB.out⟩
 | true =>
   cases h2:Gf b a 134217728 with
   | false =>
     go_enter Vp.func68,Tryz.ntmps68
     go_wp2_with (go_at_call 19;refine(C7 _ _ _ _).mono ?_;rintro e w' ⟨rfl,rfl⟩)
     go_ret
     exact⟨rfl,HB.out⟩
   | true =>
     cases h3:Gf c (-134217728) d with
     | false =>
       go_enter Vp.func68,Tryz.ntmps68
       go_wp2_with (go_at_call 19;refine(C7 _ _ _ _).mono ?_;rintro e w' ⟨rfl,rfl⟩)
       go_ret
       exact⟨rfl,HB.out⟩
     | true =>
       cases h4:Gf d c 134217728 with
       | false =>
         go_enter Vp.func68,Tryz.ntmps68
         go_wp2_with (go_at_call 19;refine(C7 _ _ _ _).mono ?_;rintro e w' ⟨rfl,rfl⟩)
         go_ret
         exact⟨rfl,HB.out⟩
       | true =>
         go_enter Vp.func68,Tryz.ntmps68
         go_wp2_with (go_at_call 19;refine(C7 _ _ _ _).mono ?_;rintro e w' ⟨rfl,rfl⟩)
         go_ret
         exact⟨rfl,HB.out⟩
end
section
open Go.RowKit
theorem Wl (d:Nat)(h:d<=11):floatBits .quo .f32 1065353216 (floatOfInt .f32 (wrap64 (2^d)))=some (Flo.D7 d):=by
 rcases(by omega:d=0\/d=1\/d=2\/d=3\/d=4\/d=5\/d=6\/d=7\/d=8\/d=9\/d=10\/d=11)with rfl|rfl|rfl|rfl|rfl|rfl|rfl|rfl|rfl|rfl|rfl|rfl<;>kernel_rfl
theorem Vt (d:Nat)(hd:d<=11)(w:World):Calls Vp.prog 74 #[.int .i64 d] w fun e w'=>e=.returned (.float .f32 (Flo.D7 d))/\w=w':=by
 obtain⟨q,hq⟩:∃q:Int,wrap64 (2^d)=q:=⟨_,rfl⟩
 have hz:∀w,(binOp .quo 74 (.float .f32 1065353216) (.float .f32 (floatOfInt .f32 q))).run Vp.prog w=.ok (.float .f32 (Flo.D7 d)) w:=fun w =>
  Aj6 w _ _ _ _ _ _ (by rw[<-hq];exact Wl d hd)
 generalize Flo.D7 d=r at *
 go_enter Vp.func74,Tryz.ntmps74
 go_wp2
 go_ret
 exact⟨rfl,rfl⟩
theorem Wk (d:Nat)(hd:d<=11)(w:World):Calls Vp.prog 56 #[.int .i64 d] w fun e w'=>e=.returned (.float .f32 (Flo.D7 d))/\w=w':=by
 obtain⟨q,hq⟩:∃q:Int,wrap64 (2^d)=q:=⟨_,rfl⟩
 have hz:∀w,(binOp .quo 74 (.float .f32 1065353216) (.float .f32 (floatOfInt .f32 q))).run Vp.prog w=.ok (.float .f32 (Flo.D7 d)) w:=fun w =>
  Aj6 w _ _ _ _ _ _ (by rw[<-hq];exact Wl d hd)
 generalize Flo.D7 d=r at *
 go_enter Vp.func56,Tryz.ntmps56
 go_wp2
 go_ret
 exact⟨rfl,rfl⟩
end
section
open Go.RowKit
theorem L5 (d:Nat)(h:d<=11):wrap64 (2^d)=((2^d:Nat):Int):=by
 rcases(by omega:d=0\/d=1\/d=2\/d=3\/d=4\/d=5\/d=6\/d=7\/d=8\/d=9\/d=10\/d=11)with rfl|rfl|rfl|rfl|rfl|rfl|rfl|rfl|rfl|rfl|rfl|rfl<;>kernel_rfl
theorem S8 (x d:Nat)(hx:x<4294967296)(hd:d<=11)(w:World):Calls Vp.prog 66 #[.float .f32 x,.int .i64 d] w fun e w'=>e=.returned (.bool (Flo.Be x d))/\Aq w w':=by
 have hdp:2^d<=2^11:=Ain (by omega) hd
 obtain⟨q,hq⟩:∃q:Int,wrap64 (2^d)=q:=⟨_,rfl⟩;have hqd:((2^d:Nat):Int)=q:=by rw[<-hq,L5 d hd]
 cases h4:Flo.Dw x with
 | false =>
   have hw:Flo.Be x d=false:=by unfold Flo.Be;rw[h4];rfl
   rw[hw];obtain⟨y,w1,h1,_,d1⟩:=Flo.Cm (P:=Vp.prog) .mul (by simp) 74 .f32 x (floatOfInt .f32 q) w
   have HD:=Ai1 d1;unfold Flo.Dw at h4;clear d1 hqd hdp hw
   cases b1:(FloatKind.f32.format.order x 3229614080 == some .gt || FloatKind.f32.format.order x 3229614080 == some .eq)with
   | false =>
     clear h4
     go_enter Vp.func66,Tryz.ntmps66
     go_wp2
     go_ret
     exact⟨rfl,HD.out⟩
   | true =>
     rw[b1,Al5]at h4
     go_enter Vp.func66,Tryz.ntmps66
     go_wp2
     go_ret
     exact⟨rfl,HD.out⟩
 | true =>
   obtain⟨y,n,h1,h2,-,-,h3⟩:=Flo.Q3 hx hd h4;have hw:Flo.Be x d=(FloatKind.f32.format.order (floatOfInt .f32 n) y == some .eq):=by unfold Flo.Be;rw[h4,h3];rfl
   rw[hw];rw[hqd]at h1;have g1:∀w,(binOp .mul 74 (.float .f32 x) (.float .f32 (floatOfInt .f32 q))).run Vp.prog w=.ok (.float .f32 y) w:=fun w=>Aj6 w .mul _ .f32 _ _ _ h1
   have g2:∀w,(convert 74 3 (.float .f32 y)).run Vp.prog w=.ok (.int .i64 n) w:=fun w=>Amf w _ _ .f32 .i64 _ _ (by kernel_rfl) (Vp.Di Tryz.underlying3) h2
   unfold Flo.Dw at h4;rw[Aia]at h4;obtain⟨b1,b2⟩:=h4;clear h1 h2 h3 hw hqd hdp
   cases b3:(FloatKind.f32.format.order (floatOfInt .f32 n) y == some .eq)with
   | false =>
     go_enter Vp.func66,Tryz.ntmps66
     go_wp2
     go_ret
     exact⟨rfl,Aq.refl _⟩
   | true =>
     go_enter Vp.func66,Tryz.ntmps66
     go_wp2
     go_ret
     exact⟨rfl,Aq.refl _⟩
def Az (cx cy:Nat)(deep size:Int):Bool:=Gf deep 0 10 && Gf size 1 8 && Flo.Be cx deep.toNat && Flo.Be cy deep.toNat
theorem Bj {cx cy:Nat}{deep size:Int}(h:Az cx cy deep size=true):0<=deep/\deep<=10/\1<=size/\size<=8:=by
 unfold Az Gf at h;simp only[Aia,Aiv]at h
 omega
theorem A3b (cx cy:Nat)(deep size:Int)(hx:cx<4294967296)(hy:cy<4294967296)(w:World):Calls Vp.prog 44 #[.complex .f32 cx cy,.int .i64 deep,.int .i64 size] w fun e w'=>e=.returned (.bool (Az cx cy deep size))/\Aq w w':=by
 unfold Az
 cases h1:Gf deep 0 10 with
 | false =>
   go_enter Vp.func44,Tryz.ntmps44
   go_wp2_with (go_at_call 19;refine(C7 _ _ _ _).mono ?_;rintro e w' ⟨rfl,rfl⟩)
   go_ret
   exact⟨rfl,Aq.refl _⟩
 | true =>
   cases h2:Gf size 1 8 with
   | false =>
     go_enter Vp.func44,Tryz.ntmps44
     go_wp2_with (go_at_call 19;refine(C7 _ _ _ _).mono ?_;rintro e w' ⟨rfl,rfl⟩)
     go_ret
     exact⟨rfl,Aq.refl _⟩
   | true =>
     obtain⟨d,rfl,hd⟩:∃d:Nat,deep=d/\d<=11:=by
      unfold Gf at h1;simp only[Aia,Aiv]at h1
      exact⟨deep.toNat,by omega,by omega⟩
     rw[Ajk];have HX:=Ai1 (fun w=>S8 cx d hx hd w)
     have HY:=Ai1 (fun w=>S8 cy d hy hd w)
     cases h3:Flo.Be cx d with
     | false =>
       rw[h3]at HX
       go_enter Vp.func44,Tryz.ntmps44
       go_wp2_with (first |(go_at_call 19;refine(C7 _ _ _ _).mono ?_;rintro e w' ⟨rfl,rfl⟩) |(go_at_call 66;refine(HX.out _).mono ?_;rintro e w1 ⟨rfl,d1⟩;have H1:=Ai1 d1;clear d1))
       go_ret
       exact⟨rfl,H1.out⟩
     | true =>
       rw[h3]at HX
       cases h4:Flo.Be cy d with
       | false =>
         rw[h4]at HY
         go_enter Vp.func44,Tryz.ntmps44
         go_wp2_with (first |(go_at_call 19;refine(C7 _ _ _ _).mono ?_;rintro e w' ⟨rfl,rfl⟩) |(go_at_call 66;refine(HX.out _).mono ?_;rintro e w1 ⟨rfl,d1⟩;have H1:=Ai1 d1;clear d1 HX) |(go_at_call 66;refine(HY.out _).mono ?_;rintro e w2 ⟨rfl,d1⟩;have H2:=Ai1 (H1.out.trans d1);clear d1))
         go_ret
         exact⟨rfl,H2.out⟩
       | true =>
         rw[h4]at HY
         go_enter Vp.func44,Tryz.ntmps44
         go_wp2_with (first |(go_at_call 19;refine(C7 _ _ _ _).mono ?_;rintro e w' ⟨rfl,rfl⟩) |(go_at_call 66;refine(HX.out _).mono ?_;rintro e w1 ⟨rfl,d1⟩;have H1:=Ai1 d1;clear d1 HX) |(go_at_call 66;refine(HY.out _).mono ?_;rintro e w2 ⟨rfl,d1⟩;have H2:=Ai1 (H1.out.trans d1);clear d1))
         go_ret
         exact⟨rfl,H2.out⟩
end
section
open Go.RowKit
theorem A7 (P:Program)(w:World)(a:Addr)(m:Mode)(k:FloatKind)(b:Nat):(store a (.float k b) m).run P w=stored P w a (.float k b) m:=run_store P w a _ m rfl
theorem A5 (P:Program)(w:World)(a:Addr)(m:Mode)(k:FloatKind)(x y:Nat):(store a (.complex k x y) m).run P w=stored P w a (.complex k x y) m:=run_store P w a _ m rfl
attribute [local go_sem] A7 A5
end
section
open Go.RowKit
def D6 (x:Nat):Value:=.float .f32 x
def Av (x:Int):Value:=.int .i64 x
def Bu (cx cy:Nat)(deep size:Int)(sm mk:Value):Array Value:=#[.complex .f32 cx cy,.int .i64 deep,.int .i64 size,sm,mk]
theorem Vl:(Vp.prog.info? 74).map (fun i=>(i.zero,i.size,i.bytes))=some (some (.float .f32 0),1,4):=by kernel_rfl
theorem Po:(Vp.prog.info? 3).map (fun i=>(i.zero,i.size,i.bytes))=some (some (.int .i64 0),1,8):=by kernel_rfl
theorem Af {w:World}{base:Nat}{e:TypeId}{size:Nat}{v:Value}{n:Nat}{xs:List Value}(h:w.ownsRow base e size v n xs){b:Nat}{C:Array Value}{T:TypeId}(hb:w.heap[b]?=some (.cells C T (0,0)))(hne:e≠T):v.ownBlock≠some b:=by
 rcases h.2 with⟨rfl,_⟩ |⟨g,cap,cur,rfl,_,hg,_⟩
 ·simp[Value.ownBlock]
 ·intro he;simp[Value.ownBlock]at he;subst he;rw[hg]at hb;injection hb with hb
  injection hb with _ hb _
  exact hne hb
theorem Cl {w:World}{base base':Nat}{e e':TypeId}{size size':Nat}{v v':Value}{n n':Nat}{xs xs':List Value}(h:w.ownsRow base e size v n xs)(h':w.ownsRow base' e' size' v' n' xs')(hne:e≠e'):v.ownBlock=none\/v.ownBlock≠v'.ownBlock:=by
 rcases h'.2 with⟨rfl,_⟩ |⟨g,cap,cur,rfl,_,hg,_⟩
 ·cases hv:v.ownBlock
  ·exact .inl rfl
  ·exact .inr (by simp[Value.ownBlock])
 ·exact .inr (Af h hg hne)
theorem Ab {w w':World}{base:Nat}{e:TypeId}{size:Nat}{v:Value}{n:Nat}{xs:List Value}(h:w.ownsRow base e size v n xs)(k:Below w.heap.size w w'):w'.ownsRow base e size v n xs :=
 h.kept ⟨k.os,k.tape,k.output,k.size,fun i hi _=>k.block i hi⟩ (row:=none) (by cases hv:v.ownBlock<;>simp)
theorem A8.grown {w0 W W':World}{b:Nat}{C:Array Value}{T:TypeId}(h:A8 w0 b C T W){row:Option Nat}(hg:W.grownBy W' row)(hne:row≠some b)(hrow:∀k,row=some k->w0.heap.size<=k):A8 w0 b C T W' :=
 ⟨(hg.block b h.lt (fun e=>hne e.symm)).trans h.blk,h.old.grown hg h.old.size hrow⟩
structure TM (w:World)(rb ob:Nat)(cx cy:Nat)(deep size:Int)(n m:Nat)(xs:List Nat)(ys:List Int)(smv mkv:Value)(W:World):Prop where
 O:A8 w ob (Bu cx cy deep size smv mkv) 35 W
 R:A8 w rb (Bu 0 0 0 0 (.slice none 0 0) (.slice none 0 0)) 35 W
 S:W.ownsRow w.heap.size 74 1 smv n (xs.map D6)
 M:W.ownsRow w.heap.size 3 1 mkv m (ys.map Av)
 hx:∀x,x∈xs->x<4294967296
 hy:∀y,y∈ys->-1<=y/\y<=1
 ne:rb≠ob
 hr:w.heap.size<=rb
 ho:w.heap.size<=ob
theorem TM.step {w:World}{rb ob cx cy n m:Nat}{deep size:Int}{xs:List Nat}{ys:List Int}{smv mkv:Value}{W W':World}(h:TM w rb ob cx cy deep size n m xs ys smv mkv W)(k:Below W.heap.size W W'):TM w rb ob cx cy deep size n m xs ys smv mkv W' :=
 ⟨h.O.step k,h.R.step k,Ab h.S k,Ab h.M k,h.hx,h.hy,h.ne,h.hr,h.ho⟩
theorem TM.alloc {w:World}{rb ob cx cy n m:Nat}{deep size:Int}{xs:List Nat}{ys:List Int}{smv mkv:Value}{W:World}(h:TM w rb ob cx cy deep size n m xs ys smv mkv W)(o:Obj):TM w rb ob cx cy deep size n m xs ys smv mkv (W.alloc o) :=
 h.step ((Aik _ _).alloc (Ai3 _) o)
theorem TM.Vd {w:World}{rb ob cx cy n m:Nat}{deep size:Int}{xs:List Nat}{ys:List Int}{smv mkv:Value}{W W':World}(h:TM w rb ob cx cy deep size n m xs ys smv mkv W)(k:Aq W W'):TM w rb ob cx cy deep size n m xs ys smv mkv W':=h.step (k.below _)
theorem TM.old {w:World}{rb ob cx cy n m:Nat}{deep size:Int}{xs:List Nat}{ys:List Int}{smv mkv:Value}{W:World}(h:TM w rb ob cx cy deep size n m xs ys smv mkv W):Below w.heap.size w W:=h.O.old
theorem A6 {w:World}{base:Nat}{e:TypeId}{size:Nat}{v:Value}{n:Nat}{xs:List Value}(h:w.ownsRow base e size v n xs){b j:Nat}{C:Array Value}{T:TypeId}(hb:w.heap[b]?=some (.cells C T (0,0)))(hne:e≠T)(u:Value):(w.setCell ⟨b,j,none⟩ u).ownsRow base e size v n xs :=
 ownsRow_setCell_other h (Af h hb hne) u
theorem A8.Aa {w0 W:World}{b:Nat}{v0 v1 v2 v3 v4:Value}{T:TypeId}(h:A8 w0 b #[v0,v1,v2,v3,v4] T W) :
 W.cell? ⟨b,0,none⟩=some v0/\W.cell? ⟨b,1,none⟩=some v1/\W.cell? ⟨b,2,none⟩=some v2/\W.cell? ⟨b,3,none⟩=some v3/\W.cell? ⟨b,4,none⟩=some v4 :=
 ⟨h.cell 0 _ rfl,h.cell 1 _ rfl,h.cell 2 _ rfl,h.cell 3 _ rfl,h.cell 4 _ rfl⟩
theorem A8.E7 {w0 W:World}{b:Nat}{C:Array Value}{T:TypeId}(h:A8 w0 b C T W) :
 W.frozen? ⟨b,0,none⟩=false/\W.frozen? ⟨b,1,none⟩=false/\W.frozen? ⟨b,2,none⟩=false/\W.frozen? ⟨b,3,none⟩=false/\W.frozen? ⟨b,4,none⟩=false :=
 ⟨h.frozen 0,h.frozen 1,h.frozen 2,h.frozen 3,h.frozen 4⟩
theorem TM.oc {w:World}{rb ob cx cy n m:Nat}{deep size:Int}{xs:List Nat}{ys:List Int}{smv mkv:Value}{W:World}(h:TM w rb ob cx cy deep size n m xs ys smv mkv W) :
 W.cell? ⟨ob,0,none⟩=some (.complex .f32 cx cy)/\W.cell? ⟨ob,1,none⟩=some (.int .i64 deep)/\W.cell? ⟨ob,2,none⟩=some (.int .i64 size)/\W.cell? ⟨ob,3,none⟩=some smv/\W.cell? ⟨ob,4,none⟩=some mkv:=h.O.Aa
theorem TM.rc {w:World}{rb ob cx cy n m:Nat}{deep size:Int}{xs:List Nat}{ys:List Int}{smv mkv:Value}{W:World}(h:TM w rb ob cx cy deep size n m xs ys smv mkv W) :
 W.cell? ⟨rb,0,none⟩=some (.complex .f32 0 0)/\W.cell? ⟨rb,1,none⟩=some (.int .i64 0)/\W.cell? ⟨rb,2,none⟩=some (.int .i64 0)/\W.cell? ⟨rb,3,none⟩=some (.slice none 0 0)/\W.cell? ⟨rb,4,none⟩=some (.slice none 0 0):=h.R.Aa
theorem TM.Hv {w:World}{rb ob cx cy n m:Nat}{deep size:Int}{xs:List Nat}{ys:List Int}{smv mkv v':Value}{W W':World}(h:TM w rb ob cx cy deep size n m xs ys smv mkv W){z:Nat}(hz:z<4294967296)(hown:W'.ownsRow w.heap.size 74 1 v' (n+1) (xs.map D6++[D6 z]))(hg:W.grownBy W' smv.ownBlock) :
 TM w rb ob cx cy deep size (n+1) m (xs++[z]) ys v' mkv (W'.setCell ⟨ob,3,none⟩ v')/\W'.cell? ⟨ob,3,none⟩=some smv/\W'.frozen? ⟨ob,3,none⟩=false:=by
 have hrow:∀k,smv.ownBlock=some k->w.heap.size<=k:=fun k hk=>(h.S.lt k hk).1
 have O:=h.O.grown hg (Af h.S h.O.blk (by decide)) hrow
 have R:=h.R.grown hg (Af h.S h.R.blk (by decide)) hrow
 have M:=h.M.kept hg (Cl h.M h.S (by decide))
 refine⟨⟨?_,R.other (p:=⟨ob,3,none⟩) h.ho h.ne _,?_,A6 M O.blk (by decide) _,?_,h.hy,h.ne,h.hr,h.ho⟩,O.cell 3 _ rfl,O.frozen 3⟩
 ·have:=O.set h.ho 3 v'
  exact this
 ·rw[Aj1]
  exact A6 hown O.blk (by decide) _
 ·intro x hx
  rcases Ajd.1 hx with hx|hx
  ·exact h.hx x hx
  ·rw[Ake]at hx;rw[hx];exact hz
theorem TM.mark {w:World}{rb ob cx cy n m:Nat}{deep size:Int}{xs:List Nat}{ys:List Int}{smv mkv v':Value}{W W':World}(h:TM w rb ob cx cy deep size n m xs ys smv mkv W){z:Int}(hz:-1<=z/\z<=1)(hown:W'.ownsRow w.heap.size 3 1 v' (m+1) (ys.map Av++[Av z]))(hg:W.grownBy W' mkv.ownBlock) :
 TM w rb ob cx cy deep size n (m+1) xs (ys++[z]) smv v' (W'.setCell ⟨ob,4,none⟩ v')/\W'.cell? ⟨ob,4,none⟩=some mkv/\W'.frozen? ⟨ob,4,none⟩=false:=by
 have hrow:∀k,mkv.ownBlock=some k->w.heap.size<=k:=fun k hk=>(h.M.lt k hk).1
 have O:=h.O.grown hg (Af h.M h.O.blk (by decide)) hrow
 have R:=h.R.grown hg (Af h.M h.R.blk (by decide)) hrow
 have S:=h.S.kept hg (Cl h.S h.M (by decide))
 refine⟨⟨?_,R.other (p:=⟨ob,4,none⟩) h.ho h.ne _,A6 S O.blk (by decide) _,?_,h.hx,?_,h.ne,h.hr,h.ho⟩,O.cell 4 _ rfl,O.frozen 4⟩
 ·have:=O.set h.ho 4 v'
  exact this
 ·rw[Aj1]
  exact A6 hown O.blk (by decide) _
 ·intro y hy
  rcases Ajd.1 hy with hy|hy
  ·exact h.hy y hy
  ·rw[Ake]at hy;rw[hy];exact hz
theorem TM.start {w W:World}{rb:Nat}(cx cy:Nat)(deep size:Int)(R:A8 w rb (Bu 0 0 0 0 (.slice none 0 0) (.slice none 0 0)) 35 W)(hr:w.heap.size<=rb) :
 TM w rb (W.heap.size+1+1) cx cy deep size 0 0 [] [] (.slice (some ⟨W.heap.size,0,none⟩) 0 0) (.slice (some ⟨W.heap.size+1,0,none⟩) 0 0) (((W.alloc (.cells #[] 74)).alloc (.cells #[] 3)).alloc (.cells (Bu cx cy deep size (.slice (some ⟨W.heap.size,0,none⟩) 0 0) (.slice (some ⟨W.heap.size+1,0,none⟩) 0 0)) 35)):=by
 have hs:=R.old.size;have hlt:=R.lt
 refine⟨?_,((R.alloc _).alloc _).alloc _,?_,?_,(fun x hx=>by cases hx),(fun x hx=>by cases hx),by omega,hr,by omega⟩
 ·have:=(A8.new ((W.alloc (.cells #[] 74)).alloc (.cells #[] 3)) (Bu cx cy deep size (.slice (some ⟨W.heap.size,0,none⟩) 0 0) (.slice (some ⟨W.heap.size+1,0,none⟩) 0 0)) 35).up (w0:=w) ((R.alloc _).alloc _).old
  simpa only[Aim]using this
 ·have:=Al6 (e:=74) (size:=1) (base:=w.heap.size) W #[] 0 hs (by decide) rfl
  exact(this.alloc _).alloc _
 ·have:=Al6 (e:=3) (size:=1) (base:=w.heap.size) (W.alloc (.cells #[] 74)) #[] 0 (by simp;omega) (by decide) rfl
  rw[Aim]at this
  exact this.alloc _
structure Made (B n:Nat)(xs:List Nat)(ys:List Int)(smv mkv:Value)(W:World):Prop where
 S:W.ownsRow B 74 1 smv n (xs.map D6)
 M:W.ownsRow B 3 1 mkv n (ys.map Av)
 lx:xs.length=n
 ly:ys.length=n
 hx:∀x,x∈xs->x<4294967296
 hy:∀y,y∈ys->-1<=y/\y<=1
theorem Made.set {B n:Nat}{xs:List Nat}{ys:List Int}{smv mkv:Value}{W:World}(h:Made B n xs ys smv mkv W){b:Nat}{C:Array Value}(hb:W.heap[b]?=some (.cells C 35 (0,0)))(j:Nat)(u:Value):Made B n xs ys smv mkv (W.setCell ⟨b,j,none⟩ u) :=
 ⟨A6 h.S hb (by decide) u,A6 h.M hb (by decide) u,h.lx,h.ly,h.hx,h.hy⟩
theorem TM.made {w:World}{rb ob cx cy n:Nat}{deep size:Int}{s:Nat}{xs:List Nat}{ys:List Int}{smv mkv:Value}{W:World}(h:TM w rb ob cx cy deep size n n xs ys smv mkv W)(hn:n=s*s)(u0 u1 u2 u3 u4:Value) :
 Made w.heap.size ((s:Int).toNat *(s:Int).toNat) xs ys smv mkv (((((W.setCell ⟨rb,0,none⟩ u0).setCell ⟨rb,1,none⟩ u1).setCell ⟨rb,2,none⟩ u2).setCell ⟨rb,3,none⟩ u3).setCell ⟨rb,4,none⟩ u4):=by
 have lx:xs.length=n:=by have:=h.S.1;simpa using this
 have ly:ys.length=n:=by have:=h.M.1;simpa using this
 have m0:Made w.heap.size n xs ys smv mkv W:=⟨h.S,h.M,lx,ly,h.hx,h.hy⟩;have b0:=h.R;have b1:=b0.set h.hr 0 u0;have b2:=b1.set h.hr 1 u1;have b3:=b2.set h.hr 2 u2;have b4:=b3.set h.hr 3 u3;rw[Ajk,<-hn]
 exact((((m0.set b0.blk 0 u0).set b1.blk 1 u1).set b2.blk 2 u2).set b3.blk 3 u3).set b4.blk 4 u4
theorem Made.step {B n:Nat}{xs:List Nat}{ys:List Int}{smv mkv:Value}{W W':World}(h:Made B n xs ys smv mkv W)(k:Below W.heap.size W W'):Made B n xs ys smv mkv W' :=
 ⟨Ab h.S k,Ab h.M k,h.lx,h.ly,h.hx,h.hy⟩
theorem Made.mono {B B' n:Nat}{xs:List Nat}{ys:List Int}{smv mkv:Value}{W:World}(h:Made B n xs ys smv mkv W)(hB:B'<=B):Made B' n xs ys smv mkv W:=by
 obtain⟨⟨s1,s2⟩,⟨m1,m2⟩,r1,r2,r3,r4⟩:=h
 refine⟨⟨s1,?_⟩,⟨m1,?_⟩,r1,r2,r3,r4⟩
 ·rcases s2 with h |⟨g,cap,cur,h1,h2,r⟩
  ·exact .inl h
  ·exact .inr ⟨g,cap,cur,h1,Ai5 hB h2,r⟩
 ·rcases m2 with h |⟨g,cap,cur,h1,h2,r⟩
  ·exact .inl h
  ·exact .inr ⟨g,cap,cur,h1,Ai5 hB h2,r⟩
theorem I1 {w W:World}(h:Below w.heap.size w W){b:Nat}(hb:w.heap.size<=b)(u0 u1 u2 u3 u4:Value) :
 Below w.heap.size w (((((W.setCell ⟨b,0,none⟩ u0).setCell ⟨b,1,none⟩ u1).setCell ⟨b,2,none⟩ u2).setCell ⟨b,3,none⟩ u3).setCell ⟨b,4,none⟩ u4) :=
 ((((h.setCell (p:=⟨b,0,none⟩) hb _).setCell (p:=⟨b,1,none⟩) hb _).setCell (p:=⟨b,2,none⟩) hb _).setCell (p:=⟨b,3,none⟩) hb _).setCell (p:=⟨b,4,none⟩) hb _
end
section
open Go.RowKit
attribute [local go_sem ↓] Go.wp_at_zero Go.wp_at_succ
theorem S7 (cx cy d:Nat)(i j:Int)(hd:d<=11){p q x y:Nat}(h1:floatBits .mul .f32 (floatOfInt .f32 j) (Flo.D7 d)=some p)(h2:floatBits .mul .f32 (floatOfInt .f32 i) (Flo.D7 d)=some q)
 (h3:floatBits .add .f32 cx p=some x) (h4:floatBits .add .f32 cy q=some y) (w:World) :
 Calls Vp.prog 48 #[.complex .f32 cx cy,.int .i64 d,.int .i64 i,.int .i64 j] w fun e w'=>e=.returned (.complex .f32 x y)/\w=w':=by
 have g1:=fun w=>Aj6 (P:=Vp.prog) w .mul 74 .f32 _ _ _ h1
 have g2:=fun w=>Aj6 (P:=Vp.prog) w .mul 74 .f32 _ _ _ h2
 have g3:=fun w=>All (P:=Vp.prog) w .add (.inl rfl) 23 .f32 cx cy p q x y (by unfold cSumBits;rw[h3,h4];rfl)
 have HS:=Ai1 (fun w=>Vt d hd w)
 clear h1 h2 h3 h4;generalize Flo.D7 d=r at *
 go_enter Vp.func48,Tryz.ntmps48
 go_wp2_with (go_at_call 74;refine(HS.out _).mono ?_;rintro e w' ⟨rfl,rfl⟩)
 go_ret
 exact⟨rfl,rfl⟩
theorem Sm (cx cy d:Nat)(i j:Int)(hd:d<=11){p q x y:Nat}(h1:floatBits .mul .f32 (floatOfInt .f32 j) (Flo.D7 d)=some p)(h2:floatBits .mul .f32 (floatOfInt .f32 i) (Flo.D7 d)=some q)
 (h3:floatBits .add .f32 cx p=some x) (h4:floatBits .add .f32 cy q=some y) (w:World) :
 Calls Vp.prog 32 #[.complex .f32 cx cy,.int .i64 d,.int .i64 i,.int .i64 j] w fun e w'=>e=.returned (.complex .f32 x y)/\w=w':=by
 have g1:=fun w=>Aj6 (P:=Vp.prog) w .mul 74 .f32 _ _ _ h1
 have g2:=fun w=>Aj6 (P:=Vp.prog) w .mul 74 .f32 _ _ _ h2
 have g3:=fun w=>All (P:=Vp.prog) w .add (.inl rfl) 23 .f32 cx cy p q x y (by unfold cSumBits;rw[h3,h4];rfl)
 have HS:=Ai1 (fun w=>Wk d hd w)
 clear h1 h2 h3 h4;generalize Flo.D7 d=r at *
 go_enter Vp.func32,Tryz.ntmps32
 go_wp2_with (go_at_call 56;refine(HS.out _).mono ?_;rintro e w' ⟨rfl,rfl⟩)
 go_ret
 exact⟨rfl,rfl⟩
theorem Ia (x d:Nat)(n N:Int)(hd:d<=11)(hx:Flo.Pt x d n)(hn:n.natAbs<=65536)(hN:N=n *(2^(24-d):Nat))(h1:-134217728<=N)(h2:N<=134217728)(w:World) :
 Calls Vp.prog 92 #[.float .f32 x] w fun e w'=>e=.returned (.tuple #[.int .i64 N,.int .i64 N,.bool true])/\w=w':=by
 obtain⟨y1,y,e1,e2,hv,e3⟩:=Flo.O6 hd hx hn;rw[<-hN]at hv e3;obtain⟨b1,b2,b3,b4⟩:=Flo.Q1 (by omega) hv
 rw[Aip h1]at b1;rw[Aip h2]at b2;have g1:=fun w=>Ajy (P:=Vp.prog) w 74 129 .f32 .f64 _ _ (by kernel_rfl) (Vp.Di Tryz.underlying129) e1
 have g2:=fun w=>Aj6 (P:=Vp.prog) w .mul 129 .f64 _ _ _ e2
 have g3:=fun w=>Amf (P:=Vp.prog) w 129 3 .f64 .i64 _ _ (by kernel_rfl) (Vp.Di Tryz.underlying3) e3
 clear e1 e2 e3 hv hx hn hN h1 h2 hd
 go_enter Vp.func92,Tryz.ntmps92
 go_wp2
 go_ret3
 exact⟨rfl,rfl⟩
theorem A3a (a b c d:Int)(hv:Bg a b c d=true)(w:World):Calls Vp.prog 93 #[.agg #[.int .i64 a,.int .i64 b,.int .i64 c,.int .i64 d]] w fun e w'=>e=.returned (.tuple #[.agg #[.int .i64 a,.int .i64 b,.int .i64 c,.int .i64 d],.bool true])/\Below w.heap.size w w':=by
 have X0:A8 w w.heap.size #[.int .i64 a,.int .i64 b,.int .i64 c,.int .i64 d] 93 ((w.alloc (.cells #[.int .i64 a,.int .i64 b,.int .i64 c,.int .i64 d] 93)).alloc (.cells #[.int .i64 0,.int .i64 0,.int .i64 0,.int .i64 0] 93)):=(A8.new w _ _).alloc _
 have X1:A8 w (w.heap.size+1) #[.int .i64 0,.int .i64 0,.int .i64 0,.int .i64 0] 93 ((w.alloc (.cells #[.int .i64 a,.int .i64 b,.int .i64 c,.int .i64 d] 93)).alloc (.cells #[.int .i64 0,.int .i64 0,.int .i64 0,.int .i64 0] 93)):=by
  have:=(A8.new (w.alloc (.cells #[.int .i64 a,.int .i64 b,.int .i64 c,.int .i64 d] 93)) #[.int .i64 0,.int .i64 0,.int .i64 0,.int .i64 0] 93).up (w0:=w) ((Aik _ _).alloc (Ai3 _) _)
  rwa [Aim]at this
 have HF:Hid (∀W,Below w.heap.size w W->∀u0 u1 u2 u3,Below w.heap.size w ((((W.setCell ⟨w.heap.size+1,0,none⟩ u0).setCell ⟨w.heap.size+1,1,none⟩ u1).setCell ⟨w.heap.size+1,2,none⟩ u2).setCell ⟨w.heap.size+1,3,none⟩ u3)):=fun W h u0 u1 u2 u3 =>
  (((h.setCell (p:=⟨w.heap.size+1,0,none⟩) (by simp) _).setCell (p:=⟨w.heap.size+1,1,none⟩) (by simp) _).setCell (p:=⟨w.heap.size+1,2,none⟩) (by simp) _).setCell (p:=⟨w.heap.size+1,3,none⟩) (by simp) _
 go_enter Vp.func93,Tryz.ntmps93
 go_wp2_with fail
 refine(Cb a b c d _).mono ?_
 rw[hv];rintro e w1 ⟨rfl,hb⟩;replace X0:=X0.step hb;replace X1:=X1.step hb;clear hb;have x0:=X0.cell 0 _ rfl;have x1:=X0.cell 1 _ rfl;have x2:=X0.cell 2 _ rfl;have x3:=X0.cell 3 _ rfl;have c0:=X1.cell 0 _ rfl;have c1:=X1.cell 1 _ rfl;have c2:=X1.cell 2 _ rfl;have c3:=X1.cell 3 _ rfl;have f0:=X1.frozen 0;have f1:=X1.frozen 1;have f2:=X1.frozen 2;have f3:=X1.frozen 3;have HB:=Ai1 X1.old;clear X0 X1
 go_wp2
 exact Ai6 (v:=.tuple #[.agg #[.int .i64 a,.int .i64 b,.int .i64 c,.int .i64 d],.bool true]) (by simp[results,Tryz.f93,go_sem,c0,c1,c2,c3]) rfl ⟨rfl,HF.out _ HB.out _ _ _ _⟩
theorem A6c (x y d:Nat)(a b A B:Int)(hd:d<=11)(hx:Flo.Pt x d a)(hy:Flo.Pt y d b)(ha:a.natAbs<=65536)(hb:b.natAbs<=65536)(hA:A=a *(2^(24-d):Nat))(hB:B=b *(2^(24-d):Nat))
 (h1:-134217728<=A) (h2:A<=134217728) (h3:-134217728<=B) (h4:B<=134217728) (w:World) :
 Calls Vp.prog 67 #[.complex .f32 x y] w fun e w'=>e=.returned (.tuple #[.agg #[.int .i64 A,.int .i64 A,.int .i64 B,.int .i64 B],.bool true])/\Below w.heap.size w w':=by
 have X:=A8.new w #[.int .i64 0,.int .i64 0,.int .i64 0,.int .i64 0] 93
 have HF:Hid (∀W,Below w.heap.size w W->∀u0 u1 u2 u3,Below w.heap.size w ((((W.setCell ⟨w.heap.size,0,none⟩ u0).setCell ⟨w.heap.size,1,none⟩ u1).setCell ⟨w.heap.size,2,none⟩ u2).setCell ⟨w.heap.size,3,none⟩ u3)):=fun W h u0 u1 u2 u3 =>
  (((h.setCell (p:=⟨w.heap.size,0,none⟩) (Ai3 _) _).setCell (p:=⟨w.heap.size,1,none⟩) (Ai3 _) _).setCell (p:=⟨w.heap.size,2,none⟩) (Ai3 _) _).setCell (p:=⟨w.heap.size,3,none⟩) (Ai3 _) _
 have HX:=Ai1 (fun w=>Ia x d a A hd hx ha hA h1 h2 w)
 have HY:=Ai1 (fun w=>Ia y d b B hd hy hb hB h3 h4 w)
 have HV:Hid (Bg A A B B=true):=by
  show Bg A A B B=true
  unfold Bg Gf;simp only[Aia,Aiv]
  omega
 clear hx hy hA hB ha hb
 go_enter Vp.func67,Tryz.ntmps67
 go_wp2_with fail
 refine(HX.out _).mono ?_
 rintro e w1 ⟨rfl,rfl⟩
 go_wp2_with fail
 refine(HY.out _).mono ?_
 rintro e w1 ⟨rfl,rfl⟩
 go_wp2_with fail
 refine(A3a A A B B HV.out _).mono ?_
 rintro e w3 ⟨rfl,hb⟩;replace X:=X.step hb;clear hb;have c0:=X.cell 0 _ rfl;have c1:=X.cell 1 _ rfl;have c2:=X.cell 2 _ rfl;have c3:=X.cell 3 _ rfl;have f0:=X.frozen 0;have f1:=X.frozen 1;have f2:=X.frozen 2;have f3:=X.frozen 3;have HB:=Ai1 X.old;clear X
 go_wp2
 exact Ai6 (v:=.tuple #[.agg #[.int .i64 A,.int .i64 A,.int .i64 B,.int .i64 B],.bool true]) (by simp[results,Tryz.f67,go_sem,c0,c1,c2,c3]) rfl ⟨rfl,HF.out _ HB.out _ _ _ _⟩
theorem Mu (d:Nat)(hd:d<=11):(16777216:Int) / 2^d=(2^(24-d):Nat):=by
 rcases(by omega:d=0\/d=1\/d=2\/d=3\/d=4\/d=5\/d=6\/d=7\/d=8\/d=9\/d=10\/d=11)with rfl|rfl|rfl|rfl|rfl|rfl|rfl|rfl|rfl|rfl|rfl|rfl<;>rfl
end
section
open Go.RowKit
def Ag0 (x y z u:Int):Value:=.agg #[.int .i64 x,.int .i64 y,.int .i64 z,.int .i64 u]
end
end Go.Proofs.YtlfleicchbgcmaaGreat
section
namespace Go.Proofs.YtlfleicchbgcmaaGreat
namespace Flo
open Ieee
theorem neg_neg (k:FloatKind)(x:Nat):Op.negFloat k (Op.negFloat k x)=x:=by
 unfold Op.negFloat;rw[Nat.xor_assoc,Nat.xor_self,Nat.xor_zero]
end Flo
end Go.Proofs.YtlfleicchbgcmaaGreat
end
namespace Go.Proofs.YtlfleicchbgcmaaGreat
end Go.Proofs.YtlfleicchbgcmaaGreat
