import Derived.Test.YtjaehldnlamgkaaGreatDoorXe29
import Derived.Test.YtjaehldnlamgkaaGreatDoorXe0
import Derived.Test.YtjaehldnlamgkaaGreatDoorXeK
set_option linter.all false
set_option maxHeartbeats 16000000
set_option maxRecDepth 100000
namespace Go.Proofs.YtjaehldnlamgkaaGreatDoor
end Go.Proofs.YtjaehldnlamgkaaGreatDoor
section
namespace Go.Proofs.YtjaehldnlamgkaaGreatDoor
namespace Flo
open Ieee
theorem Aem {f:Format}{s:Bool}{mag:Nat}{place:Int}{a b:Nat}{T U:Int}(hT:Pa f T)(hU:Pa f U)(hp:place-f.leastPlace=(a:Int)-b)
 (h1:T *(2^b:Nat) <=(if s then -(mag:Int)else mag) *(2^a:Nat)) (h2:(if s then -(mag:Int)else mag) *(2^a:Nat)<=U *(2^b:Nat)) :
 Cf f (f.nearest s mag place) (iv f (f.nearest s mag place))/\T<=iv f (f.nearest s mag place)/\iv f (f.nearest s mag place)<=U:=by
 obtain⟨rt,ht,et⟩:=hT;obtain⟨ru,hu,eu⟩:=hU;have hb:(0:Int) <(2^b:Nat):=by have:=Am9 b;omega
 have hm:(0:Int) <=(mag:Int) *(2^a:Nat):=Anl (Apx _) (Apx _)
 cases s with
 | false =>
   simp only[Amk,Ao5]at h1 h2
   have hU0:0<=U:=by
    rcases Aoz U 0 with h|h
    ·have:=Int.mul_neg_of_neg_of_pos h hb;omega
    ·exact h
   have hu2:mag*2^a<=rv f ru*2^b:=by
    rw[eu];have e:(U.natAbs:Int)=U:=by omega
    have:((mag*2^a:Nat):Int) <=((U.natAbs*2^b:Nat):Int):=by rw[An2,An2,e];exact h2
    exact Int.ofNat_le.1 this
   have r1:=Yn (neg:=false) hp hu2;have hw:=Nd f false (rnd f false mag place) (by omega)
   rw[Cl];have hv:iv f (f.word false (rnd f false mag place))=(rv f (rnd f false mag place):Int):=by rw[hw.2];rfl
   refine⟨⟨by rw[<-Cl];exact Format.nearest_lt _ _ _ _,hw.1,rfl⟩,?_,?_⟩
   ·rw[hv]
    rcases Aoz 0 T with h|h
    ·have ht2:rv f rt*2^b<=mag*2^a:=by
      rw[et];have e:(T.natAbs:Int)=T:=by omega
      have:((T.natAbs*2^b:Nat):Int) <=((mag*2^a:Nat):Int):=by rw[An2,An2,e];exact h1
      exact Int.ofNat_le.1 this
     have:=Kv f (Ym (neg:=false) (Apt ht) hp ht2)
     omega
    ·omega
   ·rw[hv];have:=Kv f r1
    omega
 | true =>
   simp only[Apg]at h1 h2;rw[Apq]at h1 h2
   have hT0:T<=0:=by
    rcases Aoz 0 T with h|h
    ·have:=Int.mul_pos h hb;omega
    ·exact h
   have ht2:mag*2^a<=rv f rt*2^b:=by
    rw[et];have e:(T.natAbs:Int)=-T:=by omega
    have:((mag*2^a:Nat):Int) <=((T.natAbs*2^b:Nat):Int):=by rw[An2,An2,e,Apq];omega
    exact Int.ofNat_le.1 this
   have r1:=Yn (neg:=true) hp ht2;have hw:=Nd f true (rnd f true mag place) (by omega)
   rw[Cl];have hv:iv f (f.word true (rnd f true mag place))=-(rv f (rnd f true mag place):Int):=by rw[hw.2];rfl
   refine⟨⟨by rw[<-Cl];exact Format.nearest_lt _ _ _ _,hw.1,rfl⟩,?_,?_⟩
   ·rw[hv];have:=Kv f r1
    omega
   ·rw[hv]
    rcases Aoz U 0 with h|h
    ·have hu2:rv f ru*2^b<=mag*2^a:=by
      rw[eu];have e:(U.natAbs:Int)=-U:=by omega
      have:((U.natAbs*2^b:Nat):Int) <=((mag*2^a:Nat):Int):=by rw[An2,An2,e,Apq];omega
      exact Int.ofNat_le.1 this
     have:=Kv f (Ym (neg:=true) (Apt hu) hp hu2)
     omega
    ·omega
theorem Pc {f:Format}{x y:Nat}{a b T U:Int}(hx:Cf f x a)(hy:Cf f y b)(hT:Pa f T)(hU:Pa f U)(h1:T<=a+b)(h2:a+b<=U) :
 ∃z,f.add x y=some z/\Cf f z (iv f z)/\T<=iv f z/\iv f z<=U:=by
 unfold Format.add;rw[Ak hx.fin,Ak hy.fin];have hi:signed (Gv f x) (rm f (A8 f x)) (re f (A8 f x))=a:=(Dg f x).trans hx.iv;have hj:signed (Gv f y) (rm f (A8 f y)) (re f (A8 f y))=b:=(Dg f y).trans hy.iv;generalize Gv f x=s at *;generalize Gv f y=t at *;generalize rm f (A8 f x)=m at *;generalize rm f (A8 f y)=n at *;generalize re f (A8 f x)=i at *;generalize re f (A8 f y)=j at *;simp only[Datum.sum,Ao6,Format.write]
 refine⟨_,rfl,?_⟩
 obtain⟨c,hc⟩:∃c:Nat,min (f.leastPlace +(i:Int)) (f.leastPlace +(j:Int))=f.leastPlace+c:=⟨min i j,by omega⟩
 rw[hc];obtain⟨i',hi'⟩:∃i',i=i'+c:=⟨i-c,by omega⟩
 obtain⟨j',hj'⟩:∃j',j=j'+c:=⟨j-c,by omega⟩
 have e1:(f.leastPlace +(i:Int)-(f.leastPlace+c)).toNat=i':=by omega
 have e2:(f.leastPlace +(j:Int)-(f.leastPlace+c)).toNat=j':=by omega
 rw[e1,e2];rw[hi',Bn]at hi;rw[hj',Bn]at hj;generalize signed s m i'=p at *;generalize signed t n j'=q at *;have hsum:(p+q) *(2^c:Nat)=a+b:=by rw[Apc,hi,hj]
 have hsg:(if(if p+q=0 then s && t else decide (p+q<0))then -((p+q).natAbs:Int)else((p+q).natAbs:Int))=p+q:=by
  by_cases h0:p+q=0
  ·rw[h0];simp
  ·rw[Amd h0]
   by_cases hn:p+q<0
   ·rw[An0 hn,Amo rfl];omega
   ·rw[Ana hn,Amd (by decide)];omega
 refine Aem (a:=c) (b:=0) hT hU (by omega) ?_ ?_
 ·rw[hsg,hsum];simpa using h1
 ·rw[hsg,hsum];simpa using h2
end Flo
end Go.Proofs.YtjaehldnlamgkaaGreatDoor
end
namespace Go.Proofs.YtjaehldnlamgkaaGreatDoor
namespace Flo
open Go.RowKit Ieee
structure Bd (B:Nat)(x:Nat):Prop where
 val:Cf single x (iv single x)
 le:(iv single x).natAbs<=B*2^u32
theorem Bd.nan {B x:Nat}(h:Bd B x):Flo.nan .f32 x=false:=Zc (k:=.f32) h.val
theorem T9 {z B sR:Nat}(hr:sR<single.infRung)(hB:rv single sR=B*2^u32)(hz:Cf double z (iv double z))(hb:(iv double z).natAbs<=B*2^u64) :
 ∃u,floatToFloatBits .f64 z .f32=some u/\Bd B u:=by
 have hd:=C9 hz
 have hn:=Me (f:=single) (s:=Gv double z) (mag:=rm double (A8 double z)) (place:=double.leastPlace+re double (A8 double z)) (r:=sR) (a:=re double (A8 double z)) (b:=Gg) hr (by rw[Ga,G7,P8];omega) (by
  rw[hB,<-hd];have:B*2^u32*2^Gg=B*2^u64:=by rw[Ams,<-Amj,show u32+Gg=u64 from rfl]
  rw[this];exact hb)
 unfold floatToFloatBits;rw[Amd (by decide)]
 have hdec:FloatKind.decode .f64 z=.number (Gv double z) (rm double (A8 double z)) (double.leastPlace+re double (A8 double z)):=Ak hz.fin;rw[hdec];have hni:(FloatKind.decode .f32 (FloatKind.encode .f32 (.number (Gv double z) (rm double (A8 double z)) (double.leastPlace+re double (A8 double z))))).isInfinity=false:=Zb (k:=.f32) hn.1;simp only[hni]
 exact⟨_,rfl,⟨hn.1,by rw[<-hB];exact hn.2⟩⟩
theorem Af5 {x y:Nat}(hx:x<4294967296)(hy:y<4294967296)(h:Py (Bj (A5 x) (A5 y))=true) :
 Bd 5 (Ax (Hp (A5 x) (A5 y)))/\Bd 5 (Ax (Ho (A5 x) (A5 y))):=by
 have hnar:∀{z:Nat},Cf double z (iv double z) ->(iv double z).natAbs<=5*2^u64->Bd 5 (Ax z):=fun hv hb=>by
  obtain⟨u,hu,hbd⟩:=T9 Sk Vw hv hb;unfold Ax;rw[hu];exact hbd
 have vx:Cf single x (iv single x):=⟨hx,Nb h,rfl⟩;have vy:Cf single y (iv single y):=⟨hy,Kn h,rfl⟩;obtain⟨X,eX,vX⟩:=Di vx;obtain⟨Y,eY,vY⟩:=Di vy;have wx:A5 x=X:=by unfold A5;rw[eX];rfl
 have wy:A5 y=Y:=by unfold A5;rw[eY];rfl
 rw[wx,wy]at h ⊢;have pxx:=Fq vx vx vX vX;have pyy:=Fq vy vy vY vY;have pxy:=Fq vx vy vX vY;have eK:(5*2^u64:Nat)=5*2^Qp*2^H6:=by rw[Ams,<-Amj,show Qp+H6=u64 from rfl]
 have hsum:iv single x*iv single x+iv single y*iv single y <((5*2^Qp:Nat):Int):=by
  rcases Aoz (iv single x*iv single x+iv single y*iv single y) ((5*2^Qp:Nat):Int)with h1|h1
  ·exact h1
  ·exfalso
   have:=Zo pxx pyy (by
    rw[eK,<-Apc,An2 (5*2^Qp)]
    exact Aoy h1 (Apx _))
   unfold Bj at h;rw[this]at h;cases h
 have sx:0<=iv single x*iv single x:=sq_pos _;have sy:0<=iv single y*iv single y:=sq_pos _;have h2:0 <=(iv single x-iv single y) *(iv single x-iv single y):=sq_pos _;have h3:0 <=(iv single x+iv single y) *(iv single x+iv single y):=sq_pos _
 have e2:(iv single x-iv single y) *(iv single x-iv single y)=iv single x*iv single x+iv single y*iv single y-2 *(iv single x*iv single y):=by
  rw[Int.sub_mul,Int.mul_sub,Int.mul_sub,Ao8 (iv single y) (iv single x)];omega
 have e3:(iv single x+iv single y) *(iv single x+iv single y)=iv single x*iv single x+iv single y*iv single y+2 *(iv single x*iv single y):=by
  rw[Apc,Int.mul_add,Int.mul_add,Ao8 (iv single y) (iv single x)];omega
 rw[e2]at h2;rw[e3]at h3;clear e2 e3;generalize iv single x*iv single x=A at *;generalize iv single y*iv single y=B at *;generalize iv single x*iv single y=C at *
 have bd:∀T:Int,T.natAbs<=5*2^Qp ->(T *(2^H6:Nat)).natAbs<=5*2^u64:=by
  intro T hT;rw[Amq,Ame,eK]
  exact Am3 _ hT
 constructor
 ·obtain⟨z,hz,hv,hb⟩:=Acu (r:=r5) pxx pyy Sj (by
   rw[Ii,<-Int.sub_mul]
   exact bd _ (by generalize (2:Nat)^298=U at *;omega))
  rw[Ii]at hb
  have e:Hp X Y=z:=by
   unfold Hp C6;unfold C6 at hz;rw[show floatBits .sub .f64 ((floatBits .mul .f64 X X).getD (Nf .f64)) ((floatBits .mul .f64 Y Y).getD (Nf .f64))=some z from hz];rfl
  rw[e]
  exact hnar hv hb
 ·have two:Cf double 4611686018427387904 ((2:Int) *(2^u64:Nat)):=by
   refine⟨by decide,by unfold fin;decide,?_⟩
   unfold iv;rw[Amd (by decide)]
   have:rv double (A8 double 4611686018427387904)=2*2^u64:=by kernel_rfl
   rw[this];simp
  have hrep:Pa double (2 *(C *(2^H6:Nat))):=by
   exact A6i pxy (by have:=bd (2*C) (by generalize (2:Nat)^298=U at *;omega);rw[Ano]at this;exact this)
  obtain⟨z,hz,hv⟩:=Hb (f:=double) (c:=2 *(C *(2^H6:Nat))) Cj two pxy (by rw[Int.mul_right_comm]) hrep
  have e:Ho X Y=z:=by
   unfold Ho
   show(floatBits .mul .f64 4611686018427387904 (C6 .mul .f64 X Y)).getD _=z
   rw[show floatBits .mul .f64 4611686018427387904 (C6 .mul .f64 X Y)=some z from hz];rfl
  rw[e]
  refine hnar (by rw[hv.iv];exact hv) ?_
  rw[hv.iv];have:=bd (2*C) (by generalize (2:Nat)^298=U at *;omega)
  rw[Ano]at this
  exact this
theorem Afw:Pa single ((16*2^u32:Nat):Int):=Yl (m:=1) (e:=u32+4) (by rw[Ame,Nat.one_mul,Amj,An3]) (by rw[Az];decide) (by decide) (by decide)
theorem Pa.neg {f:Format}{v:Int}(h:Pa f v):Pa f (-v):=by
 obtain⟨r,h1,h2⟩:=h
 exact⟨r,h1,by rw[Int.natAbs_neg];exact h2⟩
theorem A9y {x c:Nat}(hx:Bd 5 x)(hc:Bd 8 c):Bd 16 (C6 .add .f32 x c):=by
 have h1:=hx.le;have h2:=hc.le;have hp:=Am9 u32;obtain⟨z,hz,hv,g1,g2⟩:=Pc hx.val hc.val Afw.neg Afw (by generalize 2^u32=U at *;omega) (by generalize 2^u32=U at *;omega)
 have e:C6 .add .f32 x c=z:=by unfold C6;rw[show floatBits .add .f32 x c=some z from hz];rfl
 rw[e]
 exact⟨hv,by generalize 2^u32=U at *;omega⟩
theorem A5r:Bd 16 0:=by
 have h:Cf single 0 0:=⟨by decide,by unfold fin;decide,by decide⟩
 exact⟨by rw[h.iv];exact h,by rw[h.iv];exact Amu _⟩
theorem Abm {c d:Nat}(hc:Bd 8 c)(hd:Bd 8 d){k:Nat}(h:∀j,j<k->Nj c d j=true):Bd 16 (E8 c d k).1/\Bd 16 (E8 c d k).2:=by
 cases k with
 | zero=>exact⟨A5r,A5r⟩
 | succ k =>
   have ho:=h k (by omega)
   unfold Nj at ho;obtain⟨h1,h2⟩:=Af5 (R8 c d k).1 (R8 c d k).2 ho
   exact⟨A9y h1 hc,A9y h2 hd⟩
def Akp:Nat:=1140850688
theorem Ako:rv single Akp=512*2^u32:=by kernel_rfl
theorem Agu:Akp<single.infRung:=by decide
theorem Abu:Pa double ((512*2^u64:Nat):Int):=Yl (m:=1) (e:=u64+9) (by rw[Ame,Nat.one_mul,Amj,An3]) (by rw[Ai];decide) (by decide) (by decide)
theorem A6c {x y:Nat}(hx:Bd 16 x)(hy:Bd 16 y):∃m u,Bj (A5 x) (A5 y)=m/\Flo.nan .f64 m=false/\floatToFloatBits .f64 m .f32=some u/\Flo.nan .f32 u=false:=by
 obtain⟨X,eX,vX⟩:=Di hx.val;obtain⟨Y,eY,vY⟩:=Di hy.val;have wx:A5 x=X:=by unfold A5;rw[eX];rfl
 have wy:A5 y=Y:=by unfold A5;rw[eY];rfl
 rw[wx,wy];have pxx:=Fq hx.val hx.val vX vX;have pyy:=Fq hy.val hy.val vY vY
 have eK:(256*2^u64:Nat)=16*2^u32 *(16*2^u32)*2^H6:=by
  have:2^u64=2^u32*2^u32*2^H6:=by rw[<-Amj,<-Amj,show u32+u32+H6=u64 from rfl]
  rw[this];generalize 2^u32=U;generalize 2^H6=K;rw[show 16*U *(16*U)=256 *(U*U)from by rw[Nat.mul_mul_mul_comm]]
  rw[Ams 256]
 have sq:∀a:Int,a.natAbs<=16*2^u32 ->(a*a *(2^H6:Nat)).natAbs<=256*2^u64:=fun a ha=>by
  rw[Amq,Amq,Ame,eK]
  exact Am3 _ (Ap4 ha ha)
 have b1:=sq _ hx.le;have b2:=sq _ hy.le;obtain⟨z,hz,hv,g1,g2⟩:=Pc pxx pyy Abu.neg Abu (by generalize 2^u64=U at *;omega) (by generalize 2^u64=U at *;omega)
 have e:Bj X Y=z:=by
  unfold Bj
  show(floatBits .add .f64 (C6 .mul .f64 X X) (C6 .mul .f64 Y Y)).getD _=z
  rw[show floatBits .add .f64 (C6 .mul .f64 X X) (C6 .mul .f64 Y Y)=some z from hz];rfl
 obtain⟨u,hu,hb⟩:=T9 Agu Ako hv (by generalize 2^u64=U at *;omega)
 exact⟨z,u,e,Zc (k:=.f64) hv,hu,hb.nan⟩
theorem Aas:∃s m e,FloatKind.f32.format.read 1082130432=.number s (m+1) e:=⟨false,8388607,-21,by decide +kernel⟩
theorem A9z {x y:Nat}{v:Int}(hx:Cf single x v)(hy:Flo.nan .f32 y=false):∃r,floatBits .add .f32 x y=some r:=by
 show ∃r,single.add x y=some r
 unfold Format.add;rw[Ak hx.fin];unfold Flo.nan FloatKind.decode at hy;have hy:(single.read y).isNaN=false:=hy
 cases h:single.read y with
 | nan _ _=>rw[h]at hy;cases hy
 | infinity t=>exact⟨_,rfl⟩
 | number t n j=>exact⟨_,rfl⟩
def smK (k:Int)(u:Nat):Nat:=C6 .add .f32 (floatOfInt .f32 k) (C6 .quo .f32 1082130432 u)
theorem A28 {k:Int}{u:Nat}(hk:k.natAbs<=400)(hu:Flo.nan .f32 u=false):floatBits .quo .f32 1082130432 u=some (C6 .quo .f32 1082130432 u)/\floatBits .add .f32 (floatOfInt .f32 k) (C6 .quo .f32 1082130432 u)=some (smK k u):=by
 obtain⟨q,hq,hqn⟩:=Ti Aas hu;have e:C6 .quo .f32 1082130432 u=q:=by unfold C6;rw[hq];rfl
 have hi:=De (k:=.f32) (l:=149) (by decide) k (by show k.natAbs<2*single.binade;rw[Az];omega) (by decide)
 obtain⟨r,hr⟩:=A9z hi hqn
 refine⟨by rw[e];exact hq,?_⟩
 unfold smK C6;rw[show floatBits .quo .f32 1082130432 u=some q from hq]
 show floatBits .add .f32 (floatOfInt .f32 k) q=some ((floatBits .add .f32 (floatOfInt .f32 k) q).getD _)
 rw[hr];rfl
end Flo
section
open Go.RowKit Flo
theorem Yd (c d:Nat)(n:Int)(w:World):Calls Vp.prog 94 #[.complex .f32 c d,.int .i64 n] w fun e w'=>(∃(k:Int) (a b:Nat),e=.returned (.tuple #[.int .i64 k,.complex .f32 a b])/\G3 (Nj c d) (Aj n) k /\(0<=k->Al .f32 (E8 c d k.toNat).1 a/\Al .f32 (E8 c d k.toNat).2 b))/\Bp w w':=by
 have hmb:=Gs n
 go_enter Vp.func94,Tryz.ntmps94
 go_wp2
 go_loopw [6,7] (fun z i wr=>∃k x y:Nat,k<=401/\i=.int .i64 k/\z=.complex .f32 x y/\x<4294967296/\y<4294967296/\Hid (Bp w wr)/\Hid (Al .f32 (E8 c d k).1 x/\Al .f32 (E8 c d k).2 y/\∀j,j<k->Nj c d j=true)) (fun _ i _=>(401-intOf i).toNat)
 case atStart=>exact⟨0,0,0,by omega,rfl,rfl,by omega,by omega,Bp.refl _,Al.refl _ _,Al.refl _ _,fun j hj=>by omega⟩
 case round =>
  obtain⟨k,x,y,hk,rfl,rfl,hx,hy,HD,HA⟩:=hrel;obtain⟨wo,rfl⟩:∃wo,wo=wr:=⟨_,rfl⟩
  go_wp2_with fail
  refine(Wk n _).mono ?_
  rintro e w1 ⟨rfl,rfl⟩
  by_cases hkr:(k:Int)<=Aj n
  ·obtain⟨p,q,w1,h1,_,_,d1,ap,aq⟩:=Flo.Ki (P:=Vp.prog) 35 26 (by kernel_rfl) (Vp.Bl Tryz.underlying26) x y hx hy wo
   have H1:=Aly (HD.out.trans d1);clear d1
   go_wp2_with fail
   refine(Q6 p q _).mono ?_
   rintro e w2 ⟨⟨m,rfl,hm,am⟩,hd⟩;have H2:=Aly (H1.out.trans hd)
   have HK:Hid (Py m=Nj c d k):=by
    unfold Nj;rw[L3 HA.out.1,L3 HA.out.2.1,Ng ap aq]
    exact(A4a am).symm
   clear hd H1 HD h1 ap aq am;have hb:=HK.out;unfold Py at hb
   cases ho:Nj c d k with
   | false =>
     rw[ho]at hb;have HR:Hid (G3 (Nj c d) (Aj n) k):=.inl ⟨k,rfl,hkr,ho,HA.out.2.2⟩;have HAA:Hid (Al .f32 (E8 c d k).1 x/\Al .f32 (E8 c d k).2 y):=⟨HA.out.1,HA.out.2.1⟩;clear ho HK HA
     go_wp2
     go_ret2
     exact⟨⟨_,x,y,rfl,HR.out,fun _=>by rw[Anc];exact HAA.out⟩,H2.out⟩
   | true =>
     rw[ho]at hb;have ho':=ho;unfold Nj at ho';have e1:=Al.same HA.out.1 (R1 (Nb ho'));have e2:=Al.same HA.out.2.1 (R1 (Kn ho'));subst e1 e2;have HO:=Aly ho'
     have HP:Hid (∀j,j<k+1->Nj c d j=true):=fun j hj=>by
      by_cases e:j=k
      ·rw[e];exact ho
      ·exact HA.out.2.2 j (by omega)
     clear ho ho' HK HA
     go_wp2_with fail
     refine(Yv _ _ c d hx hy HO.out _).mono ?_
     rintro e w3 ⟨⟨a,b,rfl,ha,hb',aa,ab⟩,hd⟩;have H3:=Aly (H2.out.trans hd);have HQ:Hid (Al .f32 (E8 c d (k+1)).1 a/\Al .f32 (E8 c d (k+1)).2 b/\∀j,j<k+1->Nj c d j=true):=⟨aa,ab,HP.out⟩;clear hd H2 aa ab HP HO
     go_wp2
     go_roundw
     case rel=>exact⟨k+1,a,b,by omega,by go_num,rfl,ha,hb',H3,HQ⟩
     case measure=>simp[intOf];omega
  ·have HR:Hid (G3 (Nj c d) (Aj n) (-1)):=.inr ⟨rfl,fun j hj=>HA.out.2.2 j (by omega)⟩
   go_wp2
   go_ret2
   exact⟨⟨_,x,y,rfl,HR.out,fun h=>by omega⟩,HD.out⟩
def smC (c d:Nat)(n:Int):Nat :=
 if Jy (Nj c d) (Aj n).toNat<0 then 3212836864
 else smK (Jy (Nj c d) (Aj n).toNat) (Ax (Bj (A5 (E8 c d (Jy (Nj c d) (Aj n).toNat).toNat).1) (A5 (E8 c d (Jy (Nj c d) (Aj n).toNat).toNat).2)))
theorem A0h {ok:Nat->Bool}{n k:Int}(h:G3 ok (Aj n) k):k=-1 \/(0<=k/\k<=400/\∀j:Nat,j<k.toNat->ok j=true):=by
 have hb:=Gs n
 rcases h with⟨m,rfl,h1,h2,h3⟩ |⟨rfl,h1⟩
 ·exact .inr ⟨by omega,by omega,fun j hj=>h3 j (by omega)⟩
 ·exact .inl rfl
theorem Al.id {k:FloatKind}{x a:Nat}(h:Al k x a)(g:nan k x=false):a=x:=by
 rcases h with rfl |⟨h1,h2⟩
 ·rfl
 ·rw[h1]at g;cases g
theorem Ut (c d:Nat)(n:Int)(hc:Bd 8 c)(hd:Bd 8 d)(w:World):Calls Vp.prog 87 #[.complex .f32 c d,.int .i64 n] w fun e w'=>e=.returned (.float .f32 (smC c d n))/\Below w.heap.size w w':=by
 have HC:=Aly hc;have HD:=Aly hd;clear hc hd
 go_enter Vp.func87,Tryz.ntmps87
 go_wp2_with fail
 refine(A5x c d n _).mono ?_
 rintro e w1 ⟨⟨k,nm,rfl,hk,hnm,hal⟩,hb⟩;have HB:=Aly hb;have he:=hk.A6;have hkc:=A0h hk;clear hb hk
 by_cases hk0:k<0
 ·have HS:Hid (smC c d n=3212836864):=by
   show _=_
   unfold smC;rw[<-he,Amo hk0]
  clear he hkc hal
  go_wp2
  exact Am5 (v:=.float .f32 3212836864) (by simp[results,Tryz.f87,go_sem]) rfl ⟨by rw[HS.out],HB.out⟩
 ·obtain⟨g1,g2,g3⟩:=hkc.resolve_left (by omega)
  obtain⟨b1,b2⟩:=Abm HC.out HD.out g3;obtain⟨m,u,e1,e2,e3,e4⟩:=A6c b1 b2
  have hm:nm=m:=by
   have h:=hal g1;rw[e1]at h
   exact Al.id h e2
  subst hm;obtain⟨r1,r2⟩:=A28 (k:=k) (by omega) e4
  have HS:Hid (smC c d n=smK k u):=by
   show _=_
   unfold smC;rw[<-he,Amd hk0,e1];unfold Ax;rw[e3];rfl
  have q1:=fun w=>Anz (P:=Vp.prog) w 57 87 .f64 .f32 nm u (by kernel_rfl) (Vp.Bl Tryz.underlying87) e3
  have q2:=fun w=>Amz (P:=Vp.prog) w .quo 87 .f32 _ _ _ r1
  have q3:=fun w=>Amz (P:=Vp.prog) w .add 87 .f32 _ _ _ r2
  generalize C6 .quo .f32 1082130432 u=q at *;generalize smK k u=s at *;clear r1 r2 e1 e2 e3 e4 b1 b2 g3 hal he hkc
  go_wp2
  exact Am5 (v:=.float .f32 s) (by simp[results,Tryz.f87,go_sem]) rfl ⟨by rw[HS.out],HB.out⟩
theorem V5 (c d:Nat)(n:Int)(hc:Bd 8 c)(hd:Bd 8 d)(w:World):Calls Vp.prog 49 #[.complex .f32 c d,.int .i64 n] w fun e w'=>e=.returned (.float .f32 (smC c d n))/\Bp w w':=by
 have HC:=Aly hc;have HD:=Aly hd;clear hc hd
 go_enter Vp.func49,Tryz.ntmps49
 go_wp2_with fail
 refine(Yd c d n _).mono ?_
 rintro e w1 ⟨⟨k,a,b,rfl,hk,hal⟩,hb⟩;have HB:=Aly hb;have he:=hk.A6;have hkc:=A0h hk;clear hb hk
 by_cases hk0:k<0
 ·have HS:Hid (smC c d n=3212836864):=by
   show _=_
   unfold smC;rw[<-he,Amo hk0]
  clear he hkc hal
  go_wp2
  exact Am5 (v:=.float .f32 3212836864) (by simp[results,Tryz.f49,go_sem]) rfl ⟨by rw[HS.out],HB.out⟩
 ·obtain⟨g1,g2,g3⟩:=hkc.resolve_left (by omega)
  obtain⟨b1,b2⟩:=Abm HC.out HD.out g3;obtain⟨m,u,e1,e2,e3,e4⟩:=A6c b1 b2;obtain⟨h1,h2⟩:=hal g1;have ha:a=(E8 c d k.toNat).1:=Al.id h1 b1.nan;have hb:b=(E8 c d k.toNat).2:=Al.id h2 b2.nan;obtain⟨r1,r2⟩:=A28 (k:=k) (by omega) e4
  have HS:Hid (smC c d n=smK k u):=by
   show _=_
   unfold smC;rw[<-he,Amd hk0,e1];unfold Ax;rw[e3];rfl
  rw[<-ha,<-hb]at e1;have hal1:a<4294967296:=by rw[ha];exact(R8 c d _).1
  have hbl1:b<4294967296:=by rw[hb];exact(R8 c d _).2
  obtain⟨p,q,w2,c1,_,_,d1,ap,aq⟩:=Flo.Ki (P:=Vp.prog) 35 26 (by kernel_rfl) (Vp.Bl Tryz.underlying26) a b hal1 hbl1 w1
  have HW:=Aly (HB.out.trans d1)
  have HN:Hid (∀x,Al .f64 (Bj p q) x->x=m):=fun x hx=>by
   rw[<-Ng ap aq,e1]at hx
   exact Al.id hx e2
  have q1:=fun w=>Anz (P:=Vp.prog) w 57 87 .f64 .f32 m u (by kernel_rfl) (Vp.Bl Tryz.underlying87) e3
  have q2:=fun w=>Amz (P:=Vp.prog) w .quo 87 .f32 _ _ _ r1
  have q3:=fun w=>Amz (P:=Vp.prog) w .add 87 .f32 _ _ _ r2
  generalize C6 .quo .f32 1082130432 u=qq at *;generalize smK k u=s at *;clear r1 r2 e1 e2 e3 e4 b1 b2 g3 hal he hkc ha hb h1 h2 d1 ap aq hal1 hbl1
  go_wp2_with fail
  refine(Q6 p q _).mono ?_
  rintro e w3 ⟨⟨x,rfl,_,ax⟩,hd⟩;have hx:=HN.out x ax;subst hx;have HZ:=Aly (HW.out.trans hd);clear hd ax
  go_wp2
  exact Am5 (v:=.float .f32 s) (by simp[results,Tryz.f49,go_sem]) rfl ⟨by rw[HS.out],HZ.out⟩
end
section
open Go.RowKit
attribute [local go_sem ↓] Go.wp_at_zero Go.wp_at_succ
theorem Xk (x y d:Nat)(a b A B S:Int)(hd:d<=11)(hx:Flo.Pt x d a)(hy:Flo.Pt y d b)(ha:a.natAbs<=65536)(hb:b.natAbs<=65536)
 (hS:S=(2^(24-d):Nat)) (hA:A=a*S) (hB:B=b*S) (h1:-134217728<=A) (h2:A+S<=134217728) (h3:-134217728<=B) (h4:B+S<=134217728) (w:World) :
 Calls Vp.prog 86 #[.complex .f32 x y,.int .i64 d] w fun e w'=>e=.returned (.agg #[.int .i64 A,.int .i64 (A+S),.int .i64 B,.int .i64 (B+S)])/\Below w.heap.size w w':=by
 have hS0:0<S:=by rw[hS];have:=Am9 (24-d);omega
 obtain⟨x1,x2,e1,e2,-,e3⟩:=Flo.Nz hd hx ha;obtain⟨y1,y2,d1,d2,-,d3⟩:=Flo.Nz hd hy hb;rw[<-hS,<-hA]at e3;rw[<-hS,<-hB]at d3;have g1:=fun w=>Anz (P:=Vp.prog) w 87 57 .f32 .f64 _ _ (by kernel_rfl) (Vp.Bl Tryz.underlying57) e1
 have g2:=fun w=>Amz (P:=Vp.prog) w .mul 57 .f64 _ _ _ e2
 have g3:=fun w=>run_convert_float_int (P:=Vp.prog) w 57 3 .f64 .i64 _ _ (by kernel_rfl) (Vp.Bl Tryz.underlying3) e3
 have g4:=fun w=>Anz (P:=Vp.prog) w 87 57 .f32 .f64 _ _ (by kernel_rfl) (Vp.Bl Tryz.underlying57) d1
 have g5:=fun w=>Amz (P:=Vp.prog) w .mul 57 .f64 _ _ _ d2
 have g6:=fun w=>run_convert_float_int (P:=Vp.prog) w 57 3 .f64 .i64 _ _ (by kernel_rfl) (Vp.Bl Tryz.underlying3) d3
 have hsd:(16777216:Int) / 2^d=S:=by rw[hS];exact Mm d hd
 obtain⟨A2,k1,e4⟩:∃x,wrap64 (A+S)=x/\A+S=x:=⟨_,Ev (by omega) (by omega),rfl⟩
 obtain⟨B2,k2,e5⟩:∃x,wrap64 (B+S)=x/\B+S=x:=⟨_,Ev (by omega) (by omega),rfl⟩
 rw[e4,e5];clear e4 e5;have HO:Hid (∀u0 u1 u2 u3:Value,Below w.heap.size w (w.alloc (.cells #[u0,u1,u2,u3] 93))):=fun u0 u1 u2 u3=>(Amc _ w).alloc (Am0 _) _
 have R:=A7.new w #[.int .i64 A,.int .i64 A2,.int .i64 B,.int .i64 B2] 93;have r0:=R.cell 0 _ rfl;have r1:=R.cell 1 _ rfl;have r2:=R.cell 2 _ rfl;have r3:=R.cell 3 _ rfl;clear e1 e2 e3 d1 d2 d3 hx hy ha hb hS hA hB h1 h2 h3 h4 R
 go_enter Vp.func86,Tryz.ntmps86
 go_wp2
 exact Am5 (v:=.agg #[.int .i64 A,.int .i64 A2,.int .i64 B,.int .i64 B2]) (by simp[results,Tryz.f86,go_sem,k1,k2]) rfl ⟨rfl,HO.out _ _ _ _⟩
end
section
open Go.RowKit Go.Conc Co Ok Lr Tl Bar
theorem Wm {d:Nat}(hd:d<=11):(134217728:Int)=((8*2^d:Nat):Int) *((2^(24-d):Nat):Int):=by
 rw[<-An2,Ams,<-Amj,show d +(24-d)=24 from by omega]
 rfl
theorem Rb {d:Nat}(hd:d<=11)(x:Int):x *((2^(24-d):Nat):Int)<=134217728↔x <=((8*2^d:Nat):Int):=by
 have hp:(0:Int) <((2^(24-d):Nat):Int):=by have:=Am9 (24-d);omega
 rw[Wm hd]
 exact⟨fun h=>Int.le_of_mul_le_mul_right h hp,fun h=>Aoy h (Apb hp)⟩
theorem Hh {d:Nat}(hd:d<=11){x:Int}(h:-((8*2^d:Nat):Int)<=x):-134217728<=x *((2^(24-d):Nat):Int):=by
 have hp:(0:Int) <((2^(24-d):Nat):Int):=by have:=Am9 (24-d);omega
 have:=Aoy h (Apb hp);rw[Apq,<-Wm hd]at this
 exact this
def fx (c d:Nat)(j:Int):Nat:=Flo.C6 .add .f32 c (Flo.C6 .mul .f32 (floatOfInt .f32 j) (Flo.Ea d))
theorem R5 {c d:Nat}{A:Int}(hd:d<=11)(hc:Flo.Pt (c % 4294967296) d A)(hA:A.natAbs<=60000)(j:Int)(hj:j.natAbs<=5000) :
 floatBits .mul .f32 (floatOfInt .f32 j) (Flo.Ea d)=some (Flo.C6 .mul .f32 (floatOfInt .f32 j) (Flo.Ea d))/\floatBits .add .f32 c (Flo.C6 .mul .f32 (floatOfInt .f32 j) (Flo.Ea d))=some (fx c d j)/\Flo.Pt (fx c d j) d (A+j):=by
 obtain⟨p,x,e1,e2,h⟩:=Flo.Abo hd hc (by omega) j (by omega)
 rw[Flo.Al7]at e2;have h1:Flo.C6 .mul .f32 (floatOfInt .f32 j) (Flo.Ea d)=p:=by unfold Flo.C6;rw[e1];rfl
 have h2:fx c d j=x:=by unfold fx;rw[h1];unfold Flo.C6;rw[e2];rfl
 rw[h1,h2]
 exact⟨e1,e2,h⟩
theorem A6f {x d:Nat}{n:Int}(hd:d<=11)(h:Flo.Pt x d n)(hn:n.natAbs<=8*2^d):Flo.Bd 8 x:=by
 refine⟨by rw[h.iv];exact h,?_⟩
 rw[h.iv,Amq,Ame,Flo.Ou hd]
 calc n.natAbs*2^(Flo.u32-d)<=8*2^d*2^(Flo.u32-d):=Am3 _ hn
  _=8 *(2^(Flo.u32-d)*2^d):=by rw[Ams,An3 (2^d)]
def cA (a:Int)(d j:Nat):Int:=(a+j) *((2^(24-d):Nat):Int)
def cIn (a b:Int)(d i j:Nat):Bool:=decide (cA a d j<=134217728/\cA b d i<=134217728)
def cB (a b:Int)(d i j:Nat)(z:Int):Int:=if cIn a b d i j=true then z else 0
def cOk (a b:Int)(d i j:Nat):Bool:=cIn a b d i j && Ap (cB a b d i j (cA a d j)) (cB a b d i j (cA a d j) +((2^(24-d):Nat):Int)) (cB a b d i j (cA b d i)) (cB a b d i j (cA b d i) +((2^(24-d):Nat):Int))
def bxC (a b:Int)(d i j:Nat):Bx:=⟨cA a d j,cA a d j +((2^(24-d):Nat):Int),cA b d i,cA b d i +((2^(24-d):Nat):Int)⟩
theorem Qx (a:Int)(d j:Nat):cA a d j +((2^(24-d):Nat):Int)=(a+j+1) *((2^(24-d):Nat):Int):=by unfold cA;rw[Apc (a+j),Int.one_mul]
theorem Na {a b:Int}{d:Nat}(hd:d<=11)(ha:a.natAbs<=4*2^d)(hb:b.natAbs<=4*2^d)(i j:Nat) :
 cOk a b d i j=true↔a+j+1 <=((8*2^d:Nat):Int)/\b+i+1 <=((8*2^d:Nat):Int):=by
 have g1:-134217728<=cA a d j:=Hh hd (by omega)
 have g2:-134217728<=cA b d i:=Hh hd (by omega)
 have n1:=Qx a d j;have n2:=Qx b d i;have s1:=Rb hd (a+j+1);have s2:=Rb hd (b+i+1);rw[<-n1]at s1;rw[<-n2]at s2;have hp:(0:Int) <((2^(24-d):Nat):Int):=by have:=Am9 (24-d);omega
 rw[<-s1,<-s2];unfold cOk cB cIn Ap H5;generalize cA a d j=A at *;generalize cA b d i=B at *;generalize ((2^(24-d):Nat):Int)=S at *;simp only[Am8,Amt]
 by_cases h:A<=134217728/\B<=134217728
 ·rw[Amo h,Amo h];omega
 ·rw[Amd h,Amd h];omega
theorem A5s {a b:Int}{d:Nat}{i j:Nat}(h:cOk a b d i j=true):cB a b d i j (cA a d j)=cA a d j/\cB a b d i j (cA b d i)=cA b d i /\(bxC a b d i j).ok=true:=by
 unfold cOk at h;rw[Am8]at h;obtain⟨h1,h2⟩:=h;have e:∀z,cB a b d i j z=z:=fun z=>by unfold cB;rw[Amo h1]
 rw[e,e]at h2
 exact⟨e _,e _,h2⟩
theorem A7i:Flo.Cf Ieee.single 1090519040 (8 *(2^Flo.u32:Nat)):=by
 refine⟨by decide,by unfold Flo.fin;decide,?_⟩
 rw[Flo.G0];unfold Flo.iv;have h1:Flo.Gv Ieee.single 1090519040=false:=by decide
 have h2:Flo.rv Ieee.single (Flo.A8 Ieee.single 1090519040)=8*2^149:=by decide +kernel
 rw[h1,h2];simp
theorem A5y {x d:Nat}{n:Int}(hd:d<=11)(h:Flo.Pt x d n):(FloatKind.f32.format.order x 1090519040 == some .gt)=decide (((8*2^d:Nat):Int)<n):=by
 rw[Flo.Ip (k:=.f32) h A7i,Aqa,Amt,Amt];have hp:(0:Int) <((2^(Flo.u32-d):Nat):Int):=by have:=Am9 (Flo.u32-d);omega
 have e:(8:Int) *((2^Flo.u32:Nat):Int)=((8*2^d:Nat):Int) *((2^(Flo.u32-d):Nat):Int):=by
  rw[Flo.Ou hd,An2,An2,Ano,Ao8 ((2^(Flo.u32-d):Nat):Int)]
  rfl
 rw[e]
 exact⟨fun h=>Int.lt_of_mul_lt_mul_right h (Apb hp),fun h=>Int.mul_lt_mul_of_pos_right h hp⟩
theorem Acr (x:Bx)(M:Nat):-1<=stB x M/\stB x M<=1:=by
 unfold stB
 split
 ·omega
 ·split<;>omega
theorem Ai3 (c d:Nat)(n:Int):smC c d n<4294967296:=by
 unfold smC
 split
 ·omega
 ·exact Flo.A4g
def stT (a b:Int)(d:Nat)(A6:Int)(i j:Nat):Int:=stB (bxC a b d i j) (Aj A6).toNat
def smT (cx cy d:Nat)(A6:Int)(i j:Nat):Nat:=smC (fx cx d j) (fx cy d i) A6
section
variable {cx cy d s : Nat} {a b : Int} (A6 : Int) (hd : d <= 10) (hs : s <= 8) (hx : Flo.Pt (cx % 4294967296) d a) (hy : Flo.Pt (cy % 4294967296) d b) (ha : a.natAbs <= 4 * 2 ^ d) (hb : b.natAbs <= 4 * 2 ^ d)
include hd hs hx hy ha hb
theorem Zv:Afp cx cy d s A6 (fun i j=>cOk a b d i j) (fun i j=>cB a b d i j (cA a d j)) (fun i j=>cB a b d i j (cA a d j) +((2^(24-d):Nat):Int)) (fun i j=>cB a b d i j (cA b d i)) (fun i j=>cB a b d i j (cA b d i) +((2^(24-d):Nat):Int))
 (fun _ j=>fx cx d j) (fun i _=>fx cy d i) (stT a b d A6) (smT cx cy d A6):=by
 have hpd:2^d<=1024:=Am1 (Amn (by omega) hd) (show 2^10<=1024 by decide)
 have run:∀(c:Nat) (A:Int) (j:Nat),Flo.Pt (c % 4294967296) d A->A.natAbs<=4*2^d->j<s->_:=fun c A j h hA hj=>R5 (c:=c) (by omega) h (by omega) (j:Int) (by omega)
 have hbd:∀i j,i<s->j<s->cOk a b d i j=true->Flo.Bd 8 (fx cx d j)/\Flo.Bd 8 (fx cy d i):=fun i j hi hj h=>by
  have h:=(Na (by omega) ha hb i j).1 h
  exact⟨A6f (by omega) (run cx a j hx ha hj).2.2 (by omega),A6f (by omega) (run cy b i hy hb hi).2.2 (by omega)⟩
 refine⟨fun i j hi hj W=>?_,fun i j hi hj ho W=>?_,fun i j hi hj W=>?_,fun i j hi hj ho W=>?_,fun i j=>Ai3 _ _ _,fun i j=>Acr _ _⟩
 ·obtain⟨e1,e2,hp⟩:=run cx a j hx ha hj;obtain⟨e3,e4,hq⟩:=run cy b i hy hb hi;have hP:=Aly (fun w=>Sv cx cy d i j (by omega) e1 e3 e2 e4 w)
  have hO:=Aly (fun w=>A74 (fx cx d j) (fx cy d i) d (a+j) (b+i) (cA a d j) (cA b d i) (by omega) hp hq (by omega) (by omega) rfl rfl (Hh (by omega) (by omega)) (Hh (by omega) (by omega)) w)
  have g1:-134217728<=cA a d j:=Hh (by omega) (by omega)
  have g2:-134217728<=cA b d i:=Hh (by omega) (by omega)
  have hS0:0<2^(24-d):=Am9 _;have hS:(2^(24-d):Nat)<=2^24:=Amn (by omega) (by omega)
  cases hin:cIn a b d i j with
  | true =>
    have hin':cA a d j<=134217728/\cA b d i<=134217728:=by unfold cIn at hin;simpa using hin
    have hb2:∀z,cB a b d i j z=z:=fun z=>by unfold cB;rw[Amo hin]
    have hO2:Hid (∀w,Calls Vp.prog 89 #[.complex .f32 (fx cx d j) (fx cy d i)] w fun e w'=>e=.returned (.tuple #[.agg #[.int .i64 (cA a d j),.int .i64 (cA a d j),.int .i64 (cA b d i),.int .i64 (cA b d i)],.bool true])/\Below w.heap.size w w'):=fun w=>(hO.out w).mono fun e w' ⟨h1,h2⟩=>⟨by rw[h1];unfold ofV;rw[Amo hin'],h2⟩
    have:=A1b cx cy d _ _ i j _ _ _ _ _ _ _ true (Mm d (by omega)) (by omega) (Ev (by omega) (by omega)) (Ev (by omega) (by omega)) hP hO2 W
    simp only[hb2,cOk,hin]
    exact this
  | false =>
    have hin':¬(cA a d j<=134217728/\cA b d i<=134217728):=by unfold cIn at hin;simpa using hin
    have hb2:∀z,cB a b d i j z=0:=fun z=>by unfold cB;rw[Amd (by rw[hin];simp)]
    have hO2:Hid (∀w,Calls Vp.prog 89 #[.complex .f32 (fx cx d j) (fx cy d i)] w fun e w'=>e=.returned (.tuple #[.agg #[.int .i64 0,.int .i64 0,.int .i64 0,.int .i64 0],.bool false])/\Below w.heap.size w w'):=fun w=>(hO.out w).mono fun e w' ⟨h1,h2⟩=>⟨by rw[h1];unfold ofV;rw[Amd hin'],h2⟩
    have:=A1b cx cy d _ _ i j _ _ _ _ _ _ _ false (Mm d (by omega)) (by omega) (Ev (by omega) (by omega)) (Ev (by omega) (by omega)) hP hO2 W
    simp only[hb2,cOk,hin]
    exact this
 ·obtain⟨e1,e2,e3⟩:=A5s ho;rw[e1,e2]
  exact Xo _ _ _ _ A6 e3 W
 ·obtain⟨e1,e2,-⟩:=run cx a j hx ha hj;obtain⟨e3,e4,-⟩:=run cy b i hy hb hi
  exact Sv cx cy d i j (by omega) e1 e3 e2 e4 W
 ·obtain⟨h1,h2⟩:=hbd i j hi hj ho
  exact V5 _ _ A6 h1 h2 W
theorem A77 (hok:∀i j,i<s->j<s->cOk a b d i j=true):Jl cx cy d s A6 (fun _ j=>fx cx d j) (fun i _=>fx cy d i) (fun i j=>.agg #[.int .i64 (cA a d j),.int .i64 (cA a d j +((2^(24-d):Nat):Int)),.int .i64 (cA b d i),.int .i64 (cA b d i +((2^(24-d):Nat):Int))]) (stT a b d A6) (smT cx cy d A6):=by
 have hpd:2^d<=1024:=Am1 (Amn (by omega) hd) (show 2^10<=1024 by decide)
 have run:∀(c:Nat) (A:Int) (j:Nat),Flo.Pt (c % 4294967296) d A->A.natAbs<=4*2^d->j<s->_:=fun c A j h hA hj=>R5 (c:=c) (by omega) h (by omega) (j:Int) (by omega)
 refine⟨fun i j hi hj W=>?_,fun i j hi hj W=>?_,fun i j hi hj W=>?_,fun i j hi hj W=>?_⟩
 ·obtain⟨e1,e2,-⟩:=run cx a j hx ha hj;obtain⟨e3,e4,-⟩:=run cy b i hy hb hi
  exact Th cx cy d i j (by omega) e1 e3 e2 e4 W
 ·have h:=(Na (by omega) ha hb i j).1 (hok i j hi hj)
  have n1:=Qx a d j;have n2:=Qx b d i;have s1:=Rb (d:=d) (by omega) (a+j+1)
  have s2:=Rb (d:=d) (by omega) (b+i+1)
  rw[<-n1]at s1;rw[<-n2]at s2
  exact Xk _ _ d (a+j) (b+i) _ _ _ (by omega) (run cx a j hx ha hj).2.2 (run cy b i hy hb hi).2.2 (by omega) (by omega) rfl rfl rfl (Hh (by omega) (by omega)) (s1.2 h.1) (Hh (by omega) (by omega)) (s2.2 h.2) W
 ·obtain⟨-,-,e3⟩:=A5s (hok i j hi hj)
  exact A10 _ _ _ _ A6 e3 W
 ·have h:=(Na (by omega) ha hb i j).1 (hok i j hi hj)
  exact Ut _ _ A6 (A6f (by omega) (run cx a j hx ha hj).2.2 (by omega)) (A6f (by omega) (run cy b i hy hb hi).2.2 (by omega)) W
end
theorem A1p {cx cy:Nat}{deep size:Int}(h:Eg cx cy deep size=true):∃(d s:Nat) (a b:Int),deep=d/\size=s/\d<=10/\1<=s/\s<=8/\Flo.Pt (cx % 4294967296) d a/\Flo.Pt (cy % 4294967296) d b/\a.natAbs<=4*2^d/\b.natAbs<=4*2^d:=by
 obtain⟨h1,h2,h3,h4⟩:=Wt h;obtain⟨d,rfl⟩:=Aoe h1;obtain⟨s,rfl⟩:=Aoe (show 0<=size by omega)
 unfold Eg at h;rw[Am8,Am8,Anc,<-Flo.Mt cx,<-Flo.Mt cy]at h;obtain⟨a,hx,ha⟩:=Flo.Ud (Aps cx (by decide)) (by omega) h.1.2
 obtain⟨b,hy,hb⟩:=Flo.Ud (Aps cy (by decide)) (by omega) h.2
 exact⟨d,s,a,b,rfl,rfl,by omega,by omega,by omega,hx,hy,ha,hb⟩
theorem A5q {a b:Int}{d s:Nat}(hd:d<=11)(h1:1<=s)(ha:a.natAbs<=4*2^d)(hb:b.natAbs<=4*2^d) :
 (∀i j,i<s->j<s->cOk a b d i j=true)↔a+s <=((8*2^d:Nat):Int)/\b+s <=((8*2^d:Nat):Int):=by
 constructor
 ·intro h;have:=(Na hd ha hb (s-1) (s-1)).1 (h _ _ (by omega) (by omega))
  omega
 ·intro h i j hi hj
  exact(Na hd ha hb i j).2 (by omega)
theorem Ale {cx cy:Nat}{deep size A6:Int}(h:∀W,Calls Vp.prog 43 #[.complex .f32 cx cy,.int .i64 deep,.int .i64 size] W fun e w'=>e=.returned (.bool false)/\W=w')(a:Act)(hs:a.tmps.size=71)(h0:a.tmps[0]?=some (.complex .f32 cx cy))(h1:a.tmps[1]?=some (.int .i64 deep))(h2:a.tmps[2]?=some (.int .i64 size))(h3:a.tmps[3]?=some (.int .i64 A6))(hd:a.defers=[])(w:World) :
 HW Vp.prog [.code (cut [9,10,12] Aq)] (Qk 0 0 0 0 false [] [] w) a w:=by
 obtain⟨t,ds⟩:=a;dsimp only at hs h0 h1 h2 h3 hd;obtain⟨y0,y1,y2,y3,y4,y5,y6,y7,y8,y9,y10,y11,y12,y13,y14,y15,y16,y17,y18,y19,y20,y21,y22,y23,y24,y25,y26,y27,y28,y29,y30,y31,y32,y33,y34,y35,y36,y37,y38,y39,y40,y41,y42,y43,y44,y45,y46,y47,y48,y49,y50,y51,y52,y53,y54,y55,y56,y57,y58,y59,y60,y61,y62,y63,y64,y65,y66,y67,y68,y69,y70,rfl⟩:=Vq t hs
 cases h0;cases h1;cases h2;cases h3;subst hd
 apply A3z (d:=0) (n:=0) (xs:=[]) (ys:=[]) h
theorem Ak0 {cx cy d n:Nat}{A6:Int}{ex ey:Nat}(h:∀W,Calls Vp.prog 43 #[.complex .f32 cx cy,.int .i64 d,.int .i64 n] W fun e w'=>e=.returned (.bool true)/\W=w')(hp:∀W,Calls Vp.prog 44 #[.complex .f32 cx cy,.int .i64 d,.int .i64 n,.int .i64 n] W fun e w'=>e=.returned (.complex .f32 ex ey)/\W=w')
 (hf:(FloatKind.f32.format.order ex 1090519040 == some .gt || FloatKind.f32.format.order ey 1090519040 == some .gt)=true) (a:Act) (hs:a.tmps.size=71) (h0:a.tmps[0]?=some (.complex .f32 cx cy)) (h1:a.tmps[1]?=some (.int .i64 d)) (h2:a.tmps[2]?=some (.int .i64 n)) (h3:a.tmps[3]?=some (.int .i64 A6)) (hd:a.defers=[]) (w:World) :
 HW Vp.prog [.code (cut [9,10,12] Aq)] (Qk 0 0 0 0 false [] [] w) a w:=by
 obtain⟨t,ds⟩:=a;dsimp only at hs h0 h1 h2 h3 hd;obtain⟨y0,y1,y2,y3,y4,y5,y6,y7,y8,y9,y10,y11,y12,y13,y14,y15,y16,y17,y18,y19,y20,y21,y22,y23,y24,y25,y26,y27,y28,y29,y30,y31,y32,y33,y34,y35,y36,y37,y38,y39,y40,y41,y42,y43,y44,y45,y46,y47,y48,y49,y50,y51,y52,y53,y54,y55,y56,y57,y58,y59,y60,y61,y62,y63,y64,y65,y66,y67,y68,y69,y70,rfl⟩:=Vq t hs
 cases h0;cases h1;cases h2;cases h3;subst hd
 have:=Agx (A6:=A6) h hp hf y4 y5 y6 y7 y8 y9 y10 y11 y12 y13 y14 y15 y16 y17 y18 y19 y20 y21 y22 y23 y24 y25 y26 y27 y28 y29 y30 y31 y32 y33 y34 y35 y36 y37 y38 y39 y40 y41 y42 y43 y44 y45 y46 y47 y48 y49 y50 y51 y52 y53 y54 y55 y56 y57 y58 y59 y60 y61 y62 y63 y64 y65 y66 y67 y68 y69 y70 w [] []
 exact this
theorem Alu:Adf:=by
 intro cx cy deep size A6;have hpw:=fun W=>Uz cx cy deep size W
 cases hpl:Eg cx cy deep size with
 | false =>
   rw[hpl]at hpw
   exact .inl ⟨Ale hpw,fun V=>Z9 cx cy deep size A6 hpl V⟩
 | true =>
   rw[hpl]at hpw;obtain⟨d,s,a,b,rfl,rfl,hd,h1,h8,hx,hy,ha,hb⟩:=A1p hpl;have hpd:2^d<=1024:=Am1 (Amn (by omega) hd) (show 2^10<=1024 by decide)
   have hV:=fun V=>Lv cx cy d s A6 hd h8 hpl (Zv A6 hd h8 hx hy ha hb) V
   obtain⟨e1,e2,hpx⟩:=R5 (c:=cx) (by omega) hx (by omega) (s:Int) (by omega)
   obtain⟨e3,e4,hpy⟩:=R5 (c:=cy) (by omega) hy (by omega) (s:Int) (by omega)
   have hpt:=fun W=>Th cx cy d s s (by omega) e1 e3 e2 e4 W
   have f1:=A5y (by omega) hpx
   have f2:=A5y (by omega) hpy
   have hall:=A5q (d:=d) (by omega) h1 ha hb
   by_cases hg:a+s <=((8*2^d:Nat):Int)/\b+s <=((8*2^d:Nat):Int)
   ·rw[Ana (by omega)]at f1 f2
    have hok:=hall.2 hg
    refine .inr ⟨d,s,_,_,_,_,_,_,_,rfl,rfl,h8,by omega,A77 A6 hd h8 hx hy ha hb hok,hpw,hpt,f1,f2,fun V=>(hV V).mono ?_⟩
    rintro e V' ⟨hbl,⟨⟨i,j,hi,hj,hno⟩,-⟩ |⟨-,v,rfl,ht⟩⟩
    ·have hno:cOk a b d i j=false:=hno;have:=hok i j hi hj;rw[hno]at this
     cases this
    ·exact⟨v,rfl,ht,hbl⟩
   ·refine .inl ⟨Ak0 hpw hpt ?_,fun V=>(hV V).mono ?_⟩
    ·rw[f1,f2,Ane,Amt,Amt]
     omega
    ·rintro e V' ⟨hbl,⟨-,rfl⟩ |⟨hok,-⟩⟩
     ·exact⟨rfl,hbl⟩
     ·exact absurd (hall.1 hok) hg
end
section
open Go.RowKit
theorem A1w {α:Type}(n:Nat)(f:Nat->Nat->α):∀i,(rowsOf n f i).length=i*n
 | 0=>by simp[rowsOf]
 | i+1=>by rw[Fs,Amy,A1w n f i,Aov,List.length_range,Aon]
theorem Abg {α:Type}{n:Nat}{f:Nat->Nat->α}{i:Nat}{q:α}(h:q∈rowsOf n f i):∃a b,q=f a b:=by
 unfold rowsOf at h;obtain⟨a,-,h⟩:=List.mem_flatMap.1 h;obtain⟨b,-,h⟩:=Anp.1 h
 exact⟨a,b,h.symm⟩
theorem Ac6 {W:World}{g:Nat}{xs:List Value}{t:TypeId}(h:W.heap[g]?=some (.cells xs.toArray t (0,0))):Sl W (some ⟨g,0,none⟩) xs :=
 .inr ⟨g,0,rfl,fun i v hv=>by rw[Aqr,Amb h];simpa using hv⟩
theorem tm0 (w W:World)(_:Below w.heap.size w W):Calls Vp.prog 17 #[.complex .f32 3221225472 3221225472,.int .i64 0,.int .i64 4,.int .i64 50] W fun e W'=>Below W.heap.size W W'/\∃x y d z a1 n1 c1 a ms c,e=.returned (.tuple #[.agg (U8 x y d z a1 n1 c1 a ms c).toArray,.bool true])/\A5n x y d z a1 n1 c1 a ms c W'/\∀p,a=some p->W.heap.size<=p.block:=by
 have hpl:Eg 3221225472 3221225472 ((0:Nat):Int) ((4:Nat):Int)=true:=by decide +kernel
 obtain⟨d,s,a,b,hd0,hs0,hd,h1,h8,hx,hy,ha,hb⟩:=A1p hpl;obtain rfl:d=0:=by omega
 obtain rfl:s=4:=by omega
 have hok:=(A5q (a:=a) (b:=b) (d:=0) (s:=4) (by omega) h1 ha hb).2 (by simp at ha hb ⊢;omega)
 refine(Lv 3221225472 3221225472 0 4 50 hd h8 hpl (Zv 50 hd h8 hx hy ha hb) W).mono ?_
 rintro e W' ⟨hbl,⟨⟨i,j,hi,hj,hno⟩,-⟩ |⟨-,v,rfl,gS,gM,rfl,m1,m2,-,m3,m4⟩⟩
 ·have hno:cOk a b 0 i j=false:=hno;rw[hok i j hi hj]at hno
  cases hno
 ·have hl:=A1w 4 (stT a b 0 50) 4
  refine⟨hbl,3221225472,3221225472,0,4,some ⟨gS,0,none⟩,4*4,4*4,some ⟨gM,0,none⟩,rowsOf 4 (stT a b 0 50) 4,4*4,?_,⟨Ac6 m4,fun q hq=>?_,by omega⟩,fun p hp=>by cases hp;exact m2⟩
  ·unfold U8;rw[hl]
   rfl
  ·obtain⟨i,j,rfl⟩:=Abg hq
   exact Acr _ _
end
end Go.Proofs.YtjaehldnlamgkaaGreatDoor
