import Derived.Test.YtlfleicchbgcmaaGreatZr3
import Derived.Test.YtlfleicchbgcmaaGreatZr0
import Derived.Test.YtlfleicchbgcmaaGreatZrK
set_option linter.all false
set_option maxHeartbeats 16000000
set_option maxRecDepth 100000
namespace Go.Proofs.YtlfleicchbgcmaaGreat
section
open Go.RowKit
theorem A40 (w:World)(C0:Array Value)(T0:TypeId)(C1:Array Value)(T1:TypeId):A9 w w.heap.size C0 T0 ((w.alloc (.cells C0 T0)).alloc (.cells C1 T1))/\A9 w (w.heap.size+1) C1 T1 ((w.alloc (.cells C0 T0)).alloc (.cells C1 T1)):=by
 refine⟨(A9.new w C0 T0).alloc _,?_⟩
 have:=(A9.new (w.alloc (.cells C0 T0)) C1 T1).up (w0:=w) ((Aph _ _).alloc (Ap0 _) _)
 rwa [Apl]at this
theorem Ur (w:World)(C0:Array Value)(T0:TypeId)(C1:Array Value)(T1:TypeId)(C2:Array Value)(T2:TypeId):A9 w w.heap.size C0 T0 (((w.alloc (.cells C0 T0)).alloc (.cells C1 T1)).alloc (.cells C2 T2)) /\
 A9 w (w.heap.size+1) C1 T1 (((w.alloc (.cells C0 T0)).alloc (.cells C1 T1)).alloc (.cells C2 T2))/\A9 w (w.heap.size+1+1) C2 T2 (((w.alloc (.cells C0 T0)).alloc (.cells C1 T1)).alloc (.cells C2 T2)):=by
 obtain⟨h1,h2⟩:=A40 w C0 T0 C1 T1
 refine⟨h1.alloc _,h2.alloc _,?_⟩
 have:=(A9.new ((w.alloc (.cells C0 T0)).alloc (.cells C1 T1)) C2 T2).up (w0:=w) h1.old
 rwa [Apl,Apl]at this
theorem A4e (w:World)(o0 o1:Obj):Below w.heap.size w ((w.alloc o0).alloc o1):=((Aph _ w).alloc (Ap0 _) _).alloc (by simp) _
theorem A4f (w:World)(o0 o1 o2:Obj):Below w.heap.size w (((w.alloc o0).alloc o1).alloc o2):=(A4e w o0 o1).alloc (by simp;omega) _
theorem Uc {w W:World}(h:Below w.heap.size w W){b:Nat}(hb:w.heap.size<=b)(u0 u1:Value):Below w.heap.size w ((W.setCell ⟨b,0,none⟩ u0).setCell ⟨b,1,none⟩ u1) :=
 (h.setCell (p:=⟨b,0,none⟩) hb u0).setCell (p:=⟨b,1,none⟩) hb u1
theorem Y7 (a b c d:Int)(h1:-1000000000000000000<=a)(h2:a<=1000000000000000000)(h3:-1000000000000000000<=b)(h4:b<=1000000000000000000)(h5:-1000000000000000000<=c)(h6:c<=1000000000000000000)(h7:-1000000000000000000<=d)(h8:d<=1000000000000000000)(w:World) :
 Calls Vp.prog 105 #[.agg #[.int .i64 a,.int .i64 b],.agg #[.int .i64 c,.int .i64 d]] w fun e w'=>e=.returned (.agg #[.int .i64 (a-d),.int .i64 (b-c)])/\Below w.heap.size w w':=by
 obtain⟨X,Y,Z⟩:=Ur w #[.int .i64 a,.int .i64 b] 156 #[.int .i64 c,.int .i64 d] 156 #[.int .i64 0,.int .i64 0] 156;obtain⟨p,e1,f1⟩:∃x,wrap64 (a-d)=x/\a-d=x:=⟨_,Fv (by omega) (by omega),rfl⟩
 obtain⟨q,e2,f2⟩:∃x,wrap64 (b-c)=x/\b-c=x:=⟨_,Fv (by omega) (by omega),rfl⟩
 rw[f1,f2];have x0:=X.cell 0 _ rfl;have x1:=X.cell 1 _ rfl;have y0:=Y.cell 0 _ rfl;have y1:=Y.cell 1 _ rfl;have z0:=Z.cell 0 _ rfl;have z1:=Z.cell 1 _ rfl;have g0:=Z.frozen 0;have g1:=Z.frozen 1;have HB:=Aoy (fun u0 u1=>Uc X.old (b:=w.heap.size+1+1) (by omega) u0 u1)
 clear X Y Z h1 h2 h3 h4 h5 h6 h7 h8 f1 f2
 go_enter Vp.func105,Tryz.ntmps105
 go_wp2
 exact Ap4 (v:=.agg #[.int .i64 p,.int .i64 q]) (by simp[results,Tryz.f105,go_sem,e1,e2]) rfl ⟨rfl,A4f _ _ _ _⟩
theorem Hy (a b c d:Int)(h1:-1000000000000000000<=a)(h2:a<=1000000000000000000)(h3:-1000000000000000000<=b)(h4:b<=1000000000000000000)(h5:-1000000000000000000<=c)(h6:c<=1000000000000000000)(h7:-1000000000000000000<=d)(h8:d<=1000000000000000000)(w:World) :
 Calls Vp.prog 107 #[.agg #[.int .i64 a,.int .i64 b],.agg #[.int .i64 c,.int .i64 d]] w fun e w'=>e=.returned (.agg #[.int .i64 (a+c),.int .i64 (b+d)])/\Below w.heap.size w w':=by
 obtain⟨X,Y,Z⟩:=Ur w #[.int .i64 a,.int .i64 b] 156 #[.int .i64 c,.int .i64 d] 156 #[.int .i64 0,.int .i64 0] 156;obtain⟨p,e1,f1⟩:∃x,wrap64 (a+c)=x/\a+c=x:=⟨_,Fv (by omega) (by omega),rfl⟩
 obtain⟨q,e2,f2⟩:∃x,wrap64 (b+d)=x/\b+d=x:=⟨_,Fv (by omega) (by omega),rfl⟩
 rw[f1,f2];have x0:=X.cell 0 _ rfl;have x1:=X.cell 1 _ rfl;have y0:=Y.cell 0 _ rfl;have y1:=Y.cell 1 _ rfl;have z0:=Z.cell 0 _ rfl;have z1:=Z.cell 1 _ rfl;have g0:=Z.frozen 0;have g1:=Z.frozen 1;have HB:=Aoy (fun u0 u1=>Uc X.old (b:=w.heap.size+1+1) (by omega) u0 u1)
 clear X Y Z h1 h2 h3 h4 h5 h6 h7 h8 f1 f2
 go_enter Vp.func107,Tryz.ntmps107
 go_wp2
 exact Ap4 (v:=.agg #[.int .i64 p,.int .i64 q]) (by simp[results,Tryz.f107,go_sem,e1,e2]) rfl ⟨rfl,A4f _ _ _ _⟩
theorem Fs (a b:Int)(h1:-1000000000<=a)(h2:a<=1000000000)(h3:-1000000000<=b)(h4:b<=1000000000)(w:World) :
 Calls Vp.prog 106 #[.agg #[.int .i64 a,.int .i64 b]] w fun e w'=>e=.returned (.agg #[.int .i64 (Aw a b),.int .i64 (Ba a b)])/\Below w.heap.size w w':=by
 obtain⟨X,Z⟩:=A40 w #[.int .i64 a,.int .i64 b] 156 #[.int .i64 0,.int .i64 0] 156;have a1:=E0 a;have a2:=Ui h1 h2;have b1:=E0 b;have b2:=Ui h3 h4;obtain⟨p,hp,hpv⟩:∃p,wrap64 (a*a)=p/\p=a*a:=⟨_,rfl,Fv (by omega) (by omega)⟩
 obtain⟨q,hq,hqv⟩:∃q,wrap64 (b*b)=q/\q=b*b:=⟨_,rfl,Fv (by omega) (by omega)⟩
 have HV:Hid (Aw a b=(if a<=0/\0<=b then 0 else min p q)/\Ba a b=max p q):=by rw[hpv,hqv];exact⟨rfl,rfl⟩
 clear a1 a2 b1 b2 h1 h2 h3 h4 hpv hqv;generalize Aw a b=r at *;generalize Ba a b=s at *;obtain⟨m,hm⟩:∃m,(if q<p then q else p)=m:=⟨_,rfl⟩
 obtain⟨n,hn⟩:∃n,(if p<q then q else p)=n:=⟨_,rfl⟩
 have HM:Hid (m=min p q):=by show m=_;rw[<-hm];split<;>omega
 have HN:Hid (n=max p q):=by show n=_;rw[<-hn];split<;>omega
 have x0:=X.cell 0 _ rfl;have x1:=X.cell 1 _ rfl;have z0:=Z.cell 0 _ rfl;have z1:=Z.cell 1 _ rfl;have g0:=Z.frozen 0;have g1:=Z.frozen 1;have HX:=Aoy X;have HZ:=Aoy Z;clear X Z
 by_cases h0:a<=0
 ·by_cases h1:0<=b
  ·have h:=HV.out;rw[Apb ⟨h0,h1⟩,<-HN.out]at h;rw[h.1,h.2];clear HV HM HN h
   go_enter Vp.func106,Tryz.ntmps106
   go_upto_region 1 with fail
   go_quiet (fail)
   clear x0 x1 z0 z1 g0 g1;have X:=HX.out.step (((Au.refl _).drewN nq).below _);have Z:=HZ.out.step (((Au.refl _).drewN nq).below _);have x0:=X.cell 0 _ rfl;have x1:=X.cell 1 _ rfl;have z0:=Z.cell 0 _ rfl;have z1:=Z.cell 1 _ rfl;have g0:=Z.frozen 0;have g1:=Z.frozen 1;have HB:=Aoy (fun u0 u1=>Uc X.old (b:=w.heap.size+1) (by omega) u0 u1)
   clear X Z
   go_wp2
   all_goals
    exact Ap4 (v:=.agg #[.int .i64 0,.int .i64 n]) (by simp[results,Tryz.f106,go_sem,z0,z1]) rfl ⟨rfl,HB.out _ _⟩
  ·have h:=HV.out;rw[Ap8 (by omega),<-HN.out,<-HM.out]at h
   rw[h.1,h.2];clear HV HM HN h
   go_enter Vp.func106,Tryz.ntmps106
   go_upto_region 1 with fail
   go_quiet (fail)
   clear x0 x1 z0 z1 g0 g1;have X:=HX.out.step (((Au.refl _).drewN nq).below _);have Z:=HZ.out.step (((Au.refl _).drewN nq).below _);have x0:=X.cell 0 _ rfl;have x1:=X.cell 1 _ rfl;have z0:=Z.cell 0 _ rfl;have z1:=Z.cell 1 _ rfl;have g0:=Z.frozen 0;have g1:=Z.frozen 1;have HB:=Aoy (fun u0 u1=>Uc X.old (b:=w.heap.size+1) (by omega) u0 u1)
   clear X Z
   go_wp2
   all_goals
    exact Ap4 (v:=.agg #[.int .i64 m,.int .i64 n]) (by simp[results,Tryz.f106,go_sem,z0,z1]) rfl ⟨rfl,HB.out _ _⟩
 ·have h:=HV.out;rw[Ap8 (by omega),<-HN.out,<-HM.out]at h
  rw[h.1,h.2];clear HV HM HN h
  go_enter Vp.func106,Tryz.ntmps106
  go_upto_region 1 with fail
  go_quiet (fail)
  clear x0 x1 z0 z1 g0 g1;have X:=HX.out.step (((Au.refl _).drewN nq).below _);have Z:=HZ.out.step (((Au.refl _).drewN nq).below _);have x0:=X.cell 0 _ rfl;have x1:=X.cell 1 _ rfl;have z0:=Z.cell 0 _ rfl;have z1:=Z.cell 1 _ rfl;have g0:=Z.frozen 0;have g1:=Z.frozen 1;have HB:=Aoy (fun u0 u1=>Uc X.old (b:=w.heap.size+1) (by omega) u0 u1)
  clear X Z
  go_wp2
  all_goals
   exact Ap4 (v:=.agg #[.int .i64 m,.int .i64 n]) (by simp[results,Tryz.f106,go_sem,z0,z1]) rfl ⟨rfl,HB.out _ _⟩
theorem A0a {P:Program}{w:World}(ts:Array TypeId)(t:TypeId)(k k1 k2 k3:IntKind)(x y z u:Int):(Builtin.min_ ts t #[.int k x,.int k1 y,.int k2 z,.int k3 u]).run P w=.ok (.int k (if u <(if z <(if y<x then y else x)then z else(if y<x then y else x))then u else(if z <(if y<x then y else x)then z else(if y<x then y else x)))) w:=by
 simp[Builtin.min_,Builtin.min2,List.foldlM]
theorem A09 {P:Program}{w:World}(ts:Array TypeId)(t:TypeId)(k k1 k2 k3:IntKind)(x y z u:Int):(Builtin.max_ ts t #[.int k x,.int k1 y,.int k2 z,.int k3 u]).run P w=.ok (.int k (if(if(if x<y then y else x)<z then z else(if x<y then y else x))<u then u else(if(if x<y then y else x)<z then z else(if x<y then y else x)))) w:=by
 simp[Builtin.max_,Builtin.max2,List.foldlM]
attribute [local go_sem] A0a A09
theorem wrap_mul {a b k:Int}(h:-(k*k)<=a*b/\a*b<=k*k)(hk:k*k<=9223372036854775807):∃p,wrap64 (a*b)=p/\a*b=p:=⟨_,Fv (by omega) (by omega),rfl⟩
theorem A5u (a b c d:Int)(h1:-1000000000<=a)(h2:a<=1000000000)(h3:-1000000000<=b)(h4:b<=1000000000)(h5:-1000000000<=c)(h6:c<=1000000000)(h7:-1000000000<=d)(h8:d<=1000000000)(w:World) :
 Calls Vp.prog 142 #[.agg #[.int .i64 a,.int .i64 b],.agg #[.int .i64 c,.int .i64 d]] w fun e w'=>e=.returned (.agg #[.int .i64 (Qs ⟨a,b,c,d⟩),.int .i64 (Qr ⟨a,b,c,d⟩)])/\Below w.heap.size w w':=by
 obtain⟨X,Y,Z⟩:=Ur w #[.int .i64 a,.int .i64 b] 156 #[.int .i64 c,.int .i64 d] 156 #[.int .i64 0,.int .i64 0] 156;obtain⟨p,hp,ep⟩:=wrap_mul (Hf (x:=a) (y:=c) (k:=1000000000) h1 h2 h5 h6) (by decide)
 obtain⟨q,hq,eq⟩:=wrap_mul (Hf (x:=a) (y:=d) (k:=1000000000) h1 h2 h7 h8) (by decide)
 obtain⟨r,hr,er⟩:=wrap_mul (Hf (x:=b) (y:=c) (k:=1000000000) h3 h4 h5 h6) (by decide)
 obtain⟨t,ht,et⟩:=wrap_mul (Hf (x:=b) (y:=d) (k:=1000000000) h3 h4 h7 h8) (by decide)
 obtain⟨m1,g1,v1⟩:∃m,(if q<p then q else p)=m/\m=min p q:=⟨_,rfl,by split<;>omega⟩
 obtain⟨m2,g2,v2⟩:∃m,(if r<m1 then r else m1)=m/\m=min m1 r:=⟨_,rfl,by split<;>omega⟩
 obtain⟨m3,g3,v3⟩:∃m,(if t<m2 then t else m2)=m/\m=min m2 t:=⟨_,rfl,by split<;>omega⟩
 obtain⟨n1,k1,z1⟩:∃m,(if p<q then q else p)=m/\m=max p q:=⟨_,rfl,by split<;>omega⟩
 obtain⟨n2,k2,z2⟩:∃m,(if n1<r then r else n1)=m/\m=max n1 r:=⟨_,rfl,by split<;>omega⟩
 obtain⟨n3,k3,z3⟩:∃m,(if n2<t then t else n2)=m/\m=max n2 t:=⟨_,rfl,by split<;>omega⟩
 have vm:Qs ⟨a,b,c,d⟩=m3:=by unfold Qs;dsimp only;rw[ep,eq,er,et];omega
 have vn:Qr ⟨a,b,c,d⟩=n3:=by unfold Qr;dsimp only;rw[ep,eq,er,et];omega
 rw[vm,vn];have x0:=X.cell 0 _ rfl;have x1:=X.cell 1 _ rfl;have y0:=Y.cell 0 _ rfl;have y1:=Y.cell 1 _ rfl;have z0:=Z.cell 0 _ rfl;have z1':=Z.cell 1 _ rfl;have f0:=Z.frozen 0;have f1:=Z.frozen 1;have HX:=Aoy X;have HY:=Aoy Y;have HZ:=Aoy Z;clear X Y Z h1 h2 h3 h4 h5 h6 h7 h8 ep eq er et v1 v2 v3 z1 z2 z3 vm vn
 go_enter Vp.func142,Tryz.ntmps142
 go_upto_region 1 with fail
 go_quiet (fail)
 clear x0 x1 y0 y1 z0 z1' f0 f1;have X:=HX.out.step (((Au.refl _).drewN nq).below _);have Y:=HY.out.step (((Au.refl _).drewN nq).below _);have Z:=HZ.out.step (((Au.refl _).drewN nq).below _);have HX:=Aoy X;have HZ:=Aoy Z;have x0:=X.cell 0 _ rfl;have x1:=X.cell 1 _ rfl;have y0:=Y.cell 0 _ rfl;have y1:=Y.cell 1 _ rfl;clear X Y Z
 go_upto_region 2 with fail
 go_quiet (fail)
 clear x0 x1 y0 y1;have X:=HX.out.step (((Au.refl _).drewN nq).below _);have Z:=HZ.out.step (((Au.refl _).drewN nq).below _);have z0:=Z.cell 0 _ rfl;have z1':=Z.cell 1 _ rfl;have f0:=Z.frozen 0;have f1:=Z.frozen 1;have HB:=Aoy (fun u0 u1=>Uc X.old (b:=w.heap.size+1+1) (by omega) u0 u1)
 clear X Z
 go_wp2
 all_goals
  exact Ap4 (v:=.agg #[.int .i64 m3,.int .i64 n3]) (by simp[results,Tryz.f142,go_sem]) rfl ⟨rfl,Uc ((A4f _ _ _ _).trans (((Au.refl _).drewN _).below _)) (b:=w.heap.size+1+1) (by omega) _ _⟩
def A0i (l h:Int):Bool:=decide (-134217728<=l) && decide (l<=h) && decide (h<=134217728)
theorem Ug (a b:Int)(w:World):Calls Vp.prog 141 #[.agg #[.int .i64 a,.int .i64 b]] w fun e w'=>e=.returned (.bool (A0i a b))/\Below w.heap.size w w':=by
 have X:=A9.new w #[.int .i64 a,.int .i64 b] 156;have x0:=X.cell 0 _ rfl;have x1:=X.cell 1 _ rfl;have HB:=Aoy X.old;clear X;unfold A0i
 by_cases h1:-134217728<=a
 ·by_cases h2:a<=b
  ·by_cases h3:b<=134217728
   ·rw[Apj h1,Apj h2,Apj h3]
    go_enter Vp.func141,Tryz.ntmps141
    go_wp2
    go_ret
    exact⟨rfl,HB.out⟩
   ·rw[Apj h1,Apj h2,Apy h3]
    go_enter Vp.func141,Tryz.ntmps141
    go_wp2
    go_ret
    exact⟨rfl,HB.out⟩
  ·rw[Apj h1,Apy h2]
   go_enter Vp.func141,Tryz.ntmps141
   go_wp2
   go_ret
   exact⟨rfl,HB.out⟩
 ·rw[Apy h1]
  go_enter Vp.func141,Tryz.ntmps141
  go_wp2
  go_ret
  exact⟨rfl,HB.out⟩
theorem Pa (a b:Int)(k:Nat)(hk:k<=30)(h1:-4611686018427387904<=a)(h2:a<=4611686018427387904)(h3:-4611686018427387904<=b)(h4:b<=4611686018427387904)(w:World) :
 Calls Vp.prog 128 #[.agg #[.int .i64 a,.int .i64 b],.int .i64 k] w fun e w'=>e=.returned (.agg #[.int .i64 (a / (2^k:Nat)),.int .i64 (Kz b (2^k:Nat))])/\Below w.heap.size w w':=by
 obtain⟨X,Z⟩:=A40 w #[.int .i64 a,.int .i64 b] 156 #[.int .i64 0,.int .i64 0] 156;have x0:=X.cell 0 _ rfl;have x1:=X.cell 1 _ rfl;have z0:=Z.cell 0 _ rfl;have z1:=Z.cell 1 _ rfl;have f0:=Z.frozen 0;have f1:=Z.frozen 1
 have hq:-4611686018427387904 <=(-b) / (2^k:Nat) /\(-b) / (2^k:Nat)<=4611686018427387904:=by
  have hb:(0:Int) <(2^k:Nat):=by have:=Ap9 k;omega
  constructor
  ·apply Int.le_ediv_of_mul_le hb
   have:-4611686018427387904 *((2^k:Nat):Int)<=-4611686018427387904*1:=Atu (by omega) (by omega)
   omega
  ·apply Int.ediv_le_of_le_mul hb
   have:4611686018427387904*1<=4611686018427387904 *((2^k:Nat):Int):=Asl (by omega) (by omega)
   omega
 have e2:wrap64 (-((-b) / (2^k:Nat)))=Kz b (2^k:Nat):=Fv (by omega) (by omega)
 obtain⟨q1,e1⟩:∃q,a / (2^k:Nat)=q:=⟨_,rfl⟩;obtain⟨q2,e3⟩:∃q,Kz b (2^k:Nat)=q:=⟨_,rfl⟩;rw[e1,e3];rw[e3]at e2
 have HE:Hid (a / 2^k=q1/\wrap64 (-(-b / 2^k))=q2):=by
  have hp:((2^k:Nat):Int)=2^k:=by simp
  rw[hp]at e1 e2
  exact⟨e1,e2⟩
 clear X Z e1 e2 e3 hq
 go_enter Vp.func128,Tryz.ntmps128
 go_upto_region 1 with fail
 go_region
 go_wp2
 exact Ap4 (v:=.agg #[.int .i64 q1,.int .i64 q2]) (by simp[results,Tryz.f128,go_sem,HE.out.1,HE.out.2]) rfl ⟨rfl,(A4e _ _ _).trans ((Au.refl _).drew.below _)⟩
end
section
open Go.RowKit
theorem Ahf (a b c d:Int):Bl a b c d=(A0i a b && A0i c d):=by
 unfold Bl A0i Gt;rw[Au1];simp only[Ap7,Apm]
 omega
theorem A9.Et {w0 W:World}{b:Nat}{C:Array Value}{T:TypeId}(h:A9 w0 b C T W){b':Nat}(hb:w0.heap.size<=b')(hne:b≠b')(u0 u1:Value):A9 w0 b C T ((W.setCell ⟨b',0,none⟩ u0).setCell ⟨b',1,none⟩ u1) :=
 (h.other (p:=⟨b',0,none⟩) hb hne u0).other (p:=⟨b',1,none⟩) hb hne u1
theorem A9.Gl {w0 W:World}{b:Nat}{C:Array Value}{T:TypeId}(h:A9 w0 b C T W){b':Nat}(hb:w0.heap.size<=b')(hne:b≠b')(u0 u1 u2 u3:Value):A9 w0 b C T ((((W.setCell ⟨b',0,none⟩ u0).setCell ⟨b',1,none⟩ u1).setCell ⟨b',2,none⟩ u2).setCell ⟨b',3,none⟩ u3) :=
 (h.Et hb hne u0 u1).other (p:=⟨b',2,none⟩) hb hne u2 |>.other (p:=⟨b',3,none⟩) hb hne u3
theorem A3f {w W:World}(h:Below w.heap.size w W){b:Nat}(hb:w.heap.size<=b)(u0 u1 u2 u3:Value):Below w.heap.size w ((((W.setCell ⟨b,0,none⟩ u0).setCell ⟨b,1,none⟩ u1).setCell ⟨b,2,none⟩ u2).setCell ⟨b,3,none⟩ u3) :=
 ((Uc h hb u0 u1).setCell (p:=⟨b,2,none⟩) hb u2).setCell (p:=⟨b,3,none⟩) hb u3
theorem Fp (a b c d:Int)(w:World):Calls Vp.prog 111 #[.agg #[.int .i64 a,.int .i64 b,.int .i64 c,.int .i64 d]] w fun e w'=>e=.returned (.agg #[.int .i64 a,.int .i64 b,.int .i64 c,.int .i64 d])/\Below w.heap.size w w':=by
 obtain⟨X,Z⟩:=A40 w #[.int .i64 a,.int .i64 b,.int .i64 c,.int .i64 d] 93 #[.int .i64 0,.int .i64 0,.int .i64 0,.int .i64 0] 158;have x0:=X.cell 0 _ rfl;have x1:=X.cell 1 _ rfl;have x2:=X.cell 2 _ rfl;have x3:=X.cell 3 _ rfl;have z0:=Z.cell 0 _ rfl;have z1:=Z.cell 1 _ rfl;have z2:=Z.cell 2 _ rfl;have z3:=Z.cell 3 _ rfl;have f0:=Z.frozen 0;have f1:=Z.frozen 1;have f2:=Z.frozen 2;have f3:=Z.frozen 3;clear X Z
 go_enter Vp.func111,Tryz.ntmps111
 go_wp2
 exact Ap4 (v:=.agg #[.int .i64 a,.int .i64 b,.int .i64 c,.int .i64 d]) (by simp[results,Tryz.f111,go_sem]) rfl ⟨rfl,A4e _ _ _⟩
theorem Y8 (a b c d:Int)(h1:-1000000000<=a)(h2:a<=1000000000)(h3:-1000000000<=b)(h4:b<=1000000000)(h5:-1000000000<=c)(h6:c<=1000000000)(h7:-1000000000<=d)(h8:d<=1000000000)(w:World) :
 Calls Vp.prog 108 #[.agg #[.int .i64 a,.int .i64 b,.int .i64 c,.int .i64 d]] w fun e w'=>e=.returned (.agg #[.int .i64 (Zu ⟨a,b,c,d⟩),.int .i64 (nHi ⟨a,b,c,d⟩)])/\Below w.heap.size w w':=by
 obtain⟨X,Z⟩:=A40 w #[.int .i64 a,.int .i64 b,.int .i64 c,.int .i64 d] 158 #[.int .i64 0,.int .i64 0] 156;have l1:=Fb (l:=a) (h:=b) (k:=1000000000) h1 h2;have l2:=Fb (l:=c) (h:=d) (k:=1000000000) h5 h6;have l3:=Dm (l:=a) (h:=b) (k:=1000000000) h1 h2 h3 h4;have l4:=Dm (l:=c) (h:=d) (k:=1000000000) h5 h6 h7 h8;have HQ:=Aoy (Fs a b h1 h2 h3 h4);have HR:=Aoy (Fs c d h5 h6 h7 h8);have hN:Zu ⟨a,b,c,d⟩=Aw a b+Aw c d:=rfl;have hM:nHi ⟨a,b,c,d⟩=Ba a b+Ba c d:=rfl;rw[hN,hM];generalize Aw a b=s1 at *;generalize Aw c d=s3 at *;generalize Ba a b=s2 at *;generalize Ba c d=s4 at *;have HP:=Aoy (Hy s1 s2 s3 s4 (by omega) (by omega) (by omega) (by omega) (by omega) (by omega) (by omega) (by omega))
 generalize s1+s3=t1 at *;generalize s2+s4=t2 at *;have HX:Hid (∀W',Below ((w.alloc (.cells #[.int .i64 a,.int .i64 b,.int .i64 c,.int .i64 d] 158)).alloc (.cells #[.int .i64 0,.int .i64 0] 156)).drew.heap.size ((w.alloc (.cells #[.int .i64 a,.int .i64 b,.int .i64 c,.int .i64 d] 158)).alloc (.cells #[.int .i64 0,.int .i64 0] 156)).drew W'->A9 w w.heap.size #[.int .i64 a,.int .i64 b,.int .i64 c,.int .i64 d] 158 W'):=fun W' h=>(X.step ((Au.refl _).drew.below _)).step h
 have HZ:Hid (∀W',Below ((w.alloc (.cells #[.int .i64 a,.int .i64 b,.int .i64 c,.int .i64 d] 158)).alloc (.cells #[.int .i64 0,.int .i64 0] 156)).drew.heap.size ((w.alloc (.cells #[.int .i64 a,.int .i64 b,.int .i64 c,.int .i64 d] 158)).alloc (.cells #[.int .i64 0,.int .i64 0] 156)).drew W'->A9 w (w.heap.size+1) #[.int .i64 0,.int .i64 0] 156 W'):=fun W' h=>(Z.step ((Au.refl _).drew.below _)).step h
 have HXs:=Aoy (fun W' h u0 u1=>(HX.out W' h).Et (b':=w.heap.size+1) (by omega) (by omega) u0 u1)
 have hbk:=Aph ((w.alloc (.cells #[.int .i64 a,.int .i64 b,.int .i64 c,.int .i64 d] 158)).alloc (.cells #[.int .i64 0,.int .i64 0] 156)).drew.heap.size ((w.alloc (.cells #[.int .i64 a,.int .i64 b,.int .i64 c,.int .i64 d] 158)).alloc (.cells #[.int .i64 0,.int .i64 0] 156)).drew;clear X Z l1 l2 l3 l4 hN hM h1 h2 h3 h4 h5 h6 h7 h8
 go_enter Vp.func108,Tryz.ntmps108
 go_upto_region 1 with fail
 generalize (w.alloc (.cells #[.int .i64 a,.int .i64 b,.int .i64 c,.int .i64 d] 158)).alloc (.cells #[.int .i64 0,.int .i64 0] 156)=W at *
 go_region_held3 (fun w'=>w'.cell? ⟨w.heap.size,0,none⟩=some (.int .i64 a)/\w'.cell? ⟨w.heap.size,1,none⟩=some (.int .i64 b)/\w'.cell? ⟨w.heap.size,2,none⟩=some (.int .i64 c)/\w'.cell? ⟨w.heap.size,3,none⟩=some (.int .i64 d)) (((first|dsimp only|skip);first |(with_reducible exact⟨(HX.out _ hbk).cell 0 _ rfl,(HX.out _ hbk).cell 1 _ rfl,(HX.out _ hbk).cell 2 _ rfl,(HX.out _ hbk).cell 3 _ rfl⟩) |(with_reducible exact⟨(HXs.out _ hbk _ _).cell 0 _ rfl,(HXs.out _ hbk _ _).cell 1 _ rfl,(HXs.out _ hbk _ _).cell 2 _ rfl,(HXs.out _ hbk _ _).cell 3 _ rfl⟩))) (first
  |(go_at_call 106;(first |(with_reducible refine(HQ.out _).mono ?_) |(with_reducible refine(HR.out _).mono ?_));rintro e w' ⟨rfl,hb⟩;replace hbk:=hbk.trans (hb.mono hbk.size);clear hb)
  |(go_at_call 107;(with_reducible refine(HP.out _).mono ?_);rintro e w' ⟨rfl,hb⟩;replace hbk:=hbk.trans (hb.mono hbk.size);clear hb;have z0:=(HZ.out _ hbk).cell 0 _ rfl;have z1:=(HZ.out _ hbk).cell 1 _ rfl;have g0:=(HZ.out _ hbk).frozen 0;have g1:=(HZ.out _ hbk).frozen 1))
 all_goals
  go_wp2
  exact Ap4 (v:=.agg #[.int .i64 t1,.int .i64 t2]) (by simp[results,Tryz.f108,go_sem,z0,z1]) rfl ⟨rfl,Uc (HZ.out _ hbk).old (b:=w.heap.size+1) (by omega) _ _⟩
end
namespace Flo
open Go.RowKit Ieee
def Al (k:FloatKind)(x y:Nat):Prop:=x=y \/(nan k x=true/\nan k y=true)
theorem Al.refl (k:FloatKind)(x:Nat):Al k x x:=.inl rfl
theorem Al.order {k:FloatKind}{x y x' y':Nat}(h:Al k x x')(g:Al k y y'):k.format.order x y=k.format.order x' y':=by
 rcases h with rfl |⟨h1,h2⟩
 ·rcases g with rfl |⟨g1,g2⟩
  ·rfl
  ·rw[Kq x g1,Kq x g2]
 ·rw[Ij y h1,Ij y' h2]
theorem Ib {op:BinOp}{k:FloatKind}{x:Nat}(y:Nat)(h:nan k x=true):floatBits op k x y=none:=by
 unfold nan FloatKind.decode at h
 cases op<;>simp only[floatBits,Format.add,Format.sub,Format.mul,Format.div]
 all_goals cases hx:k.format.read x<;>simp_all [Datum.isNaN,Datum.sum,Datum.product,Datum.quotient]
theorem Hd {op:BinOp}{k:FloatKind}{y:Nat}(x:Nat)(h:nan k y=true):floatBits op k x y=none:=by
 unfold nan FloatKind.decode at h
 cases op<;>simp only[floatBits,Format.add,Format.sub,Format.mul,Format.div]
 all_goals cases hy:k.format.read y<;>simp_all [Datum.isNaN]
 all_goals cases hx:k.format.read x<;>simp[Datum.opposite,Datum.sum,Datum.product,Datum.quotient]
def Ot:FloatKind->Nat
 | .f32=>2143289344
 | .f64=>9221120237041090560
theorem Ey (k:FloatKind):nan k (Ot k)=true:=by cases k<;>decide
def Dh (op:BinOp)(k:FloatKind)(x y:Nat):Nat:=(floatBits op k x y).getD (Ot k)
theorem Fh {op:BinOp}{k:FloatKind}{x y x' y':Nat}(h:Al k x x')(g:Al k y y'):Dh op k x y=Dh op k x' y':=by
 rcases h with rfl |⟨h1,h2⟩
 ·rcases g with rfl |⟨g1,g2⟩
  ·rfl
  ·unfold Dh;rw[Hd x g1,Hd x g2]
 ·unfold Dh;rw[Ib y h1,Ib y' h2]
theorem Aez (k:FloatKind)(x y t:Nat):nan k ((Question.nanBits k x y).cut t)=true:=by
 cases k
 ·exact Xn _
 ·exact Xo _
theorem C9 {P:Program}(op:BinOp)(hop:op=.add\/op=.sub\/op=.mul\/op=.quo)(t:TypeId)(k:FloatKind)(x y:Nat)(w:World) :
 ∃z w',(binOp op t (.float k x) (.float k y)).run P w=.ok (.float k z) w'/\z<2^k.format.width/\Au w w'/\Al k (Dh op k x y) z:=by
 cases h:floatBits op k x y with
 | some r =>
   refine⟨r,w,Aqa w op t k x y r h,?_,Au.refl w,.inl ?_⟩
   ·have:=floatBits_wf h
    cases k<;>simpa [Lit.wf,A0r,A0s]using this
   ·unfold Dh;rw[h];rfl
 | none =>
   refine⟨(Question.nanBits k x y).cut (w.tape w.drawn (Question.nanBits k x y)),w.drew,?_,?_,(Au.refl w).drew,.inr ⟨?_,Aez _ _ _ _⟩⟩
   ·unfold floatBits at h
    rcases hop with rfl|rfl|rfl|rfl<;>simp only at h<;>simp[binOp,Op.floatArith,h]<;>(intro hf;simp[Question.forced]at hf)
   ·cases k
    ·exact A1j _ _ _
    ·exact A1k _ _ _
   ·unfold Dh;rw[h];exact Ey k
theorem A5g {op:BinOp}{k:FloatKind}{x y:Nat}:Dh op k x y<2^k.format.width:=by
 unfold Dh
 cases h:floatBits op k x y with
 | some r =>
   have:=floatBits_wf h
   cases k<;>simpa [Lit.wf,A0r,A0s]using this
 | none=>cases k<;>decide
end Flo
namespace Flo
open Go.RowKit Ieee
def Ir:Nat:=776
theorem A79:Ir=776:=rfl
def Ri:Nat:=298
def Xc:Nat:=1100
theorem Acb:Xc=1100:=rfl
theorem Mq (f:Format){r q:Nat}(h:r<=q):rv f r<=rv f q:=by
 have m1:=P7 f r;have hb:=E2 f
 have hle:re f r<=re f q:=by
  unfold re;have:=Nat.div_le_div_right (c:=f.binade) h
  omega
 rcases Nat.eq_or_lt_of_le hle with e|hlt
 ·have:rm f r<=rm f q:=by unfold rm;rw[<-e];omega
  unfold rv;rw[<-e];exact Ap2 _ this
 ·have hg:=Xw f q (by omega)
  unfold rv;have e1:rm f r*2^re f r <=(2*f.binade)*2^re f r:=Ap2 _ (Ate m1)
  have e2:(2*f.binade)*2^re f r=f.binade*2^(re f r+1):=by
   rw[Ark,Apr 2 f.binade,Apo,Apr 2]
  have e3:f.binade*2^(re f r+1)<=f.binade*2^re f q:=Aty _ (Api (by omega) hlt)
  have e4:f.binade*2^re f q<=rm f q*2^re f q:=Ap2 _ hg
  omega
theorem Nt {f:Format}{s:Bool}{mag:Nat}{place:Int}{r a b:Nat}(hr:r<f.infRung)(hp:place-f.leastPlace=(a:Int)-b)(h:mag*2^a<=rv f r*2^b) :
 D6 f (f.nearest s mag place) (iv f (f.nearest s mag place)) /\(iv f (f.nearest s mag place)).natAbs<=rv f r:=by
 have h1:=A07 (neg:=s) hp h;have hw:=On f s (rnd f s mag place) (by omega)
 refine⟨⟨Format.nearest_lt _ _ _ _,?_,rfl⟩,?_⟩
 ·rw[Dg];exact hw.1
 ·rw[Dg,hw.2,natAbs_sign];exact Mq f h1
theorem Aix {f:Format}{s t:Bool}{m n i j r:Nat}{a b:Int}(hi:signed s m i=a)(hj:signed t n j=b)(hr:r<f.infRung)(h:(a+b).natAbs<=rv f r) :
 ∃z,((Datum.number s m (f.leastPlace+i)).sum (Datum.number t n (f.leastPlace+j))).map f.write=some z/\D6 f z (iv f z) /\(iv f z).natAbs<=rv f r:=by
 simp only[Datum.sum,Ary,Format.write]
 refine⟨_,rfl,?_⟩
 obtain⟨c,hc⟩:∃c:Nat,min (f.leastPlace +(i:Int)) (f.leastPlace +(j:Int))=f.leastPlace+c:=⟨min i j,by omega⟩
 rw[hc];obtain⟨i',hi'⟩:∃i',i=i'+c:=⟨i-c,by omega⟩
 obtain⟨j',hj'⟩:∃j',j=j'+c:=⟨j-c,by omega⟩
 have e1:(f.leastPlace +(i:Int)-(f.leastPlace+c)).toNat=i':=by omega
 have e2:(f.leastPlace +(j:Int)-(f.leastPlace+c)).toNat=j':=by omega
 rw[e1,e2];rw[hi',Cg]at hi;rw[hj',Cg]at hj;generalize signed s m i'=p at *;generalize signed t n j'=q at *;have hsum:(p+q) *(2^c:Nat)=a+b:=by rw[Asa,hi,hj]
 refine Nt (a:=c) (b:=0) hr (by omega) ?_
 rw[<-hsum,Apt,Apf]at h;rw[Atd,Ata]
 exact h
theorem Ae4 {f:Format}{x y r:Nat}{a b:Int}(hx:D6 f x a)(hy:D6 f y b)(hr:r<f.infRung)(h:(a-b).natAbs<=rv f r):∃z,f.sub x y=some z/\D6 f z (iv f z) /\(iv f z).natAbs<=rv f r:=by
 unfold Format.sub;rw[Az hx.fin,Az hy.fin];have hj:signed (!Il f y) (rm f (Af f y)) (re f (Af f y))=-b:=by rw[A5s,E7,hy.iv]
 exact Aix ((E7 f x).trans hx.iv) hj hr h
theorem Aiy {f:Format}{s t:Bool}{m n i j r:Nat}{a b:Int}(hi:signed s m i=a)(hj:signed t n j=b)(hr:r<=f.infRung)(hr0:0<rv f r)(h:(rv f r:Int)<=a+b) :
 ∃q,((Datum.number s m (f.leastPlace+i)).sum (Datum.number t n (f.leastPlace+j))).map f.write=some (f.word false q)/\r<=q/\q<=f.infRung:=by
 simp only[Datum.sum,Ary,Format.write];obtain⟨c,hc⟩:∃c:Nat,min (f.leastPlace +(i:Int)) (f.leastPlace +(j:Int))=f.leastPlace+c:=⟨min i j,by omega⟩
 rw[hc];obtain⟨i',hi'⟩:∃i',i=i'+c:=⟨i-c,by omega⟩
 obtain⟨j',hj'⟩:∃j',j=j'+c:=⟨j-c,by omega⟩
 have e1:(f.leastPlace +(i:Int)-(f.leastPlace+c)).toNat=i':=by omega
 have e2:(f.leastPlace +(j:Int)-(f.leastPlace+c)).toNat=j':=by omega
 rw[e1,e2];rw[hi',Cg]at hi;rw[hj',Cg]at hj;generalize signed s m i'=p at *;generalize signed t n j'=q at *;have hsum:(p+q) *(2^c:Nat)=a+b:=by rw[Asa,hi,hj]
 have hp:(0:Int) <(2^c:Nat):=by have:=Ap9 c;omega
 have hpos:0<p+q:=by
  rcases Arw 0 (p+q)with h2|h2
  ·exact h2
  ·have:=Int.mul_nonpos_of_nonpos_of_nonneg h2 (Asv hp);omega
 have hs:(if p+q=0 then s && t else decide (p+q<0))=false:=by
  rw[Ap8 (by omega)];simp;omega
 rw[hs,Dg]
 refine⟨_,rfl,A06 (a:=c) (b:=0) hr (by omega) ?_,U6 _ _ _ _⟩
 rw[Atd,Ata]
 have:(((p+q).natAbs*2^c:Nat):Int)=a+b:=by
  rw[<-hsum,Apx]
  congr 1
  omega
 omega
def r5:Nat:=4617315517961601024
theorem K7:rv double r5=5*2^u64:=by kernel_rfl
theorem Th:r5<double.infRung:=by decide
theorem Aho:D6 double 4616189618054758400 ((4:Int) *(2^u64:Nat)):=by
 refine⟨by decide,by unfold fin;decide,?_⟩
 unfold iv;rw[Ap8 (by decide)]
 have:rv double (Af double 4616189618054758400)=4*2^u64:=by kernel_rfl
 rw[this];simp
def s5:Nat:=1084227584
theorem Wz:rv single s5=5*2^u32:=by kernel_rfl
theorem Ti:s5<single.infRung:=by decide
def Ts (n:Nat):Bool:=FloatKind.f64.format.order n 4616189618054758400 == some .lt || FloatKind.f64.format.order n 4616189618054758400 == some .eq
theorem Ry {n:Nat}(h:nan .f64 n=true):Ts n=false:=by unfold Ts;rw[Ij _ h];rfl
theorem A7a:Ts 9218868437227405312=false:=by decide
theorem A10 {x y:Nat}{a b:Int}(hx:D6 double x a)(hy:D6 double y b)(h:((5*2^u64:Nat):Int)<=a+b):Ts (Dh .add .f64 x y)=false:=by
 obtain⟨q,hq,h1,h2⟩:=Aiy (f:=double) (r:=r5) ((E7 double x).trans hx.iv) ((E7 double y).trans hy.iv) (Ate Th) (by rw[K7];have:=Ap9 u64;omega) (by rw[K7];exact h)
 have e:floatBits .add .f64 x y=some (double.word false q):=by
  show(double.add x y)=_
  unfold Format.add;rw[Az hx.fin,Az hy.fin]
  exact hq
 unfold Dh;rw[e,Option.getD_some]
 rcases Nat.eq_or_lt_of_le h2 with e2|hlt
 ·rw[e2];decide
 ·have hw:=On double false q hlt
  have wlt:double.word false q<2^double.width:=by
   have h9:double.infRung<2^double.width:=by decide
   show q<_
   omega
  have hv:D6 double (double.word false q) (rv double q:Int):=⟨wlt,hw.1,by rw[hw.2];simp⟩
  have hm:=Mq double h1;rw[K7]at hm;have h4:=Aho;have hU:=Ap9 u64;unfold Ts;rw[show(FloatKind.f64.format.order (double.word false q) 4616189618054758400 == some .lt)=_ from G0 (k:=.f64) hv h4,show(FloatKind.f64.format.order (double.word false q) 4616189618054758400 == some .eq)=_ from Cq (k:=.f64) hv h4];generalize (2:Nat)^u64=U at *;simp
  omega
def Aa (x:Nat):Nat:=(floatToFloatBits .f32 x .f64).getD (Ot .f64)
def C8 (x:Nat):Nat:=(floatToFloatBits .f64 x .f32).getD (Ot .f32)
theorem Ek {s k:FloatKind}{x:Nat}(hne:s≠k)(h:nan s x=true):floatToFloatBits s x k=none:=by
 unfold nan at h;unfold floatToFloatBits;rw[Ap8 hne]
 cases hd:s.decode x<;>simp_all [Datum.isNaN]
theorem Mx {x y:Nat}(h:Al .f32 x y):Aa x=Aa y:=by
 rcases h with rfl |⟨h1,h2⟩
 ·rfl
 ·unfold Aa;rw[Ek (by decide) h1,Ek (by decide) h2]
theorem Ka {x y:Nat}(h:Al .f64 x y):C8 x=C8 y:=by
 rcases h with rfl |⟨h1,h2⟩
 ·rfl
 ·unfold C8;rw[Ek (by decide) h1,Ek (by decide) h2]
def Ky (x y:Nat):Nat:=Dh .sub .f64 (Dh .mul .f64 x x) (Dh .mul .f64 y y)
def Kx (x y:Nat):Nat:=Dh .mul .f64 4611686018427387904 (Dh .mul .f64 x y)
def Cr (x y:Nat):Nat:=Dh .add .f64 (Dh .mul .f64 x x) (Dh .mul .f64 y y)
theorem A7e {x:Nat}{s:Bool}(h:double.read x=.infinity s):Dh .mul .f64 x x=9218868437227405312:=by
 have e:floatBits .mul .f64 x x=some 9218868437227405312:=by
  show double.mul x x=_
  unfold Format.mul;rw[h]
  cases s<;>decide
 unfold Dh;rw[e];rfl
theorem A2e:double.read 9218868437227405312=.infinity false:=by decide
theorem Yv (y:Nat):Ts (Dh .add .f64 9218868437227405312 y)=false:=by
 have e:floatBits .add .f64 9218868437227405312 y=some 9218868437227405312\/floatBits .add .f64 9218868437227405312 y=none:=by
  show double.add _ y=_\/double.add _ y=_
  unfold Format.add;rw[A2e]
  cases double.read y with
  | nan _ _=>right;rfl
  | infinity t=>cases t<;>simp[Datum.sum]<;>decide
  | number _ _ _=>left;simp[Datum.sum];decide
 unfold Dh
 rcases e with e|e
 ·rw[e];exact A7a
 ·rw[e];exact Ry (Ey _)
theorem Vf (x:Nat):Ts (Dh .add .f64 x 9218868437227405312)=false:=by
 have e:floatBits .add .f64 x 9218868437227405312=some 9218868437227405312\/floatBits .add .f64 x 9218868437227405312=none:=by
  show double.add x _=_\/double.add x _=_
  unfold Format.add;rw[A2e]
  cases double.read x with
  | nan _ _=>right;rfl
  | infinity t=>cases t<;>simp[Datum.sum]<;>decide
  | number _ _ _=>left;simp[Datum.sum];decide
 unfold Dh
 rcases e with e|e
 ·rw[e];exact A7a
 ·rw[e];exact Ry (Ey _)
theorem Kd {op:BinOp}{k:FloatKind}{x:Nat}(y:Nat)(h:nan k x=true):Dh op k x y=Ot k:=by unfold Dh;rw[Ib y h];rfl
theorem Vq {op:BinOp}{k:FloatKind}{y:Nat}(x:Nat)(h:nan k y=true):Dh op k x y=Ot k:=by unfold Dh;rw[Hd x h];rfl
theorem Oi {x y:Nat}(h:Ts (Cr (Aa x) (Aa y))=true):fin single x:=by
 rcases kinds single (by decide) x with hf |⟨s,hi⟩ |⟨s,t,hn⟩
 ·exact hf
 ·exfalso
  have e:Aa x=FloatKind.encode .f64 (.infinity s):=by
   unfold Aa floatToFloatBits;rw[Ap8 (by decide),show FloatKind.decode .f32 x=.infinity s from hi];rfl
  have er:double.read (Aa x)=.infinity s:=by rw[e];cases s<;>decide
  unfold Cr at h;rw[A7e er,Yv]at h
  cases h
 ·exfalso
  have hx:nan .f32 x=true:=by unfold nan;rw[show FloatKind.decode .f32 x=.nan s t from hn];rfl
  have e:Aa x=Ot .f64:=by unfold Aa;rw[Ek (by decide) hx];rfl
  unfold Cr at h;rw[e,Kd _ (Ey _),Kd _ (Ey _),Ry (Ey _)]at h
  cases h
theorem Mg {x y:Nat}(h:Ts (Cr (Aa x) (Aa y))=true):fin single y:=by
 rcases kinds single (by decide) y with hf |⟨s,hi⟩ |⟨s,t,hn⟩
 ·exact hf
 ·exfalso
  have e:Aa y=FloatKind.encode .f64 (.infinity s):=by
   unfold Aa floatToFloatBits;rw[Ap8 (by decide),show FloatKind.decode .f32 y=.infinity s from hi];rfl
  have er:double.read (Aa y)=.infinity s:=by rw[e];cases s<;>decide
  unfold Cr at h;rw[A7e er,Vf]at h
  cases h
 ·exfalso
  have hx:nan .f32 y=true:=by unfold nan;rw[show FloatKind.decode .f32 y=.nan s t from hn];rfl
  have e:Aa y=Ot .f64:=by unfold Aa;rw[Ek (by decide) hx];rfl
  unfold Cr at h;rw[e,Kd (Ot .f64) (Ey _),Vq _ (Ey _),Ry (Ey _)]at h
  cases h
theorem H8 {x y X Y:Nat}{a b:Int}(hx:D6 single x a)(hy:D6 single y b)(hX:D6 double X (a *(2^Hc:Nat)))(hY:D6 double Y (b *(2^Hc:Nat))) :
 D6 double (Dh .mul .f64 X Y) (a*b *(2^Ir:Nat)):=by
 have dx:=Cy hx;have dy:=Cy hy;have rx:=A36 (e:=254) hx.fin (by decide)
 have ry:=A36 (e:=254) hy.fin (by decide)
 have mx:=P7 single (Af single x);have my:=P7 single (Af single y);rw[By]at mx my;generalize re single (Af single x)=ex at *;generalize re single (Af single y)=ey at *;generalize rm single (Af single x)=px at *;generalize rm single (Af single y)=py at *;have hm:px*py<2^24*2^24:=Nat.mul_lt_mul'' (by omega) (by omega)
 have hr:Pm double (a*b *(2^Ir:Nat)):=by
  refine A05 (m:=px*py) (e:=ex+ey+Ir) ?_ ?_ ?_ ?_
  ·rw[Apt,Apt,Apf,dx,dy,Apk,Apk];simp only[Apo,Asc]
  ·rw[An];omega
  ·show 52<=_;rw[A79];omega
  ·rw[Bp];exact Ap2 _ (by rw[A79];omega)
 have hc:a *(2^Hc:Nat) *(b *(2^Hc:Nat))=a*b *(2^Ir:Nat) *(2^u64:Nat):=by
  have e:((2^Hc:Nat):Int) *(2^Hc:Nat)=(2^Ir:Nat) *(2^u64:Nat):=by
   rw[<-Apx,<-Apx,<-Apk,<-Apk,show Hc+Hc=Ir+u64 from rfl]
  have e2:a *(2^Hc:Nat) *(b *(2^Hc:Nat))=a*b *((2^Hc:Nat) *(2^Hc:Nat)):=by
   rw[Aqf,Aqf,Int.mul_left_comm _ b]
  rw[e2,e,<-Aqf]
 obtain⟨z,hz,hv⟩:=Hq (f:=double) Cp hX hY hc hr
 have:Dh .mul .f64 X Y=z:=by
  unfold Dh;rw[show floatBits .mul .f64 X Y=some z from hz];rfl
 rw[this];exact hv
theorem Xp {z:Nat}(hz:D6 double z (iv double z))(hb:(iv double z).natAbs<=5*2^u64):∃u,floatToFloatBits .f64 z .f32=some u:=by
 have hd:=Cy hz
 have hn:=Nt (f:=single) (s:=Il double z) (mag:=rm double (Af double z)) (place:=double.leastPlace+re double (Af double z)) (r:=s5) (a:=re double (Af double z)) (b:=Hc) Ti (by rw[Ht,Hp,O1];omega) (by
  rw[Wz,<-hd];have:5*2^u32*2^Hc=5*2^u64:=by rw[Apo,<-Apk,show u32+Hc=u64 from rfl]
  rw[this];exact hb)
 unfold floatToFloatBits;rw[Ap8 (by decide)]
 have hdec:FloatKind.decode .f64 z=.number (Il double z) (rm double (Af double z)) (double.leastPlace+re double (Af double z)):=Az hz.fin;rw[hdec];have hni:(FloatKind.decode .f32 (FloatKind.encode .f32 (.number (Il double z) (rm double (Af double z)) (double.leastPlace+re double (Af double z))))).isInfinity=false:=A0p (k:=.f32) hn.1;simp only[hni]
 exact⟨_,rfl⟩
theorem A7p {p:Nat}{v:Int}(h:D6 double p v)(hb:(2*v).natAbs<=5*2^u64):Pm double (2*v):=by
 have hd:=Cy h;have hm:=P7 double (Af double p)
 have hre:re double (Af double p)<=Xc:=by
  rcases Asp Xc (re double (Af double p))with h1|h1
  ·exfalso
   have hg:=Xw double (Af double p) (by omega)
   rw[An]at hg;have h2:2^Xc<=2^re double (Af double p):=Api (by omega) (by omega)
   have h3:=Aqh (show 1<=rm double (Af double p) by omega) h2
   have h4:2^Xc=2^26*2^u64:=by rw[<-Apk,show 26+u64=Xc from rfl]
   rw[Apt,hd]at hb;rw[h4]at h3;have hU:=Ap9 u64;generalize (2:Nat)^u64=U at *;simp at hb
   omega
  ·exact h1
 refine Hs (m:=rm double (Af double p)) (e:=re double (Af double p)+1) ?_ hm ?_
 ·rw[Apt,hd,Ark]
  show 2*_=_
  rw[Apr 2,Apo]
 ·rw[Bp];exact Ap2 _ (by rw[Acb]at hre;omega)
theorem sq_pos (a:Int):0<=a*a:=by
 rcases Aro 0 a with h|h
 ·exact Aqt h h
 ·exact Int.mul_nonneg_of_nonpos_of_nonpos h h
theorem Se {x y:Nat}(hx:x<4294967296)(hy:y<4294967296)(h:Ts (Cr (Aa x) (Aa y))=true) :
 (∃u,floatToFloatBits .f64 (Ky (Aa x) (Aa y)) .f32=some u) /\(∃v,floatToFloatBits .f64 (Kx (Aa x) (Aa y)) .f32=some v):=by
 have vx:D6 single x (iv single x):=⟨hx,Oi h,rfl⟩;have vy:D6 single y (iv single y):=⟨hy,Mg h,rfl⟩;obtain⟨X,eX,vX⟩:=Dv vx;obtain⟨Y,eY,vY⟩:=Dv vy;have wx:Aa x=X:=by unfold Aa;rw[eX];rfl
 have wy:Aa y=Y:=by unfold Aa;rw[eY];rfl
 rw[wx,wy]at h ⊢;have pxx:=H8 vx vx vX vX;have pyy:=H8 vy vy vY vY;have pxy:=H8 vx vy vX vY;have eK:(5*2^u64:Nat)=5*2^Ri*2^Ir:=by rw[Apo,<-Apk,show Ri+Ir=u64 from rfl]
 have hsum:iv single x*iv single x+iv single y*iv single y <((5*2^Ri:Nat):Int):=by
  rcases Arw (iv single x*iv single x+iv single y*iv single y) ((5*2^Ri:Nat):Int)with h1|h1
  ·exact h1
  ·exfalso
   have:=A10 pxx pyy (by
    rw[eK,<-Asa,Apx (5*2^Ri)]
    exact Arn h1 (Atg _))
   unfold Cr at h;rw[this]at h;cases h
 have sx:0<=iv single x*iv single x:=sq_pos _;have sy:0<=iv single y*iv single y:=sq_pos _;have h2:0 <=(iv single x-iv single y) *(iv single x-iv single y):=sq_pos _;have h3:0 <=(iv single x+iv single y) *(iv single x+iv single y):=sq_pos _
 have e2:(iv single x-iv single y) *(iv single x-iv single y)=iv single x*iv single x+iv single y*iv single y-2 *(iv single x*iv single y):=by
  rw[Int.sub_mul,Int.mul_sub,Int.mul_sub,Aqi (iv single y) (iv single x)];omega
 have e3:(iv single x+iv single y) *(iv single x+iv single y)=iv single x*iv single x+iv single y*iv single y+2 *(iv single x*iv single y):=by
  rw[Asa,Int.mul_add,Int.mul_add,Aqi (iv single y) (iv single x)];omega
 rw[e2]at h2;rw[e3]at h3;clear e2 e3;generalize iv single x*iv single x=A at *;generalize iv single y*iv single y=B at *;generalize iv single x*iv single y=C at *
 have bd:∀T:Int,T.natAbs<=5*2^Ri ->(T *(2^Ir:Nat)).natAbs<=5*2^u64:=by
  intro T hT;rw[Apt,Apf,eK]
  exact Ap2 _ hT
 constructor
 ·obtain⟨z,hz,hv,hb⟩:=Ae4 (r:=r5) pxx pyy Th (by
   rw[K7,<-Int.sub_mul]
   exact bd _ (by generalize (2:Nat)^298=U at *;omega))
  rw[K7]at hb
  have e:Ky X Y=z:=by
   unfold Ky Dh;unfold Dh at hz;rw[show floatBits .sub .f64 ((floatBits .mul .f64 X X).getD (Ot .f64)) ((floatBits .mul .f64 Y Y).getD (Ot .f64))=some z from hz];rfl
  rw[e]
  exact Xp hv hb
 ·have two:D6 double 4611686018427387904 ((2:Int) *(2^u64:Nat)):=by
   refine⟨by decide,by unfold fin;decide,?_⟩
   unfold iv;rw[Ap8 (by decide)]
   have:rv double (Af double 4611686018427387904)=2*2^u64:=by kernel_rfl
   rw[this];simp
  have hrep:Pm double (2 *(C *(2^Ir:Nat))):=by
   exact A7p pxy (by have:=bd (2*C) (by generalize (2:Nat)^298=U at *;omega);rw[Aqf]at this;exact this)
  obtain⟨z,hz,hv⟩:=Hq (f:=double) (c:=2 *(C *(2^Ir:Nat))) Cp two pxy (by rw[Int.mul_right_comm]) hrep
  have e:Kx X Y=z:=by
   unfold Kx
   show(floatBits .mul .f64 4611686018427387904 (Dh .mul .f64 X Y)).getD _=z
   rw[show floatBits .mul .f64 4611686018427387904 (Dh .mul .f64 X Y)=some z from hz];rfl
  rw[e]
  refine Xp (by rw[hv.iv];exact hv) ?_
  rw[hv.iv];have:=bd (2*C) (by generalize (2:Nat)^298=U at *;omega)
  rw[Aqf]at this
  exact this
theorem Rt {P:Program}(s k:FloatKind)(x:Nat)(hne:s≠k)(hc:nan s x=true\/∃u,floatToFloatBits s x k=some u)(w:World) :
 ∃z w',(Conv.floatToFloat s x k).run P w=.ok (.float k z) w'/\z<2^k.format.width/\Au w w'/\Al k ((floatToFloatBits s x k).getD (Ot k)) z:=by
 cases hd:s.decode x with
 | nan sg f =>
   refine⟨(Question.nanConv k x).cut (w.tape w.drawn (Question.nanConv k x)),w.drew,?_,?_,(Au.refl w).drew,.inr ⟨?_,Acn k x w⟩⟩
   ·simp[Conv.floatToFloat,hne,hd];intro hf;simp[Question.forced]at hf
   ·cases k
    ·exact Tc _ _
    ·show(_ % 2)*2^63+0x7ff0000000000000+1 +(_ / 2) % (2^52-1)<2^64
     omega
   ·rw[Ek hne (by unfold nan;rw[hd];rfl)];exact Ey k
 | infinity sg =>
   have e:floatToFloatBits s x k=some (k.encode (.infinity sg)):=by simp[floatToFloatBits,hne,hd]
   exact⟨k.encode (.infinity sg),w,by simp[Conv.floatToFloat,hne,hd],Format.write_lt _ _,Au.refl w,by rw[e];exact .inl rfl⟩
 | number sg m e =>
   by_cases hi:(k.decode (k.encode (.number sg m e))).isInfinity=true
   ·exfalso
    rcases hc with hc |⟨u,hu⟩
    ·unfold nan at hc;rw[hd]at hc;cases hc
    ·simp[floatToFloatBits,hne,hd,hi]at hu
   ·have e':floatToFloatBits s x k=some (k.encode (.number sg m e)):=by simp[floatToFloatBits,hne,hd,hi]
    exact⟨k.encode (.number sg m e),w,by simp[Conv.floatToFloat,hne,hd,hi],Format.write_lt _ _,Au.refl w,by rw[e'];exact .inl rfl⟩
theorem A44 {x:Nat}(hx:x<4294967296):nan .f32 x=true\/∃u,floatToFloatBits .f32 x .f64=some u:=by
 cases h:nan .f32 x with
 | true=>exact .inl rfl
 | false=>obtain⟨y,hy,_⟩:=Aal (by rw[A34];exact hx) h;exact .inr ⟨y,hy⟩
theorem Mc {P:Program}(src dst:TypeId)(hs:(P.underlying src).isSome=true)(hd:P.underlying dst=some (.complex .f64))(x y:Nat)(hx:x<4294967296)(hy:y<4294967296)(w:World) :
 ∃re im w',(convert src dst (.complex .f32 x y)).run P w=.ok (.complex .f64 re im) w'/\re<18446744073709551616/\im<18446744073709551616/\Au w w'/\Al .f64 (Aa x) re/\Al .f64 (Aa y) im:=by
 obtain⟨u,hs'⟩:=Atc.1 hs;obtain⟨z,w1,h1,hz,d1,a1⟩:=Rt (P:=P) .f32 .f64 x (by decide) (A44 hx) w
 obtain⟨z2,w2,h2,hz2,d2,a2⟩:=Rt (P:=P) .f32 .f64 y (by decide) (A44 hy) w1
 refine⟨z,z2,w2,?_,hz,hz2,d1.trans d2,a1,a2⟩
 cases u<;>simp[convert,As2 hs',As2 hd,Conv.complexToComplex,h1,h2]
theorem Sy {P:Program}(src dst:TypeId)(hs:(P.underlying src).isSome=true)(hd:P.underlying dst=some (.complex .f32))(x y:Nat)(hx:nan .f64 x=true\/∃u,floatToFloatBits .f64 x .f32=some u)(hy:nan .f64 y=true\/∃u,floatToFloatBits .f64 y .f32=some u)(w:World) :
 ∃re im w',(convert src dst (.complex .f64 x y)).run P w=.ok (.complex .f32 re im) w'/\re<4294967296/\im<4294967296/\Au w w'/\Al .f32 (C8 x) re/\Al .f32 (C8 y) im:=by
 obtain⟨u,hs'⟩:=Atc.1 hs;obtain⟨z,w1,h1,hz,d1,a1⟩:=Rt (P:=P) .f64 .f32 x (by decide) hx w
 obtain⟨z2,w2,h2,hz2,d2,a2⟩:=Rt (P:=P) .f64 .f32 y (by decide) hy w1
 refine⟨z,z2,w2,?_,by rw[<-A34];exact hz,by rw[<-A34];exact hz2,d1.trans d2,a1,a2⟩
 cases u<;>simp[convert,As2 hs',As2 hd,Conv.complexToComplex,h1,h2]
theorem Al.Rz {x y:Nat}(h:Al .f64 x y)(g:∃u,floatToFloatBits .f64 x .f32=some u):nan .f64 y=true\/∃u,floatToFloatBits .f64 y .f32=some u:=by
 rcases h with rfl |⟨_,h⟩
 ·exact .inr g
 ·exact .inl h
theorem A6z {P:Program}(t:TypeId)(k:FloatKind)(a b c d:Nat)(w:World) :
 ∃re im w',(binOp .add t (.complex k a b) (.complex k c d)).run P w=.ok (.complex k re im) w'/\re<2^k.format.width/\im<2^k.format.width/\Au w w'/\Al k (Dh .add k a c) re/\Al k (Dh .add k b d) im:=by
 obtain⟨x,w1,h1,hx,d1,a1⟩:=C9 (P:=P) .add (by simp) t k a c w
 obtain⟨y,w2,h2,hy,d2,a2⟩:=C9 (P:=P) .add (by simp) t k b d w1
 refine⟨x,y,w2,?_,hx,hy,d1.trans d2,a1,a2⟩
 have e1:(Op.floatArith .add k a c).run P w=.ok (.float k x) w1:=by simpa [binOp]using h1
 have e2:(Op.floatArith .add k b d).run P w1=.ok (.float k y) w2:=by simpa [binOp]using h2
 simp[binOp,Op.complexOp,Op.Complex.arith,e1,e2]
end Flo
section
open Go.RowKit Flo
def stS (c d:Nat)(p:Nat×Nat):Nat×Nat :=
 (Dh .add .f32 (C8 (Ky (Aa p.1) (Aa p.2))) c,Dh .add .f32 (C8 (Kx (Aa p.1) (Aa p.2))) d)
def F0 (c d:Nat):Nat->Nat×Nat
 | 0=>(0,0)
 | k+1=>stS c d (F0 c d k)
def Rj (c d k:Nat):Bool:=Ts (Cr (Aa (F0 c d k).1) (Aa (F0 c d k).2))
theorem S7 (c d k:Nat):(F0 c d k).1<4294967296 /\(F0 c d k).2<4294967296:=by
 cases k with
 | zero=>exact⟨show 0<4294967296 by omega,show 0<4294967296 by omega⟩
 | succ k=>exact⟨by rw[<-A34];exact A5g,by rw[<-A34];exact A5g⟩
def It (ok:Nat->Bool)(n:Int)(r:Int):Prop :=
 (∃k:Nat,r=k /\(k:Int)<=n/\ok k=false/\∀j,j<k->ok j=true) \/(r=-1/\∀j:Nat,(j:Int)<=n->ok j=true)
theorem It.eq {ok:Nat->Bool}{n r s:Int}(h:It ok n r)(g:It ok n s):r=s:=by
 rcases h with⟨k,rfl,hk,h1,h2⟩ |⟨rfl,h1⟩
 ·rcases g with⟨l,rfl,hl,g1,g2⟩ |⟨rfl,g1⟩
  ·rcases Atk k l with h|h|h
   ·rw[g2 k h]at h1;cases h1
   ·rw[h]
   ·rw[h2 l h]at g1;cases g1
  ·rw[g1 k hk]at h1;cases h1
 ·rcases g with⟨l,rfl,hl,g1,g2⟩ |⟨rfl,g1⟩
  ·rw[h1 l hl]at g1;cases g1
  ·rfl
theorem Vv (x y:Nat)(w:World):Calls Vp.prog 137 #[.complex .f64 x y] w fun e w'=>(∃a b,e=.returned (.complex .f64 a b)/\a<18446744073709551616/\b<18446744073709551616/\Al .f64 (Ky x y) a/\Al .f64 (Kx x y) b)/\Au w w':=by
 obtain⟨x1,w1,h1,_,d1,a1⟩:=Flo.C9 (P:=Vp.prog) .mul (by simp) 129 .f64 x x w
 obtain⟨x2,w2,h2,_,d2,a2⟩:=Flo.C9 (P:=Vp.prog) .mul (by simp) 129 .f64 y y w1
 obtain⟨a,w3,h3,ha,d3,a3⟩:=Flo.C9 (P:=Vp.prog) .sub (by simp) 129 .f64 x1 x2 w2
 obtain⟨x4,w4,h4,_,d4,a4⟩:=Flo.C9 (P:=Vp.prog) .mul (by simp) 129 .f64 x y w3
 obtain⟨b,w5,h5,hb,d5,a5⟩:=Flo.C9 (P:=Vp.prog) .mul (by simp) 129 .f64 4611686018427387904 x4 w4
 have HD:=Aoy ((((d1.trans d2).trans d3).trans d4).trans d5);have HA:Hid (Al .f64 (Ky x y) a):=by rw[show Ky x y=Dh .sub .f64 x1 x2 from Fh a1 a2];exact a3
 have HB:Hid (Al .f64 (Kx x y) b):=by rw[show Kx x y=Dh .mul .f64 4611686018427387904 x4 from Fh (Al.refl _ _) a4];exact a5
 clear d1 d2 d3 d4 d5 a1 a2 a3 a4 a5
 go_enter Vp.func137,Tryz.ntmps137
 go_wp2
 go_ret
 exact⟨⟨a,b,rfl,ha,hb,HA.out,HB.out⟩,HD.out⟩
theorem Qx (x y:Nat)(w:World):Calls Vp.prog 73 #[.complex .f64 x y] w fun e w'=>(∃a,e=.returned (.float .f64 a)/\a<18446744073709551616/\Al .f64 (Cr x y) a)/\Au w w':=by
 obtain⟨x1,w1,h1,_,d1,a1⟩:=Flo.C9 (P:=Vp.prog) .mul (by simp) 129 .f64 x x w
 obtain⟨x2,w2,h2,_,d2,a2⟩:=Flo.C9 (P:=Vp.prog) .mul (by simp) 129 .f64 y y w1
 obtain⟨a,w3,h3,ha,d3,a3⟩:=Flo.C9 (P:=Vp.prog) .add (by simp) 129 .f64 x1 x2 w2
 have HD:=Aoy ((d1.trans d2).trans d3);have HA:Hid (Al .f64 (Cr x y) a):=by rw[show Cr x y=Dh .add .f64 x1 x2 from Fh a1 a2];exact a3
 clear d1 d2 d3 a1 a2 a3
 go_enter Vp.func73,Tryz.ntmps73
 go_wp2
 go_ret
 exact⟨⟨a,rfl,ha,HA.out⟩,HD.out⟩
theorem Vm (x y:Nat)(w:World):Calls Vp.prog 134 #[.complex .f64 x y] w fun e w'=>(∃a b,e=.returned (.complex .f64 a b)/\a<18446744073709551616/\b<18446744073709551616/\Al .f64 (Ky x y) a/\Al .f64 (Kx x y) b)/\Au w w':=by
 obtain⟨x1,w1,h1,_,d1,a1⟩:=Flo.C9 (P:=Vp.prog) .mul (by simp) 129 .f64 x x w
 obtain⟨x2,w2,h2,_,d2,a2⟩:=Flo.C9 (P:=Vp.prog) .mul (by simp) 129 .f64 y y w1
 obtain⟨a,w3,h3,ha,d3,a3⟩:=Flo.C9 (P:=Vp.prog) .sub (by simp) 129 .f64 x1 x2 w2
 obtain⟨x4,w4,h4,_,d4,a4⟩:=Flo.C9 (P:=Vp.prog) .mul (by simp) 129 .f64 x y w3
 obtain⟨b,w5,h5,hb,d5,a5⟩:=Flo.C9 (P:=Vp.prog) .mul (by simp) 129 .f64 4611686018427387904 x4 w4
 have HD:=Aoy ((((d1.trans d2).trans d3).trans d4).trans d5);have HA:Hid (Al .f64 (Ky x y) a):=by rw[show Ky x y=Dh .sub .f64 x1 x2 from Fh a1 a2];exact a3
 have HB:Hid (Al .f64 (Kx x y) b):=by rw[show Kx x y=Dh .mul .f64 4611686018427387904 x4 from Fh (Al.refl _ _) a4];exact a5
 clear d1 d2 d3 d4 d5 a1 a2 a3 a4 a5
 go_enter Vp.func134,Tryz.ntmps134
 go_wp2
 go_ret
 exact⟨⟨a,b,rfl,ha,hb,HA.out,HB.out⟩,HD.out⟩
theorem A29 (x y:Nat)(w:World):Calls Vp.prog 113 #[.complex .f64 x y] w fun e w'=>(∃a,e=.returned (.float .f64 a)/\a<18446744073709551616/\Al .f64 (Cr x y) a)/\Au w w':=by
 obtain⟨x1,w1,h1,_,d1,a1⟩:=Flo.C9 (P:=Vp.prog) .mul (by simp) 129 .f64 x x w
 obtain⟨x2,w2,h2,_,d2,a2⟩:=Flo.C9 (P:=Vp.prog) .mul (by simp) 129 .f64 y y w1
 obtain⟨a,w3,h3,ha,d3,a3⟩:=Flo.C9 (P:=Vp.prog) .add (by simp) 129 .f64 x1 x2 w2
 have HD:=Aoy ((d1.trans d2).trans d3);have HA:Hid (Al .f64 (Cr x y) a):=by rw[show Cr x y=Dh .add .f64 x1 x2 from Fh a1 a2];exact a3
 clear d1 d2 d3 a1 a2 a3
 go_enter Vp.func113,Tryz.ntmps113
 go_wp2
 go_ret
 exact⟨⟨a,rfl,ha,HA.out⟩,HD.out⟩
def Be (n:Int):Int:=max 0 (min 400 n)
theorem Jn (n:Int):0<=Be n/\Be n<=400:=by unfold Be;omega
theorem Xg (n:Int)(w:World):Calls Vp.prog 96 #[.int .i64 n] w fun e w'=>e=.returned (.int .i64 (Be n))/\w=w':=by
 go_enter Vp.func96,Tryz.ntmps96
 go_wp2
 all_goals
  go_ret
  exact⟨Mp (by unfold Be;omega),rfl⟩
theorem Acf {x y:Nat}(h:Al .f64 x y):Ts x=Ts y:=by
 unfold Ts;rw[show FloatKind.f64.format.order x 4616189618054758400=FloatKind.f64.format.order y 4616189618054758400 from h.order (Al.refl _ _)]
theorem Tz {x y x' y':Nat}(h:Al .f64 x x')(g:Al .f64 y y'):Cr x y=Cr x' y':=by
 unfold Cr;rw[show Dh .mul .f64 x x=Dh .mul .f64 x' x' from Fh h h,show Dh .mul .f64 y y=Dh .mul .f64 y' y' from Fh g g]
theorem A7x {x y x' y':Nat}(h:Al .f64 x x')(g:Al .f64 y y'):Ky x y=Ky x' y':=by
 unfold Ky;rw[show Dh .mul .f64 x x=Dh .mul .f64 x' x' from Fh h h,show Dh .mul .f64 y y=Dh .mul .f64 y' y' from Fh g g]
theorem A7w {x y x' y':Nat}(h:Al .f64 x x')(g:Al .f64 y y'):Kx x y=Kx x' y':=by
 unfold Kx;rw[show Dh .mul .f64 x y=Dh .mul .f64 x' y' from Fh h g]
theorem Rv {x:Nat}(h:fin Ieee.single x):nan .f32 x=false:=by
 unfold nan FloatKind.decode
 show(Ieee.single.read x).isNaN=false
 rw[Az h];rfl
theorem Al.same {k:FloatKind}{x a:Nat}(h:Al k x a)(g:nan k x=false):a=x:=by
 rcases h with rfl |⟨h1,_⟩
 ·rfl
 ·rw[g]at h1;cases h1
theorem A5w (x y:Nat)(hx:x<4294967296)(hy:y<4294967296)(hok:Ts (Cr (Aa x) (Aa y))=true)(w:World) :
 Calls Vp.prog 123 #[.complex .f32 x y] w fun e w'=>(∃a b,e=.returned (.complex .f32 a b)/\a<4294967296/\b<4294967296/\Al .f32 (C8 (Ky (Aa x) (Aa y))) a/\Al .f32 (C8 (Kx (Aa x) (Aa y))) b)/\Au w w':=by
 have HO:=Aoy (Se hx hy hok);obtain⟨p,q,w1,h1,_,_,d1,ap,aq⟩:=Flo.Mc (P:=Vp.prog) 23 103 (by kernel_rfl) (Vp.Dw Tryz.underlying103) x y hx hy w
 have H1:=Aoy d1;have HA:=Aoy (A7x ap aq);have HB:=Aoy (A7w ap aq);clear d1 hx hy hok ap aq
 go_enter Vp.func123,Tryz.ntmps123
 go_wp2_with fail
 refine(Vv p q _).mono ?_
 rintro e w2 ⟨⟨a,b,rfl,ha,hb,aa,ab⟩,hd⟩;rw[<-HA.out]at aa;rw[<-HB.out]at ab;obtain⟨u,v,w3,h3,hu,hv,d3,au,av⟩:=Flo.Sy (P:=Vp.prog) 103 23 (by kernel_rfl) (Vp.Dw Tryz.underlying23) a b (aa.Rz HO.out.1) (ab.Rz HO.out.2) w2
 rw[<-Ka aa]at au;rw[<-Ka ab]at av;have HD:=Aoy ((H1.out.trans hd).trans d3);have HU:=Aoy au;have HV:=Aoy av;clear hd d3 h1 H1 au av aa ab
 go_wp2
 go_ret
 exact⟨⟨u,v,rfl,hu,hv,HU.out,HV.out⟩,HD.out⟩
theorem A0j (x y c d:Nat)(hx:x<4294967296)(hy:y<4294967296)(hok:Ts (Cr (Aa x) (Aa y))=true)(w:World) :
 Calls Vp.prog 100 #[.complex .f32 x y,.complex .f32 c d] w fun e w'=>(∃a b,e=.returned (.complex .f32 a b)/\a<4294967296/\b<4294967296/\Al .f32 (stS c d (x,y)).1 a/\Al .f32 (stS c d (x,y)).2 b)/\Au w w':=by
 go_enter Vp.func100,Tryz.ntmps100
 go_wp2_with fail
 refine(A5w x y hx hy hok _).mono ?_
 rintro e w2 ⟨⟨a,b,rfl,ha,hb,aa,ab⟩,hd⟩;obtain⟨u,v,w3,h3,hu,hv,d3,au,av⟩:=Flo.A6z (P:=Vp.prog) 23 .f32 a b c d w2;have HU:Hid (Al .f32 (stS c d (x,y)).1 u):=by rw[show(stS c d (x,y)).1=Dh .add .f32 a c from Fh aa (Al.refl _ _)];exact au
 have HV:Hid (Al .f32 (stS c d (x,y)).2 v):=by rw[show(stS c d (x,y)).2=Dh .add .f32 b d from Fh ab (Al.refl _ _)];exact av
 have HD:=Aoy (hd.trans d3);clear hd d3 au av aa ab hok
 go_wp2
 go_ret
 exact⟨⟨u,v,rfl,hu,hv,HU.out,HV.out⟩,HD.out⟩
theorem Qm (x y:Nat)(hx:x<4294967296)(hy:y<4294967296)(w:World) :
 Calls Vp.prog 114 #[.complex .f32 x y] w fun e w'=>(∃p q,e=.returned (.complex .f64 p q)/\p<18446744073709551616/\q<18446744073709551616/\Al .f64 (Aa x) p/\Al .f64 (Aa y) q)/\Au w w':=by
 obtain⟨p,q,w1,h1,p1,q1,d1,ap,aq⟩:=Flo.Mc (P:=Vp.prog) 23 103 (by kernel_rfl) (Vp.Dw Tryz.underlying103) x y hx hy w
 have H1:=Aoy d1;have HA:=Aoy ap;have HB:=Aoy aq;clear d1 ap aq
 go_enter Vp.func114,Tryz.ntmps114
 go_wp2
 go_ret
 exact⟨⟨p,q,rfl,p1,q1,HA.out,HB.out⟩,H1.out⟩
theorem Zo (x y:Nat)(hx:x<4294967296)(hy:y<4294967296)(w:World) :
 Calls Vp.prog 135 #[.complex .f32 x y] w fun e w'=>(∃p q,e=.returned (.complex .f64 p q)/\p<18446744073709551616/\q<18446744073709551616/\Al .f64 (Aa x) p/\Al .f64 (Aa y) q)/\Au w w':=by
 go_enter Vp.func135,Tryz.ntmps135
 go_wp2_with fail
 refine(Qm x y hx hy _).mono ?_
 rintro e w1 ⟨⟨p,q,rfl,p1,q1,ap,aq⟩,hd⟩;have H1:=Aoy hd;have HA:=Aoy ap;have HB:=Aoy aq;clear hd ap aq
 go_wp2
 go_ret
 exact⟨⟨p,q,rfl,p1,q1,HA.out,HB.out⟩,H1.out⟩
theorem A2b (x y:Nat)(hx:nan .f64 x=true\/∃u,floatToFloatBits .f64 x .f32=some u)(hy:nan .f64 y=true\/∃u,floatToFloatBits .f64 y .f32=some u)(w:World) :
 Calls Vp.prog 143 #[.complex .f64 x y] w fun e w'=>(∃p q,e=.returned (.complex .f32 p q)/\p<4294967296/\q<4294967296/\Al .f32 (C8 x) p/\Al .f32 (C8 y) q)/\Au w w':=by
 obtain⟨p,q,w1,h1,p1,q1,d1,ap,aq⟩:=Flo.Sy (P:=Vp.prog) 103 23 (by kernel_rfl) (Vp.Dw Tryz.underlying23) x y hx hy w
 have H1:=Aoy d1;have HA:=Aoy ap;have HB:=Aoy aq;clear d1 ap aq hx hy
 go_enter Vp.func143,Tryz.ntmps143
 go_wp2
 go_ret
 exact⟨⟨p,q,rfl,p1,q1,HA.out,HB.out⟩,H1.out⟩
theorem Vj (x y:Nat)(hx:nan .f64 x=true\/∃u,floatToFloatBits .f64 x .f32=some u)(hy:nan .f64 y=true\/∃u,floatToFloatBits .f64 y .f32=some u)(w:World) :
 Calls Vp.prog 133 #[.complex .f64 x y] w fun e w'=>(∃p q,e=.returned (.complex .f32 p q)/\p<4294967296/\q<4294967296/\Al .f32 (C8 x) p/\Al .f32 (C8 y) q)/\Au w w':=by
 have HX:=Aoy hx;have HY:=Aoy hy;clear hx hy
 go_enter Vp.func133,Tryz.ntmps133
 go_wp2_with fail
 refine(A2b x y HX.out HY.out _).mono ?_
 rintro e w1 ⟨⟨p,q,rfl,p1,q1,ap,aq⟩,hd⟩;have H1:=Aoy hd;have HA:=Aoy ap;have HB:=Aoy aq;clear hd ap aq
 go_wp2
 go_ret
 exact⟨⟨p,q,rfl,p1,q1,HA.out,HB.out⟩,H1.out⟩
theorem A54 (x y:Nat)(hx:x<4294967296)(hy:y<4294967296)(hok:Ts (Cr (Aa x) (Aa y))=true)(w:World) :
 Calls Vp.prog 115 #[.complex .f32 x y] w fun e w'=>(∃a b,e=.returned (.complex .f32 a b)/\a<4294967296/\b<4294967296/\Al .f32 (C8 (Ky (Aa x) (Aa y))) a/\Al .f32 (C8 (Kx (Aa x) (Aa y))) b)/\Au w w':=by
 have HO:=Aoy (Se hx hy hok);have HI:=Aoy (Zo x y hx hy);clear hok hx hy
 go_enter Vp.func115,Tryz.ntmps115
 go_wp2_with fail
 refine(HI.out _).mono ?_
 rintro e w1 ⟨⟨p,q,rfl,-,-,ap,aq⟩,hd⟩;have H1:=Aoy hd;have HA:=Aoy (A7x ap aq);have HB:=Aoy (A7w ap aq);clear hd ap aq
 go_wp2_with fail
 refine(Vm p q _).mono ?_
 rintro e w2 ⟨⟨a,b,rfl,ha,hb,aa,ab⟩,hd⟩;rw[<-HA.out]at aa;rw[<-HB.out]at ab;have H2:=Aoy (H1.out.trans hd);have HX:=Aoy (aa.Rz HO.out.1);have HY:=Aoy (ab.Rz HO.out.2);have HAA:=Aoy aa;have HAB:=Aoy ab;clear hd aa ab H1
 go_wp2_with fail
 refine(Vj a b HX.out HY.out _).mono ?_
 rintro e w3 ⟨⟨u,v,rfl,hu,hv,au,av⟩,hd⟩;rw[<-Ka HAA.out]at au;rw[<-Ka HAB.out]at av;have HD:=Aoy (H2.out.trans hd);have HU:=Aoy au;have HV:=Aoy av;clear hd au av H2
 go_wp2
 go_ret
 exact⟨⟨u,v,rfl,hu,hv,HU.out,HV.out⟩,HD.out⟩
theorem Zn (x y c d:Nat)(hx:x<4294967296)(hy:y<4294967296)(hok:Ts (Cr (Aa x) (Aa y))=true)(w:World) :
 Calls Vp.prog 81 #[.complex .f32 x y,.complex .f32 c d] w fun e w'=>(∃a b,e=.returned (.complex .f32 a b)/\a<4294967296/\b<4294967296/\Al .f32 (stS c d (x,y)).1 a/\Al .f32 (stS c d (x,y)).2 b)/\Au w w':=by
 go_enter Vp.func81,Tryz.ntmps81
 go_wp2_with fail
 refine(A54 x y hx hy hok _).mono ?_
 rintro e w2 ⟨⟨a,b,rfl,ha,hb,aa,ab⟩,hd⟩;obtain⟨u,v,w3,h3,hu,hv,d3,au,av⟩:=Flo.A6z (P:=Vp.prog) 23 .f32 a b c d w2;have HU:Hid (Al .f32 (stS c d (x,y)).1 u):=by rw[show(stS c d (x,y)).1=Dh .add .f32 a c from Fh aa (Al.refl _ _)];exact au
 have HV:Hid (Al .f32 (stS c d (x,y)).2 v):=by rw[show(stS c d (x,y)).2=Dh .add .f32 b d from Fh ab (Al.refl _ _)];exact av
 have HD:=Aoy (hd.trans d3);clear hd d3 au av aa ab hok
 go_wp2
 go_ret
 exact⟨⟨u,v,rfl,hu,hv,HU.out,HV.out⟩,HD.out⟩
end
end Go.Proofs.YtlfleicchbgcmaaGreat
