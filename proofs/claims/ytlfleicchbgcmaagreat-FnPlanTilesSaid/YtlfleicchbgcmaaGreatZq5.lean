import Derived.Test.YtlfleicchbgcmaaGreatZq4
import Derived.Deep.CutRange
import Derived.Test.YtlfleicchbgcmaaGreatZq0
import Derived.Test.YtlfleicchbgcmaaGreatZqK
set_option linter.all false
set_option maxHeartbeats 16000000
set_option maxRecDepth 100000
namespace Go.Proofs.YtlfleicchbgcmaaGreat
section
open Go.RowKit Flo
def stS (c d:Nat)(p:Nat×Nat):Nat×Nat :=
 (Da .add .f32 (Bz (K7 (A9 p.1) (A9 p.2))) c,Da .add .f32 (Bz (K6 (A9 p.1) (A9 p.2))) d)
def Er (c d:Nat):Nat->Nat×Nat
 | 0=>(0,0)
 | k+1=>stS c d (Er c d k)
def Qf (c d k:Nat):Bool:=S9 (Ck (A9 (Er c d k).1) (A9 (Er c d k).2))
theorem Qt (c d k:Nat):(Er c d k).1<4294967296 /\(Er c d k).2<4294967296:=by
 cases k with
 | zero=>exact⟨show 0<4294967296 by omega,show 0<4294967296 by omega⟩
 | succ k=>exact⟨by rw[<-A1f];exact A3i,by rw[<-A1f];exact A3i⟩
def I5 (ok:Nat->Bool)(n:Int)(r:Int):Prop :=
 (∃k:Nat,r=k /\(k:Int)<=n/\ok k=false/\∀j,j<k->ok j=true) \/(r=-1/\∀j:Nat,(j:Int)<=n->ok j=true)
theorem I5.eq {ok:Nat->Bool}{n r s:Int}(h:I5 ok n r)(g:I5 ok n s):r=s:=by
 rcases h with⟨k,rfl,hk,h1,h2⟩ |⟨rfl,h1⟩
 ·rcases g with⟨l,rfl,hl,g1,g2⟩ |⟨rfl,g1⟩
  ·rcases Am3 k l with h|h|h
   ·rw[g2 k h]at h1;cases h1
   ·rw[h]
   ·rw[h2 l h]at g1;cases g1
  ·rw[g1 k hk]at h1;cases h1
 ·rcases g with⟨l,rfl,hl,g1,g2⟩ |⟨rfl,g1⟩
  ·rw[h1 l hl]at g1;cases g1
  ·rfl
theorem Uk (x y:Nat)(w:World):Calls Vp.prog 137 #[.complex .f64 x y] w fun e w'=>(∃a b,e=.returned (.complex .f64 a b)/\a<18446744073709551616/\b<18446744073709551616/\Al .f64 (K7 x y) a/\Al .f64 (K6 x y) b)/\Aq w w':=by
 obtain⟨x1,w1,h1,_,d1,a1⟩:=Flo.C5 (P:=Vp.prog) .mul (by simp) 129 .f64 x x w
 obtain⟨x2,w2,h2,_,d2,a2⟩:=Flo.C5 (P:=Vp.prog) .mul (by simp) 129 .f64 y y w1
 obtain⟨a,w3,h3,ha,d3,a3⟩:=Flo.C5 (P:=Vp.prog) .sub (by simp) 129 .f64 x1 x2 w2
 obtain⟨x4,w4,h4,_,d4,a4⟩:=Flo.C5 (P:=Vp.prog) .mul (by simp) 129 .f64 x y w3
 obtain⟨b,w5,h5,hb,d5,a5⟩:=Flo.C5 (P:=Vp.prog) .mul (by simp) 129 .f64 4611686018427387904 x4 w4
 have HD:=Ai1 ((((d1.trans d2).trans d3).trans d4).trans d5);have HA:Hid (Al .f64 (K7 x y) a):=by rw[show K7 x y=Da .sub .f64 x1 x2 from F5 a1 a2];exact a3
 have HB:Hid (Al .f64 (K6 x y) b):=by rw[show K6 x y=Da .mul .f64 4611686018427387904 x4 from F5 (Al.refl _ _) a4];exact a5
 clear d1 d2 d3 d4 d5 a1 a2 a3 a4 a5
 go_enter Vp.func137,Tryz.ntmps137
 go_wp2
 go_ret
 exact⟨⟨a,b,rfl,ha,hb,HA.out,HB.out⟩,HD.out⟩
theorem Pv (x y:Nat)(w:World):Calls Vp.prog 73 #[.complex .f64 x y] w fun e w'=>(∃a,e=.returned (.float .f64 a)/\a<18446744073709551616/\Al .f64 (Ck x y) a)/\Aq w w':=by
 obtain⟨x1,w1,h1,_,d1,a1⟩:=Flo.C5 (P:=Vp.prog) .mul (by simp) 129 .f64 x x w
 obtain⟨x2,w2,h2,_,d2,a2⟩:=Flo.C5 (P:=Vp.prog) .mul (by simp) 129 .f64 y y w1
 obtain⟨a,w3,h3,ha,d3,a3⟩:=Flo.C5 (P:=Vp.prog) .add (by simp) 129 .f64 x1 x2 w2
 have HD:=Ai1 ((d1.trans d2).trans d3);have HA:Hid (Al .f64 (Ck x y) a):=by rw[show Ck x y=Da .add .f64 x1 x2 from F5 a1 a2];exact a3
 clear d1 d2 d3 a1 a2 a3
 go_enter Vp.func73,Tryz.ntmps73
 go_wp2
 go_ret
 exact⟨⟨a,rfl,ha,HA.out⟩,HD.out⟩
theorem Ub (x y:Nat)(w:World):Calls Vp.prog 134 #[.complex .f64 x y] w fun e w'=>(∃a b,e=.returned (.complex .f64 a b)/\a<18446744073709551616/\b<18446744073709551616/\Al .f64 (K7 x y) a/\Al .f64 (K6 x y) b)/\Aq w w':=by
 obtain⟨x1,w1,h1,_,d1,a1⟩:=Flo.C5 (P:=Vp.prog) .mul (by simp) 129 .f64 x x w
 obtain⟨x2,w2,h2,_,d2,a2⟩:=Flo.C5 (P:=Vp.prog) .mul (by simp) 129 .f64 y y w1
 obtain⟨a,w3,h3,ha,d3,a3⟩:=Flo.C5 (P:=Vp.prog) .sub (by simp) 129 .f64 x1 x2 w2
 obtain⟨x4,w4,h4,_,d4,a4⟩:=Flo.C5 (P:=Vp.prog) .mul (by simp) 129 .f64 x y w3
 obtain⟨b,w5,h5,hb,d5,a5⟩:=Flo.C5 (P:=Vp.prog) .mul (by simp) 129 .f64 4611686018427387904 x4 w4
 have HD:=Ai1 ((((d1.trans d2).trans d3).trans d4).trans d5);have HA:Hid (Al .f64 (K7 x y) a):=by rw[show K7 x y=Da .sub .f64 x1 x2 from F5 a1 a2];exact a3
 have HB:Hid (Al .f64 (K6 x y) b):=by rw[show K6 x y=Da .mul .f64 4611686018427387904 x4 from F5 (Al.refl _ _) a4];exact a5
 clear d1 d2 d3 d4 d5 a1 a2 a3 a4 a5
 go_enter Vp.func134,Tryz.ntmps134
 go_wp2
 go_ret
 exact⟨⟨a,b,rfl,ha,hb,HA.out,HB.out⟩,HD.out⟩
theorem A0k (x y:Nat)(w:World):Calls Vp.prog 113 #[.complex .f64 x y] w fun e w'=>(∃a,e=.returned (.float .f64 a)/\a<18446744073709551616/\Al .f64 (Ck x y) a)/\Aq w w':=by
 obtain⟨x1,w1,h1,_,d1,a1⟩:=Flo.C5 (P:=Vp.prog) .mul (by simp) 129 .f64 x x w
 obtain⟨x2,w2,h2,_,d2,a2⟩:=Flo.C5 (P:=Vp.prog) .mul (by simp) 129 .f64 y y w1
 obtain⟨a,w3,h3,ha,d3,a3⟩:=Flo.C5 (P:=Vp.prog) .add (by simp) 129 .f64 x1 x2 w2
 have HD:=Ai1 ((d1.trans d2).trans d3);have HA:Hid (Al .f64 (Ck x y) a):=by rw[show Ck x y=Da .add .f64 x1 x2 from F5 a1 a2];exact a3
 clear d1 d2 d3 a1 a2 a3
 go_enter Vp.func113,Tryz.ntmps113
 go_wp2
 go_ret
 exact⟨⟨a,rfl,ha,HA.out⟩,HD.out⟩
def Bm (n:Int):Int:=max 0 (min 400 n)
theorem J1 (n:Int):0<=Bm n/\Bm n<=400:=by unfold Bm;omega
theorem Vr (n:Int)(w:World):Calls Vp.prog 96 #[.int .i64 n] w fun e w'=>e=.returned (.int .i64 (Bm n))/\w=w':=by
 go_enter Vp.func96,Tryz.ntmps96
 go_wp2
 all_goals
  go_ret
  exact⟨Lt (by unfold Bm;omega),rfl⟩
theorem A9o {x y:Nat}(h:Al .f64 x y):S9 x=S9 y:=by
 unfold S9;rw[show FloatKind.f64.format.order x 4616189618054758400=FloatKind.f64.format.order y 4616189618054758400 from h.order (Al.refl _ _)]
theorem Sf {x y x' y':Nat}(h:Al .f64 x x')(g:Al .f64 y y'):Ck x y=Ck x' y':=by
 unfold Ck;rw[show Da .mul .f64 x x=Da .mul .f64 x' x' from F5 h h,show Da .mul .f64 y y=Da .mul .f64 y' y' from F5 g g]
theorem A5r {x y x' y':Nat}(h:Al .f64 x x')(g:Al .f64 y y'):K7 x y=K7 x' y':=by
 unfold K7;rw[show Da .mul .f64 x x=Da .mul .f64 x' x' from F5 h h,show Da .mul .f64 y y=Da .mul .f64 y' y' from F5 g g]
theorem A5q {x y x' y':Nat}(h:Al .f64 x x')(g:Al .f64 y y'):K6 x y=K6 x' y':=by
 unfold K6;rw[show Da .mul .f64 x y=Da .mul .f64 x' y' from F5 h g]
theorem Qo {x:Nat}(h:fin Ieee.single x):nan .f32 x=false:=by
 unfold nan FloatKind.decode
 show(Ieee.single.read x).isNaN=false
 rw[Ax h];rfl
theorem Al.same {k:FloatKind}{x a:Nat}(h:Al k x a)(g:nan k x=false):a=x:=by
 rcases h with rfl |⟨h1,_⟩
 ·rfl
 ·rw[g]at h1;cases h1
theorem A3x (x y:Nat)(hx:x<4294967296)(hy:y<4294967296)(hok:S9 (Ck (A9 x) (A9 y))=true)(w:World) :
 Calls Vp.prog 123 #[.complex .f32 x y] w fun e w'=>(∃a b,e=.returned (.complex .f32 a b)/\a<4294967296/\b<4294967296/\Al .f32 (Bz (K7 (A9 x) (A9 y))) a/\Al .f32 (Bz (K6 (A9 x) (A9 y))) b)/\Aq w w':=by
 have HO:=Ai1 (A5v hx hy hok);obtain⟨p,q,w1,h1,_,_,d1,ap,aq⟩:=Flo.Ld (P:=Vp.prog) 23 103 (by kernel_rfl) (Vp.Di Tryz.underlying103) x y hx hy w
 have H1:=Ai1 d1;have HA:=Ai1 (A5r ap aq);have HB:=Ai1 (A5q ap aq);clear d1 hx hy hok ap aq
 go_enter Vp.func123,Tryz.ntmps123
 go_wp2_with fail
 refine(Uk p q _).mono ?_
 rintro e w2 ⟨⟨a,b,rfl,ha,hb,aa,ab⟩,hd⟩;rw[<-HA.out]at aa;rw[<-HB.out]at ab;obtain⟨u,v,w3,h3,hu,hv,d3,au,av⟩:=Flo.Rk (P:=Vp.prog) 103 23 (by kernel_rfl) (Vp.Di Tryz.underlying23) a b (aa.Qs HO.out.1) (ab.Qs HO.out.2) w2
 rw[<-Jn aa]at au;rw[<-Jn ab]at av;have HD:=Ai1 ((H1.out.trans hd).trans d3);have HU:=Ai1 au;have HV:=Ai1 av;clear hd d3 h1 H1 au av aa ab
 go_wp2
 go_ret
 exact⟨⟨u,v,rfl,hu,hv,HU.out,HV.out⟩,HD.out⟩
theorem Yr (x y c d:Nat)(hx:x<4294967296)(hy:y<4294967296)(hok:S9 (Ck (A9 x) (A9 y))=true)(w:World) :
 Calls Vp.prog 100 #[.complex .f32 x y,.complex .f32 c d] w fun e w'=>(∃a b,e=.returned (.complex .f32 a b)/\a<4294967296/\b<4294967296/\Al .f32 (stS c d (x,y)).1 a/\Al .f32 (stS c d (x,y)).2 b)/\Aq w w':=by
 go_enter Vp.func100,Tryz.ntmps100
 go_wp2_with fail
 refine(A3x x y hx hy hok _).mono ?_
 rintro e w2 ⟨⟨a,b,rfl,ha,hb,aa,ab⟩,hd⟩;obtain⟨u,v,w3,h3,hu,hv,d3,au,av⟩:=Flo.A4s (P:=Vp.prog) 23 .f32 a b c d w2;have HU:Hid (Al .f32 (stS c d (x,y)).1 u):=by rw[show(stS c d (x,y)).1=Da .add .f32 a c from F5 aa (Al.refl _ _)];exact au
 have HV:Hid (Al .f32 (stS c d (x,y)).2 v):=by rw[show(stS c d (x,y)).2=Da .add .f32 b d from F5 ab (Al.refl _ _)];exact av
 have HD:=Ai1 (hd.trans d3);clear hd d3 au av aa ab hok
 go_wp2
 go_ret
 exact⟨⟨u,v,rfl,hu,hv,HU.out,HV.out⟩,HD.out⟩
theorem Pn (x y:Nat)(hx:x<4294967296)(hy:y<4294967296)(w:World) :
 Calls Vp.prog 114 #[.complex .f32 x y] w fun e w'=>(∃p q,e=.returned (.complex .f64 p q)/\p<18446744073709551616/\q<18446744073709551616/\Al .f64 (A9 x) p/\Al .f64 (A9 y) q)/\Aq w w':=by
 obtain⟨p,q,w1,h1,p1,q1,d1,ap,aq⟩:=Flo.Ld (P:=Vp.prog) 23 103 (by kernel_rfl) (Vp.Di Tryz.underlying103) x y hx hy w
 have H1:=Ai1 d1;have HA:=Ai1 ap;have HB:=Ai1 aq;clear d1 ap aq
 go_enter Vp.func114,Tryz.ntmps114
 go_wp2
 go_ret
 exact⟨⟨p,q,rfl,p1,q1,HA.out,HB.out⟩,H1.out⟩
theorem Y4 (x y:Nat)(hx:x<4294967296)(hy:y<4294967296)(w:World) :
 Calls Vp.prog 135 #[.complex .f32 x y] w fun e w'=>(∃p q,e=.returned (.complex .f64 p q)/\p<18446744073709551616/\q<18446744073709551616/\Al .f64 (A9 x) p/\Al .f64 (A9 y) q)/\Aq w w':=by
 go_enter Vp.func135,Tryz.ntmps135
 go_wp2_with fail
 refine(Pn x y hx hy _).mono ?_
 rintro e w1 ⟨⟨p,q,rfl,p1,q1,ap,aq⟩,hd⟩;have H1:=Ai1 hd;have HA:=Ai1 ap;have HB:=Ai1 aq;clear hd ap aq
 go_wp2
 go_ret
 exact⟨⟨p,q,rfl,p1,q1,HA.out,HB.out⟩,H1.out⟩
theorem A0n (x y:Nat)(hx:nan .f64 x=true\/∃u,floatToFloatBits .f64 x .f32=some u)(hy:nan .f64 y=true\/∃u,floatToFloatBits .f64 y .f32=some u)(w:World) :
 Calls Vp.prog 143 #[.complex .f64 x y] w fun e w'=>(∃p q,e=.returned (.complex .f32 p q)/\p<4294967296/\q<4294967296/\Al .f32 (Bz x) p/\Al .f32 (Bz y) q)/\Aq w w':=by
 obtain⟨p,q,w1,h1,p1,q1,d1,ap,aq⟩:=Flo.Rk (P:=Vp.prog) 103 23 (by kernel_rfl) (Vp.Di Tryz.underlying23) x y hx hy w
 have H1:=Ai1 d1;have HA:=Ai1 ap;have HB:=Ai1 aq;clear d1 ap aq hx hy
 go_enter Vp.func143,Tryz.ntmps143
 go_wp2
 go_ret
 exact⟨⟨p,q,rfl,p1,q1,HA.out,HB.out⟩,H1.out⟩
theorem U7 (x y:Nat)(hx:nan .f64 x=true\/∃u,floatToFloatBits .f64 x .f32=some u)(hy:nan .f64 y=true\/∃u,floatToFloatBits .f64 y .f32=some u)(w:World) :
 Calls Vp.prog 133 #[.complex .f64 x y] w fun e w'=>(∃p q,e=.returned (.complex .f32 p q)/\p<4294967296/\q<4294967296/\Al .f32 (Bz x) p/\Al .f32 (Bz y) q)/\Aq w w':=by
 have HX:=Ai1 hx;have HY:=Ai1 hy;clear hx hy
 go_enter Vp.func133,Tryz.ntmps133
 go_wp2_with fail
 refine(A0n x y HX.out HY.out _).mono ?_
 rintro e w1 ⟨⟨p,q,rfl,p1,q1,ap,aq⟩,hd⟩;have H1:=Ai1 hd;have HA:=Ai1 ap;have HB:=Ai1 aq;clear hd ap aq
 go_wp2
 go_ret
 exact⟨⟨p,q,rfl,p1,q1,HA.out,HB.out⟩,H1.out⟩
theorem A37 (x y:Nat)(hx:x<4294967296)(hy:y<4294967296)(hok:S9 (Ck (A9 x) (A9 y))=true)(w:World) :
 Calls Vp.prog 115 #[.complex .f32 x y] w fun e w'=>(∃a b,e=.returned (.complex .f32 a b)/\a<4294967296/\b<4294967296/\Al .f32 (Bz (K7 (A9 x) (A9 y))) a/\Al .f32 (Bz (K6 (A9 x) (A9 y))) b)/\Aq w w':=by
 have HO:=Ai1 (A5v hx hy hok);have HI:=Ai1 (Y4 x y hx hy);clear hok hx hy
 go_enter Vp.func115,Tryz.ntmps115
 go_wp2_with fail
 refine(HI.out _).mono ?_
 rintro e w1 ⟨⟨p,q,rfl,-,-,ap,aq⟩,hd⟩;have H1:=Ai1 hd;have HA:=Ai1 (A5r ap aq);have HB:=Ai1 (A5q ap aq);clear hd ap aq
 go_wp2_with fail
 refine(Ub p q _).mono ?_
 rintro e w2 ⟨⟨a,b,rfl,ha,hb,aa,ab⟩,hd⟩;rw[<-HA.out]at aa;rw[<-HB.out]at ab;have H2:=Ai1 (H1.out.trans hd);have HX:=Ai1 (aa.Qs HO.out.1);have HY:=Ai1 (ab.Qs HO.out.2);have HAA:=Ai1 aa;have HAB:=Ai1 ab;clear hd aa ab H1
 go_wp2_with fail
 refine(U7 a b HX.out HY.out _).mono ?_
 rintro e w3 ⟨⟨u,v,rfl,hu,hv,au,av⟩,hd⟩;rw[<-Jn HAA.out]at au;rw[<-Jn HAB.out]at av;have HD:=Ai1 (H2.out.trans hd);have HU:=Ai1 au;have HV:=Ai1 av;clear hd au av H2
 go_wp2
 go_ret
 exact⟨⟨u,v,rfl,hu,hv,HU.out,HV.out⟩,HD.out⟩
theorem Y3 (x y c d:Nat)(hx:x<4294967296)(hy:y<4294967296)(hok:S9 (Ck (A9 x) (A9 y))=true)(w:World) :
 Calls Vp.prog 81 #[.complex .f32 x y,.complex .f32 c d] w fun e w'=>(∃a b,e=.returned (.complex .f32 a b)/\a<4294967296/\b<4294967296/\Al .f32 (stS c d (x,y)).1 a/\Al .f32 (stS c d (x,y)).2 b)/\Aq w w':=by
 go_enter Vp.func81,Tryz.ntmps81
 go_wp2_with fail
 refine(A37 x y hx hy hok _).mono ?_
 rintro e w2 ⟨⟨a,b,rfl,ha,hb,aa,ab⟩,hd⟩;obtain⟨u,v,w3,h3,hu,hv,d3,au,av⟩:=Flo.A4s (P:=Vp.prog) 23 .f32 a b c d w2;have HU:Hid (Al .f32 (stS c d (x,y)).1 u):=by rw[show(stS c d (x,y)).1=Da .add .f32 a c from F5 aa (Al.refl _ _)];exact au
 have HV:Hid (Al .f32 (stS c d (x,y)).2 v):=by rw[show(stS c d (x,y)).2=Da .add .f32 b d from F5 ab (Al.refl _ _)];exact av
 have HD:=Ai1 (hd.trans d3);clear hd d3 au av aa ab hok
 go_wp2
 go_ret
 exact⟨⟨u,v,rfl,hu,hv,HU.out,HV.out⟩,HD.out⟩
end
section
open Go.RowKit
theorem Ya {x:Bx}{k:Nat}{p q r s:Int}(h:Ep x k=some ⟨p,q,r,s⟩):Bg p q r s=true:=by
 cases k with
 | zero =>
   unfold Ep at h;injection h with h
   injection h with h1 h2 h3 h4
   subst h1 h2 h3 h4
   rfl
 | succ k =>
   unfold Ep at h
   cases hk:Ep x k with
   | none=>rw[hk]at h;cases h
   | some z =>
     rw[hk]at h;have h:Bx.next x z=some ⟨p,q,r,s⟩:=h;unfold Bx.next at h
     split at h
     ·split at h
      ·rename_i g
       injection h with h
       rw[h]at g
       exact g
      ·cases h
     ·cases h
theorem A14 {x:Bx}{k:Nat}(h:Ep x k=none):∀i,k<=i->M4 x i=false:=by
 have:∀j,Ep x (k+j)=none:=by
  intro j
  induction j with
  | zero=>exact h
  | succ j ih=>show(Ep x (k+j)).bind _=none;rw[ih];rfl
 intro i hi;obtain⟨j,rfl⟩:=Nat.exists_eq_add_of_le hi;unfold M4;rw[this j]
def De (x:Bx)(M:Nat)(y:Int):Prop:=(whB x M=true/\0<=y) \/(whB x M=false/\y=-1)
theorem A4g {x:Bx}{M:Nat}(h:∀i,i<=M->M4 x i=false):whB x M=false:=by
 unfold whB;rw[List.any_eq_false];intro i hi;rw[Amo]at hi;rw[h i (by omega)]
 simp
theorem De.hit {x z:Bx}{M k:Nat}(hk:k<=M)(h1:Ep x k=some z)(h2:(1125899906842624:Int)<nLo z):De x M k:=by
 refine .inl ⟨?_,by omega⟩
 unfold whB;rw[List.any_eq_true]
 refine⟨k,Amo.2 (by omega),?_⟩
 unfold M4;rw[h1]
 simpa using h2
theorem Yb {x z:Bx}{k:Nat}(h1:Ep x k=some z)(h2:¬(1125899906842624:Int)<nLo z):M4 x k=false:=by
 unfold M4;rw[h1]
 simpa using h2
theorem De.stop {x z:Bx}{M k:Nat}(h1:Ep x k=some z)(h2:¬(1125899906842624:Int)<nLo z)(hp:∀i,i<k->M4 x i=false)(hn:Bx.next x z=none):De x M (-1):=by
 refine .inr ⟨A4g fun i _=>?_,rfl⟩
 rcases Am3 i k with h|h|h
 ·exact hp i h
 ·rw[h];exact Yb h1 h2
 ·exact A14 (k:=k+1) (by show(Ep x k).bind _=none;rw[h1];exact hn) i h
theorem De.full {x:Bx}{M k:Nat}(hk:M<k)(hp:∀i,i<k->M4 x i=false):De x M (-1):=.inr ⟨A4g fun i hi=>hp i (by omega),rfl⟩
theorem Hj (x:Bx):∃(p q r s:Int) (t:Bool),Fg x=.tuple #[.agg #[.int .i64 p,.int .i64 q,.int .i64 r,.int .i64 s],.bool t]/\Bg p q r s=true /\((t=true/\x=⟨p,q,r,s⟩) \/(t=false/\x.ok=false)):=by
 unfold Fg
 split
 ·rename_i h
  exact⟨x.a,x.b,x.c,x.d,true,rfl,h,.inl ⟨rfl,rfl⟩⟩
 ·rename_i h
  exact⟨0,0,0,0,false,rfl,rfl,.inr ⟨rfl,by simpa using h⟩⟩
theorem Jo {x z:Bx}(h:z.sq.ok=false):Bx.next x z=none:=by
 unfold Bx.next;rw[Aid (by rw[h];simp)]
theorem Jp {x z:Bx}{p q r s:Int}(h:z.sq=⟨p,q,r,s⟩)(g:Bx.ok ⟨p+x.a,q+x.b,r+x.c,s+x.d⟩=false):Bx.next x z=none:=by
 unfold Bx.next;rw[h]
 split
 ·rw[Aid];rw[show Bx.add ⟨p,q,r,s⟩ x=⟨p+x.a,q+x.b,r+x.c,s+x.d⟩from rfl,g];simp
 ·rfl
theorem Si {x z:Bx}{k:Nat}{p q r s p2 q2 r2 s2:Int}(h1:Ep x k=some z)(h2:¬(1125899906842624:Int)<nLo z)(hp:∀i,i<k->M4 x i=false)(h:z.sq=⟨p,q,r,s⟩)(g:(⟨p+x.a,q+x.b,r+x.c,s+x.d⟩:Bx)=⟨p2,q2,r2,s2⟩)(o1:Bg p q r s=true)(o2:Bg p2 q2 r2 s2=true) :
 Ep x (k+1)=some ⟨p2,q2,r2,s2⟩/\∀i,i<k+1->M4 x i=false:=by
 refine⟨?_,fun i hi=>?_⟩
 ·show(Ep x k).bind _=_
  rw[h1]
  show Bx.next x z=_
  unfold Bx.next;rw[h,Aij (show Bx.ok ⟨p,q,r,s⟩=true from o1),show Bx.add ⟨p,q,r,s⟩ x=⟨p2,q2,r2,s2⟩from g,Aij (show Bx.ok ⟨p2,q2,r2,s2⟩=true from o2)]
 ·by_cases e:i=k
  ·rw[e];exact Yb h1 h2
  ·exact hp i (by omega)
theorem Xg (a b c d n:Int)(hv:Bg a b c d=true)(w:World):Calls Vp.prog 71 #[.agg #[.int .i64 a,.int .i64 b,.int .i64 c,.int .i64 d],.int .i64 n] w fun e w'=>(∃(x y:Int),e=.returned (.tuple #[.int .i64 x,.int .i64 y,.bool true])/\De ⟨a,b,c,d⟩ (Bm n).toNat y)/\Below w.heap.size w w':=by
 have hv':=hv
 obtain⟨M,hM,hM4⟩:∃M:Nat,Bm n=M/\M<=400:=by
  have:=J1 n
  exact⟨(Bm n).toNat,by omega,by omega⟩
 have HMM:Hid ((Bm n).toNat=M):=by show(Bm n).toNat=M;omega
 have HMS:=Ai1 (fun w=>Vr n w)
 rw[hM]at HMS;rw[HMM.out];have HV:=Ai1 hv;clear hM hv HMM;have X:=A8.new w #[.int .i64 a,.int .i64 b,.int .i64 c,.int .i64 d] 93
 go_enter Vp.func71,Tryz.ntmps71
 go_wp2_with fail
 refine(Cb a b c d _).mono ?_
 rintro e w1 ⟨rfl,hb⟩;replace X:=X.step hb;clear hb;rw[hv'];have Z:=(A8.new w1 #[.int .i64 0,.int .i64 0,.int .i64 0,.int .i64 0] 93).up X.old;have hne:w.heap.size≠w1.heap.size:=by have:=X.lt;omega
 have hzb:w.heap.size<=w1.heap.size:=X.old.size;replace X:=X.alloc (.cells #[.int .i64 0,.int .i64 0,.int .i64 0,.int .i64 0] 93)
 go_wp2
 generalize w1.heap.size=zb at *
 go_loopw [7,9,10,11,12,13,14,15,16] (fun f k _ _ _ _ _ _ _ wr=>∃(fi:Int) (j:Nat) (p q r s:Int),j<=401/\f=.int .i64 fi/\k=.int .i64 j/\A8 w w.heap.size #[.int .i64 a,.int .i64 b,.int .i64 c,.int .i64 d] 93 wr/\A8 w zb #[.int .i64 p,.int .i64 q,.int .i64 r,.int .i64 s] 93 wr/\Hid (Ep ⟨a,b,c,d⟩ j=some ⟨p,q,r,s⟩/\∀i,i<j->M4 ⟨a,b,c,d⟩ i=false)) (fun _ k _ _ _ _ _ _ _ _=>(401-intOf k).toNat)
 case atStart=>exact⟨-1,0,0,0,0,0,by omega,rfl,rfl,X,Z,rfl,fun i hi=>by omega⟩
 case round =>
  clear X Z;obtain⟨fi,k,p,q,r,s,hk,rfl,rfl,X,Z,HI⟩:=hrel;have hz:Bg p q r s=true:=Ya HI.out.1;obtain⟨wo,rfl⟩:∃wo,wo=wr:=⟨_,rfl⟩
  go_wp2_with fail
  refine(HMS.out _).mono ?_
  rintro e w2 ⟨rfl,rfl⟩;have HNO:=Ai1 (A2o p q r s hz);have HSQ:=Ai1 (Xi p q r s hz);obtain⟨lo,elo⟩:∃x,nLo ⟨p,q,r,s⟩=x:=⟨_,rfl⟩;obtain⟨hi,ehi⟩:∃x,nHi ⟨p,q,r,s⟩=x:=⟨_,rfl⟩;rw[elo,ehi]at HNO;have ELO:=Ai1 elo;clear elo ehi hz
  by_cases hle:(k:Int)<=M
  ·have z0:=Z.cell 0 _ rfl;have z1:=Z.cell 1 _ rfl;have z2:=Z.cell 2 _ rfl;have z3:=Z.cell 3 _ rfl
   go_wp2_with fail
   refine(HNO.out _).mono ?_
   rintro e w2 ⟨rfl,hb⟩;clear z0 z1 z2 z3;replace X:=X.step hb;replace Z:=Z.step hb;clear hb;have z0:=Z.cell 0 _ rfl;have z1:=Z.cell 1 _ rfl;have z2:=Z.cell 2 _ rfl;have z3:=Z.cell 3 _ rfl
   by_cases hlo:(1125899906842624:Int)<lo
   ·have HE:Hid (De ⟨a,b,c,d⟩ M k):=De.hit (by omega) HI.out.1 (by rw[ELO.out];exact hlo)
    have HB:=Ai1 X.old;clear X Z
    by_cases hf:fi<0
    ·by_cases hh:(1125899906842624:Int)<hi
     ·go_wp2
      exact Ai6 (v:=.tuple #[.int .i64 _,.int .i64 _,.bool true]) (by simp[results,Tryz.f71,go_sem];first|exact⟨rfl,rfl⟩|exact rfl) rfl ⟨⟨_,_,rfl,HE.out⟩,HB.out⟩
     ·go_wp2
      exact Ai6 (v:=.tuple #[.int .i64 _,.int .i64 _,.bool true]) (by simp[results,Tryz.f71,go_sem];first|exact⟨rfl,rfl⟩|exact rfl) rfl ⟨⟨_,_,rfl,HE.out⟩,HB.out⟩
    ·go_wp2
     exact Ai6 (v:=.tuple #[.int .i64 _,.int .i64 _,.bool true]) (by simp[results,Tryz.f71,go_sem];first|exact⟨rfl,rfl⟩|exact rfl) rfl ⟨⟨_,_,rfl,HE.out⟩,HB.out⟩
   ·have HNL:Hid (¬(1125899906842624:Int)<nLo ⟨p,q,r,s⟩):=by show ¬_;rw[ELO.out];exact hlo
    obtain⟨p1,q1,r1,s1,t1,hx1,hok1,hc1⟩:=Hj (Bx.sq ⟨p,q,r,s⟩);rw[hx1]at HSQ;have HAD:=Ai1 (A6a p1 q1 r1 s1 a b c d hok1 HV.out);obtain⟨p2,q2,r2,s2,t2,hx2,hok2,hc2⟩:=Hj ⟨p1+a,q1+b,r1+c,s1+d⟩;rw[hx2]at HAD;have HC1:=Ai1 hc1;have HC2:=Ai1 hc2;have HO1:=Ai1 hok1;have HO2:=Ai1 hok2;clear hx1 hx2 hok1 hok2 hc1 hc2
    by_cases hf:fi<0
    ·by_cases hh:(1125899906842624:Int)<hi
     ·go_wp2_with fail
      refine(HSQ.out _).mono ?_
      rintro e w3 ⟨rfl,hb⟩;clear z0 z1 z2 z3;replace X:=X.step hb;replace Z:=Z.step hb;clear hb;have S:=(A8.new w3 #[.int .i64 p1,.int .i64 q1,.int .i64 r1,.int .i64 s1] 93).up X.old;replace X:=X.alloc (.cells #[.int .i64 p1,.int .i64 q1,.int .i64 r1,.int .i64 s1] 93);replace Z:=Z.alloc (.cells #[.int .i64 p1,.int .i64 q1,.int .i64 r1,.int .i64 s1] 93);have y0:=S.cell 0 _ rfl;have y1:=S.cell 1 _ rfl;have y2:=S.cell 2 _ rfl;have y3:=S.cell 3 _ rfl;have x0:=X.cell 0 _ rfl;have x1:=X.cell 1 _ rfl;have x2:=X.cell 2 _ rfl;have x3:=X.cell 3 _ rfl
      go_wp2_with fail
      refine(HAD.out _).mono ?_
      rintro e w4 ⟨rfl,hb⟩;clear x0 x1 x2 x3 y0 y1 y2 y3 S;replace X:=X.step hb;replace Z:=Z.step hb;clear hb;have N:=(A8.new w4 #[.int .i64 p2,.int .i64 q2,.int .i64 r2,.int .i64 s2] 93).up X.old;replace X:=X.alloc (.cells #[.int .i64 p2,.int .i64 q2,.int .i64 r2,.int .i64 s2] 93);replace Z:=Z.alloc (.cells #[.int .i64 p2,.int .i64 q2,.int .i64 r2,.int .i64 s2] 93);have HB:=Ai1 X.old
      cases t1 with
      | false =>
        have HE:Hid (De ⟨a,b,c,d⟩ M (-1)):=De.stop HI.out.1 (by have:=HNL.out;omega) HI.out.2 (Jo (HC1.out.resolve_left (fun h=>by cases h.1)).2)
        clear X Z N
        go_wp2
        exact Ai6 (v:=.tuple #[.int .i64 _,.int .i64 _,.bool true]) (by simp[results,Tryz.f71,go_sem];first|exact⟨rfl,rfl⟩|exact rfl) rfl ⟨⟨_,_,rfl,HE.out⟩,HB.out⟩
      | true =>
        cases t2 with
        | false =>
          have HE:Hid (De ⟨a,b,c,d⟩ M (-1)):=De.stop HI.out.1 (by have:=HNL.out;omega) HI.out.2 (Jp (HC1.out.resolve_right (fun h=>by cases h.1)).2 (HC2.out.resolve_left (fun h=>by cases h.1)).2)
          clear X Z N
          go_wp2
          exact Ai6 (v:=.tuple #[.int .i64 _,.int .i64 _,.bool true]) (by simp[results,Tryz.f71,go_sem];first|exact⟨rfl,rfl⟩|exact rfl) rfl ⟨⟨_,_,rfl,HE.out⟩,HB.out⟩
        | true =>
          have HI2:Hid (Ep ⟨a,b,c,d⟩ (k+1)=some ⟨p2,q2,r2,s2⟩/\∀i,i<k+1->M4 ⟨a,b,c,d⟩ i=false):=Si HI.out.1 (by have:=HNL.out;omega) HI.out.2 (HC1.out.resolve_right (fun h=>by cases h.1)).2 (HC2.out.resolve_right (fun h=>by cases h.1)).2 HO1.out HO2.out
          have n0:=N.cell 0 _ rfl;have n1:=N.cell 1 _ rfl;have n2:=N.cell 2 _ rfl;have n3:=N.cell 3 _ rfl;have z0:=Z.cell 0 _ rfl;have z1:=Z.cell 1 _ rfl;have z2:=Z.cell 2 _ rfl;have z3:=Z.cell 3 _ rfl;have f0:=Z.frozen 0;have f1:=Z.frozen 1;have f2:=Z.frozen 2;have f3:=Z.frozen 3;have HZ:Hid (∀u0 u1 u2 u3,A8 w zb #[u0,u1,u2,u3] 93 (((((w4.alloc (.cells #[.int .i64 p2,.int .i64 q2,.int .i64 r2,.int .i64 s2] 93)).setCell ⟨zb,0,none⟩ u0).setCell ⟨zb,1,none⟩ u1).setCell ⟨zb,2,none⟩ u2).setCell ⟨zb,3,none⟩ u3)):=fun u0 u1 u2 u3=>(((Z.set hzb 0 u0).set hzb 1 u1).set hzb 2 u2).set hzb 3 u3
          have HX:Hid (∀u0 u1 u2 u3,A8 w w.heap.size #[.int .i64 a,.int .i64 b,.int .i64 c,.int .i64 d] 93 (((((w4.alloc (.cells #[.int .i64 p2,.int .i64 q2,.int .i64 r2,.int .i64 s2] 93)).setCell ⟨zb,0,none⟩ u0).setCell ⟨zb,1,none⟩ u1).setCell ⟨zb,2,none⟩ u2).setCell ⟨zb,3,none⟩ u3)):=fun u0 u1 u2 u3=>(((X.other (p:=⟨zb,0,none⟩) hzb hne u0).other (p:=⟨zb,1,none⟩) hzb hne u1).other (p:=⟨zb,2,none⟩) hzb hne u2).other (p:=⟨zb,3,none⟩) hzb hne u3
          clear X Z N HB
          go_wp2
          go_roundw
          case rel=>exact⟨k,k+1,p2,q2,r2,s2,by omega,rfl,by go_num,HX.out _ _ _ _,HZ.out _ _ _ _,HI2⟩
          case measure=>simp[intOf];omega
     ·go_wp2_with fail
      refine(HSQ.out _).mono ?_
      rintro e w3 ⟨rfl,hb⟩;clear z0 z1 z2 z3;replace X:=X.step hb;replace Z:=Z.step hb;clear hb;have S:=(A8.new w3 #[.int .i64 p1,.int .i64 q1,.int .i64 r1,.int .i64 s1] 93).up X.old;replace X:=X.alloc (.cells #[.int .i64 p1,.int .i64 q1,.int .i64 r1,.int .i64 s1] 93);replace Z:=Z.alloc (.cells #[.int .i64 p1,.int .i64 q1,.int .i64 r1,.int .i64 s1] 93);have y0:=S.cell 0 _ rfl;have y1:=S.cell 1 _ rfl;have y2:=S.cell 2 _ rfl;have y3:=S.cell 3 _ rfl;have x0:=X.cell 0 _ rfl;have x1:=X.cell 1 _ rfl;have x2:=X.cell 2 _ rfl;have x3:=X.cell 3 _ rfl
      go_wp2_with fail
      refine(HAD.out _).mono ?_
      rintro e w4 ⟨rfl,hb⟩;clear x0 x1 x2 x3 y0 y1 y2 y3 S;replace X:=X.step hb;replace Z:=Z.step hb;clear hb;have N:=(A8.new w4 #[.int .i64 p2,.int .i64 q2,.int .i64 r2,.int .i64 s2] 93).up X.old;replace X:=X.alloc (.cells #[.int .i64 p2,.int .i64 q2,.int .i64 r2,.int .i64 s2] 93);replace Z:=Z.alloc (.cells #[.int .i64 p2,.int .i64 q2,.int .i64 r2,.int .i64 s2] 93);have HB:=Ai1 X.old
      cases t1 with
      | false =>
        have HE:Hid (De ⟨a,b,c,d⟩ M (-1)):=De.stop HI.out.1 (by have:=HNL.out;omega) HI.out.2 (Jo (HC1.out.resolve_left (fun h=>by cases h.1)).2)
        clear X Z N
        go_wp2
        exact Ai6 (v:=.tuple #[.int .i64 _,.int .i64 _,.bool true]) (by simp[results,Tryz.f71,go_sem];first|exact⟨rfl,rfl⟩|exact rfl) rfl ⟨⟨_,_,rfl,HE.out⟩,HB.out⟩
      | true =>
        cases t2 with
        | false =>
          have HE:Hid (De ⟨a,b,c,d⟩ M (-1)):=De.stop HI.out.1 (by have:=HNL.out;omega) HI.out.2 (Jp (HC1.out.resolve_right (fun h=>by cases h.1)).2 (HC2.out.resolve_left (fun h=>by cases h.1)).2)
          clear X Z N
          go_wp2
          exact Ai6 (v:=.tuple #[.int .i64 _,.int .i64 _,.bool true]) (by simp[results,Tryz.f71,go_sem];first|exact⟨rfl,rfl⟩|exact rfl) rfl ⟨⟨_,_,rfl,HE.out⟩,HB.out⟩
        | true =>
          have HI2:Hid (Ep ⟨a,b,c,d⟩ (k+1)=some ⟨p2,q2,r2,s2⟩/\∀i,i<k+1->M4 ⟨a,b,c,d⟩ i=false):=Si HI.out.1 (by have:=HNL.out;omega) HI.out.2 (HC1.out.resolve_right (fun h=>by cases h.1)).2 (HC2.out.resolve_right (fun h=>by cases h.1)).2 HO1.out HO2.out
          have n0:=N.cell 0 _ rfl;have n1:=N.cell 1 _ rfl;have n2:=N.cell 2 _ rfl;have n3:=N.cell 3 _ rfl;have z0:=Z.cell 0 _ rfl;have z1:=Z.cell 1 _ rfl;have z2:=Z.cell 2 _ rfl;have z3:=Z.cell 3 _ rfl;have f0:=Z.frozen 0;have f1:=Z.frozen 1;have f2:=Z.frozen 2;have f3:=Z.frozen 3;have HZ:Hid (∀u0 u1 u2 u3,A8 w zb #[u0,u1,u2,u3] 93 (((((w4.alloc (.cells #[.int .i64 p2,.int .i64 q2,.int .i64 r2,.int .i64 s2] 93)).setCell ⟨zb,0,none⟩ u0).setCell ⟨zb,1,none⟩ u1).setCell ⟨zb,2,none⟩ u2).setCell ⟨zb,3,none⟩ u3)):=fun u0 u1 u2 u3=>(((Z.set hzb 0 u0).set hzb 1 u1).set hzb 2 u2).set hzb 3 u3
          have HX:Hid (∀u0 u1 u2 u3,A8 w w.heap.size #[.int .i64 a,.int .i64 b,.int .i64 c,.int .i64 d] 93 (((((w4.alloc (.cells #[.int .i64 p2,.int .i64 q2,.int .i64 r2,.int .i64 s2] 93)).setCell ⟨zb,0,none⟩ u0).setCell ⟨zb,1,none⟩ u1).setCell ⟨zb,2,none⟩ u2).setCell ⟨zb,3,none⟩ u3)):=fun u0 u1 u2 u3=>(((X.other (p:=⟨zb,0,none⟩) hzb hne u0).other (p:=⟨zb,1,none⟩) hzb hne u1).other (p:=⟨zb,2,none⟩) hzb hne u2).other (p:=⟨zb,3,none⟩) hzb hne u3
          clear X Z N HB
          go_wp2
          go_roundw
          case rel=>exact⟨fi,k+1,p2,q2,r2,s2,by omega,rfl,by go_num,HX.out _ _ _ _,HZ.out _ _ _ _,HI2⟩
          case measure=>simp[intOf];omega
    ·go_wp2_with fail
     refine(HSQ.out _).mono ?_
     rintro e w3 ⟨rfl,hb⟩;clear z0 z1 z2 z3;replace X:=X.step hb;replace Z:=Z.step hb;clear hb;have S:=(A8.new w3 #[.int .i64 p1,.int .i64 q1,.int .i64 r1,.int .i64 s1] 93).up X.old;replace X:=X.alloc (.cells #[.int .i64 p1,.int .i64 q1,.int .i64 r1,.int .i64 s1] 93);replace Z:=Z.alloc (.cells #[.int .i64 p1,.int .i64 q1,.int .i64 r1,.int .i64 s1] 93);have y0:=S.cell 0 _ rfl;have y1:=S.cell 1 _ rfl;have y2:=S.cell 2 _ rfl;have y3:=S.cell 3 _ rfl;have x0:=X.cell 0 _ rfl;have x1:=X.cell 1 _ rfl;have x2:=X.cell 2 _ rfl;have x3:=X.cell 3 _ rfl
     go_wp2_with fail
     refine(HAD.out _).mono ?_
     rintro e w4 ⟨rfl,hb⟩;clear x0 x1 x2 x3 y0 y1 y2 y3 S;replace X:=X.step hb;replace Z:=Z.step hb;clear hb;have N:=(A8.new w4 #[.int .i64 p2,.int .i64 q2,.int .i64 r2,.int .i64 s2] 93).up X.old;replace X:=X.alloc (.cells #[.int .i64 p2,.int .i64 q2,.int .i64 r2,.int .i64 s2] 93);replace Z:=Z.alloc (.cells #[.int .i64 p2,.int .i64 q2,.int .i64 r2,.int .i64 s2] 93);have HB:=Ai1 X.old
     cases t1 with
     | false =>
       have HE:Hid (De ⟨a,b,c,d⟩ M (-1)):=De.stop HI.out.1 (by have:=HNL.out;omega) HI.out.2 (Jo (HC1.out.resolve_left (fun h=>by cases h.1)).2)
       clear X Z N
       go_wp2
       exact Ai6 (v:=.tuple #[.int .i64 _,.int .i64 _,.bool true]) (by simp[results,Tryz.f71,go_sem];first|exact⟨rfl,rfl⟩|exact rfl) rfl ⟨⟨_,_,rfl,HE.out⟩,HB.out⟩
     | true =>
       cases t2 with
       | false =>
         have HE:Hid (De ⟨a,b,c,d⟩ M (-1)):=De.stop HI.out.1 (by have:=HNL.out;omega) HI.out.2 (Jp (HC1.out.resolve_right (fun h=>by cases h.1)).2 (HC2.out.resolve_left (fun h=>by cases h.1)).2)
         clear X Z N
         go_wp2
         exact Ai6 (v:=.tuple #[.int .i64 _,.int .i64 _,.bool true]) (by simp[results,Tryz.f71,go_sem];first|exact⟨rfl,rfl⟩|exact rfl) rfl ⟨⟨_,_,rfl,HE.out⟩,HB.out⟩
       | true =>
         have HI2:Hid (Ep ⟨a,b,c,d⟩ (k+1)=some ⟨p2,q2,r2,s2⟩/\∀i,i<k+1->M4 ⟨a,b,c,d⟩ i=false):=Si HI.out.1 (by have:=HNL.out;omega) HI.out.2 (HC1.out.resolve_right (fun h=>by cases h.1)).2 (HC2.out.resolve_right (fun h=>by cases h.1)).2 HO1.out HO2.out
         have n0:=N.cell 0 _ rfl;have n1:=N.cell 1 _ rfl;have n2:=N.cell 2 _ rfl;have n3:=N.cell 3 _ rfl;have z0:=Z.cell 0 _ rfl;have z1:=Z.cell 1 _ rfl;have z2:=Z.cell 2 _ rfl;have z3:=Z.cell 3 _ rfl;have f0:=Z.frozen 0;have f1:=Z.frozen 1;have f2:=Z.frozen 2;have f3:=Z.frozen 3;have HZ:Hid (∀u0 u1 u2 u3,A8 w zb #[u0,u1,u2,u3] 93 (((((w4.alloc (.cells #[.int .i64 p2,.int .i64 q2,.int .i64 r2,.int .i64 s2] 93)).setCell ⟨zb,0,none⟩ u0).setCell ⟨zb,1,none⟩ u1).setCell ⟨zb,2,none⟩ u2).setCell ⟨zb,3,none⟩ u3)):=fun u0 u1 u2 u3=>(((Z.set hzb 0 u0).set hzb 1 u1).set hzb 2 u2).set hzb 3 u3
         have HX:Hid (∀u0 u1 u2 u3,A8 w w.heap.size #[.int .i64 a,.int .i64 b,.int .i64 c,.int .i64 d] 93 (((((w4.alloc (.cells #[.int .i64 p2,.int .i64 q2,.int .i64 r2,.int .i64 s2] 93)).setCell ⟨zb,0,none⟩ u0).setCell ⟨zb,1,none⟩ u1).setCell ⟨zb,2,none⟩ u2).setCell ⟨zb,3,none⟩ u3)):=fun u0 u1 u2 u3=>(((X.other (p:=⟨zb,0,none⟩) hzb hne u0).other (p:=⟨zb,1,none⟩) hzb hne u1).other (p:=⟨zb,2,none⟩) hzb hne u2).other (p:=⟨zb,3,none⟩) hzb hne u3
         clear X Z N HB
         go_wp2
         go_roundw
         case rel=>exact⟨fi,k+1,p2,q2,r2,s2,by omega,rfl,by go_num,HX.out _ _ _ _,HZ.out _ _ _ _,HI2⟩
         case measure=>simp[intOf];omega
  ·have HE:Hid (De ⟨a,b,c,d⟩ M (-1)):=De.full (by omega) HI.out.2
   have HB:=Ai1 X.old;clear X Z
   go_wp2
   exact Ai6 (v:=.tuple #[.int .i64 _,.int .i64 _,.bool true]) (by simp[results,Tryz.f71,go_sem];first|exact⟨rfl,rfl⟩|exact rfl) rfl ⟨⟨_,_,rfl,HE.out⟩,HB.out⟩
end
section
open Go.RowKit
theorem Xm (a b c d n:Int)(hv:Bg a b c d=true)(w:World):Calls Vp.prog 46 #[.agg #[.int .i64 a,.int .i64 b,.int .i64 c,.int .i64 d],.int .i64 n] w fun e w'=>e=.returned (.tuple #[.int .i64 (stB ⟨a,b,c,d⟩ (Bm n).toNat),.bool true])/\Below w.heap.size w w':=by
 have HCA:=Ai1 (Oh a b c d hv);have HDI:=Ai1 (Xq a b c d hv);have HES:=Ai1 (Xg a b c d n hv);have HST:Hid (∀S,stB ⟨a,b,c,d⟩ (Bm n).toNat=S->S=if Ke ⟨a,b,c,d⟩<=0\/Ki ⟨a,b,c,d⟩<=0 then 1 else if whB ⟨a,b,c,d⟩ (Bm n).toNat=true then -1 else 0):=fun S h=>h.symm
 obtain⟨S,hS⟩:∃S,stB ⟨a,b,c,d⟩ (Bm n).toNat=S:=⟨_,rfl⟩;have HS:=Ai1 (HST.out S hS);rw[hS];clear hS HST hv;generalize Ke ⟨a,b,c,d⟩=x at *;generalize Ki ⟨a,b,c,d⟩=y at *;have X:=A8.new w #[.int .i64 a,.int .i64 b,.int .i64 c,.int .i64 d] 93;have x0:=X.cell 0 _ rfl;have x1:=X.cell 1 _ rfl;have x2:=X.cell 2 _ rfl;have x3:=X.cell 3 _ rfl
 go_enter Vp.func46,Tryz.ntmps46
 go_wp2_with fail
 refine(HCA.out _).mono ?_
 rintro e w1 ⟨rfl,hb⟩;clear x0 x1 x2 x3;replace X:=X.step hb;clear hb;have x0:=X.cell 0 _ rfl;have x1:=X.cell 1 _ rfl;have x2:=X.cell 2 _ rfl;have x3:=X.cell 3 _ rfl
 go_wp2_with fail
 refine(HDI.out _).mono ?_
 rintro e w2 ⟨rfl,hb⟩;clear x0 x1 x2 x3;replace X:=X.step hb;clear hb;have x0:=X.cell 0 _ rfl;have x1:=X.cell 1 _ rfl;have x2:=X.cell 2 _ rfl;have x3:=X.cell 3 _ rfl
 go_wp2_with fail
 refine(HES.out _).mono ?_
 rintro e w3 ⟨⟨u,k,rfl,hk⟩,hb⟩;have HK:=Ai1 hk;clear hk;have HB:=Ai1 (X.step hb).old;clear x0 x1 x2 x3 X hb;have hs:=HS.out
 by_cases hx:x<=0
 ·rw[Aij (.inl hx)]at hs;subst hs
  go_wp2
  exact Ai6 (v:=.tuple #[.int .i64 1,.bool true]) (by simp[results,Tryz.f46,go_sem]) rfl ⟨rfl,HB.out⟩
 ·by_cases hy:y<=0
  ·rw[Aij (.inr hy)]at hs;subst hs
   go_wp2
   exact Ai6 (v:=.tuple #[.int .i64 1,.bool true]) (by simp[results,Tryz.f46,go_sem]) rfl ⟨rfl,HB.out⟩
  ·rw[Aid (by omega)]at hs
   by_cases hk:0<=k
   ·rw[Aij (by rcases HK.out with h|h;· exact h.1
               ·omega)]at hs
    subst hs
    go_wp2
    exact Ai6 (v:=.tuple #[.int .i64 (-1),.bool true]) (by simp[results,Tryz.f46,go_sem]) rfl ⟨rfl,HB.out⟩
   ·rw[Aid (by rcases HK.out with h|h;· omega
               ·rw[h.1];simp)]at hs
    subst hs
    go_wp2
    exact Ai6 (v:=.tuple #[.int .i64 0,.bool true]) (by simp[results,Tryz.f46,go_sem]) rfl ⟨rfl,HB.out⟩
end
section
open Go.RowKit
theorem Ta (a b c d:Int)(w:World):Calls Vp.prog 127 #[.agg #[.int .i64 a,.int .i64 b,.int .i64 c,.int .i64 d]] w fun e w'=>e=.returned (Fg ⟨a,b,c,d⟩)/\Below w.heap.size w w':=by
 obtain⟨X0,-⟩:=A28 w #[.int .i64 a,.int .i64 b,.int .i64 c,.int .i64 d] 158 #[.int .i64 0,.int .i64 0,.int .i64 0,.int .i64 0] 93;obtain⟨X,Z,Y⟩:=Tm w #[.int .i64 a,.int .i64 b,.int .i64 c,.int .i64 d] 158 #[.int .i64 0,.int .i64 0,.int .i64 0,.int .i64 0] 93 #[.int .i64 a,.int .i64 b,.int .i64 c,.int .i64 d] 93;have HS:=Ae7 a b c d;have HQ:=Ai1 (Tb a b);have HR:=Ai1 (Tb c d)
 have HD:Fg ⟨a,b,c,d⟩=if(Yq a b && Yq c d)=true then .tuple #[.agg #[.int .i64 a,.int .i64 b,.int .i64 c,.int .i64 d],.bool true]else .tuple #[.agg #[.int .i64 0,.int .i64 0,.int .i64 0,.int .i64 0],.bool false]:=by
  unfold Fg Bx.ok;rw[HS]
  rfl
 rw[HD];clear HS HD;have y0:=X0.cell 0 _ rfl;have y1:=X0.cell 1 _ rfl;have y2:=X0.cell 2 _ rfl;have y3:=X0.cell 3 _ rfl;have x0:=X.cell 0 _ rfl;have x1:=X.cell 1 _ rfl;have x2:=X.cell 2 _ rfl;have x3:=X.cell 3 _ rfl
 cases h1:Yq a b with
 | false =>
   rw[h1]at HQ;rw[Aid (by simp)]
   clear h1 HR
   go_enter Vp.func127,Tryz.ntmps127
   go_wp2_with fail
   refine(HQ.out _).mono ?_
   rintro e w1 ⟨rfl,hb⟩;clear x0 x1 x2 x3 y0 y1 y2 y3 X0;replace Y:=Y.step hb;replace Z:=Z.step hb;clear hb X;have y0:=Y.cell 0 _ rfl;have y1:=Y.cell 1 _ rfl;have y2:=Y.cell 2 _ rfl;have y3:=Y.cell 3 _ rfl;have z0:=Z.cell 0 _ rfl;have z1:=Z.cell 1 _ rfl;have z2:=Z.cell 2 _ rfl;have z3:=Z.cell 3 _ rfl;have f0:=Z.frozen 0;have f1:=Z.frozen 1;have f2:=Z.frozen 2;have f3:=Z.frozen 3;have HB:=Ai1 Z.old;clear Y Z
   go_wp2
   exact Ai6 (v:=.tuple #[.agg #[.int .i64 0,.int .i64 0,.int .i64 0,.int .i64 0],.bool false]) (by simp[results,Tryz.f127,go_sem,z0,z1,z2,z3]) rfl ⟨rfl,A1p HB.out (b:=w.heap.size+1) (by omega) _ _ _ _⟩
 | true =>
   rw[h1]at HQ
   cases h2:Yq c d with
   | false =>
     rw[h2]at HR;rw[Aid (by simp)]
     clear h1 h2
     go_enter Vp.func127,Tryz.ntmps127
     go_wp2_with fail
     refine(HQ.out _).mono ?_
     rintro e w1 ⟨rfl,hb⟩;clear x0 x1 x2 x3 y0 y1 y2 y3 X0;replace X:=X.step hb;replace Y:=Y.step hb;replace Z:=Z.step hb;clear hb;have x0:=X.cell 0 _ rfl;have x1:=X.cell 1 _ rfl;have x2:=X.cell 2 _ rfl;have x3:=X.cell 3 _ rfl
     go_wp2_with fail
     refine(HR.out _).mono ?_
     rintro e w2 ⟨rfl,hb⟩;clear x0 x1 x2 x3;replace Z:=Z.step hb;clear hb X Y;have z0:=Z.cell 0 _ rfl;have z1:=Z.cell 1 _ rfl;have z2:=Z.cell 2 _ rfl;have z3:=Z.cell 3 _ rfl;have f0:=Z.frozen 0;have f1:=Z.frozen 1;have f2:=Z.frozen 2;have f3:=Z.frozen 3;have HB:=Ai1 Z.old;clear Z
     go_wp2
     exact Ai6 (v:=.tuple #[.agg #[.int .i64 0,.int .i64 0,.int .i64 0,.int .i64 0],.bool false]) (by simp[results,Tryz.f127,go_sem,z0,z1,z2,z3]) rfl ⟨rfl,A1p HB.out (b:=w.heap.size+1) (by omega) _ _ _ _⟩
   | true =>
     rw[h2]at HR;rw[Aij (by simp)]
     clear h1 h2
     go_enter Vp.func127,Tryz.ntmps127
     go_wp2_with fail
     refine(HQ.out _).mono ?_
     rintro e w1 ⟨rfl,hb⟩;clear x0 x1 x2 x3 y0 y1 y2 y3 X0;replace X:=X.step hb;replace Y:=Y.step hb;replace Z:=Z.step hb;clear hb;have x0:=X.cell 0 _ rfl;have x1:=X.cell 1 _ rfl;have x2:=X.cell 2 _ rfl;have x3:=X.cell 3 _ rfl
     go_wp2_with fail
     refine(HR.out _).mono ?_
     rintro e w2 ⟨rfl,hb⟩;clear x0 x1 x2 x3;replace Y:=Y.step hb;replace Z:=Z.step hb;clear hb X;have y0:=Y.cell 0 _ rfl;have y1:=Y.cell 1 _ rfl;have y2:=Y.cell 2 _ rfl;have y3:=Y.cell 3 _ rfl;have z0:=Z.cell 0 _ rfl;have z1:=Z.cell 1 _ rfl;have z2:=Z.cell 2 _ rfl;have z3:=Z.cell 3 _ rfl;have f0:=Z.frozen 0;have f1:=Z.frozen 1;have f2:=Z.frozen 2;have f3:=Z.frozen 3;have HB:=Ai1 Z.old;clear Y Z
     go_wp2
     exact Ai6 (v:=.tuple #[.agg #[.int .i64 a,.int .i64 b,.int .i64 c,.int .i64 d],.bool true]) (by simp[results,Tryz.f127,go_sem,z0,z1,z2,z3]) rfl ⟨rfl,A1p HB.out (b:=w.heap.size+1) (by omega) _ _ _ _⟩
theorem Eh (a b c d:Int)(w:World):Calls Vp.prog 103 #[.agg #[.int .i64 a,.int .i64 b,.int .i64 c,.int .i64 d]] w fun e w'=>e=.returned (.bool (Bg a b c d))/\Below w.heap.size w w':=by
 have HD:=Ai1 (Ta a b c d);obtain⟨p,q,r,s,t,hx,-,hc⟩:=Hj ⟨a,b,c,d⟩
 have ht:Bg a b c d=t:=by
  rcases hc with⟨rfl,e⟩ |⟨rfl,e⟩
  ·unfold Fg at hx
   split at hx
   ·rename_i h;exact h
   ·injection hx with h;injection h with h;simp at h
  ·exact e
 rw[hx]at HD;rw[ht];clear hx hc ht;have X:=A8.new w #[.int .i64 a,.int .i64 b,.int .i64 c,.int .i64 d] 93;have x0:=X.cell 0 _ rfl;have x1:=X.cell 1 _ rfl;have x2:=X.cell 2 _ rfl;have x3:=X.cell 3 _ rfl
 go_enter Vp.func103,Tryz.ntmps103
 go_wp2_with fail
 refine(F9 a b c d _).mono ?_
 rintro e w1 ⟨rfl,hb⟩;replace X:=X.step hb;clear hb x0 x1 x2 x3
 go_wp2_with fail
 refine(HD.out _).mono ?_
 rintro e w2 ⟨rfl,hb⟩;replace X:=X.step hb;have HB:=Ai1 X.old;clear X hb
 go_wp2
 go_ret
 exact⟨rfl,HB.out.alloc HB.out.size _⟩
theorem V8 (a b c d:Int)(hv:Bg a b c d=true)(w:World):Calls Vp.prog 104 #[.agg #[.int .i64 a,.int .i64 b,.int .i64 c,.int .i64 d]] w fun e w'=>e=.returned (.agg #[.int .i64 (Bx.coarse ⟨a,b,c,d⟩).a,.int .i64 (Bx.coarse ⟨a,b,c,d⟩).b,.int .i64 (Bx.coarse ⟨a,b,c,d⟩).c,.int .i64 (Bx.coarse ⟨a,b,c,d⟩).d])/\Below w.heap.size w w':=by
 obtain⟨X,Z⟩:=A28 w #[.int .i64 a,.int .i64 b,.int .i64 c,.int .i64 d] 93 #[.int .i64 0,.int .i64 0,.int .i64 0,.int .i64 0] 158;obtain⟨b1,b2,b3,b4,b5,b6⟩:=Bx.bd (x:=⟨a,b,c,d⟩) hv;dsimp only at b1 b2 b3 b4 b5 b6;have HQ:=Ai1 (Nz a b 12 (by decide) (by omega) (by omega) (by omega) (by omega))
 have HR:=Ai1 (Nz c d 12 (by decide) (by omega) (by omega) (by omega) (by omega))
 have hk:((2^12:Nat):Int)=4096:=rfl;have hk2:((12:Nat):Int)=12:=rfl;rw[hk,hk2]at HQ HR
 show Calls Vp.prog 104 #[.agg #[.int .i64 a,.int .i64 b,.int .i64 c,.int .i64 d]] w fun e w'=>e=.returned (.agg #[.int .i64 (a / 4096),.int .i64 (N0 b 4096),.int .i64 (c / 4096),.int .i64 (N0 d 4096)])/\Below w.heap.size w w'
 clear b1 b2 b3 b4 b5 b6 hv hk hk2;generalize a / 4096=q1 at *;generalize N0 b 4096=q2 at *;generalize c / 4096=q3 at *;generalize N0 d 4096=q4 at *;have x0:=X.cell 0 _ rfl;have x1:=X.cell 1 _ rfl;have x2:=X.cell 2 _ rfl;have x3:=X.cell 3 _ rfl
 go_enter Vp.func104,Tryz.ntmps104
 go_wp2_with fail
 refine(F9 a b c d _).mono ?_
 rintro e w1 ⟨rfl,hb⟩;clear x0 x1 x2 x3;replace X:=X.step hb;replace Z:=Z.step hb;clear hb;have Y:=(A8.new w1 #[.int .i64 a,.int .i64 b,.int .i64 c,.int .i64 d] 158).up X.old;have hsz:=X.old.size;have hlt:=X.lt;have hlz:=Z.lt;replace Z:=Z.alloc (.cells #[.int .i64 a,.int .i64 b,.int .i64 c,.int .i64 d] 158);clear X
 go_upto_region 2 with fail
 generalize w1.heap.size=yb at *;generalize w1.alloc (.cells #[.int .i64 a,.int .i64 b,.int .i64 c,.int .i64 d] 158)=W at *;have HY:Hid (∀W',Below W.drew.heap.size W.drew W'->A8 w yb #[.int .i64 a,.int .i64 b,.int .i64 c,.int .i64 d] 158 W'):=fun W' h=>(Y.step ((Aq.refl _).drew.below _)).step h
 have HZ:Hid (∀W',Below W.drew.heap.size W.drew W'->A8 w (w.heap.size+1) #[.int .i64 0,.int .i64 0,.int .i64 0,.int .i64 0] 158 W'):=fun W' h=>(Z.step ((Aq.refl _).drew.below _)).step h
 have HYs:=Ai1 (fun W' h u0 u1 u2 u3=>(HY.out W' h).G7 (b':=w.heap.size+1) (by omega) (by omega) u0 u1 u2 u3)
 have hbk:=Aik W.drew.heap.size W.drew;clear Y Z
 go_region_held3 (fun w'=>w'.cell? ⟨yb,0,none⟩=some (.int .i64 a)/\w'.cell? ⟨yb,1,none⟩=some (.int .i64 b)/\w'.cell? ⟨yb,2,none⟩=some (.int .i64 c)/\w'.cell? ⟨yb,3,none⟩=some (.int .i64 d)) (((first|dsimp only|skip);first |(with_reducible exact⟨(HY.out _ hbk).cell 0 _ rfl,(HY.out _ hbk).cell 1 _ rfl,(HY.out _ hbk).cell 2 _ rfl,(HY.out _ hbk).cell 3 _ rfl⟩) |(with_reducible exact⟨(HYs.out _ hbk _ _ _ _).cell 0 _ rfl,(HYs.out _ hbk _ _ _ _).cell 1 _ rfl,(HYs.out _ hbk _ _ _ _).cell 2 _ rfl,(HYs.out _ hbk _ _ _ _).cell 3 _ rfl⟩))) (first
  |(go_at_call 128;(first |(with_reducible refine(HQ.out _).mono ?_) |(with_reducible refine(HR.out _).mono ?_));rintro e w' ⟨rfl,hb⟩;replace hbk:=hbk.trans (hb.mono hbk.size);clear hb;have z0:=(HZ.out _ hbk).cell 0 _ rfl;have z1:=(HZ.out _ hbk).cell 1 _ rfl;have z2:=(HZ.out _ hbk).cell 2 _ rfl;have z3:=(HZ.out _ hbk).cell 3 _ rfl;have g0:=(HZ.out _ hbk).frozen 0;have g1:=(HZ.out _ hbk).frozen 1;have g2:=(HZ.out _ hbk).frozen 2;have g3:=(HZ.out _ hbk).frozen 3))
 all_goals
  go_wp2
  exact Ai6 (v:=.agg #[.int .i64 q1,.int .i64 q2,.int .i64 q3,.int .i64 q4]) (by simp[results,Tryz.f104,go_sem,z0,z1,z2,z3]) rfl ⟨rfl,A1p (HZ.out _ hbk).old (b:=w.heap.size+1) (by omega) _ _ _ _⟩
end
section
open Go.RowKit
theorem A3o (x y:Int)(w:World):(Instr.field 156 (.agg #[.int .i64 x,.int .i64 y]) 1).run Vp.prog w=.ok (.int .i64 y) w:=by kernel_rfl
theorem A0j (a b c d:Int)(hv:Bg a b c d=true)(w:World):Calls Vp.prog 78 #[.agg #[.int .i64 a,.int .i64 b,.int .i64 c,.int .i64 d]] w fun e w'=>e=.returned (.tuple #[.int .i64 (Ki ⟨a,b,c,d⟩),.bool true])/\Below w.heap.size w w':=by
 have X:=A8.new w #[.int .i64 a,.int .i64 b,.int .i64 c,.int .i64 d] 93;obtain⟨b1,b2,b3,b4⟩:=Lc (x:=⟨a,b,c,d⟩) hv;have HV:=Ai1 (Eh a b c d);rw[hv]at HV;have HC:=Ai1 (V8 a b c d hv);have HX:Hid (Ki ⟨a,b,c,d⟩=Bs ((Bx.coarse ⟨a,b,c,d⟩).a+4096) ((Bx.coarse ⟨a,b,c,d⟩).b+4096)+Bs (Bx.coarse ⟨a,b,c,d⟩).c (Bx.coarse ⟨a,b,c,d⟩).d-1048576):=rfl;generalize Ki ⟨a,b,c,d⟩=R at *;generalize (Bx.coarse ⟨a,b,c,d⟩).a=p at *;generalize (Bx.coarse ⟨a,b,c,d⟩).b=q at *;generalize (Bx.coarse ⟨a,b,c,d⟩).c=r at *;generalize (Bx.coarse ⟨a,b,c,d⟩).d=s at *;have l3:=Dd (l:=p+4096) (h:=q+4096) (k:=40000) (by omega) (by omega) (by omega) (by omega)
 have l4:=Dd (l:=r) (h:=s) (k:=40000) (by omega) (by omega) (by omega) (by omega)
 have HP:=Ai1 (Hc p q 4096 4096 (by omega) (by omega) (by omega) (by omega) (by omega) (by omega) (by omega) (by omega))
 have HN:=Ai1 (Wo (p+4096) (q+4096) r s (by omega) (by omega) (by omega) (by omega) (by omega) (by omega) (by omega) (by omega))
 have h:=HX.out;have hn:nHi ⟨p+4096,q+4096,r,s⟩=Bs (p+4096) (q+4096)+Bs r s:=rfl;rw[hn]at HN;generalize p+4096=P at *;generalize q+4096=Q at *;generalize nLo ⟨P,Q,r,s⟩=lo at *;generalize Bs P Q=s2 at *;generalize Bs r s=s4 at *;have k1:wrap64 (s2+s4-1048576)=R:=by rw[h];exact Fw (by omega) (by omega)
 generalize s2+s4=S at *;clear HX h hn l3 l4 b1 b2 b3 b4 hv;have x0:=X.cell 0 _ rfl;have x1:=X.cell 1 _ rfl;have x2:=X.cell 2 _ rfl;have x3:=X.cell 3 _ rfl
 go_enter Vp.func78,Tryz.ntmps78
 go_wp2_with fail
 refine(HV.out _).mono ?_
 rintro e w1 ⟨rfl,hb⟩;clear x0 x1 x2 x3;replace X:=X.step hb;clear hb;have x0:=X.cell 0 _ rfl;have x1:=X.cell 1 _ rfl;have x2:=X.cell 2 _ rfl;have x3:=X.cell 3 _ rfl
 go_wp2_with fail
 refine(HC.out _).mono ?_
 rintro e w2 ⟨rfl,hb⟩;clear x0 x1 x2 x3;have hX:=X.old.trans (hb.mono X.old.size);have Y:=(A8.new w2 #[.int .i64 p,.int .i64 q,.int .i64 r,.int .i64 s] 158).up hX;have hyl:w.heap.size<=w2.heap.size:=hX.size;clear hb X hX;have y0:=Y.cell 0 _ rfl;have y1:=Y.cell 1 _ rfl;have y2:=Y.cell 2 _ rfl;have y3:=Y.cell 3 _ rfl
 go_wp2_with fail
 refine(HP.out _).mono ?_
 rintro e w3 ⟨rfl,hb⟩;clear y0 y1 y2 y3;replace Y:=Y.step hb;clear hb;have y0:=Y.cell 0 _ rfl;have y1:=Y.cell 1 _ rfl;have y2:=Y.cell 2 _ rfl;have y3:=Y.cell 3 _ rfl;have f0:=Y.frozen 0;have f1:=Y.frozen 1;have f2:=Y.frozen 2;have f3:=Y.frozen 3;have HYs:Hid (A8 w w2.heap.size #[.int .i64 P,.int .i64 Q,.int .i64 r,.int .i64 s] 158 ((w3.setCell ⟨w2.heap.size,0,none⟩ (.int .i64 P)).setCell ⟨w2.heap.size,1,none⟩ (.int .i64 Q))):=(Y.set hyl 0 (.int .i64 P)).set hyl 1 (.int .i64 Q);have z0:=HYs.out.cell 0 _ rfl;have z1:=HYs.out.cell 1 _ rfl;have z2:=HYs.out.cell 2 _ rfl;have z3:=HYs.out.cell 3 _ rfl;clear Y
 go_wp2_with fail
 refine(HN.out _).mono ?_
 rintro e w4 ⟨rfl,hb⟩;have HB:=Ai1 (HYs.out.step hb).old;clear hb;have FH:=A3o lo S
 go_wp2
 exact Ai6 (v:=.tuple #[.int .i64 R,.bool true]) (by simp[results,Tryz.f78,go_sem,k1]) rfl ⟨rfl,HB.out⟩
theorem A0h (a b c d:Int)(hv:Bg a b c d=true)(w:World):Calls Vp.prog 77 #[.agg #[.int .i64 a,.int .i64 b,.int .i64 c,.int .i64 d]] w fun e w'=>e=.returned (.tuple #[.int .i64 (Ke ⟨a,b,c,d⟩),.bool true])/\Below w.heap.size w w':=by
 have X:=A8.new w #[.int .i64 a,.int .i64 b,.int .i64 c,.int .i64 d] 93;obtain⟨b1,b2,b3,b4⟩:=Lc (x:=⟨a,b,c,d⟩) hv;have HV:=Ai1 (Eh a b c d);rw[hv]at HV;have HC:=Ai1 (V8 a b c d hv);have HX:Hid (Ke ⟨a,b,c,d⟩=(if Mb ⟨a,b,c,d⟩<0 then Ct ((Bx.coarse ⟨a,b,c,d⟩).a-1024) ((Bx.coarse ⟨a,b,c,d⟩).b-1024)+Ct (Bx.coarse ⟨a,b,c,d⟩).c (Bx.coarse ⟨a,b,c,d⟩).d else Bs ((Bx.coarse ⟨a,b,c,d⟩).a-1024) ((Bx.coarse ⟨a,b,c,d⟩).b-1024)+Bs (Bx.coarse ⟨a,b,c,d⟩).c (Bx.coarse ⟨a,b,c,d⟩).d)*Mb ⟨a,b,c,d⟩-Ct (Bx.coarse ⟨a,b,c,d⟩).c (Bx.coarse ⟨a,b,c,d⟩).d*4194304):=rfl
 have HG:Hid (Mb ⟨a,b,c,d⟩=Bs ((Bx.coarse ⟨a,b,c,d⟩).a-1024) ((Bx.coarse ⟨a,b,c,d⟩).b-1024)+Bs (Bx.coarse ⟨a,b,c,d⟩).c (Bx.coarse ⟨a,b,c,d⟩).d +((Bx.coarse ⟨a,b,c,d⟩).b-1024)*4096):=rfl;generalize Ke ⟨a,b,c,d⟩=RR at *;generalize Mb ⟨a,b,c,d⟩=G at *;generalize (Bx.coarse ⟨a,b,c,d⟩).a=p at *;generalize (Bx.coarse ⟨a,b,c,d⟩).b=q at *;generalize (Bx.coarse ⟨a,b,c,d⟩).c=r at *;generalize (Bx.coarse ⟨a,b,c,d⟩).d=s at *;have l1:=Ew (l:=p-1024) (h:=q-1024) (k:=33792) (by omega) (by omega)
 have l2:=Ew (l:=r) (h:=s) (k:=33792) (by omega) (by omega)
 have l3:=Dd (l:=p-1024) (h:=q-1024) (k:=33792) (by omega) (by omega) (by omega) (by omega)
 have l4:=Dd (l:=r) (h:=s) (k:=33792) (by omega) (by omega) (by omega) (by omega)
 have HL:=Ai1 (Wn p q 1024 1024 (by omega) (by omega) (by omega) (by omega) (by omega) (by omega) (by omega) (by omega))
 have HQ:=Ai1 (Fb (p-1024) (q-1024) (by omega) (by omega) (by omega) (by omega))
 have HR:=Ai1 (Fb r s (by omega) (by omega) (by omega) (by omega))
 have h:=HX.out;have g:=HG.out;obtain⟨P,eP⟩:∃x,p-1024=x:=⟨_,rfl⟩;obtain⟨Q,eQ⟩:∃x,q-1024=x:=⟨_,rfl⟩;have bQ:-40000<=Q/\Q<=40000:=by omega
 rw[eP,eQ]at h g l3 l1 HL HQ;generalize Bs P Q=s2 at *;generalize Bs r s=s4 at *;generalize Ct P Q=s1 at *;generalize Ct r s=s3 at *;have HP:=Ai1 (Hc s1 s2 s3 s4 (by omega) (by omega) (by omega) (by omega) (by omega) (by omega) (by omega) (by omega))
 obtain⟨S,e3⟩:∃x,s2+s4=x:=⟨_,rfl⟩;obtain⟨S0,e4⟩:∃x,s1+s3=x:=⟨_,rfl⟩;rw[e3,e4]at HP;obtain⟨K,k5,e5⟩:∃x,wrap64 (Q*4096)=x/\Q*4096=x:=⟨_,Fw (by omega) (by omega),rfl⟩
 rw[e3,e4]at h;rw[e3,e5]at g;have k6:wrap64 (S+K)=G:=by rw[g];exact Fw (by omega) (by omega)
 have bS:0<=S/\S<=2283798528:=by omega
 have bS0:0<=S0/\S0<=2283798528:=by omega
 have bG:-2283798528<=G/\G<=2500000000:=by omega
 have ym:∀x:Int,0<=x->x<=2283798528->-5800000000000000000<=x*G/\x*G<=5800000000000000000:=fun x h0 h1=>by
  rcases Ale 0 G with hg|hg
  ·have:=Ak0 h0 hg;have:=Am6 h1 bG.2 hg (by omega)
   omega
  ·have h2:=Ak0 h0 (show 0<=-G by omega)
   have h3:=Am6 h1 (show -G<=2283798528 by omega) (by omega) (by omega)
   rw[Int.mul_neg]at h2 h3
   omega
 have y1:=ym S bS.1 bS.2;have y2:=ym S0 bS0.1 bS0.2;obtain⟨T,k8,e8⟩:∃x,wrap64 (s3*4194304)=x/\s3*4194304=x:=⟨_,Fw (by omega) (by omega),rfl⟩
 rw[e8]at h;rw[Ajq S]at y1;rw[Ajq S0]at y2;obtain⟨M,k9,e9⟩:∃x,wrap64 (G*S)=x/\G*S=x:=⟨_,Fw (by omega) (by omega),rfl⟩
 obtain⟨M0,k10,e10⟩:∃x,wrap64 (G*S0)=x/\G*S0=x:=⟨_,Fw (by omega) (by omega),rfl⟩
 have k11:¬G<0->wrap64 (M-T)=RR:=fun hg=>by rw[h,Aid hg,Ajq,e9];exact Fw (by omega) (by omega)
 have k12:G<0->wrap64 (M0-T)=RR:=fun hg=>by rw[h,Aij hg,Ajq,e10];exact Fw (by omega) (by omega)
 have HW11:=Ai1 k11;have HW12:=Ai1 k12;clear HX HG h g l1 l2 l3 l4 eP eQ e3 e4 e5 e8 e9 e10 b1 b2 b3 b4 y1 y2 ym bS bS0 bG k11 k12 bQ hv;have x0:=X.cell 0 _ rfl;have x1:=X.cell 1 _ rfl;have x2:=X.cell 2 _ rfl;have x3:=X.cell 3 _ rfl
 go_enter Vp.func77,Tryz.ntmps77
 go_wp2_with fail
 refine(HV.out _).mono ?_
 rintro e w1 ⟨rfl,hb⟩;clear x0 x1 x2 x3;replace X:=X.step hb;clear hb;have x0:=X.cell 0 _ rfl;have x1:=X.cell 1 _ rfl;have x2:=X.cell 2 _ rfl;have x3:=X.cell 3 _ rfl
 go_wp2_with fail
 refine(HC.out _).mono ?_
 rintro e w2 ⟨rfl,hb⟩;clear x0 x1 x2 x3;have hX:=X.old.trans (hb.mono X.old.size);have Y:=((A8.new w2 #[.int .i64 p,.int .i64 q,.int .i64 r,.int .i64 s] 158).up hX).alloc (.cells #[.int .i64 1024,.int .i64 1024] 156);have Q5:=(A8.new (w2.alloc (.cells #[.int .i64 p,.int .i64 q,.int .i64 r,.int .i64 s] 158)) #[.int .i64 1024,.int .i64 1024] 156).up (w0:=w) (hX.alloc hX.size _);have hyl:w.heap.size<=w2.heap.size:=hX.size;clear hb X hX;have y0:=Y.cell 0 _ rfl;have y1:=Y.cell 1 _ rfl;have y2:=Y.cell 2 _ rfl;have y3:=Y.cell 3 _ rfl;have q0:=Q5.cell 0 _ rfl;have q1:=Q5.cell 1 _ rfl
 go_wp2_with fail
 refine(HL.out _).mono ?_
 rintro e w3 ⟨rfl,hb⟩;clear y0 y1 y2 y3 q0 q1 Q5;replace Y:=Y.step hb;clear hb;have U:=(A8.new w3 #[.int .i64 P,.int .i64 Q] 156).up Y.old;have hul:w.heap.size<=w3.heap.size:=Y.old.size;replace Y:=Y.alloc (.cells #[.int .i64 P,.int .i64 Q] 156);have y0:=Y.cell 0 _ rfl;have y1:=Y.cell 1 _ rfl;have y2:=Y.cell 2 _ rfl;have y3:=Y.cell 3 _ rfl
 go_wp2_with fail
 refine(HR.out _).mono ?_
 rintro e w4 ⟨rfl,hb⟩;clear y0 y1 y2 y3 Y;replace U:=U.step hb;clear hb;have V:=(A8.new w4 #[.int .i64 s3,.int .i64 s4] 156).up U.old;have hvl:w.heap.size<=w4.heap.size:=U.old.size;have huv:w3.heap.size<w4.heap.size:=U.lt;replace U:=U.alloc (.cells #[.int .i64 s3,.int .i64 s4] 156)
 go_upto_region 7 with fail
 generalize w3.heap.size=ub at *;generalize w4.heap.size=vb at *;generalize w4.alloc (.cells #[.int .i64 s3,.int .i64 s4] 156)=W at *;have hub:ub<W.drew.heap.size:=U.lt;have hvb:vb<W.drew.heap.size:=V.lt;have HU:Hid (∀W',Below W.drew.heap.size W.drew W'->A8 w ub #[.int .i64 P,.int .i64 Q] 156 W'):=fun W' h=>(U.step ((Aq.refl _).drew.below _)).step h
 have HVV:Hid (∀W',Below W.drew.heap.size W.drew W'->A8 w vb #[.int .i64 s3,.int .i64 s4] 156 W'):=fun W' h=>(V.step ((Aq.refl _).drew.below _)).step h
 have HW:Hid (∀W',Below W.drew.heap.size W.drew W'->Below w.heap.size w W'):=fun W' h=>(HU.out W' h).old
 have hbk:=Aik W.drew.heap.size W.drew;have hzl:w.heap.size<=W.drew.heap.size:=U.old.size;have HUd:Hid (∀o,A8 w ub #[.int .i64 P,.int .i64 Q] 156 (W.alloc o).drew):=fun o=>(U.alloc o).step ((Aq.refl _).drew.below _)
 have HVd:Hid (∀o,A8 w vb #[.int .i64 s3,.int .i64 s4] 156 (W.alloc o).drew):=fun o=>(V.alloc o).step ((Aq.refl _).drew.below _)
 have H0:Hid (∀o,Below W.drew.heap.size W.drew (W.alloc o).drew):=fun o=>(Aik _ W.drew).alloc (Ai3 _) o
 have HWW:Hid (Below w.heap.size w W):=U.old;clear U V
 go_cut [8]from 24 to 27 (fun t wx=>∃eb:Nat,t=.pointer (some ⟨eb,0,none⟩)/\Hid (A8 w eb #[.int .i64 S0,.int .i64 S] 156 wx/\A8 w ub #[.int .i64 P,.int .i64 Q] 156 wx/\A8 w vb #[.int .i64 s3,.int .i64 s4] 156 wx))
 case first =>
  go_region_held3 (fun w'=>w'.cell? ⟨ub,0,none⟩=some (.int .i64 P)/\w'.cell? ⟨ub,1,none⟩=some (.int .i64 Q)/\w'.cell? ⟨vb,0,none⟩=some (.int .i64 s3)/\w'.cell? ⟨vb,1,none⟩=some (.int .i64 s4)) (((first|dsimp only|skip);first |(with_reducible exact⟨(HU.out _ hbk).cell 0 _ rfl,(HU.out _ hbk).cell 1 _ rfl,(HVV.out _ hbk).cell 0 _ rfl,(HVV.out _ hbk).cell 1 _ rfl⟩) |(with_reducible exact⟨((HU.out _ hbk).alloc _).cell 0 _ rfl,((HU.out _ hbk).alloc _).cell 1 _ rfl,((HVV.out _ hbk).alloc _).cell 0 _ rfl,((HVV.out _ hbk).alloc _).cell 1 _ rfl⟩) |(with_reducible exact⟨(HUd.out _).cell 0 _ rfl,(HUd.out _).cell 1 _ rfl,(HVd.out _).cell 0 _ rfl,(HVd.out _).cell 1 _ rfl⟩) |(with_reducible exact⟨((HU.out _ hbk).Ej hrl hne _ _).cell 0 _ rfl,((HU.out _ hbk).Ej hrl hne _ _).cell 1 _ rfl,((HVV.out _ hbk).Ej hrl hne2 _ _).cell 0 _ rfl,((HVV.out _ hbk).Ej hrl hne2 _ _).cell 1 _ rfl⟩))) (first
   |(go_at_call 106;(with_reducible refine(HQ.out _).mono ?_);rintro e w' ⟨rfl,hb⟩;first |(replace hbk:=hbk.trans (hb.mono hbk.size);first |(replace R:=R.step hb;have r0:=R.cell 0 _ rfl;have r1:=R.cell 1 _ rfl;have f0:=R.frozen 0;have f1:=R.frozen 1)|skip) |(have R:=((A8.new _ #[.int .i64 0,.int .i64 0] 156).step hb).up (HW.out _ hbk);have hne:ub≠_:=Aji (Ai9 hub hbk.size);have hne2:vb≠_:=Aji (Ai9 hvb hbk.size);have hrl:=Ai5 hzl hbk.size;replace hbk:=(hbk.alloc hbk.size _).trans (hb.mono (hbk.alloc hbk.size _).size);have r0:=R.cell 0 _ rfl;have r1:=R.cell 1 _ rfl;have f0:=R.frozen 0;have f1:=R.frozen 1) |(have R:=(((A8.new W #[.int .i64 0,.int .i64 0] 156).step ((Aq.refl _).drew.below _)).step hb).up HWW.out;have hne:ub≠W.heap.size:=Aji hub;have hne2:vb≠W.heap.size:=Aji hvb;have hrl:w.heap.size<=W.heap.size:=hzl;replace hbk:=(H0.out _).trans (hb.mono (H0.out _).size);have r0:=R.cell 0 _ rfl;have r1:=R.cell 1 _ rfl;have f0:=R.frozen 0;have f1:=R.frozen 1);clear hb)
   |(go_at_call 107;(with_reducible refine(HP.out _).mono ?_);rintro e w' ⟨rfl,hb⟩;first |(replace hbk:=hbk.trans (hb.mono hbk.size);first |(replace R:=R.step hb;have r0:=R.cell 0 _ rfl;have r1:=R.cell 1 _ rfl;have f0:=R.frozen 0;have f1:=R.frozen 1)|skip) |(have R:=((A8.new _ #[.int .i64 0,.int .i64 0] 156).step hb).up (HW.out _ hbk);have hne:ub≠_:=Aji (Ai9 hub hbk.size);have hne2:vb≠_:=Aji (Ai9 hvb hbk.size);have hrl:=Ai5 hzl hbk.size;replace hbk:=(hbk.alloc hbk.size _).trans (hb.mono (hbk.alloc hbk.size _).size);have r0:=R.cell 0 _ rfl;have r1:=R.cell 1 _ rfl;have f0:=R.frozen 0;have f1:=R.frozen 1) |(have R:=(((A8.new W #[.int .i64 0,.int .i64 0] 156).step ((Aq.refl _).drew.below _)).step hb).up HWW.out;have hne:ub≠W.heap.size:=Aji hub;have hne2:vb≠W.heap.size:=Aji hvb;have hrl:w.heap.size<=W.heap.size:=hzl;replace hbk:=(H0.out _).trans (hb.mono (H0.out _).size);have r0:=R.cell 0 _ rfl;have r1:=R.cell 1 _ rfl;have f0:=R.frozen 0;have f1:=R.frozen 1);clear hb))
  all_goals
   go_wp2_with fail
   go_meet
   first
    | exact⟨_,rfl,(A8.new _ _ _).up (HW.out _ hbk),(HU.out _ hbk).alloc _,(HVV.out _ hbk).alloc _⟩
    | exact⟨_,rfl,(R.set (by omega) 0 (.int .i64 S0)).set (by omega) 1 (.int .i64 S),(HU.out _ hbk).Ej (by omega) hne _ _,(HVV.out _ hbk).Ej (by omega) hne2 _ _⟩
 case rest =>
  obtain⟨eb,rfl,HCC⟩:=hcut;clear HU HVV HW hbk HUd HVd H0 HWW hub hvb hzl HQ HR HL HP;obtain⟨E,U,V⟩:=HCC.out;clear HCC;have e0:=E.cell 0 _ rfl;have e1:=E.cell 1 _ rfl;have u1:=U.cell 1 _ rfl;have v0:=V.cell 0 _ rfl;have HB:=Ai1 E.old;clear E U V
  by_cases hg:G<0
  ·have k13:=HW12.out (by omega)
   go_wp2
   exact Ai6 (v:=.tuple #[.int .i64 RR,.bool true]) (by simp[results,Tryz.f77,go_sem,k5,k6,k8,k9,k10,k13]) rfl ⟨rfl,HB.out⟩
  ·have k13:=HW11.out (by omega)
   go_wp2
   exact Ai6 (v:=.tuple #[.int .i64 RR,.bool true]) (by simp[results,Tryz.f77,go_sem,k5,k6,k8,k9,k10,k13]) rfl ⟨rfl,HB.out⟩
end
end Go.Proofs.YtlfleicchbgcmaaGreat
