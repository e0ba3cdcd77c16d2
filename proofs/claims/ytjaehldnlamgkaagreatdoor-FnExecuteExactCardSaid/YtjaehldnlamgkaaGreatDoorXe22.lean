import Derived.Test.YtjaehldnlamgkaaGreatDoorXe21
import Derived.RangeFuncCalls
import Derived.RangeFuncLeaves
import Derived.RangeFuncBox
import Derived.OwnWalkIn
import Derived.TacticsInMore
import Derived.LoopNIn
import Derived.LoopIn
import Derived.WalkMore
import Derived.Test.YtjaehldnlamgkaaGreatDoorXe0
import Derived.Test.YtjaehldnlamgkaaGreatDoorXeK
set_option linter.all false
set_option maxHeartbeats 16000000
set_option maxRecDepth 100000
namespace Go.Proofs.YtjaehldnlamgkaaGreatDoor
section
open Go.RowKit Flo
def stS (c d:Nat)(p:Nat×Nat):Nat×Nat :=
 (C6 .add .f32 (Ax (Hp (A5 p.1) (A5 p.2))) c,C6 .add .f32 (Ax (Ho (A5 p.1) (A5 p.2))) d)
def stW (c d:Nat)(p:Nat×Nat):Nat×Nat:=(C6 .add .f64 (Hp p.1 p.2) c,C6 .add .f64 (Ho p.1 p.2) d)
def E8 (c d:Nat):Nat->Nat×Nat
 | 0=>(0,0)
 | k+1=>stS c d (E8 c d k)
def Lc (c d:Nat):Nat->Nat×Nat
 | 0=>(0,0)
 | k+1=>stW c d (Lc c d k)
def Nj (c d k:Nat):Bool:=Py (Bj (A5 (E8 c d k).1) (A5 (E8 c d k).2))
def okW (c d k:Nat):Bool:=Py (Bj (Lc c d k).1 (Lc c d k).2)
theorem R8 (c d k:Nat):(E8 c d k).1<4294967296 /\(E8 c d k).2<4294967296:=by
 cases k with
 | zero=>exact⟨show 0<4294967296 by omega,show 0<4294967296 by omega⟩
 | succ k=>exact⟨by rw[<-A1r];exact A4g,by rw[<-A1r];exact A4g⟩
def G3 (ok:Nat->Bool)(n:Int)(r:Int):Prop :=
 (∃k:Nat,r=k /\(k:Int)<=n/\ok k=false/\∀j,j<k->ok j=true) \/(r=-1/\∀j:Nat,(j:Int)<=n->ok j=true)
theorem G3.eq {ok:Nat->Bool}{n r s:Int}(h:G3 ok n r)(g:G3 ok n s):r=s:=by
 rcases h with⟨k,rfl,hk,h1,h2⟩ |⟨rfl,h1⟩
 ·rcases g with⟨l,rfl,hl,g1,g2⟩ |⟨rfl,g1⟩
  ·rcases Aqi k l with h|h|h
   ·rw[g2 k h]at h1;cases h1
   ·rw[h]
   ·rw[h2 l h]at g1;cases g1
  ·rw[g1 k hk]at h1;cases h1
 ·rcases g with⟨l,rfl,hl,g1,g2⟩ |⟨rfl,g1⟩
  ·rw[h1 l hl]at g1;cases g1
  ·rfl
theorem V7 (x y:Nat)(w:World):Calls Vp.prog 197 #[.complex .f64 x y] w fun e w'=>(∃a b,e=.returned (.complex .f64 a b)/\a<18446744073709551616/\b<18446744073709551616/\Al .f64 (Hp x y) a/\Al .f64 (Ho x y) b)/\Bp w w':=by
 obtain⟨x1,w1,h1,_,d1,a1⟩:=Flo.Be (P:=Vp.prog) .mul (by simp) 57 .f64 x x w
 obtain⟨x2,w2,h2,_,d2,a2⟩:=Flo.Be (P:=Vp.prog) .mul (by simp) 57 .f64 y y w1
 obtain⟨a,w3,h3,ha,d3,a3⟩:=Flo.Be (P:=Vp.prog) .sub (by simp) 57 .f64 x1 x2 w2
 obtain⟨x4,w4,h4,_,d4,a4⟩:=Flo.Be (P:=Vp.prog) .mul (by simp) 57 .f64 x y w3
 obtain⟨b,w5,h5,hb,d5,a5⟩:=Flo.Be (P:=Vp.prog) .mul (by simp) 57 .f64 4611686018427387904 x4 w4
 have HD:=Aly ((((d1.trans d2).trans d3).trans d4).trans d5);have HA:Hid (Al .f64 (Hp x y) a):=by rw[show Hp x y=C6 .sub .f64 x1 x2 from D5 a1 a2];exact a3
 have HB:Hid (Al .f64 (Ho x y) b):=by rw[show Ho x y=C6 .mul .f64 4611686018427387904 x4 from D5 (Al.refl _ _) a4];exact a5
 clear d1 d2 d3 d4 d5 a1 a2 a3 a4 a5
 go_enter Vp.func197,Tryz.ntmps197
 go_wp2
 go_ret
 exact⟨⟨a,b,rfl,ha,hb,HA.out,HB.out⟩,HD.out⟩
theorem Q6 (x y:Nat)(w:World):Calls Vp.prog 95 #[.complex .f64 x y] w fun e w'=>(∃a,e=.returned (.float .f64 a)/\a<18446744073709551616/\Al .f64 (Bj x y) a)/\Bp w w':=by
 obtain⟨x1,w1,h1,_,d1,a1⟩:=Flo.Be (P:=Vp.prog) .mul (by simp) 57 .f64 x x w
 obtain⟨x2,w2,h2,_,d2,a2⟩:=Flo.Be (P:=Vp.prog) .mul (by simp) 57 .f64 y y w1
 obtain⟨a,w3,h3,ha,d3,a3⟩:=Flo.Be (P:=Vp.prog) .add (by simp) 57 .f64 x1 x2 w2
 have HD:=Aly ((d1.trans d2).trans d3);have HA:Hid (Al .f64 (Bj x y) a):=by rw[show Bj x y=C6 .add .f64 x1 x2 from D5 a1 a2];exact a3
 clear d1 d2 d3 a1 a2 a3
 go_enter Vp.func95,Tryz.ntmps95
 go_wp2
 go_ret
 exact⟨⟨a,rfl,ha,HA.out⟩,HD.out⟩
theorem Lp (x y:Nat)(w:World):Calls Vp.prog 79 #[.complex .f64 x y] w fun e w'=>(∃a b,e=.returned (.complex .f64 a b)/\a<18446744073709551616/\b<18446744073709551616/\Al .f64 (Hp x y) a/\Al .f64 (Ho x y) b)/\Bp w w':=by
 obtain⟨x1,w1,h1,_,d1,a1⟩:=Flo.Be (P:=Vp.prog) .mul (by simp) 57 .f64 x x w
 obtain⟨x2,w2,h2,_,d2,a2⟩:=Flo.Be (P:=Vp.prog) .mul (by simp) 57 .f64 y y w1
 obtain⟨a,w3,h3,ha,d3,a3⟩:=Flo.Be (P:=Vp.prog) .sub (by simp) 57 .f64 x1 x2 w2
 obtain⟨x4,w4,h4,_,d4,a4⟩:=Flo.Be (P:=Vp.prog) .mul (by simp) 57 .f64 x y w3
 obtain⟨b,w5,h5,hb,d5,a5⟩:=Flo.Be (P:=Vp.prog) .mul (by simp) 57 .f64 4611686018427387904 x4 w4
 have HD:=Aly ((((d1.trans d2).trans d3).trans d4).trans d5);have HA:Hid (Al .f64 (Hp x y) a):=by rw[show Hp x y=C6 .sub .f64 x1 x2 from D5 a1 a2];exact a3
 have HB:Hid (Al .f64 (Ho x y) b):=by rw[show Ho x y=C6 .mul .f64 4611686018427387904 x4 from D5 (Al.refl _ _) a4];exact a5
 clear d1 d2 d3 d4 d5 a1 a2 a3 a4 a5
 go_enter Vp.func79,Tryz.ntmps79
 go_wp2
 go_ret
 exact⟨⟨a,b,rfl,ha,hb,HA.out,HB.out⟩,HD.out⟩
theorem Pn (x y:Nat)(w:World):Calls Vp.prog 77 #[.complex .f64 x y] w fun e w'=>(∃a,e=.returned (.float .f64 a)/\a<18446744073709551616/\Al .f64 (Bj x y) a)/\Bp w w':=by
 obtain⟨x1,w1,h1,_,d1,a1⟩:=Flo.Be (P:=Vp.prog) .mul (by simp) 57 .f64 x x w
 obtain⟨x2,w2,h2,_,d2,a2⟩:=Flo.Be (P:=Vp.prog) .mul (by simp) 57 .f64 y y w1
 obtain⟨a,w3,h3,ha,d3,a3⟩:=Flo.Be (P:=Vp.prog) .add (by simp) 57 .f64 x1 x2 w2
 have HD:=Aly ((d1.trans d2).trans d3);have HA:Hid (Al .f64 (Bj x y) a):=by rw[show Bj x y=C6 .add .f64 x1 x2 from D5 a1 a2];exact a3
 clear d1 d2 d3 a1 a2 a3
 go_enter Vp.func77,Tryz.ntmps77
 go_wp2
 go_ret
 exact⟨⟨a,rfl,ha,HA.out⟩,HD.out⟩
def Aj (n:Int):Int:=max 0 (min 400 n)
theorem Gs (n:Int):0<=Aj n/\Aj n<=400:=by unfold Aj;omega
theorem Wk (n:Int)(w:World):Calls Vp.prog 135 #[.int .i64 n] w fun e w'=>e=.returned (.int .i64 (Aj n))/\w=w':=by
 go_enter Vp.func135,Tryz.ntmps135
 go_wp2
 all_goals
  go_ret
  exact⟨Hf (by unfold Aj;omega),rfl⟩
theorem A4a {x y:Nat}(h:Al .f64 x y):Py x=Py y:=by
 unfold Py;rw[show FloatKind.f64.format.order x 4616189618054758400=FloatKind.f64.format.order y 4616189618054758400 from h.order (Al.refl _ _)]
theorem Ng {x y x' y':Nat}(h:Al .f64 x x')(g:Al .f64 y y'):Bj x y=Bj x' y':=by
 unfold Bj;rw[show C6 .mul .f64 x x=C6 .mul .f64 x' x' from D5 h h,show C6 .mul .f64 y y=C6 .mul .f64 y' y' from D5 g g]
theorem Yy {x y x' y':Nat}(h:Al .f64 x x')(g:Al .f64 y y'):Hp x y=Hp x' y':=by
 unfold Hp;rw[show C6 .mul .f64 x x=C6 .mul .f64 x' x' from D5 h h,show C6 .mul .f64 y y=C6 .mul .f64 y' y' from D5 g g]
theorem Yx {x y x' y':Nat}(h:Al .f64 x x')(g:Al .f64 y y'):Ho x y=Ho x' y':=by
 unfold Ho;rw[show C6 .mul .f64 x y=C6 .mul .f64 x' y' from D5 h g]
theorem Ai9 {c d c' d':Nat}{p q:Nat×Nat}(hc:Al .f64 c c')(hd:Al .f64 d d')(h1:Al .f64 p.1 q.1)(h2:Al .f64 p.2 q.2):stW c d p=stW c' d' q:=by
 unfold stW;rw[Yy h1 h2,Yx h1 h2,show C6 .add .f64 (Hp q.1 q.2) c=C6 .add .f64 (Hp q.1 q.2) c' from D5 (Al.refl _ _) hc,show C6 .add .f64 (Ho q.1 q.2) d=C6 .add .f64 (Ho q.1 q.2) d' from D5 (Al.refl _ _) hd]
theorem R1 {x:Nat}(h:fin Ieee.single x):nan .f32 x=false:=by
 unfold nan FloatKind.decode
 show(Ieee.single.read x).isNaN=false
 rw[Ak h];rfl
theorem Al.same {k:FloatKind}{x a:Nat}(h:Al k x a)(g:nan k x=false):a=x:=by
 rcases h with rfl |⟨h1,_⟩
 ·rfl
 ·rw[g]at h1;cases h1
theorem A4w (x y:Nat)(hx:x<4294967296)(hy:y<4294967296)(hok:Py (Bj (A5 x) (A5 y))=true)(w:World) :
 Calls Vp.prog 170 #[.complex .f32 x y] w fun e w'=>(∃a b,e=.returned (.complex .f32 a b)/\a<4294967296/\b<4294967296/\Al .f32 (Ax (Hp (A5 x) (A5 y))) a/\Al .f32 (Ax (Ho (A5 x) (A5 y))) b)/\Bp w w':=by
 have HO:=Aly (A6o hx hy hok);obtain⟨p,q,w1,h1,_,_,d1,ap,aq⟩:=Flo.Ki (P:=Vp.prog) 35 26 (by kernel_rfl) (Vp.Bl Tryz.underlying26) x y hx hy w
 have H1:=Aly d1;have HA:=Aly (Yy ap aq);have HB:=Aly (Yx ap aq);clear d1 hx hy hok ap aq
 go_enter Vp.func170,Tryz.ntmps170
 go_wp2_with fail
 refine(V7 p q _).mono ?_
 rintro e w2 ⟨⟨a,b,rfl,ha,hb,aa,ab⟩,hd⟩;rw[<-HA.out]at aa;rw[<-HB.out]at ab;obtain⟨u,v,w3,h3,hu,hv,d3,au,av⟩:=Flo.Rp (P:=Vp.prog) 26 35 (by kernel_rfl) (Vp.Bl Tryz.underlying35) a b (aa.R7 HO.out.1) (ab.R7 HO.out.2) w2
 rw[<-Ik aa]at au;rw[<-Ik ab]at av;have HD:=Aly ((H1.out.trans hd).trans d3);have HU:=Aly au;have HV:=Aly av;clear hd d3 h1 H1 au av aa ab
 go_wp2
 go_ret
 exact⟨⟨u,v,rfl,hu,hv,HU.out,HV.out⟩,HD.out⟩
theorem Yv (x y c d:Nat)(hx:x<4294967296)(hy:y<4294967296)(hok:Py (Bj (A5 x) (A5 y))=true)(w:World) :
 Calls Vp.prog 139 #[.complex .f32 x y,.complex .f32 c d] w fun e w'=>(∃a b,e=.returned (.complex .f32 a b)/\a<4294967296/\b<4294967296/\Al .f32 (stS c d (x,y)).1 a/\Al .f32 (stS c d (x,y)).2 b)/\Bp w w':=by
 go_enter Vp.func139,Tryz.ntmps139
 go_wp2_with fail
 refine(A4w x y hx hy hok _).mono ?_
 rintro e w2 ⟨⟨a,b,rfl,ha,hb,aa,ab⟩,hd⟩;obtain⟨u,v,w3,h3,hu,hv,d3,au,av⟩:=Flo.Xp (P:=Vp.prog) 35 .f32 a b c d w2;have HU:Hid (Al .f32 (stS c d (x,y)).1 u):=by rw[show(stS c d (x,y)).1=C6 .add .f32 a c from D5 aa (Al.refl _ _)];exact au
 have HV:Hid (Al .f32 (stS c d (x,y)).2 v):=by rw[show(stS c d (x,y)).2=C6 .add .f32 b d from D5 ab (Al.refl _ _)];exact av
 have HD:=Aly (hd.trans d3);clear hd d3 au av aa ab hok
 go_wp2
 go_ret
 exact⟨⟨u,v,rfl,hu,hv,HU.out,HV.out⟩,HD.out⟩
theorem Po (x y:Nat)(hx:x<4294967296)(hy:y<4294967296)(w:World) :
 Calls Vp.prog 59 #[.complex .f32 x y] w fun e w'=>(∃p q,e=.returned (.complex .f64 p q)/\p<18446744073709551616/\q<18446744073709551616/\Al .f64 (A5 x) p/\Al .f64 (A5 y) q)/\Bp w w':=by
 obtain⟨p,q,w1,h1,p1,q1,d1,ap,aq⟩:=Flo.Ki (P:=Vp.prog) 35 26 (by kernel_rfl) (Vp.Bl Tryz.underlying26) x y hx hy w
 have H1:=Aly d1;have HA:=Aly ap;have HB:=Aly aq;clear d1 ap aq
 go_enter Vp.func59,Tryz.ntmps59
 go_wp2
 go_ret
 exact⟨⟨p,q,rfl,p1,q1,HA.out,HB.out⟩,H1.out⟩
theorem Y8 (x y:Nat)(hx:x<4294967296)(hy:y<4294967296)(w:World) :
 Calls Vp.prog 21 #[.complex .f32 x y] w fun e w'=>(∃p q,e=.returned (.complex .f64 p q)/\p<18446744073709551616/\q<18446744073709551616/\Al .f64 (A5 x) p/\Al .f64 (A5 y) q)/\Bp w w':=by
 go_enter Vp.func21,Tryz.ntmps21
 go_wp2_with fail
 refine(Po x y hx hy _).mono ?_
 rintro e w1 ⟨⟨p,q,rfl,p1,q1,ap,aq⟩,hd⟩;have H1:=Aly hd;have HA:=Aly ap;have HB:=Aly aq;clear hd ap aq
 go_wp2
 go_ret
 exact⟨⟨p,q,rfl,p1,q1,HA.out,HB.out⟩,H1.out⟩
theorem A13 (x y:Nat)(hx:nan .f64 x=true\/∃u,floatToFloatBits .f64 x .f32=some u)(hy:nan .f64 y=true\/∃u,floatToFloatBits .f64 y .f32=some u)(w:World) :
 Calls Vp.prog 41 #[.complex .f64 x y] w fun e w'=>(∃p q,e=.returned (.complex .f32 p q)/\p<4294967296/\q<4294967296/\Al .f32 (Ax x) p/\Al .f32 (Ax y) q)/\Bp w w':=by
 obtain⟨p,q,w1,h1,p1,q1,d1,ap,aq⟩:=Flo.Rp (P:=Vp.prog) 26 35 (by kernel_rfl) (Vp.Bl Tryz.underlying35) x y hx hy w
 have H1:=Aly d1;have HA:=Aly ap;have HB:=Aly aq;clear d1 ap aq hx hy
 go_enter Vp.func41,Tryz.ntmps41
 go_wp2
 go_ret
 exact⟨⟨p,q,rfl,p1,q1,HA.out,HB.out⟩,H1.out⟩
theorem Lo (x y:Nat)(hx:nan .f64 x=true\/∃u,floatToFloatBits .f64 x .f32=some u)(hy:nan .f64 y=true\/∃u,floatToFloatBits .f64 y .f32=some u)(w:World) :
 Calls Vp.prog 14 #[.complex .f64 x y] w fun e w'=>(∃p q,e=.returned (.complex .f32 p q)/\p<4294967296/\q<4294967296/\Al .f32 (Ax x) p/\Al .f32 (Ax y) q)/\Bp w w':=by
 have HX:=Aly hx;have HY:=Aly hy;clear hx hy
 go_enter Vp.func14,Tryz.ntmps14
 go_wp2_with fail
 refine(A13 x y HX.out HY.out _).mono ?_
 rintro e w1 ⟨⟨p,q,rfl,p1,q1,ap,aq⟩,hd⟩;have H1:=Aly hd;have HA:=Aly ap;have HB:=Aly aq;clear hd ap aq
 go_wp2
 go_ret
 exact⟨⟨p,q,rfl,p1,q1,HA.out,HB.out⟩,H1.out⟩
theorem A43 (x y:Nat)(hx:x<4294967296)(hy:y<4294967296)(hok:Py (Bj (A5 x) (A5 y))=true)(w:World) :
 Calls Vp.prog 81 #[.complex .f32 x y] w fun e w'=>(∃a b,e=.returned (.complex .f32 a b)/\a<4294967296/\b<4294967296/\Al .f32 (Ax (Hp (A5 x) (A5 y))) a/\Al .f32 (Ax (Ho (A5 x) (A5 y))) b)/\Bp w w':=by
 have HO:=Aly (A6o hx hy hok);have HI:=Aly (Y8 x y hx hy);clear hok hx hy
 go_enter Vp.func81,Tryz.ntmps81
 go_wp2_with fail
 refine(HI.out _).mono ?_
 rintro e w1 ⟨⟨p,q,rfl,-,-,ap,aq⟩,hd⟩;have H1:=Aly hd;have HA:=Aly (Yy ap aq);have HB:=Aly (Yx ap aq);clear hd ap aq
 go_wp2_with fail
 refine(Lp p q _).mono ?_
 rintro e w2 ⟨⟨a,b,rfl,ha,hb,aa,ab⟩,hd⟩;rw[<-HA.out]at aa;rw[<-HB.out]at ab;have H2:=Aly (H1.out.trans hd);have HX:=Aly (aa.R7 HO.out.1);have HY:=Aly (ab.R7 HO.out.2);have HAA:=Aly aa;have HAB:=Aly ab;clear hd aa ab H1
 go_wp2_with fail
 refine(Lo a b HX.out HY.out _).mono ?_
 rintro e w3 ⟨⟨u,v,rfl,hu,hv,au,av⟩,hd⟩;rw[<-Ik HAA.out]at au;rw[<-Ik HAB.out]at av;have HD:=Aly (H2.out.trans hd);have HU:=Aly au;have HV:=Aly av;clear hd au av H2
 go_wp2
 go_ret
 exact⟨⟨u,v,rfl,hu,hv,HU.out,HV.out⟩,HD.out⟩
theorem Y6 (x y c d:Nat)(hx:x<4294967296)(hy:y<4294967296)(hok:Py (Bj (A5 x) (A5 y))=true)(w:World) :
 Calls Vp.prog 40 #[.complex .f32 x y,.complex .f32 c d] w fun e w'=>(∃a b,e=.returned (.complex .f32 a b)/\a<4294967296/\b<4294967296/\Al .f32 (stS c d (x,y)).1 a/\Al .f32 (stS c d (x,y)).2 b)/\Bp w w':=by
 go_enter Vp.func40,Tryz.ntmps40
 go_wp2_with fail
 refine(A43 x y hx hy hok _).mono ?_
 rintro e w2 ⟨⟨a,b,rfl,ha,hb,aa,ab⟩,hd⟩;obtain⟨u,v,w3,h3,hu,hv,d3,au,av⟩:=Flo.Xp (P:=Vp.prog) 35 .f32 a b c d w2;have HU:Hid (Al .f32 (stS c d (x,y)).1 u):=by rw[show(stS c d (x,y)).1=C6 .add .f32 a c from D5 aa (Al.refl _ _)];exact au
 have HV:Hid (Al .f32 (stS c d (x,y)).2 v):=by rw[show(stS c d (x,y)).2=C6 .add .f32 b d from D5 ab (Al.refl _ _)];exact av
 have HD:=Aly (hd.trans d3);clear hd d3 au av aa ab hok
 go_wp2
 go_ret
 exact⟨⟨u,v,rfl,hu,hv,HU.out,HV.out⟩,HD.out⟩
theorem Y7 (x y c d:Nat)(w:World) :
 Calls Vp.prog 38 #[.complex .f64 x y,.complex .f64 c d] w fun e w'=>(∃a b,e=.returned (.complex .f64 a b)/\a<18446744073709551616/\b<18446744073709551616/\Al .f64 (stW c d (x,y)).1 a/\Al .f64 (stW c d (x,y)).2 b)/\Bp w w':=by
 go_enter Vp.func38,Tryz.ntmps38
 go_wp2_with fail
 refine(Lp x y _).mono ?_
 rintro e w2 ⟨⟨a,b,rfl,ha,hb,aa,ab⟩,hd⟩;obtain⟨u,v,w3,h3,hu,hv,d3,au,av⟩:=Flo.Xp (P:=Vp.prog) 26 .f64 a b c d w2;have HU:Hid (Al .f64 (stW c d (x,y)).1 u):=by rw[show(stW c d (x,y)).1=C6 .add .f64 a c from D5 aa (Al.refl _ _)];exact au
 have HV:Hid (Al .f64 (stW c d (x,y)).2 v):=by rw[show(stW c d (x,y)).2=C6 .add .f64 b d from D5 ab (Al.refl _ _)];exact av
 have HD:=Aly (hd.trans d3);clear hd d3 au av aa ab
 go_wp2
 go_ret
 exact⟨⟨u,v,rfl,hu,hv,HU.out,HV.out⟩,HD.out⟩
end
section
open Go.RowKit
def Ab7 (h0:Nat)(N:Nat)(I:Nat->World->Prop)(Ix:Code->Nat->World->Prop)(k:Nat)(W:World):Exit->Act->World->Prop
 | .normal,_,B=>KeepsFrom h0 W B/\k<N/\I (k+1) B
 | .ret,_,B=>KeepsFrom h0 W B/\Ix .ret k B
 | .exit id,_,B=>KeepsFrom h0 W B/\Ix (.exit id) k B
 | .goto t,_,B=>KeepsFrom h0 W B/\Ix (.goto t) k B
 | .panic _,_,_=>False
 | .outgrown,_,_=>False
variable {F : Fence} {n : Nat} {P : Program}
def An (fn:FuncId)(tmps:Array Value)(ps:Array Tmp)(assign body:Code)(d:Nat)(st:LoopState)(pe:Option Code):Loop :=
 { state:=st,pending:=pe,fn:=fn,tmps:=tmps,params:=ps,assign:=assign,body:=body,defers:=d }
end
section
open Go.RowKit
def A3b (F:Fence)(n:Nat)(P:Program)(g:Nat)(lb:Array Value)(R:Nat->Array Value->Prop)(fini:Nat->Prop)(N:Nat)(Keep:Nat->World->Prop):Prop :=
 ∀(l:Nat) (J Jx:Nat->World->Prop) (W:World),
  (∀k A,J k A->Keep k A) ->
  (∀k A B,J k A->A.grownBy B none->J k B) ->
  (∀k v A,k<=N->R k v->J k A->YieldAt F (n-1) P l v A fun e B =>
   (e=.returned (.bool true)/\k<N/\J (k+1) B) \/(e=.returned (.bool false)/\Jx k B)) ->
  J 0 W ->
  CallsIn F n P g (#[.func (.yield l) #[] #[]]++lb) W fun e B=>(∃v,e=.returned v) /\((∃k,k<=N/\Jx k B) \/(∃k,k<=N/\fini k/\J k B))
variable {F : Fence} {n : Nat} {P : Program}
theorem Uf {g:Operand}{ps:Array Tmp}{assign body:Code}{Q:Exit->Act->World->Prop}{a:Act}{w:World}
 (hro:F.round=none) (h1:1<=n) {gf:Nat} {lb:Array Value} (hg:a.eval g=.func (.func gf) #[] lb) (hFg:F.fn gf) (eg:∀args w,(callFunc gf args).run P w=.ok (.enter gf args) w)
 {R:Nat->Array Value->Prop} {fini:Nat->Prop} {N:Nat} {Keep:Nat->World->Prop} (hseq:A3b F (n-1) P gf lb R fini N Keep) (hps:∀k v,R k v->v.size=ps.size)
 (I:Nat->World->Prop) (Ix:Code->Nat->World->Prop) (hI:OwnFrom w.heap.size I) (hIx:∀c,OwnFrom w.heap.size (Ix c)) (hIb:∀k A,I k A->Keep k A) (hi0:I 0 w) (a₁:Nat->Array Value->Act)
 (hassign:∀(l k:Nat) (v:Array Value) (W:World) (K:Act->World->Prop),R k v->K (a₁ k v) W ->
  assign.wpIn (F.inRound l) (n-1-1) P (Exit.then K (fun _ _ _=>False)) { tmps:=(ps.zip v).foldl (fun t (p,v)=>t.setIfInBounds p v) a.tmps,defers:=[] } W)
 (hbody:∀(l k:Nat) (v:Array Value) (W:World),k<=N->R k v->I k W->body.wpIn (F.inRound l) (n-1-1) P (Ab7 w.heap.size N I Ix k W) (a₁ k v) W)
 (hdone:∀(D k:Nat) (W:World),w.heap.size<=D->k<=N->fini k->I k W->W.heap[D]?=some (.deferred (some []))->Q .normal { a with defers:={ target:=.collected D,args:=#[] } :: a.defers } W)
 (hstop:∀(D:Nat) (c:Code) (k:Nat) (W:World),w.heap.size<=D->k<=N->Ix c k W->W.heap[D]?=some (.deferred (some []))->c.wpIn F n P Q { a with defers:={ target:=.collected D,args:=#[] } :: a.defers } W) :
 (Code.rangeFunc g ps assign body).wpIn F n P Q a w:=by
 refine wpIn_rangeFunc (fun fn hfn=>?_)
 rw[hro];obtain⟨s,hs⟩:∃s,w.heap.size=s:=⟨_,rfl⟩;obtain⟨W1,hW1⟩:∃W1,(w.alloc (.deferred (some []))).alloc (.loop (An fn a.tmps ps assign body s .ready none))=W1:=⟨_,rfl⟩
 have hg1:w.grownBy W1 none:=by
  rw[<-hW1];exact(Ans w _ none).trans (Ans _ _ none)
 have hL1:W1.heap[s+1]?=some (.loop (An fn a.tmps ps assign body s .ready none)):=by
  rw[<-hW1,<-hs];have:=World.alloc_heap_new (w.alloc (.deferred (some []))) (.loop (An fn a.tmps ps assign body w.heap.size .ready none))
  rwa [An5]at this
 have hD1:W1.heap[s]?=some (.deferred (some [])):=by
  rw[<-hW1,<-hs];exact(Aow _ _ _ (by simp)).trans (World.alloc_heap_new w _)
 have hI1:I 0 W1:=hI 0 w W1 none hi0 hg1 (fun r e=>by cases e)
 rw[hs]at hI hIx hbody hdone hstop
 refine⟨s+1,[{ target:=.collected s,args:=#[] }],W1,{ target:=.fn (.func gf) lb,args:=#[.func (.yield (s+1)) #[] #[]] },W1,gf,
  #[.func (.yield (s+1)) #[] #[]]++lb,W1,?_,?_,?_,?_,fun _=>h1,?_⟩
 ·rw[<-hW1,<-hs];exact run_enterLoop_outer _ _ _ _ _
 ·simp only[resolve,hg];simp[go_sem]
 ·intro f' hf';simp[Target.leads]at hf';subst hf';exact hFg
 ·simp[invoke,go_sem,eg]
 ·refine(hseq (s+1)
   (fun k W=>I k W/\W.heap[s+1]?=some (.loop (An fn a.tmps ps assign body s .ready none))/\W.heap[s]?=some (.deferred (some [])))
   (fun k W=>∃c,Ix c k W/\W.heap[s+1]?=some (.loop (An fn a.tmps ps assign body s .done (some c)))/\W.heap[s]?=some (.deferred (some [])))
   W1 (fun k A h=>hIb k A h.1) ?_ ?_ ⟨hI1,hL1,hD1⟩).mono ?_
  ·rintro k A B ⟨hi,hl,hd⟩ hgr
   exact⟨hI k A B none hi hgr (fun r e=>by cases e),(hgr.block _ (Alx.1 hl).1 (by simp)).trans hl,(hgr.block _ (Alx.1 hd).1 (by simp)).trans hd⟩
  ·
   rintro k v A hk hR ⟨hi,hl,hd⟩;have hlt:s+1<A.heap.size:=(Alx.1 hl).1
   refine⟨fn,_,assign,body,run_yield (P:=P) (args:=v) hl (hps k v hR),roundIn_of_wpIn hfn (hassign _ k v A _ hR ⟨_,run_beginRound hl rfl,?_⟩)⟩
   obtain⟨A2,hA2⟩:∃A2,A.putObj (s+1) (.loop { An fn a.tmps ps assign body s .ready none with state:=.busy })=A2:=⟨_,rfl⟩
   have hl2:A2.heap[s+1]?=some (.loop { An fn a.tmps ps assign body s .ready none with state:=.busy }):=by rw[<-hA2];exact World.putObj_heap_same hlt
   have hd2:A2.heap[s]?=some (.deferred (some [])):=by rw[<-hA2];exact(World.putObj_heap_other (by omega)).trans hd
   have hi2:I k A2:=by rw[<-hA2];exact hI.putObj _ hi (by omega) hl rfl
   rw[hA2]
   refine wpIn_mono (hbody (s+1) k v A2 hk hR hi2) ?_
   have ends:∀(jump:Option Code) (B:World),KeepsFrom s A2 B->B.heap[s+1]?=some (.loop { An fn a.tmps ps assign body s .ready none with state:=.busy }) /\
    (Instr.endRound (s+1) jump).run P B=.ok (.bool jump.isNone) (B.putObj (s+1) (.loop (An fn a.tmps ps assign body s (if jump.isNone then .ready else .done) jump))) /\
    (B.putObj (s+1) (.loop (An fn a.tmps ps assign body s (if jump.isNone then .ready else .done) jump))).heap[s+1]?=some (.loop (An fn a.tmps ps assign body s (if jump.isNone then .ready else .done) jump)) /\
    (B.putObj (s+1) (.loop (An fn a.tmps ps assign body s (if jump.isNone then .ready else .done) jump))).heap[s]?=some (.deferred (some [])):=by
    intro jump B hk3;have hl3:=hk3.same _ _ (by omega) hl2 rfl
    exact⟨hl3,run_endRound (P:=P) jump hl3,World.putObj_heap_same (Alx.1 hl3).1,(World.putObj_heap_other (by omega)).trans (hk3.same _ _ (Am0 _) hd2 rfl)⟩
   intro e a3 B hp
   cases e with
   | normal =>
     obtain⟨hk3,hkN,hi3⟩:=hp;obtain⟨hl3,hr,hl4,hd4⟩:=ends none B hk3
     exact⟨_,_,hr,.inl ⟨rfl,hkN,hI.putObj _ hi3 (by omega) hl3 rfl,hl4,hd4⟩⟩
   | ret =>
     obtain⟨hk3,hi3⟩:=hp;obtain⟨hl3,hr,hl4,hd4⟩:=ends (some .ret) B hk3
     exact⟨_,_,hr,.inr ⟨rfl,.ret,(hIx _).putObj _ hi3 (by omega) hl3 rfl,hl4,hd4⟩⟩
   | exit id =>
     obtain⟨hk3,hi3⟩:=hp;obtain⟨hl3,hr,hl4,hd4⟩:=ends (some (.exit id)) B hk3
     exact⟨_,_,hr,.inr ⟨rfl,.exit id,(hIx _).putObj _ hi3 (by omega) hl3 rfl,hl4,hd4⟩⟩
   | goto t =>
     obtain⟨hk3,hi3⟩:=hp;obtain⟨hl3,hr,hl4,hd4⟩:=ends (some (.goto t)) B hk3
     exact⟨_,_,hr,.inr ⟨rfl,.goto t,(hIx _).putObj _ hi3 (by omega) hl3 rfl,hl4,hd4⟩⟩
   | panic ch=>exact hp.elim
   | outgrown=>exact hp.elim
  ·
   rintro e B ⟨⟨v,rfl⟩,(⟨k,hkN,c,hi,hl,hd⟩ |⟨k,hkN,hf,hi,hl,hd⟩)⟩
   ·exact⟨some c,_,run_endLoop (P:=P) hl (by simp[An]),hstop _ c k _ (Am0 _) hkN ((hIx c).putObj _ hi (by omega) hl rfl) ((World.putObj_heap_other (by omega)).trans hd)⟩
   ·exact⟨none,_,run_endLoop (P:=P) hl (by simp[An]),hdone _ k _ (Am0 _) hkN hf (hI.putObj _ hi (by omega) hl rfl) ((World.putObj_heap_other (by omega)).trans hd)⟩
theorem Ek {b:Frame}{a:Act}{k:List Item}{cs:List Frame}{w:World}{c:Code}:step P (lone (b.atR a (.code (.scope c) :: k)) cs w)=.next (lone (b.atR a (.code c :: .inScope c :: k)) cs w) :=
 step_lone_go (by simp[stepG,stepG.exec,Frame.atR])
theorem Vd {b:Frame}{a:Act}{k:List Item}{cs:List Frame}{w:World}{c:Code}:step P (lone (b.atR a (.inScope c :: k)) cs w)=.next (lone (b.atR a k) cs w) :=
 step_lone_go (by simp[stepG,stepG.exec,Frame.atR])
theorem Ug {Q:Exit->Act->World->Prop}{a:Act}{w:World}{c:Code}(h:c.wpIn F n P (Exit.noGoto Q) a w):(Code.scope c).wpIn F n P Q a w:=by
 intro b k cs hro hb hr;have h0:(lone (b.atR a (.code (.scope c) :: k)) cs w).fenced P F:=fenced_calm hb hr rfl;obtain⟨e,a₁,w₁,hq,harr⟩:=h b (.inScope c :: k) cs hro hb hr
 cases e with
 | normal=>exact⟨.normal,a₁,w₁,hq,.head h0 Ek (StepsIn.trans harr (.one (fenced_calm hb hr rfl) Vd))⟩
 | exit id =>
   have hx:exitTo id (.inScope c :: k)=exitTo id k:=by simp[exitTo]
   exact⟨.exit id,a₁,w₁,hq,fun k' hk=>.head h0 Ek (harr.1 k' (by rw[hx];exact hk)),
    fun hr' hk=>let ⟨k₁,h1,h2⟩:=harr.2 hr' (by rw[hx];exact hk);⟨k₁,h1,.head h0 Ek h2⟩⟩
 | goto l=>exact hq.elim
 | ret=>exact⟨_,a₁,w₁,hq,.of_steps (.one h0 Ek) harr⟩
 | panic ch=>exact⟨_,a₁,w₁,hq,.of_steps (.one h0 Ek) harr⟩
 | outgrown=>exact⟨_,a₁,w₁,hq,.of_steps (.one h0 Ek) harr⟩
end
end Go.Proofs.YtjaehldnlamgkaaGreatDoor
