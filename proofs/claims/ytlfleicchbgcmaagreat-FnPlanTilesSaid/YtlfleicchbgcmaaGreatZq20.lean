import Derived.Test.YtlfleicchbgcmaaGreatZq19
import Derived.Test.YtlfleicchbgcmaaGreatZq0
import Derived.Test.YtlfleicchbgcmaaGreatZqK
set_option linter.all false
set_option maxHeartbeats 16000000
set_option maxRecDepth 100000
namespace Go.Proofs.YtlfleicchbgcmaaGreat
section
open Go.RowKit Go.Conc Co Ok Lr Tl Bar
theorem Vv {d:Nat}(hd:d<=11):(134217728:Int)=((8*2^d:Nat):Int) *((2^(24-d):Nat):Int):=by
 rw[<-Aj3,Aiy,<-Ail,show d +(24-d)=24 from by omega]
 rfl
theorem Qx {d:Nat}(hd:d<=11)(x:Int):x *((2^(24-d):Nat):Int)<=134217728↔x <=((8*2^d:Nat):Int):=by
 have hp:(0:Int) <((2^(24-d):Nat):Int):=by have:=Aib (24-d);omega
 rw[Vv hd]
 exact⟨fun h=>Int.le_of_mul_le_mul_right h hp,fun h=>Al4 h (Alf hp)⟩
theorem Ik {d:Nat}(hd:d<=11){x:Int}(h:-((8*2^d:Nat):Int)<=x):-134217728<=x *((2^(24-d):Nat):Int):=by
 have hp:(0:Int) <((2^(24-d):Nat):Int):=by have:=Aib (24-d);omega
 have:=Al4 h (Alf hp);rw[Alr,<-Vv hd]at this
 exact this
def fx (c d:Nat)(j:Int):Nat:=Flo.Da .add .f32 c (Flo.Da .mul .f32 (floatOfInt .f32 j) (Flo.D7 d))
theorem Qq {c d:Nat}{A:Int}(hd:d<=11)(hc:Flo.Pt (c % 4294967296) d A)(hA:A.natAbs<=60000)(j:Int)(hj:j.natAbs<=5000) :
 floatBits .mul .f32 (floatOfInt .f32 j) (Flo.D7 d)=some (Flo.Da .mul .f32 (floatOfInt .f32 j) (Flo.D7 d))/\floatBits .add .f32 c (Flo.Da .mul .f32 (floatOfInt .f32 j) (Flo.D7 d))=some (fx c d j)/\Flo.Pt (fx c d j) d (A+j):=by
 obtain⟨p,x,e1,e2,h⟩:=Flo.Aa3 hd hc (by omega) j (by omega)
 rw[Flo.Ah7]at e2;have h1:Flo.Da .mul .f32 (floatOfInt .f32 j) (Flo.D7 d)=p:=by unfold Flo.Da;rw[e1];rfl
 have h2:fx c d j=x:=by unfold fx;rw[h1];unfold Flo.Da;rw[e2];rfl
 rw[h1,h2]
 exact⟨e1,e2,h⟩
theorem A5e {x d:Nat}{n:Int}(hd:d<=11)(h:Flo.Pt x d n)(hn:n.natAbs<=8*2^d):Flo.Bd 8 x:=by
 refine⟨by rw[h.iv];exact h,?_⟩
 rw[h.iv,Ais,Aih,Flo.Ow hd]
 calc n.natAbs*2^(Flo.u32-d)<=8*2^d*2^(Flo.u32-d):=Ai7 _ hn
  _=8 *(2^(Flo.u32-d)*2^d):=by rw[Aiy,Aj7 (2^d)]
def cA (a:Int)(d j:Nat):Int:=(a+j) *((2^(24-d):Nat):Int)
def cIn (a b:Int)(d i j:Nat):Bool:=decide (cA a d j<=134217728/\cA b d i<=134217728)
def cB (a b:Int)(d i j:Nat)(z:Int):Int:=if cIn a b d i j=true then z else 0
def cOk (a b:Int)(d i j:Nat):Bool:=cIn a b d i j && Bg (cB a b d i j (cA a d j)) (cB a b d i j (cA a d j) +((2^(24-d):Nat):Int)) (cB a b d i j (cA b d i)) (cB a b d i j (cA b d i) +((2^(24-d):Nat):Int))
def bxC (a b:Int)(d i j:Nat):Bx:=⟨cA a d j,cA a d j +((2^(24-d):Nat):Int),cA b d i,cA b d i +((2^(24-d):Nat):Int)⟩
theorem Ql (a:Int)(d j:Nat):cA a d j +((2^(24-d):Nat):Int)=(a+j+1) *((2^(24-d):Nat):Int):=by unfold cA;rw[Alg (a+j),Int.one_mul]
theorem Nc {a b:Int}{d:Nat}(hd:d<=11)(ha:a.natAbs<=4*2^d)(hb:b.natAbs<=4*2^d)(i j:Nat) :
 cOk a b d i j=true↔a+j+1 <=((8*2^d:Nat):Int)/\b+i+1 <=((8*2^d:Nat):Int):=by
 have g1:-134217728<=cA a d j:=Ik hd (by omega)
 have g2:-134217728<=cA b d i:=Ik hd (by omega)
 have n1:=Ql a d j;have n2:=Ql b d i;have s1:=Qx hd (a+j+1);have s2:=Qx hd (b+i+1);rw[<-n1]at s1;rw[<-n2]at s2;have hp:(0:Int) <((2^(24-d):Nat):Int):=by have:=Aib (24-d);omega
 rw[<-s1,<-s2];unfold cOk cB cIn Bg Gf;generalize cA a d j=A at *;generalize cA b d i=B at *;generalize ((2^(24-d):Nat):Int)=S at *;simp only[Aia,Aiv]
 by_cases h:A<=134217728/\B<=134217728
 ·rw[Aij h,Aij h];omega
 ·rw[Aid h,Aid h];omega
theorem A4r {a b:Int}{d:Nat}{i j:Nat}(h:cOk a b d i j=true):cB a b d i j (cA a d j)=cA a d j/\cB a b d i j (cA b d i)=cA b d i /\(bxC a b d i j).ok=true:=by
 unfold cOk at h;rw[Aia]at h;obtain⟨h1,h2⟩:=h;have e:∀z,cB a b d i j z=z:=fun z=>by unfold cB;rw[Aij h1]
 rw[e,e]at h2
 exact⟨e _,e _,h2⟩
theorem A6j:Flo.Cu Ieee.single 1090519040 (8 *(2^Flo.u32:Nat)):=by
 refine⟨by decide,by unfold Flo.fin;decide,?_⟩
 rw[Flo.Fv];unfold Flo.iv;have h1:Flo.Ht Ieee.single 1090519040=false:=by decide
 have h2:Flo.rv Ieee.single (Flo.Ae Ieee.single 1090519040)=8*2^149:=by decide +kernel
 rw[h1,h2];simp
theorem A4y {x d:Nat}{n:Int}(hd:d<=11)(h:Flo.Pt x d n):(FloatKind.f32.format.order x 1090519040 == some .gt)=decide (((8*2^d:Nat):Int)<n):=by
 rw[Flo.Jr (k:=.f32) h A6j,Amh,Aiv,Aiv];have hp:(0:Int) <((2^(Flo.u32-d):Nat):Int):=by have:=Aib (Flo.u32-d);omega
 have e:(8:Int) *((2^Flo.u32:Nat):Int)=((8*2^d:Nat):Int) *((2^(Flo.u32-d):Nat):Int):=by
  rw[Flo.Ow hd,Aj3,Aj3,Ajs,Ajq ((2^(Flo.u32-d):Nat):Int)]
  rfl
 rw[e]
 exact⟨fun h=>Int.lt_of_mul_lt_mul_right h (Alf hp),fun h=>Int.mul_lt_mul_of_pos_right h hp⟩
theorem Ab3 (x:Bx)(M:Nat):-1<=stB x M/\stB x M<=1:=by
 unfold stB
 split
 ·omega
 ·split<;>omega
theorem Aao (c d:Nat)(n:Int):smC c d n<4294967296:=by
 unfold smC
 split
 ·omega
 ·exact Flo.A3i
def stT (a b:Int)(d:Nat)(A4:Int)(i j:Nat):Int:=stB (bxC a b d i j) (Bm A4).toNat
def smT (cx cy d:Nat)(A4:Int)(i j:Nat):Nat:=smC (fx cx d j) (fx cy d i) A4
section
variable {cx cy d s : Nat} {a b : Int} (A4 : Int) (hd : d <= 10) (hs : s <= 8) (hx : Flo.Pt (cx % 4294967296) d a) (hy : Flo.Pt (cy % 4294967296) d b) (ha : a.natAbs <= 4 * 2 ^ d) (hb : b.natAbs <= 4 * 2 ^ d)
include hd hs hx hy ha hb
theorem Rj:A8a cx cy d s A4 (fun i j=>cOk a b d i j) (fun i j=>cB a b d i j (cA a d j)) (fun i j=>cB a b d i j (cA a d j) +((2^(24-d):Nat):Int)) (fun i j=>cB a b d i j (cA b d i)) (fun i j=>cB a b d i j (cA b d i) +((2^(24-d):Nat):Int))
 (fun _ j=>fx cx d j) (fun i _=>fx cy d i) (stT a b d A4) (smT cx cy d A4):=by
 have hpd:2^d<=1024:=Ai5 (Ain (by omega) hd) (show 2^10<=1024 by decide)
 have run:∀(c:Nat) (A:Int) (j:Nat),Flo.Pt (c % 4294967296) d A->A.natAbs<=4*2^d->j<s->_:=fun c A j h hA hj=>Qq (c:=c) (by omega) h (by omega) (j:Int) (by omega)
 have hbd:∀i j,i<s->j<s->cOk a b d i j=true->Flo.Bd 8 (fx cx d j)/\Flo.Bd 8 (fx cy d i):=fun i j hi hj h=>by
  have h:=(Nc (by omega) ha hb i j).1 h
  exact⟨A5e (by omega) (run cx a j hx ha hj).2.2 (by omega),A5e (by omega) (run cy b i hy hb hi).2.2 (by omega)⟩
 refine⟨fun i j hi hj W=>?_,fun i j hi hj ho W=>?_,fun i j hi hj W=>?_,fun i j hi hj ho W=>?_,fun i j=>Aao _ _ _,fun i j=>Ab3 _ _⟩
 ·obtain⟨e1,e2,hp⟩:=run cx a j hx ha hj;obtain⟨e3,e4,hq⟩:=run cy b i hy hb hi;have hP:=Ai1 (fun w=>S7 cx cy d i j (by omega) e1 e3 e2 e4 w)
  have hO:=Ai1 (fun w=>A6b (fx cx d j) (fx cy d i) d (a+j) (b+i) (cA a d j) (cA b d i) (by omega) hp hq (by omega) (by omega) rfl rfl (Ik (by omega) (by omega)) (Ik (by omega) (by omega)) w)
  have g1:-134217728<=cA a d j:=Ik (by omega) (by omega)
  have g2:-134217728<=cA b d i:=Ik (by omega) (by omega)
  have hS0:0<2^(24-d):=Aib _;have hS:(2^(24-d):Nat)<=2^24:=Ain (by omega) (by omega)
  cases hin:cIn a b d i j with
  | true =>
    have hin':cA a d j<=134217728/\cA b d i<=134217728:=by unfold cIn at hin;simpa using hin
    have hb2:∀z,cB a b d i j z=z:=fun z=>by unfold cB;rw[Aij hin]
    have hO2:Hid (∀w,Calls Vp.prog 67 #[.complex .f32 (fx cx d j) (fx cy d i)] w fun e w'=>e=.returned (.tuple #[.agg #[.int .i64 (cA a d j),.int .i64 (cA a d j),.int .i64 (cA b d i),.int .i64 (cA b d i)],.bool true])/\Below w.heap.size w w'):=fun w=>(hO.out w).mono fun e w' ⟨h1,h2⟩=>⟨by rw[h1];unfold ofV;rw[Aij hin'],h2⟩
    have:=A0w cx cy d _ _ i j _ _ _ _ _ _ _ true (Mu d (by omega)) (by omega) (Fw (by omega) (by omega)) (Fw (by omega) (by omega)) hP hO2 W
    simp only[hb2,cOk,hin]
    exact this
  | false =>
    have hin':¬(cA a d j<=134217728/\cA b d i<=134217728):=by unfold cIn at hin;simpa using hin
    have hb2:∀z,cB a b d i j z=0:=fun z=>by unfold cB;rw[Aid (by rw[hin];simp)]
    have hO2:Hid (∀w,Calls Vp.prog 67 #[.complex .f32 (fx cx d j) (fx cy d i)] w fun e w'=>e=.returned (.tuple #[.agg #[.int .i64 0,.int .i64 0,.int .i64 0,.int .i64 0],.bool false])/\Below w.heap.size w w'):=fun w=>(hO.out w).mono fun e w' ⟨h1,h2⟩=>⟨by rw[h1];unfold ofV;rw[Aid hin'],h2⟩
    have:=A0w cx cy d _ _ i j _ _ _ _ _ _ _ false (Mu d (by omega)) (by omega) (Fw (by omega) (by omega)) (Fw (by omega) (by omega)) hP hO2 W
    simp only[hb2,cOk,hin]
    exact this
 ·obtain⟨e1,e2,e3⟩:=A4r ho;rw[e1,e2]
  exact Xm _ _ _ _ A4 e3 W
 ·obtain⟨e1,e2,-⟩:=run cx a j hx ha hj;obtain⟨e3,e4,-⟩:=run cy b i hy hb hi
  exact S7 cx cy d i j (by omega) e1 e3 e2 e4 W
 ·obtain⟨h1,h2⟩:=hbd i j hi hj ho
  exact Ui _ _ A4 h1 h2 W
theorem A6e (hok:∀i j,i<s->j<s->cOk a b d i j=true):K9 cx cy d s A4 (fun _ j=>fx cx d j) (fun i _=>fx cy d i) (fun i j=>.agg #[.int .i64 (cA a d j),.int .i64 (cA a d j +((2^(24-d):Nat):Int)),.int .i64 (cA b d i),.int .i64 (cA b d i +((2^(24-d):Nat):Int))]) (stT a b d A4) (smT cx cy d A4):=by
 have hpd:2^d<=1024:=Ai5 (Ain (by omega) hd) (show 2^10<=1024 by decide)
 have run:∀(c:Nat) (A:Int) (j:Nat),Flo.Pt (c % 4294967296) d A->A.natAbs<=4*2^d->j<s->_:=fun c A j h hA hj=>Qq (c:=c) (by omega) h (by omega) (j:Int) (by omega)
 refine⟨fun i j hi hj W=>?_,fun i j hi hj W=>?_,fun i j hi hj W=>?_,fun i j hi hj W=>?_⟩
 ·obtain⟨e1,e2,-⟩:=run cx a j hx ha hj;obtain⟨e3,e4,-⟩:=run cy b i hy hb hi
  exact Sm cx cy d i j (by omega) e1 e3 e2 e4 W
 ·have h:=(Nc (by omega) ha hb i j).1 (hok i j hi hj)
  have n1:=Ql a d j;have n2:=Ql b d i;have s1:=Qx (d:=d) (by omega) (a+j+1)
  have s2:=Qx (d:=d) (by omega) (b+i+1)
  rw[<-n1]at s1;rw[<-n2]at s2
  exact Xh _ _ d (a+j) (b+i) _ _ _ (by omega) (run cx a j hx ha hj).2.2 (run cy b i hy hb hi).2.2 (by omega) (by omega) rfl rfl rfl (Ik (by omega) (by omega)) (s1.2 h.1) (Ik (by omega) (by omega)) (s2.2 h.2) W
 ·obtain⟨-,-,e3⟩:=A4r (hok i j hi hj)
  exact A0i _ _ _ _ A4 e3 W
 ·have h:=(Nc (by omega) ha hb i j).1 (hok i j hi hj)
  exact U9 _ _ A4 (A5e (by omega) (run cx a j hx ha hj).2.2 (by omega)) (A5e (by omega) (run cy b i hy hb hi).2.2 (by omega)) W
end
theorem A18 {cx cy:Nat}{deep size:Int}(h:Az cx cy deep size=true):∃(d s:Nat) (a b:Int),deep=d/\size=s/\d<=10/\1<=s/\s<=8/\Flo.Pt (cx % 4294967296) d a/\Flo.Pt (cy % 4294967296) d b/\a.natAbs<=4*2^d/\b.natAbs<=4*2^d:=by
 obtain⟨h1,h2,h3,h4⟩:=Bj h;obtain⟨d,rfl⟩:=Ajc h1;obtain⟨s,rfl⟩:=Ajc (show 0<=size by omega)
 unfold Az at h;rw[Aia,Aia,Ajk,<-Flo.My cx,<-Flo.My cy]at h;obtain⟨a,hx,ha⟩:=Flo.J9 (Akz cx (by decide)) (by omega) h.1.2
 obtain⟨b,hy,hb⟩:=Flo.J9 (Akz cy (by decide)) (by omega) h.2
 exact⟨d,s,a,b,rfl,rfl,by omega,by omega,by omega,hx,hy,ha,hb⟩
theorem Xe {a b:Int}{d s:Nat}(hd:d<=11)(h1:1<=s)(ha:a.natAbs<=4*2^d)(hb:b.natAbs<=4*2^d) :
 (∀i j,i<s->j<s->cOk a b d i j=true)↔a+s <=((8*2^d:Nat):Int)/\b+s <=((8*2^d:Nat):Int):=by
 constructor
 ·intro h;have:=(Nc hd ha hb (s-1) (s-1)).1 (h _ _ (by omega) (by omega))
  omega
 ·intro h i j hi hj
  exact(Nc hd ha hb i j).2 (by omega)
theorem Ahi {cx cy:Nat}{deep size A4:Int}(h:∀W,Calls Vp.prog 31 #[.complex .f32 cx cy,.int .i64 deep,.int .i64 size] W fun e w'=>e=.returned (.bool false)/\W=w')(a:Act)(hs:a.tmps.size=71)(h0:a.tmps[0]?=some (.complex .f32 cx cy))(h1:a.tmps[1]?=some (.int .i64 deep))(h2:a.tmps[2]?=some (.int .i64 size))(h3:a.tmps[3]?=some (.int .i64 A4))(hd:a.defers=[])(w:World) :
 HW Vp.prog [.code (cut [9,10,12] Bh)] (Q7 0 0 0 0 false [] [] w) a w:=by
 obtain⟨t,ds⟩:=a;dsimp only at hs h0 h1 h2 h3 hd;obtain⟨y0,y1,y2,y3,y4,y5,y6,y7,y8,y9,y10,y11,y12,y13,y14,y15,y16,y17,y18,y19,y20,y21,y22,y23,y24,y25,y26,y27,y28,y29,y30,y31,y32,y33,y34,y35,y36,y37,y38,y39,y40,y41,y42,y43,y44,y45,y46,y47,y48,y49,y50,y51,y52,y53,y54,y55,y56,y57,y58,y59,y60,y61,y62,y63,y64,y65,y66,y67,y68,y69,y70,rfl⟩:=Uy t hs
 cases h0;cases h1;cases h2;cases h3;subst hd
 apply A32 (d:=0) (n:=0) (xs:=[]) (ys:=[]) h
theorem Agb {cx cy d n:Nat}{A4:Int}{ex ey:Nat}(h:∀W,Calls Vp.prog 31 #[.complex .f32 cx cy,.int .i64 d,.int .i64 n] W fun e w'=>e=.returned (.bool true)/\W=w')(hp:∀W,Calls Vp.prog 32 #[.complex .f32 cx cy,.int .i64 d,.int .i64 n,.int .i64 n] W fun e w'=>e=.returned (.complex .f32 ex ey)/\W=w')
 (hf:(FloatKind.f32.format.order ex 1090519040 == some .gt || FloatKind.f32.format.order ey 1090519040 == some .gt)=true) (a:Act) (hs:a.tmps.size=71) (h0:a.tmps[0]?=some (.complex .f32 cx cy)) (h1:a.tmps[1]?=some (.int .i64 d)) (h2:a.tmps[2]?=some (.int .i64 n)) (h3:a.tmps[3]?=some (.int .i64 A4)) (hd:a.defers=[]) (w:World) :
 HW Vp.prog [.code (cut [9,10,12] Bh)] (Q7 0 0 0 0 false [] [] w) a w:=by
 obtain⟨t,ds⟩:=a;dsimp only at hs h0 h1 h2 h3 hd;obtain⟨y0,y1,y2,y3,y4,y5,y6,y7,y8,y9,y10,y11,y12,y13,y14,y15,y16,y17,y18,y19,y20,y21,y22,y23,y24,y25,y26,y27,y28,y29,y30,y31,y32,y33,y34,y35,y36,y37,y38,y39,y40,y41,y42,y43,y44,y45,y46,y47,y48,y49,y50,y51,y52,y53,y54,y55,y56,y57,y58,y59,y60,y61,y62,y63,y64,y65,y66,y67,y68,y69,y70,rfl⟩:=Uy t hs
 cases h0;cases h1;cases h2;cases h3;subst hd
 have:=Aei (A4:=A4) h hp hf y4 y5 y6 y7 y8 y9 y10 y11 y12 y13 y14 y15 y16 y17 y18 y19 y20 y21 y22 y23 y24 y25 y26 y27 y28 y29 y30 y31 y32 y33 y34 y35 y36 y37 y38 y39 y40 y41 y42 y43 y44 y45 y46 y47 y48 y49 y50 y51 y52 y53 y54 y55 y56 y57 y58 y59 y60 y61 y62 y63 y64 y65 y66 y67 y68 y69 y70 w [] []
 exact this
theorem Ahz:A2j:=by
 intro cx cy deep size A4;have hpw:=fun W=>Mf cx cy deep size W
 cases hpl:Az cx cy deep size with
 | false =>
   rw[hpl]at hpw
   exact .inl ⟨Ahi hpw,fun V=>O7 cx cy deep size A4 hpl V⟩
 | true =>
   rw[hpl]at hpw;obtain⟨d,s,a,b,rfl,rfl,hd,h1,h8,hx,hy,ha,hb⟩:=A18 hpl;have hpd:2^d<=1024:=Ai5 (Ain (by omega) hd) (show 2^10<=1024 by decide)
   have hV:=fun V=>Mi cx cy d s A4 hd h8 hpl (Rj A4 hd h8 hx hy ha hb) V
   obtain⟨e1,e2,hpx⟩:=Qq (c:=cx) (by omega) hx (by omega) (s:Int) (by omega)
   obtain⟨e3,e4,hpy⟩:=Qq (c:=cy) (by omega) hy (by omega) (s:Int) (by omega)
   have hpt:=fun W=>Sm cx cy d s s (by omega) e1 e3 e2 e4 W
   have f1:=A4y (by omega) hpx
   have f2:=A4y (by omega) hpy
   have hall:=Xe (d:=d) (by omega) h1 ha hb
   by_cases hg:a+s <=((8*2^d:Nat):Int)/\b+s <=((8*2^d:Nat):Int)
   ·rw[Aj0 (by omega)]at f1 f2
    have hok:=hall.2 hg
    refine .inr ⟨d,s,_,_,_,_,_,_,_,rfl,rfl,h8,by omega,A6e A4 hd h8 hx hy ha hb hok,hpw,hpt,f1,f2,fun V=>(hV V).mono ?_⟩
    rintro e V' ⟨hbl,⟨⟨i,j,hi,hj,hno⟩,-⟩ |⟨-,v,rfl,ht⟩⟩
    ·have hno:cOk a b d i j=false:=hno;have:=hok i j hi hj;rw[hno]at this
     cases this
    ·exact⟨v,rfl,ht,hbl⟩
   ·refine .inl ⟨Agb hpw hpt ?_,fun V=>(hV V).mono ?_⟩
    ·rw[f1,f2,Al2,Aiv,Aiv]
     omega
    ·rintro e V' ⟨hbl,⟨-,rfl⟩ |⟨hok,-⟩⟩
     ·exact⟨rfl,hbl⟩
     ·exact absurd (hall.1 hok) hg
end
section
open Go.RowKit Flo
def Ez (x y:Nat):Nat:=(floatBits .add .f32 x y).getD 0
def E6 (d:Nat)(s:Int):Nat:=(floatBits .mul .f32 (floatOfInt .f32 s) (D7 (d+1))).getD 0
def Bi (cx cy d:Nat)(s:Int):Nat->Nat×Nat
 | 0=>(cx,cy)
 | 1=>(Ez cx (E6 d s),Ez cy 0)
 | 2=>(Ez cx 0,Ez cy (E6 d s))
 | _=>(Ez cx (E6 d s),Ez cy (E6 d s))
theorem A5g {x d:Nat}{n:Int}(hd:d<=10)(h:Pt x d n):Pt x (d+1) (2*n):=by
 unfold Pt at h ⊢
 have e:(2^(u32-d):Nat)=2^(u32-(d+1))*2:=by
  rw[<-Alc];congr 1;rw[Fv];omega
 have e2:2*n *((2^(u32-(d+1)):Nat):Int)=n *((2^(u32-d):Nat):Int):=by
  rw[e,Aj3,Ajq 2 n,Ajs]
  congr 1
  rw[Ajq];rfl
 rw[e2];exact h
theorem A5h (d:Nat):Pt 0 d 0:=by
 unfold Pt;rw[Int.zero_mul]
 exact⟨by decide,by unfold fin;decide,by decide⟩
theorem I7 {d x y:Nat}{a b:Int}(hd:d<=11)(hx:Pt x d a)(hy:Pt y d b)(h:(a+b).natAbs<16777216):floatBits .add .f32 x y=some (Ez x y)/\Pt (Ez x y) d (a+b):=by
 obtain⟨z,h1,h2⟩:=Ab5 hd hx hy h;unfold Ez;rw[h1]
 exact⟨rfl,h2⟩
theorem A4x {d:Nat}{s:Int}(hd:d<=10)(hs:s.natAbs<=65536):floatBits .mul .f32 (floatOfInt .f32 s) (D7 (d+1))=some (E6 d s)/\Pt (E6 d s) (d+1) s:=by
 obtain⟨p,h1,h2⟩:=A1r (d+1) (by omega) s hs
 unfold E6;rw[h1]
 exact⟨rfl,h2⟩
theorem Sn {cx cy d:Nat}{A B s:Int}(hd:d<=10)(hx:Pt cx d A)(hy:Pt cy d B)(hA:A.natAbs<=8192)(hB:B.natAbs<=8192)(hs:s.natAbs<=100) :
 floatBits .mul .f32 (floatOfInt .f32 s) (D7 (d+1))=some (E6 d s)/\floatBits .add .f32 cx (E6 d s)=some (Ez cx (E6 d s))/\floatBits .add .f32 cy (E6 d s)=some (Ez cy (E6 d s))/\floatBits .add .f32 cx 0=some (Ez cx 0)/\floatBits .add .f32 cy 0=some (Ez cy 0) /\
 (∀k,k<4->∃a b:Int,(a=0\/a=s) /\(b=0\/b=s)/\Pt (Bi cx cy d s k).1 (d+1) (2*A+a)/\Pt (Bi cx cy d s k).2 (d+1) (2*B+b)):=by
 have f:=A4x (s:=s) hd (by omega)
 have x2:=A5g hd hx;have y2:=A5g hd hy;have z:=A5h (d+1);have h1:=I7 (by omega) x2 f.2 (by omega)
 have h2:=I7 (by omega) y2 f.2 (by omega)
 have h3:=I7 (by omega) x2 z (by omega)
 have h4:=I7 (by omega) y2 z (by omega)
 refine⟨f.1,h1.1,h2.1,h3.1,h4.1,fun k hk=>?_⟩
 rcases(by omega:k=0\/k=1\/k=2\/k=3)with rfl|rfl|rfl|rfl
 ·exact⟨0,0,.inl rfl,.inl rfl,by rw[Int.add_zero];exact x2,by rw[Int.add_zero];exact y2⟩
 ·exact⟨s,0,.inr rfl,.inl rfl,h1.2,h4.2⟩
 ·exact⟨0,s,.inl rfl,.inr rfl,h3.2,h2.2⟩
 ·exact⟨s,s,.inr rfl,.inr rfl,h1.2,h2.2⟩
def Kt (cx cy d:Nat)(s:Int):Array Value:=#[.complex .f32 cx cy,.complex .f32 (Ez cx (E6 d s)) (Ez cy 0),.complex .f32 (Ez cx 0) (Ez cy (E6 d s)),.complex .f32 (Ez cx (E6 d s)) (Ez cy (E6 d s))]
theorem A78 (cx cy d:Nat)(s:Int)(k:Nat)(h:k<4):(Kt cx cy d s)[k]?=some (.complex .f32 (Bi cx cy d s k).1 (Bi cx cy d s k).2):=by
 rcases(by omega:k=0\/k=1\/k=2\/k=3)with rfl|rfl|rfl|rfl<;>rfl
theorem Y7 (cx cy d:Nat)(A B s:Int)(hd:d<=10)(hx:Pt cx d A)(hy:Pt cy d B)(hA:A.natAbs<=8192)(hB:B.natAbs<=8192)(hs:s.natAbs<=100)(ua ub:Option Addr)(un uc vn vc:Nat)(w:World) :
 Calls Vp.prog 51 #[.agg #[.complex .f32 cx cy,.int .i64 d,.int .i64 s,.slice ua un uc,.slice ub vn vc]] w fun e w'=>∃b,e=.returned (.slice (some ⟨b,0,none⟩) 4 4)/\w.heap.size<=b/\A8 w b (Kt cx cy d s) 23 w':=by
 obtain⟨h1,h2,h3,h4,h5,-⟩:=Sn hd hx hy hA hB hs;have R:=A8.new w #[.complex .f32 cx cy,.int .i64 d,.int .i64 s,.slice ua un uc,.slice ub vn vc] 35;have g0:=fun w=>Aj6 (P:=Vp.prog) w .mul 74 .f32 _ _ _ h1
 have g1:=fun w=>All (P:=Vp.prog) w .add (.inl rfl) 23 .f32 cx cy (E6 d s) 0 _ _ (by unfold cSumBits;rw[h2,h5];rfl)
 have g2:=fun w=>All (P:=Vp.prog) w .add (.inl rfl) 23 .f32 cx cy 0 (E6 d s) _ _ (by unfold cSumBits;rw[h4,h3];rfl)
 have g3:=fun w=>All (P:=Vp.prog) w .add (.inl rfl) 23 .f32 cx cy (E6 d s) (E6 d s) _ _ (by unfold cSumBits;rw[h2,h3];rfl)
 have HS:Hid (∀w,Calls Vp.prog 74 #[.int .i64 ((d:Int)+1)] w fun e w'=>e=.returned (.float .f32 (D7 (d+1)))/\w=w'):=fun w=>Vt (d+1) (by omega) w
 unfold Kt;clear h1 h2 h3 h4 h5 hx hy hA hB;generalize Ez cx (E6 d s)=x1 at *;generalize Ez cy (E6 d s)=y1 at *;generalize Ez cx 0=x0 at *;generalize Ez cy 0=y0 at *;generalize E6 d s=f at *;generalize D7 (d+1)=sd at *;obtain⟨r0,r1,r2,r3,r4⟩:=R.Aa;have e1:IntKind.i64.wrap ((d:Int)+1)=(d:Int)+1:=Ajh _ (by omega)
 go_enter Vp.func51,Tryz.ntmps51
 go_upto_region 1 with fail
 go_quiet ((go_at_call 74;exact Aa7 (HS.out _)))
 clear e1;have R2:=R.step ((Aq.refl _).drewN nq |>.below _)
 obtain⟨t0,t1,t2,t3,t4⟩:=R2.Aa;have HB:=Ai1 R2.old;have hsz:=R2.old.size;clear R R2;have X:=(A8.new ((w.alloc (.cells #[.complex .f32 cx cy,.int .i64 d,.int .i64 s,.slice ua un uc,.slice ub vn vc] 35)).drewN nq) #[.complex .f32 cx cy,.complex .f32 x1 y0,.complex .f32 x0 y1,.complex .f32 x1 y1] 23).up HB.out;rw[show((w.alloc (.cells #[.complex .f32 cx cy,.int .i64 d,.int .i64 s,.slice ua un uc,.slice ub vn vc] 35)).drewN nq).heap.size=w.heap.size+1 by simp]at X
 have HX:=Ai1 X;clear X
 go_wp2
 go_ret
 exact⟨w.heap.size+1,rfl,by omega,HX.out⟩
end
section
open Go.RowKit Flo
attribute [local go_sem ↓] Go.wp_at_zero Go.wp_at_succ
attribute [local go_sem] A7 A5
structure Ai where
 cx:Nat
 cy:Nat
 deep:Int
 size:Int
 gs:Nat
 cs:Nat
 gm:Nat
 cm:Nat
 xs:List Nat
 ys:List Int
def Ai.n (t:Ai):Nat:=t.size.toNat*t.size.toNat
def Ai.cells (t:Ai):List Value:=[.complex .f32 t.cx t.cy,.int .i64 t.deep,.int .i64 t.size,.slice (some ⟨t.gs,0,none⟩) t.n t.cs,.slice (some ⟨t.gm,0,none⟩) t.n t.cm]
structure C9 (B:Nat)(t:Ai)(W:World):Prop where
 made:Made B t.n t.xs t.ys (.slice (some ⟨t.gs,0,none⟩) t.n t.cs) (.slice (some ⟨t.gm,0,none⟩) t.n t.cm) W
 pl:Az t.cx t.cy t.deep t.size=true
 bx:t.cx<4294967296
 by1:t.cy<4294967296
 ks:t.n<=t.cs
 km:t.n<=t.cm
theorem C9.step {B:Nat}{t:Ai}{W W':World}(h:C9 B t W)(k:Below W.heap.size W W'):C9 B t W':=⟨h.made.step k,h.pl,h.bx,h.by1,h.ks,h.km⟩
theorem C9.mono {B B':Nat}{t:Ai}{W:World}(h:C9 B t W)(hB:B'<=B):C9 B' t W:=⟨h.made.mono hB,h.pl,h.bx,h.by1,h.ks,h.km⟩
theorem A9i:(Vp.prog.info? 35).map (fun i=>(i.zero,i.size,i.bytes))=some (some (.agg #[.complex .f32 0 0,.int .i64 0,.int .i64 0,.slice none 0 0,.slice none 0 0]),5,72):=by kernel_rfl
theorem C9.grown {B B':Nat}{t:Ai}{W W':World}{v:Value}{n:Nat}{cs:List Value}(h:C9 B t W)(ho:W.ownsRow B' 35 5 v n cs)(hg:W.grownBy W' v.ownBlock):C9 B t W' :=
 ⟨⟨h.made.S.kept hg (Cl h.made.S ho (by decide)),h.made.M.kept hg (Cl h.made.M ho (by decide)),h.made.lx,h.made.ly,h.made.hx,h.made.hy⟩,h.pl,h.bx,h.by1,h.ks,h.km⟩
def Ac (L:List Ai):List Value:=L.flatMap Ai.cells
theorem Pf (L:List Ai)(t:Ai):Ac (L++[t])=Ac L++t.cells:=by unfold Ac;rw[Anf,List.flatMap_singleton]
structure C3 (B:Nat)(L:List Ai)(v:Value)(W:World):Prop where
 row:W.ownsRow B 35 5 v L.length (Ac L)
 own:∀t,t∈L->C9 B t W
theorem C3.step {B:Nat}{L:List Ai}{v:Value}{W W':World}(h:C3 B L v W)(k:Below W.heap.size W W'):C3 B L v W':=⟨Ab h.row k,fun t ht=>(h.own t ht).step k⟩
theorem Made.Nh {B n:Nat}{xs:List Nat}{ys:List Int}{smv mkv:Value}{W:World}(h:Made B n xs ys smv mkv W){w0:World}{b:Nat}{C:Array Value}(hb:A8 w0 b C 35 W)(j:Nat)(u:Value):Made B n xs ys smv mkv (W.setCell ⟨b,j,none⟩ u):=h.set hb.blk j u
theorem C9.Nh {B:Nat}{t:Ai}{W:World}(h:C9 B t W){w0:World}{b:Nat}{C:Array Value}(hb:A8 w0 b C 35 W)(j:Nat)(u:Value):C9 B t (W.setCell ⟨b,j,none⟩ u):=⟨h.made.Nh hb j u,h.pl,h.bx,h.by1,h.ks,h.km⟩
theorem C9.Aed {B:Nat}{t:Ai}{W w0:World}(h:C9 B t W){b:Nat}{v0 v1 v2 v3 v4:Value}(hb:A8 w0 b #[v0,v1,v2,v3,v4] 35 W)(hw:w0.heap.size<=b)(u0 u1 u2 u3 u4:Value) :
 C9 B t (((((W.setCell ⟨b,0,none⟩ u0).setCell ⟨b,1,none⟩ u1).setCell ⟨b,2,none⟩ u2).setCell ⟨b,3,none⟩ u3).setCell ⟨b,4,none⟩ u4):=by
 have b1:=hb.set hw 0 u0;have b2:=b1.set hw 1 u1;have b3:=b2.set hw 2 u2;have b4:=b3.set hw 3 u3
 exact((((h.Nh hb 0 u0).Nh b1 1 u1).Nh b2 2 u2).Nh b3 3 u3).Nh b4 4 u4
theorem Fo {w:World}{base base':Nat}{e:TypeId}{size:Nat}{v:Value}{n:Nat}{xs:List Value}(h:w.ownsRow base e size v n xs)(hB:base'<=base):w.ownsRow base' e size v n xs:=by
 obtain⟨s1,s2⟩:=h
 refine⟨s1,?_⟩
 rcases s2 with h |⟨g,cap,cur,h1,h2,r⟩
 ·exact .inl h
 ·exact .inr ⟨g,cap,cur,h1,Ai5 hB h2,r⟩
theorem C3.mono {B B':Nat}{L:List Ai}{v:Value}{W:World}(h:C3 B L v W)(hB:B'<=B):C3 B' L v W:=⟨Fo h.row hB,fun t ht=>(h.own t ht).mono hB⟩
theorem C9.lens {B:Nat}{t:Ai}{W:World}(h:C9 B t W):t.xs.length=t.n/\t.ys.length=t.n:=⟨h.made.lx,h.made.ly⟩
end
section
open Go.RowKit Flo
structure MkT (cx cy d s:Nat)(a b:Int):Prop where
 hx:cx<4294967296
 hy:cy<4294967296
 pl:Az cx cy d s=true
 d10:d<=10
 s1:1<=s
 s8:s<=8
 px:Pt cx d a
 py:Pt cy d b
 ha:a.natAbs<=4*2^d
 hb:b.natAbs<=4*2^d
 ga:a+s <=((8*2^d:Nat):Int)
 gb:b+s <=((8*2^d:Nat):Int)
def Uu (cx cy:Nat)(deep size:Int):Prop:=∃(d s:Nat) (a b:Int),deep=d/\size=s/\MkT cx cy d s a b
theorem Ox {x d:Nat}{a b:Int}(h:Pt x d a)(g:Pt x d b):a=b:=by
 have e:=h.iv.symm.trans g.iv;have hp:((2^(u32-d):Nat):Int)≠0:=by have:=Aib (u32-d);omega
 exact Int.eq_of_mul_eq_mul_right hp e
def E4 (A4:Int)(t:Ai):Prop:=∃(d s:Nat) (a b:Int),t.deep=d/\t.size=s/\MkT t.cx t.cy d s a b/\t.xs=rowsOf s (smT t.cx t.cy d A4) s/\t.ys=rowsOf s (stT a b d A4) s
theorem E4.same {A4:Int}{t u:Ai}(h:E4 A4 t)(g:E4 A4 u)(ex:t.cx=u.cx)(ey:t.cy=u.cy)(ed:t.deep=u.deep)(es:t.size=u.size):t.xs=u.xs/\t.ys=u.ys:=by
 obtain⟨d,s,a,b,h1,h2,h3,h4,h5⟩:=h;obtain⟨d',s',a',b',g1,g2,g3,g4,g5⟩:=g;obtain rfl:d=d':=by omega
 obtain rfl:s=s':=by omega
 have hx:=h3.px;have hy:=h3.py;rw[ex]at hx;rw[ey]at hy;obtain rfl:=Ox hx g3.px;obtain rfl:=Ox hy g3.py;rw[h4,h5,g4,g5,ex,ey]
 exact⟨rfl,rfl⟩
def R8 (w:World)(cx cy:Nat)(deep size A4:Int)(ok:Bool)(v:Value)(w':World):Prop :=
 (ok=false->¬Uu cx cy deep size/\v=.agg #[.complex .f32 0 0,.int .i64 0,.int .i64 0,.slice none 0 0,.slice none 0 0]) /\(ok=true->∃t:Ai,t.cx=cx/\t.cy=cy/\t.deep=deep/\t.size=size/\v=.agg t.cells.toArray/\C9 w.heap.size t w'/\E4 A4 t)
def A2g (w:World)(cx cy:Nat)(deep size A4:Int)(e:Ending)(w':World):Prop :=
 (∃(x y:Nat) (d s:Int) (a1:Option Addr) (n1 c1:Nat) (a2:Option Addr) (n2 c2:Nat) (ok:Bool),e=.returned (.tuple #[.agg #[.complex .f32 x y,.int .i64 d,.int .i64 s,.slice a1 n1 c1,.slice a2 n2 c2],.bool ok])/\R8 w cx cy deep size A4 ok (.agg #[.complex .f32 x y,.int .i64 d,.int .i64 s,.slice a1 n1 c1,.slice a2 n2 c2]) w')/\Below w.heap.size w w'
theorem Vx {cx cy:Nat}{deep size:Int}(h:Uu cx cy deep size):Az cx cy deep size=true:=by
 obtain⟨d,s,a,b,rfl,rfl,h⟩:=h
 exact h.pl
theorem Y9 {w w':World}{cx cy:Nat}{deep size A4:Int}(h:¬Uu cx cy deep size)(hb:Below w.heap.size w w'):A2g w cx cy deep size A4 (.returned P8) w' :=
 ⟨⟨0,0,0,0,none,0,0,none,0,0,false,rfl,fun _=>⟨h,rfl⟩,fun h=>by cases h⟩,hb⟩
theorem A5c {w w':World}{cx cy d s:Nat}{a b A4:Int}(h:MkT cx cy d s a b){smv mkv:Value}(hM:Made w.heap.size (s*s) (rowsOf s (smT cx cy d A4) s) (rowsOf s (stT a b d A4) s) smv mkv w')(hb:Below w.heap.size w w') :
 A2g w cx cy d s A4 (.returned (.tuple #[.agg #[.complex .f32 cx cy,.int .i64 d,.int .i64 s,smv,mkv],.bool true])) w':=by
 have hn:0<s*s:=Nat.mul_pos h.s1 h.s1;obtain⟨gs,cs,rfl,-,hcs⟩:=ownsRow_form hM.S hn;obtain⟨gm,cm,rfl,-,hcm⟩:=ownsRow_form hM.M hn
 refine⟨⟨cx,cy,d,s,_,_,cs,_,_,cm,true,rfl,(fun h=>by cases h),fun _=>⟨⟨cx,cy,d,s,gs,cs,gm,cm,rowsOf s (smT cx cy d A4) s,rowsOf s (stT a b d A4) s⟩,rfl,rfl,rfl,rfl,?_,⟨?_,h.pl,h.hx,h.hy,?_,?_⟩,d,s,a,b,rfl,rfl,h,rfl,rfl⟩⟩,hb⟩
 ·simp[Ai.cells,Ai.n]
 ·simpa [Ai.n]using hM
 ·simpa [Ai.n]using hcs
 ·simpa [Ai.n]using hcm
def Adl (f:Nat):Prop:=∀(cx cy:Nat) (deep size A4:Int),cx<4294967296->cy<4294967296->∀w,Calls Vp.prog f #[.complex .f32 cx cy,.int .i64 deep,.int .i64 size,.int .i64 A4] w (A2g w cx cy deep size A4)
theorem A1a {cx cy:Nat}{deep size:Int}(hx:cx<4294967296)(hy:cy<4294967296)(h:Az cx cy deep size=true):∃(d s:Nat) (a b:Int),deep=d/\size=s/\d<=10/\1<=s/\s<=8/\Pt cx d a/\Pt cy d b/\a.natAbs<=4*2^d/\b.natAbs<=4*2^d:=by
 obtain⟨d,s,a,b,h1,h2,h3,h4,h5,h6,h7,h8,h9⟩:=A18 h;rw[Akr hx]at h6;rw[Akr hy]at h7
 exact⟨d,s,a,b,h1,h2,h3,h4,h5,h6,h7,h8,h9⟩
theorem A7d {B n:Nat}{xs:List Nat}{ys:List Int}{gs gm cap:Nat}{W:World}(hS:B<=gs)(hM:B<=gm)(hs:W.heap[gs]?=some (.cells (xs.map D6).toArray 74 (0,0)))(hm:W.heap[gm]?=some (.cells (ys.map Av).toArray 3 (0,0)))
 (lx:xs.length=n) (ly:ys.length=n) (hn:n=cap) (hc:cap<=64) (hx:∀x,x∈xs->x<4294967296) (hy:∀y,y∈ys->-1<=y/\y<=1):Made B n xs ys (.slice (some ⟨gs,0,none⟩) cap cap) (.slice (some ⟨gm,0,none⟩) cap cap) W:=by
 subst hn
 refine⟨⟨by simp[lx],.inr ⟨gs,n,_,rfl,hS,hs,Ai3 _,by unfold maxLen;omega,by simp[lx],?_⟩⟩,⟨by simp[ly],.inr ⟨gm,n,_,rfl,hM,hm,Ai3 _,by unfold maxLen;omega,by simp[ly],?_⟩⟩,lx,ly,hx,hy⟩
 ·exact Ajz (by simp[lx])
 ·exact Ajz (by simp[ly])
theorem Sq {α:Type}{s:Nat}{f:Nat->Nat->α}{n:Nat}{x:α}(h:x∈rowsOf s f n):∃i j,x=f i j:=by
 unfold rowsOf at h;rw[List.mem_flatMap]at h;obtain⟨i,_,h⟩:=h;rw[Aj5]at h;obtain⟨j,_,h⟩:=h
 exact⟨i,j,h.symm⟩
theorem Wp:Adl 18:=by
 intro cx cy deep size A4 hx hy w
 cases hpl:Az cx cy deep size with
 | false =>
   refine(A27 cx cy deep size A4 hpl w).mono ?_
   rintro e w' ⟨rfl,hb⟩
   exact Y9 (fun h=>by rw[Vx h]at hpl;cases hpl) hb
 | true =>
   obtain⟨d,s,a,b,rfl,rfl,hd,h1,h8,px,py,ha,hb⟩:=A1a hx hy hpl
   refine(Yx cx cy d s A4 hd h8 hpl (Rj A4 hd h8 (by rw[Akr hx];exact px) (by rw[Akr hy];exact py) ha hb) w).mono ?_
   have hall:=Xe (d:=d) (by omega) h1 ha hb
   rintro e w' ⟨hbl,⟨⟨i,j,hi,hj,hno⟩,rfl⟩ |⟨hok,smv,mkv,rfl,hM⟩⟩
   ·refine Y9 ?_ hbl
    rintro⟨d',s',a',b',e1,e2,h⟩;obtain rfl:d=d':=by omega
    obtain rfl:s=s':=by omega
    obtain rfl:=Ox px h.px;obtain rfl:=Ox py h.py;have:=hall.2 ⟨h.ga,h.gb⟩ i j hi hj;have hno:cOk a b d i j=false:=hno;rw[hno]at this
    cases this
   ·have hg:=hall.1 hok
    exact A5c ⟨hx,hy,hpl,hd,h1,h8,px,py,ha,hb,hg.1,hg.2⟩ hM hbl
theorem Ou:Adl 15:=by
 intro cx cy deep size A4 hx hy w
 cases hpl:Az cx cy deep size with
 | false =>
   refine(O7 cx cy deep size A4 hpl w).mono ?_
   rintro e w' ⟨rfl,hb⟩
   exact Y9 (fun h=>by rw[Vx h]at hpl;cases hpl) hb
 | true =>
   obtain⟨d,s,a,b,rfl,rfl,hd,h1,h8,px,py,ha,hb⟩:=A1a hx hy hpl
   refine(Mi cx cy d s A4 hd h8 hpl (Rj A4 hd h8 (by rw[Akr hx];exact px) (by rw[Akr hy];exact py) ha hb) w).mono ?_
   have hall:=Xe (d:=d) (by omega) h1 ha hb
   rintro e w' ⟨hbl,⟨⟨i,j,hi,hj,hno⟩,rfl⟩ |⟨hok,v,rfl,⟨gS,gM,rfl,l1,l2,l3,c1,c2⟩⟩⟩
   ·refine Y9 ?_ hbl
    rintro⟨d',s',a',b',e1,e2,h⟩;obtain rfl:d=d':=by omega
    obtain rfl:s=s':=by omega
    obtain rfl:=Ox px h.px;obtain rfl:=Ox py h.py;have:=hall.2 ⟨h.ga,h.gb⟩ i j hi hj;have hno:cOk a b d i j=false:=hno;rw[hno]at this
    cases this
   ·have hg:=hall.1 hok;have hss:s*s<=64:=Ajm h8 h8;have hM:=A7d l1 l2 c1 c2 (Hs s (smT cx cy d A4) s) (Hs s (stT a b d A4) s) rfl hss (fun x h=>by obtain⟨i,j,rfl⟩:=Sq h;exact Aao _ _ _) (fun y h=>by obtain⟨i,j,rfl⟩:=Sq h;exact Ab3 _ _)
    exact A5c ⟨hx,hy,hpl,hd,h1,h8,px,py,ha,hb,hg.1,hg.2⟩ hM hbl
theorem E4.n {A4:Int}{t:Ai}(h:E4 A4 t):∃d s:Nat,t.deep=d/\t.size=s/\t.n=s*s/\1<=s/\s<=8/\d<=10:=by
 obtain⟨d,s,a,b,h1,h2,h3,-,-⟩:=h
 exact⟨d,s,h1,h2,by unfold Ai.n;rw[h2];simp,h3.s1,h3.s8,h3.d10⟩
end
section
open Go.RowKit Flo
attribute [local go_sem ↓] Go.wp_at_zero Go.wp_at_succ
attribute [local go_sem] A7 A5
def A66 (w:World)(e:Ending)(w':World):Prop:=(∃(x y:Nat) (d s m b:Int),e=.returned (.tuple #[.complex .f32 x y,.int .i64 d,.int .i64 s,.int .i64 m,.int .i64 b])/\x<4294967296/\y<4294967296)/\Below w.heap.size w w'
theorem Xr (a:Option Addr)(c:Nat)(bs:List UInt8)(hn:bs.length<=1048576)(hc:bs.length<=c)(w:World)(hs:Sl w a (bs.map Cz)) :
 Calls Vp.prog 5 #[.slice a bs.length c] w (A66 w):=by
 have H:=Ai1 (A9y a c bs hn hc w hs);clear hs
 go_enter Vp.func5,Tryz.ntmps5
 go_wp2_with fail
 refine H.out.mono ?_
 rintro e w1 ⟨b,rfl,-,hR⟩
 go_wp2_with fail
 refine(A75 w b 0 (by omega) _ hR).mono ?_
 rintro e w2 ⟨⟨x,y,d,s,m,rfl,hx,hy,h1,h2⟩,⟨p0,hp0,hR2⟩,-⟩;have HF:=Ai1 (And.intro hx hy);have HR2:=Ai1 hR2;clear hR hR2 hx hy h1 h2 H
 go_wp2_with fail
 refine(Dg w b p0 6 (by omega) (by omega) _ HR2.out).mono ?_
 rintro e w3 ⟨⟨n,rfl,-,-⟩,hR3,-⟩
 go_wp2_with fail
 refine(Dg w b (p0+1) 20 (by omega) (by omega) _ hR3).mono ?_
 rintro e w4 ⟨⟨n2,rfl,-,-⟩,hR4,-⟩;have HB:=Ai1 hR4.below;clear hR3 hR4 HR2
 go_wp2
 exact Ai6 (v:=.tuple #[.complex .f32 x y,.int .i64 d,.int .i64 s,.int .i64 m,.int .i64 (wrap64 (n-wrap64 (wrap64 (n2.tdiv 19)*7)))]) (by simp[results,Tryz.f5,go_sem]) rfl ⟨⟨x,y,d,s,m,_,rfl,HF.out⟩,HB.out⟩
end
section
open Go.RowKit Flo
attribute [local go_sem ↓] Go.wp_at_zero Go.wp_at_succ
attribute [local go_sem] A7 A5
def Adv (wr:World)(px py:Nat)(d s A4:Int)(pb x y:Nat)(dd ss:Int)(a1:Option Addr)(n1 c1:Nat)(a2:Option Addr)(n2 c2:Nat)(ok:Bool)(wx:World):Prop :=
 Below wr.heap.size wr wx/\wr.heap.size<=pb/\A8 wr pb #[.complex .f32 x y,.int .i64 dd,.int .i64 ss,.slice a1 n1 c1,.slice a2 n2 c2] 35 wx /\
  (ok=true->∃t:Ai,t.cx=px/\t.cy=py/\t.deep=d/\t.size=s /\(.agg #[.complex .f32 x y,.int .i64 dd,.int .i64 ss,.slice a1 n1 c1,.slice a2 n2 c2]:Value)=.agg t.cells.toArray/\C9 wr.heap.size t wx/\E4 A4 t) /\(ok=false->¬Uu px py d s)
theorem Ag2 {wr w5:World}{px py:Nat}{d s A4:Int}{x y:Nat}{dd ss:Int}{a1:Option Addr}{n1 c1:Nat}{a2:Option Addr}{n2 c2:Nat}{ok:Bool}(hM:R8 wr.drew px py d s A4 ok (.agg #[.complex .f32 x y,.int .i64 dd,.int .i64 ss,.slice a1 n1 c1,.slice a2 n2 c2]) w5)(hb:Below wr.drew.heap.size wr.drew w5) :
 Adv wr px py d s A4 w5.heap.size x y dd ss a1 n1 c1 a2 n2 c2 ok (w5.alloc (.cells #[.complex .f32 x y,.int .i64 dd,.int .i64 ss,.slice a1 n1 c1,.slice a2 n2 c2] 35)):=by
 have h0:Below wr.heap.size wr wr.drew:=(Aq.refl _).drew.below _;have h1:Below wr.heap.size wr w5:=h0.trans hb
 refine⟨h1.alloc h1.size _,h1.size,(A8.new w5 _ _).up h1,fun hok=>?_,fun hok=>(hM.1 hok).1⟩
 obtain⟨t,e1,e2,e3,e4,e5,ht,hg⟩:=hM.2 hok
 exact⟨t,e1,e2,e3,e4,e5,ht.step ((Aik _ _).alloc (Ai3 _) _),hg⟩
theorem Ag3 {wr w5:World}{px py:Nat}{d s A4:Int}{x y:Nat}{dd ss:Int}{a1:Option Addr}{n1 c1:Nat}{a2:Option Addr}{n2 c2:Nat}{ok:Bool}
 (hM:R8 ((wr.alloc (.cells #[.complex .f32 0 0,.int .i64 0,.int .i64 0,.slice none 0 0,.slice none 0 0] 35)).drew) px py d s A4 ok (.agg #[.complex .f32 x y,.int .i64 dd,.int .i64 ss,.slice a1 n1 c1,.slice a2 n2 c2]) w5)
 (hb:Below ((wr.alloc (.cells #[.complex .f32 0 0,.int .i64 0,.int .i64 0,.slice none 0 0,.slice none 0 0] 35)).drew).heap.size ((wr.alloc (.cells #[.complex .f32 0 0,.int .i64 0,.int .i64 0,.slice none 0 0,.slice none 0 0] 35)).drew) w5) :
 Adv wr px py d s A4 wr.heap.size x y dd ss a1 n1 c1 a2 n2 c2 ok (((((w5.setCell ⟨wr.heap.size,0,none⟩ (.complex .f32 x y)).setCell ⟨wr.heap.size,1,none⟩ (.int .i64 dd)).setCell ⟨wr.heap.size,2,none⟩ (.int .i64 ss)).setCell ⟨wr.heap.size,3,none⟩ (.slice a1 n1 c1)).setCell ⟨wr.heap.size,4,none⟩ (.slice a2 n2 c2)):=by
 have X:A8 wr wr.heap.size #[.complex .f32 0 0,.int .i64 0,.int .i64 0,.slice none 0 0,.slice none 0 0] 35 w5:=((A8.new wr _ _).step ((Aq.refl _).drew.below _)).step hb;have Y:=X.I1 (Ai3 _) (.complex .f32 x y) (.int .i64 dd) (.int .i64 ss) (.slice a1 n1 c1) (.slice a2 n2 c2)
 refine⟨Y.old,Ai3 _,Y,fun hok=>?_,fun hok=>(hM.1 hok).1⟩
 obtain⟨t,e1,e2,e3,e4,e5,ht,hg⟩:=hM.2 hok
 exact⟨t,e1,e2,e3,e4,e5,(ht.mono (B':=wr.heap.size) (by simp)).Aed X (Ai3 _) _ _ _ _ _,hg⟩
def Jf (w:World)(cx cy d:Nat)(s A4:Int)(e:Ending)(w':World):Prop :=
 ((∃a0 c0,e=.returned (.tuple #[.slice a0 0 c0,.bool false])/\∃k,k<4/\¬Uu (Bi cx cy d s k).1 (Bi cx cy d s k).2 ((d:Int)+1) s) \/(∃L v,e=.returned (.tuple #[v,.bool true])/\C3 w.heap.size L v w'/\L.length=4/\∀k t,L[k]?=some t->t.cx=(Bi cx cy d s k).1/\t.cy=(Bi cx cy d s k).2/\t.deep=(d:Int)+1/\t.size=s/\E4 A4 t))/\Below w.heap.size w w'
theorem Uj (cx cy d:Nat)(s A4:Int)(hx:cx<4294967296)(hy:cy<4294967296)(hp:Az cx cy d s=true)(a a':Option Addr)(n c c':Nat)(ys:List Int)(hl:ys.length<=1048576)(hwell:C8 s n ys=true)(w:World)(hs:Sl w a' (ys.map Av)) :
 Calls Vp.prog 21 #[.agg #[.complex .f32 cx cy,.int .i64 d,.int .i64 s,.slice a n c,.slice a' ys.length c'],.int .i64 A4] w (Jf w cx cy d s A4):=by
 obtain⟨d',A,B,hd',hd,hA,hB,-,-,ha,hb⟩:=We hx hy hp;obtain rfl:d=d':=by omega
 obtain⟨h1,h2,h3,h4⟩:=Bj hp;have HWB:=Ai1 hwell;clear hwell;have R:=A8.new w #[.complex .f32 cx cy,.int .i64 d,.int .i64 s,.slice a n c,.slice a' ys.length c'] 35;have HW:=Ai1 (fun W (hW:Below w.heap.size w W)=>Pw cx cy d s hx hy hp a a' n c c' ys hl W (hs.step hW))
 have HC:=Ai1 (fun W=>Y7 cx cy d A B s hd hA hB (by omega) (by omega) (by omega) a a' n c ys.length c' W)
 have HQ:=(Sn (s:=s) hd hA hB (by omega) (by omega) (by omega)).2.2.2.2.2
 have HQ2:Hid (∀k,k<4 ->(Bi cx cy d s k).1<4294967296 /\(Bi cx cy d s k).2<4294967296):=fun k hk=>by
  obtain⟨u,v,-,-,p1,p2⟩:=HQ k hk
  exact⟨A5f p1,A5f p2⟩
 clear HQ hs hp hA hB hd';replace R:=R.alloc (.cells #[] 35);have HR:=Ai1 R;obtain⟨r0,r1,r2,r3,r4⟩:=R.Aa;have hwl:=R.lt;clear R
 go_enter Vp.func21,Tryz.ntmps21
 go_wp2_with fail
 refine(HW.out _ HR.out.old).mono ?_
 rintro e w1 ⟨rfl,hd1⟩
 cases hwb:C8 s n ys with
 | false =>
   have:=HWB.out;rw[hwb]at this
   cases this
 | true =>
   have HR1:=Ai1 (HR.out.step hd1)
   have HO1:Hid (w1.ownsRow (w.heap.size+1) 35 5 (.slice (some ⟨w.heap.size+1,0,none⟩) 0 0) 0 []):=by
    have h0:=Al6 (e:=35) (size:=5) (base:=w.heap.size+1) (w.alloc (.cells #[.complex .f32 cx cy,.int .i64 d,.int .i64 s,.slice a n c,.slice a' ys.length c'] 35)) #[] 0 (by simp) (by decide) rfl
    rw[Aim]at h0
    exact Ab h0 hd1
   obtain⟨r0,r1,r2,r3,r4⟩:=HR1.out.Aa;have hsz1:w.heap.size+1<w1.heap.size:=by have:=hd1.size;simp at this;omega
   clear hd1 hwb
   go_wp2_with fail
   refine(HC.out _).mono ?_
   rintro e w2 ⟨qb,rfl,hqb,hX⟩;have HX:=Ai1 (hX.up HR1.out.old);have HR2:=Ai1 (HR1.out.step hX.old);have HT2:Hid (C3 (w.heap.size+1) [] (.slice (some ⟨w.heap.size+1,0,none⟩) 0 0) w2):=⟨Ab HO1.out hX.old,fun t ht=>by cases ht⟩
   have hqw:w.heap.size+1<qb:=by omega
   clear hX HR1 HO1 r0 r1 r2 r3 r4;obtain⟨iT,hiT,hzT0,hzT1,hzT2⟩:=Ajw A9i
   go_wp2
   go_loopw [6,8] (fun o i wr=>∃(k g cap:Nat) (L:List Ai),k<=4/\i=.int .i64 k/\o=.slice (some ⟨g,0,none⟩) k cap/\Hid (L.length=k)/\Hid (A8 w w.heap.size #[.complex .f32 cx cy,.int .i64 d,.int .i64 s,.slice a n c,.slice a' ys.length c'] 35 wr)/\Hid (A8 w qb (Kt cx cy d s) 23 wr)/\Hid (C3 (w.heap.size+1) L (.slice (some ⟨g,0,none⟩) k cap) wr)/\Hid (∀j t,L[j]?=some t->t.cx=(Bi cx cy d s j).1/\t.cy=(Bi cx cy d s j).2/\t.deep=(d:Int)+1/\t.size=s/\E4 A4 t)) (fun _ i _=>(4-intOf i).toNat)
   case atStart=>exact⟨0,w.heap.size+1,0,[],by omega,rfl,rfl,rfl,HR2.out,HX.out,HT2.out,fun j t h=>by simp at h⟩
   case round =>
    clear HR2 HX HT2;obtain⟨k,g,cap,L,hk,rfl,rfl,HL,HR,HX,HT,HQL⟩:=hrel
    by_cases hlt:k<4
    ·have x0:=HX.out.cell k _ (A78 cx cy d s k hlt);obtain⟨r0,r1,r2,r3,r4⟩:=HR.out.Aa;have hq2:=HQ2.out k hlt;have e1:IntKind.i64.wrap ((d:Int)+1)=(d:Int)+1:=Ajh _ (by omega)
     have HF:Hid (∀W,Below wr.heap.size wr W->A8 w w.heap.size #[.complex .f32 cx cy,.int .i64 d,.int .i64 s,.slice a n c,.slice a' ys.length c'] 35 W/\A8 w qb (Kt cx cy d s) 23 W/\C3 (w.heap.size+1) L (.slice (some ⟨g,0,none⟩) k cap) W):=fun W h=>⟨HR.out.step h,HX.out.step h,HT.out.step h⟩
     have hszw:=HR.out.lt;have hqx:=HX.out.lt;generalize hpx:(Bi cx cy d s k).1=px at *;generalize hpy:(Bi cx cy d s k).2=py at *;have HPX:=Ai1 hpx;have HPY:=Ai1 hpy;clear hpx hpy
     go_upto_region 8 with fail
     go_cut [9,10]from 18 to 44 (fun p o wx=>∃(pb x y:Nat) (dd ss:Int) (a1:Option Addr) (n1 c1:Nat) (a2:Option Addr) (n2 c2:Nat) (ok:Bool),p=.pointer (some ⟨pb,0,none⟩)/\o=.bool ok/\Adv wr px py ((d:Int)+1) s A4 pb x y dd ss a1 n1 c1 a2 n2 c2 ok wx)
     case first =>
      go_region_with (first
       |(go_at_call 18
         refine(Wp px py _ _ _ hq2.1 hq2.2 _).mono ?_
         rintro e w5 ⟨⟨x,y,dd,ss,a1,n1,c1,a2,n2,c2,ok,rfl,hM⟩,hb5⟩
         first
          |(have Z:=(A8.new wr.drew #[.complex .f32 0 0,.int .i64 0,.int .i64 0,.slice none 0 0,.slice none 0 0] 35).step hb5
            have z0:w5.cell? ⟨wr.heap.size,0,none⟩=some (.complex .f32 0 0):=Z.cell 0 _ rfl;have z1:w5.cell? ⟨wr.heap.size,1,none⟩=some (.int .i64 0):=Z.cell 1 _ rfl;have z2:w5.cell? ⟨wr.heap.size,2,none⟩=some (.int .i64 0):=Z.cell 2 _ rfl;have z3:w5.cell? ⟨wr.heap.size,3,none⟩=some (.slice none 0 0):=Z.cell 3 _ rfl;have z4:w5.cell? ⟨wr.heap.size,4,none⟩=some (.slice none 0 0):=Z.cell 4 _ rfl;have f0:w5.frozen? ⟨wr.heap.size,0,none⟩=false:=Z.frozen 0;have f1:w5.frozen? ⟨wr.heap.size,1,none⟩=false:=Z.frozen 1;have f2:w5.frozen? ⟨wr.heap.size,2,none⟩=false:=Z.frozen 2;have f3:w5.frozen? ⟨wr.heap.size,3,none⟩=false:=Z.frozen 3;have f4:w5.frozen? ⟨wr.heap.size,4,none⟩=false:=Z.frozen 4;clear Z)
          | skip))
      all_goals
       go_wp2_with fail
       go_meet
       first
        |(with_reducible exact⟨w5.heap.size,x,y,dd,ss,a1,n1,c1,a2,n2,c2,ok,rfl,rfl,Ag2 hM hb5⟩)
        |(with_reducible exact⟨wr.heap.size,x,y,dd,ss,a1,n1,c1,a2,n2,c2,ok,rfl,rfl,Ag3 hM hb5⟩)
     case rest =>
      obtain⟨pb,x,y,dd,ss,a1,n1,c1,a2,n2,c2,ok,rfl,rfl,hcutp⟩:=hcut;obtain⟨hbc,hpb,hbx,hres,hno⟩:=hcutp;have HNO:=Ai1 hno;clear hno;obtain⟨R3,X3,T3⟩:=HF.out _ hbc;have hres2:=Ai1 hres;have hsc:=R3.lt;obtain⟨p0,p1,p2,p3,p4⟩:=hbx.Aa;have hpl:=hbx.lt;have HR3:=Ai1 R3;have HX3:=Ai1 X3;have HT3:=Ai1 T3;clear hres hbc hbx R3 X3 T3 HF HR HX HT r0 r1 r2 r3 r4 x0 e1
      cases ok with
      | false =>
        have HB:=Ai1 (HR3.out.old.alloc (by omega) (.cells #[] 35))
        go_wp2
        go_ret2
        exact⟨.inl ⟨_,_,rfl,k,hlt,by rw[HPX.out,HPY.out];exact HNO.out (by first|rfl|trivial)⟩,HB.out⟩
      | true =>
        obtain⟨t,e1,e2,e3,e4,e5,ht,hgood⟩:=hres2.out rfl;have HGD:=Ai1 hgood;clear hgood;have HTo:=Ai1 ht
        have HC5:Hid ([.complex .f32 x y,.int .i64 dd,.int .i64 ss,.slice a1 n1 c1,.slice a2 n2 c2]=t.cells):=by
         injection e5 with e5
         have:=congrArg Array.toList e5
         exact this
        have HE:Hid (t.cx=(Bi cx cy d s k).1/\t.cy=(Bi cx cy d s k).2/\t.deep=(d:Int)+1/\t.size=s/\E4 A4 t):=by
         refine⟨e1.trans HPX.out.symm,e2.trans HPY.out.symm,e3,e4,HGD.out⟩
        have hbs:w.heap.size+1<=wc.heap.size:=by omega
        have HL2:Hid (∀j t',(L++[t])[j]?=some t'->t'.cx=(Bi cx cy d s j).1/\t'.cy=(Bi cx cy d s j).2/\t'.deep=(d:Int)+1/\t'.size=s/\E4 A4 t'):=fun j t' hj=>by
         have hLk:=HL.out
         by_cases hjk:j<L.length
         ·rw[Aka hjk]at hj
          exact HQL.out j t' hj
         ·rw[Akq (by omega)]at hj
          by_cases h0:j-L.length=0
          ·rw[h0]at hj;injection hj with hj
           obtain rfl:j=k:=by omega
           rw[<-hj];exact HE.out
          ·rw[Am8 (by simp;omega)]at hj;cases hj
        clear e1 e2 e3 e4 e5 ht hres2
        go_wp2_with (at_builtin;refine wpList_append_lies _ rfl _ _ _ rfl (w.heap.size+1) 35 iT _ 5 72 (Vp.Di Tryz.underlying56) hiT hzT0 hzT1 hzT2 rfl (by omega) _ k (Ac L) rfl (by rw[<-HL.out];have:=(HT3.out.row.alloc (.cells #[.complex .f32 x y,.int .i64 dd,.int .i64 ss,.slice a1 n1 c1,.slice a2 n2 c2] 35));rw[HL.out]at this ⊢;exact this) ⟨wc.heap.size,0,none⟩ 1 1 [.complex .f32 x y,.int .i64 dd,.int .i64 ss,.slice a1 n1 c1,.slice a2 n2 c2] rfl rfl (World.news_of_block (cs:=#[.complex .f32 x y,.int .i64 dd,.int .i64 ss,.slice a1 n1 c1,.slice a2 n2 c2]) (t:=35) (fr:=(0,0)) (Ak6 wc _)) (by intro u hu;simp only[Ajf,Aja,Akv]at hu;rcases hu with rfl|rfl|rfl|rfl|rfl<;>rfl) (by omega) (by unfold maxLen;omega) (by omega) (by simp;omega) (wc.heap.size+1) (by simp) ?_;intro g8 c8 w8 hown hgrow _ _)
        have T9:=HT3.out.step ((Aik _ _).alloc (Ai3 _) (.cells #[.complex .f32 x y,.int .i64 dd,.int .i64 ss,.slice a1 n1 c1,.slice a2 n2 c2] 35));have R9:=HR3.out.alloc (.cells #[.complex .f32 x y,.int .i64 dd,.int .i64 ss,.slice a1 n1 c1,.slice a2 n2 c2] 35);have X9:=HX3.out.alloc (.cells #[.complex .f32 x y,.int .i64 dd,.int .i64 ss,.slice a1 n1 c1,.slice a2 n2 c2] 35);have t9:=HTo.out.step ((Aik _ _).alloc (Ai3 _) (.cells #[.complex .f32 x y,.int .i64 dd,.int .i64 ss,.slice a1 n1 c1,.slice a2 n2 c2] 35));have hg:w.heap.size+1<=g:=Yc T9.row;have hrow:∀j,(some g:Option Nat)=some j->w.heap.size<=j:=fun j hj=>by injection hj with hj;omega
        have HR8:=Ai1 (R9.grown (row:=some g) hgrow (fun e=>by injection e with e;omega) hrow)
        have HX8:=Ai1 (X9.grown (row:=some g) hgrow (Af T9.row X9.blk (by decide)) hrow)
        have HT8:Hid (C3 (w.heap.size+1) (L++[t]) (.slice (some ⟨g8,0,none⟩) (k+1) c8) w8):=by
         refine⟨?_,fun t' ht'=>?_⟩
         ·rw[Aje,HL.out,Pf,<-HC5.out]
          exact hown
         ·rcases Ajd.1 ht' with h|h
          ·exact(T9.own t' h).grown T9.row hgrow
          ·rw[Ake]at h;rw[h]
           exact(t9.grown T9.row hgrow).mono (by omega)
        clear T9 R9 X9 t9 hown hgrow
        go_roundw
        case rel=>exact⟨k+1,g8,c8,L++[t],by omega,by go_num,rfl,by show(L++[t]).length=k+1;rw[Aje,HL.out];rfl,HR8,HX8,HT8,HL2⟩
        case measure=>simp[intOf];omega
    ·have HT4:Hid (C3 w.heap.size L (.slice (some ⟨g,0,none⟩) k cap) wr):=HT.out.mono (by omega)
     go_wp2
     go_ret2
     exact⟨.inr ⟨L,_,rfl,HT4.out,by have:=HL.out;omega,HQL.out⟩,HR.out.old⟩
end
section
open Go.RowKit
attribute [local go_sem] A7 A5
structure Pc (B:Nat)(a1:Option Addr)(c1:Nat)(a2:Option Addr)(c2 cx cy:Nat)(deep size:Int)(xs:List Nat)(ys:List Int)(w':World):Prop where
 s1:Sl w' a1 (xs.map D6)
 s2:Sl w' a2 (ys.map Av)
 k1:xs.length<=c1
 k2:ys.length<=c2
 n1:∀g o s,a1=some ⟨g,o,s⟩->B<=g
 n2:∀g o s,a2=some ⟨g,o,s⟩->B<=g
 hx:∀x,x∈xs->x<4294967296
 hy:∀y,y∈ys->-1<=y/\y<=2
 bx:cx<4294967296
 by1:cy<4294967296
 pl:Az cx cy deep size=true
 ly:ys.length=size.toNat*size.toNat
 lx:xs.length=ys.length\/xs.length+1=ys.length
theorem Pc.step {B:Nat}{a1:Option Addr}{c1:Nat}{a2:Option Addr}{c2 cx cy:Nat}{deep size:Int}{xs:List Nat}{ys:List Int}{w w':World}(h:Pc B a1 c1 a2 c2 cx cy deep size xs ys w)(k:Below w.heap.size w w'):Pc B a1 c1 a2 c2 cx cy deep size xs ys w' :=
 ⟨h.s1.step k,h.s2.step k,h.k1,h.k2,h.n1,h.n2,h.hx,h.hy,h.bx,h.by1,h.pl,h.ly,h.lx⟩
theorem Pc.lim {B:Nat}{a1:Option Addr}{c1:Nat}{a2:Option Addr}{c2 cx cy:Nat}{deep size:Int}{xs:List Nat}{ys:List Int}{w:World}(h:Pc B a1 c1 a2 c2 cx cy deep size xs ys w):1<=size/\size<=8/\0<=deep/\deep<=10/\1<=ys.length/\ys.length<=64/\xs.length<=64 /\(ys.length:Int)=size*size:=by
 obtain⟨h1,h2,h3,h4⟩:=Bj h.pl;obtain⟨s,rfl⟩:=Ajc (show 0<=size by omega)
 have hl:=h.ly;rw[Ajk]at hl;have h5:s*s<=8*8:=Ajm (by omega) (by omega)
 have h6:1*1<=s*s:=Ajm (by omega) (by omega)
 have h7:=h.lx
 refine⟨h3,h4,h1,h2,by omega,by omega,by omega,?_⟩
 rw[hl];simp
end
section
def cnt (v:Int)(ys:List Int):Nat:=(ys.filter (fun y=>decide (y=v))).length
theorem A8r (v y:Int)(ys:List Int):cnt v (ys++[y])=cnt v ys+if y=v then 1 else 0:=by
 unfold cnt;rw[List.filter_append,Aje]
 by_cases h:y=v
 ·rw[List.filter_cons_of_pos (by simpa using h),Aij h];rfl
 ·rw[List.filter_cons_of_neg (by simpa using h),Aid h];rfl
theorem Rl (v:Int)(ys:List Int)(k:Nat)(h:k<ys.length):cnt v (ys.take (k+1))=cnt v (ys.take k)+if ys[k]=v then 1 else 0:=by
 rw[<-List.take_append_getElem h,A8r]
theorem Ae8 (v:Int)(ys:List Int):cnt v ys<=ys.length:=List.length_filter_le _ _
end
section
def isM (Y:Nat->List Int)(v:Int)(p:Nat×Nat):Bool:=decide ((Y p.1).getD p.2 0=v)
end
section
open Go.RowKit Flo
structure JT where
 cx:Nat
 cy:Nat
 deep:Int
 size:Int
 a1:Option Addr
 c1:Nat
 a2:Option Addr
 c2:Nat
 xs:List Nat
 ys:List Int
def JT.cells (t:JT):List Value:=[.complex .f32 t.cx t.cy,.int .i64 t.deep,.int .i64 t.size,.slice t.a1 t.xs.length t.c1,.slice t.a2 t.ys.length t.c2]
def JT.Ok (t:JT)(B:Nat)(W:World):Prop:=Pc B t.a1 t.c1 t.a2 t.c2 t.cx t.cy t.deep t.size t.xs t.ys W
structure JIn (B g:Nat)(L:List JT)(W:World):Prop where
 cell:∀(k j:Nat) (t:JT) (v:Value),L[k]?=some t->t.cells[j]?=some v->W.cell? ⟨g,k*5+j,none⟩=some v
 own:∀t,t∈L->t.Ok B W
theorem JIn.Aa {B g:Nat}{L:List JT}{W:World}(h:JIn B g L W){k:Nat}{t:JT}(ht:L[k]?=some t) :
 W.cell? ⟨g,k*5,none⟩=some (.complex .f32 t.cx t.cy)/\W.cell? ⟨g,k*5+1,none⟩=some (.int .i64 t.deep)/\W.cell? ⟨g,k*5+2,none⟩=some (.int .i64 t.size)/\W.cell? ⟨g,k*5+3,none⟩=some (.slice t.a1 t.xs.length t.c1)/\W.cell? ⟨g,k*5+4,none⟩=some (.slice t.a2 t.ys.length t.c2) :=
 ⟨h.cell k 0 t _ ht rfl,h.cell k 1 t _ ht rfl,h.cell k 2 t _ ht rfl,h.cell k 3 t _ ht rfl,h.cell k 4 t _ ht rfl⟩
theorem JIn.step {B g:Nat}{L:List JT}{W W':World}(h:JIn B g L W)(k:Below W.heap.size W W'):JIn B g L W' :=
 ⟨fun i j t v ht hv=>by
  have h1:=h.cell i j t v ht hv
  exact(k.cell (p:=⟨g,i*5+j,none⟩) (Aix W _ h1)).trans h1,fun t ht=>Pc.step (h.own t ht) k⟩
def JT.of (t:Ai):JT:=⟨t.cx,t.cy,t.deep,t.size,some ⟨t.gs,0,none⟩,t.cs,some ⟨t.gm,0,none⟩,t.cm,t.xs,t.ys⟩
theorem C9.A8p {B:Nat}{t:Ai}{W:World}(h:C9 B t W):(JT.of t).cells=t.cells:=by
 obtain⟨h1,h2⟩:=h.lens;unfold JT.cells JT.of Ai.cells;dsimp only;rw[h1,h2]
theorem C9.ok {B:Nat}{t:Ai}{W:World}(h:C9 B t W):(JT.of t).Ok B W:=by
 obtain⟨h1,h2⟩:=h.lens;have b1:=Yc h.made.S;have b2:=Yc h.made.M
 exact⟨Dv h.made.S,Dv h.made.M,by show t.xs.length<=t.cs;rw[h1];exact h.ks,by show t.ys.length<=t.cm;rw[h2];exact h.km,fun g o s e=>by injection e with e;injection e with e;omega,fun g o s e=>by injection e with e;injection e with e;omega,h.made.hx,fun y hy=>by have:=h.made.hy y hy;omega,h.bx,h.by1,h.pl,h2,.inl (h1.trans h2.symm)⟩
theorem Oj:∀(L:List Ai) (k j:Nat) (t:Ai) (v:Value),L[k]?=some t->t.cells[j]?=some v ->(Ac L)[k*5+j]?=some v
 | [],k,j,t,v,h,_=>by simp at h
 | u :: L,0,j,t,v,h,hv=>by
   have e:u=t:=by simpa using h
   subst e
   show(u.cells++Ac L)[0*5+j]?=_
   have hj:j<5:=(Aii.1 hv).1;rw[Aka (by show 0*5+j<5;omega),Nat.zero_mul,Ak1]
   exact hv
 | u :: L,k+1,j,t,v,h,hv=>by
   show(u.cells++Ac L)[(k+1)*5+j]?=_
   rw[Akq (by show 5 <=(k+1)*5+j;omega)]
   show(Ac L)[(k+1)*5+j-5]?=_
   rw[show(k+1)*5+j-5=k*5+j by omega]
   exact Oj L k j t v (by simpa using h) hv
theorem C3.jin {B:Nat}{L:List Ai}{g cap:Nat}{W:World}(h:C3 B L (.slice (some ⟨g,0,none⟩) L.length cap) W):JIn B g (L.map JT.of) W:=by
 refine⟨fun k j t v ht hv=>?_,fun t ht=>?_⟩
 ·rw[Aiw]at ht;obtain⟨u,hu,rfl⟩:=Aif.1 ht;have hm:=Aiu hu;rw[(h.own u hm).A8p]at hv;have hk:k<L.length:=(Aii.1 hu).1;have hj:j<5:=(Aii.1 hv).1;rw[h.row.cellAt (k*5+j) (by omega)]
  exact Oj L k j u v hu hv
 ·obtain⟨u,hu,rfl⟩:=Aj5.1 ht
  exact(h.own u hu).ok
end
section
open Go.RowKit Flo
attribute [local go_sem] A7 A5
def A4n (cx cy d:Nat)(s:Int):Prop :=
 floatBits .mul .f32 (floatOfInt .f32 s) (D7 (d+1))=some (E6 d s)/\floatBits .add .f32 cx (E6 d s)=some (Ez cx (E6 d s))/\floatBits .add .f32 cy (E6 d s)=some (Ez cy (E6 d s))/\floatBits .add .f32 cx 0=some (Ez cx 0)/\floatBits .add .f32 cy 0=some (Ez cy 0)
theorem Aa6 {cx cy d:Nat}{A B s:Int}(hd:d<=10)(hx:Pt cx (d+1) A)(hy:Pt cy (d+1) B)(hA:A.natAbs<=16384)(hB:B.natAbs<=16384)(hs:s.natAbs<=100):A4n cx cy d s:=by
 have f:=A4x (s:=s) hd (by omega)
 have z:=A5h (d+1);have h1:=I7 (by omega) hx f.2 (by omega)
 have h2:=I7 (by omega) hy f.2 (by omega)
 have h3:=I7 (by omega) hx z (by omega)
 have h4:=I7 (by omega) hy z (by omega)
 exact⟨f.1,h1.1,h2.1,h3.1,h4.1⟩
theorem Nt (cx cy d:Nat)(s:Int)(hd:d<=10)(hq:A4n cx cy d s)(w:World) :
 Calls Vp.prog 53 #[.complex .f32 cx cy,.int .i64 d,.int .i64 s] w fun e w'=>e=.returned (.agg (Kt cx cy d s))/\Below w.heap.size w w':=by
 obtain⟨h1,h2,h3,h4,h5⟩:=hq;have R:=A8.new w #[.complex .f32 0 0,.complex .f32 0 0,.complex .f32 0 0,.complex .f32 0 0] 101;have g0:=fun w=>Aj6 (P:=Vp.prog) w .mul 74 .f32 _ _ _ h1
 have g1:=fun w=>All (P:=Vp.prog) w .add (.inl rfl) 23 .f32 cx cy (E6 d s) 0 _ _ (by unfold cSumBits;rw[h2,h5];rfl)
 have g2:=fun w=>All (P:=Vp.prog) w .add (.inl rfl) 23 .f32 cx cy 0 (E6 d s) _ _ (by unfold cSumBits;rw[h4,h3];rfl)
 have g3:=fun w=>All (P:=Vp.prog) w .add (.inl rfl) 23 .f32 cx cy (E6 d s) (E6 d s) _ _ (by unfold cSumBits;rw[h2,h3];rfl)
 have HS:Hid (∀w,Calls Vp.prog 56 #[.int .i64 ((d:Int)+1)] w fun e w'=>e=.returned (.float .f32 (D7 (d+1)))/\w=w'):=fun w=>Wk (d+1) (by omega) w
 unfold Kt;clear h1 h2 h3 h4 h5;generalize Ez cx (E6 d s)=x1 at *;generalize Ez cy (E6 d s)=y1 at *;generalize Ez cx 0=x0 at *;generalize Ez cy 0=y0 at *;generalize E6 d s=f at *;generalize D7 (d+1)=sd at *;have e1:IntKind.i64.wrap ((d:Int)+1)=(d:Int)+1:=Ajh _ (by omega)
 clear R
 go_enter Vp.func53,Tryz.ntmps53
 go_wp2_with (go_at_call 56;refine(HS.out _).mono ?_;rintro e w' ⟨rfl,rfl⟩)
 exact Ai6 (v:=.agg #[.complex .f32 cx cy,.complex .f32 x1 y0,.complex .f32 x0 y1,.complex .f32 x1 y1]) (by simp[results,Tryz.f53,go_sem]) rfl ⟨rfl,(Aik _ _).alloc (Ai3 _) _⟩
end
section
open Go.RowKit Flo
attribute [local go_sem ↓] Go.wp_at_zero Go.wp_at_succ
attribute [local go_sem] A7 A5
theorem A0o (cx cy d:Nat)(s:Int)(k:Nat)(h:k<4)(w:World):(Instr.index 101 (.agg (Kt cx cy d s)) (.int .i64 k)).run Vp.prog w=.ok (.complex .f32 (Bi cx cy d s k).1 (Bi cx cy d s k).2) w:=by
 rcases(by omega:k=0\/k=1\/k=2\/k=3)with rfl|rfl|rfl|rfl<;>kernel_rfl
theorem Ua (cx cy d:Nat)(s A4:Int)(hx:cx<4294967296)(hy:cy<4294967296)(hp:Az cx cy d s=true)(a a':Option Addr)(n c c':Nat)(ys:List Int)(hl:ys.length<=1048576)(hwell:C8 s n ys=true)(w:World)(hs:Sl w a' (ys.map Av)) :
 Calls Vp.prog 26 #[.agg #[.complex .f32 cx cy,.int .i64 d,.int .i64 s,.slice a n c,.slice a' ys.length c'],.int .i64 A4] w (Jf w cx cy d s A4):=by
 obtain⟨d',A,B,hd',hd,hA,hB,-,-,ha,hb⟩:=We hx hy hp;obtain rfl:d=d':=by omega
 obtain⟨h1,h2,h3,h4⟩:=Bj hp;have HW:=Ai1 (fun W (hW:Below w.heap.size w W)=>Pm cx cy d s hx hy hp a a' n c c' ys hl W (hs.step hW))
 rw[hwell]at HW;have HQ:=(Sn (s:=s) hd hA hB (by omega) (by omega) (by omega)).2.2.2.2.2
 have HQ2:Hid (∀k,k<4 ->(Bi cx cy d s k).1<4294967296 /\(Bi cx cy d s k).2<4294967296):=fun k hk=>by
  obtain⟨u,v,-,-,p1,p2⟩:=HQ k hk
  exact⟨A5f p1,A5f p2⟩
 have HC:=Ai1 (fun W=>Nt cx cy d s hd (Aa6 hd (A5g hd hA) (A5g hd hB) (by omega) (by omega) (by omega)) W)
 have R:=A8.new w #[.complex .f32 cx cy,.int .i64 d,.int .i64 s,.slice a n c,.slice a' ys.length c'] 35;clear HQ hs hp hA hB hd' hwell;have HR:=Ai1 R;obtain⟨r0,r1,r2,r3,r4⟩:=R.Aa;have hwl:=R.lt;clear R;obtain⟨iT,hiT,hzT0,hzT1,hzT2⟩:=Ajw A9i;obtain⟨cT,hcT,hT⟩:=F7 (P:=Vp.prog) 56 35 iT _ (Vp.Di Tryz.underlying56) hiT hzT0 4 (by omega) (by omega)
 have hT4:∀w:World,(Instr.makeSlice 56 (.int .i64 0) (.int .i64 4)).run Vp.prog w=.ok (.slice (some ⟨w.heap.size,0,none⟩) 0 4) (w.alloc (.cells cT 35)):=hT;have hcT2:cT.size=4*5:=by rw[hcT,hzT1]
 go_enter Vp.func26,Tryz.ntmps26
 go_wp2_with fail
 refine(HW.out _ HR.out.old).mono ?_
 rintro e w1 ⟨rfl,hd1⟩;have HR1:=Ai1 ((HR.out.step hd1).alloc (.cells cT 35));have hsz1:w.heap.size<w1.heap.size:=(HR.out.step hd1).lt
 have HT1:Hid (C3 (w.heap.size+1) [] (.slice (some ⟨w1.heap.size,0,none⟩) 0 4) (w1.alloc (.cells cT 35))) :=
  ⟨⟨by simp[Ac],.inr ⟨w1.heap.size,4,cT,rfl,hsz1,Ak6 w1 _,by simp,by unfold maxLen;omega,hcT2,by simp[Ac]⟩⟩,fun t ht=>by cases ht⟩
 clear hd1 r0 r1 r2 r3 r4 HR HW;obtain⟨r0,r1,r2,r3,r4⟩:=HR1.out.Aa
 go_wp2_with fail
 refine(HC.out _).mono ?_
 rintro e w2 ⟨rfl,hd2⟩;have HR2:=Ai1 (HR1.out.step hd2);have HT2:=Ai1 (HT1.out.step hd2);clear hd2 r0 r1 r2 r3 r4 HR1 HT1 HC hT hT4 hcT hcT2;have HIX:=Ai1 (A0o cx cy d s)
 go_wp2
 generalize w1.heap.size=g0 at *
 go_loopw [6,23] (fun o i wr=>∃(k g cap:Nat) (L:List Ai),k<=4/\i=.int .i64 k/\o=.slice (some ⟨g,0,none⟩) k cap/\Hid (L.length=k)/\Hid (A8 w w.heap.size #[.complex .f32 cx cy,.int .i64 d,.int .i64 s,.slice a n c,.slice a' ys.length c'] 35 wr)/\Hid (C3 (w.heap.size+1) L (.slice (some ⟨g,0,none⟩) k cap) wr)/\Hid (∀j t,L[j]?=some t->t.cx=(Bi cx cy d s j).1/\t.cy=(Bi cx cy d s j).2/\t.deep=(d:Int)+1/\t.size=s/\E4 A4 t)) (fun _ i _=>(4-intOf i).toNat)
 case atStart=>exact⟨0,g0,4,[],by omega,rfl,rfl,rfl,HR2.out,HT2.out,fun j t h=>by simp at h⟩
 case round =>
  clear HR2 HT2;obtain⟨k,g,cap,L,hk,rfl,rfl,HL,HR,HT,HQL⟩:=hrel;obtain⟨wo,rfl⟩:∃wo,wo=wr:=⟨_,rfl⟩
  by_cases hlt:k<4
  ·have hix:=HIX.out k hlt;obtain⟨r0,r1,r2,r3,r4⟩:=HR.out.Aa;have hq2:=HQ2.out k hlt;have e1:IntKind.i64.wrap ((d:Int)+1)=(d:Int)+1:=Ajh _ (by omega)
   have hszw:=HR.out.lt;generalize hpx:(Bi cx cy d s k).1=px at *;generalize hpy:(Bi cx cy d s k).2=py at *;have HPX:=Ai1 hpx;have HPY:=Ai1 hpy;clear hpx hpy
   go_wp2_with fail
   refine(Ou px py _ _ _ hq2.1 hq2.2 _).mono ?_
   rintro e w5 ⟨⟨x,y,dd,ss,a1,n1,c1,a2,n2,c2,ok,rfl,hM⟩,hb5⟩;clear r0 r1 r2 r3 r4 hix e1;have HB5:=Ai1 hb5;have HR5:=Ai1 ((HR.out.step hb5).alloc (.cells #[.complex .f32 x y,.int .i64 dd,.int .i64 ss,.slice a1 n1 c1,.slice a2 n2 c2] 35));have HT5:=Ai1 ((HT.out.step hb5).step ((Aik _ _).alloc (Ai3 _) (.cells #[.complex .f32 x y,.int .i64 dd,.int .i64 ss,.slice a1 n1 c1,.slice a2 n2 c2] 35)));have hsz5:=hb5.size;have Z:=A8.new w5 #[.complex .f32 x y,.int .i64 dd,.int .i64 ss,.slice a1 n1 c1,.slice a2 n2 c2] 35;obtain⟨p0,p1,p2,p3,p4⟩:=Z.Aa;have HM:=Ai1 hM;clear hM hb5 Z
   cases ok with
   | false =>
     have HB:=Ai1 (HR5.out.old.alloc (by simp;omega) (.cells #[] 35))
     have HNO:=Ai1 (HM.out.1 rfl).1
     go_wp2
     go_ret2
     exact⟨.inl ⟨_,_,rfl,k,hlt,by rw[HPX.out,HPY.out];exact HNO.out⟩,HB.out⟩
   | true =>
     obtain⟨t,e1,e2,e3,e4,e5,ht,hgood⟩:=HM.out.2 rfl;have HTo:Hid (C9 wo.heap.size t (w5.alloc (.cells #[.complex .f32 x y,.int .i64 dd,.int .i64 ss,.slice a1 n1 c1,.slice a2 n2 c2] 35))):=ht.step ((Aik _ _).alloc (Ai3 _) _)
     have HC5:Hid ([.complex .f32 x y,.int .i64 dd,.int .i64 ss,.slice a1 n1 c1,.slice a2 n2 c2]=t.cells):=by
      injection e5 with e5
      have:=congrArg Array.toList e5
      exact this
     have HE:Hid (t.cx=(Bi cx cy d s k).1/\t.cy=(Bi cx cy d s k).2/\t.deep=(d:Int)+1/\t.size=s/\E4 A4 t):=by
      refine⟨e1.trans HPX.out.symm,e2.trans HPY.out.symm,e3,e4,hgood⟩
     have hbs:w.heap.size+1<=w5.heap.size:=by omega
     have HL2:Hid (∀j t',(L++[t])[j]?=some t'->t'.cx=(Bi cx cy d s j).1/\t'.cy=(Bi cx cy d s j).2/\t'.deep=(d:Int)+1/\t'.size=s/\E4 A4 t'):=fun j t' hj=>by
      have hLk:=HL.out
      by_cases hjk:j<L.length
      ·rw[Aka hjk]at hj
       exact HQL.out j t' hj
      ·rw[Akq (by omega)]at hj
       by_cases h0:j-L.length=0
       ·rw[h0]at hj;injection hj with hj
        obtain rfl:j=k:=by omega
        rw[<-hj];exact HE.out
       ·rw[Am8 (by simp;omega)]at hj;cases hj
     clear e1 e2 e3 e4 e5 ht hgood HM
     go_wp2_with (at_builtin;go_must (refine wpList_append_lies _ rfl _ _ _ rfl (w.heap.size+1) 35 iT _ 5 72 (Vp.Di Tryz.underlying56) hiT hzT0 hzT1 hzT2 rfl (by omega) _ k (Ac L) rfl (by rw[<-HL.out];have:=(HT5.out.row.alloc (.cells #[.complex .f32 x y,.int .i64 dd,.int .i64 ss,.slice a1 n1 c1,.slice a2 n2 c2] 35));rw[HL.out]at this ⊢;exact this) ⟨w5.heap.size+1,0,none⟩ 1 1 [.complex .f32 x y,.int .i64 dd,.int .i64 ss,.slice a1 n1 c1,.slice a2 n2 c2] rfl rfl (World.news_of_block (cs:=#[.complex .f32 x y,.int .i64 dd,.int .i64 ss,.slice a1 n1 c1,.slice a2 n2 c2]) (t:=35) (fr:=(0,0)) (by have:=Ak6 (w5.alloc (.cells #[.complex .f32 x y,.int .i64 dd,.int .i64 ss,.slice a1 n1 c1,.slice a2 n2 c2] 35)) (.cells #[.complex .f32 x y,.int .i64 dd,.int .i64 ss,.slice a1 n1 c1,.slice a2 n2 c2] 35);rw[Aim]at this;exact this)) (by intro u hu;simp only[Ajf,Aja,Akv]at hu;rcases hu with rfl|rfl|rfl|rfl|rfl<;>rfl) (by omega) (by unfold maxLen;omega) (by omega) (by simp;omega) (w5.heap.size+1+1) (by simp) ?_);intro g8 c8 w8 hown hgrow _ _)
     have T9:=HT5.out.step ((Aik _ _).alloc (Ai3 _) (.cells #[.complex .f32 x y,.int .i64 dd,.int .i64 ss,.slice a1 n1 c1,.slice a2 n2 c2] 35));have R9:=HR5.out.alloc (.cells #[.complex .f32 x y,.int .i64 dd,.int .i64 ss,.slice a1 n1 c1,.slice a2 n2 c2] 35);have t9:=HTo.out.step ((Aik _ _).alloc (Ai3 _) (.cells #[.complex .f32 x y,.int .i64 dd,.int .i64 ss,.slice a1 n1 c1,.slice a2 n2 c2] 35));have hg:w.heap.size+1<=g:=Yc T9.row;have hrow:∀j,(some g:Option Nat)=some j->w.heap.size<=j:=fun j hj=>by injection hj with hj;omega
     have HR8:=Ai1 (R9.grown (row:=some g) hgrow (fun e=>by injection e with e;omega) hrow)
     have HT8:Hid (C3 (w.heap.size+1) (L++[t]) (.slice (some ⟨g8,0,none⟩) (k+1) c8) w8):=by
      refine⟨?_,fun t' ht'=>?_⟩
      ·rw[Aje,HL.out,Pf,<-HC5.out]
       exact hown
      ·rcases Ajd.1 ht' with h|h
       ·exact(T9.own t' h).grown T9.row hgrow
       ·rw[Ake]at h;rw[h]
        exact(t9.grown T9.row hgrow).mono (by omega)
     clear T9 R9 t9 hown hgrow
     go_roundw
     case rel=>exact⟨k+1,g8,c8,L++[t],by omega,by go_num,rfl,by show(L++[t]).length=k+1;rw[Aje,HL.out];rfl,HR8,HT8,HL2⟩
     case measure=>simp[intOf];omega
  ·have HT4:Hid (C3 w.heap.size L (.slice (some ⟨g,0,none⟩) k cap) wo):=HT.out.mono (by omega)
   go_wp2
   go_ret2
   exact⟨.inr ⟨L,_,rfl,HT4.out,by have:=HL.out;omega,HQL.out⟩,HR.out.old⟩
end
end Go.Proofs.YtlfleicchbgcmaaGreat
