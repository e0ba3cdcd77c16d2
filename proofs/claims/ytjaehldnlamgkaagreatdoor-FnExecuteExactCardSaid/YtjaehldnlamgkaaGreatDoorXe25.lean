import Derived.Test.YtjaehldnlamgkaaGreatDoorXe24
import Derived.Test.YtjaehldnlamgkaaGreatDoorXe0
import Derived.Test.YtjaehldnlamgkaaGreatDoorXeK
set_option linter.all false
set_option maxHeartbeats 16000000
set_option maxRecDepth 100000
namespace Go.Proofs.YtjaehldnlamgkaaGreatDoor
section
open Go.RowKit
def Re (a b l:Int):Prop :=
 (Br a b l=false/\a.natAbs<=4611686018427387904/\b.natAbs<=4611686018427387904/\l.natAbs<=1000) \/(Br a b l=true/\a.natAbs<=32/\b.natAbs<=32/\0<=l/\l<=6) \/(a=1073741823/\b=7/\l=60)
theorem Akx (x:Int):x.tmod 2=0↔x % 2=0:=by rw[<-Int.dvd_iff_tmod_eq_zero,<-Int.dvd_iff_emod_eq_zero]
theorem Agd (m:Int):(2*m).tdiv 2=m:=Int.mul_tdiv_cancel_left m (by decide)
theorem A81 (a b:Int)(k:Nat)(ha:a.natAbs<=32)(hb:b.natAbs<=32)(hk:k<=6)(w:World) :
 Calls Vp.prog 63 #[.int .i64 a,.int .i64 b,.int .i64 k] w fun e w'=>(∃(x y:Int) (l:Nat),e=.returned (.agg #[.int .i64 x,.int .i64 y,.int .i64 l])/\Br x y l=true/\x.natAbs<=32/\y.natAbs<=32/\l<=6)/\Below w.heap.size w w':=by
 have HX:=Aly (A7.new w #[.int .i64 0,.int .i64 0,.int .i64 0] 24)
 go_enter Vp.func63,Tryz.ntmps63
 go_wp2_with fail
 generalize w.alloc (.cells #[.int .i64 0,.int .i64 0,.int .i64 0] 24)=w1 at *;obtain⟨rb,hrb⟩:∃rb,w.heap.size=rb:=⟨_,rfl⟩;rw[hrb]at HX;rw[hrb];have hle:w.heap.size<=rb:=Aof hrb;clear hrb
 go_loopw [0,1,2] (fun x y l wr=>∃(c d:Int) (j:Nat),x=.int .i64 c/\y=.int .i64 d/\l=.int .i64 j/\c.natAbs<=32/\d.natAbs<=32/\j<=6/\wr=w1) (fun _ _ l _=>(intOf l).toNat)
 case atStart=>exact⟨a,b,k,rfl,rfl,rfl,ha,hb,hk,rfl⟩
 case round =>
  obtain⟨c,d,j,rfl,rfl,rfl,hc,hd,hj,rfl⟩:=hrel;clear ha hb hk
  have HR:Hid (j=0\/c % 2≠0\/d % 2≠0->Br c d j=true):=fun h=>by
   unfold Br Gk;rw[An0 (by omega),Aq7,Ane,Amt,Apf,Apv]
   omega
  have t1:=Akx c;have t2:=Akx d;obtain⟨x0,x1,x2⟩:=HX.out.C5;have f0:=HX.out.frozen 0;have f1:=HX.out.frozen 1;have f2:=HX.out.frozen 2;have HX3:=Aly (HX.out.A23 hle (.int .i64 c) (.int .i64 d) (.int .i64 j));have HE:Hid (c.natAbs<=32/\d.natAbs<=32/\j<=6):=⟨hc,hd,hj⟩
  by_cases hj0:j=0
  ·have HF:=Aly (HR.out (.inl hj0));subst hj0;clear t1 t2 HR HX
   go_wp2
   exact Am5 (v:=.agg #[.int .i64 c,.int .i64 d,.int .i64 0]) (by simp[results,Tryz.f63,go_sem,x0,x1,x2]) rfl ⟨⟨c,d,0,rfl,HF.out,HE.out.1,HE.out.2.1,HE.out.2.2⟩,HX3.out.old⟩
  have g0:0<j:=by omega
  clear hj0
  by_cases hc2:c % 2=0
  ·have e1:c.tmod 2=0:=t1.2 hc2
   by_cases hd2:d % 2=0
   ·have e2:d.tmod 2=0:=t2.2 hd2;obtain⟨m,rfl⟩:∃m,c=2*m:=⟨c / 2,by omega⟩
    obtain⟨n,rfl⟩:∃n,d=2*n:=⟨d / 2,by omega⟩
    have q1:=Agd m;have q2:=Agd n;have hm:m.natAbs<=32:=by omega
    have hn:n.natAbs<=32:=by omega
    obtain⟨i,rfl⟩:∃i,j=i+1:=⟨j-1,by omega⟩
    clear t1 t2 HR hc2 hd2 HX3 HE;generalize 2*m=M at *;generalize 2*n=N at *
    go_wp2
    exact⟨⟨m,n,i,rfl,rfl,by go_num,hm,hn,by omega,trivial⟩,by simp[intOf]⟩
   ·have e2:¬d.tmod 2=0:=fun e=>hd2 (t2.1 e)
    have HF:=Aly (HR.out (.inr (.inr hd2)));clear t1 t2 HR HX hc2 hd2
    go_wp2
    exact Am5 (v:=.agg #[.int .i64 c,.int .i64 d,.int .i64 j]) (by simp[results,Tryz.f63,go_sem,x0,x1,x2]) rfl ⟨⟨c,d,j,rfl,HF.out,HE.out.1,HE.out.2.1,HE.out.2.2⟩,HX3.out.old⟩
  ·have e1:¬c.tmod 2=0:=fun e=>hc2 (t1.1 e)
   have HF:=Aly (HR.out (.inr (.inl hc2)));clear t1 t2 HR HX hc2
   go_wp2
   exact Am5 (v:=.agg #[.int .i64 c,.int .i64 d,.int .i64 j]) (by simp[results,Tryz.f63,go_sem,x0,x1,x2]) rfl ⟨⟨c,d,j,rfl,HF.out,HE.out.1,HE.out.2.1,HE.out.2.2⟩,HX3.out.old⟩
theorem A1c (w0:World)(b p:Nat)(hp:p<=1000)(W:World)(h:Rd w0 b p W) :
 Calls Vp.prog 23 #[.pointer (some ⟨b,0,none⟩)] W fun e w'=>(∃x y l:Int,e=.returned (.agg #[.int .i64 x,.int .i64 y,.int .i64 l])/\Re x y l)/\∃p',Rd w0 b p' w':=by
 obtain⟨hb0,hb1⟩:=h.own;have X:=(A7.new W #[.int .i64 0,.int .i64 0,.int .i64 0] 24).up h.below;have HR:=h.step ((Amc _ _).alloc (Am0 _) (.cells #[.int .i64 0,.int .i64 0,.int .i64 0] 24));have hne:W.heap.size≠b:=by omega
 obtain⟨rb,hrb⟩:∃rb,W.heap.size=rb:=⟨_,rfl⟩;have hrw:w0.heap.size<=rb:=by rw[<-hrb];exact h.below.size
 go_enter Vp.func23,Tryz.ntmps23
 go_wp2_with fail
 refine(Nl w0 b p 65 (by omega) (by omega) _ HR).mono ?_
 rintro e w1 ⟨⟨k,rfl,k0,k1⟩,hR,hO⟩;replace X:=X.only hO hne hb0;replace HR:=hR;rw[hrb]at X hne;clear hR hO h hrb;obtain⟨z1,hz1⟩:∃z,k-32=z:=⟨_,rfl⟩;have b1:z1.natAbs<=32:=by omega
 go_wp2_with fail
 refine(Nl w0 b (p+1) 65 (by omega) (by omega) _ HR).mono ?_
 rintro e w2 ⟨⟨j,rfl,j0,j1⟩,hR,hO⟩;replace X:=X.only hO hne hb0;replace HR:=hR;clear hR hO;obtain⟨z2,hz2⟩:∃z,j-32=z:=⟨_,rfl⟩;have b2:z2.natAbs<=32:=by omega
 go_wp2_with fail
 refine(Nl w0 b (p+1+1) 7 (by omega) (by omega) _ HR).mono ?_
 rintro e w3 ⟨⟨s,rfl,s0,s1⟩,hR,hO⟩;replace X:=X.only hO hne hb0;replace HR:=hR;clear hR hO;obtain⟨n,rfl⟩:=Aoe s0
 go_wp2_with fail
 refine(A81 z1 z2 n b1 b2 (by omega) _).mono ?_
 rintro e w4 ⟨⟨x,y,l,rfl,hd,hx,hy,hl⟩,hb4⟩;replace X:=X.step hb4;replace HR:=HR.step hb4;clear hb4 hz1 hz2 b1 b2 k0 k1 j0 j1 s0 s1;have HD:=Aly hd;clear hd;have Y:=(A7.new w4 #[.int .i64 x,.int .i64 y,.int .i64 l] 24).up HR.below;have hy1:w4.heap.size≠b:=by have:=HR.own.2;omega
 have hy2:w4.heap.size≠rb:=by have:=X.lt;omega
 replace X:=X.alloc (.cells #[.int .i64 x,.int .i64 y,.int .i64 l] 24);have HR3:=HR.step ((Amc _ _).alloc (Am0 _) (.cells #[.int .i64 x,.int .i64 y,.int .i64 l] 24));obtain⟨rc,hrc⟩:∃rc,w4.heap.size=rc:=⟨_,rfl⟩;rw[hrc]at Y hy1 hy2;clear HR
 go_wp2_with fail
 refine(Nl w0 b (p+1+1+1) 30 (by omega) (by omega) _ HR3).mono ?_
 rintro e w5 ⟨⟨m,rfl,m0,m1⟩,hR,hO⟩;replace X:=X.only hO (Aoi (Aoi hne)) hb0;replace Y:=Y.only hO hy1 hb0;obtain⟨c0,c1,c2⟩:=X.C5;have f0:=X.frozen 0;have f1:=X.frozen 1;have f2:=X.frozen 2;obtain⟨d0,d1,d2⟩:=Y.C5;have HF:Hid (∀u v t:Value,∃p',Rd w0 b p' (((w5.setCell ⟨rb,0,none⟩ u).setCell ⟨rb,1,none⟩ v).setCell ⟨rb,2,none⟩ t)):=fun u v t=>⟨p+1+1+1+1,((hR.other (p:=⟨rb,0,none⟩) hrw (Aoi hne) u).other (p:=⟨rb,1,none⟩) hrw (Aoi hne) v).other (p:=⟨rb,2,none⟩) hrw (Aoi hne) t⟩
 have HE:Hid (x.natAbs<=32/\y.natAbs<=32/\l<=6):=⟨hx,hy,hl⟩;clear hR hO X Y HR3 hx hy hl hy1 hy2
 by_cases h0:m=0
 ·subst h0
  go_wp2
  exact Am5 (v:=.agg #[.int .i64 2,.int .i64 4,.int .i64 1]) (by simp[results,Tryz.f23,go_sem,c0,c1,c2]) rfl ⟨⟨_,_,_,rfl,.inl ⟨by decide,by decide,by decide,by decide⟩⟩,HF.out _ _ _⟩
 by_cases h1:m=1
 ·subst h1
  go_wp2
  exact Am5 (v:=.agg #[.int .i64 x,.int .i64 1073741825,.int .i64 l]) (by simp[results,Tryz.f23,go_sem,c0,c1,c2]) rfl ⟨⟨_,_,_,rfl,.inl ⟨Ol (by omega),by have:=HE.out;omega,by decide,by have:=HE.out;omega⟩⟩,HF.out _ _ _⟩
 by_cases h2:m=2
 ·subst h2
  go_wp2
  exact Am5 (v:=.agg #[.int .i64 1073741823,.int .i64 7,.int .i64 60]) (by simp[results,Tryz.f23,go_sem,c0,c1,c2]) rfl ⟨⟨_,_,_,rfl,.inr (.inr ⟨rfl,rfl,rfl⟩)⟩,HF.out _ _ _⟩
 by_cases h3:m=3
 ·subst h3
  go_wp2
  exact Am5 (v:=.agg #[.int .i64 1,.int .i64 0,.int .i64 61]) (by simp[results,Tryz.f23,go_sem,c0,c1,c2]) rfl ⟨⟨_,_,_,rfl,.inl ⟨by decide,by decide,by decide,by decide⟩⟩,HF.out _ _ _⟩
 have g0:(m == 0)=false:=by simpa using h0
 have g1:(m == 1)=false:=by simpa using h1
 have g2:(m == 2)=false:=by simpa using h2
 have g3:(m == 3)=false:=by simpa using h3
 go_wp2
 exact Am5 (v:=.agg #[.int .i64 x,.int .i64 y,.int .i64 l]) (by simp[results,Tryz.f23,go_sem,c0,c1,c2]) rfl ⟨⟨_,_,_,rfl,.inr (.inl ⟨HD.out,HE.out.1,HE.out.2.1,by omega,by have:=HE.out;omega⟩)⟩,HF.out _ _ _⟩
theorem Oj (a:Option Addr)(c:Nat)(bs:List UInt8)(hn:bs.length<=1048576)(hc:bs.length<=c)(w:World)(hs:Sl w a (bs.map Cp)) :
 Calls Vp.prog 5 #[.slice a bs.length c] w fun e w'=>(∃x y l:Int,e=.returned (.agg #[.int .i64 x,.int .i64 y,.int .i64 l])/\Re x y l)/\Below w.heap.size w w':=by
 have H:=Aly (Abl a c bs hn hc _ (hs.alloc (.cells #[.int .i64 0,.int .i64 0,.int .i64 0] 24)));clear hs
 go_enter Vp.func5,Tryz.ntmps5
 go_wp2_with fail
 refine H.out.mono ?_
 rintro e w1 ⟨b,rfl,-,hR⟩
 go_wp2_with fail
 refine(A1c _ b 0 (by omega) _ hR).mono ?_
 rintro e w2 ⟨⟨x,y,l,rfl,hxy⟩,p',hR2⟩;have Z:A7 w w.heap.size #[.int .i64 0,.int .i64 0,.int .i64 0] 24 w2:=(A7.new w _ _).step hR2.below;have HX:=Aly hxy;obtain⟨c0,c1,c2⟩:=Z.C5;have f0:=Z.frozen 0;have f1:=Z.frozen 1;have f2:=Z.frozen 2;have HB:=Aly Z.old;clear Z hR hR2 hxy H
 go_wp2
 exact Am5 (v:=.agg #[.int .i64 x,.int .i64 y,.int .i64 l]) (by simp[results,Tryz.f5,go_sem,c0,c1,c2]) rfl ⟨⟨_,_,_,rfl,HX.out⟩,((HB.out.setCell (p:=⟨w.heap.size,0,none⟩) (Am0 _) _).setCell (p:=⟨w.heap.size,1,none⟩) (Am0 _) _).setCell (p:=⟨w.heap.size,2,none⟩) (Am0 _) _⟩
end
section
open Go.RowKit Flo
theorem A5w (ok:Nat->Bool)(M:Nat):-1<=Jy ok M/\Jy ok M<=M:=by
 unfold Jy
 cases h:(List.range (M+1)).find? (fun k=>!ok k)with
 | none=>simp
 | some k =>
   have:=Apj.1 (List.mem_of_find?_eq_some h);simp only
   omega
def Afv (n:Int)(l:Nat):Bool:=match Zi n l with|some u=>(Yc n l == some u) && (Uw u).isSome && !(nan .f64 u)|none=>false
theorem A8f:∀(i:Fin 65) (l:Fin 7),Afv ((i.val:Int)-32) l.val=true:=by decide +kernel
theorem A6d {n:Int}{l:Nat}(hn:n.natAbs<=32)(hl:l<=6):∃u p,Zi n l=some u/\Yc n l=some u/\Uw u=some p/\nan .f64 u=false:=by
 have h:=A8f ⟨(n+32).toNat,by omega⟩ ⟨l,by omega⟩
 simp only[]at h;rw[show((n+32).toNat:Int)-32=n by omega]at h
 unfold Afv at h
 cases hu:Zi n l with
 | none=>rw[hu]at h;simp at h
 | some u =>
   rw[hu]at h;simp only[Am8,Aqw,Apf]at h;obtain⟨p,hp⟩:=Amh.1 h.1.2
   exact⟨u,p,rfl,h.1.1,hp,h.2⟩
theorem Abe {a b:Int}{l:Nat}(h:Br a b l=true):Sy a b l=(a,b,l):=by
 cases l with
 | zero=>rfl
 | succ l =>
   unfold Br at h;rw[Am8,Ane]at h
   rcases h.2 with h|h
   ·rw[Amt]at h;omega
   ·exact Wn (by simpa using h)
theorem Afm {a b:Int}{l:Nat}(h:Br a b l=true)(ha:a.natAbs<=32)(hb:b.natAbs<=32)(hl:l<=6) :
 ∃u v p q k n,Adg a b l u v p q k n/\Yc a l=some u/\Yc b l=some v/\nan .f64 u=false/\nan .f64 v=false:=by
 obtain⟨u,p,u1,u2,u3,u4⟩:=A6d ha hl;obtain⟨v,q,v1,v2,v3,v4⟩:=A6d hb hl;have e50:(Aj (50:Nat)).toNat=50:=by decide
 have k1:=A5w (okW u v) 50;have k2:=A5w (Nj p q) 50
 exact⟨u,v,p,q,_,_,⟨h,Abe h,by omega,by omega,by omega,u1,v1,u3,v3,rfl,rfl,by rw[e50];omega,by rw[e50];omega⟩,u2,v2,u4,v4⟩
def Up:Nat:=(Zi 1073741823 60).getD 0
def Uq:Nat:=(Zi 7 60).getD 0
theorem Agt:Zi 1073741823 60=some Up/\Zi 7 60=some Uq/\Yc 1073741823 60=some Up/\Yc 7 60=some Uq/\nan .f64 Up=false/\nan .f64 Uq=false/\floatBits .sub .f64 Up Up=some 0/\floatBits .sub .f64 Uq Uq=some 0:=by decide +kernel
end
section
open Go.RowKit Flo
theorem A1d (s:ByteArray)(p z:Nat)(hs:s.size=z+2)(hb:s.size<=1073741824)(hpz:p<=z)(h10:s.data.toList.getD p 0=10)(hno:∀j,p<j->j<=z->s.data.toList.getD j 0≠10)(w:World) :
 Calls Vp.prog 15 #[.string s] w fun e w'=>e=.returned (.string (s.extract (p+1) s.size))/\w'=w:=by
 have HS:=Aly hs;have HN:=Aly hno;have H1:=Aly h10;have HBY:=Aly (Adk s);have e0:(s.size:Int)-2=z:=by omega
 clear hs h10 hno
 go_enter Vp.func15,Tryz.ntmps15
 go_wp2_with fail
 go_loop [3] (fun i=>∃k:Nat,p<=k/\k<=z/\i=.int .i64 k) (fun i=>(intOf i).toNat)
 case atStart=>exact⟨z,hpz,Am0 _,by first|rfl |(rw[e0])⟩
 case round =>
  obtain⟨k,hk,hkz,rfl⟩:=hrel;have hlt:k<s.size:=by have:=HS.out;omega
  by_cases hkp:k=p
  ·subst hkp;have hc:(((s[k]'hlt).toNat:Int) == 10)=true:=by rw[HBY.out k hlt,H1.out];rfl
   go_wp2
   go_ret
   exact⟨rfl,rfl⟩
  ·have hne:=HN.out k (by omega) hkz
   have hc:(((s[k]'hlt).toNat:Int) == 10)=false:=by
    rw[Ap0];intro h;have h2:(s[k]'hlt).toNat=10:=by omega
    exact hne (by rw[<-HBY.out k hlt];exact UInt8.toNat_inj.1 h2)
   clear hne;obtain⟨j,rfl⟩:∃j,k=j+1:=⟨k-1,by omega⟩
   go_wp2
   exact⟨⟨j,by omega,by omega,by go_num⟩,by simp[intOf]⟩
theorem A7m (u v:Nat)(hu:floatBits .sub .f64 u u=some 0)(hv:floatBits .sub .f64 v v=some 0)(w:World):Calls Vp.prog 9 #[.complex .f64 u v] w fun e w'=>e=.returned (.bool true)/\w'=w:=by
 have b1:∀w:World,(binOp .sub 57 (.float .f64 u) (.float .f64 u)).run Vp.prog w=.ok (.float .f64 0) w:=fun w=>Amz w .sub _ .f64 _ _ _ hu
 have b2:∀w:World,(binOp .sub 57 (.float .f64 v) (.float .f64 v)).run Vp.prog w=.ok (.float .f64 0) w:=fun w=>Amz w .sub _ .f64 _ _ _ hv
 have c0:(FloatKind.f64.format.order 0 0 == some .eq)=true:=by decide +kernel
 clear hu hv
 go_enter Vp.func9,Tryz.ntmps9
 go_wp2_with fail
 go_ret
 exact⟨rfl,rfl⟩
theorem Hl (u v:Nat)(hu:nan .f64 u=false)(hv:nan .f64 v=false)(w:World):Calls Vp.prog 8 #[.complex .f64 u v,.complex .f64 u v] w fun e w'=>e=.returned (.bool true)/\w'=w:=by
 have H1:=Aly (J9 u hu);have H2:=Aly (J9 v hv);clear hu hv
 go_enter Vp.func8,Tryz.ntmps8
 go_wp2_with fail
 refine(H1.out _).mono ?_
 rintro e w3 ⟨rfl,hw⟩;rw[<-hw];clear hw
 go_wp2_with fail
 refine(H2.out _).mono ?_
 rintro e w3 ⟨rfl,hw⟩;rw[<-hw];clear hw
 go_wp2
 go_ret
 exact⟨rfl,rfl⟩
end
section
open Go.RowKit
theorem A4k (f:Ieee.Format)(x y:Nat):f.order y x=(f.order x y).map Ordering.swap:=by
 unfold Ieee.Format.order
 cases f.read x with
 | nan s t=>cases f.read y<;>rfl
 | infinity s =>
   cases f.read y with
   | nan=>rfl
   | infinity t=>cases s<;>cases t<;>rfl
   | number=>cases s<;>rfl
 | number s m i =>
   cases f.read y with
   | nan=>rfl
   | infinity t=>cases t<;>rfl
   | number t n j =>
     simp only[Ieee.Datum.order,Ao6,Anf];rw[Int.min_comm j i]
     exact Std.OrientedCmp.eq_swap
theorem A5z (f:Ieee.Format)(x y:Nat):(f.order y x == some .lt || f.order y x == some .eq)=(f.order x y == some .gt || f.order x y == some .eq):=by
 rw[A4k f x y]
 cases f.order x y with
 | none=>rfl
 | some o=>cases o<;>rfl
theorem Xq (s:Bool)(n drop:Nat):Ieee.Toward.down.cut s n drop<=n / 2^drop+1:=by
 have h:=Flo.A0a s n drop;unfold Ieee.Toward.cut at h ⊢;simp only[Bool.toNat_false,Nat.add_zero]at h;simp only[h];have:∀b:Bool,b.toNat<=1:=by decide
 have:=this (s && n % (1 <<< min drop (n.log2+2)) != 0)
 omega
theorem A7n {z:Nat}{v:Int}(hz:Flo.Cf Ieee.double z v)(hb:v.natAbs<=1048576*2^Flo.u64) :
 ∃(s:Bool) (m:Nat) (e B:Int),FloatKind.f64.decode z=.number s m e/\Flo.Cf Ieee.double (FloatKind.f64.encode ((Ieee.Datum.number s m e).integral .down)) (B *(2^Flo.u64:Nat)):=by
 have hd:=Flo.C9 hz
 obtain⟨K,hK,hK2⟩:∃K,Ieee.Toward.down.cut (Flo.Gv Ieee.double z) (Flo.rm Ieee.double (Flo.A8 Ieee.double z) <<<(Ieee.double.leastPlace+Flo.re Ieee.double (Flo.A8 Ieee.double z)).toNat) (-(Ieee.double.leastPlace +(Flo.re Ieee.double (Flo.A8 Ieee.double z):Int))).toNat=K/\K<=1048577:=by
  refine⟨_,rfl,?_⟩
  refine Am1 (Xq _ _ _) ?_
  rw[Flo.Cj];rw[hd]at hb;generalize Flo.re Ieee.double (Flo.A8 Ieee.double z)=e at *;generalize Flo.rm Ieee.double (Flo.A8 Ieee.double z)=m at *
  rcases Nat.le_total Flo.u64 e with h|h
  ·obtain⟨r,rfl⟩:∃r,e=r+Flo.u64:=⟨e-Flo.u64,by omega⟩
   have e1:(-(Flo.u64:Int) +((r+Flo.u64:Nat):Int)).toNat=r:=by omega
   have e2:(-(-(Flo.u64:Int) +((r+Flo.u64:Nat):Int))).toNat=0:=by omega
   rw[e1,e2,Apr,Nat.div_one,Ap3];rw[Amj,<-Ams]at hb;have:=Anw hb (Am9 Flo.u64)
   omega
  ·obtain⟨r,hr⟩:∃r,Flo.u64=r+e:=⟨Flo.u64-e,by omega⟩
   have e1:(-(Flo.u64:Int) +(e:Int)).toNat=0:=by omega
   have e2:(-(-(Flo.u64:Int) +(e:Int))).toNat=r:=by omega
   rw[e1,e2,Nat.shiftLeft_zero];rw[hr,Amj,<-Ams]at hb;have h1:=Anw hb (Am9 e);have h2:m / 2^r<=1048576:=Nat.div_le_of_le_mul (by rw[An3];exact h1)
   omega
 refine⟨_,_,_,if Flo.Gv Ieee.double z then -(K:Int)else K,Flo.Ak hz.fin,?_⟩
 show Flo.Cf Ieee.double (Ieee.double.nearest (Flo.Gv Ieee.double z) (Ieee.Toward.down.cut (Flo.Gv Ieee.double z) (Flo.rm Ieee.double (Flo.A8 Ieee.double z) <<<(Ieee.double.leastPlace+Flo.re Ieee.double (Flo.A8 Ieee.double z)).toNat) (-(Ieee.double.leastPlace +(Flo.re Ieee.double (Flo.A8 Ieee.double z):Int))).toNat) 0) _
 rw[hK];generalize Flo.Gv Ieee.double z=s at *
 have hna:((if s then -(K:Int)else K) *((2^Flo.u64:Nat):Int)).natAbs=K*2^Flo.u64:=by
  rw[Amq,Ame]
  cases s<;>simp
 have hpos:(0:Int) <((2^Flo.u64:Nat):Int):=by have:=Am9 Flo.u64;omega
 refine Flo.Ei (a:=Flo.u64) (b:=0) (Flo.He (m:=K) (e:=Flo.u64) hna (by rw[Flo.Ai];omega) ?_) (by rw[Flo.Cj];omega) (by rw[hna,Apr,Aqm]) (fun hneg=>?_) (fun hp=>?_)
 ·rw[Flo.Bf,Flo.G1];exact Am3 _ (by omega)
 ·cases s
  ·exfalso
   have:(0:Int) <=(K:Int) *((2^Flo.u64:Nat):Int):=Anl (by omega) (by omega)
   simp only[Amk,Ao5]at hneg
   omega
  ·rfl
 ·cases s
  ·rfl
  ·exfalso
   have:(0:Int) <=(K:Int) *((2^Flo.u64:Nat):Int):=Anl (by omega) (by omega)
   simp only[Apg,Apq]at hp
   omega
theorem Uv (z:Nat)(v:Int)(hz:Flo.Cf Ieee.double z v)(hb:v.natAbs<=1048576*2^Flo.u64)(w:World):Calls Vp.prog 127 #[.float .f64 z] w fun e w'=>(∃(y:Nat) (B:Int),e=.returned (.float .f64 y)/\Flo.Cf Ieee.double y (B *(2^Flo.u64:Nat)))/\w=w':=by
 obtain⟨s,m,e,B,hd,hv⟩:=A7n hz hb
 have hr:∀w,(callFunc 158 #[.float .f64 z]).run Vp.prog w=.ok (.value (.float .f64 (FloatKind.f64.encode ((Ieee.Datum.number s m e).integral .down)))) w:=fun w=>by
  rw[Lh,Ke z s m e hd]
  rfl
 have HV:=Aly hv;generalize FloatKind.f64.encode ((Ieee.Datum.number s m e).integral .down)=y at *;clear hz hb hv hd
 go_enter Vp.func127,Tryz.ntmps127
 go_wp2
 go_ret
 exact⟨⟨y,B,rfl,HV.out⟩,rfl⟩
end
end Go.Proofs.YtjaehldnlamgkaaGreatDoor
section
namespace Go.Proofs.YtjaehldnlamgkaaGreatDoor
open Go.RowKit
namespace Flo
open Ieee
theorem A1z (x:Nat):A8 single (x % 4294967296)=A8 single x:=by
 unfold A8;rw[show single.signWeight=2147483648 from by decide]
 omega
theorem A6m (x:Nat):Gv single (x % 4294967296)=Gv single x:=by
 unfold Gv;rw[show single.signWeight=2147483648 from by decide]
 rw[show x % 4294967296 / 2147483648 % 2=x / 2147483648 % 2 from by omega]
theorem A45 (x:Nat):iv single (x % 4294967296)=iv single x:=by unfold iv;rw[A1z,A6m]
theorem K8 (x:Nat):single.read (x % 4294967296)=single.read x:=by
 have h1:=A1z x;have h2:=A6m x;unfold A8 at h1;unfold Gv at h2;unfold Format.read;rw[h1,h2]
theorem Akg (x y:Nat):FloatKind.f32.format.order (x % 4294967296) y=FloatKind.f32.format.order x y:=by
 show(single.read _).order _=(single.read _).order _
 rw[K8]
theorem Alj (x y:Nat):FloatKind.f32.format.order x (y % 4294967296)=FloatKind.f32.format.order x y:=by
 show(single.read _).order (single.read _)=(single.read _).order (single.read _)
 rw[K8]
theorem Afu (x:Nat):floatToFloatBits .f32 (x % 4294967296) .f64=floatToFloatBits .f32 x .f64:=by
 unfold floatToFloatBits;rw[Amd (by decide),Amd (by decide)]
 rw[show FloatKind.decode .f32 (x % 4294967296)=FloatKind.decode .f32 x from K8 x]
theorem Al7 (x y:Nat):floatBits .add .f32 (x % 4294967296) y=floatBits .add .f32 x y:=by
 show single.add _ _=single.add _ _
 unfold Format.add;rw[K8]
theorem mulM (x y:Nat):floatBits .mul .f32 (x % 4294967296) y=floatBits .mul .f32 x y:=by
 show single.mul _ _=single.mul _ _
 unfold Format.mul;rw[K8]
theorem Mb (x:Nat):Ep (x % 4294967296)=Ep x:=by unfold Ep;simp only[Akg]
theorem Mt (x d:Nat):Bw (x % 4294967296) d=Bw x d:=by unfold Bw;rw[Mb,A45]
end Flo
theorem Rt (x d:Nat)(hd:d<=11)(h:Flo.Bw x d=true)(w:World):Calls Vp.prog 83 #[.float .f32 x,.int .i64 d] w fun e w'=>e=.returned (.bool true)/\w=w':=by
 have hx:x % 4294967296<4294967296:=Aps _ (by decide)
 rw[<-Flo.Mt]at h;obtain⟨A,hA,hb⟩:=Flo.Ud hx hd h;have hdp:2^d<=2^11:=Amn (by omega) hd
 obtain⟨y1,h1,v1⟩:=Flo.Di hA;have hD:Flo.Cf Ieee.double (floatOfInt .f64 ((2^d:Nat):Int)) (((2^d:Nat):Int) *(2^Flo.u64:Nat)):=Flo.De (k:=.f64) Flo.Cj _ (by rw[Ame];show _<2*Ieee.double.binade;rw[Flo.Ai];omega) (by show(Flo.u64+2)*Ieee.double.binade<=Ieee.double.infRung;rw[Flo.Bf,Flo.G1];exact Am3 _ (by omega))
 have hrep:Flo.Pa Ieee.double (A *(2^Flo.u64:Nat)):=by
  refine Flo.He (m:=A.natAbs) (e:=Flo.u64) (by rw[Amq,Ame]) (by rw[Flo.Ai];omega) ?_
  rw[Flo.Bf,Flo.G1]
  exact Am3 _ (by omega)
 have hc:A *(2^(Flo.u32-d):Nat) *(2^Flo.Gg:Nat) *(((2^d:Nat):Int) *(2^Flo.u64:Nat))=A *(2^Flo.u64:Nat) *(2^Flo.u64:Nat):=by
  have e:(2^(Flo.u32-d)*2^Flo.Gg*2^d:Nat)=2^Flo.u64:=by
   rw[<-Amj,<-Amj]
   congr 1
   rw[Flo.G0,Flo.P8,Flo.G1];omega
  have e2:((2^(Flo.u32-d):Nat):Int) *(2^Flo.Gg:Nat) *(2^d:Nat)=(2^Flo.u64:Nat):=by
   have:=congrArg (fun x:Nat=>(x:Int)) e
   simp only[An2]at this
   exact this
  generalize ((2^(Flo.u32-d):Nat):Int)=P at *;generalize ((2^Flo.Gg:Nat):Int)=Q at *;generalize ((2^Flo.u64:Nat):Int)=R at *;generalize ((2^d:Nat):Int)=S at *
  calc A*P*Q *(S*R)=A *(P*Q*S)*R:=by simp only[Ano]
   _=A*R*R:=by rw[e2]
 obtain⟨y,hy,v2⟩:=Flo.Hb (f:=Ieee.double) (c:=A *(2^Flo.u64:Nat)) Flo.Cj v1 hD hc hrep;have hF:=Aly (Yf y A v2);have hee:Hid (∀t,Flo.Cf Ieee.double t (A *(2^Flo.u64:Nat)) ->(FloatKind.f64.format.order y t == some .eq)=true):=fun t ht=>by rw[Flo.D6 (k:=.f64) v2 ht];simp
 obtain⟨q,hq⟩:∃q:Int,wrap64 (2^d)=q:=⟨_,rfl⟩;have hqd:((2^d:Nat):Int)=q:=by rw[<-hq,Ui d hd]
 rw[hqd]at hy;rw[Flo.Afu]at h1;have g1:=fun w=>Anz (P:=Vp.prog) w 87 57 .f32 .f64 _ _ (by kernel_rfl) (Vp.Bl Tryz.underlying57) h1
 have g2:=fun w=>Amz (P:=Vp.prog) w .mul 57 .f64 _ _ _ hy
 have hw:=Flo.Ij hx (by unfold Flo.Bw at h;rw[Am8]at h;exact h.1)
 have t1:(FloatKind.f32.format.order 3229614080 (x % 4294967296) == some .lt || FloatKind.f32.format.order 3229614080 (x % 4294967296) == some .eq)=true:=by
  rw[Flo.G9 (k:=.f32) Flo.Gq hw.1,Flo.D6 (k:=.f32) Flo.Gq hw.1];have:=hw.2;simp only[Ane,Amt];generalize 2^Flo.u32=U at *
  omega
 have t2:(FloatKind.f32.format.order (x % 4294967296) 1082130432 == some .lt || FloatKind.f32.format.order (x % 4294967296) 1082130432 == some .eq)=true:=by
  unfold Flo.Bw Flo.Ep at h;rw[Am8,Am8]at h
  exact h.1.2
 rw[Flo.Alj]at t1;rw[Flo.Akg]at t2;clear h hA hb hdp h1 v1 hD hrep hc hy v2 hqd hw hx
 go_enter Vp.func83,Tryz.ntmps83
 go_wp2_with (go_at_call 127;refine(hF.out _).mono ?_;rintro e w' ⟨⟨t,rfl,ht⟩,rfl⟩;have hte:=hee.out t ht;clear ht)
 go_ret
 exact⟨rfl,rfl⟩
theorem Rs (x d:Nat)(hd:d<=11)(h:Flo.Bw x d=false)(w:World):Calls Vp.prog 83 #[.float .f32 x,.int .i64 d] w fun e w'=>e=.returned (.bool false)/\w=w':=by
 unfold Flo.Bw at h
 cases hin:Flo.Ep x with
 | false =>
   unfold Flo.Ep at hin;rw[<-A5z]at hin
   cases t1:(FloatKind.f32.format.order 3229614080 x == some .lt || FloatKind.f32.format.order 3229614080 x == some .eq)with
   | false =>
     clear h hin
     go_enter Vp.func83,Tryz.ntmps83
     go_wp2
     go_ret
     exact⟨rfl,rfl⟩
   | true =>
     rw[t1,Aq7]at hin;have t2:=hin;clear h hin
     go_enter Vp.func83,Tryz.ntmps83
     go_wp2
     go_ret
     exact⟨rfl,rfl⟩
 | true =>
   rw[hin,Aq7,Apv]at h;obtain⟨hv,hb⟩:=Flo.Ij (Aps x (by decide)) ((Flo.Mb x).trans hin)
   rw[Flo.A45]at hv hb;obtain⟨v,hvv⟩:∃v,Flo.iv Ieee.single x=v:=⟨_,rfl⟩;rw[hvv]at hv hb h;have hdp:2^d<=2^11:=Amn (by omega) hd
   obtain⟨y1,h1,v1⟩:=Flo.Di hv;have hD:Flo.Cf Ieee.double (floatOfInt .f64 ((2^d:Nat):Int)) (((2^d:Nat):Int) *(2^Flo.u64:Nat)):=Flo.De (k:=.f64) Flo.Cj _ (by rw[Ame];show _<2*Ieee.double.binade;rw[Flo.Ai];omega) (by show(Flo.u64+2)*Ieee.double.binade<=Ieee.double.infRung;rw[Flo.Bf,Flo.G1];exact Am3 _ (by omega))
   have hdg:=Flo.C9 hv;have hre:=Flo.A1t (e:=254) hv.fin (by decide)
   have hrm:=Flo.Nq Ieee.single (Flo.A8 Ieee.single (x % 4294967296));rw[Flo.Az]at hrm
   have hrep:Flo.Pa Ieee.double (v *(2^Flo.Gg:Nat) *(2^d:Nat)):=by
    refine Flo.He (m:=Flo.rm Ieee.single (Flo.A8 Ieee.single (x % 4294967296))) (e:=Flo.re Ieee.single (Flo.A8 Ieee.single (x % 4294967296))+Flo.Gg+d) ?_ (by rw[Flo.Ai];omega) ?_
    ·rw[Amq,Amq,Ame,Ame,hdg,Amj,Amj];simp only[Ams]
    ·rw[Flo.Bf,Flo.P8];exact Am3 _ (by omega)
   have hc:v *(2^Flo.Gg:Nat) *(((2^d:Nat):Int) *(2^Flo.u64:Nat))=v *(2^Flo.Gg:Nat) *(2^d:Nat) *(2^Flo.u64:Nat):=by
    simp only[Ano]
   obtain⟨y,hy,v2⟩:=Flo.Hb (f:=Ieee.double) (c:=v *(2^Flo.Gg:Nat) *(2^d:Nat)) Flo.Cj v1 hD hc hrep;have hU:(2^Flo.u64:Nat)=2^Flo.u32*2^Flo.Gg:=by rw[<-Amj];congr 1
   have hV:(v *(2^Flo.Gg:Nat) *(2^d:Nat)).natAbs<=1048576*2^Flo.u64:=by
    rw[Amq,Amq,Ame,Ame,hU]
    calc v.natAbs*2^Flo.Gg*2^d <=(4*2^Flo.u32)*2^Flo.Gg*2^11:=Ap4 (Am3 _ hb) hdp
     _=8192 *(2^Flo.u32*2^Flo.Gg):=by rw[An3,<-Ams,<-Ams,Ams]
     _<=1048576 *(2^Flo.u32*2^Flo.Gg):=Am3 _ (by omega)
   have hne:∀B:Int,v *(2^Flo.Gg:Nat) *(2^d:Nat)≠B *(2^Flo.u64:Nat):=by
    intro B hB
    apply h
    rw[hU,An2,<-Ano,Int.mul_right_comm v]at hB;have hp:((2^Flo.Gg:Nat):Int)≠0:=by have:=Am9 Flo.Gg;omega
    have:=Int.eq_of_mul_eq_mul_right hp hB;rw[this]
    exact Int.mul_emod_left _ _
   have hF:=Aly (Uv y _ v2 hV);have hee:Hid (∀(t:Nat) (B:Int),Flo.Cf Ieee.double t (B *(2^Flo.u64:Nat)) ->(FloatKind.f64.format.order y t == some .eq)=false):=fun t B ht=>by rw[Flo.D6 (k:=.f64) v2 ht];simpa using hne B
   obtain⟨q,hq⟩:∃q:Int,wrap64 (2^d)=q:=⟨_,rfl⟩;have hqd:((2^d:Nat):Int)=q:=by rw[<-hq,Ui d hd]
   rw[hqd]at hy;rw[Flo.Afu]at h1;have g1:=fun w=>Anz (P:=Vp.prog) w 87 57 .f32 .f64 _ _ (by kernel_rfl) (Vp.Bl Tryz.underlying57) h1
   have g2:=fun w=>Amz (P:=Vp.prog) w .mul 57 .f64 _ _ _ hy
   unfold Flo.Ep at hin;rw[<-A5z,Am8]at hin;obtain⟨t1,t2⟩:=hin;clear h hv hb hvv hdp h1 v1 hD hdg hre hrm hrep hc hy v2 hqd hU hV hne
   go_enter Vp.func83,Tryz.ntmps83
   go_wp2_with (go_at_call 127;refine(hF.out _).mono ?_;rintro e w' ⟨⟨t,B,rfl,ht⟩,rfl⟩;have hte:=hee.out t B ht;clear ht)
   go_ret
   exact⟨rfl,rfl⟩
theorem Js (x d:Nat)(hd:d<=11)(w:World):Calls Vp.prog 83 #[.float .f32 x,.int .i64 d] w fun e w'=>e=.returned (.bool (Flo.Bw x d))/\w=w':=by
 cases h:Flo.Bw x d with
 | true=>exact Rt x d hd h w
 | false=>exact Rs x d hd h w
theorem Uz (cx cy:Nat)(deep size:Int)(w:World):Calls Vp.prog 43 #[.complex .f32 cx cy,.int .i64 deep,.int .i64 size] w fun e w'=>e=.returned (.bool (Eg cx cy deep size))/\w=w':=by
 by_cases hin:0<=deep/\deep<=10/\1<=size/\size<=8
 ·obtain⟨d,rfl⟩:=Aoe hin.1;have hX:=Aly (Js cx d (by omega))
  have hY:=Aly (Js cy d (by omega))
  have HP:Hid (Eg cx cy d size=(Flo.Bw cx d && Flo.Bw cy d)):=by
   show _=_
   unfold Eg H5;rw[Anc,An0 hin.1,An0 hin.2.1,An0 hin.2.2.1,An0 hin.2.2.2]
   rfl
  have a1:decide ((d:Int)<0)=false:=by simp
  have a2:decide (10 <(d:Int))=false:=by simp;omega
  have a3:decide (size<1)=false:=by simp;omega
  have a4:decide (8<size)=false:=by simp;omega
  rw[HP.out];generalize Flo.Bw cx d=b1 at *;generalize Flo.Bw cy d=b2 at *;clear HP hin
  cases b1<;>cases b2
  all_goals
   go_enter Vp.func43,Tryz.ntmps43
   go_wp2_with (first |(go_at_call 83;(with_reducible refine(hX.out _).mono ?_);rintro e w' ⟨rfl,rfl⟩) |(go_at_call 83;(with_reducible refine(hY.out _).mono ?_);rintro e w' ⟨rfl,rfl⟩))
   go_ret
   exact⟨rfl,rfl⟩
 ·have HP:Hid (Eg cx cy deep size=false):=by
   show _=false
   cases h:Eg cx cy deep size with
   | false=>rfl
   | true=>exact absurd (Wt h) (by omega)
  rw[HP.out];clear HP
  by_cases a1:deep<0
  ·have a1:=An0 a1
   go_enter Vp.func43,Tryz.ntmps43
   go_wp2
   go_ret
   exact⟨rfl,rfl⟩
  ·by_cases a2:10<deep
   ·have a1:=Ana a1;have a2:=An0 a2
    go_enter Vp.func43,Tryz.ntmps43
    go_wp2
    go_ret
    exact⟨rfl,rfl⟩
   ·by_cases a3:size<1
    ·have a1:=Ana a1;have a2:=Ana a2;have a3:=An0 a3
     go_enter Vp.func43,Tryz.ntmps43
     go_wp2
     go_ret
     exact⟨rfl,rfl⟩
    ·have a4:8<size:=by omega
     have a1:=Ana a1;have a2:=Ana a2;have a3:=Ana a3;have a4:=An0 a4;clear hin
     go_enter Vp.func43,Tryz.ntmps43
     go_wp2
     go_ret
     exact⟨rfl,rfl⟩
theorem Ps (x d:Nat)(hd:d<=11)(w:World):Calls Vp.prog 88 #[.float .f32 x,.int .i64 d] w fun e w'=>e=.returned (.bool (Flo.Bw x d))/\Bp w w':=by
 have hdp:2^d<=2^11:=Amn (by omega) hd
 obtain⟨q,hq⟩:∃q:Int,wrap64 (2^d)=q:=⟨_,rfl⟩;have hqd:((2^d:Nat):Int)=q:=by rw[<-hq,Ui d hd]
 cases h4:Flo.Ep x with
 | false =>
   have hw:Flo.Bw x d=false:=by unfold Flo.Bw;rw[h4];rfl
   rw[hw];obtain⟨y,w1,h1,_,d1⟩:=Flo.A72 (P:=Vp.prog) .mul (by simp) 87 .f32 x (floatOfInt .f32 q) w
   have HD:=Aly d1;unfold Flo.Ep at h4;clear d1 hqd hdp hw
   cases b1:(FloatKind.f32.format.order x 3229614080 == some .gt || FloatKind.f32.format.order x 3229614080 == some .eq)with
   | false =>
     clear h4
     go_enter Vp.func88,Tryz.ntmps88
     go_wp2
     go_ret
     exact⟨rfl,HD.out⟩
   | true =>
     rw[b1,Aq7]at h4
     go_enter Vp.func88,Tryz.ntmps88
     go_wp2
     go_ret
     exact⟨rfl,HD.out⟩
 | true =>
   obtain⟨y,n,h1,h2,-,-,h3⟩:=Flo.A32 (Aps x (by decide)) hd ((Flo.Mb x).trans h4)
   rw[Flo.mulM]at h1;rw[Flo.A45]at h3;have hw:Flo.Bw x d=(FloatKind.f32.format.order (floatOfInt .f32 n) y == some .eq):=by unfold Flo.Bw;rw[h4,h3];rfl
   rw[hw];rw[hqd]at h1;have g1:∀w,(binOp .mul 87 (.float .f32 x) (.float .f32 (floatOfInt .f32 q))).run Vp.prog w=.ok (.float .f32 y) w:=fun w=>Amz w .mul _ .f32 _ _ _ h1
   have g2:∀w,(convert 87 3 (.float .f32 y)).run Vp.prog w=.ok (.int .i64 n) w:=fun w=>run_convert_float_int w _ _ .f32 .i64 _ _ (by kernel_rfl) (Vp.Bl Tryz.underlying3) h2
   unfold Flo.Ep at h4;rw[Am8]at h4;obtain⟨b1,b2⟩:=h4;clear h1 h2 h3 hw hqd hdp
   cases b3:(FloatKind.f32.format.order (floatOfInt .f32 n) y == some .eq)with
   | false =>
     go_enter Vp.func88,Tryz.ntmps88
     go_wp2
     go_ret
     exact⟨rfl,Bp.refl _⟩
   | true =>
     go_enter Vp.func88,Tryz.ntmps88
     go_wp2
     go_ret
     exact⟨rfl,Bp.refl _⟩
theorem Pr (cx cy:Nat)(deep size:Int)(w:World):Calls Vp.prog 46 #[.complex .f32 cx cy,.int .i64 deep,.int .i64 size] w fun e w'=>e=.returned (.bool (Eg cx cy deep size))/\Bp w w':=by
 unfold Eg
 cases h1:H5 deep 0 10 with
 | false =>
   go_enter Vp.func46,Tryz.ntmps46
   go_wp2_with (go_at_call 67;refine(Cr _ _ _ _).mono ?_;rintro e w' ⟨rfl,rfl⟩)
   go_ret
   exact⟨rfl,Bp.refl _⟩
 | true =>
   cases h2:H5 size 1 8 with
   | false =>
     go_enter Vp.func46,Tryz.ntmps46
     go_wp2_with (go_at_call 67;refine(Cr _ _ _ _).mono ?_;rintro e w' ⟨rfl,rfl⟩)
     go_ret
     exact⟨rfl,Bp.refl _⟩
   | true =>
     obtain⟨d,rfl,hd⟩:∃d:Nat,deep=d/\d<=11:=by
      unfold H5 at h1;simp only[Am8,Amt]at h1
      exact⟨deep.toNat,by omega,by omega⟩
     rw[Anc];have HX:=Aly (fun w=>Ps cx d hd w)
     have HY:=Aly (fun w=>Ps cy d hd w)
     cases h3:Flo.Bw cx d with
     | false =>
       rw[h3]at HX
       go_enter Vp.func46,Tryz.ntmps46
       go_wp2_with (first |(go_at_call 67;refine(Cr _ _ _ _).mono ?_;rintro e w' ⟨rfl,rfl⟩) |(go_at_call 88;refine(HX.out _).mono ?_;rintro e w1 ⟨rfl,d1⟩;have H1:=Aly d1;clear d1))
       go_ret
       exact⟨rfl,H1.out⟩
     | true =>
       rw[h3]at HX
       cases h4:Flo.Bw cy d with
       | false =>
         rw[h4]at HY
         go_enter Vp.func46,Tryz.ntmps46
         go_wp2_with (first |(go_at_call 67;refine(Cr _ _ _ _).mono ?_;rintro e w' ⟨rfl,rfl⟩) |(go_at_call 88;refine(HX.out _).mono ?_;rintro e w1 ⟨rfl,d1⟩;have H1:=Aly d1;clear d1 HX) |(go_at_call 88;refine(HY.out _).mono ?_;rintro e w2 ⟨rfl,d1⟩;have H2:=Aly (H1.out.trans d1);clear d1))
         go_ret
         exact⟨rfl,H2.out⟩
       | true =>
         rw[h4]at HY
         go_enter Vp.func46,Tryz.ntmps46
         go_wp2_with (first |(go_at_call 67;refine(Cr _ _ _ _).mono ?_;rintro e w' ⟨rfl,rfl⟩) |(go_at_call 88;refine(HX.out _).mono ?_;rintro e w1 ⟨rfl,d1⟩;have H1:=Aly d1;clear d1 HX) |(go_at_call 88;refine(HY.out _).mono ?_;rintro e w2 ⟨rfl,d1⟩;have H2:=Aly (H1.out.trans d1);clear d1))
         go_ret
         exact⟨rfl,H2.out⟩
end Go.Proofs.YtjaehldnlamgkaaGreatDoor
end
namespace Go.Proofs.YtjaehldnlamgkaaGreatDoor
section
def Cc (l h:Int):Int:=if l<=0/\0<=h then 0 else min (l*l) (h*h)
def Ba (l h:Int):Int:=max (l*l) (h*h)
def Mx (a k:Int):Int:=-((-a) / k)
structure Bx where
 a:Int
 b:Int
 c:Int
 d:Int
def Bx.val (x:Bx):Value:=Ajf x.a x.b x.c x.d
def Bx.ok (x:Bx):Bool:=Ap x.a x.b x.c x.d
theorem Bx.bd {x:Bx}(h:x.ok=true):-134217728<=x.a/\x.a<=x.b/\x.b<=134217728/\-134217728<=x.c/\x.c<=x.d/\x.d<=134217728:=by
 unfold Bx.ok Ap H5 at h;simp only[Am8,Amt]at h
 omega
def mLo (x:Bx):Int:=min (min (x.a*x.c) (x.a*x.d)) (min (x.b*x.c) (x.b*x.d))
def mHi (x:Bx):Int:=max (max (x.a*x.c) (x.a*x.d)) (max (x.b*x.c) (x.b*x.d))
def Bx.sq (x:Bx):Bx:=⟨(Cc x.a x.b-Ba x.c x.d) / 16777216,Mx (Ba x.a x.b-Cc x.c x.d) 16777216,2*mLo x / 16777216,Mx (2*mHi x) 16777216⟩
def Bx.add (x y:Bx):Bx:=⟨x.a+y.a,x.b+y.b,x.c+y.c,x.d+y.d⟩
def Bx.next (c z:Bx):Option Bx:=if z.sq.ok=true then(if(z.sq.add c).ok=true then some (z.sq.add c)else none)else none
def E7 (c:Bx):Nat->Option Bx
 | 0=>some ⟨0,0,0,0⟩
 | k+1=>(E7 c k).bind (Bx.next c)
def nLo (z:Bx):Int:=Cc z.a z.b+Cc z.c z.d
def nHi (z:Bx):Int:=Ba z.a z.b+Ba z.c z.d
def Ld (c:Bx)(k:Nat):Bool:=match E7 c k with
 | some z=>decide (1125899906842624<nLo z)
 | none=>false
def whB (c:Bx)(M:Nat):Bool:=(List.range (M+1)).any (Ld c)
def Bx.coarse (x:Bx):Bx:=⟨x.a / 4096,Mx x.b 4096,x.c / 4096,Mx x.d 4096⟩
def Jv (x:Bx):Int:=Ba (x.coarse.a+4096) (x.coarse.b+4096)+Ba x.coarse.c x.coarse.d-1048576
def Lj (x:Bx):Int:=Ba (x.coarse.a-1024) (x.coarse.b-1024)+Ba x.coarse.c x.coarse.d +(x.coarse.b-1024)*4096
def Jq (x:Bx):Int:=(if Lj x<0 then Cc (x.coarse.a-1024) (x.coarse.b-1024)+Cc x.coarse.c x.coarse.d else Ba (x.coarse.a-1024) (x.coarse.b-1024)+Ba x.coarse.c x.coarse.d)*Lj x-Cc x.coarse.c x.coarse.d*4194304
def stB (x:Bx)(M:Nat):Int:=if Jq x<=0\/Jv x<=0 then 1 else if whB x M=true then -1 else 0
theorem Q9 (x:Int):0<=x*x:=by
 rcases Apa 0 x with h|h
 ·exact Anl h h
 ·exact Int.mul_nonneg_of_nonpos_of_nonpos h h
theorem Ty {x k:Int}(h1:-k<=x)(h2:x<=k):x*x<=k*k:=by
 rcases Apa 0 x with h|h
 ·exact Aq4 h2 h2 h (by omega)
 ·have:(-x) *(-x)<=k*k:=Aq4 (by omega) (by omega) (by omega) (by omega)
  rwa [Int.neg_mul_neg]at this
theorem Fw {x y k:Int}(h1:-k<=x)(h2:x<=k)(h3:-k<=y)(h4:y<=k):-(k*k)<=x*y/\x*y<=k*k:=by
 have hk:0<=k:=by omega
 have key:∀p q:Int,0<=p->p<=k->0<=q->q<=k->0<=p*q/\p*q<=k*k:=fun p q a b c d=>⟨Anl a c,Aq4 b d c hk⟩
 rcases Apa 0 x with h|h<;>rcases Apa 0 y with g|g
 ·have:=key x y h h2 g h4
  omega
 ·have:=key x (-y) h h2 (by omega) (by omega)
  rw[Int.mul_neg]at this
  omega
 ·have:=key (-x) y (by omega) (by omega) g h4
  rw[Apq]at this
  omega
 ·have:=key (-x) (-y) (by omega) (by omega) (by omega) (by omega)
  rw[Int.neg_mul_neg]at this
  omega
theorem Ec {l h k:Int}(h1:-k<=l)(h2:l<=k):0<=Cc l h/\Cc l h<=k*k:=by
 have a:=Q9 l;have b:=Q9 h;have c:=Ty h1 h2;unfold Cc
 split<;>omega
theorem Cm {l h k:Int}(h1:-k<=l)(h2:l<=k)(h3:-k<=h)(h4:h<=k):0<=Ba l h/\Ba l h<=k*k:=by
 have a:=Q9 l;have b:=Q9 h;have c:=Ty h1 h2;have d:=Ty h3 h4;unfold Ba
 omega
end
section
open Go.RowKit
theorem Ev {x:Int}(h1:-9223372036854775808<=x)(h2:x<=9223372036854775807):wrap64 x=x:=IntWalk.wrap64_in _ ⟨h1,h2⟩
theorem Ae0 (a b:Int)(hb:0<b):a / b=if a.tmod b≠0/\a<0 then a.tdiv b-1 else a.tdiv b:=by
 rcases Apa 0 a with h|h
 ·rw[Amd (by omega),Anx h]
 ·by_cases ha:a=0
  ·subst ha;simp
  have h1:a.tdiv b=-((-a) / b):=by
   have:a.tdiv b=-((-a).tdiv b):=by rw[Int.neg_tdiv,Int.neg_neg]
   rw[this,Anx (by omega)]
  have h2:a.tmod b=-((-a) % b):=by
   have:a.tmod b=-((-a).tmod b):=by rw[Int.neg_tmod,Int.neg_neg]
   rw[this,Int.tmod_eq_emod_of_nonneg (by omega)]
  rw[h1,h2];have e1:=Int.mul_ediv_add_emod (-a) b;have e2:=Int.emod_nonneg (-a) (Int.ne_of_gt hb);have e3:=Int.emod_lt_of_pos (-a) hb;generalize (-a) / b=q at *;generalize (-a) % b=r at *
  split
  ·rw[Int.ediv_eq_iff_of_pos hb];rw[Int.sub_mul,Apq,Ao8 q b]
   omega
  ·rename_i hn
   rw[Int.ediv_eq_iff_of_pos hb,Apq,Ao8 q b];have:r=0:=by omega
   omega
theorem Gp (a b:Int)(hb:0<b)(h1:-4611686018427387904<=a)(h2:a<=4611686018427387904)(w:World):Calls Vp.prog 168 #[.int .i64 a,.int .i64 b] w fun e w'=>e=.returned (.int .i64 (a / b))/\w=w':=by
 have hf:=Ae0 a b hb;have hz:(b == 0)=false:=by rw[Ap0];omega
 have hq1:-4611686018427387904<=a.tdiv b/\a.tdiv b<=4611686018427387904:=by
  have e1:(a.tdiv b).natAbs<=a.natAbs:=by rw[Int.natAbs_tdiv];exact Nat.div_le_self _ _
  omega
 obtain⟨q,hq⟩:∃q,a.tdiv b=q:=⟨_,rfl⟩;obtain⟨m,hm⟩:∃m,a.tmod b=m:=⟨_,rfl⟩;obtain⟨r,hr⟩:∃r,a / b=r:=⟨_,rfl⟩;rw[hq,hm,hr]at hf;rw[hq]at hq1;rw[hr];have HB:=Aly hq1;have hw1:wrap64 q=q:=Ev (by omega) (by omega)
 have hw2:wrap64 (q-1)=q-1:=Ev (by omega) (by omega)
 have hb':b≠0:=by omega
 clear hq1 hr hb
 by_cases h0:m=0
 ·have t1:(m != 0)=false:=by rw[h0];rfl
  rw[Amd (by omega)]at hf
  subst hf;clear h0 h1 h2
  go_enter Vp.func168,Tryz.ntmps168
  go_wp2
  go_ret
  exact⟨Hf (by first|rfl|exact hw1),rfl⟩
 ·have t1:(m != 0)=true:=by simpa using h0
  by_cases h3:a<0
  ·rw[Amo ⟨h0,h3⟩]at hf;subst hf;clear h0 h1 h2
   go_enter Vp.func168,Tryz.ntmps168
   go_wp2
   go_ret
   exact⟨Hf (by first|rfl|exact hw2|rw[hw1,hw2]),rfl⟩
  ·rw[Amd (by omega)]at hf
   subst hf;clear h0 h1 h2
   go_enter Vp.func168,Tryz.ntmps168
   go_wp2
   go_ret
   exact⟨Hf (by first|rfl|exact hw1),rfl⟩
theorem Ko (a b:Int)(hb:0<b)(h1:-4611686018427387904<=a)(h2:a<=4611686018427387904)(w:World):Calls Vp.prog 169 #[.int .i64 a,.int .i64 b] w fun e w'=>e=.returned (.int .i64 (Mx a b))/\w=w':=by
 have hw1:wrap64 (-a)=-a:=Ev (by omega) (by omega)
 have hq1:-4611686018427387904 <=(-a) / b /\(-a) / b<=4611686018427387904:=by
  have e1:=Int.mul_ediv_add_emod (-a) b;have e2:=Int.emod_nonneg (-a) (Int.ne_of_gt hb);have e3:=Int.emod_lt_of_pos (-a) hb
  constructor
  ·apply Int.le_ediv_of_mul_le hb
   have:-4611686018427387904*b<=-4611686018427387904*1:=Int.mul_le_mul_of_nonpos_left (by omega) (by omega)
   omega
  ·apply Int.ediv_le_of_le_mul hb
   have:4611686018427387904*1<=4611686018427387904*b:=Int.mul_le_mul_of_nonneg_left (by omega) (by omega)
   omega
 have hw2:wrap64 (-((-a) / b))=Mx a b:=Ev (by omega) (by omega)
 have HF:=Aly (Gp (-a) b hb (by omega) (by omega))
 clear hq1 h1 h2 hb;rw[<-hw1]at HF;obtain⟨q,hq⟩:∃q,wrap64 (-a) / b=q:=⟨_,rfl⟩;rw[hq]at HF;rw[hw1]at hq;rw[hq]at hw2;clear hw1 hq
 go_enter Vp.func169,Tryz.ntmps169
 go_wp2_with fail
 refine(HF.out _).mono ?_
 rintro e w1 ⟨rfl,rfl⟩
 go_wp2
 go_ret
 exact⟨Hf (by first|rfl|exact hw2),rfl⟩
theorem Cu (a b:Int)(h1:-1000000000<=a)(h2:a<=1000000000)(h3:-1000000000<=b)(h4:b<=1000000000)(w:World):Calls Vp.prog 134 #[.int .i64 a,.int .i64 b] w fun e w'=>e=.returned (.tuple #[.int .i64 (Cc a b),.int .i64 (Ba a b)])/\w=w':=by
 have a1:=Q9 a;have a2:=Ty h1 h2;have b1:=Q9 b;have b2:=Ty h3 h4;obtain⟨p,hp,hpv⟩:∃p,wrap64 (a*a)=p/\p=a*a:=⟨_,rfl,Ev (by omega) (by omega)⟩
 obtain⟨q,hq,hqv⟩:∃q,wrap64 (b*b)=q/\q=b*b:=⟨_,rfl,Ev (by omega) (by omega)⟩
 have HV:Hid (Cc a b=(if a<=0/\0<=b then 0 else min p q)/\Ba a b=max p q):=by rw[hpv,hqv];exact⟨rfl,rfl⟩
 clear a1 a2 b1 b2 h1 h2 h3 h4 hpv hqv;generalize Cc a b=r at *;generalize Ba a b=s at *;obtain⟨m,hm⟩:∃m,(if q<p then q else p)=m:=⟨_,rfl⟩
 obtain⟨n,hn⟩:∃n,(if p<q then q else p)=n:=⟨_,rfl⟩
 have HM:Hid (m=min p q):=by show m=_;rw[<-hm];split<;>omega
 have HN:Hid (n=max p q):=by show n=_;rw[<-hn];split<;>omega
 have hm':=HM.out.symm;have hn':=HN.out.symm
 by_cases h0:a<=0
 ·by_cases h1:0<=b
  ·have h:=HV.out;rw[Amo ⟨h0,h1⟩,<-HN.out]at h;obtain⟨rfl,rfl⟩:=h;clear HV HM HN
   go_enter Vp.func134,Tryz.ntmps134
   go_wp2
   all_goals
    go_ret2
    exact⟨rfl,rfl⟩
  ·have h:=HV.out;rw[Amd (by omega),<-HN.out,<-HM.out]at h
   obtain⟨rfl,rfl⟩:=h;clear HV HM HN
   go_enter Vp.func134,Tryz.ntmps134
   go_wp2
   all_goals
    go_ret2
    exact⟨rfl,rfl⟩
 ·have h:=HV.out;rw[Amd (by omega),<-HN.out,<-HM.out]at h
  obtain⟨rfl,rfl⟩:=h;clear HV HM HN
  go_enter Vp.func134,Tryz.ntmps134
  go_wp2
  all_goals
   go_ret2
   exact⟨rfl,rfl⟩
end
section
open Go.RowKit
def En (x:Bx):Value:=if x.ok=true then .tuple #[x.val,.bool true]else .tuple #[Ajf 0 0 0 0,.bool false]
theorem Ig (x:Bx):∃(p q r s:Int) (t:Bool),En x=.tuple #[.agg #[.int .i64 p,.int .i64 q,.int .i64 r,.int .i64 s],.bool t]:=by
 unfold En
 split
 ·exact⟨_,_,_,_,_,rfl⟩
 ·exact⟨_,_,_,_,_,rfl⟩
theorem Wl (a b c d:Int)(w:World):Calls Vp.prog 132 #[.agg #[.int .i64 a,.int .i64 b,.int .i64 c,.int .i64 d]] w fun e w'=>e=.returned (En ⟨a,b,c,d⟩)/\Below w.heap.size w w':=by
 have X0:A7 w w.heap.size #[.int .i64 a,.int .i64 b,.int .i64 c,.int .i64 d] 93 ((w.alloc (.cells #[.int .i64 a,.int .i64 b,.int .i64 c,.int .i64 d] 93)).alloc (.cells #[.int .i64 0,.int .i64 0,.int .i64 0,.int .i64 0] 93)):=(A7.new w _ _).alloc _
 have X1:A7 w (w.heap.size+1) #[.int .i64 0,.int .i64 0,.int .i64 0,.int .i64 0] 93 ((w.alloc (.cells #[.int .i64 a,.int .i64 b,.int .i64 c,.int .i64 d] 93)).alloc (.cells #[.int .i64 0,.int .i64 0,.int .i64 0,.int .i64 0] 93)):=by
  have:=(A7.new (w.alloc (.cells #[.int .i64 a,.int .i64 b,.int .i64 c,.int .i64 d] 93)) #[.int .i64 0,.int .i64 0,.int .i64 0,.int .i64 0] 93).up (w0:=w) ((Amc _ _).alloc (Am0 _) _)
  rwa [An5]at this
 have HF:Hid (∀W,Below w.heap.size w W->∀u0 u1 u2 u3,Below w.heap.size w ((((W.setCell ⟨w.heap.size+1,0,none⟩ u0).setCell ⟨w.heap.size+1,1,none⟩ u1).setCell ⟨w.heap.size+1,2,none⟩ u2).setCell ⟨w.heap.size+1,3,none⟩ u3)):=fun W h u0 u1 u2 u3 =>
  (((h.setCell (p:=⟨w.heap.size+1,0,none⟩) (by simp) _).setCell (p:=⟨w.heap.size+1,1,none⟩) (by simp) _).setCell (p:=⟨w.heap.size+1,2,none⟩) (by simp) _).setCell (p:=⟨w.heap.size+1,3,none⟩) (by simp) _
 go_enter Vp.func132,Tryz.ntmps132
 go_wp2_with fail
 refine(Bm a b c d _).mono ?_
 rintro e w1 ⟨rfl,hb⟩;replace X0:=X0.step hb;replace X1:=X1.step hb;clear hb;have x0:=X0.cell 0 _ rfl;have x1:=X0.cell 1 _ rfl;have x2:=X0.cell 2 _ rfl;have x3:=X0.cell 3 _ rfl;have c0:=X1.cell 0 _ rfl;have c1:=X1.cell 1 _ rfl;have c2:=X1.cell 2 _ rfl;have c3:=X1.cell 3 _ rfl;have f0:=X1.frozen 0;have f1:=X1.frozen 1;have f2:=X1.frozen 2;have f3:=X1.frozen 3;have HB:=Aly X1.old;clear X0 X1
 cases hv:Ap a b c d with
 | false =>
   have HD:Hid (En ⟨a,b,c,d⟩=.tuple #[.agg #[.int .i64 0,.int .i64 0,.int .i64 0,.int .i64 0],.bool false]):=by show En _=_;unfold En Bx.ok;rw[hv];rfl
   go_wp2
   exact Am5 (v:=.tuple #[.agg #[.int .i64 0,.int .i64 0,.int .i64 0,.int .i64 0],.bool false]) (by simp[results,Tryz.f132,go_sem,c0,c1,c2,c3]) rfl ⟨by rw[HD.out],HF.out _ HB.out _ _ _ _⟩
 | true =>
   have HD:Hid (En ⟨a,b,c,d⟩=.tuple #[.agg #[.int .i64 a,.int .i64 b,.int .i64 c,.int .i64 d],.bool true]):=by show En _=_;unfold En Bx.ok;rw[hv];rfl
   go_wp2
   exact Am5 (v:=.tuple #[.agg #[.int .i64 a,.int .i64 b,.int .i64 c,.int .i64 d],.bool true]) (by simp[results,Tryz.f132,go_sem,c0,c1,c2,c3]) rfl ⟨by rw[HD.out],HF.out _ HB.out _ _ _ _⟩
theorem A3i (a b c d:Int)(hv:Ap a b c d=true)(w:World):Calls Vp.prog 136 #[.agg #[.int .i64 a,.int .i64 b,.int .i64 c,.int .i64 d]] w fun e w'=>e=.returned (.tuple #[.int .i64 (nLo ⟨a,b,c,d⟩),.int .i64 (nHi ⟨a,b,c,d⟩),.bool true])/\Below w.heap.size w w':=by
 obtain⟨b1,b2,b3,b4,b5,b6⟩:=Bx.bd (x:=⟨a,b,c,d⟩) hv;dsimp only at b1 b2 b3 b4 b5 b6;have l1:=Ec (l:=a) (h:=b) (k:=134217728) (by omega) (by omega)
 have l2:=Ec (l:=c) (h:=d) (k:=134217728) (by omega) (by omega)
 have l3:=Cm (l:=a) (h:=b) (k:=134217728) (by omega) (by omega) (by omega) (by omega)
 have l4:=Cm (l:=c) (h:=d) (k:=134217728) (by omega) (by omega) (by omega) (by omega)
 have HQ:=Aly (Cu a b (by omega) (by omega) (by omega) (by omega))
 have HR:=Aly (Cu c d (by omega) (by omega) (by omega) (by omega))
 have HL:Hid (nLo ⟨a,b,c,d⟩=Cc a b+Cc c d/\nHi ⟨a,b,c,d⟩=Ba a b+Ba c d):=⟨rfl,rfl⟩;have hw1:wrap64 (Cc a b+Cc c d)=nLo ⟨a,b,c,d⟩:=Ev (by omega) (by omega)
 have hw2:wrap64 (Ba a b+Ba c d)=nHi ⟨a,b,c,d⟩:=Ev (by omega) (by omega)
 clear l1 l2 l3 l4 b1 b2 b3 b4 b5 b6 HL;generalize nLo ⟨a,b,c,d⟩=N1 at *;generalize nHi ⟨a,b,c,d⟩=N2 at *;generalize Cc a b=s1 at *;generalize Cc c d=s3 at *;generalize Ba a b=s2 at *;generalize Ba c d=s4 at *;have X:=A7.new w #[.int .i64 a,.int .i64 b,.int .i64 c,.int .i64 d] 93
 go_enter Vp.func136,Tryz.ntmps136
 go_wp2_with fail
 refine(Bm a b c d _).mono ?_
 rintro e w1 ⟨rfl,hb⟩;replace X:=X.step hb;clear hb;have x0:=X.cell 0 _ rfl;have x1:=X.cell 1 _ rfl;have x2:=X.cell 2 _ rfl;have x3:=X.cell 3 _ rfl;have HB:=Aly X.old;clear X;rw[hv]
 go_wp2_with fail
 refine(HQ.out _).mono ?_
 rintro e w2 ⟨rfl,rfl⟩
 go_wp2_with fail
 refine(HR.out _).mono ?_
 rintro e w2 ⟨rfl,rfl⟩
 go_wp2
 exact Am5 (v:=.tuple #[.int .i64 N1,.int .i64 N2,.bool true]) (by simp[results,Tryz.f136,go_sem,hw1,hw2]) rfl ⟨rfl,HB.out⟩
theorem A73 (a b c d a' b' c' d':Int)(hv:Ap a b c d=true)(hv2:Ap a' b' c' d'=true)(w:World):Calls Vp.prog 138 #[.agg #[.int .i64 a,.int .i64 b,.int .i64 c,.int .i64 d],.agg #[.int .i64 a',.int .i64 b',.int .i64 c',.int .i64 d']] w fun e w'=>e=.returned (En ⟨a+a',b+b',c+c',d+d'⟩)/\Below w.heap.size w w':=by
 obtain⟨b1,b2,b3,b4,b5,b6⟩:=Bx.bd (x:=⟨a,b,c,d⟩) hv;obtain⟨g1,g2,g3,g4,g5,g6⟩:=Bx.bd (x:=⟨a',b',c',d'⟩) hv2;dsimp only at b1 b2 b3 b4 b5 b6 g1 g2 g3 g4 g5 g6;obtain⟨S1,hw1,e1⟩:∃s,wrap64 (a+a')=s/\a+a'=s:=⟨_,Ev (by omega) (by omega),rfl⟩
 obtain⟨S2,hw2,e2⟩:∃s,wrap64 (b+b')=s/\b+b'=s:=⟨_,Ev (by omega) (by omega),rfl⟩
 obtain⟨S3,hw3,e3⟩:∃s,wrap64 (c+c')=s/\c+c'=s:=⟨_,Ev (by omega) (by omega),rfl⟩
 obtain⟨S4,hw4,e4⟩:∃s,wrap64 (d+d')=s/\d+d'=s:=⟨_,Ev (by omega) (by omega),rfl⟩
 rw[e1,e2,e3,e4];have HD:=Aly (Wl S1 S2 S3 S4);obtain⟨x,y,z,u,t,hx⟩:=Ig ⟨S1,S2,S3,S4⟩;rw[hx]at HD;rw[hx];clear b1 b2 b3 b4 b5 b6 g1 g2 g3 g4 g5 g6 e1 e2 e3 e4 hx;have X0:=((A7.new w #[.int .i64 a,.int .i64 b,.int .i64 c,.int .i64 d] 93).alloc (.cells #[.int .i64 a',.int .i64 b',.int .i64 c',.int .i64 d'] 93)).alloc (.cells #[.int .i64 0,.int .i64 0,.int .i64 0,.int .i64 0] 93)
 have Y0:A7 w (w.heap.size+1) #[.int .i64 a',.int .i64 b',.int .i64 c',.int .i64 d'] 93 (((w.alloc (.cells #[.int .i64 a,.int .i64 b,.int .i64 c,.int .i64 d] 93)).alloc (.cells #[.int .i64 a',.int .i64 b',.int .i64 c',.int .i64 d'] 93)).alloc (.cells #[.int .i64 0,.int .i64 0,.int .i64 0,.int .i64 0] 93)):=by
  have:=((A7.new (w.alloc (.cells #[.int .i64 a,.int .i64 b,.int .i64 c,.int .i64 d] 93)) #[.int .i64 a',.int .i64 b',.int .i64 c',.int .i64 d'] 93).alloc (.cells #[.int .i64 0,.int .i64 0,.int .i64 0,.int .i64 0] 93)).up (w0:=w) ((Amc _ _).alloc (Am0 _) _)
  rwa [An5]at this
 have Z0:A7 w (w.heap.size+1+1) #[.int .i64 0,.int .i64 0,.int .i64 0,.int .i64 0] 93 (((w.alloc (.cells #[.int .i64 a,.int .i64 b,.int .i64 c,.int .i64 d] 93)).alloc (.cells #[.int .i64 a',.int .i64 b',.int .i64 c',.int .i64 d'] 93)).alloc (.cells #[.int .i64 0,.int .i64 0,.int .i64 0,.int .i64 0] 93)):=by
  have:=(A7.new ((w.alloc (.cells #[.int .i64 a,.int .i64 b,.int .i64 c,.int .i64 d] 93)).alloc (.cells #[.int .i64 a',.int .i64 b',.int .i64 c',.int .i64 d'] 93)) #[.int .i64 0,.int .i64 0,.int .i64 0,.int .i64 0] 93).up (w0:=w) (((Amc _ _).alloc (Am0 _) _).alloc (by simp) _)
  rwa [An5,An5]at this
 have HF:Hid (∀W,Below w.heap.size w W->∀u0 u1 u2 u3,Below w.heap.size w ((((W.setCell ⟨w.heap.size+1+1,0,none⟩ u0).setCell ⟨w.heap.size+1+1,1,none⟩ u1).setCell ⟨w.heap.size+1+1,2,none⟩ u2).setCell ⟨w.heap.size+1+1,3,none⟩ u3)):=fun W h u0 u1 u2 u3 =>
  (((h.setCell (p:=⟨w.heap.size+1+1,0,none⟩) (by simp;omega) _).setCell (p:=⟨w.heap.size+1+1,1,none⟩) (by simp;omega) _).setCell (p:=⟨w.heap.size+1+1,2,none⟩) (by simp;omega) _).setCell (p:=⟨w.heap.size+1+1,3,none⟩) (by simp;omega) _
 go_enter Vp.func138,Tryz.ntmps138
 go_wp2_with fail
 refine(Bm a b c d _).mono ?_
 rintro e w1 ⟨rfl,hb⟩;replace X0:=X0.step hb;replace Y0:=Y0.step hb;replace Z0:=Z0.step hb;clear hb;have y0:=Y0.cell 0 _ rfl;have y1:=Y0.cell 1 _ rfl;have y2:=Y0.cell 2 _ rfl;have y3:=Y0.cell 3 _ rfl;rw[hv]
 go_wp2_with fail
 refine(Bm a' b' c' d' _).mono ?_
 rintro e w2 ⟨rfl,hb⟩;replace X0:=X0.step hb;replace Y0:=Y0.step hb;replace Z0:=Z0.step hb;clear hb y0 y1 y2 y3;have x0:=X0.cell 0 _ rfl;have x1:=X0.cell 1 _ rfl;have x2:=X0.cell 2 _ rfl;have x3:=X0.cell 3 _ rfl;have y0:=Y0.cell 0 _ rfl;have y1:=Y0.cell 1 _ rfl;have y2:=Y0.cell 2 _ rfl;have y3:=Y0.cell 3 _ rfl;rw[hv2];clear X0 Y0
 go_wp2_with fail
 refine(HD.out _).mono ?_
 rintro e w3 ⟨rfl,hb⟩;replace Z0:=Z0.step hb;clear hb x0 x1 x2 x3 y0 y1 y2 y3;have c0:=Z0.cell 0 _ rfl;have c1:=Z0.cell 1 _ rfl;have c2:=Z0.cell 2 _ rfl;have c3:=Z0.cell 3 _ rfl;have f0:=Z0.frozen 0;have f1:=Z0.frozen 1;have f2:=Z0.frozen 2;have f3:=Z0.frozen 3;have HB:=Aly Z0.old;clear Z0
 go_wp2
 exact Am5 (v:=.tuple #[.agg #[.int .i64 x,.int .i64 y,.int .i64 z,.int .i64 u],.bool t]) (by simp[results,Tryz.f138,go_sem,c0,c1,c2,c3]) rfl ⟨rfl,HF.out _ HB.out _ _ _ _⟩
end
end Go.Proofs.YtjaehldnlamgkaaGreatDoor
