import Derived.Test.YtjaehldnlamgkaaGreatDoorXe26
import Derived.Deep.CutRange
import Derived.Orders
import Derived.OrdersHeld
import Derived.Test.YtjaehldnlamgkaaGreatDoorXe0
import Derived.Test.YtjaehldnlamgkaaGreatDoorXeK
set_option linter.all false
set_option maxHeartbeats 16000000
set_option maxRecDepth 100000
namespace Go.Proofs.YtjaehldnlamgkaaGreatDoor
section
open Go.RowKit
theorem Yi {x:Bx}{k:Nat}{p q r s:Int}(h:E7 x k=some ⟨p,q,r,s⟩):Ap p q r s=true:=by
 cases k with
 | zero =>
   unfold E7 at h;injection h with h
   injection h with h1 h2 h3 h4
   subst h1 h2 h3 h4
   rfl
 | succ k =>
   unfold E7 at h
   cases hk:E7 x k with
   | none=>rw[hk]at h;cases h
   | some z =>
     rw[hk]at h;have h:Bx.next x z=some ⟨p,q,r,s⟩:=h;unfold Bx.next at h
     split at h
     ·split at h
      ·rename_i g
       injection h with h
       rw[h]at g
       exact g
      ·cases h
     ·cases h
theorem A1n {x:Bx}{k:Nat}(h:E7 x k=none):∀i,k<=i->Ld x i=false:=by
 have:∀j,E7 x (k+j)=none:=by
  intro j
  induction j with
  | zero=>exact h
  | succ j ih=>show(E7 x (k+j)).bind _=none;rw[ih];rfl
 intro i hi;obtain⟨j,rfl⟩:=Nat.exists_eq_add_of_le hi;unfold Ld;rw[this j]
def Cn (x:Bx)(M:Nat)(y:Int):Prop:=(whB x M=true/\0<=y) \/(whB x M=false/\y=-1)
theorem A5h {x:Bx}{M:Nat}(h:∀i,i<=M->Ld x i=false):whB x M=false:=by
 unfold whB;rw[List.any_eq_false];intro i hi;rw[Apj]at hi;rw[h i (by omega)]
 simp
theorem Cn.hit {x z:Bx}{M k:Nat}(hk:k<=M)(h1:E7 x k=some z)(h2:(1125899906842624:Int)<nLo z):Cn x M k:=by
 refine .inl ⟨?_,by omega⟩
 unfold whB;rw[List.any_eq_true]
 refine⟨k,Apj.2 (by omega),?_⟩
 unfold Ld;rw[h1]
 simpa using h2
theorem Yj {x z:Bx}{k:Nat}(h1:E7 x k=some z)(h2:¬(1125899906842624:Int)<nLo z):Ld x k=false:=by
 unfold Ld;rw[h1]
 simpa using h2
theorem Cn.stop {x z:Bx}{M k:Nat}(h1:E7 x k=some z)(h2:¬(1125899906842624:Int)<nLo z)(hp:∀i,i<k->Ld x i=false)(hn:Bx.next x z=none):Cn x M (-1):=by
 refine .inr ⟨A5h fun i _=>?_,rfl⟩
 rcases Aqi i k with h|h|h
 ·exact hp i h
 ·rw[h];exact Yj h1 h2
 ·exact A1n (k:=k+1) (by show(E7 x k).bind _=none;rw[h1];exact hn) i h
theorem Cn.full {x:Bx}{M k:Nat}(hk:M<k)(hp:∀i,i<k->Ld x i=false):Cn x M (-1):=.inr ⟨A5h fun i hi=>hp i (by omega),rfl⟩
theorem Gj (x:Bx):∃(p q r s:Int) (t:Bool),En x=.tuple #[.agg #[.int .i64 p,.int .i64 q,.int .i64 r,.int .i64 s],.bool t]/\Ap p q r s=true /\((t=true/\x=⟨p,q,r,s⟩) \/(t=false/\x.ok=false)):=by
 unfold En
 split
 ·rename_i h
  exact⟨x.a,x.b,x.c,x.d,true,rfl,h,.inl ⟨rfl,rfl⟩⟩
 ·rename_i h
  exact⟨0,0,0,0,false,rfl,rfl,.inr ⟨rfl,by simpa using h⟩⟩
theorem Il {x z:Bx}(h:z.sq.ok=false):Bx.next x z=none:=by
 unfold Bx.next;rw[Amd (by rw[h];simp)]
theorem Im {x z:Bx}{p q r s:Int}(h:z.sq=⟨p,q,r,s⟩)(g:Bx.ok ⟨p+x.a,q+x.b,r+x.c,s+x.d⟩=false):Bx.next x z=none:=by
 unfold Bx.next;rw[h]
 split
 ·rw[Amd];rw[show Bx.add ⟨p,q,r,s⟩ x=⟨p+x.a,q+x.b,r+x.c,s+x.d⟩from rfl,g];simp
 ·rfl
theorem Te {x z:Bx}{k:Nat}{p q r s p2 q2 r2 s2:Int}(h1:E7 x k=some z)(h2:¬(1125899906842624:Int)<nLo z)(hp:∀i,i<k->Ld x i=false)(h:z.sq=⟨p,q,r,s⟩)(g:(⟨p+x.a,q+x.b,r+x.c,s+x.d⟩:Bx)=⟨p2,q2,r2,s2⟩)(o1:Ap p q r s=true)(o2:Ap p2 q2 r2 s2=true) :
 E7 x (k+1)=some ⟨p2,q2,r2,s2⟩/\∀i,i<k+1->Ld x i=false:=by
 refine⟨?_,fun i hi=>?_⟩
 ·show(E7 x k).bind _=_
  rw[h1]
  show Bx.next x z=_
  unfold Bx.next;rw[h,Amo (show Bx.ok ⟨p,q,r,s⟩=true from o1),show Bx.add ⟨p,q,r,s⟩ x=⟨p2,q2,r2,s2⟩from g,Amo (show Bx.ok ⟨p2,q2,r2,s2⟩=true from o2)]
 ·by_cases e:i=k
  ·rw[e];exact Yj h1 h2
  ·exact hp i (by omega)
theorem Xj (a b c d n:Int)(hv:Ap a b c d=true)(w:World):Calls Vp.prog 93 #[.agg #[.int .i64 a,.int .i64 b,.int .i64 c,.int .i64 d],.int .i64 n] w fun e w'=>(∃(x y:Int),e=.returned (.tuple #[.int .i64 x,.int .i64 y,.bool true])/\Cn ⟨a,b,c,d⟩ (Aj n).toNat y)/\Below w.heap.size w w':=by
 have hv':=hv
 obtain⟨M,hM,hM4⟩:∃M:Nat,Aj n=M/\M<=400:=by
  have:=Gs n
  exact⟨(Aj n).toNat,by omega,by omega⟩
 have HMM:Hid ((Aj n).toNat=M):=by show(Aj n).toNat=M;omega
 have HMS:=Aly (fun w=>Wk n w)
 rw[hM]at HMS;rw[HMM.out];have HV:=Aly hv;clear hM hv HMM;have X:=A7.new w #[.int .i64 a,.int .i64 b,.int .i64 c,.int .i64 d] 93
 go_enter Vp.func93,Tryz.ntmps93
 go_wp2_with fail
 refine(Bm a b c d _).mono ?_
 rintro e w1 ⟨rfl,hb⟩;replace X:=X.step hb;clear hb;rw[hv'];have Z:=(A7.new w1 #[.int .i64 0,.int .i64 0,.int .i64 0,.int .i64 0] 93).up X.old;have hne:w.heap.size≠w1.heap.size:=by have:=X.lt;omega
 have hzb:w.heap.size<=w1.heap.size:=X.old.size;replace X:=X.alloc (.cells #[.int .i64 0,.int .i64 0,.int .i64 0,.int .i64 0] 93)
 go_wp2
 generalize w1.heap.size=zb at *
 go_loopw [7,9,10,11,12,13,14,15,16] (fun f k _ _ _ _ _ _ _ wr=>∃(fi:Int) (j:Nat) (p q r s:Int),j<=401/\f=.int .i64 fi/\k=.int .i64 j/\A7 w w.heap.size #[.int .i64 a,.int .i64 b,.int .i64 c,.int .i64 d] 93 wr/\A7 w zb #[.int .i64 p,.int .i64 q,.int .i64 r,.int .i64 s] 93 wr/\Hid (E7 ⟨a,b,c,d⟩ j=some ⟨p,q,r,s⟩/\∀i,i<j->Ld ⟨a,b,c,d⟩ i=false)) (fun _ k _ _ _ _ _ _ _ _=>(401-intOf k).toNat)
 case atStart=>exact⟨-1,0,0,0,0,0,by omega,rfl,rfl,X,Z,rfl,fun i hi=>by omega⟩
 case round =>
  clear X Z;obtain⟨fi,k,p,q,r,s,hk,rfl,rfl,X,Z,HI⟩:=hrel;have hz:Ap p q r s=true:=Yi HI.out.1;obtain⟨wo,rfl⟩:∃wo,wo=wr:=⟨_,rfl⟩
  go_wp2_with fail
  refine(HMS.out _).mono ?_
  rintro e w2 ⟨rfl,rfl⟩;have HNO:=Aly (A3i p q r s hz);have HSQ:=Aly (Xl p q r s hz);obtain⟨lo,elo⟩:∃x,nLo ⟨p,q,r,s⟩=x:=⟨_,rfl⟩;obtain⟨hi,ehi⟩:∃x,nHi ⟨p,q,r,s⟩=x:=⟨_,rfl⟩;rw[elo,ehi]at HNO;have ELO:=Aly elo;clear elo ehi hz
  by_cases hle:(k:Int)<=M
  ·have z0:=Z.cell 0 _ rfl;have z1:=Z.cell 1 _ rfl;have z2:=Z.cell 2 _ rfl;have z3:=Z.cell 3 _ rfl
   go_wp2_with fail
   refine(HNO.out _).mono ?_
   rintro e w2 ⟨rfl,hb⟩;clear z0 z1 z2 z3;replace X:=X.step hb;replace Z:=Z.step hb;clear hb;have z0:=Z.cell 0 _ rfl;have z1:=Z.cell 1 _ rfl;have z2:=Z.cell 2 _ rfl;have z3:=Z.cell 3 _ rfl
   by_cases hlo:(1125899906842624:Int)<lo
   ·have HE:Hid (Cn ⟨a,b,c,d⟩ M k):=Cn.hit (by omega) HI.out.1 (by rw[ELO.out];exact hlo)
    have HB:=Aly X.old;clear X Z
    by_cases hf:fi<0
    ·by_cases hh:(1125899906842624:Int)<hi
     ·go_wp2
      exact Am5 (v:=.tuple #[.int .i64 _,.int .i64 _,.bool true]) (by simp[results,Tryz.f93,go_sem];first|exact⟨rfl,rfl⟩|exact rfl) rfl ⟨⟨_,_,rfl,HE.out⟩,HB.out⟩
     ·go_wp2
      exact Am5 (v:=.tuple #[.int .i64 _,.int .i64 _,.bool true]) (by simp[results,Tryz.f93,go_sem];first|exact⟨rfl,rfl⟩|exact rfl) rfl ⟨⟨_,_,rfl,HE.out⟩,HB.out⟩
    ·go_wp2
     exact Am5 (v:=.tuple #[.int .i64 _,.int .i64 _,.bool true]) (by simp[results,Tryz.f93,go_sem];first|exact⟨rfl,rfl⟩|exact rfl) rfl ⟨⟨_,_,rfl,HE.out⟩,HB.out⟩
   ·have HNL:Hid (¬(1125899906842624:Int)<nLo ⟨p,q,r,s⟩):=by show ¬_;rw[ELO.out];exact hlo
    obtain⟨p1,q1,r1,s1,t1,hx1,hok1,hc1⟩:=Gj (Bx.sq ⟨p,q,r,s⟩);rw[hx1]at HSQ;have HAD:=Aly (A73 p1 q1 r1 s1 a b c d hok1 HV.out);obtain⟨p2,q2,r2,s2,t2,hx2,hok2,hc2⟩:=Gj ⟨p1+a,q1+b,r1+c,s1+d⟩;rw[hx2]at HAD;have HC1:=Aly hc1;have HC2:=Aly hc2;have HO1:=Aly hok1;have HO2:=Aly hok2;clear hx1 hx2 hok1 hok2 hc1 hc2
    by_cases hf:fi<0
    ·by_cases hh:(1125899906842624:Int)<hi
     ·go_wp2_with fail
      refine(HSQ.out _).mono ?_
      rintro e w3 ⟨rfl,hb⟩;clear z0 z1 z2 z3;replace X:=X.step hb;replace Z:=Z.step hb;clear hb;have S:=(A7.new w3 #[.int .i64 p1,.int .i64 q1,.int .i64 r1,.int .i64 s1] 93).up X.old;replace X:=X.alloc (.cells #[.int .i64 p1,.int .i64 q1,.int .i64 r1,.int .i64 s1] 93);replace Z:=Z.alloc (.cells #[.int .i64 p1,.int .i64 q1,.int .i64 r1,.int .i64 s1] 93);have y0:=S.cell 0 _ rfl;have y1:=S.cell 1 _ rfl;have y2:=S.cell 2 _ rfl;have y3:=S.cell 3 _ rfl;have x0:=X.cell 0 _ rfl;have x1:=X.cell 1 _ rfl;have x2:=X.cell 2 _ rfl;have x3:=X.cell 3 _ rfl
      go_wp2_with fail
      refine(HAD.out _).mono ?_
      rintro e w4 ⟨rfl,hb⟩;clear x0 x1 x2 x3 y0 y1 y2 y3 S;replace X:=X.step hb;replace Z:=Z.step hb;clear hb;have N:=(A7.new w4 #[.int .i64 p2,.int .i64 q2,.int .i64 r2,.int .i64 s2] 93).up X.old;replace X:=X.alloc (.cells #[.int .i64 p2,.int .i64 q2,.int .i64 r2,.int .i64 s2] 93);replace Z:=Z.alloc (.cells #[.int .i64 p2,.int .i64 q2,.int .i64 r2,.int .i64 s2] 93);have HB:=Aly X.old
      cases t1 with
      | false =>
        have HE:Hid (Cn ⟨a,b,c,d⟩ M (-1)):=Cn.stop HI.out.1 (by have:=HNL.out;omega) HI.out.2 (Il (HC1.out.resolve_left (fun h=>by cases h.1)).2)
        clear X Z N
        go_wp2
        exact Am5 (v:=.tuple #[.int .i64 _,.int .i64 _,.bool true]) (by simp[results,Tryz.f93,go_sem];first|exact⟨rfl,rfl⟩|exact rfl) rfl ⟨⟨_,_,rfl,HE.out⟩,HB.out⟩
      | true =>
        cases t2 with
        | false =>
          have HE:Hid (Cn ⟨a,b,c,d⟩ M (-1)):=Cn.stop HI.out.1 (by have:=HNL.out;omega) HI.out.2 (Im (HC1.out.resolve_right (fun h=>by cases h.1)).2 (HC2.out.resolve_left (fun h=>by cases h.1)).2)
          clear X Z N
          go_wp2
          exact Am5 (v:=.tuple #[.int .i64 _,.int .i64 _,.bool true]) (by simp[results,Tryz.f93,go_sem];first|exact⟨rfl,rfl⟩|exact rfl) rfl ⟨⟨_,_,rfl,HE.out⟩,HB.out⟩
        | true =>
          have HI2:Hid (E7 ⟨a,b,c,d⟩ (k+1)=some ⟨p2,q2,r2,s2⟩/\∀i,i<k+1->Ld ⟨a,b,c,d⟩ i=false):=Te HI.out.1 (by have:=HNL.out;omega) HI.out.2 (HC1.out.resolve_right (fun h=>by cases h.1)).2 (HC2.out.resolve_right (fun h=>by cases h.1)).2 HO1.out HO2.out
          have n0:=N.cell 0 _ rfl;have n1:=N.cell 1 _ rfl;have n2:=N.cell 2 _ rfl;have n3:=N.cell 3 _ rfl;have z0:=Z.cell 0 _ rfl;have z1:=Z.cell 1 _ rfl;have z2:=Z.cell 2 _ rfl;have z3:=Z.cell 3 _ rfl;have f0:=Z.frozen 0;have f1:=Z.frozen 1;have f2:=Z.frozen 2;have f3:=Z.frozen 3;have HZ:Hid (∀u0 u1 u2 u3,A7 w zb #[u0,u1,u2,u3] 93 (((((w4.alloc (.cells #[.int .i64 p2,.int .i64 q2,.int .i64 r2,.int .i64 s2] 93)).setCell ⟨zb,0,none⟩ u0).setCell ⟨zb,1,none⟩ u1).setCell ⟨zb,2,none⟩ u2).setCell ⟨zb,3,none⟩ u3)):=fun u0 u1 u2 u3=>(((Z.set hzb 0 u0).set hzb 1 u1).set hzb 2 u2).set hzb 3 u3
          have HX:Hid (∀u0 u1 u2 u3,A7 w w.heap.size #[.int .i64 a,.int .i64 b,.int .i64 c,.int .i64 d] 93 (((((w4.alloc (.cells #[.int .i64 p2,.int .i64 q2,.int .i64 r2,.int .i64 s2] 93)).setCell ⟨zb,0,none⟩ u0).setCell ⟨zb,1,none⟩ u1).setCell ⟨zb,2,none⟩ u2).setCell ⟨zb,3,none⟩ u3)):=fun u0 u1 u2 u3=>(((X.other (p:=⟨zb,0,none⟩) hzb hne u0).other (p:=⟨zb,1,none⟩) hzb hne u1).other (p:=⟨zb,2,none⟩) hzb hne u2).other (p:=⟨zb,3,none⟩) hzb hne u3
          clear X Z N HB
          go_wp2
          go_roundw
          case rel=>exact⟨k,k+1,p2,q2,r2,s2,by omega,rfl,by go_num,HX.out _ _ _ _,HZ.out _ _ _ _,HI2⟩
          case measure=>simp[intOf];omega
     ·go_wp2_with fail
      refine(HSQ.out _).mono ?_
      rintro e w3 ⟨rfl,hb⟩;clear z0 z1 z2 z3;replace X:=X.step hb;replace Z:=Z.step hb;clear hb;have S:=(A7.new w3 #[.int .i64 p1,.int .i64 q1,.int .i64 r1,.int .i64 s1] 93).up X.old;replace X:=X.alloc (.cells #[.int .i64 p1,.int .i64 q1,.int .i64 r1,.int .i64 s1] 93);replace Z:=Z.alloc (.cells #[.int .i64 p1,.int .i64 q1,.int .i64 r1,.int .i64 s1] 93);have y0:=S.cell 0 _ rfl;have y1:=S.cell 1 _ rfl;have y2:=S.cell 2 _ rfl;have y3:=S.cell 3 _ rfl;have x0:=X.cell 0 _ rfl;have x1:=X.cell 1 _ rfl;have x2:=X.cell 2 _ rfl;have x3:=X.cell 3 _ rfl
      go_wp2_with fail
      refine(HAD.out _).mono ?_
      rintro e w4 ⟨rfl,hb⟩;clear x0 x1 x2 x3 y0 y1 y2 y3 S;replace X:=X.step hb;replace Z:=Z.step hb;clear hb;have N:=(A7.new w4 #[.int .i64 p2,.int .i64 q2,.int .i64 r2,.int .i64 s2] 93).up X.old;replace X:=X.alloc (.cells #[.int .i64 p2,.int .i64 q2,.int .i64 r2,.int .i64 s2] 93);replace Z:=Z.alloc (.cells #[.int .i64 p2,.int .i64 q2,.int .i64 r2,.int .i64 s2] 93);have HB:=Aly X.old
      cases t1 with
      | false =>
        have HE:Hid (Cn ⟨a,b,c,d⟩ M (-1)):=Cn.stop HI.out.1 (by have:=HNL.out;omega) HI.out.2 (Il (HC1.out.resolve_left (fun h=>by cases h.1)).2)
        clear X Z N
        go_wp2
        exact Am5 (v:=.tuple #[.int .i64 _,.int .i64 _,.bool true]) (by simp[results,Tryz.f93,go_sem];first|exact⟨rfl,rfl⟩|exact rfl) rfl ⟨⟨_,_,rfl,HE.out⟩,HB.out⟩
      | true =>
        cases t2 with
        | false =>
          have HE:Hid (Cn ⟨a,b,c,d⟩ M (-1)):=Cn.stop HI.out.1 (by have:=HNL.out;omega) HI.out.2 (Im (HC1.out.resolve_right (fun h=>by cases h.1)).2 (HC2.out.resolve_left (fun h=>by cases h.1)).2)
          clear X Z N
          go_wp2
          exact Am5 (v:=.tuple #[.int .i64 _,.int .i64 _,.bool true]) (by simp[results,Tryz.f93,go_sem];first|exact⟨rfl,rfl⟩|exact rfl) rfl ⟨⟨_,_,rfl,HE.out⟩,HB.out⟩
        | true =>
          have HI2:Hid (E7 ⟨a,b,c,d⟩ (k+1)=some ⟨p2,q2,r2,s2⟩/\∀i,i<k+1->Ld ⟨a,b,c,d⟩ i=false):=Te HI.out.1 (by have:=HNL.out;omega) HI.out.2 (HC1.out.resolve_right (fun h=>by cases h.1)).2 (HC2.out.resolve_right (fun h=>by cases h.1)).2 HO1.out HO2.out
          have n0:=N.cell 0 _ rfl;have n1:=N.cell 1 _ rfl;have n2:=N.cell 2 _ rfl;have n3:=N.cell 3 _ rfl;have z0:=Z.cell 0 _ rfl;have z1:=Z.cell 1 _ rfl;have z2:=Z.cell 2 _ rfl;have z3:=Z.cell 3 _ rfl;have f0:=Z.frozen 0;have f1:=Z.frozen 1;have f2:=Z.frozen 2;have f3:=Z.frozen 3;have HZ:Hid (∀u0 u1 u2 u3,A7 w zb #[u0,u1,u2,u3] 93 (((((w4.alloc (.cells #[.int .i64 p2,.int .i64 q2,.int .i64 r2,.int .i64 s2] 93)).setCell ⟨zb,0,none⟩ u0).setCell ⟨zb,1,none⟩ u1).setCell ⟨zb,2,none⟩ u2).setCell ⟨zb,3,none⟩ u3)):=fun u0 u1 u2 u3=>(((Z.set hzb 0 u0).set hzb 1 u1).set hzb 2 u2).set hzb 3 u3
          have HX:Hid (∀u0 u1 u2 u3,A7 w w.heap.size #[.int .i64 a,.int .i64 b,.int .i64 c,.int .i64 d] 93 (((((w4.alloc (.cells #[.int .i64 p2,.int .i64 q2,.int .i64 r2,.int .i64 s2] 93)).setCell ⟨zb,0,none⟩ u0).setCell ⟨zb,1,none⟩ u1).setCell ⟨zb,2,none⟩ u2).setCell ⟨zb,3,none⟩ u3)):=fun u0 u1 u2 u3=>(((X.other (p:=⟨zb,0,none⟩) hzb hne u0).other (p:=⟨zb,1,none⟩) hzb hne u1).other (p:=⟨zb,2,none⟩) hzb hne u2).other (p:=⟨zb,3,none⟩) hzb hne u3
          clear X Z N HB
          go_wp2
          go_roundw
          case rel=>exact⟨fi,k+1,p2,q2,r2,s2,by omega,rfl,by go_num,HX.out _ _ _ _,HZ.out _ _ _ _,HI2⟩
          case measure=>simp[intOf];omega
    ·go_wp2_with fail
     refine(HSQ.out _).mono ?_
     rintro e w3 ⟨rfl,hb⟩;clear z0 z1 z2 z3;replace X:=X.step hb;replace Z:=Z.step hb;clear hb;have S:=(A7.new w3 #[.int .i64 p1,.int .i64 q1,.int .i64 r1,.int .i64 s1] 93).up X.old;replace X:=X.alloc (.cells #[.int .i64 p1,.int .i64 q1,.int .i64 r1,.int .i64 s1] 93);replace Z:=Z.alloc (.cells #[.int .i64 p1,.int .i64 q1,.int .i64 r1,.int .i64 s1] 93);have y0:=S.cell 0 _ rfl;have y1:=S.cell 1 _ rfl;have y2:=S.cell 2 _ rfl;have y3:=S.cell 3 _ rfl;have x0:=X.cell 0 _ rfl;have x1:=X.cell 1 _ rfl;have x2:=X.cell 2 _ rfl;have x3:=X.cell 3 _ rfl
     go_wp2_with fail
     refine(HAD.out _).mono ?_
     rintro e w4 ⟨rfl,hb⟩;clear x0 x1 x2 x3 y0 y1 y2 y3 S;replace X:=X.step hb;replace Z:=Z.step hb;clear hb;have N:=(A7.new w4 #[.int .i64 p2,.int .i64 q2,.int .i64 r2,.int .i64 s2] 93).up X.old;replace X:=X.alloc (.cells #[.int .i64 p2,.int .i64 q2,.int .i64 r2,.int .i64 s2] 93);replace Z:=Z.alloc (.cells #[.int .i64 p2,.int .i64 q2,.int .i64 r2,.int .i64 s2] 93);have HB:=Aly X.old
     cases t1 with
     | false =>
       have HE:Hid (Cn ⟨a,b,c,d⟩ M (-1)):=Cn.stop HI.out.1 (by have:=HNL.out;omega) HI.out.2 (Il (HC1.out.resolve_left (fun h=>by cases h.1)).2)
       clear X Z N
       go_wp2
       exact Am5 (v:=.tuple #[.int .i64 _,.int .i64 _,.bool true]) (by simp[results,Tryz.f93,go_sem];first|exact⟨rfl,rfl⟩|exact rfl) rfl ⟨⟨_,_,rfl,HE.out⟩,HB.out⟩
     | true =>
       cases t2 with
       | false =>
         have HE:Hid (Cn ⟨a,b,c,d⟩ M (-1)):=Cn.stop HI.out.1 (by have:=HNL.out;omega) HI.out.2 (Im (HC1.out.resolve_right (fun h=>by cases h.1)).2 (HC2.out.resolve_left (fun h=>by cases h.1)).2)
         clear X Z N
         go_wp2
         exact Am5 (v:=.tuple #[.int .i64 _,.int .i64 _,.bool true]) (by simp[results,Tryz.f93,go_sem];first|exact⟨rfl,rfl⟩|exact rfl) rfl ⟨⟨_,_,rfl,HE.out⟩,HB.out⟩
       | true =>
         have HI2:Hid (E7 ⟨a,b,c,d⟩ (k+1)=some ⟨p2,q2,r2,s2⟩/\∀i,i<k+1->Ld ⟨a,b,c,d⟩ i=false):=Te HI.out.1 (by have:=HNL.out;omega) HI.out.2 (HC1.out.resolve_right (fun h=>by cases h.1)).2 (HC2.out.resolve_right (fun h=>by cases h.1)).2 HO1.out HO2.out
         have n0:=N.cell 0 _ rfl;have n1:=N.cell 1 _ rfl;have n2:=N.cell 2 _ rfl;have n3:=N.cell 3 _ rfl;have z0:=Z.cell 0 _ rfl;have z1:=Z.cell 1 _ rfl;have z2:=Z.cell 2 _ rfl;have z3:=Z.cell 3 _ rfl;have f0:=Z.frozen 0;have f1:=Z.frozen 1;have f2:=Z.frozen 2;have f3:=Z.frozen 3;have HZ:Hid (∀u0 u1 u2 u3,A7 w zb #[u0,u1,u2,u3] 93 (((((w4.alloc (.cells #[.int .i64 p2,.int .i64 q2,.int .i64 r2,.int .i64 s2] 93)).setCell ⟨zb,0,none⟩ u0).setCell ⟨zb,1,none⟩ u1).setCell ⟨zb,2,none⟩ u2).setCell ⟨zb,3,none⟩ u3)):=fun u0 u1 u2 u3=>(((Z.set hzb 0 u0).set hzb 1 u1).set hzb 2 u2).set hzb 3 u3
         have HX:Hid (∀u0 u1 u2 u3,A7 w w.heap.size #[.int .i64 a,.int .i64 b,.int .i64 c,.int .i64 d] 93 (((((w4.alloc (.cells #[.int .i64 p2,.int .i64 q2,.int .i64 r2,.int .i64 s2] 93)).setCell ⟨zb,0,none⟩ u0).setCell ⟨zb,1,none⟩ u1).setCell ⟨zb,2,none⟩ u2).setCell ⟨zb,3,none⟩ u3)):=fun u0 u1 u2 u3=>(((X.other (p:=⟨zb,0,none⟩) hzb hne u0).other (p:=⟨zb,1,none⟩) hzb hne u1).other (p:=⟨zb,2,none⟩) hzb hne u2).other (p:=⟨zb,3,none⟩) hzb hne u3
         clear X Z N HB
         go_wp2
         go_roundw
         case rel=>exact⟨fi,k+1,p2,q2,r2,s2,by omega,rfl,by go_num,HX.out _ _ _ _,HZ.out _ _ _ _,HI2⟩
         case measure=>simp[intOf];omega
  ·have HE:Hid (Cn ⟨a,b,c,d⟩ M (-1)):=Cn.full (by omega) HI.out.2
   have HB:=Aly X.old;clear X Z
   go_wp2
   exact Am5 (v:=.tuple #[.int .i64 _,.int .i64 _,.bool true]) (by simp[results,Tryz.f93,go_sem];first|exact⟨rfl,rfl⟩|exact rfl) rfl ⟨⟨_,_,rfl,HE.out⟩,HB.out⟩
end
section
open Go.RowKit
theorem Xo (a b c d n:Int)(hv:Ap a b c d=true)(w:World):Calls Vp.prog 48 #[.agg #[.int .i64 a,.int .i64 b,.int .i64 c,.int .i64 d],.int .i64 n] w fun e w'=>e=.returned (.tuple #[.int .i64 (stB ⟨a,b,c,d⟩ (Aj n).toNat),.bool true])/\Below w.heap.size w w':=by
 have HCA:=Aly (Oe a b c d hv);have HDI:=Aly (Xu a b c d hv);have HES:=Aly (Xj a b c d n hv);have HST:Hid (∀S,stB ⟨a,b,c,d⟩ (Aj n).toNat=S->S=if Jq ⟨a,b,c,d⟩<=0\/Jv ⟨a,b,c,d⟩<=0 then 1 else if whB ⟨a,b,c,d⟩ (Aj n).toNat=true then -1 else 0):=fun S h=>h.symm
 obtain⟨S,hS⟩:∃S,stB ⟨a,b,c,d⟩ (Aj n).toNat=S:=⟨_,rfl⟩;have HS:=Aly (HST.out S hS);rw[hS];clear hS HST hv;generalize Jq ⟨a,b,c,d⟩=x at *;generalize Jv ⟨a,b,c,d⟩=y at *;have X:=A7.new w #[.int .i64 a,.int .i64 b,.int .i64 c,.int .i64 d] 93;have x0:=X.cell 0 _ rfl;have x1:=X.cell 1 _ rfl;have x2:=X.cell 2 _ rfl;have x3:=X.cell 3 _ rfl
 go_enter Vp.func48,Tryz.ntmps48
 go_wp2_with fail
 refine(HCA.out _).mono ?_
 rintro e w1 ⟨rfl,hb⟩;clear x0 x1 x2 x3;replace X:=X.step hb;clear hb;have x0:=X.cell 0 _ rfl;have x1:=X.cell 1 _ rfl;have x2:=X.cell 2 _ rfl;have x3:=X.cell 3 _ rfl
 go_wp2_with fail
 refine(HDI.out _).mono ?_
 rintro e w2 ⟨rfl,hb⟩;clear x0 x1 x2 x3;replace X:=X.step hb;clear hb;have x0:=X.cell 0 _ rfl;have x1:=X.cell 1 _ rfl;have x2:=X.cell 2 _ rfl;have x3:=X.cell 3 _ rfl
 go_wp2_with fail
 refine(HES.out _).mono ?_
 rintro e w3 ⟨⟨u,k,rfl,hk⟩,hb⟩;have HK:=Aly hk;clear hk;have HB:=Aly (X.step hb).old;clear x0 x1 x2 x3 X hb;have hs:=HS.out
 by_cases hx:x<=0
 ·rw[Amo (.inl hx)]at hs;subst hs
  go_wp2
  exact Am5 (v:=.tuple #[.int .i64 1,.bool true]) (by simp[results,Tryz.f48,go_sem]) rfl ⟨rfl,HB.out⟩
 ·by_cases hy:y<=0
  ·rw[Amo (.inr hy)]at hs;subst hs
   go_wp2
   exact Am5 (v:=.tuple #[.int .i64 1,.bool true]) (by simp[results,Tryz.f48,go_sem]) rfl ⟨rfl,HB.out⟩
  ·rw[Amd (by omega)]at hs
   by_cases hk:0<=k
   ·rw[Amo (by rcases HK.out with h|h;· exact h.1
               ·omega)]at hs
    subst hs
    go_wp2
    exact Am5 (v:=.tuple #[.int .i64 (-1),.bool true]) (by simp[results,Tryz.f48,go_sem]) rfl ⟨rfl,HB.out⟩
   ·rw[Amd (by rcases HK.out with h|h;· omega
               ·rw[h.1];simp)]at hs
    subst hs
    go_wp2
    exact Am5 (v:=.tuple #[.int .i64 0,.bool true]) (by simp[results,Tryz.f48,go_sem]) rfl ⟨rfl,HB.out⟩
end
section
open Go.RowKit
theorem Tu (a b c d:Int)(w:World):Calls Vp.prog 177 #[.agg #[.int .i64 a,.int .i64 b,.int .i64 c,.int .i64 d]] w fun e w'=>e=.returned (En ⟨a,b,c,d⟩)/\Below w.heap.size w w':=by
 obtain⟨X0,-⟩:=A2x w #[.int .i64 a,.int .i64 b,.int .i64 c,.int .i64 d] 204 #[.int .i64 0,.int .i64 0,.int .i64 0,.int .i64 0] 93;obtain⟨X,Z,Y⟩:=U7 w #[.int .i64 a,.int .i64 b,.int .i64 c,.int .i64 d] 204 #[.int .i64 0,.int .i64 0,.int .i64 0,.int .i64 0] 93 #[.int .i64 a,.int .i64 b,.int .i64 c,.int .i64 d] 93;have HS:=Ago a b c d;have HQ:=Aly (Tv a b);have HR:=Aly (Tv c d)
 have HD:En ⟨a,b,c,d⟩=if(Yu a b && Yu c d)=true then .tuple #[.agg #[.int .i64 a,.int .i64 b,.int .i64 c,.int .i64 d],.bool true]else .tuple #[.agg #[.int .i64 0,.int .i64 0,.int .i64 0,.int .i64 0],.bool false]:=by
  unfold En Bx.ok;rw[HS]
  rfl
 rw[HD];clear HS HD;have y0:=X0.cell 0 _ rfl;have y1:=X0.cell 1 _ rfl;have y2:=X0.cell 2 _ rfl;have y3:=X0.cell 3 _ rfl;have x0:=X.cell 0 _ rfl;have x1:=X.cell 1 _ rfl;have x2:=X.cell 2 _ rfl;have x3:=X.cell 3 _ rfl
 cases h1:Yu a b with
 | false =>
   rw[h1]at HQ;rw[Amd (by simp)]
   clear h1 HR
   go_enter Vp.func177,Tryz.ntmps177
   go_wp2_with fail
   refine(HQ.out _).mono ?_
   rintro e w1 ⟨rfl,hb⟩;clear x0 x1 x2 x3 y0 y1 y2 y3 X0;replace Y:=Y.step hb;replace Z:=Z.step hb;clear hb X;have y0:=Y.cell 0 _ rfl;have y1:=Y.cell 1 _ rfl;have y2:=Y.cell 2 _ rfl;have y3:=Y.cell 3 _ rfl;have z0:=Z.cell 0 _ rfl;have z1:=Z.cell 1 _ rfl;have z2:=Z.cell 2 _ rfl;have z3:=Z.cell 3 _ rfl;have f0:=Z.frozen 0;have f1:=Z.frozen 1;have f2:=Z.frozen 2;have f3:=Z.frozen 3;have HB:=Aly Z.old;clear Y Z
   go_wp2
   exact Am5 (v:=.tuple #[.agg #[.int .i64 0,.int .i64 0,.int .i64 0,.int .i64 0],.bool false]) (by simp[results,Tryz.f177,go_sem,z0,z1,z2,z3]) rfl ⟨rfl,A8p HB.out (b:=w.heap.size+1) (by omega) _ _ _ _⟩
 | true =>
   rw[h1]at HQ
   cases h2:Yu c d with
   | false =>
     rw[h2]at HR;rw[Amd (by simp)]
     clear h1 h2
     go_enter Vp.func177,Tryz.ntmps177
     go_wp2_with fail
     refine(HQ.out _).mono ?_
     rintro e w1 ⟨rfl,hb⟩;clear x0 x1 x2 x3 y0 y1 y2 y3 X0;replace X:=X.step hb;replace Y:=Y.step hb;replace Z:=Z.step hb;clear hb;have x0:=X.cell 0 _ rfl;have x1:=X.cell 1 _ rfl;have x2:=X.cell 2 _ rfl;have x3:=X.cell 3 _ rfl
     go_wp2_with fail
     refine(HR.out _).mono ?_
     rintro e w2 ⟨rfl,hb⟩;clear x0 x1 x2 x3;replace Z:=Z.step hb;clear hb X Y;have z0:=Z.cell 0 _ rfl;have z1:=Z.cell 1 _ rfl;have z2:=Z.cell 2 _ rfl;have z3:=Z.cell 3 _ rfl;have f0:=Z.frozen 0;have f1:=Z.frozen 1;have f2:=Z.frozen 2;have f3:=Z.frozen 3;have HB:=Aly Z.old;clear Z
     go_wp2
     exact Am5 (v:=.tuple #[.agg #[.int .i64 0,.int .i64 0,.int .i64 0,.int .i64 0],.bool false]) (by simp[results,Tryz.f177,go_sem,z0,z1,z2,z3]) rfl ⟨rfl,A8p HB.out (b:=w.heap.size+1) (by omega) _ _ _ _⟩
   | true =>
     rw[h2]at HR;rw[Amo (by simp)]
     clear h1 h2
     go_enter Vp.func177,Tryz.ntmps177
     go_wp2_with fail
     refine(HQ.out _).mono ?_
     rintro e w1 ⟨rfl,hb⟩;clear x0 x1 x2 x3 y0 y1 y2 y3 X0;replace X:=X.step hb;replace Y:=Y.step hb;replace Z:=Z.step hb;clear hb;have x0:=X.cell 0 _ rfl;have x1:=X.cell 1 _ rfl;have x2:=X.cell 2 _ rfl;have x3:=X.cell 3 _ rfl
     go_wp2_with fail
     refine(HR.out _).mono ?_
     rintro e w2 ⟨rfl,hb⟩;clear x0 x1 x2 x3;replace Y:=Y.step hb;replace Z:=Z.step hb;clear hb X;have y0:=Y.cell 0 _ rfl;have y1:=Y.cell 1 _ rfl;have y2:=Y.cell 2 _ rfl;have y3:=Y.cell 3 _ rfl;have z0:=Z.cell 0 _ rfl;have z1:=Z.cell 1 _ rfl;have z2:=Z.cell 2 _ rfl;have z3:=Z.cell 3 _ rfl;have f0:=Z.frozen 0;have f1:=Z.frozen 1;have f2:=Z.frozen 2;have f3:=Z.frozen 3;have HB:=Aly Z.old;clear Y Z
     go_wp2
     exact Am5 (v:=.tuple #[.agg #[.int .i64 a,.int .i64 b,.int .i64 c,.int .i64 d],.bool true]) (by simp[results,Tryz.f177,go_sem,z0,z1,z2,z3]) rfl ⟨rfl,A8p HB.out (b:=w.heap.size+1) (by omega) _ _ _ _⟩
theorem Dx (a b c d:Int)(w:World):Calls Vp.prog 160 #[.agg #[.int .i64 a,.int .i64 b,.int .i64 c,.int .i64 d]] w fun e w'=>e=.returned (.bool (Ap a b c d))/\Below w.heap.size w w':=by
 have HD:=Aly (Tu a b c d);obtain⟨p,q,r,s,t,hx,-,hc⟩:=Gj ⟨a,b,c,d⟩
 have ht:Ap a b c d=t:=by
  rcases hc with⟨rfl,e⟩ |⟨rfl,e⟩
  ·unfold En at hx
   split at hx
   ·rename_i h;exact h
   ·injection hx with h;injection h with h;simp at h
  ·exact e
 rw[hx]at HD;rw[ht];clear hx hc ht;have X:=A7.new w #[.int .i64 a,.int .i64 b,.int .i64 c,.int .i64 d] 93;have x0:=X.cell 0 _ rfl;have x1:=X.cell 1 _ rfl;have x2:=X.cell 2 _ rfl;have x3:=X.cell 3 _ rfl
 go_enter Vp.func160,Tryz.ntmps160
 go_wp2_with fail
 refine(Eh a b c d _).mono ?_
 rintro e w1 ⟨rfl,hb⟩;replace X:=X.step hb;clear hb x0 x1 x2 x3
 go_wp2_with fail
 refine(HD.out _).mono ?_
 rintro e w2 ⟨rfl,hb⟩;replace X:=X.step hb;have HB:=Aly X.old;clear X hb
 go_wp2
 go_ret
 exact⟨rfl,HB.out.alloc HB.out.size _⟩
theorem Vs (a b c d:Int)(hv:Ap a b c d=true)(w:World):Calls Vp.prog 161 #[.agg #[.int .i64 a,.int .i64 b,.int .i64 c,.int .i64 d]] w fun e w'=>e=.returned (.agg #[.int .i64 (Bx.coarse ⟨a,b,c,d⟩).a,.int .i64 (Bx.coarse ⟨a,b,c,d⟩).b,.int .i64 (Bx.coarse ⟨a,b,c,d⟩).c,.int .i64 (Bx.coarse ⟨a,b,c,d⟩).d])/\Below w.heap.size w w':=by
 obtain⟨X,Z⟩:=A2x w #[.int .i64 a,.int .i64 b,.int .i64 c,.int .i64 d] 93 #[.int .i64 0,.int .i64 0,.int .i64 0,.int .i64 0] 204;obtain⟨b1,b2,b3,b4,b5,b6⟩:=Bx.bd (x:=⟨a,b,c,d⟩) hv;dsimp only at b1 b2 b3 b4 b5 b6;have HQ:=Aly (Nt a b 12 (by decide) (by omega) (by omega) (by omega) (by omega))
 have HR:=Aly (Nt c d 12 (by decide) (by omega) (by omega) (by omega) (by omega))
 have hk:((2^12:Nat):Int)=4096:=rfl;have hk2:((12:Nat):Int)=12:=rfl;rw[hk,hk2]at HQ HR
 show Calls Vp.prog 161 #[.agg #[.int .i64 a,.int .i64 b,.int .i64 c,.int .i64 d]] w fun e w'=>e=.returned (.agg #[.int .i64 (a / 4096),.int .i64 (Mx b 4096),.int .i64 (c / 4096),.int .i64 (Mx d 4096)])/\Below w.heap.size w w'
 clear b1 b2 b3 b4 b5 b6 hv hk hk2;generalize a / 4096=q1 at *;generalize Mx b 4096=q2 at *;generalize c / 4096=q3 at *;generalize Mx d 4096=q4 at *;have x0:=X.cell 0 _ rfl;have x1:=X.cell 1 _ rfl;have x2:=X.cell 2 _ rfl;have x3:=X.cell 3 _ rfl
 go_enter Vp.func161,Tryz.ntmps161
 go_wp2_with fail
 refine(Eh a b c d _).mono ?_
 rintro e w1 ⟨rfl,hb⟩;clear x0 x1 x2 x3;replace X:=X.step hb;replace Z:=Z.step hb;clear hb;have Y:=(A7.new w1 #[.int .i64 a,.int .i64 b,.int .i64 c,.int .i64 d] 204).up X.old;have hsz:=X.old.size;have hlt:=X.lt;have hlz:=Z.lt;replace Z:=Z.alloc (.cells #[.int .i64 a,.int .i64 b,.int .i64 c,.int .i64 d] 204);clear X
 go_upto_region 2 with fail
 generalize w1.heap.size=yb at *;generalize w1.alloc (.cells #[.int .i64 a,.int .i64 b,.int .i64 c,.int .i64 d] 204)=W at *;have HY:Hid (∀W',Below W.drew.heap.size W.drew W'->A7 w yb #[.int .i64 a,.int .i64 b,.int .i64 c,.int .i64 d] 204 W'):=fun W' h=>(Y.step ((Bp.refl _).drew.below _)).step h
 have HZ:Hid (∀W',Below W.drew.heap.size W.drew W'->A7 w (w.heap.size+1) #[.int .i64 0,.int .i64 0,.int .i64 0,.int .i64 0] 204 W'):=fun W' h=>(Z.step ((Bp.refl _).drew.below _)).step h
 have HYs:=Aly (fun W' h u0 u1 u2 u3=>(HY.out W' h).Fb (b':=w.heap.size+1) (by omega) (by omega) u0 u1 u2 u3)
 have hbk:=Amc W.drew.heap.size W.drew;clear Y Z
 go_region_held3 (fun w'=>w'.cell? ⟨yb,0,none⟩=some (.int .i64 a)/\w'.cell? ⟨yb,1,none⟩=some (.int .i64 b)/\w'.cell? ⟨yb,2,none⟩=some (.int .i64 c)/\w'.cell? ⟨yb,3,none⟩=some (.int .i64 d)) (((first|dsimp only|skip);first |(with_reducible exact⟨(HY.out _ hbk).cell 0 _ rfl,(HY.out _ hbk).cell 1 _ rfl,(HY.out _ hbk).cell 2 _ rfl,(HY.out _ hbk).cell 3 _ rfl⟩) |(with_reducible exact⟨(HYs.out _ hbk _ _ _ _).cell 0 _ rfl,(HYs.out _ hbk _ _ _ _).cell 1 _ rfl,(HYs.out _ hbk _ _ _ _).cell 2 _ rfl,(HYs.out _ hbk _ _ _ _).cell 3 _ rfl⟩))) (first
  |(go_at_call 193;(first |(with_reducible refine(HQ.out _).mono ?_) |(with_reducible refine(HR.out _).mono ?_));rintro e w' ⟨rfl,hb⟩;replace hbk:=hbk.trans (hb.mono hbk.size);clear hb;have z0:=(HZ.out _ hbk).cell 0 _ rfl;have z1:=(HZ.out _ hbk).cell 1 _ rfl;have z2:=(HZ.out _ hbk).cell 2 _ rfl;have z3:=(HZ.out _ hbk).cell 3 _ rfl;have g0:=(HZ.out _ hbk).frozen 0;have g1:=(HZ.out _ hbk).frozen 1;have g2:=(HZ.out _ hbk).frozen 2;have g3:=(HZ.out _ hbk).frozen 3))
 all_goals
  go_wp2
  exact Am5 (v:=.agg #[.int .i64 q1,.int .i64 q2,.int .i64 q3,.int .i64 q4]) (by simp[results,Tryz.f161,go_sem,z0,z1,z2,z3]) rfl ⟨rfl,A8p (HZ.out _ hbk).old (b:=w.heap.size+1) (by omega) _ _ _ _⟩
end
section
open Go.RowKit
theorem A4n (x y:Int)(w:World):(Instr.field 202 (.agg #[.int .i64 x,.int .i64 y]) 1).run Vp.prog w=.ok (.int .i64 y) w:=by kernel_rfl
theorem A11 (a b c d:Int)(hv:Ap a b c d=true)(w:World):Calls Vp.prog 129 #[.agg #[.int .i64 a,.int .i64 b,.int .i64 c,.int .i64 d]] w fun e w'=>e=.returned (.tuple #[.int .i64 (Jv ⟨a,b,c,d⟩),.bool true])/\Below w.heap.size w w':=by
 have X:=A7.new w #[.int .i64 a,.int .i64 b,.int .i64 c,.int .i64 d] 93;obtain⟨b1,b2,b3,b4⟩:=Kh (x:=⟨a,b,c,d⟩) hv;have HV:=Aly (Dx a b c d);rw[hv]at HV;have HC:=Aly (Vs a b c d hv);have HX:Hid (Jv ⟨a,b,c,d⟩=Ba ((Bx.coarse ⟨a,b,c,d⟩).a+4096) ((Bx.coarse ⟨a,b,c,d⟩).b+4096)+Ba (Bx.coarse ⟨a,b,c,d⟩).c (Bx.coarse ⟨a,b,c,d⟩).d-1048576):=rfl;generalize Jv ⟨a,b,c,d⟩=R at *;generalize (Bx.coarse ⟨a,b,c,d⟩).a=p at *;generalize (Bx.coarse ⟨a,b,c,d⟩).b=q at *;generalize (Bx.coarse ⟨a,b,c,d⟩).c=r at *;generalize (Bx.coarse ⟨a,b,c,d⟩).d=s at *;have l3:=Cm (l:=p+4096) (h:=q+4096) (k:=40000) (by omega) (by omega) (by omega) (by omega)
 have l4:=Cm (l:=r) (h:=s) (k:=40000) (by omega) (by omega) (by omega) (by omega)
 have HP:=Aly (Gf p q 4096 4096 (by omega) (by omega) (by omega) (by omega) (by omega) (by omega) (by omega) (by omega))
 have HN:=Aly (X4 (p+4096) (q+4096) r s (by omega) (by omega) (by omega) (by omega) (by omega) (by omega) (by omega) (by omega))
 have h:=HX.out;have hn:nHi ⟨p+4096,q+4096,r,s⟩=Ba (p+4096) (q+4096)+Ba r s:=rfl;rw[hn]at HN;generalize p+4096=P at *;generalize q+4096=Q at *;generalize nLo ⟨P,Q,r,s⟩=lo at *;generalize Ba P Q=s2 at *;generalize Ba r s=s4 at *;have k1:wrap64 (s2+s4-1048576)=R:=by rw[h];exact Ev (by omega) (by omega)
 generalize s2+s4=S at *;clear HX h hn l3 l4 b1 b2 b3 b4 hv;have x0:=X.cell 0 _ rfl;have x1:=X.cell 1 _ rfl;have x2:=X.cell 2 _ rfl;have x3:=X.cell 3 _ rfl
 go_enter Vp.func129,Tryz.ntmps129
 go_wp2_with fail
 refine(HV.out _).mono ?_
 rintro e w1 ⟨rfl,hb⟩;clear x0 x1 x2 x3;replace X:=X.step hb;clear hb;have x0:=X.cell 0 _ rfl;have x1:=X.cell 1 _ rfl;have x2:=X.cell 2 _ rfl;have x3:=X.cell 3 _ rfl
 go_wp2_with fail
 refine(HC.out _).mono ?_
 rintro e w2 ⟨rfl,hb⟩;clear x0 x1 x2 x3;have hX:=X.old.trans (hb.mono X.old.size);have Y:=(A7.new w2 #[.int .i64 p,.int .i64 q,.int .i64 r,.int .i64 s] 204).up hX;have hyl:w.heap.size<=w2.heap.size:=hX.size;clear hb X hX;have y0:=Y.cell 0 _ rfl;have y1:=Y.cell 1 _ rfl;have y2:=Y.cell 2 _ rfl;have y3:=Y.cell 3 _ rfl
 go_wp2_with fail
 refine(HP.out _).mono ?_
 rintro e w3 ⟨rfl,hb⟩;clear y0 y1 y2 y3;replace Y:=Y.step hb;clear hb;have y0:=Y.cell 0 _ rfl;have y1:=Y.cell 1 _ rfl;have y2:=Y.cell 2 _ rfl;have y3:=Y.cell 3 _ rfl;have f0:=Y.frozen 0;have f1:=Y.frozen 1;have f2:=Y.frozen 2;have f3:=Y.frozen 3;have HYs:Hid (A7 w w2.heap.size #[.int .i64 P,.int .i64 Q,.int .i64 r,.int .i64 s] 204 ((w3.setCell ⟨w2.heap.size,0,none⟩ (.int .i64 P)).setCell ⟨w2.heap.size,1,none⟩ (.int .i64 Q))):=(Y.set hyl 0 (.int .i64 P)).set hyl 1 (.int .i64 Q);have z0:=HYs.out.cell 0 _ rfl;have z1:=HYs.out.cell 1 _ rfl;have z2:=HYs.out.cell 2 _ rfl;have z3:=HYs.out.cell 3 _ rfl;clear Y
 go_wp2_with fail
 refine(HN.out _).mono ?_
 rintro e w4 ⟨rfl,hb⟩;have HB:=Aly (HYs.out.step hb).old;clear hb;have FH:=A4n lo S
 go_wp2
 exact Am5 (v:=.tuple #[.int .i64 R,.bool true]) (by simp[results,Tryz.f129,go_sem,k1]) rfl ⟨rfl,HB.out⟩
theorem A0z (a b c d:Int)(hv:Ap a b c d=true)(w:World):Calls Vp.prog 128 #[.agg #[.int .i64 a,.int .i64 b,.int .i64 c,.int .i64 d]] w fun e w'=>e=.returned (.tuple #[.int .i64 (Jq ⟨a,b,c,d⟩),.bool true])/\Below w.heap.size w w':=by
 have X:=A7.new w #[.int .i64 a,.int .i64 b,.int .i64 c,.int .i64 d] 93;obtain⟨b1,b2,b3,b4⟩:=Kh (x:=⟨a,b,c,d⟩) hv;have HV:=Aly (Dx a b c d);rw[hv]at HV;have HC:=Aly (Vs a b c d hv);have HX:Hid (Jq ⟨a,b,c,d⟩=(if Lj ⟨a,b,c,d⟩<0 then Cc ((Bx.coarse ⟨a,b,c,d⟩).a-1024) ((Bx.coarse ⟨a,b,c,d⟩).b-1024)+Cc (Bx.coarse ⟨a,b,c,d⟩).c (Bx.coarse ⟨a,b,c,d⟩).d else Ba ((Bx.coarse ⟨a,b,c,d⟩).a-1024) ((Bx.coarse ⟨a,b,c,d⟩).b-1024)+Ba (Bx.coarse ⟨a,b,c,d⟩).c (Bx.coarse ⟨a,b,c,d⟩).d)*Lj ⟨a,b,c,d⟩-Cc (Bx.coarse ⟨a,b,c,d⟩).c (Bx.coarse ⟨a,b,c,d⟩).d*4194304):=rfl
 have HG:Hid (Lj ⟨a,b,c,d⟩=Ba ((Bx.coarse ⟨a,b,c,d⟩).a-1024) ((Bx.coarse ⟨a,b,c,d⟩).b-1024)+Ba (Bx.coarse ⟨a,b,c,d⟩).c (Bx.coarse ⟨a,b,c,d⟩).d +((Bx.coarse ⟨a,b,c,d⟩).b-1024)*4096):=rfl;generalize Jq ⟨a,b,c,d⟩=RR at *;generalize Lj ⟨a,b,c,d⟩=G at *;generalize (Bx.coarse ⟨a,b,c,d⟩).a=p at *;generalize (Bx.coarse ⟨a,b,c,d⟩).b=q at *;generalize (Bx.coarse ⟨a,b,c,d⟩).c=r at *;generalize (Bx.coarse ⟨a,b,c,d⟩).d=s at *;have l1:=Ec (l:=p-1024) (h:=q-1024) (k:=33792) (by omega) (by omega)
 have l2:=Ec (l:=r) (h:=s) (k:=33792) (by omega) (by omega)
 have l3:=Cm (l:=p-1024) (h:=q-1024) (k:=33792) (by omega) (by omega) (by omega) (by omega)
 have l4:=Cm (l:=r) (h:=s) (k:=33792) (by omega) (by omega) (by omega) (by omega)
 have HL:=Aly (X3 p q 1024 1024 (by omega) (by omega) (by omega) (by omega) (by omega) (by omega) (by omega) (by omega))
 have HQ:=Aly (Ej (p-1024) (q-1024) (by omega) (by omega) (by omega) (by omega))
 have HR:=Aly (Ej r s (by omega) (by omega) (by omega) (by omega))
 have h:=HX.out;have g:=HG.out;obtain⟨P,eP⟩:∃x,p-1024=x:=⟨_,rfl⟩;obtain⟨Q,eQ⟩:∃x,q-1024=x:=⟨_,rfl⟩;have bQ:-40000<=Q/\Q<=40000:=by omega
 rw[eP,eQ]at h g l3 l1 HL HQ;generalize Ba P Q=s2 at *;generalize Ba r s=s4 at *;generalize Cc P Q=s1 at *;generalize Cc r s=s3 at *;have HP:=Aly (Gf s1 s2 s3 s4 (by omega) (by omega) (by omega) (by omega) (by omega) (by omega) (by omega) (by omega))
 obtain⟨S,e3⟩:∃x,s2+s4=x:=⟨_,rfl⟩;obtain⟨S0,e4⟩:∃x,s1+s3=x:=⟨_,rfl⟩;rw[e3,e4]at HP;obtain⟨K,k5,e5⟩:∃x,wrap64 (Q*4096)=x/\Q*4096=x:=⟨_,Ev (by omega) (by omega),rfl⟩
 rw[e3,e4]at h;rw[e3,e5]at g;have k6:wrap64 (S+K)=G:=by rw[g];exact Ev (by omega) (by omega)
 have bS:0<=S/\S<=2283798528:=by omega
 have bS0:0<=S0/\S0<=2283798528:=by omega
 have bG:-2283798528<=G/\G<=2500000000:=by omega
 have ym:∀x:Int,0<=x->x<=2283798528->-5800000000000000000<=x*G/\x*G<=5800000000000000000:=fun x h0 h1=>by
  rcases Apa 0 G with hg|hg
  ·have:=Anl h0 hg;have:=Aq4 h1 bG.2 hg (by omega)
   omega
  ·have h2:=Anl h0 (show 0<=-G by omega)
   have h3:=Aq4 h1 (show -G<=2283798528 by omega) (by omega) (by omega)
   rw[Int.mul_neg]at h2 h3
   omega
 have y1:=ym S bS.1 bS.2;have y2:=ym S0 bS0.1 bS0.2;obtain⟨T,k8,e8⟩:∃x,wrap64 (s3*4194304)=x/\s3*4194304=x:=⟨_,Ev (by omega) (by omega),rfl⟩
 rw[e8]at h;rw[Ao8 S]at y1;rw[Ao8 S0]at y2;obtain⟨M,k9,e9⟩:∃x,wrap64 (G*S)=x/\G*S=x:=⟨_,Ev (by omega) (by omega),rfl⟩
 obtain⟨M0,k10,e10⟩:∃x,wrap64 (G*S0)=x/\G*S0=x:=⟨_,Ev (by omega) (by omega),rfl⟩
 have k11:¬G<0->wrap64 (M-T)=RR:=fun hg=>by rw[h,Amd hg,Ao8,e9];exact Ev (by omega) (by omega)
 have k12:G<0->wrap64 (M0-T)=RR:=fun hg=>by rw[h,Amo hg,Ao8,e10];exact Ev (by omega) (by omega)
 have HW11:=Aly k11;have HW12:=Aly k12;clear HX HG h g l1 l2 l3 l4 eP eQ e3 e4 e5 e8 e9 e10 b1 b2 b3 b4 y1 y2 ym bS bS0 bG k11 k12 bQ hv;have x0:=X.cell 0 _ rfl;have x1:=X.cell 1 _ rfl;have x2:=X.cell 2 _ rfl;have x3:=X.cell 3 _ rfl
 go_enter Vp.func128,Tryz.ntmps128
 go_wp2_with fail
 refine(HV.out _).mono ?_
 rintro e w1 ⟨rfl,hb⟩;clear x0 x1 x2 x3;replace X:=X.step hb;clear hb;have x0:=X.cell 0 _ rfl;have x1:=X.cell 1 _ rfl;have x2:=X.cell 2 _ rfl;have x3:=X.cell 3 _ rfl
 go_wp2_with fail
 refine(HC.out _).mono ?_
 rintro e w2 ⟨rfl,hb⟩;clear x0 x1 x2 x3;have hX:=X.old.trans (hb.mono X.old.size);have Y:=((A7.new w2 #[.int .i64 p,.int .i64 q,.int .i64 r,.int .i64 s] 204).up hX).alloc (.cells #[.int .i64 1024,.int .i64 1024] 202);have Q5:=(A7.new (w2.alloc (.cells #[.int .i64 p,.int .i64 q,.int .i64 r,.int .i64 s] 204)) #[.int .i64 1024,.int .i64 1024] 202).up (w0:=w) (hX.alloc hX.size _);have hyl:w.heap.size<=w2.heap.size:=hX.size;clear hb X hX;have y0:=Y.cell 0 _ rfl;have y1:=Y.cell 1 _ rfl;have y2:=Y.cell 2 _ rfl;have y3:=Y.cell 3 _ rfl;have q0:=Q5.cell 0 _ rfl;have q1:=Q5.cell 1 _ rfl
 go_wp2_with fail
 refine(HL.out _).mono ?_
 rintro e w3 ⟨rfl,hb⟩;clear y0 y1 y2 y3 q0 q1 Q5;replace Y:=Y.step hb;clear hb;have U:=(A7.new w3 #[.int .i64 P,.int .i64 Q] 202).up Y.old;have hul:w.heap.size<=w3.heap.size:=Y.old.size;replace Y:=Y.alloc (.cells #[.int .i64 P,.int .i64 Q] 202);have y0:=Y.cell 0 _ rfl;have y1:=Y.cell 1 _ rfl;have y2:=Y.cell 2 _ rfl;have y3:=Y.cell 3 _ rfl
 go_wp2_with fail
 refine(HR.out _).mono ?_
 rintro e w4 ⟨rfl,hb⟩;clear y0 y1 y2 y3 Y;replace U:=U.step hb;clear hb;have V:=(A7.new w4 #[.int .i64 s3,.int .i64 s4] 202).up U.old;have hvl:w.heap.size<=w4.heap.size:=U.old.size;have huv:w3.heap.size<w4.heap.size:=U.lt;replace U:=U.alloc (.cells #[.int .i64 s3,.int .i64 s4] 202)
 go_upto_region 7 with fail
 generalize w3.heap.size=ub at *;generalize w4.heap.size=vb at *;generalize w4.alloc (.cells #[.int .i64 s3,.int .i64 s4] 202)=W at *;have hub:ub<W.drew.heap.size:=U.lt;have hvb:vb<W.drew.heap.size:=V.lt;have HU:Hid (∀W',Below W.drew.heap.size W.drew W'->A7 w ub #[.int .i64 P,.int .i64 Q] 202 W'):=fun W' h=>(U.step ((Bp.refl _).drew.below _)).step h
 have HVV:Hid (∀W',Below W.drew.heap.size W.drew W'->A7 w vb #[.int .i64 s3,.int .i64 s4] 202 W'):=fun W' h=>(V.step ((Bp.refl _).drew.below _)).step h
 have HW:Hid (∀W',Below W.drew.heap.size W.drew W'->Below w.heap.size w W'):=fun W' h=>(HU.out W' h).old
 have hbk:=Amc W.drew.heap.size W.drew;have hzl:w.heap.size<=W.drew.heap.size:=U.old.size;have HUd:Hid (∀o,A7 w ub #[.int .i64 P,.int .i64 Q] 202 (W.alloc o).drew):=fun o=>(U.alloc o).step ((Bp.refl _).drew.below _)
 have HVd:Hid (∀o,A7 w vb #[.int .i64 s3,.int .i64 s4] 202 (W.alloc o).drew):=fun o=>(V.alloc o).step ((Bp.refl _).drew.below _)
 have H0:Hid (∀o,Below W.drew.heap.size W.drew (W.alloc o).drew):=fun o=>(Amc _ W.drew).alloc (Am0 _) o
 have HWW:Hid (Below w.heap.size w W):=U.old;clear U V
 go_cut [8]from 24 to 27 (fun t wx=>∃eb:Nat,t=.pointer (some ⟨eb,0,none⟩)/\Hid (A7 w eb #[.int .i64 S0,.int .i64 S] 202 wx/\A7 w ub #[.int .i64 P,.int .i64 Q] 202 wx/\A7 w vb #[.int .i64 s3,.int .i64 s4] 202 wx))
 case first =>
  go_region_held3 (fun w'=>w'.cell? ⟨ub,0,none⟩=some (.int .i64 P)/\w'.cell? ⟨ub,1,none⟩=some (.int .i64 Q)/\w'.cell? ⟨vb,0,none⟩=some (.int .i64 s3)/\w'.cell? ⟨vb,1,none⟩=some (.int .i64 s4)) (((first|dsimp only|skip);first |(with_reducible exact⟨(HU.out _ hbk).cell 0 _ rfl,(HU.out _ hbk).cell 1 _ rfl,(HVV.out _ hbk).cell 0 _ rfl,(HVV.out _ hbk).cell 1 _ rfl⟩) |(with_reducible exact⟨((HU.out _ hbk).alloc _).cell 0 _ rfl,((HU.out _ hbk).alloc _).cell 1 _ rfl,((HVV.out _ hbk).alloc _).cell 0 _ rfl,((HVV.out _ hbk).alloc _).cell 1 _ rfl⟩) |(with_reducible exact⟨(HUd.out _).cell 0 _ rfl,(HUd.out _).cell 1 _ rfl,(HVd.out _).cell 0 _ rfl,(HVd.out _).cell 1 _ rfl⟩) |(with_reducible exact⟨((HU.out _ hbk).E0 hrl hne _ _).cell 0 _ rfl,((HU.out _ hbk).E0 hrl hne _ _).cell 1 _ rfl,((HVV.out _ hbk).E0 hrl hne2 _ _).cell 0 _ rfl,((HVV.out _ hbk).E0 hrl hne2 _ _).cell 1 _ rfl⟩))) (first
   |(go_at_call 163;(with_reducible refine(HQ.out _).mono ?_);rintro e w' ⟨rfl,hb⟩;first |(replace hbk:=hbk.trans (hb.mono hbk.size);first |(replace R:=R.step hb;have r0:=R.cell 0 _ rfl;have r1:=R.cell 1 _ rfl;have f0:=R.frozen 0;have f1:=R.frozen 1)|skip) |(have R:=((A7.new _ #[.int .i64 0,.int .i64 0] 202).step hb).up (HW.out _ hbk);have hne:ub≠_:=Anb (Am2 hub hbk.size);have hne2:vb≠_:=Anb (Am2 hvb hbk.size);have hrl:=Am1 hzl hbk.size;replace hbk:=(hbk.alloc hbk.size _).trans (hb.mono (hbk.alloc hbk.size _).size);have r0:=R.cell 0 _ rfl;have r1:=R.cell 1 _ rfl;have f0:=R.frozen 0;have f1:=R.frozen 1) |(have R:=(((A7.new W #[.int .i64 0,.int .i64 0] 202).step ((Bp.refl _).drew.below _)).step hb).up HWW.out;have hne:ub≠W.heap.size:=Anb hub;have hne2:vb≠W.heap.size:=Anb hvb;have hrl:w.heap.size<=W.heap.size:=hzl;replace hbk:=(H0.out _).trans (hb.mono (H0.out _).size);have r0:=R.cell 0 _ rfl;have r1:=R.cell 1 _ rfl;have f0:=R.frozen 0;have f1:=R.frozen 1);clear hb)
   |(go_at_call 164;(with_reducible refine(HP.out _).mono ?_);rintro e w' ⟨rfl,hb⟩;first |(replace hbk:=hbk.trans (hb.mono hbk.size);first |(replace R:=R.step hb;have r0:=R.cell 0 _ rfl;have r1:=R.cell 1 _ rfl;have f0:=R.frozen 0;have f1:=R.frozen 1)|skip) |(have R:=((A7.new _ #[.int .i64 0,.int .i64 0] 202).step hb).up (HW.out _ hbk);have hne:ub≠_:=Anb (Am2 hub hbk.size);have hne2:vb≠_:=Anb (Am2 hvb hbk.size);have hrl:=Am1 hzl hbk.size;replace hbk:=(hbk.alloc hbk.size _).trans (hb.mono (hbk.alloc hbk.size _).size);have r0:=R.cell 0 _ rfl;have r1:=R.cell 1 _ rfl;have f0:=R.frozen 0;have f1:=R.frozen 1) |(have R:=(((A7.new W #[.int .i64 0,.int .i64 0] 202).step ((Bp.refl _).drew.below _)).step hb).up HWW.out;have hne:ub≠W.heap.size:=Anb hub;have hne2:vb≠W.heap.size:=Anb hvb;have hrl:w.heap.size<=W.heap.size:=hzl;replace hbk:=(H0.out _).trans (hb.mono (H0.out _).size);have r0:=R.cell 0 _ rfl;have r1:=R.cell 1 _ rfl;have f0:=R.frozen 0;have f1:=R.frozen 1);clear hb))
  all_goals
   go_wp2_with fail
   go_meet
   first
    | exact⟨_,rfl,(A7.new _ _ _).up (HW.out _ hbk),(HU.out _ hbk).alloc _,(HVV.out _ hbk).alloc _⟩
    | exact⟨_,rfl,(R.set (by omega) 0 (.int .i64 S0)).set (by omega) 1 (.int .i64 S),(HU.out _ hbk).E0 (by omega) hne _ _,(HVV.out _ hbk).E0 (by omega) hne2 _ _⟩
 case rest =>
  obtain⟨eb,rfl,HCC⟩:=hcut;clear HU HVV HW hbk HUd HVd H0 HWW hub hvb hzl HQ HR HL HP;obtain⟨E,U,V⟩:=HCC.out;clear HCC;have e0:=E.cell 0 _ rfl;have e1:=E.cell 1 _ rfl;have u1:=U.cell 1 _ rfl;have v0:=V.cell 0 _ rfl;have HB:=Aly E.old;clear E U V
  by_cases hg:G<0
  ·have k13:=HW12.out (by omega)
   go_wp2
   exact Am5 (v:=.tuple #[.int .i64 RR,.bool true]) (by simp[results,Tryz.f128,go_sem,k5,k6,k8,k9,k10,k13]) rfl ⟨rfl,HB.out⟩
  ·have k13:=HW11.out (by omega)
   go_wp2
   exact Am5 (v:=.tuple #[.int .i64 RR,.bool true]) (by simp[results,Tryz.f128,go_sem,k5,k6,k8,k9,k10,k13]) rfl ⟨rfl,HB.out⟩
end
section
open Go.RowKit
theorem Wd (l:Array Bool)(i j:Nat)(d:Bool)(hi:i<l.size):(l.setIfInBounds i true).getD j d=if j=i then true else l.getD j d:=by
 simp only[Amf]
 by_cases h:j=i
 ·subst h;rw[Amo rfl,Am7 hi]
  rfl
 ·rw[Amd h,Alz (fun e=>h e.symm)]
theorem Lz {md:Region.Mode}{ops:Array Oper}{l:Array Bool}(hsz:l.size=ops.size)(hac:∀(i:Nat) (o:Oper),ops[i]?=some o->∀e∈o.after,e.on<i)(hr:Region.ready md ops l=[]) :
 ∀n i,i<n->i<ops.size->l.getD i false=true
 | 0,i,h,_=>absurd h (by omega)
 | n+1,i,h,hi=>by
   by_cases hin:i<n
   ·exact Lz hsz hac hr n i hin hi
   ·obtain rfl:i=n:=by omega
    cases hl:l.getD i false with
    | true=>rfl
    | false =>
      exfalso
      have ho:ops[i]?=some ops[i]:=Am6 hi
      have hm:i∈Region.ready md ops l:=by
       refine mem_ready.2 ⟨?_,_,ho,fun e he _=>?_⟩
       ·rw[Amf,Am6 (by omega)]at hl ⊢
        exact hl
       ·have hlt:=hac i _ ho e he
        exact Lz hsz hac hr i e.on hlt (by omega)
      rw[hr]at hm
      cases hm
def unl (n:Nat)(l:Array Bool):Nat:=((List.range n).filter (fun i=>!l.getD i true)).length
theorem A6t {n:Nat}{l:Array Bool}(hsz:l.size=n){i:Nat}(hi:i<n)(hl:l.getD i true=false):unl n (l.setIfInBounds i true)<unl n l:=by
 unfold unl
 have e:((List.range n).filter (fun j=>!(l.setIfInBounds i true).getD j true))=((List.range n).filter (fun j=>!l.getD j true)).filter (fun j=>decide (j≠i)):=by
  rw[List.filter_filter]
  refine List.filter_congr fun j _=>?_
  rw[Wd l i j true (by omega)]
  by_cases h:j=i
  ·subst h;simp
  ·simp[h]
 rw[e]
 have hm:i∈(List.range n).filter (fun j=>!l.getD j true):=by
  rw[List.mem_filter]
  exact⟨Apj.2 hi,by rw[hl];rfl⟩
 have hlt:=List.length_filter_lt_length_iff_exists (p:=fun j=>decide (j≠i)) (l:=(List.range n).filter (fun j=>!l.getD j true))
 exact hlt.2 ⟨i,hm,by simp⟩
theorem Xd {P:Program}{md:Region.Mode}{ops:Array Oper}{Q:Exit->Act->World->Prop}(Inv:(Nat->Bool)->Act->World->Prop)(hac:∀(i:Nat) (o:Oper),ops[i]?=some o->∀e∈o.after,e.on<i)
 (hstep:∀D a w,Inv D a w->∀(i:Nat) (o:Oper),ops[i]?=some o->D i=false ->(∀e∈o.after,Region.binds md e=true->D e.on=true) ->
  if Region.wanted o (yielded ops a.tmps)=true then o.wp P a w (fun a' w'=>Inv (fun j=>if j=i then true else D j) a' w') Q else Inv (fun j=>if j=i then true else D j) (a.put o.dst undef) w)
 (hend:∀D a w,Inv D a w ->(∀i,i<ops.size->D i=true)->Q .normal a w) :
 ∀(fuel:Nat) (l:Array Bool) (a:Act) (w:World),l.size=ops.size->Inv (fun j=>l.getD j false) a w->unl ops.size l<=fuel->wpAny P md ops Q fuel l a w
 | 0,l,a,w,hsz,hI,hf=>by
   have hall:∀i,i<ops.size->l.getD i true=true:=by
    intro i hi
    cases h:l.getD i true with
    | true=>rfl
    | false =>
      have:=A6t hsz hi h
      omega
   refine⟨List.eq_nil_iff_forall_not_mem.2 fun j hj=>?_,hend _ a w hI fun i hi=>?_⟩
   ·obtain⟨h0,o,ho,_⟩:=mem_ready.1 hj;have hj2:=(Alx.1 ho).1;rw[hall j hj2]at h0
    cases h0
   ·have:=hall i hi;rw[Amf,Am6 (by omega)]at this ⊢
    exact this
 | fuel+1,l,a,w,hsz,hI,hf=>by
   refine⟨fun hr=>hend _ a w hI fun i hi=>Lz hsz hac hr (i+1) i (by omega) hi,fun i hi=>?_⟩
   obtain⟨h0,o,ho,hall⟩:=mem_ready.1 hi;have hilt:=(Alx.1 ho).1
   have h1:l.getD i false=false:=by
    rw[Amf,Am6 (by omega)]at h0 ⊢
    exact h0
   have hs:=hstep _ a w hI i o ho h1 hall
   have hfun:(fun j=>if j=i then true else l.getD j false)=fun j=>(l.setIfInBounds i true).getD j false:=by
    funext j
    rw[Wd l i j false (by omega)]
   rw[hfun]at hs;have hlt:=A6t hsz hilt h0;have hnext:∀a' w',Inv (fun j=>(l.setIfInBounds i true).getD j false) a' w'->wpAny P md ops Q fuel (l.setIfInBounds i true) a' w':=fun a' w' h=>Xd Inv hac hstep hend fuel _ a' w' (by rw[Array.size_setIfInBounds];exact hsz) h (by omega)
   unfold wpOp;rw[ho];simp only
   split
   ·rename_i hw
    rw[Amo hw]at hs
    exact .inl (Oper.wp_mono hnext hs)
   ·rename_i hw
    rw[Amd hw]at hs
    exact hnext _ _ hs
theorem Vg {P:Program}{ops:Array Oper}{Q:Exit->Act->World->Prop}{id:Nat}{a:Act}{w:World}(hm:P.follows .mixedOrders=true)(Inv:(Nat->Bool)->Act->World->Prop)(hac:∀(i:Nat) (o:Oper),ops[i]?=some o->∀e∈o.after,e.on<i)
 (h0:Inv (fun _=>false) a { w with drawn:=w.drawn+1 })
 (hstep:∀D a w,Inv D a w->∀(i:Nat) (o:Oper),ops[i]?=some o->D i=false ->(∀e∈o.after,Region.binds .any e=true->D e.on=true) ->
  if Region.wanted o (yielded ops a.tmps)=true then o.wp P a w (fun a' w'=>Inv (fun j=>if j=i then true else D j) a' w') Q else Inv (fun j=>if j=i then true else D j) (a.put o.dst undef) w)
 (hend:∀D a w,Inv D a w ->(∀i,i<ops.size->D i=true)->Q .normal a w):(Code.region id ops true).wp P Q a w:=by
 refine wp_region_any hm (Xd Inv hac hstep hend _ _ _ _ (by simp) ?_ ?_)
 ·have e:(fun j=>(Array.replicate ops.size false).getD j false)=fun _=>false:=by
   funext j
   rw[Amf,Array.getElem?_replicate]
   split<;>rfl
  rw[e]
  exact h0
 ·unfold unl
  refine Am1 (List.length_filter_le _ _) ?_
  rw[List.length_range]
  exact Am0 _
end
end Go.Proofs.YtjaehldnlamgkaaGreatDoor
