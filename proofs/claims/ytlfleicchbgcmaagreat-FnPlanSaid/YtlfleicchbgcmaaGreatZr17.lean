import Derived.Test.YtlfleicchbgcmaaGreatZr16
import Derived.RegionIn
import Derived.Test.YtlfleicchbgcmaaGreatZr15
import Derived.Test.YtlfleicchbgcmaaGreatZr0
import Derived.Test.YtlfleicchbgcmaaGreatZrK
set_option linter.all false
set_option maxHeartbeats 16000000
set_option maxRecDepth 100000
namespace Go.Proofs.YtlfleicchbgcmaaGreat
section
open Go.RowKit
attribute [local go_sem] Oper.semAt_some
structure Jw (w:World)(lb:Nat)(a b c d:Int)(M k:Nat)(W:World):Prop where
 las:W.heap[lb]?=some (.cells #[.int .i64 M] 3 (0,0))
 par:∃y:Int,W.heap[lb+1]?=some (.cells #[.int .i64 y] 3 (0,0))
 who:W.heap[lb+1+1]?=some (.cells #[.int .i64 (-1)] 3 (0,0))
 S6:Ajd (lb+1+1+1) a b c d k W
 no:∀i,i<k->Kv ⟨a,b,c,d⟩ i=false
 old:Below w.heap.size w W
theorem Mf {W W':World}{row:Option Nat}{B k:Nat}{o:Obj}(hk:W.heap[k]?=some o)(hg:W.grownBy W' row)(hr:∀r,row=some r->B<=r)(hB:k<B):W'.heap[k]?=some o :=
 (hg.block k (Aoz.1 hk).1 (fun e=>by have:=hr k e.symm;omega)).trans hk
theorem Jw.own {w:World}{lb:Nat}{a b c d:Int}{M B:Nat}(hl:w.heap.size<=lb)(hB:lb+1+1+1<B):Yt B (Jw w lb a b c d M):=by
 intro k W W' row h hg hr;obtain⟨y,hp⟩:=h.par
 exact⟨Mf h.las hg hr (by omega),⟨y,Mf hp hg hr (by omega)⟩,Mf h.who hg hr (by omega),Mf h.S6 hg hr hB,h.no,h.old.grown hg h.old.size (fun j e=>by have:=hr j e;omega)⟩
theorem Jw.start {w w1:World}(hb:Below w.heap.size w w1)(a b c d:Int)(M:Nat):Jw w w1.heap.size a b c d M 0 ((((w1.alloc (.cells #[.int .i64 M] 3)).alloc (.cells #[.int .i64 (-1)] 3)).alloc (.cells #[.int .i64 (-1)] 3)).alloc (.cells #[.int .i64 a,.int .i64 b,.int .i64 c,.int .i64 d] 93)):=by
 have new:∀(W:World) (C:Array Value) (t:TypeId),(W.alloc (.cells C t)).heap[W.heap.size]?=some (.cells C t (0,0)):=fun W C t=>World.alloc_heap_new W _
 have Oh:∀(W:World) (C:Array Value) (t:TypeId) (k:Nat) (o:Obj),W.heap[k]?=some o ->(W.alloc (.cells C t)).heap[k]?=some o:=fun W C t k o h=>(Ati W _ k (Aoz.1 h).1).trans h
 have n0:=new w1 #[.int .i64 M] 3;have n1:=new (w1.alloc (.cells #[.int .i64 M] 3)) #[.int .i64 (-1)] 3;have n2:=new ((w1.alloc (.cells #[.int .i64 M] 3)).alloc (.cells #[.int .i64 (-1)] 3)) #[.int .i64 (-1)] 3;have n3:=new (((w1.alloc (.cells #[.int .i64 M] 3)).alloc (.cells #[.int .i64 (-1)] 3)).alloc (.cells #[.int .i64 (-1)] 3)) #[.int .i64 a,.int .i64 b,.int .i64 c,.int .i64 d] 93;simp only[Apl]at n1 n2 n3
 refine⟨Oh _ _ _ _ _ (Oh _ _ _ _ _ (Oh _ _ _ _ _ n0)),⟨-1,Oh _ _ _ _ _ (Oh _ _ _ _ _ n1)⟩,Oh _ _ _ _ _ n2,n3,fun j hj=>by omega,?_⟩
 have:=hb.size
 exact(((hb.alloc this _).alloc (by simp;omega) _).alloc (by simp;omega) _).alloc (by simp;omega) _
structure Ajc (w:World)(lb:Nat)(x:Bx)(M:Nat)(W:World):Prop where
 res:∃y z:Int,W.heap[lb+1]?=some (.cells #[.int .i64 y] 3 (0,0))/\W.heap[lb+1+1]?=some (.cells #[.int .i64 z] 3 (0,0))/\Dp x M z
 old:Below w.heap.size w W
def O5 (w:World)(lb:Nat)(x:Bx)(M:Nat)(cd:Code)(_:Nat)(W:World):Prop:=cd=Code.exit 0/\Ajc w lb x M W
theorem O5.own {w:World}{lb:Nat}{x:Bx}{M B:Nat}(hl:w.heap.size<=lb)(hB:lb+1+1+1<B)(cd:Code):OwnFrom B (O5 w lb x M cd):=by
 rintro k W W' row ⟨h0,⟨y,z,h1,h2,h3⟩,h4⟩ hg hr;have hr:=fun r e=>(hr r e).1
 exact⟨h0,⟨y,z,Mf h1 hg hr (by omega),Mf h2 hg hr (by omega),h3⟩,h4.grown hg h4.size (fun j e=>by have:=hr j e;omega)⟩
def Aej (w:World)(lb:Nat)(a b c d n:Int)(M:Nat)(k:Nat)(_:Array Value)(a₁:Act)(W:World):Prop :=
 ∃(tb:Nat) (p q r s:Int),a₁={ tmps:=#[.agg #[.int .i64 a,.int .i64 b,.int .i64 c,.int .i64 d],.int .i64 n,.pointer (some ⟨w.heap.size,0,none⟩),undef,.int .i64 0,.int .i64 0,.bool false,.pointer (some ⟨lb,0,none⟩),.pointer (some ⟨lb+1,0,none⟩),.pointer (some ⟨lb+1+1,0,none⟩),.int .i64 k,.pointer (some ⟨tb,0,none⟩),undef,.agg #[.int .i64 a,.int .i64 b,.int .i64 c,.int .i64 d],.bool true,.bool false,.int .i64 n,.int .i64 M,.agg #[.int .i64 a,.int .i64 b,.int .i64 c,.int .i64 d],.func (.func 129) #[] #[.pointer (some ⟨lb+1+1+1,0,none⟩)],.int .i64 k,.agg #[.int .i64 p,.int .i64 q,.int .i64 r,.int .i64 s],undef,undef,undef,undef,undef,undef,undef,undef,undef,undef,undef,undef,undef,undef,undef,undef,undef,undef,undef,undef],defers:=[] }/\lb+1+1+1<tb/\W.heap[tb]?=some (.cells #[.int .i64 p,.int .i64 q,.int .i64 r,.int .i64 s] 93 (0,0))/\Dx ⟨a,b,c,d⟩ k=some ⟨p,q,r,s⟩/\Jw w lb a b c d M k W
theorem Aej.own {w:World}{lb:Nat}{a b c d n:Int}{M B:Nat}(hl:w.heap.size<=lb)(hB:lb+1+1+1<B)(v:Array Value)(a₁:Act):OwnFrom B (fun k W=>Aej w lb a b c d n M k v a₁ W):=by
 rintro k W W' row ⟨tb,p,q,r,s,h1,h2,h3,h4,h5⟩ hg hr
 exact⟨tb,p,q,r,s,h1,h2,J1 h3 rfl hg (fun r e=>(hr r e).2),h4,(Jw.own hl hB).from k W W' row h5 hg hr⟩
theorem Vi (a b c d n:Int)(hv:Bl a b c d=true)(w:World):Calls Vp.prog 79 #[.agg #[.int .i64 a,.int .i64 b,.int .i64 c,.int .i64 d],.int .i64 n] w fun e w'=>(∃(x y:Int),e=.returned (.tuple #[.int .i64 x,.int .i64 y,.bool true])/\Dp ⟨a,b,c,d⟩ (Be n).toNat y)/\Below w.heap.size w w':=by
 obtain⟨M,hM,hM4⟩:∃M:Nat,Be n=M/\M<=400:=by
  have:=Jn n
  exact⟨(Be n).toNat,by omega,by omega⟩
 have HMM:Hid ((Be n).toNat=M):=by show(Be n).toNat=M;omega
 rw[HMM.out];have HS:=Aoy (Uo n);rw[hM]at HS;have HVA:=Aoy (Ep a b c d);rw[hv]at HVA;have HV:=Aoy hv;clear hM HMM hv;have X:=A9.new w #[.int .i64 a,.int .i64 b,.int .i64 c,.int .i64 d] 93;have x0:=X.cell 0 _ rfl;have x1:=X.cell 1 _ rfl;have x2:=X.cell 2 _ rfl;have x3:=X.cell 3 _ rfl
 refine(Ar0 (n:=3)).1 ?_
 refine callsIn_of_wp_marks Vp.func79 rfl trivial ?_ rfl
 simp only[Tryz.ntmps79,Asx,Aqx,Aun,Nat.reduceAdd,Nat.reduceSub,Aus,Aur,List.push_toArray,Auw,Asd,Ars]
 gi_wp2_with fail
 refine⟨trivial,?_⟩
 refine(Ar0.2 (HVA.out _)).mono ?_
 rintro e w1 ⟨rfl,hb⟩;clear x0 x1 x2 x3;replace X:=X.step hb;clear hb
 gi_wp2_with fail
 refine⟨trivial,?_⟩
 refine(Ar0.2 (HS.out _)).mono ?_
 rintro e w2 ⟨rfl,rfl⟩;obtain⟨lb,hlb⟩:∃lb,w1.heap.size=lb:=⟨_,rfl⟩;have hbw:=X.old;have hXl:w.heap.size<=lb:=by have:=hbw.size;omega
 replace X:=((X.alloc (.cells #[.int .i64 M] 3)).alloc (.cells #[.int .i64 (-1)] 3)).alloc (.cells #[.int .i64 (-1)] 3);have x0:=X.cell 0 _ rfl;have x1:=X.cell 1 _ rfl;have x2:=X.cell 2 _ rfl;have x3:=X.cell 3 _ rfl
 gi_wp2_with fail
 refine⟨trivial,?_⟩
 refine(Ar0.2 (A15 a b c d _)).mono ?_
 rintro e w2 ⟨rfl,rfl⟩;have H0:=Aoy (Jw.start hbw a b c d M);rw[hlb]at H0;clear x0 x1 x2 x3 X
 gi_wp2_with fail
 refine A6m rfl (by decide) (gf:=129) (lb:=#[.pointer (some ⟨lb+1+1+1,0,none⟩)]) ?g0 trivial (enters_of Vp.func129 (by kernel_rfl) rfl)
  (A16 _ a b c d (lb+1+1+1) (M+1) HV.out (by decide) (by omega)) (fun k v h=>by obtain⟨p,q,r,s,rfl,-⟩:=h;rfl) (Jw w lb a b c d M) (O5 w lb ⟨a,b,c,d⟩ M)
  (Jw.own hXl (by simp[hlb])) (O5.own hXl (by simp[hlb])) (fun k A h=>h.S6) H0.out (Aej w lb a b c d n M) (Aej.own hXl (by simp[hlb]))
  ?assign ?body ?done ?stop
 case g0=>rfl
 case assign =>
  rintro l k v W K hk ⟨p,q,r,s,rfl,ho⟩ h hK;have HK:=Aoy hK;have HH:=Aoy h;have HO:=Aoy ho;clear h ho hK
  gi_wp2
  refine HK.out _ _ ?_ ⟨W.heap.size,p,q,r,s,rfl,?_,World.alloc_heap_new W _,HO.out,?_⟩
  ·exact Ch.grown (Ar7 W _ none) (fun r e=>by cases e)
  ·exact(Aoz.1 HH.out.S6).1
  ·exact(Jw.own hXl (Auh _)) k W _ none HH.out (Ar7 W _ none) (fun r e=>by cases e)
 case body =>
  rintro l k v a₁ W hk-⟨tb,p,q,r,s,rfl,htb,hT,ho,h⟩;obtain⟨y,hp⟩:=h.par;have B0:A9 w lb #[.int .i64 M] 3 W:=⟨h.las,h.old⟩;have c0:=B0.cell 0 _ rfl;clear B0
  by_cases hkm:k=M+1
  ·subst hkm;have HX:Hid (O5 w lb ⟨a,b,c,d⟩ M (Code.exit 0) (M+1) W):=⟨rfl,⟨y,-1,hp,h.who,Dp.full (by omega) h.no⟩,h.old⟩
   clear h hp hT ho
   gi_wp2
   exact⟨Ch.refl _ _,HX.out⟩
  ·have hkM:k<=M:=by omega
   have hk1:((k:Int)<=M):=by omega
   clear hkm;have hz:Bl p q r s=true:=Zw ho;have hzB:=Bx.bd (x:=⟨p,q,r,s⟩) hz;dsimp only at hzB;obtain⟨g1,g2,g3,g4,g5,g6⟩:=hzB;have HSP:=Aoy (Fp p q r s);have HNO:=Aoy (Y8 p q r s (by omega) (by omega) (by omega) (by omega) (by omega) (by omega) (by omega) (by omega))
   obtain⟨lo,elo⟩:∃x,Zu ⟨p,q,r,s⟩=x:=⟨_,rfl⟩;obtain⟨hi,ehi⟩:∃x,nHi ⟨p,q,r,s⟩=x:=⟨_,rfl⟩;rw[elo,ehi]at HNO;have ELO:=Aoy elo;clear elo ehi hz g1 g2 g3 g4 g5 g6;have HO:=Aoy ho;have T7:A9 w tb #[.int .i64 p,.int .i64 q,.int .i64 r,.int .i64 s] 93 W:=⟨hT,h.old⟩;have t0:=T7.cell 0 _ rfl;have t1:=T7.cell 1 _ rfl;have t2:=T7.cell 2 _ rfl;have t3:=T7.cell 3 _ rfl;clear T7 hT ho hp;have HH:=Aoy h;clear h
   gi_wp2_with fail
   refine⟨trivial,?_⟩
   refine(CallsIn.inRound l (Ar0.2 (HSP.out W))).mono ?_
   rintro e W2 ⟨rfl,hb2⟩
   gi_wp2_with fail
   refine⟨trivial,?_⟩
   refine(CallsIn.inRound l (Ar0.2 (HNO.out W2))).mono ?_
   rintro e W3 ⟨rfl,hb3⟩;have hb:=hb2.trans (hb3.mono hb2.size);have hI:=Jw.own hXl (Auh _) k W W3 none HH.out (Nb hb none) (fun r e=>by cases e)
   have hlt3:=(Aoz.1 hI.S6).1;have hJ:=hI;have hal:Ch (lb+1+1+1) W W3:=Ch.Ay hb;have HAL:=Aoy hal;clear t0 t1 t2 t3 c0 hb2 hb3 hb HH hal;obtain⟨y,hp⟩:=hJ.par;have U:A9 w W3.heap.size #[.int .i64 lo,.int .i64 hi] 156 (W3.alloc (.cells #[.int .i64 lo,.int .i64 hi] 156)):=(A9.new W3 _ _).up hI.old;have B1:A9 w (lb+1) #[.int .i64 y] 3 W3:=⟨hp,hJ.old⟩;have B2:A9 w (lb+1+1) #[.int .i64 (-1)] 3 W3:=⟨hJ.who,hJ.old⟩;have hsz:W3.heap.size <(W3.alloc (.cells #[.int .i64 lo,.int .i64 hi] 156)).heap.size:=U.lt;have hne1:lb+1<W3.heap.size:=by omega
   have hne2:lb+1+1<W3.heap.size:=by omega
   have u0:=U.cell 0 _ rfl;have u1:=U.cell 1 _ rfl;have y0:=B1.cell 0 _ rfl;have f1:=B1.frozen 0;have f2:=B2.frozen 0;have z0:=B2.cell 0 _ rfl;have U':=A9.new (W3.setCell ⟨lb+1,0,none⟩ (.int .i64 k)) #[.int .i64 lo,.int .i64 hi] 156;simp only[World.size_setCell]at U';have v0:=U'.cell 0 _ rfl;have v1:=U'.cell 1 _ rfl;clear U B1 B2 U' hI hp;have HJ:=Aoy hJ;clear hJ
   have HS1:Hid (∀W',Jw w lb a b c d M k W'->Jw w lb a b c d M k (W'.setCell ⟨lb+1,0,none⟩ (.int .i64 k))):=fun W' h=>by
    obtain⟨y',hy'⟩:=h.par;have hB:A9 w (lb+1) #[.int .i64 y'] 3 W':=⟨hy',h.old⟩
    refine⟨(Aqv _ _ _ _ (by simp<;>omega)).trans h.las,⟨k,(hB.set (by omega) 0 (.int .i64 k)).blk⟩,(Aqv _ _ _ _ (by simp<;>omega)).trans h.who,(Aqv _ _ _ _ (by simp<;>omega)).trans h.S6,h.no,h.old.setCell (p:=⟨lb+1,0,none⟩) (by simp;omega) _⟩
   have HS2:Hid (∀W',Jw w lb a b c d M k W' ->(1125899906842624:Int)<lo->O5 w lb ⟨a,b,c,d⟩ M (Code.exit 0) k (W'.setCell ⟨lb+1+1,0,none⟩ (.int .i64 k))):=fun W' h hlo=>by
    obtain⟨y',hy'⟩:=h.par;have hB:A9 w (lb+1+1) #[.int .i64 (-1)] 3 W':=⟨h.who,h.old⟩
    exact⟨rfl,⟨y',k,(Aqv _ _ _ _ (by simp<;>omega)).trans hy',(hB.set (by omega) 0 (.int .i64 k)).blk,Dp.hit hkM HO.out (by rw[ELO.out];exact hlo)⟩,h.old.setCell (p:=⟨lb+1+1,0,none⟩) (by simp;omega) _⟩
   have HS3:Hid (∀W',Jw w lb a b c d M k W'->¬(1125899906842624:Int)<lo->Jw w lb a b c d M (k+1) W'):=fun W' h hlo=>by
    refine⟨h.las,h.par,h.who,h.S6,fun i hi=>?_,h.old⟩
    by_cases e:i=k
    ·rw[e];exact Zx HO.out (by rw[ELO.out];exact hlo)
    ·exact h.no i (by omega)
   have HA1:Hid (∀(W':World) (v:Value),Ch (lb+1+1+1) W' (W'.setCell ⟨lb+1,0,none⟩ v)):=fun W' v=>Ch.grown (Hx W' _ v) (fun r e=>by cases e;show lb+1<_;omega)
   have HA2:Hid (∀(W':World) (v:Value),Ch (lb+1+1+1) W' (W'.setCell ⟨lb+1+1,0,none⟩ v)):=fun W' v=>Ch.grown (Hx W' _ v) (fun r e=>by cases e;show lb+1+1<_;omega)
   have HKA:Hid (∀k W' o,Jw w lb a b c d M k W'->Jw w lb a b c d M k (W'.alloc o)):=fun k W' o h=>Jw.own hXl (Auh _) k W' _ none h (Ar7 W' _ none) (fun r e=>by cases e)
   have HXA:Hid (∀k W' o,O5 w lb ⟨a,b,c,d⟩ M (Code.exit 0) k W'->O5 w lb ⟨a,b,c,d⟩ M (Code.exit 0) k (W'.alloc o)):=fun k W' o h=>O5.own hXl (Auh _) _ k W' _ none h (Ar7 W' _ none) (fun r e=>by cases e)
   have HA0:Hid (∀(W':World) (o:Obj),Ch (lb+1+1+1) W' (W'.alloc o)):=fun W' o=>Ch.grown (Ar7 W' _ none) (fun r e=>by cases e)
   by_cases hlo:(1125899906842624:Int)<lo
   ·have HLO:=Aoy hlo
    by_cases hy:y<0
    ·by_cases hh:(1125899906842624:Int)<hi
     ·gi_wp2
      exact⟨(((HAL.out.trans (HA1.out _ _)).trans (HA2.out _ _)).trans (HA0.out _ _)).up (by simp[hlb]),HXA.out _ _ _ (HS2.out _ (HS1.out _ HJ.out) HLO.out)⟩
     ·gi_wp2
      exact⟨((HAL.out.trans (HA2.out _ _)).trans (HA0.out _ _)).up (by simp[hlb]),HXA.out _ _ _ (HS2.out _ HJ.out HLO.out)⟩
    ·gi_wp2
     exact⟨((HAL.out.trans (HA2.out _ _)).trans (HA0.out _ _)).up (by simp[hlb]),HXA.out _ _ _ (HS2.out _ HJ.out HLO.out)⟩
   ·have HLO:=Aoy hlo
    by_cases hy:y<0
    ·by_cases hh:(1125899906842624:Int)<hi
     ·gi_wp2
      exact⟨((HAL.out.trans (HA1.out _ _)).trans (HA0.out _ _)).up (by simp[hlb]),by omega,HKA.out _ _ _ (HS3.out _ (HS1.out _ HJ.out) HLO.out)⟩
     ·gi_wp2
      exact⟨(HAL.out.trans (HA0.out _ _)).up (by simp[hlb]),by omega,HKA.out _ _ _ (HS3.out _ HJ.out HLO.out)⟩
    ·gi_wp2
     exact⟨(HAL.out.trans (HA0.out _ _)).up (by simp[hlb]),by omega,HKA.out _ _ _ (HS3.out _ HJ.out HLO.out)⟩
 case done =>
  intro D k W hD hk hf h hdef;obtain⟨y,hp⟩:=h.par
  have HL:Hid (Ajc w lb ⟨a,b,c,d⟩ M W):=⟨⟨y,-1,hp,h.who,.inr ⟨A6j fun i _=>by
   rcases Asp i k with g|g
   ·exact h.no i g
   ·exact A2t hf i g,rfl⟩⟩,h.old⟩
  clear h hp;obtain⟨⟨y,z,h1,h2,h3⟩,h4⟩:=HL.out;have B1:A9 w (lb+1) #[.int .i64 y] 3 W:=⟨h1,h4⟩;have B2:A9 w (lb+1+1) #[.int .i64 z] 3 W:=⟨h2,h4⟩;have y0:=B1.cell 0 _ rfl;have z0:=B2.cell 0 _ rfl;have HE:=Aoy h3;have HO:=Aoy h4;clear HL h1 h2 h3 h4 B1 B2
  gi_wp2
  gi_region
  all_goals gi_wp2
  all_goals
   refine⟨by simp,.inl ⟨_,_,rfl,run_takeDeferred (by first|exact hdef|exact(Au.refl _).drew.heap▸hdef),?_⟩⟩
   refine⟨.tuple #[.int .i64 y,.int .i64 z,.bool true],by simp[results,Tryz.f79,go_sem],?_⟩
   exact⟨⟨y,z,rfl,HE.out⟩,(HO.out.trans ((Au.refl W).drew.below _)).grown (row:=some D) (grownBy_putObj' _ D _) HO.out.size (fun j e=>by injection e with e;simp[hlb]at hD;omega)⟩
 case stop =>
  rintro D cd k W hD hk ⟨rfl,h⟩ hdef;have HL:=Aoy h;clear h;obtain⟨⟨y,z,h1,h2,h3⟩,h4⟩:=HL.out;have B1:A9 w (lb+1) #[.int .i64 y] 3 W:=⟨h1,h4⟩;have B2:A9 w (lb+1+1) #[.int .i64 z] 3 W:=⟨h2,h4⟩;have y0:=B1.cell 0 _ rfl;have z0:=B2.cell 0 _ rfl;have HE:=Aoy h3;have HO:=Aoy h4;clear HL h1 h2 h3 h4 B1 B2
  gi_wp2
  gi_region
  all_goals gi_wp2
  all_goals
   refine⟨by simp,.inl ⟨_,_,rfl,run_takeDeferred (by first|exact hdef|exact(Au.refl _).drew.heap▸hdef),?_⟩⟩
   refine⟨.tuple #[.int .i64 y,.int .i64 z,.bool true],by simp[results,Tryz.f79,go_sem],?_⟩
   exact⟨⟨y,z,rfl,HE.out⟩,(HO.out.trans ((Au.refl W).drew.below _)).grown (row:=some D) (grownBy_putObj' _ D _) HO.out.size (fun j e=>by injection e with e;simp[hlb]at hD;omega)⟩
end
section
open Go.RowKit
theorem A27 (a b c d n:Int)(hv:Bl a b c d=true)(w:World):Calls Vp.prog 57 #[.agg #[.int .i64 a,.int .i64 b,.int .i64 c,.int .i64 d],.int .i64 n] w fun e w'=>e=.returned (.tuple #[.int .i64 (stB ⟨a,b,c,d⟩ (Be n).toNat),.bool true])/\Below w.heap.size w w':=by
 have HCA:=Aoy (A26 a b c d hv);have HDI:=Aoy (A28 a b c d hv);have HES:=Aoy (Vi a b c d n hv);have HST:Hid (∀S,stB ⟨a,b,c,d⟩ (Be n).toNat=S->S=if Gx ⟨a,b,c,d⟩<=0\/Gy ⟨a,b,c,d⟩<=0 then 1 else if whB ⟨a,b,c,d⟩ (Be n).toNat=true then -1 else 0):=fun S h=>h.symm
 obtain⟨S,hS⟩:∃S,stB ⟨a,b,c,d⟩ (Be n).toNat=S:=⟨_,rfl⟩;have HS:=Aoy (HST.out S hS);rw[hS];clear hS HST hv;generalize Gx ⟨a,b,c,d⟩=x at *;generalize Gy ⟨a,b,c,d⟩=y at *;have X:=A9.new w #[.int .i64 a,.int .i64 b,.int .i64 c,.int .i64 d] 93;have x0:=X.cell 0 _ rfl;have x1:=X.cell 1 _ rfl;have x2:=X.cell 2 _ rfl;have x3:=X.cell 3 _ rfl
 go_enter Vp.func57,Tryz.ntmps57
 go_wp2_with fail
 refine(HCA.out _).mono ?_
 rintro e w1 ⟨rfl,hb⟩;clear x0 x1 x2 x3;replace X:=X.step hb;clear hb;have x0:=X.cell 0 _ rfl;have x1:=X.cell 1 _ rfl;have x2:=X.cell 2 _ rfl;have x3:=X.cell 3 _ rfl
 go_wp2_with fail
 refine(HDI.out _).mono ?_
 rintro e w2 ⟨rfl,hb⟩;clear x0 x1 x2 x3;replace X:=X.step hb;clear hb;have hs:=HS.out
 by_cases hx:x<=0
 ·rw[Apb (.inl hx)]at hs;subst hs;have HB:=Aoy X.old;clear X
  go_wp2
  exact Ap4 (v:=.tuple #[.int .i64 1,.bool true]) (by simp[results,Tryz.f57,go_sem]) rfl ⟨rfl,HB.out⟩
 ·by_cases hy:y<=0
  ·rw[Apb (.inr hy)]at hs;subst hs;have HB:=Aoy X.old;clear X
   go_wp2
   exact Ap4 (v:=.tuple #[.int .i64 1,.bool true]) (by simp[results,Tryz.f57,go_sem]) rfl ⟨rfl,HB.out⟩
  ·rw[Ap8 (by omega)]at hs
   have x0:=X.cell 0 _ rfl;have x1:=X.cell 1 _ rfl;have x2:=X.cell 2 _ rfl;have x3:=X.cell 3 _ rfl;have hs':=Aoy hs;clear hs
   go_wp2_with fail
   refine(HES.out _).mono ?_
   rintro e w3 ⟨⟨u,k,rfl,hk⟩,hb⟩;have HK:=Aoy hk;clear hk;have HB:=Aoy (X.step hb).old;clear x0 x1 x2 x3 X hb;have hs:=hs'.out;clear hs'
   by_cases hk:k=-1
   ·rw[Ap8 (by rcases HK.out with h|h;· omega
               ·rw[h.1];simp)]at hs
    subst hs
    go_wp2
    exact Ap4 (v:=.tuple #[.int .i64 0,.bool true]) (by simp[results,Tryz.f57,go_sem]) rfl ⟨rfl,HB.out⟩
   ·rw[Apb (by rcases HK.out with h|h;· exact h.1
               ·omega)]at hs
    subst hs
    go_wp2
    exact Ap4 (v:=.tuple #[.int .i64 (-1),.bool true]) (by simp[results,Tryz.f57,go_sem]) rfl ⟨rfl,HB.out⟩
end
end Go.Proofs.YtlfleicchbgcmaaGreat
section
namespace Go.Proofs.YtlfleicchbgcmaaGreat
namespace Flo
open Ieee
theorem Afr {f:Format}{s:Bool}{mag:Nat}{place:Int}{a b:Nat}{T U:Int}(hT:Pm f T)(hU:Pm f U)(hp:place-f.leastPlace=(a:Int)-b)
 (h1:T *(2^b:Nat) <=(if s then -(mag:Int)else mag) *(2^a:Nat)) (h2:(if s then -(mag:Int)else mag) *(2^a:Nat)<=U *(2^b:Nat)) :
 D6 f (f.nearest s mag place) (iv f (f.nearest s mag place))/\T<=iv f (f.nearest s mag place)/\iv f (f.nearest s mag place)<=U:=by
 obtain⟨rt,ht,et⟩:=hT;obtain⟨ru,hu,eu⟩:=hU;have hb:(0:Int) <(2^b:Nat):=by have:=Ap9 b;omega
 have hm:(0:Int) <=(mag:Int) *(2^a:Nat):=Aqt (Atg _) (Atg _)
 cases s with
 | false =>
   simp only[Aqb,At6]at h1 h2
   have hU0:0<=U:=by
    rcases Arw U 0 with h|h
    ·have:=Int.mul_neg_of_neg_of_pos h hb;omega
    ·exact h
   have hu2:mag*2^a<=rv f ru*2^b:=by
    rw[eu];have e:(U.natAbs:Int)=U:=by omega
    have:((mag*2^a:Nat):Int) <=((U.natAbs*2^b:Nat):Int):=by rw[Apx,Apx,e];exact h2
    exact Int.ofNat_le.1 this
   have r1:=A07 (neg:=false) hp hu2;have hw:=On f false (rnd f false mag place) (by omega)
   rw[Dg];have hv:iv f (f.word false (rnd f false mag place))=(rv f (rnd f false mag place):Int):=by rw[hw.2];rfl
   refine⟨⟨by rw[<-Dg];exact Format.nearest_lt _ _ _ _,hw.1,rfl⟩,?_,?_⟩
   ·rw[hv]
    rcases Arw 0 T with h|h
    ·have ht2:rv f rt*2^b<=mag*2^a:=by
      rw[et];have e:(T.natAbs:Int)=T:=by omega
      have:((T.natAbs*2^b:Nat):Int) <=((mag*2^a:Nat):Int):=by rw[Apx,Apx,e];exact h1
      exact Int.ofNat_le.1 this
     have:=Mq f (A06 (neg:=false) (Ate ht) hp ht2)
     omega
    ·omega
   ·rw[hv];have:=Mq f r1
    omega
 | true =>
   simp only[Ats]at h1 h2;rw[Atb]at h1 h2
   have hT0:T<=0:=by
    rcases Arw 0 T with h|h
    ·have:=Int.mul_pos h hb;omega
    ·exact h
   have ht2:mag*2^a<=rv f rt*2^b:=by
    rw[et];have e:(T.natAbs:Int)=-T:=by omega
    have:((mag*2^a:Nat):Int) <=((T.natAbs*2^b:Nat):Int):=by rw[Apx,Apx,e,Atb];omega
    exact Int.ofNat_le.1 this
   have r1:=A07 (neg:=true) hp ht2;have hw:=On f true (rnd f true mag place) (by omega)
   rw[Dg];have hv:iv f (f.word true (rnd f true mag place))=-(rv f (rnd f true mag place):Int):=by rw[hw.2];rfl
   refine⟨⟨by rw[<-Dg];exact Format.nearest_lt _ _ _ _,hw.1,rfl⟩,?_,?_⟩
   ·rw[hv];have:=Mq f r1
    omega
   ·rw[hv]
    rcases Arw U 0 with h|h
    ·have hu2:rv f ru*2^b<=mag*2^a:=by
      rw[eu];have e:(U.natAbs:Int)=-U:=by omega
      have:((U.natAbs*2^b:Nat):Int) <=((mag*2^a:Nat):Int):=by rw[Apx,Apx,e,Atb];omega
      exact Int.ofNat_le.1 this
     have:=Mq f (A06 (neg:=true) (Ate hu) hp hu2)
     omega
    ·omega
theorem Qc {f:Format}{x y:Nat}{a b T U:Int}(hx:D6 f x a)(hy:D6 f y b)(hT:Pm f T)(hU:Pm f U)(h1:T<=a+b)(h2:a+b<=U) :
 ∃z,f.add x y=some z/\D6 f z (iv f z)/\T<=iv f z/\iv f z<=U:=by
 unfold Format.add;rw[Az hx.fin,Az hy.fin];have hi:signed (Il f x) (rm f (Af f x)) (re f (Af f x))=a:=(E7 f x).trans hx.iv;have hj:signed (Il f y) (rm f (Af f y)) (re f (Af f y))=b:=(E7 f y).trans hy.iv;generalize Il f x=s at *;generalize Il f y=t at *;generalize rm f (Af f x)=m at *;generalize rm f (Af f y)=n at *;generalize re f (Af f x)=i at *;generalize re f (Af f y)=j at *;simp only[Datum.sum,Ary,Format.write]
 refine⟨_,rfl,?_⟩
 obtain⟨c,hc⟩:∃c:Nat,min (f.leastPlace +(i:Int)) (f.leastPlace +(j:Int))=f.leastPlace+c:=⟨min i j,by omega⟩
 rw[hc];obtain⟨i',hi'⟩:∃i',i=i'+c:=⟨i-c,by omega⟩
 obtain⟨j',hj'⟩:∃j',j=j'+c:=⟨j-c,by omega⟩
 have e1:(f.leastPlace +(i:Int)-(f.leastPlace+c)).toNat=i':=by omega
 have e2:(f.leastPlace +(j:Int)-(f.leastPlace+c)).toNat=j':=by omega
 rw[e1,e2];rw[hi',Cg]at hi;rw[hj',Cg]at hj;generalize signed s m i'=p at *;generalize signed t n j'=q at *;have hsum:(p+q) *(2^c:Nat)=a+b:=by rw[Asa,hi,hj]
 have hsg:(if(if p+q=0 then s && t else decide (p+q<0))then -((p+q).natAbs:Int)else((p+q).natAbs:Int))=p+q:=by
  by_cases h0:p+q=0
  ·rw[h0];simp
  ·rw[Ap8 h0]
   by_cases hn:p+q<0
   ·rw[Apj hn,Apb rfl];omega
   ·rw[Apy hn,Ap8 (by decide)];omega
 refine Afr (a:=c) (b:=0) hT hU (by omega) ?_ ?_
 ·rw[hsg,hsum];simpa using h1
 ·rw[hsg,hsum];simpa using h2
end Flo
end Go.Proofs.YtlfleicchbgcmaaGreat
end
namespace Go.Proofs.YtlfleicchbgcmaaGreat
namespace Flo
open Go.RowKit Ieee
structure Bd (B:Nat)(x:Nat):Prop where
 val:D6 single x (iv single x)
 le:(iv single x).natAbs<=B*2^u32
theorem Bd.nan {B x:Nat}(h:Bd B x):Flo.nan .f32 x=false:=A0q (k:=.f32) h.val
theorem Tx {z B sR:Nat}(hr:sR<single.infRung)(hB:rv single sR=B*2^u32)(hz:D6 double z (iv double z))(hb:(iv double z).natAbs<=B*2^u64) :
 ∃u,floatToFloatBits .f64 z .f32=some u/\Bd B u:=by
 have hd:=Cy hz
 have hn:=Nt (f:=single) (s:=Il double z) (mag:=rm double (Af double z)) (place:=double.leastPlace+re double (Af double z)) (r:=sR) (a:=re double (Af double z)) (b:=Hc) hr (by rw[Ht,Hp,O1];omega) (by
  rw[hB,<-hd];have:B*2^u32*2^Hc=B*2^u64:=by rw[Apo,<-Apk,show u32+Hc=u64 from rfl]
  rw[this];exact hb)
 unfold floatToFloatBits;rw[Ap8 (by decide)]
 have hdec:FloatKind.decode .f64 z=.number (Il double z) (rm double (Af double z)) (double.leastPlace+re double (Af double z)):=Az hz.fin;rw[hdec];have hni:(FloatKind.decode .f32 (FloatKind.encode .f32 (.number (Il double z) (rm double (Af double z)) (double.leastPlace+re double (Af double z))))).isInfinity=false:=A0p (k:=.f32) hn.1;simp only[hni]
 exact⟨_,rfl,⟨hn.1,by rw[<-hB];exact hn.2⟩⟩
theorem Agd {x y:Nat}(hx:x<4294967296)(hy:y<4294967296)(h:Ts (Cr (Aa x) (Aa y))=true) :
 Bd 5 (C8 (Ky (Aa x) (Aa y)))/\Bd 5 (C8 (Kx (Aa x) (Aa y))):=by
 have hnar:∀{z:Nat},D6 double z (iv double z) ->(iv double z).natAbs<=5*2^u64->Bd 5 (C8 z):=fun hv hb=>by
  obtain⟨u,hu,hbd⟩:=Tx Ti Wz hv hb;unfold C8;rw[hu];exact hbd
 have vx:D6 single x (iv single x):=⟨hx,Oi h,rfl⟩;have vy:D6 single y (iv single y):=⟨hy,Mg h,rfl⟩;obtain⟨X,eX,vX⟩:=Dv vx;obtain⟨Y,eY,vY⟩:=Dv vy;have wx:Aa x=X:=by unfold Aa;rw[eX];rfl
 have wy:Aa y=Y:=by unfold Aa;rw[eY];rfl
 rw[wx,wy]at h ⊢;have pxx:=H8 vx vx vX vX;have pyy:=H8 vy vy vY vY;have pxy:=H8 vx vy vX vY;have eK:(5*2^u64:Nat)=5*2^Ri*2^Ir:=by rw[Apo,<-Apk,show Ri+Ir=u64 from rfl]
 have hsum:iv single x*iv single x+iv single y*iv single y <((5*2^Ri:Nat):Int):=by
  rcases Arw (iv single x*iv single x+iv single y*iv single y) ((5*2^Ri:Nat):Int)with h1|h1
  ·exact h1
  ·exfalso
   have:=A10 pxx pyy (by
    rw[eK,<-Asa,Apx (5*2^Ri)]
    exact Arn h1 (Atg _))
   unfold Cr at h;rw[this]at h;cases h
 have sx:0<=iv single x*iv single x:=sq_pos _;have sy:0<=iv single y*iv single y:=sq_pos _;have h2:0 <=(iv single x-iv single y) *(iv single x-iv single y):=sq_pos _;have h3:0 <=(iv single x+iv single y) *(iv single x+iv single y):=sq_pos _
 have e2:(iv single x-iv single y) *(iv single x-iv single y)=iv single x*iv single x+iv single y*iv single y-2 *(iv single x*iv single y):=by
  rw[Int.sub_mul,Int.mul_sub,Int.mul_sub,Aqi (iv single y) (iv single x)];omega
 have e3:(iv single x+iv single y) *(iv single x+iv single y)=iv single x*iv single x+iv single y*iv single y+2 *(iv single x*iv single y):=by
  rw[Asa,Int.mul_add,Int.mul_add,Aqi (iv single y) (iv single x)];omega
 rw[e2]at h2;rw[e3]at h3;clear e2 e3;generalize iv single x*iv single x=A at *;generalize iv single y*iv single y=B at *;generalize iv single x*iv single y=C at *
 have bd:∀T:Int,T.natAbs<=5*2^Ri ->(T *(2^Ir:Nat)).natAbs<=5*2^u64:=by
  intro T hT;rw[Apt,Apf,eK]
  exact Ap2 _ hT
 constructor
 ·obtain⟨z,hz,hv,hb⟩:=Ae4 (r:=r5) pxx pyy Th (by
   rw[K7,<-Int.sub_mul]
   exact bd _ (by generalize (2:Nat)^298=U at *;omega))
  rw[K7]at hb
  have e:Ky X Y=z:=by
   unfold Ky Dh;unfold Dh at hz;rw[show floatBits .sub .f64 ((floatBits .mul .f64 X X).getD (Ot .f64)) ((floatBits .mul .f64 Y Y).getD (Ot .f64))=some z from hz];rfl
  rw[e]
  exact hnar hv hb
 ·have two:D6 double 4611686018427387904 ((2:Int) *(2^u64:Nat)):=by
   refine⟨by decide,by unfold fin;decide,?_⟩
   unfold iv;rw[Ap8 (by decide)]
   have:rv double (Af double 4611686018427387904)=2*2^u64:=by kernel_rfl
   rw[this];simp
  have hrep:Pm double (2 *(C *(2^Ir:Nat))):=by
   exact A7p pxy (by have:=bd (2*C) (by generalize (2:Nat)^298=U at *;omega);rw[Aqf]at this;exact this)
  obtain⟨z,hz,hv⟩:=Hq (f:=double) (c:=2 *(C *(2^Ir:Nat))) Cp two pxy (by rw[Int.mul_right_comm]) hrep
  have e:Kx X Y=z:=by
   unfold Kx
   show(floatBits .mul .f64 4611686018427387904 (Dh .mul .f64 X Y)).getD _=z
   rw[show floatBits .mul .f64 4611686018427387904 (Dh .mul .f64 X Y)=some z from hz];rfl
  rw[e]
  refine hnar (by rw[hv.iv];exact hv) ?_
  rw[hv.iv];have:=bd (2*C) (by generalize (2:Nat)^298=U at *;omega)
  rw[Aqf]at this
  exact this
theorem Ah1:Pm single ((16*2^u32:Nat):Int):=A05 (m:=1) (e:=u32+4) (by rw[Apf,Nat.one_mul,Apk,Apr]) (by rw[By];decide) (by decide) (by decide)
theorem Pm.neg {f:Format}{v:Int}(h:Pm f v):Pm f (-v):=by
 obtain⟨r,h1,h2⟩:=h
 exact⟨r,h1,by rw[Int.natAbs_neg];exact h2⟩
theorem Aaz {x c:Nat}(hx:Bd 5 x)(hc:Bd 8 c):Bd 16 (Dh .add .f32 x c):=by
 have h1:=hx.le;have h2:=hc.le;have hp:=Ap9 u32;obtain⟨z,hz,hv,g1,g2⟩:=Qc hx.val hc.val Ah1.neg Ah1 (by generalize 2^u32=U at *;omega) (by generalize 2^u32=U at *;omega)
 have e:Dh .add .f32 x c=z:=by unfold Dh;rw[show floatBits .add .f32 x c=some z from hz];rfl
 rw[e]
 exact⟨hv,by generalize 2^u32=U at *;omega⟩
theorem A6v:Bd 16 0:=by
 have h:D6 single 0 0:=⟨by decide,by unfold fin;decide,by decide⟩
 exact⟨by rw[h.iv];exact h,by rw[h.iv];exact Aq1 _⟩
theorem Acw {c d:Nat}(hc:Bd 8 c)(hd:Bd 8 d){k:Nat}(h:∀j,j<k->Rj c d j=true):Bd 16 (F0 c d k).1/\Bd 16 (F0 c d k).2:=by
 cases k with
 | zero=>exact⟨A6v,A6v⟩
 | succ k =>
   have ho:=h k (by omega)
   unfold Rj at ho;obtain⟨h1,h2⟩:=Agd (S7 c d k).1 (S7 c d k).2 ho
   exact⟨Aaz h1 hc,Aaz h2 hd⟩
def Al0:Nat:=1140850688
theorem Akz:rv single Al0=512*2^u32:=by kernel_rfl
theorem Ahn:Al0<single.infRung:=by decide
theorem Ad8:Pm double ((512*2^u64:Nat):Int):=A05 (m:=1) (e:=u64+9) (by rw[Apf,Nat.one_mul,Apk,Apr]) (by rw[An];decide) (by decide) (by decide)
theorem A7g {x y:Nat}(hx:Bd 16 x)(hy:Bd 16 y):∃m u,Cr (Aa x) (Aa y)=m/\Flo.nan .f64 m=false/\floatToFloatBits .f64 m .f32=some u/\Flo.nan .f32 u=false:=by
 obtain⟨X,eX,vX⟩:=Dv hx.val;obtain⟨Y,eY,vY⟩:=Dv hy.val;have wx:Aa x=X:=by unfold Aa;rw[eX];rfl
 have wy:Aa y=Y:=by unfold Aa;rw[eY];rfl
 rw[wx,wy];have pxx:=H8 hx.val hx.val vX vX;have pyy:=H8 hy.val hy.val vY vY
 have eK:(256*2^u64:Nat)=16*2^u32 *(16*2^u32)*2^Ir:=by
  have:2^u64=2^u32*2^u32*2^Ir:=by rw[<-Apk,<-Apk,show u32+u32+Ir=u64 from rfl]
  rw[this];generalize 2^u32=U;generalize 2^Ir=K;rw[show 16*U *(16*U)=256 *(U*U)from by rw[Nat.mul_mul_mul_comm]]
  rw[Apo 256]
 have sq:∀a:Int,a.natAbs<=16*2^u32 ->(a*a *(2^Ir:Nat)).natAbs<=256*2^u64:=fun a ha=>by
  rw[Apt,Apt,Apf,eK]
  exact Ap2 _ (Aqh ha ha)
 have b1:=sq _ hx.le;have b2:=sq _ hy.le;obtain⟨z,hz,hv,g1,g2⟩:=Qc pxx pyy Ad8.neg Ad8 (by generalize 2^u64=U at *;omega) (by generalize 2^u64=U at *;omega)
 have e:Cr X Y=z:=by
  unfold Cr
  show(floatBits .add .f64 (Dh .mul .f64 X X) (Dh .mul .f64 Y Y)).getD _=z
  rw[show floatBits .add .f64 (Dh .mul .f64 X X) (Dh .mul .f64 Y Y)=some z from hz];rfl
 obtain⟨u,hu,hb⟩:=Tx Ahn Akz hv (by generalize 2^u64=U at *;omega)
 exact⟨z,u,e,A0q (k:=.f64) hv,hu,hb.nan⟩
theorem Abs:∃s m e,FloatKind.f32.format.read 1082130432=.number s (m+1) e:=⟨false,8388607,-21,by decide +kernel⟩
theorem Ab0 {x y:Nat}{v:Int}(hx:D6 single x v)(hy:Flo.nan .f32 y=false):∃r,floatBits .add .f32 x y=some r:=by
 show ∃r,single.add x y=some r
 unfold Format.add;rw[Az hx.fin];unfold Flo.nan FloatKind.decode at hy;have hy:(single.read y).isNaN=false:=hy
 cases h:single.read y with
 | nan _ _=>rw[h]at hy;cases hy
 | infinity t=>exact⟨_,rfl⟩
 | number t n j=>exact⟨_,rfl⟩
def smK (k:Int)(u:Nat):Nat:=Dh .add .f32 (floatOfInt .f32 k) (Dh .quo .f32 1082130432 u)
theorem A3j {k:Int}{u:Nat}(hk:k.natAbs<=400)(hu:Flo.nan .f32 u=false):floatBits .quo .f32 1082130432 u=some (Dh .quo .f32 1082130432 u)/\floatBits .add .f32 (floatOfInt .f32 k) (Dh .quo .f32 1082130432 u)=some (smK k u):=by
 obtain⟨q,hq,hqn⟩:=A5l Abs hu;have e:Dh .quo .f32 1082130432 u=q:=by unfold Dh;rw[hq];rfl
 have hi:=Dr (k:=.f32) (l:=149) (by decide) k (by show k.natAbs<2*single.binade;rw[By];omega) (by decide)
 obtain⟨r,hr⟩:=Ab0 hi hqn
 refine⟨by rw[e];exact hq,?_⟩
 unfold smK Dh;rw[show floatBits .quo .f32 1082130432 u=some q from hq]
 show floatBits .add .f32 (floatOfInt .f32 k) q=some ((floatBits .add .f32 (floatOfInt .f32 k) q).getD _)
 rw[hr];rfl
end Flo
section
open Go.RowKit Flo
theorem Zq (c d:Nat)(n:Int)(w:World):Calls Vp.prog 72 #[.complex .f32 c d,.int .i64 n] w fun e w'=>(∃(k:Int) (a b:Nat),e=.returned (.tuple #[.int .i64 k,.complex .f32 a b])/\It (Rj c d) (Be n) k /\(0<=k->Al .f32 (F0 c d k.toNat).1 a/\Al .f32 (F0 c d k.toNat).2 b))/\Au w w':=by
 have hmb:=Jn n
 go_enter Vp.func72,Tryz.ntmps72
 go_wp2
 go_loopw [6,7] (fun z i wr=>∃k x y:Nat,k<=401/\i=.int .i64 k/\z=.complex .f32 x y/\x<4294967296/\y<4294967296/\Hid (Au w wr)/\Hid (Al .f32 (F0 c d k).1 x/\Al .f32 (F0 c d k).2 y/\∀j,j<k->Rj c d j=true)) (fun _ i _=>(401-intOf i).toNat)
 case atStart=>exact⟨0,0,0,by omega,rfl,rfl,by omega,by omega,Au.refl _,Al.refl _ _,Al.refl _ _,fun j hj=>by omega⟩
 case round =>
  obtain⟨k,x,y,hk,rfl,rfl,hx,hy,HD,HA⟩:=hrel;obtain⟨wo,rfl⟩:∃wo,wo=wr:=⟨_,rfl⟩
  go_wp2_with fail
  refine(Xg n _).mono ?_
  rintro e w1 ⟨rfl,rfl⟩
  by_cases hkr:(k:Int)<=Be n
  ·obtain⟨p,q,w1,h1,_,_,d1,ap,aq⟩:=Flo.Mc (P:=Vp.prog) 23 103 (by kernel_rfl) (Vp.Dw Tryz.underlying103) x y hx hy wo
   have H1:=Aoy (HD.out.trans d1);clear d1
   go_wp2_with fail
   refine(Qx p q _).mono ?_
   rintro e w2 ⟨⟨m,rfl,hm,am⟩,hd⟩;have H2:=Aoy (H1.out.trans hd)
   have HK:Hid (Ts m=Rj c d k):=by
    unfold Rj;rw[Mx HA.out.1,Mx HA.out.2.1,Tz ap aq]
    exact(Acf am).symm
   clear hd H1 HD h1 ap aq am;have hb:=HK.out;unfold Ts at hb
   cases ho:Rj c d k with
   | false =>
     rw[ho]at hb;have HR:Hid (It (Rj c d) (Be n) k):=.inl ⟨k,rfl,hkr,ho,HA.out.2.2⟩;have HAA:Hid (Al .f32 (F0 c d k).1 x/\Al .f32 (F0 c d k).2 y):=⟨HA.out.1,HA.out.2.1⟩;clear ho HK HA
     go_wp2
     go_ret2
     exact⟨⟨_,x,y,rfl,HR.out,fun _=>by rw[Aqk];exact HAA.out⟩,H2.out⟩
   | true =>
     rw[ho]at hb;have ho':=ho;unfold Rj at ho';have e1:=Al.same HA.out.1 (Rv (Oi ho'));have e2:=Al.same HA.out.2.1 (Rv (Mg ho'));subst e1 e2;have HO:=Aoy ho'
     have HP:Hid (∀j,j<k+1->Rj c d j=true):=fun j hj=>by
      by_cases e:j=k
      ·rw[e];exact ho
      ·exact HA.out.2.2 j (by omega)
     clear ho ho' HK HA
     go_wp2_with fail
     refine(A0j _ _ c d hx hy HO.out _).mono ?_
     rintro e w3 ⟨⟨a,b,rfl,ha,hb',aa,ab⟩,hd⟩;have H3:=Aoy (H2.out.trans hd);have HQ:Hid (Al .f32 (F0 c d (k+1)).1 a/\Al .f32 (F0 c d (k+1)).2 b/\∀j,j<k+1->Rj c d j=true):=⟨aa,ab,HP.out⟩;clear hd H2 aa ab HP HO
     go_wp2
     go_roundw
     case rel=>exact⟨k+1,a,b,by omega,by go_num,rfl,ha,hb',H3,HQ⟩
     case measure=>simp[intOf];omega
  ·have HR:Hid (It (Rj c d) (Be n) (-1)):=.inr ⟨rfl,fun j hj=>HA.out.2.2 j (by omega)⟩
   go_wp2
   go_ret2
   exact⟨⟨_,x,y,rfl,HR.out,fun h=>by omega⟩,HD.out⟩
def smC (c d:Nat)(n:Int):Nat :=
 if A1s (Rj c d) (Be n).toNat<0 then 3212836864
 else smK (A1s (Rj c d) (Be n).toNat) (C8 (Cr (Aa (F0 c d (A1s (Rj c d) (Be n).toNat).toNat).1) (Aa (F0 c d (A1s (Rj c d) (Be n).toNat).toNat).2)))
theorem A1t {ok:Nat->Bool}{n k:Int}(h:It ok (Be n) k):k=-1 \/(0<=k/\k<=400/\∀j:Nat,j<k.toNat->ok j=true):=by
 have hb:=Jn n
 rcases h with⟨m,rfl,h1,h2,h3⟩ |⟨rfl,h1⟩
 ·exact .inr ⟨by omega,by omega,fun j hj=>h3 j (by omega)⟩
 ·exact .inl rfl
theorem Al.id {k:FloatKind}{x a:Nat}(h:Al k x a)(g:nan k x=false):a=x:=by
 rcases h with rfl |⟨h1,h2⟩
 ·rfl
 ·rw[h1]at g;cases g
theorem Vk (c d:Nat)(n:Int)(hc:Bd 8 c)(hd:Bd 8 d)(w:World):Calls Vp.prog 59 #[.complex .f32 c d,.int .i64 n] w fun e w'=>e=.returned (.float .f32 (smC c d n))/\Below w.heap.size w w':=by
 have HC:=Aoy hc;have HD:=Aoy hd;clear hc hd
 go_enter Vp.func59,Tryz.ntmps59
 go_wp2_with fail
 refine(Af4 c d n _).mono ?_
 rintro e w1 ⟨⟨k,nm,rfl,hk,hnm,hal⟩,hb⟩;have HB:=Aoy hb;have he:=hk.A4;have hkc:=A1t hk;clear hb hk
 by_cases hk0:k<0
 ·have HS:Hid (smC c d n=3212836864):=by
   show _=_
   unfold smC;rw[<-he,Apb hk0]
  clear he hkc hal
  go_wp2
  exact Ap4 (v:=.float .f32 3212836864) (by simp[results,Tryz.f59,go_sem]) rfl ⟨by rw[HS.out],HB.out⟩
 ·obtain⟨g1,g2,g3⟩:=hkc.resolve_left (by omega)
  obtain⟨b1,b2⟩:=Acw HC.out HD.out g3;obtain⟨m,u,e1,e2,e3,e4⟩:=A7g b1 b2
  have hm:nm=m:=by
   have h:=hal g1;rw[e1]at h
   exact Al.id h e2
  subst hm;obtain⟨r1,r2⟩:=A3j (k:=k) (by omega) e4
  have HS:Hid (smC c d n=smK k u):=by
   show _=_
   unfold smC;rw[<-he,Ap8 hk0,e1];unfold C8;rw[e3];rfl
  have q1:=fun w=>Ar2 (P:=Vp.prog) w 129 74 .f64 .f32 nm u (by kernel_rfl) (Vp.Dw Tryz.underlying74) e3
  have q2:=fun w=>Aqa (P:=Vp.prog) w .quo 74 .f32 _ _ _ r1
  have q3:=fun w=>Aqa (P:=Vp.prog) w .add 74 .f32 _ _ _ r2
  generalize Dh .quo .f32 1082130432 u=q at *;generalize smK k u=s at *;clear r1 r2 e1 e2 e3 e4 b1 b2 g3 hal he hkc
  go_wp2
  exact Ap4 (v:=.float .f32 s) (by simp[results,Tryz.f59,go_sem]) rfl ⟨by rw[HS.out],HB.out⟩
theorem Vt (c d:Nat)(n:Int)(hc:Bd 8 c)(hd:Bd 8 d)(w:World):Calls Vp.prog 47 #[.complex .f32 c d,.int .i64 n] w fun e w'=>e=.returned (.float .f32 (smC c d n))/\Au w w':=by
 have HC:=Aoy hc;have HD:=Aoy hd;clear hc hd
 go_enter Vp.func47,Tryz.ntmps47
 go_wp2_with fail
 refine(Zq c d n _).mono ?_
 rintro e w1 ⟨⟨k,a,b,rfl,hk,hal⟩,hb⟩;have HB:=Aoy hb;have he:=hk.A4;have hkc:=A1t hk;clear hb hk
 by_cases hk0:k<0
 ·have HS:Hid (smC c d n=3212836864):=by
   show _=_
   unfold smC;rw[<-he,Apb hk0]
  clear he hkc hal
  go_wp2
  exact Ap4 (v:=.float .f32 3212836864) (by simp[results,Tryz.f47,go_sem]) rfl ⟨by rw[HS.out],HB.out⟩
 ·obtain⟨g1,g2,g3⟩:=hkc.resolve_left (by omega)
  obtain⟨b1,b2⟩:=Acw HC.out HD.out g3;obtain⟨m,u,e1,e2,e3,e4⟩:=A7g b1 b2;obtain⟨h1,h2⟩:=hal g1;have ha:a=(F0 c d k.toNat).1:=Al.id h1 b1.nan;have hb:b=(F0 c d k.toNat).2:=Al.id h2 b2.nan;obtain⟨r1,r2⟩:=A3j (k:=k) (by omega) e4
  have HS:Hid (smC c d n=smK k u):=by
   show _=_
   unfold smC;rw[<-he,Ap8 hk0,e1];unfold C8;rw[e3];rfl
  rw[<-ha,<-hb]at e1;have hal1:a<4294967296:=by rw[ha];exact(S7 c d _).1
  have hbl1:b<4294967296:=by rw[hb];exact(S7 c d _).2
  obtain⟨p,q,w2,c1,_,_,d1,ap,aq⟩:=Flo.Mc (P:=Vp.prog) 23 103 (by kernel_rfl) (Vp.Dw Tryz.underlying103) a b hal1 hbl1 w1
  have HW:=Aoy (HB.out.trans d1)
  have HN:Hid (∀x,Al .f64 (Cr p q) x->x=m):=fun x hx=>by
   rw[<-Tz ap aq,e1]at hx
   exact Al.id hx e2
  have q1:=fun w=>Ar2 (P:=Vp.prog) w 129 74 .f64 .f32 m u (by kernel_rfl) (Vp.Dw Tryz.underlying74) e3
  have q2:=fun w=>Aqa (P:=Vp.prog) w .quo 74 .f32 _ _ _ r1
  have q3:=fun w=>Aqa (P:=Vp.prog) w .add 74 .f32 _ _ _ r2
  generalize Dh .quo .f32 1082130432 u=qq at *;generalize smK k u=s at *;clear r1 r2 e1 e2 e3 e4 b1 b2 g3 hal he hkc ha hb h1 h2 d1 ap aq hal1 hbl1
  go_wp2_with fail
  refine(Qx p q _).mono ?_
  rintro e w3 ⟨⟨x,rfl,_,ax⟩,hd⟩;have hx:=HN.out x ax;subst hx;have HZ:=Aoy (HW.out.trans hd);clear hd ax
  go_wp2
  exact Ap4 (v:=.float .f32 s) (by simp[results,Tryz.f47,go_sem]) rfl ⟨by rw[HS.out],HZ.out⟩
end
section
open Go.RowKit
attribute [local go_sem ↓] Go.wp_at_zero Go.wp_at_succ
theorem Yz (x y d:Nat)(a b A B S:Int)(hd:d<=11)(hx:Flo.Pt x d a)(hy:Flo.Pt y d b)(ha:a.natAbs<=65536)(hb:b.natAbs<=65536)
 (hS:S=(2^(24-d):Nat)) (hA:A=a*S) (hB:B=b*S) (h1:-134217728<=A) (h2:A+S<=134217728) (h3:-134217728<=B) (h4:B+S<=134217728) (w:World) :
 Calls Vp.prog 58 #[.complex .f32 x y,.int .i64 d] w fun e w'=>e=.returned (.agg #[.int .i64 A,.int .i64 (A+S),.int .i64 B,.int .i64 (B+S)])/\Below w.heap.size w w':=by
 have hS0:0<S:=by rw[hS];have:=Ap9 (24-d);omega
 obtain⟨x1,x2,e1,e2,-,e3⟩:=Flo.Pd hd hx ha;obtain⟨y1,y2,d1,d2,-,d3⟩:=Flo.Pd hd hy hb;rw[<-hS,<-hA]at e3;rw[<-hS,<-hB]at d3;have g1:=fun w=>Ar2 (P:=Vp.prog) w 74 129 .f32 .f64 _ _ (by kernel_rfl) (Vp.Dw Tryz.underlying129) e1
 have g2:=fun w=>Aqa (P:=Vp.prog) w .mul 129 .f64 _ _ _ e2
 have g3:=fun w=>Atx (P:=Vp.prog) w 129 3 .f64 .i64 _ _ (by kernel_rfl) (Vp.Dw Tryz.underlying3) e3
 have g4:=fun w=>Ar2 (P:=Vp.prog) w 74 129 .f32 .f64 _ _ (by kernel_rfl) (Vp.Dw Tryz.underlying129) d1
 have g5:=fun w=>Aqa (P:=Vp.prog) w .mul 129 .f64 _ _ _ d2
 have g6:=fun w=>Atx (P:=Vp.prog) w 129 3 .f64 .i64 _ _ (by kernel_rfl) (Vp.Dw Tryz.underlying3) d3
 have hsd:(16777216:Int) / 2^d=S:=by rw[hS];exact Nw d hd
 obtain⟨A2,k1,e4⟩:∃x,wrap64 (A+S)=x/\A+S=x:=⟨_,Fv (by omega) (by omega),rfl⟩
 obtain⟨B2,k2,e5⟩:∃x,wrap64 (B+S)=x/\B+S=x:=⟨_,Fv (by omega) (by omega),rfl⟩
 rw[e4,e5];clear e4 e5;have HO:Hid (∀u0 u1 u2 u3:Value,Below w.heap.size w (w.alloc (.cells #[u0,u1,u2,u3] 93))):=fun u0 u1 u2 u3=>(Aph _ w).alloc (Ap0 _) _
 have R:=A9.new w #[.int .i64 A,.int .i64 A2,.int .i64 B,.int .i64 B2] 93;have r0:=R.cell 0 _ rfl;have r1:=R.cell 1 _ rfl;have r2:=R.cell 2 _ rfl;have r3:=R.cell 3 _ rfl;clear e1 e2 e3 d1 d2 d3 hx hy ha hb hS hA hB h1 h2 h3 h4 R
 go_enter Vp.func58,Tryz.ntmps58
 go_wp2
 exact Ap4 (v:=.agg #[.int .i64 A,.int .i64 A2,.int .i64 B,.int .i64 B2]) (by simp[results,Tryz.f58,go_sem,k1,k2]) rfl ⟨rfl,HO.out _ _ _ _⟩
end
namespace Bar
open Go.Conc Tl Lr
inductive Sub (P:Program):St->St->Prop
 | refl (x:St):Sub P x x
 | step {x x' y:St} (τ:Tape) (d:Nat):Go1 P (x.at τ d) x'->Sub P x' y->Sub P x y
section
variable {P : Program} {F J : St -> Prop}
theorem Agn {M:St->Prop}(hp:∀x,F x->Wj x)(h0:∀x,F x->M x)(hs:∀x (g:Tape->Nat->St),(∀τ d,Go1 P (x.at τ d) (g τ d)) ->(∀τ d,Way P F (g τ d)) ->(∀τ d y,Sub P (g τ d) y->M y)->M x){x:St}(h:Way P F x):∀y,Sub P x y->M y:=by
 induction h with
 | @fin x h =>
   intro y hy
   cases hy with
   | refl=>exact h0 x h
   | step τ d g _=>exact absurd (show Wj (x.at τ d)from hp x h) g.Mk
 | @go x g hg hw ih =>
   intro y hy
   cases hy with
   | refl=>exact hs x g hg hw ih
   | @step _ x' _ τ d g' k =>
     obtain rfl:=(hg τ d).inj g'
     exact ih τ d y k
end
end Bar
namespace Lr
open Go.Conc Tl Bar
variable {X : Cx} {B : Lk} {V W V' W' : World}
theorem A8a (hw:WR X B V W)(hV:V.heap.size<=V'.heap.size)(hVk:∀b,b<V.heap.size->V'.heap[b]?=V.heap[b]?)(hW:W.heap.size<=W'.heap.size)(hWk:∀b,b<W.heap.size->W'.heap[b]?=W.heap[b]?)
 (ht:W'.tape=V'.tape) (hd:W'.drawn=V'.drawn) (ho:W'.os=V'.os) (hu:W'.output=V'.output):WR X B V' W':=by
 refine{ tape:=ht,drawn:=hd,os:=ho,output:=hu,fn:=hw.fn,inj:=hw.inj,Ie:=hw.Ie,live:=?_,Ja:=?_,dead:=?_,Wx:=fun b h=>Ap6 (hw.Wx b h) hV,Tk:=fun b h=>Ap6 (hw.Tk b h) hV,low:=hw.low,nV:=Ap3 hw.nV hV,nW:=Ap3 hw.nW hW }
 ·intro b b' h hd hf;obtain⟨o,o',h1,h2,h3⟩:=hw.live b b' h hd hf
  exact⟨o,o',(hVk b (hw.Xl h)).trans h1,(hWk b' (hw.ltW h)).trans h2,h3⟩
 ·intro b b' h hd hf;obtain⟨x,x',t,t',f,h1,h2,h3⟩:=hw.Ja b b' h hd hf
  exact⟨x,x',t,t',f,(hVk b (hw.Xl h)).trans h1,(hWk b' (hw.ltW h)).trans h2,h3⟩
 ·intro b b' h hd;obtain⟨⟨t,h1⟩,h2⟩:=hw.dead b b' h hd
  exact⟨⟨t,(hVk b (hw.Xl h)).trans h1⟩,Ap6 h2 hW⟩
theorem Aeg (hw:WR X B V W){s s':Nat}{C:Array Value}{t:TypeId}(hs:∀y,¬B s y)(hs':∀x,¬B x s')(hV:V.heap[s]?=some (.cells C t (0,0)))(hW:W.heap[s']?=some (.cells C t (0,0)))(hC:∀v∈C,Flat X v)(hd:¬X.D s)(hf:¬X.F s)(hN:X.N<=s)(hN':X.N<=s') :
 WR X (fun b b'=>B b b' \/(b=s/\b'=s')) V W:=by
 have hle:Le B (fun b b'=>B b b' \/(b=s/\b'=s')):=fun _ _ h=>.inl h
 refine{ tape:=hw.tape,drawn:=hw.drawn,os:=hw.os,output:=hw.output,fn:=?_,inj:=?_,Ie:=fun g hg=>.inl (hw.Ie g hg),live:=?_,Ja:=?_,dead:=?_,Wx:=hw.Wx,Tk:=hw.Tk,low:=?_,nV:=hw.nV,nW:=hw.nW }
 ·rintro b b₁ b₂ (h1 |⟨rfl,rfl⟩) (h2 |⟨h3,rfl⟩)
  ·exact hw.fn _ _ _ h1 h2
  ·subst h3;exact absurd h1 (hs _)
  ·exact absurd h2 (hs _)
  ·rfl
 ·rintro b₁ b₂ b' (h1 |⟨rfl,rfl⟩) (h2 |⟨rfl,h3⟩)
  ·exact hw.inj _ _ _ h1 h2
  ·subst h3;exact absurd h1 (hs' _)
  ·exact absurd h2 (hs' _)
  ·rfl
 ·rintro b b' (h |⟨rfl,rfl⟩) hd' hf'
  ·obtain⟨o,o',h1,h2,h3⟩:=hw.live b b' h hd' hf'
   exact⟨o,o',h1,h2,h3.mono hle⟩
  ·refine⟨_,_,hV,hW,.cells t _ ⟨rfl,fun i v v' h1 h2=>?_⟩⟩
   rw[h1]at h2
   cases h2
   exact hC v (Aq3 h1) _
 ·rintro b b' (h |⟨rfl,rfl⟩) hd' hf'
  ·obtain⟨x,x',t,t',f,h1,h2,h3⟩:=hw.Ja b b' h hd' hf'
   exact⟨x,x',t,t',f,h1,h2,⟨h3.1.mono hle,h3.2⟩⟩
  ·exact absurd hf' hf
 ·rintro b b' (h |⟨rfl,rfl⟩) hd'
  ·exact hw.dead b b' h hd'
  ·exact absurd hd' hd
 ·rintro b b' (h |⟨rfl,rfl⟩)
  ·exact hw.low b b' h
  ·omega
end Lr
namespace Co
open Go Go.Conc
def Ro (P:Program){α:Type}(s:Sem α):Prop:=∀w v w1,s.run P w=.ok v w1->w1=w
section
variable {P : Program}
theorem Ro.pure {α:Type}(a:α):Ro P (Pure.pure a:Sem α):=by
 intro w v w1 h;simp at h
 exact h.2.symm
theorem Ro.bind {α β:Type}{s:Sem α}{f:α->Sem β}(h:Ro P s)(k:∀a,Ro P (f a)):Ro P (s >>= f):=by
 intro w v w1 e;simp only[Sem.run_bind]at e
 cases hs:s.run P w with
 | ok a w2 =>
   rw[hs]at e;rw[h w a w2 hs]at e
   exact k a w v w1 e
 | halt a w2=>rw[hs]at e;cases e
theorem Ro.load (a:Addr):Ro P (load a):=by
 intro w v w1 h;simp only[Go.load,Sem.run]at h
 repeat' split at h
 all_goals first
  |(injection h with _ h;exact h.symm)
  |(cases h;done)
theorem Ro.asAddr (v:Value):Ro P (asAddr v):=by
 intro w x w1 h;unfold Go.asAddr at h
 split at h<;>simp[runtimePanic]at h
 exact h.2.symm
theorem Ro.underlying (t:TypeId):Ro P (underlying t):=by
 intro w x w1 h;simp[Go.underlying]at h
 split at h<;>simp at h
 exact h.2.symm
theorem Ro.typeInfo (t:TypeId):Ro P (typeInfo t):=by
 intro w x w1 h;simp[Go.typeInfo]at h
 split at h<;>simp at h
 exact h.2.symm
theorem Ro.loadCellsFrom (a:Addr):∀(n i:Nat) (acc:Array Value),Ro P (loadCellsFrom a i n acc)
 | 0,i,acc=>Ro.pure acc
 | n+1,i,acc=>by
   unfold Go.loadCellsFrom
   exact Ro.bind (Ro.load _) fun v=>Ro.loadCellsFrom a n (i+1) _
theorem Ro.isAgg (t:TypeId):Ro P (isAgg t):=by
 unfold Go.isAgg
 refine Ro.bind (Ro.underlying t) fun d=>?_
 split<;>exact Ro.pure _
theorem Ro.loadVar (t:TypeId)(a:Addr):Ro P (loadVar t a):=by
 unfold Go.loadVar
 refine Ro.bind (Ro.isAgg t) fun b=>?_
 split
 ·refine Ro.bind ?_ fun n=>Ro.bind (Ro.loadCellsFrom a _ 0 #[]) fun _=>Ro.pure _
  unfold Go.sizeOf
  exact Ro.bind (Ro.typeInfo t) fun _=>Ro.pure _
 ·exact Ro.load a
theorem Ro.mapM {α β:Type}{f:α->Sem β}(h:∀a,Ro P (f a)):∀l:List α,Ro P (l.mapM f)
 | []=>by simpa using Ro.pure (P:=P) ([]:List β)
 | a :: l=>by
   rw[List.mapM_cons]
   exact Ro.bind (h a) fun _=>Ro.bind (Ro.mapM h l) fun _=>Ro.pure _
theorem Ro.results (fn:Func)(t:Array Value):Ro P (results fn t):=by
 unfold Go.results;rw[Aua]
 refine Ro.bind ?_ fun vs=>Ro.pure _
 rw[map_eq_pure_bind]
 refine Ro.bind (Ro.mapM (fun x=>?_) _) fun _=>Ro.pure _
 cases x with
 | tmp i=>exact Ro.pure _
 | cell a ty=>exact Ro.bind (Ro.asAddr _) fun q=>Ro.loadVar _ _
end
end Co
section
open Go
theorem Afp {P:Program}{t:TypeId}(v:Value):(∃n,v=.int .i64 n)\/∀w,∃s,(binOp .mul t v (.int .i64 0)).run P w=.halt s w /\((∃m,s=.stuck m)\/s=.unsupported .addressObserved):=by
 unfold binOp
 cases v<;>simp
 split
 ·subst_vars
  exact .inl rfl
 ·exact .inr (by simp)
open Go.Conc Bar Co
theorem A43 {P:Program}{F:St->Prop}(hF:∀x,F x->Wj x){x:St}(h:Bar.Way P F x)(hp:¬Wj x)(τ:Tape)(d:Nat):∃x',Go1 P (x.at τ d) x'/\Bar.Way P F x':=by
 cases h with
 | fin h=>exact absurd (hF x h) hp
 | go g hg hw=>exact⟨g τ d,hg τ d,hw τ d⟩
theorem M6 {P:Program}{F:St->Prop}(hF:∀x,F x->Wj x){b:Frame}{a:Act}{ops:Array Oper}{i:Nat}{rest:List Nat}{k:List Item}{cs:List Frame}{V:World}{o:Oper}(ho:ops[i]?=some o)(hg:o.guard=none)(hk:b.kind≠.early){v:Value}
 (hr:(∀w,(execOp a.eval o).run P w=.ok (.value v) w)\/∀w,∃s,(execOp a.eval o).run P w=.halt s w /\((∃m,s=.stuck m)\/s=.unsupported .addressObserved)) (h:Bar.Way P F ⟨b.at a (.inRegion ops (i :: rest) :: k),cs,V⟩) :
 (∀w,(execOp a.eval o).run P w=.ok (.value v) w)/\Bar.Way P F ⟨b.at (a.put o.dst v) (.inRegion ops rest :: k),cs,V⟩:=by
 obtain⟨x',⟨es,hgo⟩,hw⟩:=A43 hF h (fun hp=>hp.2.1 rfl) V.tape V.drawn
 have hgo:stepG P true (G (b.at a (.inRegion ops (i :: rest) :: k)) (cs++[wall P])) V=_:=hgo
 rcases hr with hr|hr
 ·refine⟨hr,?_⟩
  rw[stepG_value ho (by simp[Region.wanted,hg]) hk (hr V)]at hgo
  injection hgo with h1 h2 _
  injection h1 with h3 h4 _ _
  have h5:cs=x'.cs:=Ar5 h4;clear h4;obtain⟨x1,x2,x3⟩:=x';dsimp only at h2 h3 h5;subst h2 h3 h5
  exact hw
 ·exfalso
  obtain⟨s,hr,hs⟩:=hr V;rw[stepG_oper ho (by simp[Region.wanted,hg])]at hgo
  rcases hs with⟨m,rfl⟩|rfl
  ·simp[stepG.apply,hr,GStep.after]at hgo
  ·simp[stepG.apply,hr,GStep.after]at hgo
theorem A88 {P:Program}{F:St->Prop}(hF:∀x,F x->Wj x){fr fr1:Frame}{cs cs1:List Frame}{V:World}{es:Array Event}(hm:fr.mode=.run)(hst:stepG P true (G fr (cs++[wall P])) V=.go (G fr1 (cs1++[wall P])) V es)(h:Bar.Way P F ⟨fr,cs,V⟩):Bar.Way P F ⟨fr1,cs1,V⟩:=by
 obtain⟨x',⟨es',hgo⟩,hw⟩:=A43 hF h (fun hp=>hp.2.1 hm) V.tape V.drawn
 have hgo:stepG P true (G fr (cs++[wall P])) V=_:=hgo;rw[hst]at hgo;injection hgo with h1 h2 _
 injection h1 with h3 h4 _ _
 have h5:cs1=x'.cs:=Ar5 h4;clear h4;obtain⟨x1,x2,x3⟩:=x';dsimp only at h2 h3 h5;subst h2 h3 h5
 exact hw
end
section
open Go.Conc Bar Co
theorem Ahu {P:Program}{a:Act}{o:Oper}{i:Nat}{t t':TypeId}(hop:o.op=.binOp .mul t (.tmp i) (.const (.int .i64 0)) t') :
 (∃n,a.eval (.tmp i)=.int .i64 n/\∃v,∀w,(execOp a.eval o).run P w=.ok (.value v) w)\/∀w,∃s,(execOp a.eval o).run P w=.halt s w /\((∃m,s=.stuck m)\/s=.unsupported .addressObserved):=by
 have ec:a.eval (.const (.int .i64 0))=.int .i64 0:=rfl
 rcases Afp (P:=P) (t:=t) (a.eval (.tmp i))with⟨n,h⟩|h
 ·refine .inl ⟨n,h,?_⟩
  unfold execOp;simp only[hop];rw[ec,h];simp[eqGuard,binOp,Op.intArith]
 ·refine .inr fun w=>?_
  obtain⟨s,h1,h2⟩:=h w
  refine⟨s,?_,h2⟩
  unfold execOp;simp only[hop];rw[ec];simp[eqGuard,h1]
theorem Aky {P:Program}{a:Act}{o:Oper}{i:Nat}{ts:Array TypeId}(hop:o.op=.call { callee:=.builtin .real,args:=#[.tmp i],argTypes:=ts }) :
 (∃k x y,a.eval (.tmp i)=.complex k x y/\∀w,(execOp a.eval o).run P w=.ok (.value (.float k x)) w)\/∀w,∃s,(execOp a.eval o).run P w=.halt s w /\((∃m,s=.stuck m)\/s=.unsupported .addressObserved):=by
 have yes:∀(k:FloatKind) (x y:Nat) (t:TypeId),Builtin.real_ ts t #[.complex k x y]=pure (.float k x):=fun _ _ _ _=>rfl
 have no:∀(v:Value) (t:TypeId),(∀k x y,v≠.complex k x y)->∃m,Builtin.real_ ts t #[v]=stuck m:=fun v t h=>by
  cases v<;>first
   | exact absurd rfl (h _ _ _)
   | exact⟨_,rfl⟩
 have key:∀w,(execOp a.eval o).run P w=(do pure (Next.value (<-Builtin.real_ ts o.type #[a.eval (.tmp i)]))).run P w:=fun w=>by
  unfold execOp;simp only[hop];simp only[resolve,invoke,builtin,Att,Aqo,Asr,pure_bind]
 by_cases h:∃k x y,a.eval (.tmp i)=.complex k x y
 ·obtain⟨k,x,y,h⟩:=h
  exact .inl ⟨k,x,y,h,fun w=>by rw[key,h,yes];simp⟩
 ·obtain⟨m,hm⟩:=no (a.eval (.tmp i)) o.type fun k x y e=>h ⟨k,x,y,e⟩
  exact .inr fun w=>⟨.stuck m,by rw[key,hm];simp,.inl ⟨_,rfl⟩⟩
theorem Aoh {P:Program}{a:Act}{o:Oper}{i:Nat}{t t':TypeId}(hop:o.op=.binOp .lss t (.tmp i) (.const (.float .f32 0)) t'){k:FloatKind}{x:Nat}(hv:a.eval (.tmp i)=.float k x) :
 (k=.f32/\∃v,∀w,(execOp a.eval o).run P w=.ok (.value v) w)\/∀w,∃s,(execOp a.eval o).run P w=.halt s w /\((∃m,s=.stuck m)\/s=.unsupported .addressObserved):=by
 have ec:a.eval (.const (.float .f32 0))=.float .f32 0:=rfl;unfold execOp;simp only[hop];rw[ec,hv]
 cases k with
 | f32=>exact .inl ⟨rfl,by simp[eqGuard,binOp,Op.floatCmp]⟩
 | f64=>exact .inr fun w=>by simp[eqGuard,binOp]
theorem Uv {P:Program}{F:St->Prop}(hF:∀x,F x->Wj x){b:Frame}{a:Act}{ops:Array Oper}{i:Nat}{rest:List Nat}{k:List Item}{cs:List Frame}{V:World}{o:Oper}(ho:ops[i]?=some o)(hg:o.guard=none)(hk:b.kind≠.early)
 (hr:∀w,∃s,(execOp a.eval o).run P w=.halt s w /\((∃m,s=.stuck m)\/s=.unsupported .addressObserved)) (h:Bar.Way P F ⟨b.at a (.inRegion ops (i :: rest) :: k),cs,V⟩):False:=by
 have h1:=(M6 hF ho hg hk (v:=undef) (.inr hr) h).1 V;obtain⟨s,h2,_⟩:=hr V;rw[h1]at h2
 cases h2
noncomputable def vB:Code:=Vp.fT.body.getD .skip
noncomputable def vK:Code:=match vB with|.seq _ k=>k|_=>.skip
theorem Ala:vB=.seq (.region 90 Vp.guards false) vK:=by
 unfold vK vB;rw[Vp.Agw]
 cases h:Tryz.f18.body with
 | none=>have:Tryz.f18.body.isNone=false:=by kernel_rfl
         rw[h]at this;cases this
 | some c=>rfl
theorem Agm:Vp.fT.body=some vB:=by
 unfold vB
 cases h:Vp.fT.body with
 | none =>
   rw[Vp.Agw]at h;have:Tryz.f18.body.isNone=false:=by kernel_rfl
   cases h':Tryz.f18.body with
   | none=>rw[h']at this;cases this
   | some c=>rw[h']at h;cases h
 | some c=>rfl
def bV:Frame:={ fn:=15,tmps:=#[],todo:=[],defers:=[],mode:=.run,kind:=.normal }
theorem Af2 (p:Array Value):Frame.enter Vp.prog 15 p .normal=bV.at ⟨p++Array.replicate (81-p.size) undef,[]⟩ [.code vB]:=by
 unfold Frame.enter;rw[Vp.Ql];dsimp only[Option.map_some,Option.getD_some,Option.bind_some];rw[Vp.A5f,Agm]
 rfl
theorem Adj {F:St->Prop}(hF:∀x,F x->Wj x){p:Array Value}(hs:p.size=4){cs:List Frame}{V:World}(h:Bar.Way Vp.prog F ⟨Frame.enter Vp.prog 15 p .normal,cs,V⟩) :
 ∃(x y:Nat) (a b m:Int),p=#[.complex .f32 x y,.int .i64 a,.int .i64 b,.int .i64 m]:=by
 rw[Af2,Ala]at h;have h:=A88 hF rfl stepG_seq h;have h:=A88 hF rfl stepG_region h;have hr:List.range Vp.guards.size=[0,1,2,3,4]:=rfl;rw[hr]at h;generalize hT:p++Array.replicate (81-p.size) undef=T at h;have hTs:T.size=81:=by rw[<-hT];simp;omega
 have hTk:∀k,k<4->T[k]?=p[k]?:=fun k hk=>by rw[<-hT,At0 (by omega)]
 clear hT;have hk:bV.kind≠.early:=by simp[bV]
 have ev:∀(A:Act) (j:Nat),A.eval (.tmp j)=A.tmps.getD j undef:=fun A j=>rfl
 obtain⟨p0,e0⟩:∃v,p[0]?=some v:=⟨_,Ap5 (by omega)⟩
 obtain⟨p1,e1⟩:∃v,p[1]?=some v:=⟨_,Ap5 (by omega)⟩
 obtain⟨p2,e2⟩:∃v,p[2]?=some v:=⟨_,Ap5 (by omega)⟩
 obtain⟨p3,e3⟩:∃v,p[3]?=some v:=⟨_,Ap5 (by omega)⟩
 have hp:p=#[p0,p1,p2,p3]:=by
  apply Asn
  intro i
  match i with
  | 0=>exact e0
  | 1=>exact e1
  | 2=>exact e2
  | 3=>exact e3
  | i+4=>rw[Asm (by omega)];rfl
 have gt:∀(A:Act) (j:Nat) (v:Value),A.tmps[j]?=some v->A.eval (.tmp j)=v:=fun A j v hv=>by rw[ev,Apn,hv];rfl
 rcases Aky (P:=Vp.prog) (a:=⟨T,[]⟩) (o:=Vp.guards[0]) (i:=0) rfl with⟨k,x,y,v0,r0⟩|r0
 case inr=>exact(Uv hF (ops:=Vp.guards) (i:=0) rfl rfl hk r0 h).elim
 have h:=(M6 hF (ops:=Vp.guards) (i:=0) rfl rfl hk (.inl r0) h).2;have z0:p0=.complex k x y:=by rw[<-v0];exact(gt _ _ _ ((hTk 0 (by decide)).trans e0)).symm
 have hd0:Vp.guards[0].dst=some 76:=rfl;rw[hd0]at h;have s1:(⟨T,[]⟩:Act).put (some 76) (.float k x)=⟨T.setIfInBounds 76 (.float k x),[]⟩:=rfl;rw[s1]at h
 rcases Aoh (P:=Vp.prog) (a:=⟨T.setIfInBounds 76 (.float k x),[]⟩) (o:=Vp.guards[1]) (i:=76) rfl (gt _ 76 (.float k x) (Apa (by omega)))with⟨rfl,v1,r1⟩|r1
 case inr=>exact(Uv hF (ops:=Vp.guards) (i:=1) rfl rfl hk r1 h).elim
 have h:=(M6 hF (ops:=Vp.guards) (i:=1) rfl rfl hk (.inl r1) h).2;have hd1:Vp.guards[1].dst=some 80:=rfl;rw[hd1]at h;have s2:(⟨T.setIfInBounds 76 (.float .f32 x),[]⟩:Act).put (some 80) v1=⟨(T.setIfInBounds 76 (.float .f32 x)).setIfInBounds 80 v1,[]⟩:=rfl;rw[s2]at h;generalize hU:(T.setIfInBounds 76 (.float .f32 x)).setIfInBounds 80 v1=U at h;have hUk:∀j,j<4->U[j]?=T[j]?:=fun j hj=>by rw[<-hU,Ap1 (by omega),Ap1 (by omega)]
 clear hU
 rcases Ahu (P:=Vp.prog) (a:=⟨U,[]⟩) (o:=Vp.guards[2]) (i:=1) rfl with⟨a,va,u2,r2⟩|r2
 case inr=>exact(Uv hF (ops:=Vp.guards) (i:=2) rfl rfl hk r2 h).elim
 have h:=(M6 hF (ops:=Vp.guards) (i:=2) rfl rfl hk (.inl r2) h).2;have hd2:Vp.guards[2].dst=some 77:=rfl;rw[hd2]at h;have s3:(⟨U,[]⟩:Act).put (some 77) u2=⟨U.setIfInBounds 77 u2,[]⟩:=rfl;rw[s3]at h
 rcases Ahu (P:=Vp.prog) (a:=⟨U.setIfInBounds 77 u2,[]⟩) (o:=Vp.guards[3]) (i:=2) rfl with⟨b,vb,u3,r3⟩|r3
 case inr=>exact(Uv hF (ops:=Vp.guards) (i:=3) rfl rfl hk r3 h).elim
 have h:=(M6 hF (ops:=Vp.guards) (i:=3) rfl rfl hk (.inl r3) h).2;have hd3:Vp.guards[3].dst=some 78:=rfl;rw[hd3]at h;have s4:(⟨U.setIfInBounds 77 u2,[]⟩:Act).put (some 78) u3=⟨(U.setIfInBounds 77 u2).setIfInBounds 78 u3,[]⟩:=rfl;rw[s4]at h
 rcases Ahu (P:=Vp.prog) (a:=⟨(U.setIfInBounds 77 u2).setIfInBounds 78 u3,[]⟩) (o:=Vp.guards[4]) (i:=3) rfl with⟨m,vm,u4,r4⟩|r4
 case inr=>exact(Uv hF (ops:=Vp.guards) (i:=4) rfl rfl hk r4 h).elim
 have z1:p1=.int .i64 a:=by rw[<-va];exact(gt _ _ _ ((hUk 1 (by decide)).trans ((hTk 1 (by decide)).trans e1))).symm
 have z2:p2=.int .i64 b:=by rw[<-vb];exact(gt _ _ _ ((Ap1 (by decide)).trans ((hUk 2 (by decide)).trans ((hTk 2 (by decide)).trans e2)))).symm
 have z3:p3=.int .i64 m:=by rw[<-vm];exact(gt _ _ _ ((Ap1 (by decide)).trans ((Ap1 (by decide)).trans ((hUk 3 (by decide)).trans ((hTk 3 (by decide)).trans e3))))).symm
 exact⟨x,y,a,b,m,by rw[hp,z0,z1,z2,z3]⟩
end
namespace Co
open Go.Conc Tl Lr Bar
open Go.ConcN (sumTo)
def Ends (P:Program)(Post:Value->World->Prop)(gs:Array Goroutine)(w:World)(sl:Option (Nat×Nat))(t:Trace):Prop :=
 ∃N last o w' t',runNT P (N+1) (crowd gs w sl) t=(.ended o w',t')/\runN P N (crowd gs w sl)=.next last/\step P last=.ended o w'/\Conc.Good P Post last o w' t'
theorem Ends.ran {P:Program}{Post:Value->World->Prop}{gs gs':Array Goroutine}{w w':World}{sl sl':Option (Nat×Nat)}{t t':Trace}(h:Kn P gs w sl t gs' w' sl' t')(k:Ends P Post gs' w' sl' t'):Ends P Post gs w sl t:=by
 obtain⟨M,h⟩:=h;obtain⟨N,last,o,w1,t1,h1,h2,h3,h4⟩:=k
 refine⟨M+N,last,o,w1,t1,by rw[Nat.add_assoc,runNT_add,h];exact h1,?_,h3,h4⟩
 have e:runNT P (M+N) (crowd gs w sl) t=runNT P N (crowd gs' w' sl') t':=by rw[runNT_add,h]
 rw[<-runNT_fst _ _ _ t,e,runNT_fst]
 exact h2
structure Kept (X:Cx)(m0:Nat)(w0:World)(B:Lk)(w:World):Prop where
 low:∀x y,B x y->¬X.F x->m0<=y
 size:m0<=w.heap.size
 old:∀x,x<m0->w.heap[x]?=w0.heap[x]?
 tape:w.tape=w0.tape
 os:w.os=w0.os/\w.output=w0.output
theorem Kept.at {X:Cx}{m0:Nat}{w0 w:World}{B:Lk}(h:Kept X m0 w0 B w)(d:Nat):Kept X m0 w0 B (w.at d):=⟨h.low,h.size,h.old,h.tape,h.os⟩
theorem Kept.step {X:Cx}{m0:Nat}{w0 w V V1 W1:World}{B B':Lk}{n:Array Event}(h:Kept X m0 w0 B w)(hx:Ext X B V w B' V1 W1)(hd:Did (Gf X B) (L5 X B) w (Gf X B') W1 n):Kept X m0 w0 B' W1 where
 low x y k hf:=(hx.new x y k).elim (fun z=>h.low x y z hf) fun z=>Ap3 h.size z.2
 size:=Ap3 h.size hd.size
 old x k:=(hd.kept x (Ap6 k h.size) fun⟨a,h1,_,hf⟩=>Nat.not_le.2 k (h.low a x h1 hf)).trans (h.old x k)
 tape:=hd.tape.trans h.tape
 os:=⟨hd.os.1.trans h.os.1,hd.os.2.trans h.os.2⟩
def Sim (X:Cx)(P':Program)(m0:Nat)(w0:World)(Post:Value->World->Prop)(x:St):Prop :=
 ∀(B:Lk) (τ:Tape) (d:Nat) (gs:Array Goroutine) (w:World) (sl:Option (Nat×Nat)) (t:Trace) (q:Nat->Nat) (fr':Frame) (cs':List Frame),WR X B (x.at τ d).V w->En X B x.fr fr'->M8 X B x.cs cs'->Hn x.fr x.cs=none->Kept X m0 w0 B w ->
  gs[0]?=some (G fr' cs')->Leavers P' t gs q->Past (fun _=>False) w.heap.size t->Ends P' Post gs w sl t
def Aau (X:Cx)(P P':Program)(F:St->Prop)(m0:Nat)(w0:World)(Post:Value->World->Prop):Prop :=
 ∀(f:FuncId) (p p':Array Value) (c:Frame) (cs:List Frame) (V:World) (B:Lk) (gs:Array Goroutine) (w:World) (sl:Option (Nat×Nat)) (t:Trace) (q:Nat->Nat) (cs':List Frame),X.T f/\X.Ar f p.size->Bar.Way P F ⟨Frame.enter P f p .normal,c :: cs,V⟩ ->(∀y,Bar.Sub P ⟨Frame.enter P f p .normal,c :: cs,V⟩ y->Sim X P' m0 w0 Post y) ->
  Hn (Frame.enter P f p .normal) (c :: cs)=none->Kept X m0 w0 B w->WR X B V w->AR X B p p'->M8 X B (c :: cs) cs'->gs[0]?=some (G (Frame.enter P' f p' .normal) cs')->Leavers P' t gs q->Past (fun _=>False) w.heap.size t->Ends P' Post gs w sl t
section
variable {X : Cx} {P P' : Program} {F : St -> Prop} {m0 : Nat} {w0 : World} {Post : Value -> World -> Prop}
theorem Adl (H:Whole X P P')(hDn:¬X.Dn)(hpart:Aau X P P' F m0 w0 Post)(x:St)(g:Tape->Nat->St)(hg:∀τ d,Go1 P (x.at τ d) (g τ d))(hway:∀τ d,Bar.Way P F (g τ d))(ih:∀τ d y,Bar.Sub P (g τ d) y->Sim X P' m0 w0 Post y):Sim X P' m0 w0 Post x:=by
 intro B τ d gs w sl t q fr' cs' hw hf hc hb hkp h0 hL hP;obtain⟨N5,gs5,d5,sl5,t5,q5,j1,j2,j3,j4,j5,_,d6,sl6,j6⟩:=S9 (P:=P') (sumTo gs.size q) gs w sl t q rfl h0 hL hP;have hw3:WR X B (x.at w.tape d6).V (w.at d6):=A45 hw w.tape d6;have hgo:=hg w.tape d6;have hp:=hgo.Mk;have hd1:=ih w.tape d6;have hd2:=hway w.tape d6;generalize g w.tape d6=z at hgo hd1 hd2;obtain⟨es,hgo⟩:=hgo;obtain⟨c1,c1',fr1',B',W1,n,e1,e2,hx,hw1,hn,hst⟩:=(A0n H hw3 (base:=[wall P]) (base':=[]) hf hc (X8 hp hb) true true).1 _ _ _ _ hgo;obtain rfl:=Ar5 e1;have hbt:=(Un H hw3 (base:=[wall P]) hf hc (X8 hp hb) true _ _ _ _ hgo).trans hb;rw[Ass,Ass]at e2;have hdid:=Zb hw3 hw1 hx hn;have hkp1:=(hkp.at d6).step hx hdid;obtain⟨gs7,ops,i1,i2,i3,i4,i5⟩:=Pz (sl:=sl6) (w:=w.at d6) j3 e2 hdid (fun b ⟨a,h1,_⟩=>hw3.ltW h1) j4 j5
 refine Ends.ran (Kn.trans ⟨N5,j1⟩ (Kn.head (by rw[j6];exact i1) .refl)) ?_
 rcases hst with⟨g1,g2⟩ |⟨f,p,p',k,ht,⟨hk,hne⟩,ef,ef',hpp,hcc⟩
 ·exact hd1 z (.refl z) B' z.V.tape z.V.drawn gs7 W1 sl6 _ q5 fr1' c1' hw1 g1 g2 hbt hkp1 i3 i4 i5
 ·obtain rfl:=hk.resolve_right hDn;obtain⟨zf,zc,zV⟩:=z;dsimp only at ef hne hcc hw1 hbt hd1 hd2;subst ef ef'
  cases zc with
  | nil=>exact absurd rfl hne
  | cons c0 cs0=>exact hpart f p p' c0 cs0 zV B' gs7 W1 sl6 _ q5 c1' ht hd2 hd1 hbt hkp1 hw1 hpp hcc i3 i4 i5
theorem Ag3 (H:Whole X P P'){Q:Value->World->Prop}(hQ:∀v w τ d,Q v w->Q v { w with tape:=τ,drawn:=d })(hpost:∀B V v v' W,Q v V->VR X B v v'->WR X B V W->Kept X m0 w0 B W->Post v' W){x:St}(hx:Fin P Q x)(hm:P'.inits.idxOf? x.fr.fn=none):Sim X P' m0 w0 Post x:=by
 intro B τ d gs w sl t q fr' cs' hw hf hc hb hkp h0 hL hP;obtain⟨h1,v,⟨g1,g2,g3,fn,g4,g5⟩,hq⟩:=hx;obtain rfl:cs'=[]:=by rw[h1]at hc;cases hc;rfl
 have hm':fr'.mode=.returning:=by
  have:=hf.mode;rw[g1]at this;generalize fr'.mode=q at this
  cases this
  rfl
 have hd':fr'.defers=[]:=by
  have:=hf.defers;rw[g2]at this;generalize fr'.defers=q at this
  cases this
  rfl
 have hk':fr'.kind=.normal:=hf.kind.trans g3
 obtain⟨fn',e5,hres⟩:∃fn',P'.funcs[x.fr.fn]?=some fn'/\fn'.results=fn.results:=by
  rcases H.hF.funcs x.fr.fn with⟨e1,e2⟩ |⟨f1,f2,e1,e2,hn,hr,_⟩
  ·rw[g4]at e1;cases e1
  ·rw[g4]at e1;cases e1;exact⟨f2,e2,hr⟩
 refine beside_ends (Shun:=fun _=>False) (B:=w.heap.size) (D:=fun _ _ _=>False) (n:=0) (fun _ _ _ h=>h.elim) h0 hL hP ?_
 rintro w2 ⟨d2,rfl⟩;have hw2:WR X B (x.at w.tape d2).V (w.at d2):=A45 hw w.tape d2
 have g6:=Ik H hw (fr':=fr') hf g4 (fr:=x.fr) (V:=(x.at τ d).V) (v:=v) (by
  have:=Ik H (A45 (τ:=x.V.tape) (d:=x.V.drawn) hw) hf g4 g5 τ d
  exact this) w.tape d2
 have g6:(results fn x.fr.tmps).run P (x.at w.tape d2).V=.ok v (x.at w.tape d2).V:=g6
 rcases Kh (Ip H.hF.toPRel hres hf.tmps) hw2 with⟨a,V1,B1,W1,b,n,e1,e2,hx,hw1,hab,hn⟩ |⟨v,V1,B1,W1,v',n,e1,e2,hx,hw1,hab,hn⟩ |⟨h,V1,e1,hm⟩
 ·rw[g6]at e1;injection e1 with e1 e3
  subst e1 e3
  have hW:W1=w.at d2:=by
   have:=e2 #[];rw[Sem.runT_eq]at this
   exact Ro.results fn' fr'.tmps (w.at d2) b W1 (congrArg Prod.fst this)
  subst hW;have hdid:=Zb hw2 hw1 hx (hn.seen (P':=P') fr'.fn)
  refine⟨rfl,b,seen P' fr'.fn n,?_,fun e he=>Og (hdid.evs e he) hdid.lt fun z ⟨y,hy,_⟩=>hw2.ltW hy,hpost _ _ _ _ _ (hQ _ _ w.tape d2 hq) hab hw1 ((hkp.at d2).step hx hdid)⟩
  rw[Df (by rw[hm'];simp)]
  unfold unwind;rw[hd',hm',hf.fn,e5];dsimp only;rw[e2 #[],Aqu];dsimp only;unfold doReturn;rw[hk'];rw[<-hf.fn]at hm;simp[GStep.after,hm]
 ·rw[g6]at e1;cases e1
 ·rw[g6]at e1;cases e1
theorem sim (H:Whole X P P')(hDn:¬X.Dn){Q:Value->World->Prop}(hpart:Aau X P P' F m0 w0 Post)(hQ:∀v w τ d,Q v w->Q v { w with tape:=τ,drawn:=d })(hF:∀x,F x->Fin P Q x/\P'.inits.idxOf? x.fr.fn=none)(hpost:∀B V v v' W,Q v V->VR X B v v'->WR X B V W->Kept X m0 w0 B W->Post v' W){x:St}(h:Bar.Way P F x):Sim X P' m0 w0 Post x :=
 Agn (fun x h=>Fin.pop (hF x h).1) (fun x h=>Ag3 H hQ hpost (hF x h).1 (hF x h).2) (fun x g hg hw ih=>Adl H hDn hpart x g hg hw ih) h x (.refl x)
theorem Aj4 {XV:Cx}{PV:Program}(HV:Whole XV PV PV)(hT:∀f,¬XV.T f){Q:Value->World->Prop}(hQ:∀v w τ d,Q v w->Q v { w with tape:=τ,drawn:=d }){f:FuncId}{args:Array Value}{V:World}(hj:JL XV ⟨Frame.enter PV f args .normal,[],V⟩)
 (h:∀τ d,Calls PV f args { V with tape:=τ,drawn:=d } (only Q)):Bar.Way PV (fun x=>Fin PV Q x/\x.fr.fn=f) ⟨Frame.enter PV f args .normal,[],V⟩:=by
 have K:Wh PV (fun x=>Fin PV Q x/\x.fr.fn=f) (JL XV):=A2j HV hT fun x τ d hj hx=>⟨A8u HV hQ x τ d hj hx.1,hx.2⟩
 refine bar K hj fun τ d=>?_
 obtain⟨e,w',fr,hr,hs,hf,hl⟩:=h τ d [wall PV]
 cases e with
 | returned v =>
   obtain⟨n,hs⟩:=hs
   exact Yb K (z:=⟨fr,[],w'⟩) ⟨⟨rfl,v,hl,hr⟩,hf⟩ n _ (K.tape _ τ d hj) hs
 | panicked chain=>exact hr.elim
 | outgrown=>exact hr.elim
end
end Co
end Go.Proofs.YtlfleicchbgcmaaGreat
