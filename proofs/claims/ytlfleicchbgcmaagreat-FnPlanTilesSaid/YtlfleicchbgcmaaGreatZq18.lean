import Derived.Test.YtlfleicchbgcmaaGreatZq17
import Derived.Shelf.Abstract
import Derived.Sort.QuietThIn
import Derived.RegionIn
import Derived.Test.YtlfleicchbgcmaaGreatZq0
import Derived.Test.YtlfleicchbgcmaaGreatZqK
set_option linter.all false
set_option maxHeartbeats 16000000
set_option maxRecDepth 100000
namespace Go.Proofs.YtlfleicchbgcmaaGreat
section
open Go.RowKit Flo
attribute [local go_sem] Oper.semAt_some
theorem Yn (P:Program)(w:World)(a:Addr)(m:Mode)(k:FloatKind)(b:Nat):(store a (.float k b) m).run P w=stored P w a (.float k b) m:=run_store P w a _ m rfl
attribute [local go_sem] Yn
theorem Aq.grown {a b:World}(h:Aq a b){row:Option Nat}:a.grownBy b row:=by
 obtain⟨n,rfl⟩:=h
 exact⟨rfl,rfl,rfl,Ai3 _,fun _ _ _=>rfl⟩
theorem Ti (n:Int)(w:World):Calls Vp.prog 109 #[.int .i64 n] w fun e w'=>e=.returned (.int .i64 (Bm n))/\w=w':=by
 go_enter Vp.func109,Tryz.ntmps109
 go_wp2
 all_goals
  go_ret
  exact⟨Lt (by unfold Bm;omega),rfl⟩
theorem Mt (c d g:Nat)(w:World):Calls Vp.prog 112 #[.complex .f32 c d,.func (.func g) #[] #[]] w fun e w'=>e=.returned (.func (.func 132) #[] #[.pointer (some ⟨w.heap.size+1,0,none⟩),.pointer (some ⟨w.heap.size,0,none⟩)]) /\(w.alloc (.cells #[.complex .f32 c d] 23)).alloc (.cells #[.func (.func g) #[] #[]] 135)=w':=by
 go_enter Vp.func112,Tryz.ntmps112
 go_wp2
 go_ret
 exact⟨rfl,rfl⟩
structure Afy (Bc:Nat)(c d:Nat)(k:Nat)(A:World):Prop where
 num:A.heap[Bc]?=some (.cells #[.complex .f32 c d] 23 (0,0))
 stp:A.heap[Bc+1]?=some (.cells #[.func (.func 81) #[] #[]] 135 (0,0))
 ok:∀j,j<k->Qf c d j=true
def Ah6 (c d:Nat)(k:Nat)(v:Array Value):Prop:=∃x y:Nat,v=#[.int .i64 k,.complex .f32 x y]/\x<4294967296/\y<4294967296/\Al .f32 (Er c d k).1 x/\Al .f32 (Er c d k).2 y
theorem A3k (n c d Bc N:Nat)(hn:1<=n)(hN:N<=1048576) :
 A8d Fence.wide n Vp.prog 132 #[.pointer (some ⟨Bc+1,0,none⟩),.pointer (some ⟨Bc,0,none⟩)] (Ah6 c d) (fun _=>False) N (Afy Bc c d):=by
 intro l J Jx W hJb hJg hY hJ0
 refine callsIn_of_wp Vp.func132 rfl trivial ?_ rfl
 simp only[Tryz.ntmps132,Ali,Al8,An4,Nat.reduceAdd,Nat.reduceSub,Ana,An9,List.push_toArray,Ang,Al0,Akg]
 gi_wp2
 gi_loopw [4,5] (fun z i wr=>∃k x y:Nat,k<=N/\i=.int .i64 k/\z=.complex .f32 x y/\x<4294967296/\y<4294967296/\Hid (Al .f32 (Er c d k).1 x/\Al .f32 (Er c d k).2 y)/\J k wr) (fun _ i _=>(N+1-intOf i).toNat)
 case atStart=>exact⟨0,0,0,Aj9 _,rfl,rfl,by omega,by omega,⟨Al.refl _ _,Al.refl _ _⟩,hJ0⟩
 case round =>
  obtain⟨k,x,y,hk,rfl,rfl,hx,hy,HA,hJ⟩:=hrel;obtain⟨fn,tmps,assign,body,hy',hR⟩:=hY k _ wr hk ⟨x,y,rfl,hx,hy,HA.out.1,HA.out.2⟩ hJ
  gi_wp2
  refine hR.mono ?_
  rintro e W3 (⟨rfl,hkN,hJ3⟩ |⟨rfl,hJx⟩)
  ·have K:=hJb _ _ hJ3;have c0:W3.cell? ⟨Bc,0,none⟩=some (.complex .f32 c d):=by rw[Lib.cell_of_heap K.num];rfl
   have c1:W3.cell? ⟨Bc+1,0,none⟩=some (.func (.func 81) #[] #[]):=by rw[Lib.cell_of_heap K.stp];rfl
   have ho:=K.ok k (by omega)
   unfold Qf at ho;have e1:=Al.same HA.out.1 (Qo (Ni ho));have e2:=Al.same HA.out.2 (Qo (Li ho));have HP:Hid ((x,y)=Er c d k):=by show _=_;rw[e1,e2]
   rw[<-e1,<-e2]at ho;have HO:=Ai1 ho;clear ho e1 e2 HA K
   gi_wp2_with (refine⟨trivial,?_⟩;gi_at_call 81;refine(Ajx.2 (Y3 x y c d hx hy HO.out _)).mono ?_;rintro e W4 ⟨⟨a,b,rfl,ha,hb,aa,ab⟩,hd⟩;have HQ:Hid (Al .f32 (Er c d (k+1)).1 a/\Al .f32 (Er c d (k+1)).2 b):=(by rw[HP.out]at aa ab;exact⟨aa,ab⟩);have HJ4:=Ai1 (hJg (k+1) W3 W4 hJ3 hd.grown);clear aa ab hd)
   go_roundw
   case rel=>exact⟨k+1,a,b,by omega,by go_num,rfl,ha,hb,HQ,HJ4.out⟩
   case measure=>simp[intOf];omega
  ·gi_wp2
   go_end0
   exact⟨⟨_,rfl⟩,.inl ⟨k,hk,hJx⟩⟩
theorem Ie {W W':World}{row:Option Nat}{k:Nat}{o:Obj}(hk:W.heap[k]?=some o)(ho:o.isCells=true)(hg:W.grownBy W' row)(hr:∀r,row=some r->∃o:Obj,W.heap[r]?=some o/\o.isCells=false):W'.heap[k]?=some o:=by
 refine(hg.block k (Ai2.1 hk).1 (fun e=>?_)).trans hk
 obtain⟨o',h1,h2⟩:=hr k e.symm;rw[hk]at h1
 cases h1
 rw[ho]at h2
 cases h2
def Ah4 (c d:Nat)(n:Int)(w:World)(e:Ending)(w':World):Prop :=
 (∃(k:Int) (nm:Nat),e=.returned (.tuple #[.int .i64 k,.float .f64 nm])/\I5 (Qf c d) (Bm n) k/\nm<18446744073709551616 /\(0<=k->Al .f64 (Ck (A9 (Er c d k.toNat).1) (A9 (Er c d k.toNat).2)) nm))/\Below w.heap.size w w'
structure Ff (w:World)(c d M k:Nat)(W:World):Prop where
 r0:W.heap[w.heap.size]?=some (.cells #[.int .i64 0] 3 (0,0))
 r1:W.heap[w.heap.size+1]?=some (.cells #[.float .f64 0] 129 (0,0))
 las:W.heap[w.heap.size+1+1]?=some (.cells #[.int .i64 M] 3 (0,0))
 orb:Afy (w.heap.size+1+1+1) c d k W
 old:Below w.heap.size w W
theorem Ff.own {w:World}{c d M B:Nat}(hB:w.heap.size<=B):OwnFrom B (Ff w c d M):=by
 intro k W W' row h hg hr;have hr':∀r,row=some r->∃o:Obj,W.heap[r]?=some o/\o.isCells=false:=fun r e=>(hr r e).2
 exact⟨Ie h.r0 rfl hg hr',Ie h.r1 rfl hg hr',Ie h.las rfl hg hr',⟨Ie h.orb.num rfl hg hr',Ie h.orb.stp rfl hg hr',h.orb.ok⟩,h.old.grown hg h.old.size (fun j e=>Ai5 hB (hr j e).1)⟩
structure Qj (w:World)(c d M k:Nat)(W:World):Prop where
 ex:∃nm:Nat,W.heap[w.heap.size]?=some (.cells #[.int .i64 k] 3 (0,0))/\W.heap[w.heap.size+1]?=some (.cells #[.float .f64 nm] 129 (0,0))/\nm<18446744073709551616/\Al .f64 (Ck (A9 (Er c d k).1) (A9 (Er c d k).2)) nm
 no:Qf c d k=false
 ok:∀j,j<k->Qf c d j=true
 le:k<=M
 old:Below w.heap.size w W
theorem Qj.own {w:World}{c d M B:Nat}(hB:w.heap.size<=B):OwnFrom B (Qj w c d M):=by
 intro k W W' row h hg hr;have hr':∀r,row=some r->∃o:Obj,W.heap[r]?=some o/\o.isCells=false:=fun r e=>(hr r e).2
 obtain⟨⟨nm,a,b,e⟩,h1,h2,h3,h4⟩:=h
 exact⟨⟨nm,Ie a rfl hg hr',Ie b rfl hg hr',e⟩,h1,h2,h3,h4.grown hg h4.size (fun j e=>Ai5 hB (hr j e).1)⟩
theorem Ff.start (w:World)(c d M:Nat):Ff w c d M 0 (((((w.alloc (.cells #[.int .i64 0] 3)).alloc (.cells #[.float .f64 0] 129)).alloc (.cells #[.int .i64 M] 3)).alloc (.cells #[.complex .f32 c d] 23)).alloc (.cells #[.func (.func 81) #[] #[]] 135)):=by
 have new:∀(W:World) (C:Array Value) (t:TypeId),(W.alloc (.cells C t)).heap[W.heap.size]?=some (.cells C t (0,0)):=fun W C t=>World.alloc_heap_new W _
 have Nh:∀(W:World) (C:Array Value) (t:TypeId) (k:Nat) (o:Obj),W.heap[k]?=some o ->(W.alloc (.cells C t)).heap[k]?=some o:=fun W C t k o h=>(Am1 W _ k (Ai2.1 h).1).trans h
 have n0:=new w #[.int .i64 0] 3;have n1:=new (w.alloc (.cells #[.int .i64 0] 3)) #[.float .f64 0] 129;have n2:=new ((w.alloc (.cells #[.int .i64 0] 3)).alloc (.cells #[.float .f64 0] 129)) #[.int .i64 M] 3;have n3:=new (((w.alloc (.cells #[.int .i64 0] 3)).alloc (.cells #[.float .f64 0] 129)).alloc (.cells #[.int .i64 M] 3)) #[.complex .f32 c d] 23;have n4:=new ((((w.alloc (.cells #[.int .i64 0] 3)).alloc (.cells #[.float .f64 0] 129)).alloc (.cells #[.int .i64 M] 3)).alloc (.cells #[.complex .f32 c d] 23)) #[.func (.func 81) #[] #[]] 135;simp only[Aim]at n1 n2 n3 n4
 refine⟨Nh _ _ _ _ _ (Nh _ _ _ _ _ (Nh _ _ _ _ _ (Nh _ _ _ _ _ n0))),Nh _ _ _ _ _ (Nh _ _ _ _ _ (Nh _ _ _ _ _ n1)),Nh _ _ _ _ _ (Nh _ _ _ _ _ n2),⟨Nh _ _ _ _ _ n3,n4,fun j hj=>by omega⟩,?_⟩
 exact(((((Aik _ w).alloc (Ai3 _) _).alloc (by simp) _).alloc (by simp;omega) _).alloc (by simp;omega) _).alloc (by simp;omega) _
def Us (w:World)(c d M:Nat)(cd:Code)(k:Nat)(W:World):Prop:=(cd=Code.exit 0/\k=M+1/\Ff w c d M k W) \/(cd=Code.ret/\Qj w c d M k W)
theorem Us.own {w:World}{c d M B:Nat}(hB:w.heap.size<=B)(cd:Code):OwnFrom B (Us w c d M cd):=by
 intro k W W' row h hg hr
 rcases h with⟨h1,h2,h3⟩ |⟨h1,h3⟩
 ·exact .inl ⟨h1,h2,Ff.own hB k W W' row h3 hg hr⟩
 ·exact .inr ⟨h1,Qj.own hB k W W' row h3 hg hr⟩
theorem Abw (c d:Nat)(n:Int)(w:World):Calls Vp.prog 80 #[.complex .f32 c d,.int .i64 n,.func (.func 81) #[] #[]] w (Ah4 c d n w):=by
 obtain⟨M,hM,hM4⟩:∃M:Nat,Bm n=M/\M<=400:=by
  have:=J1 n
  exact⟨(Bm n).toNat,by omega,by omega⟩
 have HS:=Ai1 (Ti n);rw[hM]at HS;have H0:=Ai1 (Ff.start w c d M);have HM:=Ai1 hM;clear hM
 refine(Ajx (n:=3)).1 ?_
 refine callsIn_of_wp_marks Vp.func80 rfl trivial ?_ rfl
 simp only[Tryz.ntmps80,Ali,Al8,An4,Nat.reduceAdd,Nat.reduceSub,Ana,An9,List.push_toArray,Ang,Al0,Akg]
 gi_wp2_with (first |(refine⟨trivial,?_⟩;gi_at_call 109;refine(Ajx.2 (HS.out _)).mono ?_;rintro e w1 ⟨rfl,rfl⟩) |(refine⟨trivial,?_⟩;gi_at_call 112;refine(Ajx.2 (Mt _ _ _ _)).mono ?_;rintro e w1 ⟨rfl,rfl⟩))
 refine A4j ?_
 gi_wp2_with (first |(refine⟨trivial,?_⟩;gi_at_call 109;refine(Ajx.2 (HS.out _)).mono ?_;rintro e w1 ⟨rfl,rfl⟩) |(refine⟨trivial,?_⟩;gi_at_call 112;refine(Ajx.2 (Mt _ _ _ _)).mono ?_;rintro e w1 ⟨rfl,rfl⟩))
 refine wpIn_label ?_
 gi_wp2_with (first |(refine⟨trivial,?_⟩;gi_at_call 109;refine(Ajx.2 (HS.out _)).mono ?_;rintro e w1 ⟨rfl,rfl⟩) |(refine⟨trivial,?_⟩;gi_at_call 112;refine(Ajx.2 (Mt _ _ _ _)).mono ?_;rintro e w1 ⟨rfl,rfl⟩))
 refine A4i rfl (by decide) (gf:=132) (lb:=#[.pointer (some ⟨w.heap.size+1+1+1+1,0,none⟩),.pointer (some ⟨w.heap.size+1+1+1,0,none⟩)]) ?g0 trivial (enters_of Vp.func132 (by kernel_rfl) rfl)
  (A3k _ c d (w.heap.size+1+1+1) (M+1) (by decide) (by omega)) (fun k v h=>by obtain⟨x,y,rfl,-⟩:=h;rfl) (Ff w c d M) (Us w c d M)
  (Ff.own (by simp;omega)) (Us.own (by simp;omega)) (fun k A h=>h.orb) H0.out
  (fun k v=>{ tmps:=#[.complex .f32 c d,.int .i64 n,.func (.func 81) #[] #[],undef,undef,undef,.pointer (some ⟨w.heap.size,0,none⟩),.pointer (some ⟨w.heap.size+1,0,none⟩),.pointer (some ⟨w.heap.size+1+1,0,none⟩),v.getD 0 undef,v.getD 1 undef,undef,.int .i64 n,.int .i64 M,.complex .f32 c d,.func (.func 81) #[] #[],
   .func (.func 132) #[] #[.pointer (some ⟨w.heap.size+1+1+1+1,0,none⟩),.pointer (some ⟨w.heap.size+1+1+1,0,none⟩)],v.getD 0 undef,v.getD 1 undef,undef,undef,undef,undef,undef,undef,undef,undef,undef,undef,undef],defers:=[] })
  ?assign ?body ?done ?stop
 case g0=>rfl
 case assign =>
  rintro l k v W K ⟨x,y,rfl,-⟩ hK
  gi_wp2
  exact hK
 case body =>
  rintro l k v W hk ⟨x,y,rfl,hx,hy,ax,ay⟩ h;have c0:W.cell? ⟨w.heap.size+1+1,0,none⟩=some (.int .i64 M):=by rw[Lib.cell_of_heap h.las];rfl
  by_cases hkm:k=M+1
  ·subst hkm;have HX:Hid (Us w c d M (Code.exit 0) (M+1) W):=.inl ⟨rfl,rfl,h⟩;clear h ax ay
   gi_wp2
   exact⟨KeepsFrom.refl _ _,HX.out⟩
  ·have hkM:k<=M:=by omega
   have HH:=Ai1 h;have HAX:=Ai1 ax;have HAY:=Ai1 ay;have hk1:((k:Int)<=M):=by omega
   clear h ax ay hkm
   gi_wp2_with fail
   refine⟨trivial,?_⟩
   refine(CallsIn.inRound l (Ajx.2 (Pn x y hx hy W))).mono ?_
   rintro e W2 ⟨⟨p,q,rfl,-,-,ap,aq⟩,hd⟩;have HP:=Ai1 (Sf ap aq);have HD:=Ai1 hd;clear ap aq hd
   gi_wp2_with fail
   refine⟨trivial,?_⟩
   refine(CallsIn.inRound l (Ajx.2 (A0k p q W2))).mono ?_
   rintro e W3 ⟨⟨m,rfl,hm,am⟩,hd⟩;have HD3:=Ai1 (HD.out.trans hd)
   have HN:Hid (Al .f64 (Ck (A9 (Er c d k).1) (A9 (Er c d k).2)) m):=by
    show Al _ _ _
    rw[Lx HAX.out,Lx HAY.out,HP.out];exact am
   clear am hd HD;have I3:=Ff.own (c:=c) (d:=d) (M:=M) (Ai3 _) k W W3 none HH.out HD3.out.grown (fun r e=>by cases e)
   have HK:Hid (S9 m=Qf c d k):=by
    show _=_
    unfold Qf
    exact(A9o HN.out).symm
   have hb:=HK.out;unfold S9 at hb
   have HKF:Hid (∀W' B,w.heap.size+1<B ->(∀j,j≠w.heap.size->j≠w.heap.size+1->W3.heap[j]?=W'.heap[j]?)->W3.heap.size<=W'.heap.size->KeepsFrom B W W'):=fun W' B hB h1 h2=>by
    have hh:=HD3.out.heap
    refine⟨by rw[<-hh];exact h2,fun j o hj ho _=>?_⟩
    rw[<-h1 j (by omega) (by omega),hh];exact ho
   cases ho:Qf c d k with
   | false =>
     rw[ho]at hb;have B0:A8 w w.heap.size #[.int .i64 0] 3 W3:=⟨I3.r0,I3.old⟩;have B1:A8 w (w.heap.size+1) #[.float .f64 0] 129 W3:=⟨I3.r1,I3.old⟩;have c0:=B0.cell 0 _ rfl;have f0:=B0.frozen 0;have c1:=B1.cell 0 _ rfl;have f1:=B1.frozen 0;have D0:=(B0.set (Ai3 _) 0 (.int .i64 k)).other (p:=⟨w.heap.size+1,0,none⟩) (by simp) (by simp) (.float .f64 m)
     have D1:=(B1.other (p:=⟨w.heap.size,0,none⟩) (by simp) (by simp) (.int .i64 k)).set (by simp) 0 (.float .f64 m)
     have HX:Hid (Us w c d M Code.ret k ((W3.setCell ⟨w.heap.size,0,none⟩ (.int .i64 k)).setCell ⟨w.heap.size+1,0,none⟩ (.float .f64 m))):=.inr ⟨rfl,⟨⟨m,D0.blk,D1.blk,hm,HN.out⟩,ho,I3.orb.ok,hkM,D1.old⟩⟩;have HKK:Hid (∀B,w.heap.size+1<B->KeepsFrom B W ((W3.setCell ⟨w.heap.size,0,none⟩ (.int .i64 k)).setCell ⟨w.heap.size+1,0,none⟩ (.float .f64 m))):=fun B hB=>HKF.out _ B hB (fun j h1 h2=>((Aju _ _ _ _ (by simpa using h2)).trans (Aju _ _ _ _ (by simpa using h1))).symm) (by simp)
     have hlt1:=B1.lt;clear ho HK HH I3 B0 B1 D0 D1 HKF
     gi_wp2
     exact⟨HKK.out _ (by simp),HX.out⟩
   | true =>
     rw[ho]at hb
     have HI:Hid (Ff w c d M (k+1) W3):=⟨I3.r0,I3.r1,I3.las,⟨I3.orb.num,I3.orb.stp,fun j hj=>by
      by_cases e:j=k
      ·rw[e];exact ho
      ·exact I3.orb.ok j (by omega)⟩,I3.old⟩
     have HKK:=Ai1 (fun B (hB:w.heap.size+1<B)=>HKF.out W3 B hB (fun _ _ _=>rfl) (Ai3 _))
     clear ho HK HH I3 HKF
     gi_wp2
     exact⟨HKK.out _ (by simp),by omega,HI.out⟩
 case done =>
  intro D k W hD hk hf
  exact hf.elim
 case stop =>
  rintro D cd k W hD hk h hdef
  rcases h with⟨rfl,rfl,h⟩ |⟨rfl,h⟩
  ·have B0:A8 w w.heap.size #[.int .i64 0] 3 W:=⟨h.r0,h.old⟩;have B1:A8 w (w.heap.size+1) #[.float .f64 0] 129 W:=⟨h.r1,h.old⟩;have c0:=B0.cell 0 _ rfl;have f0:=B0.frozen 0;have c1:=B1.cell 0 _ rfl;have f1:=B1.frozen 0;have hlt1:=B1.lt;have D0:=(B0.set (Ai3 _) 0 (.int .i64 (-1))).other (p:=⟨w.heap.size+1,0,none⟩) (by simp) (by simp) (.float .f64 0)
   have D1:=(B1.other (p:=⟨w.heap.size,0,none⟩) (by simp) (by simp) (.int .i64 (-1))).set (by simp) 0 (.float .f64 0)
   have HD0:=Ai1 D0;have HD1:=Ai1 D1;have HO:=Ai1 h.orb.ok;clear h B0 B1 D0 D1
   gi_wp2
   rw[Exit.noGoto_ret];have hDlt:w.heap.size+1<D:=by simp at hD;omega
   have hdef':((W.setCell ⟨w.heap.size,0,none⟩ (.int .i64 (-1))).setCell ⟨w.heap.size+1,0,none⟩ (.float .f64 0)).heap[D]?=some (.deferred (some [])):=((Aju _ _ _ _ (by simp;omega)).trans (Aju _ _ _ _ (by simp;omega))).trans hdef
   have z0:(((W.setCell ⟨w.heap.size,0,none⟩ (.int .i64 (-1))).setCell ⟨w.heap.size+1,0,none⟩ (.float .f64 0)).putObj D (.deferred none)).cell? ⟨w.heap.size,0,none⟩=some (.int .i64 (-1)):=(World.cell?_of_block (World.putObj_heap_other (by simp;omega))).trans (HD0.out.cell 0 _ rfl)
   have z1:(((W.setCell ⟨w.heap.size,0,none⟩ (.int .i64 (-1))).setCell ⟨w.heap.size+1,0,none⟩ (.float .f64 0)).putObj D (.deferred none)).cell? ⟨w.heap.size+1,0,none⟩=some (.float .f64 0):=(World.cell?_of_block (World.putObj_heap_other (by simp;omega))).trans (HD1.out.cell 0 _ rfl)
   refine⟨by simp,.inl ⟨_,_,rfl,run_takeDeferred hdef',?_⟩⟩
   refine⟨.tuple #[.int .i64 (-1),.float .f64 0],by simp[results,Tryz.f80,go_sem,z0,z1],?_⟩
   refine⟨⟨-1,0,rfl,.inr ⟨rfl,fun j hj=>HO.out j (by have:=HM.out;omega)⟩,by omega,fun h=>by omega⟩,?_⟩
   exact HD1.out.old.grown (grownBy_putObj' _ D _) (by have:=HD1.out.old.size;exact this) (fun j e=>by cases e;omega)
  ·obtain⟨⟨nm,b0,b1,hnm,hal⟩,hno,hok,hle,hold⟩:=h;have HB0:Hid (A8 w w.heap.size #[.int .i64 k] 3 W):=⟨b0,hold⟩;have HB1:Hid (A8 w (w.heap.size+1) #[.float .f64 nm] 129 W):=⟨b1,hold⟩;have HE:Hid (I5 (Qf c d) (Bm n) k):=.inl ⟨k,rfl,by have:=HM.out;omega,hno,hok⟩
   have HA:=Ai1 hal;clear b0 b1 hold hal hno hok
   gi_wp2
   rw[Exit.noGoto_ret];have hDlt:w.heap.size+1<D:=by simp at hD;omega
   have z0:(W.putObj D (.deferred none)).cell? ⟨w.heap.size,0,none⟩=some (.int .i64 k):=(World.cell?_of_block (World.putObj_heap_other (by simp;omega))).trans (HB0.out.cell 0 _ rfl)
   have z1:(W.putObj D (.deferred none)).cell? ⟨w.heap.size+1,0,none⟩=some (.float .f64 nm):=(World.cell?_of_block (World.putObj_heap_other (by simp;omega))).trans (HB1.out.cell 0 _ rfl)
   refine⟨by simp,.inl ⟨_,_,rfl,run_takeDeferred hdef,?_⟩⟩
   refine⟨.tuple #[.int .i64 k,.float .f64 nm],by simp[results,Tryz.f80,go_sem,z0,z1],?_⟩
   refine⟨⟨k,nm,rfl,HE.out,hnm,fun _=>by rw[Ajk];exact HA.out⟩,?_⟩
   exact HB1.out.old.grown (grownBy_putObj' _ D _) HB1.out.old.size (fun j e=>by cases e;omega)
def A04 (ok:Nat->Bool)(M:Nat):Int:=match (List.range (M+1)).find? (fun k=>!ok k)with|some k=>k|none=>-1
theorem Abv (ok:Nat->Bool)(M:Nat):I5 ok M (A04 ok M):=by
 unfold A04
 cases h:(List.range (M+1)).find? (fun k=>!ok k)with
 | none =>
   refine .inr ⟨rfl,fun j hj=>?_⟩
   have:=(List.find?_eq_none.1 h) j (Amo.2 (by omega))
   simpa using this
 | some k =>
   have h1:=List.mem_of_find?_eq_some h;have h2:=List.find?_some h;rw[Amo]at h1
   refine .inl ⟨k,rfl,by omega,by simpa using h2,fun j hj=>?_⟩
   obtain⟨_,us,vs,hab,hall⟩:=List.find?_eq_some_iff_append.1 h
   have hl:us.length=k:=by
    have h3:(List.range (M+1))[us.length]?=some k:=by rw[hab];simp
    rw[List.getElem?_range (by
     have:=congrArg List.length hab;simp at this
     omega)]at h3
    injection h3
   have h4:j∈us:=by
    have h5:(List.range (M+1))[j]?=some j:=List.getElem?_range (by omega)
    rw[hab,Aka (by omega)]at h5
    exact Aiu h5
   simpa using hall j h4
theorem I5.num {ok:Nat->Bool}{M:Nat}{r:Int}(h:I5 ok M r):r=A04 ok M:=h.eq (Abv ok M)
theorem I5.A4 {ok:Nat->Bool}{n r:Int}(h:I5 ok (Bm n) r):r=A04 ok (Bm n).toNat:=by
 have hb:=J1 n;have e:Bm n=((Bm n).toNat:Nat):=by omega
 rw[e]at h
 exact h.num
end
section
open Go.RowKit
theorem Aex {x z:Bx}{k:Nat}{p q r s p2 q2 r2 s2:Int}(h1:Ep x k=some z)(h:z.sq=⟨p,q,r,s⟩)(g:(⟨p+x.a,q+x.b,r+x.c,s+x.d⟩:Bx)=⟨p2,q2,r2,s2⟩)(o1:Bg p q r s=true)(o2:Bg p2 q2 r2 s2=true) :
 Ep x (k+1)=some ⟨p2,q2,r2,s2⟩:=by
 show(Ep x k).bind _=_
 rw[h1]
 show Bx.next x z=_
 unfold Bx.next;rw[h,Aij (show Bx.ok ⟨p,q,r,s⟩=true from o1),show Bx.add ⟨p,q,r,s⟩ x=⟨p2,q2,r2,s2⟩from g,Aij (show Bx.ok ⟨p2,q2,r2,s2⟩=true from o2)]
theorem Hb (W:World)(a:Addr)(v:Value):W.grownBy (W.setCell a v) (some a.block) :=
 have h:Below 0 W (W.setCell a v):=(Aik 0 W).setCell (Aj9 _) v
 ⟨h.os,h.tape,h.output,h.size,fun k _ hk=>Aju _ _ _ _ (fun e=>hk (by rw[e]))⟩
theorem Kk {A B C:World}{row:Option Nat}(h:A.grownBy B row)(k:B.grownBy C row):A.grownBy C row :=
 ⟨k.os.trans h.os,k.tape.trans h.tape,k.output.trans h.output,Ai5 h.size k.size,fun j hj hr=>(k.block j (Ai9 hj h.size) hr).trans (h.block j hj hr)⟩
theorem A3s (W:World)(b:Nat)(u0 u1 u2 u3:Value):W.grownBy ((((W.setCell ⟨b,0,none⟩ u0).setCell ⟨b,1,none⟩ u1).setCell ⟨b,2,none⟩ u2).setCell ⟨b,3,none⟩ u3) (some b) :=
 Kk (Kk (Kk (Hb W ⟨b,0,none⟩ u0) (Hb _ ⟨b,1,none⟩ u1)) (Hb _ ⟨b,2,none⟩ u2)) (Hb _ ⟨b,3,none⟩ u3)
theorem A6k {W:World}{b:Nat}{v0 v1 v2 v3:Value}{T:TypeId}(h:W.heap[b]?=some (.cells #[v0,v1,v2,v3] T (0,0)))(u0 u1 u2 u3:Value) :
 ((((W.setCell ⟨b,0,none⟩ u0).setCell ⟨b,1,none⟩ u1).setCell ⟨b,2,none⟩ u2).setCell ⟨b,3,none⟩ u3).heap[b]?=some (.cells #[u0,u1,u2,u3] T (0,0)) :=
 (A8.A07 (w0:={ W with heap:=#[] }) ⟨h,⟨rfl,rfl,rfl,by simp,fun k hk=>by simp at hk⟩⟩ (by simp) u0 u1 u2 u3).blk
theorem Zi (a b c d:Int)(w:World):Calls Vp.prog 110 #[.agg #[.int .i64 a,.int .i64 b,.int .i64 c,.int .i64 d]] w fun e w'=>e=.returned (.func (.func 129) #[] #[.pointer (some ⟨w.heap.size,0,none⟩)])/\w.alloc (.cells #[.int .i64 a,.int .i64 b,.int .i64 c,.int .i64 d] 93)=w':=by
 go_enter Vp.func110,Tryz.ntmps110
 go_wp2
 go_ret
 exact⟨rfl,rfl⟩
def Afx (Bc:Nat)(a b c d:Int)(_:Nat)(A:World):Prop:=A.heap[Bc]?=some (.cells #[.int .i64 a,.int .i64 b,.int .i64 c,.int .i64 d] 93 (0,0))
def Ah5 (x:Bx)(k:Nat)(v:Array Value):Prop:=∃p q r s:Int,v=#[.int .i64 k,.agg #[.int .i64 p,.int .i64 q,.int .i64 r,.int .i64 s]]/\Ep x k=some ⟨p,q,r,s⟩
theorem Zj (n:Nat)(a b c d:Int)(Bc N:Nat)(hv:Bg a b c d=true)(hn:1<=n)(hN:N<=1048576) :
 A8c Fence.wide n Vp.prog 129 #[.pointer (some ⟨Bc,0,none⟩)] (Ah5 ⟨a,b,c,d⟩) (fun k=>Ep ⟨a,b,c,d⟩ k=none) N (Afx Bc a b c d):=by
 intro l J Jx W hl hJb hJg hY hJ0;have HV:=Ai1 hv;clear hv;have hbl:Bc<W.heap.size:=(Ai2.1 (hJb 0 W hJ0)).1;have HJA:Hid (∀k A o,J k A->J k (A.alloc o)):=fun k A o h=>hJg k A _ none h (Ak3 A o none) (fun r e=>by cases e)
 have HJB:Hid (∀k A B,J k A->Below A.heap.size A B->J k B):=fun k A B h hb=>hJg k A B none h (Ma hb none) (fun r e=>by cases e)
 have HJS:Hid (∀k A u0 u1 u2 u3,J k A->J k ((((A.setCell ⟨W.heap.size,0,none⟩ u0).setCell ⟨W.heap.size,1,none⟩ u1).setCell ⟨W.heap.size,2,none⟩ u2).setCell ⟨W.heap.size,3,none⟩ u3)):=fun k A u0 u1 u2 u3 h=>hJg k A _ _ h (A3s A W.heap.size u0 u1 u2 u3) (fun r e=>by cases e;exact Ai3 _)
 refine callsIn_of_wp Vp.func129 rfl trivial ?_ rfl
 simp only[Tryz.ntmps129,Ali,Al8,An4,Nat.reduceAdd,Nat.reduceSub,Ana,An9,List.push_toArray,Ang,Al0,Akg];have hJ1:=HJA.out 0 W (.cells #[.int .i64 0,.int .i64 0,.int .i64 0,.int .i64 0] 93) hJ0;have hZ1:(W.alloc (.cells #[.int .i64 0,.int .i64 0,.int .i64 0,.int .i64 0] 93)).heap[W.heap.size]?=some (.cells #[.int .i64 0,.int .i64 0,.int .i64 0,.int .i64 0] 93 (0,0)):=World.alloc_heap_new W _
 gi_wp2
 gi_loopw [4] (fun i wr=>∃(k:Nat) (p q r s:Int),k<=N/\i=.int .i64 k/\J k wr/\wr.heap[W.heap.size]?=some (.cells #[.int .i64 p,.int .i64 q,.int .i64 r,.int .i64 s] 93 (0,0))/\Hid (Ep ⟨a,b,c,d⟩ k=some ⟨p,q,r,s⟩)) (fun i _=>(N+1-intOf i).toNat)
 case atStart=>exact⟨0,0,0,0,0,Aj9 _,rfl,hJ1,hZ1,rfl⟩
 case round =>
  clear hJ0 hJ1 hZ1;obtain⟨k,p,q,r,s,hk,rfl,hJ,hZ,HO⟩:=hrel;have Z:A8 wr W.heap.size #[.int .i64 p,.int .i64 q,.int .i64 r,.int .i64 s] 93 wr:=⟨hZ,Aik _ _⟩;have z0:=Z.cell 0 _ rfl;have z1:=Z.cell 1 _ rfl;have z2:=Z.cell 2 _ rfl;have z3:=Z.cell 3 _ rfl;have hlt:=Z.lt;clear Z;have hz:Bg p q r s=true:=Ya HO.out;obtain⟨fn,tmps,assign,body,hy',hR⟩:=hY k _ wr hk ⟨p,q,r,s,rfl,HO.out⟩ hJ;have HSQ:=Ai1 (Uc p q r s hz);obtain⟨p1,q1,r1,s1,t1,hx1,hok1,hc1⟩:=Hj (Bx.sq ⟨p,q,r,s⟩);rw[hx1]at HSQ;have HAD:=Ai1 (A36 p1 q1 r1 s1 a b c d hok1 HV.out);obtain⟨p2,q2,r2,s2,t2,hx2,hok2,hc2⟩:=Hj ⟨p1+a,q1+b,r1+c,s1+d⟩;rw[hx2]at HAD;have HC1:=Ai1 hc1;have HC2:=Ai1 hc2;have HO1:=Ai1 hok1;have HO2:=Ai1 hok2;clear hx1 hx2 hok1 hok2 hc1 hc2 hz
  gi_wp2
  refine hR.mono ?_
  rintro e W3 (⟨rfl,hkN,hal,hJ3⟩ |⟨rfl,hJx⟩)
  ·have Z:A8 W3 W.heap.size #[.int .i64 p,.int .i64 q,.int .i64 r,.int .i64 s] 93 W3:=⟨(hal.blk _ (by omega) hlt).trans hZ,Aik _ _⟩
   have X:A8 W3 Bc #[.int .i64 a,.int .i64 b,.int .i64 c,.int .i64 d] 93 W3:=⟨hJb _ _ hJ3,Aik _ _⟩;clear z0 z1 z2 z3 hJ hZ hy' hR hal;have z0:=Z.cell 0 _ rfl;have z1:=Z.cell 1 _ rfl;have z2:=Z.cell 2 _ rfl;have z3:=Z.cell 3 _ rfl;have HJ:=Ai1 hJ3;clear hJ3
   gi_wp2_with fail
   refine⟨trivial,?_⟩
   refine(Ajx.2 (HSQ.out _)).mono ?_
   rintro e w4 ⟨rfl,hb⟩;clear z0 z1 z2 z3;replace X:=X.step hb;replace Z:=Z.step hb;replace HJ:=Ai1 (HJB.out _ _ _ HJ.out hb);clear hb;have S:=(A8.new w4 #[.int .i64 p1,.int .i64 q1,.int .i64 r1,.int .i64 s1] 93).up X.old;replace X:=X.alloc (.cells #[.int .i64 p1,.int .i64 q1,.int .i64 r1,.int .i64 s1] 93);replace Z:=Z.alloc (.cells #[.int .i64 p1,.int .i64 q1,.int .i64 r1,.int .i64 s1] 93);replace HJ:=Ai1 (HJA.out _ _ (.cells #[.int .i64 p1,.int .i64 q1,.int .i64 r1,.int .i64 s1] 93) HJ.out);have y0:=S.cell 0 _ rfl;have y1:=S.cell 1 _ rfl;have y2:=S.cell 2 _ rfl;have y3:=S.cell 3 _ rfl;have x0:=X.cell 0 _ rfl;have x1:=X.cell 1 _ rfl;have x2:=X.cell 2 _ rfl;have x3:=X.cell 3 _ rfl
   cases t1 with
   | false =>
     have HE:Hid (Ep ⟨a,b,c,d⟩ (k+1)=none):=by
      show(Ep ⟨a,b,c,d⟩ k).bind _=none
      rw[HO.out]
      exact Jo (HC1.out.resolve_left (fun h=>by cases h.1)).2
     clear X Z S
     gi_wp2
     exact Ai6 (results_none rfl _ _ _) rfl ⟨⟨_,rfl⟩,.inr ⟨k+1,by omega,HE.out,HJ.out⟩⟩
   | true =>
     gi_wp2_with fail
     refine⟨trivial,?_⟩
     refine(Ajx.2 (HAD.out _)).mono ?_
     rintro e w5 ⟨rfl,hb⟩;clear x0 x1 x2 x3 y0 y1 y2 y3 S X;replace Z:=Z.step hb;replace HJ:=Ai1 (HJB.out _ _ _ HJ.out hb);clear hb;have Nn:=(A8.new w5 #[.int .i64 p2,.int .i64 q2,.int .i64 r2,.int .i64 s2] 93).up Z.old;replace Z:=Z.alloc (.cells #[.int .i64 p2,.int .i64 q2,.int .i64 r2,.int .i64 s2] 93);replace HJ:=Ai1 (HJA.out _ _ (.cells #[.int .i64 p2,.int .i64 q2,.int .i64 r2,.int .i64 s2] 93) HJ.out)
     cases t2 with
     | false =>
       have HE:Hid (Ep ⟨a,b,c,d⟩ (k+1)=none):=by
        show(Ep ⟨a,b,c,d⟩ k).bind _=none
        rw[HO.out]
        exact Jp (HC1.out.resolve_right (fun h=>by cases h.1)).2 (HC2.out.resolve_left (fun h=>by cases h.1)).2
       clear Z Nn
       gi_wp2
       exact Ai6 (results_none rfl _ _ _) rfl ⟨⟨_,rfl⟩,.inr ⟨k+1,by omega,HE.out,HJ.out⟩⟩
     | true =>
       have HI2:Hid (Ep ⟨a,b,c,d⟩ (k+1)=some ⟨p2,q2,r2,s2⟩):=Aex HO.out (HC1.out.resolve_right (fun h=>by cases h.1)).2 (HC2.out.resolve_right (fun h=>by cases h.1)).2 HO1.out HO2.out
       have n0:=Nn.cell 0 _ rfl;have n1:=Nn.cell 1 _ rfl;have n2:=Nn.cell 2 _ rfl;have n3:=Nn.cell 3 _ rfl;have z0:=Z.cell 0 _ rfl;have z1:=Z.cell 1 _ rfl;have z2:=Z.cell 2 _ rfl;have z3:=Z.cell 3 _ rfl;have f0:=Z.frozen 0;have f1:=Z.frozen 1;have f2:=Z.frozen 2;have f3:=Z.frozen 3;have HZZ:=Ai1 Z.blk;clear Z Nn
       gi_wp2
       go_roundw
       case rel=>exact⟨k+1,p2,q2,r2,s2,by omega,by go_num,HJS.out _ _ _ _ _ _ HJ.out,A6k HZZ.out _ _ _ _,HI2⟩
       case measure=>simp[intOf];omega
  ·gi_wp2
   go_end0
   exact⟨⟨_,rfl⟩,.inl ⟨k,hk,hJx⟩⟩
end
section
open Go.RowKit
attribute [local go_sem] Oper.semAt_some
structure Ja (w:World)(lb:Nat)(a b c d:Int)(M k:Nat)(W:World):Prop where
 las:W.heap[lb]?=some (.cells #[.int .i64 M] 3 (0,0))
 par:∃y:Int,W.heap[lb+1]?=some (.cells #[.int .i64 y] 3 (0,0))
 who:W.heap[lb+1+1]?=some (.cells #[.int .i64 (-1)] 3 (0,0))
 orb:Afx (lb+1+1+1) a b c d k W
 no:∀i,i<k->M4 ⟨a,b,c,d⟩ i=false
 old:Below w.heap.size w W
theorem Lh {W W':World}{row:Option Nat}{B k:Nat}{o:Obj}(hk:W.heap[k]?=some o)(hg:W.grownBy W' row)(hr:∀r,row=some r->B<=r)(hB:k<B):W'.heap[k]?=some o :=
 (hg.block k (Ai2.1 hk).1 (fun e=>by have:=hr k e.symm;omega)).trans hk
theorem Ja.own {w:World}{lb:Nat}{a b c d:Int}{M B:Nat}(hl:w.heap.size<=lb)(hB:lb+1+1+1<B):Xb B (Ja w lb a b c d M):=by
 intro k W W' row h hg hr;obtain⟨y,hp⟩:=h.par
 exact⟨Lh h.las hg hr (by omega),⟨y,Lh hp hg hr (by omega)⟩,Lh h.who hg hr (by omega),Lh h.orb hg hr hB,h.no,h.old.grown hg h.old.size (fun j e=>by have:=hr j e;omega)⟩
theorem Ja.start {w w1:World}(hb:Below w.heap.size w w1)(a b c d:Int)(M:Nat):Ja w w1.heap.size a b c d M 0 ((((w1.alloc (.cells #[.int .i64 M] 3)).alloc (.cells #[.int .i64 (-1)] 3)).alloc (.cells #[.int .i64 (-1)] 3)).alloc (.cells #[.int .i64 a,.int .i64 b,.int .i64 c,.int .i64 d] 93)):=by
 have new:∀(W:World) (C:Array Value) (t:TypeId),(W.alloc (.cells C t)).heap[W.heap.size]?=some (.cells C t (0,0)):=fun W C t=>World.alloc_heap_new W _
 have Nh:∀(W:World) (C:Array Value) (t:TypeId) (k:Nat) (o:Obj),W.heap[k]?=some o ->(W.alloc (.cells C t)).heap[k]?=some o:=fun W C t k o h=>(Am1 W _ k (Ai2.1 h).1).trans h
 have n0:=new w1 #[.int .i64 M] 3;have n1:=new (w1.alloc (.cells #[.int .i64 M] 3)) #[.int .i64 (-1)] 3;have n2:=new ((w1.alloc (.cells #[.int .i64 M] 3)).alloc (.cells #[.int .i64 (-1)] 3)) #[.int .i64 (-1)] 3;have n3:=new (((w1.alloc (.cells #[.int .i64 M] 3)).alloc (.cells #[.int .i64 (-1)] 3)).alloc (.cells #[.int .i64 (-1)] 3)) #[.int .i64 a,.int .i64 b,.int .i64 c,.int .i64 d] 93;simp only[Aim]at n1 n2 n3
 refine⟨Nh _ _ _ _ _ (Nh _ _ _ _ _ (Nh _ _ _ _ _ n0)),⟨-1,Nh _ _ _ _ _ (Nh _ _ _ _ _ n1)⟩,Nh _ _ _ _ _ n2,n3,fun j hj=>by omega,?_⟩
 have:=hb.size
 exact(((hb.alloc this _).alloc (by simp;omega) _).alloc (by simp;omega) _).alloc (by simp;omega) _
structure Afw (w:World)(lb:Nat)(x:Bx)(M:Nat)(W:World):Prop where
 res:∃y z:Int,W.heap[lb+1]?=some (.cells #[.int .i64 y] 3 (0,0))/\W.heap[lb+1+1]?=some (.cells #[.int .i64 z] 3 (0,0))/\De x M z
 old:Below w.heap.size w W
def N6 (w:World)(lb:Nat)(x:Bx)(M:Nat)(cd:Code)(_:Nat)(W:World):Prop:=cd=Code.exit 0/\Afw w lb x M W
theorem N6.own {w:World}{lb:Nat}{x:Bx}{M B:Nat}(hl:w.heap.size<=lb)(hB:lb+1+1+1<B)(cd:Code):OwnFrom B (N6 w lb x M cd):=by
 rintro k W W' row ⟨h0,⟨y,z,h1,h2,h3⟩,h4⟩ hg hr;have hr:=fun r e=>(hr r e).1
 exact⟨h0,⟨y,z,Lh h1 hg hr (by omega),Lh h2 hg hr (by omega),h3⟩,h4.grown hg h4.size (fun j e=>by have:=hr j e;omega)⟩
def Abf (w:World)(lb:Nat)(a b c d n:Int)(M:Nat)(k:Nat)(_:Array Value)(a₁:Act)(W:World):Prop :=
 ∃(tb:Nat) (p q r s:Int),a₁={ tmps:=#[.agg #[.int .i64 a,.int .i64 b,.int .i64 c,.int .i64 d],.int .i64 n,.pointer (some ⟨w.heap.size,0,none⟩),undef,.int .i64 0,.int .i64 0,.bool false,.pointer (some ⟨lb,0,none⟩),.pointer (some ⟨lb+1,0,none⟩),.pointer (some ⟨lb+1+1,0,none⟩),.int .i64 k,.pointer (some ⟨tb,0,none⟩),undef,.agg #[.int .i64 a,.int .i64 b,.int .i64 c,.int .i64 d],.bool true,.bool false,.int .i64 n,.int .i64 M,.agg #[.int .i64 a,.int .i64 b,.int .i64 c,.int .i64 d],.func (.func 129) #[] #[.pointer (some ⟨lb+1+1+1,0,none⟩)],.int .i64 k,.agg #[.int .i64 p,.int .i64 q,.int .i64 r,.int .i64 s],undef,undef,undef,undef,undef,undef,undef,undef,undef,undef,undef,undef,undef,undef,undef,undef,undef,undef,undef,undef],defers:=[] }/\lb+1+1+1<tb/\W.heap[tb]?=some (.cells #[.int .i64 p,.int .i64 q,.int .i64 r,.int .i64 s] 93 (0,0))/\Ep ⟨a,b,c,d⟩ k=some ⟨p,q,r,s⟩/\Ja w lb a b c d M k W
theorem Abf.own {w:World}{lb:Nat}{a b c d n:Int}{M B:Nat}(hl:w.heap.size<=lb)(hB:lb+1+1+1<B)(v:Array Value)(a₁:Act):OwnFrom B (fun k W=>Abf w lb a b c d n M k v a₁ W):=by
 rintro k W W' row ⟨tb,p,q,r,s,h1,h2,h3,h4,h5⟩ hg hr
 exact⟨tb,p,q,r,s,h1,h2,Ie h3 rfl hg (fun r e=>(hr r e).2),h4,(Ja.own hl hB).from k W W' row h5 hg hr⟩
theorem U5 (a b c d n:Int)(hv:Bg a b c d=true)(w:World):Calls Vp.prog 79 #[.agg #[.int .i64 a,.int .i64 b,.int .i64 c,.int .i64 d],.int .i64 n] w fun e w'=>(∃(x y:Int),e=.returned (.tuple #[.int .i64 x,.int .i64 y,.bool true])/\De ⟨a,b,c,d⟩ (Bm n).toNat y)/\Below w.heap.size w w':=by
 obtain⟨M,hM,hM4⟩:∃M:Nat,Bm n=M/\M<=400:=by
  have:=J1 n
  exact⟨(Bm n).toNat,by omega,by omega⟩
 have HMM:Hid ((Bm n).toNat=M):=by show(Bm n).toNat=M;omega
 rw[HMM.out];have HS:=Ai1 (Ti n);rw[hM]at HS;have HVA:=Ai1 (Eh a b c d);rw[hv]at HVA;have HV:=Ai1 hv;clear hM HMM hv;have X:=A8.new w #[.int .i64 a,.int .i64 b,.int .i64 c,.int .i64 d] 93;have x0:=X.cell 0 _ rfl;have x1:=X.cell 1 _ rfl;have x2:=X.cell 2 _ rfl;have x3:=X.cell 3 _ rfl
 refine(Ajx (n:=3)).1 ?_
 refine callsIn_of_wp_marks Vp.func79 rfl trivial ?_ rfl
 simp only[Tryz.ntmps79,Ali,Al8,An4,Nat.reduceAdd,Nat.reduceSub,Ana,An9,List.push_toArray,Ang,Al0,Akg]
 gi_wp2_with fail
 refine⟨trivial,?_⟩
 refine(Ajx.2 (HVA.out _)).mono ?_
 rintro e w1 ⟨rfl,hb⟩;clear x0 x1 x2 x3;replace X:=X.step hb;clear hb
 gi_wp2_with fail
 refine⟨trivial,?_⟩
 refine(Ajx.2 (HS.out _)).mono ?_
 rintro e w2 ⟨rfl,rfl⟩;obtain⟨lb,hlb⟩:∃lb,w1.heap.size=lb:=⟨_,rfl⟩;have hbw:=X.old;have hXl:w.heap.size<=lb:=by have:=hbw.size;omega
 replace X:=((X.alloc (.cells #[.int .i64 M] 3)).alloc (.cells #[.int .i64 (-1)] 3)).alloc (.cells #[.int .i64 (-1)] 3);have x0:=X.cell 0 _ rfl;have x1:=X.cell 1 _ rfl;have x2:=X.cell 2 _ rfl;have x3:=X.cell 3 _ rfl
 gi_wp2_with fail
 refine⟨trivial,?_⟩
 refine(Ajx.2 (Zi a b c d _)).mono ?_
 rintro e w2 ⟨rfl,rfl⟩;have H0:=Ai1 (Ja.start hbw a b c d M);rw[hlb]at H0;clear x0 x1 x2 x3 X
 gi_wp2_with fail
 refine A4h rfl (by decide) (gf:=129) (lb:=#[.pointer (some ⟨lb+1+1+1,0,none⟩)]) ?g0 trivial (enters_of Vp.func129 (by kernel_rfl) rfl)
  (Zj _ a b c d (lb+1+1+1) (M+1) HV.out (by decide) (by omega)) (fun k v h=>by obtain⟨p,q,r,s,rfl,-⟩:=h;rfl) (Ja w lb a b c d M) (N6 w lb ⟨a,b,c,d⟩ M)
  (Ja.own hXl (by simp[hlb])) (N6.own hXl (by simp[hlb])) (fun k A h=>h.orb) H0.out (Abf w lb a b c d n M) (Abf.own hXl (by simp[hlb]))
  ?assign ?body ?done ?stop
 case g0=>rfl
 case assign =>
  rintro l k v W K hk ⟨p,q,r,s,rfl,ho⟩ h hK;have HK:=Ai1 hK;have HH:=Ai1 h;have HO:=Ai1 ho;clear h ho hK
  gi_wp2
  refine HK.out _ _ ?_ ⟨W.heap.size,p,q,r,s,rfl,?_,World.alloc_heap_new W _,HO.out,?_⟩
  ·exact Ce.grown (Ak3 W _ none) (fun r e=>by cases e)
  ·exact(Ai2.1 HH.out.orb).1
  ·exact(Ja.own hXl (Amy _)) k W _ none HH.out (Ak3 W _ none) (fun r e=>by cases e)
 case body =>
  rintro l k v a₁ W hk-⟨tb,p,q,r,s,rfl,htb,hT,ho,h⟩;obtain⟨y,hp⟩:=h.par;have B0:A8 w lb #[.int .i64 M] 3 W:=⟨h.las,h.old⟩;have c0:=B0.cell 0 _ rfl;clear B0
  by_cases hkm:k=M+1
  ·subst hkm;have HX:Hid (N6 w lb ⟨a,b,c,d⟩ M (Code.exit 0) (M+1) W):=⟨rfl,⟨y,-1,hp,h.who,De.full (by omega) h.no⟩,h.old⟩
   clear h hp hT ho
   gi_wp2
   exact⟨Ce.refl _ _,HX.out⟩
  ·have hkM:k<=M:=by omega
   have hk1:((k:Int)<=M):=by omega
   clear hkm;have hz:Bg p q r s=true:=Ya ho;have hzB:=Bx.bd (x:=⟨p,q,r,s⟩) hz;dsimp only at hzB;obtain⟨g1,g2,g3,g4,g5,g6⟩:=hzB;have HSP:=Ai1 (F9 p q r s);have HNO:=Ai1 (Wo p q r s (by omega) (by omega) (by omega) (by omega) (by omega) (by omega) (by omega) (by omega))
   obtain⟨lo,elo⟩:∃x,nLo ⟨p,q,r,s⟩=x:=⟨_,rfl⟩;obtain⟨hi,ehi⟩:∃x,nHi ⟨p,q,r,s⟩=x:=⟨_,rfl⟩;rw[elo,ehi]at HNO;have ELO:=Ai1 elo;clear elo ehi hz g1 g2 g3 g4 g5 g6;have HO:=Ai1 ho;have T7:A8 w tb #[.int .i64 p,.int .i64 q,.int .i64 r,.int .i64 s] 93 W:=⟨hT,h.old⟩;have t0:=T7.cell 0 _ rfl;have t1:=T7.cell 1 _ rfl;have t2:=T7.cell 2 _ rfl;have t3:=T7.cell 3 _ rfl;clear T7 hT ho hp;have HH:=Ai1 h;clear h
   gi_wp2_with fail
   refine⟨trivial,?_⟩
   refine(CallsIn.inRound l (Ajx.2 (HSP.out W))).mono ?_
   rintro e W2 ⟨rfl,hb2⟩
   gi_wp2_with fail
   refine⟨trivial,?_⟩
   refine(CallsIn.inRound l (Ajx.2 (HNO.out W2))).mono ?_
   rintro e W3 ⟨rfl,hb3⟩;have hb:=hb2.trans (hb3.mono hb2.size);have hI:=Ja.own hXl (Amy _) k W W3 none HH.out (Ma hb none) (fun r e=>by cases e)
   have hlt3:=(Ai2.1 hI.orb).1;have hJ:=hI;have hal:Ce (lb+1+1+1) W W3:=Ce.Aw hb;have HAL:=Ai1 hal;clear t0 t1 t2 t3 c0 hb2 hb3 hb HH hal;obtain⟨y,hp⟩:=hJ.par;have U:A8 w W3.heap.size #[.int .i64 lo,.int .i64 hi] 156 (W3.alloc (.cells #[.int .i64 lo,.int .i64 hi] 156)):=(A8.new W3 _ _).up hI.old;have B1:A8 w (lb+1) #[.int .i64 y] 3 W3:=⟨hp,hJ.old⟩;have B2:A8 w (lb+1+1) #[.int .i64 (-1)] 3 W3:=⟨hJ.who,hJ.old⟩;have hsz:W3.heap.size <(W3.alloc (.cells #[.int .i64 lo,.int .i64 hi] 156)).heap.size:=U.lt;have hne1:lb+1<W3.heap.size:=by omega
   have hne2:lb+1+1<W3.heap.size:=by omega
   have u0:=U.cell 0 _ rfl;have u1:=U.cell 1 _ rfl;have y0:=B1.cell 0 _ rfl;have f1:=B1.frozen 0;have f2:=B2.frozen 0;have z0:=B2.cell 0 _ rfl;have U':=A8.new (W3.setCell ⟨lb+1,0,none⟩ (.int .i64 k)) #[.int .i64 lo,.int .i64 hi] 156;simp only[World.size_setCell]at U';have v0:=U'.cell 0 _ rfl;have v1:=U'.cell 1 _ rfl;clear U B1 B2 U' hI hp;have HJ:=Ai1 hJ;clear hJ
   have HS1:Hid (∀W',Ja w lb a b c d M k W'->Ja w lb a b c d M k (W'.setCell ⟨lb+1,0,none⟩ (.int .i64 k))):=fun W' h=>by
    obtain⟨y',hy'⟩:=h.par;have hB:A8 w (lb+1) #[.int .i64 y'] 3 W':=⟨hy',h.old⟩
    refine⟨(Aju _ _ _ _ (by simp<;>omega)).trans h.las,⟨k,(hB.set (by omega) 0 (.int .i64 k)).blk⟩,(Aju _ _ _ _ (by simp<;>omega)).trans h.who,(Aju _ _ _ _ (by simp<;>omega)).trans h.orb,h.no,h.old.setCell (p:=⟨lb+1,0,none⟩) (by simp;omega) _⟩
   have HS2:Hid (∀W',Ja w lb a b c d M k W' ->(1125899906842624:Int)<lo->N6 w lb ⟨a,b,c,d⟩ M (Code.exit 0) k (W'.setCell ⟨lb+1+1,0,none⟩ (.int .i64 k))):=fun W' h hlo=>by
    obtain⟨y',hy'⟩:=h.par;have hB:A8 w (lb+1+1) #[.int .i64 (-1)] 3 W':=⟨h.who,h.old⟩
    exact⟨rfl,⟨y',k,(Aju _ _ _ _ (by simp<;>omega)).trans hy',(hB.set (by omega) 0 (.int .i64 k)).blk,De.hit hkM HO.out (by rw[ELO.out];exact hlo)⟩,h.old.setCell (p:=⟨lb+1+1,0,none⟩) (by simp;omega) _⟩
   have HS3:Hid (∀W',Ja w lb a b c d M k W'->¬(1125899906842624:Int)<lo->Ja w lb a b c d M (k+1) W'):=fun W' h hlo=>by
    refine⟨h.las,h.par,h.who,h.orb,fun i hi=>?_,h.old⟩
    by_cases e:i=k
    ·rw[e];exact Yb HO.out (by rw[ELO.out];exact hlo)
    ·exact h.no i (by omega)
   have HA1:Hid (∀(W':World) (v:Value),Ce (lb+1+1+1) W' (W'.setCell ⟨lb+1,0,none⟩ v)):=fun W' v=>Ce.grown (Hb W' _ v) (fun r e=>by cases e;show lb+1<_;omega)
   have HA2:Hid (∀(W':World) (v:Value),Ce (lb+1+1+1) W' (W'.setCell ⟨lb+1+1,0,none⟩ v)):=fun W' v=>Ce.grown (Hb W' _ v) (fun r e=>by cases e;show lb+1+1<_;omega)
   have HKA:Hid (∀k W' o,Ja w lb a b c d M k W'->Ja w lb a b c d M k (W'.alloc o)):=fun k W' o h=>Ja.own hXl (Amy _) k W' _ none h (Ak3 W' _ none) (fun r e=>by cases e)
   have HXA:Hid (∀k W' o,N6 w lb ⟨a,b,c,d⟩ M (Code.exit 0) k W'->N6 w lb ⟨a,b,c,d⟩ M (Code.exit 0) k (W'.alloc o)):=fun k W' o h=>N6.own hXl (Amy _) _ k W' _ none h (Ak3 W' _ none) (fun r e=>by cases e)
   have HA0:Hid (∀(W':World) (o:Obj),Ce (lb+1+1+1) W' (W'.alloc o)):=fun W' o=>Ce.grown (Ak3 W' _ none) (fun r e=>by cases e)
   by_cases hlo:(1125899906842624:Int)<lo
   ·have HLO:=Ai1 hlo
    by_cases hy:y<0
    ·by_cases hh:(1125899906842624:Int)<hi
     ·gi_wp2
      exact⟨(((HAL.out.trans (HA1.out _ _)).trans (HA2.out _ _)).trans (HA0.out _ _)).up (by simp[hlb]),HXA.out _ _ _ (HS2.out _ (HS1.out _ HJ.out) HLO.out)⟩
     ·gi_wp2
      exact⟨((HAL.out.trans (HA2.out _ _)).trans (HA0.out _ _)).up (by simp[hlb]),HXA.out _ _ _ (HS2.out _ HJ.out HLO.out)⟩
    ·gi_wp2
     exact⟨((HAL.out.trans (HA2.out _ _)).trans (HA0.out _ _)).up (by simp[hlb]),HXA.out _ _ _ (HS2.out _ HJ.out HLO.out)⟩
   ·have HLO:=Ai1 hlo
    by_cases hy:y<0
    ·by_cases hh:(1125899906842624:Int)<hi
     ·gi_wp2
      exact⟨((HAL.out.trans (HA1.out _ _)).trans (HA0.out _ _)).up (by simp[hlb]),by omega,HKA.out _ _ _ (HS3.out _ (HS1.out _ HJ.out) HLO.out)⟩
     ·gi_wp2
      exact⟨(HAL.out.trans (HA0.out _ _)).up (by simp[hlb]),by omega,HKA.out _ _ _ (HS3.out _ HJ.out HLO.out)⟩
    ·gi_wp2
     exact⟨(HAL.out.trans (HA0.out _ _)).up (by simp[hlb]),by omega,HKA.out _ _ _ (HS3.out _ HJ.out HLO.out)⟩
 case done =>
  intro D k W hD hk hf h hdef;obtain⟨y,hp⟩:=h.par
  have HL:Hid (Afw w lb ⟨a,b,c,d⟩ M W):=⟨⟨y,-1,hp,h.who,.inr ⟨A4g fun i _=>by
   rcases Alv i k with g|g
   ·exact h.no i g
   ·exact A14 hf i g,rfl⟩⟩,h.old⟩
  clear h hp;obtain⟨⟨y,z,h1,h2,h3⟩,h4⟩:=HL.out;have B1:A8 w (lb+1) #[.int .i64 y] 3 W:=⟨h1,h4⟩;have B2:A8 w (lb+1+1) #[.int .i64 z] 3 W:=⟨h2,h4⟩;have y0:=B1.cell 0 _ rfl;have z0:=B2.cell 0 _ rfl;have HE:=Ai1 h3;have HO:=Ai1 h4;clear HL h1 h2 h3 h4 B1 B2
  gi_wp2
  gi_region
  all_goals gi_wp2
  all_goals
   refine⟨by simp,.inl ⟨_,_,rfl,run_takeDeferred (by first|exact hdef|exact(Aq.refl _).drew.heap▸hdef),?_⟩⟩
   refine⟨.tuple #[.int .i64 y,.int .i64 z,.bool true],by simp[results,Tryz.f79,go_sem],?_⟩
   exact⟨⟨y,z,rfl,HE.out⟩,(HO.out.trans ((Aq.refl W).drew.below _)).grown (row:=some D) (grownBy_putObj' _ D _) HO.out.size (fun j e=>by injection e with e;simp[hlb]at hD;omega)⟩
 case stop =>
  rintro D cd k W hD hk ⟨rfl,h⟩ hdef;have HL:=Ai1 h;clear h;obtain⟨⟨y,z,h1,h2,h3⟩,h4⟩:=HL.out;have B1:A8 w (lb+1) #[.int .i64 y] 3 W:=⟨h1,h4⟩;have B2:A8 w (lb+1+1) #[.int .i64 z] 3 W:=⟨h2,h4⟩;have y0:=B1.cell 0 _ rfl;have z0:=B2.cell 0 _ rfl;have HE:=Ai1 h3;have HO:=Ai1 h4;clear HL h1 h2 h3 h4 B1 B2
  gi_wp2
  gi_region
  all_goals gi_wp2
  all_goals
   refine⟨by simp,.inl ⟨_,_,rfl,run_takeDeferred (by first|exact hdef|exact(Aq.refl _).drew.heap▸hdef),?_⟩⟩
   refine⟨.tuple #[.int .i64 y,.int .i64 z,.bool true],by simp[results,Tryz.f79,go_sem],?_⟩
   exact⟨⟨y,z,rfl,HE.out⟩,(HO.out.trans ((Aq.refl W).drew.below _)).grown (row:=some D) (grownBy_putObj' _ D _) HO.out.size (fun j e=>by injection e with e;simp[hlb]at hD;omega)⟩
end
section
open Go.RowKit
theorem A0i (a b c d n:Int)(hv:Bg a b c d=true)(w:World):Calls Vp.prog 57 #[.agg #[.int .i64 a,.int .i64 b,.int .i64 c,.int .i64 d],.int .i64 n] w fun e w'=>e=.returned (.tuple #[.int .i64 (stB ⟨a,b,c,d⟩ (Bm n).toNat),.bool true])/\Below w.heap.size w w':=by
 have HCA:=Ai1 (A0h a b c d hv);have HDI:=Ai1 (A0j a b c d hv);have HES:=Ai1 (U5 a b c d n hv);have HST:Hid (∀S,stB ⟨a,b,c,d⟩ (Bm n).toNat=S->S=if Ke ⟨a,b,c,d⟩<=0\/Ki ⟨a,b,c,d⟩<=0 then 1 else if whB ⟨a,b,c,d⟩ (Bm n).toNat=true then -1 else 0):=fun S h=>h.symm
 obtain⟨S,hS⟩:∃S,stB ⟨a,b,c,d⟩ (Bm n).toNat=S:=⟨_,rfl⟩;have HS:=Ai1 (HST.out S hS);rw[hS];clear hS HST hv;generalize Ke ⟨a,b,c,d⟩=x at *;generalize Ki ⟨a,b,c,d⟩=y at *;have X:=A8.new w #[.int .i64 a,.int .i64 b,.int .i64 c,.int .i64 d] 93;have x0:=X.cell 0 _ rfl;have x1:=X.cell 1 _ rfl;have x2:=X.cell 2 _ rfl;have x3:=X.cell 3 _ rfl
 go_enter Vp.func57,Tryz.ntmps57
 go_wp2_with fail
 refine(HCA.out _).mono ?_
 rintro e w1 ⟨rfl,hb⟩;clear x0 x1 x2 x3;replace X:=X.step hb;clear hb;have x0:=X.cell 0 _ rfl;have x1:=X.cell 1 _ rfl;have x2:=X.cell 2 _ rfl;have x3:=X.cell 3 _ rfl
 go_wp2_with fail
 refine(HDI.out _).mono ?_
 rintro e w2 ⟨rfl,hb⟩;clear x0 x1 x2 x3;replace X:=X.step hb;clear hb;have hs:=HS.out
 by_cases hx:x<=0
 ·rw[Aij (.inl hx)]at hs;subst hs;have HB:=Ai1 X.old;clear X
  go_wp2
  exact Ai6 (v:=.tuple #[.int .i64 1,.bool true]) (by simp[results,Tryz.f57,go_sem]) rfl ⟨rfl,HB.out⟩
 ·by_cases hy:y<=0
  ·rw[Aij (.inr hy)]at hs;subst hs;have HB:=Ai1 X.old;clear X
   go_wp2
   exact Ai6 (v:=.tuple #[.int .i64 1,.bool true]) (by simp[results,Tryz.f57,go_sem]) rfl ⟨rfl,HB.out⟩
  ·rw[Aid (by omega)]at hs
   have x0:=X.cell 0 _ rfl;have x1:=X.cell 1 _ rfl;have x2:=X.cell 2 _ rfl;have x3:=X.cell 3 _ rfl;have hs':=Ai1 hs;clear hs
   go_wp2_with fail
   refine(HES.out _).mono ?_
   rintro e w3 ⟨⟨u,k,rfl,hk⟩,hb⟩;have HK:=Ai1 hk;clear hk;have HB:=Ai1 (X.step hb).old;clear x0 x1 x2 x3 X hb;have hs:=hs'.out;clear hs'
   by_cases hk:k=-1
   ·rw[Aid (by rcases HK.out with h|h;· omega
               ·rw[h.1];simp)]at hs
    subst hs
    go_wp2
    exact Ai6 (v:=.tuple #[.int .i64 0,.bool true]) (by simp[results,Tryz.f57,go_sem]) rfl ⟨rfl,HB.out⟩
   ·rw[Aij (by rcases HK.out with h|h;· exact h.1
               ·omega)]at hs
    subst hs
    go_wp2
    exact Ai6 (v:=.tuple #[.int .i64 (-1),.bool true]) (by simp[results,Tryz.f57,go_sem]) rfl ⟨rfl,HB.out⟩
end
end Go.Proofs.YtlfleicchbgcmaaGreat
section
namespace Go.Proofs.YtlfleicchbgcmaaGreat
namespace Flo
open Ieee
theorem Acj {f:Format}{s:Bool}{mag:Nat}{place:Int}{a b:Nat}{T U:Int}(hT:Oe f T)(hU:Oe f U)(hp:place-f.leastPlace=(a:Int)-b)
 (h1:T *(2^b:Nat) <=(if s then -(mag:Int)else mag) *(2^a:Nat)) (h2:(if s then -(mag:Int)else mag) *(2^a:Nat)<=U *(2^b:Nat)) :
 Cu f (f.nearest s mag place) (iv f (f.nearest s mag place))/\T<=iv f (f.nearest s mag place)/\iv f (f.nearest s mag place)<=U:=by
 obtain⟨rt,ht,et⟩:=hT;obtain⟨ru,hu,eu⟩:=hU;have hb:(0:Int) <(2^b:Nat):=by have:=Aib b;omega
 have hm:(0:Int) <=(mag:Int) *(2^a:Nat):=Ak0 (Alz _) (Alz _)
 cases s with
 | false =>
   simp only[Aj8,Alx]at h1 h2
   have hU0:0<=U:=by
    rcases Akj U 0 with h|h
    ·have:=Int.mul_neg_of_neg_of_pos h hb;omega
    ·exact h
   have hu2:mag*2^a<=rv f ru*2^b:=by
    rw[eu];have e:(U.natAbs:Int)=U:=by omega
    have:((mag*2^a:Nat):Int) <=((U.natAbs*2^b:Nat):Int):=by rw[Aj3,Aj3,e];exact h2
    exact Int.ofNat_le.1 this
   have r1:=Yj (neg:=false) hp hu2;have hw:=Nj f false (rnd f false mag place) (by omega)
   rw[D9];have hv:iv f (f.word false (rnd f false mag place))=(rv f (rnd f false mag place):Int):=by rw[hw.2];rfl
   refine⟨⟨by rw[<-D9];exact Format.nearest_lt _ _ _ _,hw.1,rfl⟩,?_,?_⟩
   ·rw[hv]
    rcases Akj 0 T with h|h
    ·have ht2:rv f rt*2^b<=mag*2^a:=by
      rw[et];have e:(T.natAbs:Int)=T:=by omega
      have:((T.natAbs*2^b:Nat):Int) <=((mag*2^a:Nat):Int):=by rw[Aj3,Aj3,e];exact h1
      exact Int.ofNat_le.1 this
     have:=Lu f (Yi (neg:=false) (Aku ht) hp ht2)
     omega
    ·omega
   ·rw[hv];have:=Lu f r1
    omega
 | true =>
   simp only[Amg]at h1 h2;rw[Alr]at h1 h2
   have hT0:T<=0:=by
    rcases Akj 0 T with h|h
    ·have:=Int.mul_pos h hb;omega
    ·exact h
   have ht2:mag*2^a<=rv f rt*2^b:=by
    rw[et];have e:(T.natAbs:Int)=-T:=by omega
    have:((mag*2^a:Nat):Int) <=((T.natAbs*2^b:Nat):Int):=by rw[Aj3,Aj3,e,Alr];omega
    exact Int.ofNat_le.1 this
   have r1:=Yj (neg:=true) hp ht2;have hw:=Nj f true (rnd f true mag place) (by omega)
   rw[D9];have hv:iv f (f.word true (rnd f true mag place))=-(rv f (rnd f true mag place):Int):=by rw[hw.2];rfl
   refine⟨⟨by rw[<-D9];exact Format.nearest_lt _ _ _ _,hw.1,rfl⟩,?_,?_⟩
   ·rw[hv];have:=Lu f r1
    omega
   ·rw[hv]
    rcases Akj U 0 with h|h
    ·have hu2:rv f ru*2^b<=mag*2^a:=by
      rw[eu];have e:(U.natAbs:Int)=-U:=by omega
      have:((U.natAbs*2^b:Nat):Int) <=((mag*2^a:Nat):Int):=by rw[Aj3,Aj3,e,Alr];omega
      exact Int.ofNat_le.1 this
     have:=Lu f (Yi (neg:=true) (Aku hu) hp hu2)
     omega
    ·omega
theorem Pd {f:Format}{x y:Nat}{a b T U:Int}(hx:Cu f x a)(hy:Cu f y b)(hT:Oe f T)(hU:Oe f U)(h1:T<=a+b)(h2:a+b<=U) :
 ∃z,f.add x y=some z/\Cu f z (iv f z)/\T<=iv f z/\iv f z<=U:=by
 unfold Format.add;rw[Ax hx.fin,Ax hy.fin];have hi:signed (Ht f x) (rm f (Ae f x)) (re f (Ae f x))=a:=(Du f x).trans hx.iv;have hj:signed (Ht f y) (rm f (Ae f y)) (re f (Ae f y))=b:=(Du f y).trans hy.iv;generalize Ht f x=s at *;generalize Ht f y=t at *;generalize rm f (Ae f x)=m at *;generalize rm f (Ae f y)=n at *;generalize re f (Ae f x)=i at *;generalize re f (Ae f y)=j at *;simp only[Datum.sum,Akw,Format.write]
 refine⟨_,rfl,?_⟩
 obtain⟨c,hc⟩:∃c:Nat,min (f.leastPlace +(i:Int)) (f.leastPlace +(j:Int))=f.leastPlace+c:=⟨min i j,by omega⟩
 rw[hc];obtain⟨i',hi'⟩:∃i',i=i'+c:=⟨i-c,by omega⟩
 obtain⟨j',hj'⟩:∃j',j=j'+c:=⟨j-c,by omega⟩
 have e1:(f.leastPlace +(i:Int)-(f.leastPlace+c)).toNat=i':=by omega
 have e2:(f.leastPlace +(j:Int)-(f.leastPlace+c)).toNat=j':=by omega
 rw[e1,e2];rw[hi',Cc]at hi;rw[hj',Cc]at hj;generalize signed s m i'=p at *;generalize signed t n j'=q at *;have hsum:(p+q) *(2^c:Nat)=a+b:=by rw[Alg,hi,hj]
 have hsg:(if(if p+q=0 then s && t else decide (p+q<0))then -((p+q).natAbs:Int)else((p+q).natAbs:Int))=p+q:=by
  by_cases h0:p+q=0
  ·rw[h0];simp
  ·rw[Aid h0]
   by_cases hn:p+q<0
   ·rw[Aip hn,Aij rfl];omega
   ·rw[Aj0 hn,Aid (by decide)];omega
 refine Acj (a:=c) (b:=0) hT hU (by omega) ?_ ?_
 ·rw[hsg,hsum];simpa using h1
 ·rw[hsg,hsum];simpa using h2
end Flo
end Go.Proofs.YtlfleicchbgcmaaGreat
end
namespace Go.Proofs.YtlfleicchbgcmaaGreat
namespace Flo
open Go.RowKit Ieee
structure Bd (B:Nat)(x:Nat):Prop where
 val:Cu single x (iv single x)
 le:(iv single x).natAbs<=B*2^u32
theorem Bd.nan {B x:Nat}(h:Bd B x):Flo.nan .f32 x=false:=Yz (k:=.f32) h.val
theorem Sd {z B sR:Nat}(hr:sR<single.infRung)(hB:rv single sR=B*2^u32)(hz:Cu double z (iv double z))(hb:(iv double z).natAbs<=B*2^u64) :
 ∃u,floatToFloatBits .f64 z .f32=some u/\Bd B u:=by
 have hd:=Cr hz
 have hn:=Ms (f:=single) (s:=Ht double z) (mag:=rm double (Ae double z)) (place:=double.leastPlace+re double (Ae double z)) (r:=sR) (a:=re double (Ae double z)) (b:=Gj) hr (by rw[H8,Gw,Mz];omega) (by
  rw[hB,<-hd];have:B*2^u32*2^Gj=B*2^u64:=by rw[Aiy,<-Ail,show u32+Gj=u64 from rfl]
  rw[this];exact hb)
 unfold floatToFloatBits;rw[Aid (by decide)]
 have hdec:FloatKind.decode .f64 z=.number (Ht double z) (rm double (Ae double z)) (double.leastPlace+re double (Ae double z)):=Ax hz.fin;rw[hdec];have hni:(FloatKind.decode .f32 (FloatKind.encode .f32 (.number (Ht double z) (rm double (Ae double z)) (double.leastPlace+re double (Ae double z))))).isInfinity=false:=Yy (k:=.f32) hn.1;simp only[hni]
 exact⟨_,rfl,⟨hn.1,by rw[<-hB];exact hn.2⟩⟩
theorem Ad3 {x y:Nat}(hx:x<4294967296)(hy:y<4294967296)(h:S9 (Ck (A9 x) (A9 y))=true) :
 Bd 5 (Bz (K7 (A9 x) (A9 y)))/\Bd 5 (Bz (K6 (A9 x) (A9 y))):=by
 have hnar:∀{z:Nat},Cu double z (iv double z) ->(iv double z).natAbs<=5*2^u64->Bd 5 (Bz z):=fun hv hb=>by
  obtain⟨u,hu,hbd⟩:=Sd Ru Ve hv hb;unfold Bz;rw[hu];exact hbd
 have vx:Cu single x (iv single x):=⟨hx,Ni h,rfl⟩;have vy:Cu single y (iv single y):=⟨hy,Li h,rfl⟩;obtain⟨X,eX,vX⟩:=Dj vx;obtain⟨Y,eY,vY⟩:=Dj vy;have wx:A9 x=X:=by unfold A9;rw[eX];rfl
 have wy:A9 y=Y:=by unfold A9;rw[eY];rfl
 rw[wx,wy]at h ⊢;have pxx:=Gh vx vx vX vX;have pyy:=Gh vy vy vY vY;have pxy:=Gh vx vy vX vY;have eK:(5*2^u64:Nat)=5*2^Qe*2^Hz:=by rw[Aiy,<-Ail,show Qe+Hz=u64 from rfl]
 have hsum:iv single x*iv single x+iv single y*iv single y <((5*2^Qe:Nat):Int):=by
  rcases Akj (iv single x*iv single x+iv single y*iv single y) ((5*2^Qe:Nat):Int)with h1|h1
  ·exact h1
  ·exfalso
   have:=Zd pxx pyy (by
    rw[eK,<-Alg,Aj3 (5*2^Qe)]
    exact Al4 h1 (Alz _))
   unfold Ck at h;rw[this]at h;cases h
 have sx:0<=iv single x*iv single x:=sq_pos _;have sy:0<=iv single y*iv single y:=sq_pos _;have h2:0 <=(iv single x-iv single y) *(iv single x-iv single y):=sq_pos _;have h3:0 <=(iv single x+iv single y) *(iv single x+iv single y):=sq_pos _
 have e2:(iv single x-iv single y) *(iv single x-iv single y)=iv single x*iv single x+iv single y*iv single y-2 *(iv single x*iv single y):=by
  rw[Int.sub_mul,Int.mul_sub,Int.mul_sub,Ajq (iv single y) (iv single x)];omega
 have e3:(iv single x+iv single y) *(iv single x+iv single y)=iv single x*iv single x+iv single y*iv single y+2 *(iv single x*iv single y):=by
  rw[Alg,Int.mul_add,Int.mul_add,Ajq (iv single y) (iv single x)];omega
 rw[e2]at h2;rw[e3]at h3;clear e2 e3;generalize iv single x*iv single x=A at *;generalize iv single y*iv single y=B at *;generalize iv single x*iv single y=C at *
 have bd:∀T:Int,T.natAbs<=5*2^Qe ->(T *(2^Hz:Nat)).natAbs<=5*2^u64:=by
  intro T hT;rw[Ais,Aih,eK]
  exact Ai7 _ hT
 constructor
 ·obtain⟨z,hz,hv,hb⟩:=Ab4 (r:=r5) pxx pyy Rt (by
   rw[Jl,<-Int.sub_mul]
   exact bd _ (by generalize (2:Nat)^298=U at *;omega))
  rw[Jl]at hb
  have e:K7 X Y=z:=by
   unfold K7 Da;unfold Da at hz;rw[show floatBits .sub .f64 ((floatBits .mul .f64 X X).getD (No .f64)) ((floatBits .mul .f64 Y Y).getD (No .f64))=some z from hz];rfl
  rw[e]
  exact hnar hv hb
 ·have two:Cu double 4611686018427387904 ((2:Int) *(2^u64:Nat)):=by
   refine⟨by decide,by unfold fin;decide,?_⟩
   unfold iv;rw[Aid (by decide)]
   have:rv double (Ae double 4611686018427387904)=2*2^u64:=by kernel_rfl
   rw[this];simp
  have hrep:Oe double (2 *(C *(2^Hz:Nat))):=by
   exact A5k pxy (by have:=bd (2*C) (by generalize (2:Nat)^298=U at *;omega);rw[Ajs]at this;exact this)
  obtain⟨z,hz,hv⟩:=Gx (f:=double) (c:=2 *(C *(2^Hz:Nat))) Ci two pxy (by rw[Int.mul_right_comm]) hrep
  have e:K6 X Y=z:=by
   unfold K6
   show(floatBits .mul .f64 4611686018427387904 (Da .mul .f64 X Y)).getD _=z
   rw[show floatBits .mul .f64 4611686018427387904 (Da .mul .f64 X Y)=some z from hz];rfl
  rw[e]
  refine hnar (by rw[hv.iv];exact hv) ?_
  rw[hv.iv];have:=bd (2*C) (by generalize (2:Nat)^298=U at *;omega)
  rw[Ajs]at this
  exact this
theorem Adt:Oe single ((16*2^u32:Nat):Int):=Yh (m:=1) (e:=u32+4) (by rw[Aih,Nat.one_mul,Ail,Aj7]) (by rw[Br];decide) (by decide) (by decide)
theorem Oe.neg {f:Format}{v:Int}(h:Oe f v):Oe f (-v):=by
 obtain⟨r,h1,h2⟩:=h
 exact⟨r,h1,by rw[Int.natAbs_neg];exact h2⟩
theorem A8j {x c:Nat}(hx:Bd 5 x)(hc:Bd 8 c):Bd 16 (Da .add .f32 x c):=by
 have h1:=hx.le;have h2:=hc.le;have hp:=Aib u32;obtain⟨z,hz,hv,g1,g2⟩:=Pd hx.val hc.val Adt.neg Adt (by generalize 2^u32=U at *;omega) (by generalize 2^u32=U at *;omega)
 have e:Da .add .f32 x c=z:=by unfold Da;rw[show floatBits .add .f32 x c=some z from hz];rfl
 rw[e]
 exact⟨hv,by generalize 2^u32=U at *;omega⟩
theorem A4q:Bd 16 0:=by
 have h:Cu single 0 0:=⟨by decide,by unfold fin;decide,by decide⟩
 exact⟨by rw[h.iv];exact h,by rw[h.iv];exact Aj9 _⟩
theorem A9z {c d:Nat}(hc:Bd 8 c)(hd:Bd 8 d){k:Nat}(h:∀j,j<k->Qf c d j=true):Bd 16 (Er c d k).1/\Bd 16 (Er c d k).2:=by
 cases k with
 | zero=>exact⟨A4q,A4q⟩
 | succ k =>
   have ho:=h k (by omega)
   unfold Qf at ho;obtain⟨h1,h2⟩:=Ad3 (Qt c d k).1 (Qt c d k).2 ho
   exact⟨A8j h1 hc,A8j h2 hd⟩
def Agr:Nat:=1140850688
theorem Agq:rv single Agr=512*2^u32:=by kernel_rfl
theorem Aee:Agr<single.infRung:=by decide
theorem Aaa:Oe double ((512*2^u64:Nat):Int):=Yh (m:=1) (e:=u64+9) (by rw[Aih,Nat.one_mul,Ail,Aj7]) (by rw[Am];decide) (by decide) (by decide)
theorem A5a {x y:Nat}(hx:Bd 16 x)(hy:Bd 16 y):∃m u,Ck (A9 x) (A9 y)=m/\Flo.nan .f64 m=false/\floatToFloatBits .f64 m .f32=some u/\Flo.nan .f32 u=false:=by
 obtain⟨X,eX,vX⟩:=Dj hx.val;obtain⟨Y,eY,vY⟩:=Dj hy.val;have wx:A9 x=X:=by unfold A9;rw[eX];rfl
 have wy:A9 y=Y:=by unfold A9;rw[eY];rfl
 rw[wx,wy];have pxx:=Gh hx.val hx.val vX vX;have pyy:=Gh hy.val hy.val vY vY
 have eK:(256*2^u64:Nat)=16*2^u32 *(16*2^u32)*2^Hz:=by
  have:2^u64=2^u32*2^u32*2^Hz:=by rw[<-Ail,<-Ail,show u32+u32+Hz=u64 from rfl]
  rw[this];generalize 2^u32=U;generalize 2^Hz=K;rw[show 16*U *(16*U)=256 *(U*U)from by rw[Nat.mul_mul_mul_comm]]
  rw[Aiy 256]
 have sq:∀a:Int,a.natAbs<=16*2^u32 ->(a*a *(2^Hz:Nat)).natAbs<=256*2^u64:=fun a ha=>by
  rw[Ais,Ais,Aih,eK]
  exact Ai7 _ (Ajm ha ha)
 have b1:=sq _ hx.le;have b2:=sq _ hy.le;obtain⟨z,hz,hv,g1,g2⟩:=Pd pxx pyy Aaa.neg Aaa (by generalize 2^u64=U at *;omega) (by generalize 2^u64=U at *;omega)
 have e:Ck X Y=z:=by
  unfold Ck
  show(floatBits .add .f64 (Da .mul .f64 X X) (Da .mul .f64 Y Y)).getD _=z
  rw[show floatBits .add .f64 (Da .mul .f64 X X) (Da .mul .f64 Y Y)=some z from hz];rfl
 obtain⟨u,hu,hb⟩:=Sd Aee Agq hv (by generalize 2^u64=U at *;omega)
 exact⟨z,u,e,Yz (k:=.f64) hv,hu,hb.nan⟩
theorem A96:∃s m e,FloatKind.f32.format.read 1082130432=.number s (m+1) e:=⟨false,8388607,-21,by decide +kernel⟩
theorem A8k {x y:Nat}{v:Int}(hx:Cu single x v)(hy:Flo.nan .f32 y=false):∃r,floatBits .add .f32 x y=some r:=by
 show ∃r,single.add x y=some r
 unfold Format.add;rw[Ax hx.fin];unfold Flo.nan FloatKind.decode at hy;have hy:(single.read y).isNaN=false:=hy
 cases h:single.read y with
 | nan _ _=>rw[h]at hy;cases hy
 | infinity t=>exact⟨_,rfl⟩
 | number t n j=>exact⟨_,rfl⟩
def smK (k:Int)(u:Nat):Nat:=Da .add .f32 (floatOfInt .f32 k) (Da .quo .f32 1082130432 u)
theorem A1t {k:Int}{u:Nat}(hk:k.natAbs<=400)(hu:Flo.nan .f32 u=false):floatBits .quo .f32 1082130432 u=some (Da .quo .f32 1082130432 u)/\floatBits .add .f32 (floatOfInt .f32 k) (Da .quo .f32 1082130432 u)=some (smK k u):=by
 obtain⟨q,hq,hqn⟩:=A3n A96 hu;have e:Da .quo .f32 1082130432 u=q:=by unfold Da;rw[hq];rfl
 have hi:=Df (k:=.f32) (l:=149) (by decide) k (by show k.natAbs<2*single.binade;rw[Br];omega) (by decide)
 obtain⟨r,hr⟩:=A8k hi hqn
 refine⟨by rw[e];exact hq,?_⟩
 unfold smK Da;rw[show floatBits .quo .f32 1082130432 u=some q from hq]
 show floatBits .add .f32 (floatOfInt .f32 k) q=some ((floatBits .add .f32 (floatOfInt .f32 k) q).getD _)
 rw[hr];rfl
end Flo
end Go.Proofs.YtlfleicchbgcmaaGreat
