import Derived.Test.YtjaehldnlamgkaaGreatDoorXe22
import Derived.Shelf.Abstract
import Derived.Test.YtjaehldnlamgkaaGreatDoorXe0
import Derived.Test.YtjaehldnlamgkaaGreatDoorXeK
set_option linter.all false
set_option maxHeartbeats 16000000
set_option maxRecDepth 100000
namespace Go.Proofs.YtjaehldnlamgkaaGreatDoor
section
open Go.RowKit Flo
attribute [local go_sem] Oper.semAt_some
theorem Yr (P:Program)(w:World)(a:Addr)(m:Mode)(k:FloatKind)(b:Nat):(store a (.float k b) m).run P w=stored P w a (.float k b) m:=run_store P w a _ m rfl
attribute [local go_sem] Yr
theorem Bp.grown {a b:World}(h:Bp a b){row:Option Nat}:a.grownBy b row:=by
 obtain⟨n,rfl⟩:=h
 exact⟨rfl,rfl,rfl,Am0 _,fun _ _ _=>rfl⟩
theorem Ms (n:Int)(w:World):Calls Vp.prog 75 #[.int .i64 n] w fun e w'=>e=.returned (.int .i64 (Aj n))/\w=w':=by
 go_enter Vp.func75,Tryz.ntmps75
 go_wp2
 all_goals
  go_ret
  exact⟨Hf (by unfold Aj;omega),rfl⟩
theorem Mg (c d g:Nat)(w:World):Calls Vp.prog 80 #[.complex .f32 c d,.func (.func g) #[] #[]] w fun e w'=>e=.returned (.func (.func 125) #[] #[.pointer (some ⟨w.heap.size+1,0,none⟩),.pointer (some ⟨w.heap.size,0,none⟩)]) /\(w.alloc (.cells #[.complex .f32 c d] 35)).alloc (.cells #[.func (.func g) #[] #[]] 83)=w':=by
 go_enter Vp.func80,Tryz.ntmps80
 go_wp2
 go_ret
 exact⟨rfl,rfl⟩
structure Aj9 (Bc:Nat)(c d:Nat)(k:Nat)(A:World):Prop where
 num:A.heap[Bc]?=some (.cells #[.complex .f32 c d] 35 (0,0))
 stp:A.heap[Bc+1]?=some (.cells #[.func (.func 40) #[] #[]] 83 (0,0))
 ok:∀j,j<k->Nj c d j=true
def Al5 (c d:Nat)(k:Nat)(v:Array Value):Prop:=∃x y:Nat,v=#[.int .i64 k,.complex .f32 x y]/\x<4294967296/\y<4294967296/\Al .f32 (E8 c d k).1 x/\Al .f32 (E8 c d k).2 y
theorem A4i (n c d Bc N:Nat)(hn:1<=n)(hN:N<=1048576) :
 A3b Fence.wide n Vp.prog 125 #[.pointer (some ⟨Bc+1,0,none⟩),.pointer (some ⟨Bc,0,none⟩)] (Al5 c d) (fun _=>False) N (Aj9 Bc c d):=by
 intro l J Jx W hJb hJg hY hJ0
 refine callsIn_of_wp Vp.func125 rfl trivial ?_ rfl
 simp only[Tryz.ntmps125,Aoh,Ann,Aou,Nat.reduceAdd,Nat.reduceSub,Aph,Aos,Aq1,Apo,Ant,An9]
 gi_wp2
 gi_loopw [4,5] (fun z i wr=>∃k x y:Nat,k<=N/\i=.int .i64 k/\z=.complex .f32 x y/\x<4294967296/\y<4294967296/\Hid (Al .f32 (E8 c d k).1 x/\Al .f32 (E8 c d k).2 y)/\J k wr) (fun _ i _=>(N+1-intOf i).toNat)
 case atStart=>exact⟨0,0,0,Amu _,rfl,rfl,by omega,by omega,⟨Al.refl _ _,Al.refl _ _⟩,hJ0⟩
 case round =>
  obtain⟨k,x,y,hk,rfl,rfl,hx,hy,HA,hJ⟩:=hrel;obtain⟨fn,tmps,assign,body,hy',hR⟩:=hY k _ wr hk ⟨x,y,rfl,hx,hy,HA.out.1,HA.out.2⟩ hJ
  gi_wp2
  refine hR.mono ?_
  rintro e W3 (⟨rfl,hkN,hJ3⟩ |⟨rfl,hJx⟩)
  ·have K:=hJb _ _ hJ3;have c0:W3.cell? ⟨Bc,0,none⟩=some (.complex .f32 c d):=by rw[Amb K.num];rfl
   have c1:W3.cell? ⟨Bc+1,0,none⟩=some (.func (.func 40) #[] #[]):=by rw[Amb K.stp];rfl
   have ho:=K.ok k (by omega)
   unfold Nj at ho;have e1:=Al.same HA.out.1 (R1 (Nb ho));have e2:=Al.same HA.out.2 (R1 (Kn ho));have HP:Hid ((x,y)=E8 c d k):=by show _=_;rw[e1,e2]
   rw[<-e1,<-e2]at ho;have HO:=Aly ho;clear ho e1 e2 HA K
   gi_wp2_with (refine⟨trivial,?_⟩;gi_at_call 40;refine(An1.2 (Y6 x y c d hx hy HO.out _)).mono ?_;rintro e W4 ⟨⟨a,b,rfl,ha,hb,aa,ab⟩,hd⟩;have HQ:Hid (Al .f32 (E8 c d (k+1)).1 a/\Al .f32 (E8 c d (k+1)).2 b):=(by rw[HP.out]at aa ab;exact⟨aa,ab⟩);have HJ4:=Aly (hJg (k+1) W3 W4 hJ3 hd.grown);clear aa ab hd)
   go_roundw
   case rel=>exact⟨k+1,a,b,by omega,by go_num,rfl,ha,hb,HQ,HJ4.out⟩
   case measure=>simp[intOf];omega
  ·gi_wp2
   go_end0
   exact⟨⟨_,rfl⟩,.inl ⟨k,hk,hJx⟩⟩
theorem D7 {W W':World}{row:Option Nat}{k:Nat}{o:Obj}(hk:W.heap[k]?=some o)(ho:o.isCells=true)(hg:W.grownBy W' row)(hr:∀r,row=some r->∃o:Obj,W.heap[r]?=some o/\o.isCells=false):W'.heap[k]?=some o:=by
 refine(hg.block k (Alx.1 hk).1 (fun e=>?_)).trans hk
 obtain⟨o',h1,h2⟩:=hr k e.symm;rw[hk]at h1
 cases h1
 rw[ho]at h2
 cases h2
def Al2 (c d:Nat)(n:Int)(w:World)(e:Ending)(w':World):Prop :=
 (∃(k:Int) (nm:Nat),e=.returned (.tuple #[.int .i64 k,.float .f64 nm])/\G3 (Nj c d) (Aj n) k/\nm<18446744073709551616 /\(0<=k->Al .f64 (Bj (A5 (E8 c d k.toNat).1) (A5 (E8 c d k.toNat).2)) nm))/\Below w.heap.size w w'
structure El (w:World)(c d M k:Nat)(W:World):Prop where
 r0:W.heap[w.heap.size]?=some (.cells #[.int .i64 0] 3 (0,0))
 r1:W.heap[w.heap.size+1]?=some (.cells #[.float .f64 0] 57 (0,0))
 las:W.heap[w.heap.size+1+1]?=some (.cells #[.int .i64 M] 3 (0,0))
 Q2:Aj9 (w.heap.size+1+1+1) c d k W
 old:Below w.heap.size w W
theorem El.own {w:World}{c d M B:Nat}(hB:w.heap.size<=B):OwnFrom B (El w c d M):=by
 intro k W W' row h hg hr;have hr':∀r,row=some r->∃o:Obj,W.heap[r]?=some o/\o.isCells=false:=fun r e=>(hr r e).2
 exact⟨D7 h.r0 rfl hg hr',D7 h.r1 rfl hg hr',D7 h.las rfl hg hr',⟨D7 h.Q2.num rfl hg hr',D7 h.Q2.stp rfl hg hr',h.Q2.ok⟩,h.old.grown hg h.old.size (fun j e=>Am1 hB (hr j e).1)⟩
structure Qu (w:World)(c d M k:Nat)(W:World):Prop where
 ex:∃nm:Nat,W.heap[w.heap.size]?=some (.cells #[.int .i64 k] 3 (0,0))/\W.heap[w.heap.size+1]?=some (.cells #[.float .f64 nm] 57 (0,0))/\nm<18446744073709551616/\Al .f64 (Bj (A5 (E8 c d k).1) (A5 (E8 c d k).2)) nm
 no:Nj c d k=false
 ok:∀j,j<k->Nj c d j=true
 le:k<=M
 old:Below w.heap.size w W
theorem Qu.own {w:World}{c d M B:Nat}(hB:w.heap.size<=B):OwnFrom B (Qu w c d M):=by
 intro k W W' row h hg hr;have hr':∀r,row=some r->∃o:Obj,W.heap[r]?=some o/\o.isCells=false:=fun r e=>(hr r e).2
 obtain⟨⟨nm,a,b,e⟩,h1,h2,h3,h4⟩:=h
 exact⟨⟨nm,D7 a rfl hg hr',D7 b rfl hg hr',e⟩,h1,h2,h3,h4.grown hg h4.size (fun j e=>Am1 hB (hr j e).1)⟩
theorem El.start (w:World)(c d M:Nat):El w c d M 0 (((((w.alloc (.cells #[.int .i64 0] 3)).alloc (.cells #[.float .f64 0] 57)).alloc (.cells #[.int .i64 M] 3)).alloc (.cells #[.complex .f32 c d] 35)).alloc (.cells #[.func (.func 40) #[] #[]] 83)):=by
 have new:∀(W:World) (C:Array Value) (t:TypeId),(W.alloc (.cells C t)).heap[W.heap.size]?=some (.cells C t (0,0)):=fun W C t=>World.alloc_heap_new W _
 have far:∀(W:World) (C:Array Value) (t:TypeId) (k:Nat) (o:Obj),W.heap[k]?=some o ->(W.alloc (.cells C t)).heap[k]?=some o:=fun W C t k o h=>(Aow W _ k (Alx.1 h).1).trans h
 have n0:=new w #[.int .i64 0] 3;have n1:=new (w.alloc (.cells #[.int .i64 0] 3)) #[.float .f64 0] 57;have n2:=new ((w.alloc (.cells #[.int .i64 0] 3)).alloc (.cells #[.float .f64 0] 57)) #[.int .i64 M] 3;have n3:=new (((w.alloc (.cells #[.int .i64 0] 3)).alloc (.cells #[.float .f64 0] 57)).alloc (.cells #[.int .i64 M] 3)) #[.complex .f32 c d] 35;have n4:=new ((((w.alloc (.cells #[.int .i64 0] 3)).alloc (.cells #[.float .f64 0] 57)).alloc (.cells #[.int .i64 M] 3)).alloc (.cells #[.complex .f32 c d] 35)) #[.func (.func 40) #[] #[]] 83;simp only[An5]at n1 n2 n3 n4
 refine⟨far _ _ _ _ _ (far _ _ _ _ _ (far _ _ _ _ _ (far _ _ _ _ _ n0))),far _ _ _ _ _ (far _ _ _ _ _ (far _ _ _ _ _ n1)),far _ _ _ _ _ (far _ _ _ _ _ n2),⟨far _ _ _ _ _ n3,n4,fun j hj=>by omega⟩,?_⟩
 exact(((((Amc _ w).alloc (Am0 _) _).alloc (by simp) _).alloc (by simp;omega) _).alloc (by simp;omega) _).alloc (by simp;omega) _
def Vi (w:World)(c d M:Nat)(cd:Code)(k:Nat)(W:World):Prop:=(cd=Code.exit 0/\k=M+1/\El w c d M k W) \/(cd=Code.ret/\Qu w c d M k W)
theorem Vi.own {w:World}{c d M B:Nat}(hB:w.heap.size<=B)(cd:Code):OwnFrom B (Vi w c d M cd):=by
 intro k W W' row h hg hr
 rcases h with⟨h1,h2,h3⟩ |⟨h1,h3⟩
 ·exact .inl ⟨h1,h2,El.own hB k W W' row h3 hg hr⟩
 ·exact .inr ⟨h1,Qu.own hB k W W' row h3 hg hr⟩
theorem A5x (c d:Nat)(n:Int)(w:World):Calls Vp.prog 39 #[.complex .f32 c d,.int .i64 n,.func (.func 40) #[] #[]] w (Al2 c d n w):=by
 obtain⟨M,hM,hM4⟩:∃M:Nat,Aj n=M/\M<=400:=by
  have:=Gs n
  exact⟨(Aj n).toNat,by omega,by omega⟩
 have HS:=Aly (Ms n);rw[hM]at HS;have H0:=Aly (El.start w c d M);have HM:=Aly hM;clear hM
 refine(An1 (n:=3)).1 ?_
 refine callsIn_of_wp_marks Vp.func39 rfl trivial ?_ rfl
 simp only[Tryz.ntmps39,Aoh,Ann,Aou,Nat.reduceAdd,Nat.reduceSub,Aph,Aos,Aq1,Apo,Ant,An9]
 gi_wp2_with (first |(refine⟨trivial,?_⟩;gi_at_call 75;refine(An1.2 (HS.out _)).mono ?_;rintro e w1 ⟨rfl,rfl⟩) |(refine⟨trivial,?_⟩;gi_at_call 80;refine(An1.2 (Mg _ _ _ _)).mono ?_;rintro e w1 ⟨rfl,rfl⟩))
 refine Ug ?_
 gi_wp2_with (first |(refine⟨trivial,?_⟩;gi_at_call 75;refine(An1.2 (HS.out _)).mono ?_;rintro e w1 ⟨rfl,rfl⟩) |(refine⟨trivial,?_⟩;gi_at_call 80;refine(An1.2 (Mg _ _ _ _)).mono ?_;rintro e w1 ⟨rfl,rfl⟩))
 refine wpIn_label ?_
 gi_wp2_with (first |(refine⟨trivial,?_⟩;gi_at_call 75;refine(An1.2 (HS.out _)).mono ?_;rintro e w1 ⟨rfl,rfl⟩) |(refine⟨trivial,?_⟩;gi_at_call 80;refine(An1.2 (Mg _ _ _ _)).mono ?_;rintro e w1 ⟨rfl,rfl⟩))
 refine Uf rfl (by decide) (gf:=125) (lb:=#[.pointer (some ⟨w.heap.size+1+1+1+1,0,none⟩),.pointer (some ⟨w.heap.size+1+1+1,0,none⟩)]) ?g0 trivial (enters_of Vp.func125 (by kernel_rfl) rfl)
  (A4i _ c d (w.heap.size+1+1+1) (M+1) (by decide) (by omega)) (fun k v h=>by obtain⟨x,y,rfl,-⟩:=h;rfl) (El w c d M) (Vi w c d M)
  (El.own (by simp;omega)) (Vi.own (by simp;omega)) (fun k A h=>h.Q2) H0.out
  (fun k v=>{ tmps:=#[.complex .f32 c d,.int .i64 n,.func (.func 40) #[] #[],undef,undef,undef,.pointer (some ⟨w.heap.size,0,none⟩),.pointer (some ⟨w.heap.size+1,0,none⟩),.pointer (some ⟨w.heap.size+1+1,0,none⟩),v.getD 0 undef,v.getD 1 undef,undef,.int .i64 n,.int .i64 M,.complex .f32 c d,.func (.func 40) #[] #[],
   .func (.func 125) #[] #[.pointer (some ⟨w.heap.size+1+1+1+1,0,none⟩),.pointer (some ⟨w.heap.size+1+1+1,0,none⟩)],v.getD 0 undef,v.getD 1 undef,undef,undef,undef,undef,undef,undef,undef,undef,undef,undef,undef],defers:=[] })
  ?assign ?body ?done ?stop
 case g0=>rfl
 case assign =>
  rintro l k v W K ⟨x,y,rfl,-⟩ hK
  gi_wp2
  exact hK
 case body =>
  rintro l k v W hk ⟨x,y,rfl,hx,hy,ax,ay⟩ h;have c0:W.cell? ⟨w.heap.size+1+1,0,none⟩=some (.int .i64 M):=by rw[Amb h.las];rfl
  by_cases hkm:k=M+1
  ·subst hkm;have HX:Hid (Vi w c d M (Code.exit 0) (M+1) W):=.inl ⟨rfl,rfl,h⟩;clear h ax ay
   gi_wp2
   exact⟨KeepsFrom.refl _ _,HX.out⟩
  ·have hkM:k<=M:=by omega
   have HH:=Aly h;have HAX:=Aly ax;have HAY:=Aly ay;have hk1:((k:Int)<=M):=by omega
   clear h ax ay hkm
   gi_wp2_with fail
   refine⟨trivial,?_⟩
   refine(CallsIn.inRound l (An1.2 (Po x y hx hy W))).mono ?_
   rintro e W2 ⟨⟨p,q,rfl,-,-,ap,aq⟩,hd⟩;have HP:=Aly (Ng ap aq);have HD:=Aly hd;clear ap aq hd
   gi_wp2_with fail
   refine⟨trivial,?_⟩
   refine(CallsIn.inRound l (An1.2 (Pn p q W2))).mono ?_
   rintro e W3 ⟨⟨m,rfl,hm,am⟩,hd⟩;have HD3:=Aly (HD.out.trans hd)
   have HN:Hid (Al .f64 (Bj (A5 (E8 c d k).1) (A5 (E8 c d k).2)) m):=by
    show Al _ _ _
    rw[L3 HAX.out,L3 HAY.out,HP.out];exact am
   clear am hd HD;have I3:=El.own (c:=c) (d:=d) (M:=M) (Am0 _) k W W3 none HH.out HD3.out.grown (fun r e=>by cases e)
   have HK:Hid (Py m=Nj c d k):=by
    show _=_
    unfold Nj
    exact(A4a HN.out).symm
   have hb:=HK.out;unfold Py at hb
   have HKF:Hid (∀W' B,w.heap.size+1<B ->(∀j,j≠w.heap.size->j≠w.heap.size+1->W3.heap[j]?=W'.heap[j]?)->W3.heap.size<=W'.heap.size->KeepsFrom B W W'):=fun W' B hB h1 h2=>by
    have hh:=HD3.out.heap
    refine⟨by rw[<-hh];exact h2,fun j o hj ho _=>?_⟩
    rw[<-h1 j (by omega) (by omega),hh];exact ho
   cases ho:Nj c d k with
   | false =>
     rw[ho]at hb;have B0:A7 w w.heap.size #[.int .i64 0] 3 W3:=⟨I3.r0,I3.old⟩;have B1:A7 w (w.heap.size+1) #[.float .f64 0] 57 W3:=⟨I3.r1,I3.old⟩;have c0:=B0.cell 0 _ rfl;have f0:=B0.frozen 0;have c1:=B1.cell 0 _ rfl;have f1:=B1.frozen 0;have D0:=(B0.set (Am0 _) 0 (.int .i64 k)).other (p:=⟨w.heap.size+1,0,none⟩) (by simp) (by simp) (.float .f64 m)
     have D1:=(B1.other (p:=⟨w.heap.size,0,none⟩) (by simp) (by simp) (.int .i64 k)).set (by simp) 0 (.float .f64 m)
     have HX:Hid (Vi w c d M Code.ret k ((W3.setCell ⟨w.heap.size,0,none⟩ (.int .i64 k)).setCell ⟨w.heap.size+1,0,none⟩ (.float .f64 m))):=.inr ⟨rfl,⟨⟨m,D0.blk,D1.blk,hm,HN.out⟩,ho,I3.Q2.ok,hkM,D1.old⟩⟩;have HKK:Hid (∀B,w.heap.size+1<B->KeepsFrom B W ((W3.setCell ⟨w.heap.size,0,none⟩ (.int .i64 k)).setCell ⟨w.heap.size+1,0,none⟩ (.float .f64 m))):=fun B hB=>HKF.out _ B hB (fun j h1 h2=>((An8 _ _ _ _ (by simpa using h2)).trans (An8 _ _ _ _ (by simpa using h1))).symm) (by simp)
     have hlt1:=B1.lt;clear ho HK HH I3 B0 B1 D0 D1 HKF
     gi_wp2
     exact⟨HKK.out _ (by simp),HX.out⟩
   | true =>
     rw[ho]at hb
     have HI:Hid (El w c d M (k+1) W3):=⟨I3.r0,I3.r1,I3.las,⟨I3.Q2.num,I3.Q2.stp,fun j hj=>by
      by_cases e:j=k
      ·rw[e];exact ho
      ·exact I3.Q2.ok j (by omega)⟩,I3.old⟩
     have HKK:=Aly (fun B (hB:w.heap.size+1<B)=>HKF.out W3 B hB (fun _ _ _=>rfl) (Am0 _))
     clear ho HK HH I3 HKF
     gi_wp2
     exact⟨HKK.out _ (by simp),by omega,HI.out⟩
 case done =>
  intro D k W hD hk hf
  exact hf.elim
 case stop =>
  rintro D cd k W hD hk h hdef
  rcases h with⟨rfl,rfl,h⟩ |⟨rfl,h⟩
  ·have B0:A7 w w.heap.size #[.int .i64 0] 3 W:=⟨h.r0,h.old⟩;have B1:A7 w (w.heap.size+1) #[.float .f64 0] 57 W:=⟨h.r1,h.old⟩;have c0:=B0.cell 0 _ rfl;have f0:=B0.frozen 0;have c1:=B1.cell 0 _ rfl;have f1:=B1.frozen 0;have hlt1:=B1.lt;have D0:=(B0.set (Am0 _) 0 (.int .i64 (-1))).other (p:=⟨w.heap.size+1,0,none⟩) (by simp) (by simp) (.float .f64 0)
   have D1:=(B1.other (p:=⟨w.heap.size,0,none⟩) (by simp) (by simp) (.int .i64 (-1))).set (by simp) 0 (.float .f64 0)
   have HD0:=Aly D0;have HD1:=Aly D1;have HO:=Aly h.Q2.ok;clear h B0 B1 D0 D1
   gi_wp2
   rw[Exit.noGoto_ret];have hDlt:w.heap.size+1<D:=by simp at hD;omega
   have hdef':((W.setCell ⟨w.heap.size,0,none⟩ (.int .i64 (-1))).setCell ⟨w.heap.size+1,0,none⟩ (.float .f64 0)).heap[D]?=some (.deferred (some [])):=((An8 _ _ _ _ (by simp;omega)).trans (An8 _ _ _ _ (by simp;omega))).trans hdef
   have z0:(((W.setCell ⟨w.heap.size,0,none⟩ (.int .i64 (-1))).setCell ⟨w.heap.size+1,0,none⟩ (.float .f64 0)).putObj D (.deferred none)).cell? ⟨w.heap.size,0,none⟩=some (.int .i64 (-1)):=(Ao1 (World.putObj_heap_other (by simp;omega))).trans (HD0.out.cell 0 _ rfl)
   have z1:(((W.setCell ⟨w.heap.size,0,none⟩ (.int .i64 (-1))).setCell ⟨w.heap.size+1,0,none⟩ (.float .f64 0)).putObj D (.deferred none)).cell? ⟨w.heap.size+1,0,none⟩=some (.float .f64 0):=(Ao1 (World.putObj_heap_other (by simp;omega))).trans (HD1.out.cell 0 _ rfl)
   refine⟨by simp,.inl ⟨_,_,rfl,run_takeDeferred hdef',?_⟩⟩
   refine⟨.tuple #[.int .i64 (-1),.float .f64 0],by simp[results,Tryz.f39,go_sem,z0,z1],?_⟩
   refine⟨⟨-1,0,rfl,.inr ⟨rfl,fun j hj=>HO.out j (by have:=HM.out;omega)⟩,by omega,fun h=>by omega⟩,?_⟩
   exact HD1.out.old.grown (grownBy_putObj' _ D _) (by have:=HD1.out.old.size;exact this) (fun j e=>by cases e;omega)
  ·obtain⟨⟨nm,b0,b1,hnm,hal⟩,hno,hok,hle,hold⟩:=h;have HB0:Hid (A7 w w.heap.size #[.int .i64 k] 3 W):=⟨b0,hold⟩;have HB1:Hid (A7 w (w.heap.size+1) #[.float .f64 nm] 57 W):=⟨b1,hold⟩;have HE:Hid (G3 (Nj c d) (Aj n) k):=.inl ⟨k,rfl,by have:=HM.out;omega,hno,hok⟩
   have HA:=Aly hal;clear b0 b1 hold hal hno hok
   gi_wp2
   rw[Exit.noGoto_ret];have hDlt:w.heap.size+1<D:=by simp at hD;omega
   have z0:(W.putObj D (.deferred none)).cell? ⟨w.heap.size,0,none⟩=some (.int .i64 k):=(Ao1 (World.putObj_heap_other (by simp;omega))).trans (HB0.out.cell 0 _ rfl)
   have z1:(W.putObj D (.deferred none)).cell? ⟨w.heap.size+1,0,none⟩=some (.float .f64 nm):=(Ao1 (World.putObj_heap_other (by simp;omega))).trans (HB1.out.cell 0 _ rfl)
   refine⟨by simp,.inl ⟨_,_,rfl,run_takeDeferred hdef,?_⟩⟩
   refine⟨.tuple #[.int .i64 k,.float .f64 nm],by simp[results,Tryz.f39,go_sem,z0,z1],?_⟩
   refine⟨⟨k,nm,rfl,HE.out,hnm,fun _=>by rw[Anc];exact HA.out⟩,?_⟩
   exact HB1.out.old.grown (grownBy_putObj' _ D _) HB1.out.old.size (fun j e=>by cases e;omega)
theorem Y9 (x y:Nat)(w:World):Calls Vp.prog 78 #[.complex .f64 x y] w fun e w'=>e=.returned (.complex .f64 x y)/\w=w':=by
 go_enter Vp.func78,Tryz.ntmps78
 go_wp2
 go_ret
 exact⟨rfl,rfl⟩
theorem Mh (c d g:Nat)(w:World):Calls Vp.prog 76 #[.complex .f64 c d,.func (.func g) #[] #[]] w fun e w'=>e=.returned (.func (.func 124) #[] #[.pointer (some ⟨w.heap.size+1,0,none⟩),.pointer (some ⟨w.heap.size,0,none⟩)]) /\(w.alloc (.cells #[.complex .f64 c d] 26)).alloc (.cells #[.func (.func g) #[] #[]] 81)=w':=by
 go_enter Vp.func76,Tryz.ntmps76
 go_wp2
 go_ret
 exact⟨rfl,rfl⟩
structure Aja (Bc:Nat)(c d:Nat)(k:Nat)(A:World):Prop where
 num:A.heap[Bc]?=some (.cells #[.complex .f64 c d] 26 (0,0))
 stp:A.heap[Bc+1]?=some (.cells #[.func (.func 38) #[] #[]] 81 (0,0))
 ok:∀j,j<k->okW c d j=true
def Al6 (c d:Nat)(k:Nat)(v:Array Value):Prop:=∃x y:Nat,v=#[.int .i64 k,.complex .f64 x y]/\Al .f64 (Lc c d k).1 x/\Al .f64 (Lc c d k).2 y
theorem A4j (n c d Bc N:Nat)(hn:1<=n)(hN:N<=1048576) :
 A3b Fence.wide n Vp.prog 124 #[.pointer (some ⟨Bc+1,0,none⟩),.pointer (some ⟨Bc,0,none⟩)] (Al6 c d) (fun _=>False) N (Aja Bc c d):=by
 intro l J Jx W hJb hJg hY hJ0
 refine callsIn_of_wp Vp.func124 rfl trivial ?_ rfl
 simp only[Tryz.ntmps124,Aoh,Ann,Aou,Nat.reduceAdd,Nat.reduceSub,Aph,Aos,Aq1,Apo,Ant,An9]
 gi_wp2
 gi_loopw [4,5] (fun z i wr=>∃k x y:Nat,k<=N/\i=.int .i64 k/\z=.complex .f64 x y/\Hid (Al .f64 (Lc c d k).1 x/\Al .f64 (Lc c d k).2 y)/\J k wr) (fun _ i _=>(N+1-intOf i).toNat)
 case atStart=>exact⟨0,0,0,Amu _,rfl,rfl,⟨Al.refl _ _,Al.refl _ _⟩,hJ0⟩
 case round =>
  obtain⟨k,x,y,hk,rfl,rfl,HA,hJ⟩:=hrel;obtain⟨fn,tmps,assign,body,hy',hR⟩:=hY k _ wr hk ⟨x,y,rfl,HA.out.1,HA.out.2⟩ hJ
  gi_wp2
  refine hR.mono ?_
  rintro e W3 (⟨rfl,hkN,hJ3⟩ |⟨rfl,hJx⟩)
  ·have K:=hJb _ _ hJ3;have c0:W3.cell? ⟨Bc,0,none⟩=some (.complex .f64 c d):=by rw[Amb K.num];rfl
   have c1:W3.cell? ⟨Bc+1,0,none⟩=some (.func (.func 38) #[] #[]):=by rw[Amb K.stp];rfl
   clear K
   gi_wp2_with (refine⟨trivial,?_⟩;gi_at_call 38;refine(An1.2 (Y7 x y c d _)).mono ?_;rintro e W4 ⟨⟨a,b,rfl,ha,hb,aa,ab⟩,hd⟩;have HQ:Hid (Al .f64 (Lc c d (k+1)).1 a/\Al .f64 (Lc c d (k+1)).2 b):=(by have e:=Ai9 (p:=Lc c d k) (q:=(x,y)) (Al.refl .f64 c) (Al.refl .f64 d) HA.out.1 HA.out.2;rw[<-e]at aa ab;exact⟨aa,ab⟩);have HJ4:=Aly (hJg (k+1) W3 W4 hJ3 hd.grown);clear aa ab hd)
   go_roundw
   case rel=>exact⟨k+1,a,b,by omega,by go_num,rfl,HQ,HJ4.out⟩
   case measure=>simp[intOf];omega
  ·gi_wp2
   go_end0
   exact⟨⟨_,rfl⟩,.inl ⟨k,hk,hJx⟩⟩
def Al3 (c d:Nat)(n:Int)(w:World)(e:Ending)(w':World):Prop :=
 (∃(k:Int) (nm:Nat),e=.returned (.tuple #[.int .i64 k,.float .f64 nm])/\G3 (okW c d) (Aj n) k/\nm<18446744073709551616 /\(0<=k->Al .f64 (Bj (Lc c d k.toNat).1 (Lc c d k.toNat).2) nm))/\Below w.heap.size w w'
structure Em (w:World)(c d M k:Nat)(W:World):Prop where
 r0:W.heap[w.heap.size]?=some (.cells #[.int .i64 0] 3 (0,0))
 r1:W.heap[w.heap.size+1]?=some (.cells #[.float .f64 0] 57 (0,0))
 las:W.heap[w.heap.size+1+1]?=some (.cells #[.int .i64 M] 3 (0,0))
 Q2:Aja (w.heap.size+1+1+1) c d k W
 old:Below w.heap.size w W
theorem Em.own {w:World}{c d M B:Nat}(hB:w.heap.size<=B):OwnFrom B (Em w c d M):=by
 intro k W W' row h hg hr;have hr':∀r,row=some r->∃o:Obj,W.heap[r]?=some o/\o.isCells=false:=fun r e=>(hr r e).2
 exact⟨D7 h.r0 rfl hg hr',D7 h.r1 rfl hg hr',D7 h.las rfl hg hr',⟨D7 h.Q2.num rfl hg hr',D7 h.Q2.stp rfl hg hr',h.Q2.ok⟩,h.old.grown hg h.old.size (fun j e=>Am1 hB (hr j e).1)⟩
structure Qv (w:World)(c d M k:Nat)(W:World):Prop where
 ex:∃nm:Nat,W.heap[w.heap.size]?=some (.cells #[.int .i64 k] 3 (0,0))/\W.heap[w.heap.size+1]?=some (.cells #[.float .f64 nm] 57 (0,0))/\nm<18446744073709551616/\Al .f64 (Bj (Lc c d k).1 (Lc c d k).2) nm
 no:okW c d k=false
 ok:∀j,j<k->okW c d j=true
 le:k<=M
 old:Below w.heap.size w W
theorem Qv.own {w:World}{c d M B:Nat}(hB:w.heap.size<=B):OwnFrom B (Qv w c d M):=by
 intro k W W' row h hg hr;have hr':∀r,row=some r->∃o:Obj,W.heap[r]?=some o/\o.isCells=false:=fun r e=>(hr r e).2
 obtain⟨⟨nm,a,b,e⟩,h1,h2,h3,h4⟩:=h
 exact⟨⟨nm,D7 a rfl hg hr',D7 b rfl hg hr',e⟩,h1,h2,h3,h4.grown hg h4.size (fun j e=>Am1 hB (hr j e).1)⟩
theorem Em.start (w:World)(c d M:Nat):Em w c d M 0 (((((w.alloc (.cells #[.int .i64 0] 3)).alloc (.cells #[.float .f64 0] 57)).alloc (.cells #[.int .i64 M] 3)).alloc (.cells #[.complex .f64 c d] 26)).alloc (.cells #[.func (.func 38) #[] #[]] 81)):=by
 have new:∀(W:World) (C:Array Value) (t:TypeId),(W.alloc (.cells C t)).heap[W.heap.size]?=some (.cells C t (0,0)):=fun W C t=>World.alloc_heap_new W _
 have far:∀(W:World) (C:Array Value) (t:TypeId) (k:Nat) (o:Obj),W.heap[k]?=some o ->(W.alloc (.cells C t)).heap[k]?=some o:=fun W C t k o h=>(Aow W _ k (Alx.1 h).1).trans h
 have n0:=new w #[.int .i64 0] 3;have n1:=new (w.alloc (.cells #[.int .i64 0] 3)) #[.float .f64 0] 57;have n2:=new ((w.alloc (.cells #[.int .i64 0] 3)).alloc (.cells #[.float .f64 0] 57)) #[.int .i64 M] 3;have n3:=new (((w.alloc (.cells #[.int .i64 0] 3)).alloc (.cells #[.float .f64 0] 57)).alloc (.cells #[.int .i64 M] 3)) #[.complex .f64 c d] 26;have n4:=new ((((w.alloc (.cells #[.int .i64 0] 3)).alloc (.cells #[.float .f64 0] 57)).alloc (.cells #[.int .i64 M] 3)).alloc (.cells #[.complex .f64 c d] 26)) #[.func (.func 38) #[] #[]] 81;simp only[An5]at n1 n2 n3 n4
 refine⟨far _ _ _ _ _ (far _ _ _ _ _ (far _ _ _ _ _ (far _ _ _ _ _ n0))),far _ _ _ _ _ (far _ _ _ _ _ (far _ _ _ _ _ n1)),far _ _ _ _ _ (far _ _ _ _ _ n2),⟨far _ _ _ _ _ n3,n4,fun j hj=>by omega⟩,?_⟩
 exact(((((Amc _ w).alloc (Am0 _) _).alloc (by simp) _).alloc (by simp;omega) _).alloc (by simp;omega) _).alloc (by simp;omega) _
def Vj (w:World)(c d M:Nat)(cd:Code)(k:Nat)(W:World):Prop:=(cd=Code.exit 0/\k=M+1/\Em w c d M k W) \/(cd=Code.ret/\Qv w c d M k W)
theorem Vj.own {w:World}{c d M B:Nat}(hB:w.heap.size<=B)(cd:Code):OwnFrom B (Vj w c d M cd):=by
 intro k W W' row h hg hr
 rcases h with⟨h1,h2,h3⟩ |⟨h1,h3⟩
 ·exact .inl ⟨h1,h2,Em.own hB k W W' row h3 hg hr⟩
 ·exact .inr ⟨h1,Qv.own hB k W W' row h3 hg hr⟩
theorem Adx (c d:Nat)(n:Int)(w:World):Calls Vp.prog 37 #[.complex .f64 c d,.int .i64 n,.func (.func 38) #[] #[]] w (Al3 c d n w):=by
 obtain⟨M,hM,hM4⟩:∃M:Nat,Aj n=M/\M<=400:=by
  have:=Gs n
  exact⟨(Aj n).toNat,by omega,by omega⟩
 have HS:=Aly (Ms n);rw[hM]at HS;have H0:=Aly (Em.start w c d M);have HM:=Aly hM;clear hM
 refine(An1 (n:=3)).1 ?_
 refine callsIn_of_wp_marks Vp.func37 rfl trivial ?_ rfl
 simp only[Tryz.ntmps37,Aoh,Ann,Aou,Nat.reduceAdd,Nat.reduceSub,Aph,Aos,Aq1,Apo,Ant,An9]
 gi_wp2_with (first |(refine⟨trivial,?_⟩;gi_at_call 75;refine(An1.2 (HS.out _)).mono ?_;rintro e w1 ⟨rfl,rfl⟩) |(refine⟨trivial,?_⟩;gi_at_call 76;refine(An1.2 (Mh _ _ _ _)).mono ?_;rintro e w1 ⟨rfl,rfl⟩))
 refine Ug ?_
 gi_wp2_with (first |(refine⟨trivial,?_⟩;gi_at_call 75;refine(An1.2 (HS.out _)).mono ?_;rintro e w1 ⟨rfl,rfl⟩) |(refine⟨trivial,?_⟩;gi_at_call 76;refine(An1.2 (Mh _ _ _ _)).mono ?_;rintro e w1 ⟨rfl,rfl⟩))
 refine wpIn_label ?_
 gi_wp2_with (first |(refine⟨trivial,?_⟩;gi_at_call 75;refine(An1.2 (HS.out _)).mono ?_;rintro e w1 ⟨rfl,rfl⟩) |(refine⟨trivial,?_⟩;gi_at_call 76;refine(An1.2 (Mh _ _ _ _)).mono ?_;rintro e w1 ⟨rfl,rfl⟩))
 refine Uf rfl (by decide) (gf:=124) (lb:=#[.pointer (some ⟨w.heap.size+1+1+1+1,0,none⟩),.pointer (some ⟨w.heap.size+1+1+1,0,none⟩)]) ?g0 trivial (enters_of Vp.func124 (by kernel_rfl) rfl)
  (A4j _ c d (w.heap.size+1+1+1) (M+1) (by decide) (by omega)) (fun k v h=>by obtain⟨x,y,rfl,-⟩:=h;rfl) (Em w c d M) (Vj w c d M)
  (Em.own (by simp;omega)) (Vj.own (by simp;omega)) (fun k A h=>h.Q2) H0.out
  (fun k v=>{ tmps:=#[.complex .f64 c d,.int .i64 n,.func (.func 38) #[] #[],undef,undef,undef,.pointer (some ⟨w.heap.size,0,none⟩),.pointer (some ⟨w.heap.size+1,0,none⟩),.pointer (some ⟨w.heap.size+1+1,0,none⟩),v.getD 0 undef,v.getD 1 undef,undef,.int .i64 n,.int .i64 M,.complex .f64 c d,.func (.func 38) #[] #[],
   .func (.func 124) #[] #[.pointer (some ⟨w.heap.size+1+1+1+1,0,none⟩),.pointer (some ⟨w.heap.size+1+1+1,0,none⟩)],v.getD 0 undef,v.getD 1 undef,undef,undef,undef,undef,undef,undef,undef,undef,undef,undef,undef],defers:=[] })
  ?assign ?body ?done ?stop
 case g0=>rfl
 case assign =>
  rintro l k v W K ⟨x,y,rfl,-⟩ hK
  gi_wp2
  exact hK
 case body =>
  rintro l k v W hk ⟨x,y,rfl,ax,ay⟩ h;have c0:W.cell? ⟨w.heap.size+1+1,0,none⟩=some (.int .i64 M):=by rw[Amb h.las];rfl
  by_cases hkm:k=M+1
  ·subst hkm;have HX:Hid (Vj w c d M (Code.exit 0) (M+1) W):=.inl ⟨rfl,rfl,h⟩;clear h ax ay
   gi_wp2
   exact⟨KeepsFrom.refl _ _,HX.out⟩
  ·have hkM:k<=M:=by omega
   have HH:=Aly h;have HAX:=Aly ax;have HAY:=Aly ay;have hk1:((k:Int)<=M):=by omega
   clear h ax ay hkm
   gi_wp2_with fail
   refine⟨trivial,?_⟩
   refine(CallsIn.inRound l (An1.2 (Y9 x y W))).mono ?_
   rintro e W2 ⟨rfl,rfl⟩
   gi_wp2_with fail
   refine⟨trivial,?_⟩
   refine(CallsIn.inRound l (An1.2 (Pn x y W))).mono ?_
   rintro e W3 ⟨⟨m,rfl,hm,am⟩,hd⟩;have HD3:=Aly hd
   have HN:Hid (Al .f64 (Bj (Lc c d k).1 (Lc c d k).2) m):=by
    show Al _ _ _
    rw[Ng HAX.out HAY.out];exact am
   clear am hd;have I3:=Em.own (c:=c) (d:=d) (M:=M) (Am0 _) k W W3 none HH.out HD3.out.grown (fun r e=>by cases e)
   have HK:Hid (Py m=okW c d k):=by
    show _=_
    unfold okW
    exact(A4a HN.out).symm
   have hb:=HK.out;unfold Py at hb
   have HKF:Hid (∀W' B,w.heap.size+1<B ->(∀j,j≠w.heap.size->j≠w.heap.size+1->W3.heap[j]?=W'.heap[j]?)->W3.heap.size<=W'.heap.size->KeepsFrom B W W'):=fun W' B hB h1 h2=>by
    have hh:=HD3.out.heap
    refine⟨by rw[<-hh];exact h2,fun j o hj ho _=>?_⟩
    rw[<-h1 j (by omega) (by omega),hh];exact ho
   cases ho:okW c d k with
   | false =>
     rw[ho]at hb;have B0:A7 w w.heap.size #[.int .i64 0] 3 W3:=⟨I3.r0,I3.old⟩;have B1:A7 w (w.heap.size+1) #[.float .f64 0] 57 W3:=⟨I3.r1,I3.old⟩;have c0:=B0.cell 0 _ rfl;have f0:=B0.frozen 0;have c1:=B1.cell 0 _ rfl;have f1:=B1.frozen 0;have D0:=(B0.set (Am0 _) 0 (.int .i64 k)).other (p:=⟨w.heap.size+1,0,none⟩) (by simp) (by simp) (.float .f64 m)
     have D1:=(B1.other (p:=⟨w.heap.size,0,none⟩) (by simp) (by simp) (.int .i64 k)).set (by simp) 0 (.float .f64 m)
     have HX:Hid (Vj w c d M Code.ret k ((W3.setCell ⟨w.heap.size,0,none⟩ (.int .i64 k)).setCell ⟨w.heap.size+1,0,none⟩ (.float .f64 m))):=.inr ⟨rfl,⟨⟨m,D0.blk,D1.blk,hm,HN.out⟩,ho,I3.Q2.ok,hkM,D1.old⟩⟩;have HKK:Hid (∀B,w.heap.size+1<B->KeepsFrom B W ((W3.setCell ⟨w.heap.size,0,none⟩ (.int .i64 k)).setCell ⟨w.heap.size+1,0,none⟩ (.float .f64 m))):=fun B hB=>HKF.out _ B hB (fun j h1 h2=>((An8 _ _ _ _ (by simpa using h2)).trans (An8 _ _ _ _ (by simpa using h1))).symm) (by simp)
     have hlt1:=B1.lt;clear ho HK HH I3 B0 B1 D0 D1 HKF
     gi_wp2
     exact⟨HKK.out _ (by simp),HX.out⟩
   | true =>
     rw[ho]at hb
     have HI:Hid (Em w c d M (k+1) W3):=⟨I3.r0,I3.r1,I3.las,⟨I3.Q2.num,I3.Q2.stp,fun j hj=>by
      by_cases e:j=k
      ·rw[e];exact ho
      ·exact I3.Q2.ok j (by omega)⟩,I3.old⟩
     have HKK:=Aly (fun B (hB:w.heap.size+1<B)=>HKF.out W3 B hB (fun _ _ _=>rfl) (Am0 _))
     clear ho HK HH I3 HKF
     gi_wp2
     exact⟨HKK.out _ (by simp),by omega,HI.out⟩
 case done =>
  intro D k W hD hk hf
  exact hf.elim
 case stop =>
  rintro D cd k W hD hk h hdef
  rcases h with⟨rfl,rfl,h⟩ |⟨rfl,h⟩
  ·have B0:A7 w w.heap.size #[.int .i64 0] 3 W:=⟨h.r0,h.old⟩;have B1:A7 w (w.heap.size+1) #[.float .f64 0] 57 W:=⟨h.r1,h.old⟩;have c0:=B0.cell 0 _ rfl;have f0:=B0.frozen 0;have c1:=B1.cell 0 _ rfl;have f1:=B1.frozen 0;have hlt1:=B1.lt;have D0:=(B0.set (Am0 _) 0 (.int .i64 (-1))).other (p:=⟨w.heap.size+1,0,none⟩) (by simp) (by simp) (.float .f64 0)
   have D1:=(B1.other (p:=⟨w.heap.size,0,none⟩) (by simp) (by simp) (.int .i64 (-1))).set (by simp) 0 (.float .f64 0)
   have HD0:=Aly D0;have HD1:=Aly D1;have HO:=Aly h.Q2.ok;clear h B0 B1 D0 D1
   gi_wp2
   rw[Exit.noGoto_ret];have hDlt:w.heap.size+1<D:=by simp at hD;omega
   have hdef':((W.setCell ⟨w.heap.size,0,none⟩ (.int .i64 (-1))).setCell ⟨w.heap.size+1,0,none⟩ (.float .f64 0)).heap[D]?=some (.deferred (some [])):=((An8 _ _ _ _ (by simp;omega)).trans (An8 _ _ _ _ (by simp;omega))).trans hdef
   have z0:(((W.setCell ⟨w.heap.size,0,none⟩ (.int .i64 (-1))).setCell ⟨w.heap.size+1,0,none⟩ (.float .f64 0)).putObj D (.deferred none)).cell? ⟨w.heap.size,0,none⟩=some (.int .i64 (-1)):=(Ao1 (World.putObj_heap_other (by simp;omega))).trans (HD0.out.cell 0 _ rfl)
   have z1:(((W.setCell ⟨w.heap.size,0,none⟩ (.int .i64 (-1))).setCell ⟨w.heap.size+1,0,none⟩ (.float .f64 0)).putObj D (.deferred none)).cell? ⟨w.heap.size+1,0,none⟩=some (.float .f64 0):=(Ao1 (World.putObj_heap_other (by simp;omega))).trans (HD1.out.cell 0 _ rfl)
   refine⟨by simp,.inl ⟨_,_,rfl,run_takeDeferred hdef',?_⟩⟩
   refine⟨.tuple #[.int .i64 (-1),.float .f64 0],by simp[results,Tryz.f37,go_sem,z0,z1],?_⟩
   refine⟨⟨-1,0,rfl,.inr ⟨rfl,fun j hj=>HO.out j (by have:=HM.out;omega)⟩,by omega,fun h=>by omega⟩,?_⟩
   exact HD1.out.old.grown (grownBy_putObj' _ D _) (by have:=HD1.out.old.size;exact this) (fun j e=>by cases e;omega)
  ·obtain⟨⟨nm,b0,b1,hnm,hal⟩,hno,hok,hle,hold⟩:=h;have HB0:Hid (A7 w w.heap.size #[.int .i64 k] 3 W):=⟨b0,hold⟩;have HB1:Hid (A7 w (w.heap.size+1) #[.float .f64 nm] 57 W):=⟨b1,hold⟩;have HE:Hid (G3 (okW c d) (Aj n) k):=.inl ⟨k,rfl,by have:=HM.out;omega,hno,hok⟩
   have HA:=Aly hal;clear b0 b1 hold hal hno hok
   gi_wp2
   rw[Exit.noGoto_ret];have hDlt:w.heap.size+1<D:=by simp at hD;omega
   have z0:(W.putObj D (.deferred none)).cell? ⟨w.heap.size,0,none⟩=some (.int .i64 k):=(Ao1 (World.putObj_heap_other (by simp;omega))).trans (HB0.out.cell 0 _ rfl)
   have z1:(W.putObj D (.deferred none)).cell? ⟨w.heap.size+1,0,none⟩=some (.float .f64 nm):=(Ao1 (World.putObj_heap_other (by simp;omega))).trans (HB1.out.cell 0 _ rfl)
   refine⟨by simp,.inl ⟨_,_,rfl,run_takeDeferred hdef,?_⟩⟩
   refine⟨.tuple #[.int .i64 k,.float .f64 nm],by simp[results,Tryz.f37,go_sem,z0,z1],?_⟩
   refine⟨⟨k,nm,rfl,HE.out,hnm,fun _=>by rw[Anc];exact HA.out⟩,?_⟩
   exact HB1.out.old.grown (grownBy_putObj' _ D _) HB1.out.old.size (fun j e=>by cases e;omega)
def Jy (ok:Nat->Bool)(M:Nat):Int:=match (List.range (M+1)).find? (fun k=>!ok k)with|some k=>k|none=>-1
theorem Adw (ok:Nat->Bool)(M:Nat):G3 ok M (Jy ok M):=by
 unfold Jy
 cases h:(List.range (M+1)).find? (fun k=>!ok k)with
 | none =>
   refine .inr ⟨rfl,fun j hj=>?_⟩
   have:=(List.find?_eq_none.1 h) j (Apj.2 (by omega))
   simpa using this
 | some k =>
   have h1:=List.mem_of_find?_eq_some h;have h2:=List.find?_some h;rw[Apj]at h1
   refine .inl ⟨k,rfl,by omega,by simpa using h2,fun j hj=>?_⟩
   obtain⟨_,us,vs,hab,hall⟩:=List.find?_eq_some_iff_append.1 h
   have hl:us.length=k:=by
    have h3:(List.range (M+1))[us.length]?=some k:=by rw[hab];simp
    rw[List.getElem?_range (by
     have:=congrArg List.length hab;simp at this
     omega)]at h3
    injection h3
   have h4:j∈us:=by
    have h5:(List.range (M+1))[j]?=some j:=List.getElem?_range (by omega)
    rw[hab,List.getElem?_append_left (by omega)]at h5
    exact Aob h5
   simpa using hall j h4
theorem G3.num {ok:Nat->Bool}{M:Nat}{r:Int}(h:G3 ok M r):r=Jy ok M:=h.eq (Adw ok M)
theorem G3.A6 {ok:Nat->Bool}{n r:Int}(h:G3 ok (Aj n) r):r=Jy ok (Aj n).toNat:=by
 have hb:=Gs n;have e:Aj n=((Aj n).toNat:Nat):=by omega
 rw[e]at h
 exact h.num
theorem Pk (c d:Nat)(n:Int)(w:World):Calls Vp.prog 13 #[.complex .f32 c d,.int .i64 n] w fun e w'=>e=.returned (.int .i64 (Jy (Nj c d) (Aj n).toNat))/\Below w.heap.size w w':=by
 go_enter Vp.func13,Tryz.ntmps13
 go_wp2_with fail
 refine(A5x c d n _).mono ?_
 rintro e w1 ⟨⟨k,nm,rfl,hk,-,-⟩,hd⟩;have HK:=Aly hk.A6;clear hk
 go_wp2
 go_ret
 exact⟨Hf HK.out,hd⟩
theorem Pm (c d:Nat)(n:Int)(w:World):Calls Vp.prog 12 #[.complex .f64 c d,.int .i64 n] w fun e w'=>e=.returned (.int .i64 (Jy (okW c d) (Aj n).toNat))/\Below w.heap.size w w':=by
 go_enter Vp.func12,Tryz.ntmps12
 go_wp2_with fail
 refine(Adx c d n _).mono ?_
 rintro e w1 ⟨⟨k,nm,rfl,hk,-,-⟩,hd⟩;have HK:=Aly hk.A6;clear hk
 go_wp2
 go_ret
 exact⟨Hf HK.out,hd⟩
end
section
open Go.RowKit Flo
theorem Afk (sb:Nat)(a b m:Int)(l u v:Nat)(tc:List Value)(hd:Br a b l=true)(hu:Zi a l=some u)(hv:Zi b l=some v)(w:World)(hS:SW sb a b l m tc w) :
 Calls Vp.prog 144 #[.pointer (some ⟨sb,0,none⟩)] w fun e w'=>e=.returned (.complex .f64 u v)/\Below w.heap.size w w':=by
 have c0:=hS.c0;have c1:=hS.c1;have c2:=hS.c2;have HW:=Aly (K0 a b l u v hd hu hv w);have HDE:=Aly Kj;clear hd hu hv hS
 go_enter Vp.func144,Tryz.ntmps144
 go_wp2_with fail
 refine HW.out.mono ?_
 rintro e w1 ⟨rfl,hb1⟩;have HB:=Aly hb1;clear hb1 HW c0 c1 c2
 go_wp2_with (go_at_call 120;refine(HDE.out _).mono ?_;rintro e w'' ⟨rfl,hw⟩;rw[hw];clear hw)
 go_ret
 exact⟨rfl,HB.out⟩
def Uw (x:Nat):Option Nat:=(floatToFloatBits .f64 x .f32).bind fun p=>if nan .f32 p=true then none else some p
theorem A6a {x p:Nat}(h:Uw x=some p):(∃u,floatToFloatBits .f64 x .f32=some u)/\Ax x=p/\nan .f32 p=false:=by
 unfold Uw at h;obtain⟨q,hq,h⟩:=Ap1.1 h
 split at h
 ·cases h
 ·rename_i hn
  obtain rfl:=Aml h
  exact⟨⟨q,hq⟩,by unfold Ax;rw[hq];rfl,by simpa using hn⟩
theorem A5p {p p':Nat}(h:Al .f32 p p')(hn:nan .f32 p=false):p'=p:=by
 rcases h with h |⟨h,_⟩
 ·exact h.symm
 ·rw[hn]at h;cases h
theorem Q0 (x y p q:Nat)(hx:Uw x=some p)(hy:Uw y=some q)(w:World):Calls Vp.prog 14 #[.complex .f64 x y] w fun e w'=>e=.returned (.complex .f32 p q)/\Below w.heap.size w w':=by
 obtain⟨x1,x2,x3⟩:=A6a hx;obtain⟨y1,y2,y3⟩:=A6a hy
 refine(Lo x y (.inr x1) (.inr y1) w).mono ?_
 rintro e w' ⟨⟨p',q',rfl,-,-,ap,aq⟩,hd⟩;rw[x2]at ap;rw[y2]at aq
 refine⟨?_,hd.below _⟩
 rw[A5p ap x3,A5p aq y3]
theorem A7j (sb:Nat)(a b:Int)(m:Nat)(l u v p q:Nat)(tc:List Value)(nv:Value)(w:World)(htab:Lib.TabIs Vp.prog w "internal/strconv.uint64pow10" .u64 Lib.pow10Tab)(hS:SW sb a b l m tc w)
 (hd:Br a b l=true) (hu:Zi a l=some u) (hv:Zi b l=some v) (hp:Uw u=some p) (hq:Uw v=some q) (k n:Int) (hk:Jy (okW u v) (Aj m).toNat=k) (hn:Jy (Nj p q) (Aj m).toNat=n)
 (hk6:N64 k) (hn6:N64 n) (hlen:(Ae [k,n]).length<=140737488355328) :
 Calls Vp.prog 109 #[.pointer (some ⟨sb,0,none⟩),nv] w fun e w'=>e=.returned (.string ⟨(Ae [k,n]).toArray⟩)/\Below w.heap.size w w':=by
 have HW:=Aly (Afk sb a b m l u v tc hd hu hv w hS);have HS:Hid (∀W,Below w.heap.size w W->W.cell? ⟨sb,3,none⟩=some (.int .i64 m)):=fun W h=>(hS.step h).c3
 have HEW:Hid (∀W,Below w.heap.size w W->Calls Vp.prog 12 #[.complex .f64 u v,.int .i64 m] W fun e w'=>e=.returned (.int .i64 k)/\Below w.heap.size w w'):=fun W hW=>(Pm u v m W).mono (by rintro e w' ⟨rfl,h⟩;rw[hk];exact⟨rfl,hW.trans (h.mono hW.size)⟩)
 have HES:Hid (∀W,Below w.heap.size w W->Calls Vp.prog 13 #[.complex .f32 p q,.int .i64 m] W fun e w'=>e=.returned (.int .i64 n)/\Below w.heap.size w w'):=fun W hW=>(Pk p q m W).mono (by rintro e w' ⟨rfl,h⟩;rw[hn];exact⟨rfl,hW.trans (h.mono hW.size)⟩)
 have HN:Hid (∀W,Below w.heap.size w W->Calls Vp.prog 14 #[.complex .f64 u v] W fun e w'=>e=.returned (.complex .f32 p q)/\Below w.heap.size w w'):=fun W hW=>(Q0 u v p q hp hq W).mono (by rintro e w' ⟨rfl,h⟩;exact⟨rfl,hW.trans (h.mono hW.size)⟩)
 have HSP:Hid (∀W' W:World,Below w.heap.size w W'->Below (W'.alloc (.cells #[.int .i64 k,.int .i64 n] 3)).heap.size (W'.alloc (.cells #[.int .i64 k,.int .i64 n] 3)) W->Calls Vp.prog 34 #[.slice (some ⟨W'.heap.size,0,none⟩) 2 2] W fun e w'=>e=.returned (.string ⟨(Ae [k,n]).toArray⟩)/\Below w.heap.size w w'):=fun W' W h' hW =>
  (Mn [k,n] W' W (Cv h' rfl htab) (by simp) (fun x hx=>by simp at hx;rcases hx with rfl|rfl<;>assumption) hlen hW).mono (by rintro e w' ⟨rfl,h⟩;exact⟨rfl,h'.trans (h.mono h'.size)⟩)
 clear htab hS hd hu hv hp hq hk hn hk6 hn6 hlen
 go_enter Vp.func109,Tryz.ntmps109
 go_wp2_with fail
 refine HW.out.mono ?_
 rintro e w1 ⟨rfl,hb1⟩;have c3:=HS.out _ hb1;clear HW
 go_wp2
 go_region_held3 (fun w'=>Below w.heap.size w w'/\w'.cell? ⟨sb,3,none⟩=some (.int .i64 m)) (((first|dsimp only|skip);first |(refine⟨?_,?_⟩<;>first|assumption |(exact Below.drew (by assumption)) |(exact Below.alloc (by assumption) (Below.size (by assumption)) _)|go_keep) |(with_reducible assumption) |(with_reducible exact Below.drew (by assumption)) |(with_reducible exact Below.alloc (by assumption) (Below.size (by assumption)) _)|go_keep)) (first
  |(go_at_call 12;with_reducible refine(HEW.out _ (by first|assumption|exact Aqv (by assumption))).mono ?_;rintro e w' ⟨rfl,hb⟩;have c3':=HS.out _ hb)
  |(go_at_call 13;with_reducible refine(HES.out _ (by first|assumption|exact Aqv (by assumption))).mono ?_;rintro e w' ⟨rfl,hb⟩;have c3':=HS.out _ hb)
  |(go_at_call 14;with_reducible refine(HN.out _ (by first|assumption|exact Aqv (by assumption))).mono ?_;rintro e w' ⟨rfl,hb⟩;have c3':=HS.out _ hb)
  |(go_at_call 34;with_reducible refine(HSP.out _ _ (by first|assumption|exact Aqv (by assumption)) (by first|exact Amc _ _|exact(Amc _ _).drew)).mono ?_;rintro e w' ⟨rfl,hb⟩;have c3':=HS.out _ hb))
 all_goals
  go_wp2
  go_ret
  exact⟨rfl,by assumption⟩
end
section
def cnt (v:Int)(ys:List Int):Nat:=(ys.filter (fun y=>decide (y=v))).length
theorem Aa6 (v y:Int)(ys:List Int):cnt v (ys++[y])=cnt v ys+if y=v then 1 else 0:=by
 unfold cnt;rw[List.filter_append,Amy]
 by_cases h:y=v
 ·rw[List.filter_cons_of_pos (by simpa using h),Amo h];rfl
 ·rw[List.filter_cons_of_neg (by simpa using h),Amd h];rfl
theorem Rq (v:Int)(ys:List Int)(k:Nat)(h:k<ys.length):cnt v (ys.take (k+1))=cnt v (ys.take k)+if ys[k]=v then 1 else 0:=by
 rw[<-List.take_append_getElem h,Aa6]
theorem Aa5 (v:Int)(ys:List Int):cnt v ys<=ys.length:=List.length_filter_le _ _
end
section
open Go.RowKit
theorem A7c {ys:List Int}(hy:∀y,y∈ys->-1<=y/\y<=1)(k:Nat)(h:k<ys.length) :
 ∃y:Int,(ys.map By)[k]?=some (.int .i64 y) /\
  ((y=1/\cnt 1 (ys.take (k+1))=cnt 1 (ys.take k)+1/\cnt (-1) (ys.take (k+1))=cnt (-1) (ys.take k)/\cnt 0 (ys.take (k+1))=cnt 0 (ys.take k)) \/
   (y=-1/\cnt 1 (ys.take (k+1))=cnt 1 (ys.take k)/\cnt (-1) (ys.take (k+1))=cnt (-1) (ys.take k)+1/\cnt 0 (ys.take (k+1))=cnt 0 (ys.take k)) \/
   (y=0/\cnt 1 (ys.take (k+1))=cnt 1 (ys.take k)/\cnt (-1) (ys.take (k+1))=cnt (-1) (ys.take k)/\cnt 0 (ys.take (k+1))=cnt 0 (ys.take k)+1)):=by
 have hb:=hy _ (List.getElem_mem h);have t1:=Rq 1 ys k h;have t2:=Rq (-1) ys k h;have t3:=Rq 0 ys k h
 refine⟨ys[k],by rw[Aqj,Amw h];rfl,?_⟩
 generalize ys[k]=y at *
 rcases(by omega:y=1\/y=-1\/y=0)with rfl|rfl|rfl
 ·exact .inl ⟨rfl,t1,t2,t3⟩
 ·exact .inr (.inl ⟨rfl,t1,t2,t3⟩)
 ·exact .inr (.inr ⟨rfl,t1,t2,t3⟩)
def Oh (ys:List Int)(k:Nat):Array Value:=#[.int .i64 (cnt 1 (ys.take k)),.int .i64 (cnt (-1) (ys.take k)),.int .i64 (cnt 0 (ys.take k))]
theorem Adm {ys:List Int}(k:Nat)(hl:ys.length<=1048576)(v:Int):(cnt v (ys.take k):Int)<=1048576:=by
 have:=Aa5 v (ys.take k);simp at this
 omega
theorem Aa7 {w W:World}{b:Nat}{ys:List Int}{T:TypeId}(k:Nat)(h:A7 w b (Oh ys k) T W)(hb:w.heap.size<=b) :
 (∀p q r:Nat,cnt 1 (ys.take k)=p->cnt (-1) (ys.take k)=q->cnt 0 (ys.take k)=r ->
  (cnt 1 (ys.take (k+1))=p+1->cnt (-1) (ys.take (k+1))=q->cnt 0 (ys.take (k+1))=r->A7 w b (Oh ys (k+1)) T (W.setCell ⟨b,0,none⟩ (.int .i64 (p+1)))) /\
  (cnt 1 (ys.take (k+1))=p->cnt (-1) (ys.take (k+1))=q+1->cnt 0 (ys.take (k+1))=r->A7 w b (Oh ys (k+1)) T (W.setCell ⟨b,1,none⟩ (.int .i64 (q+1)))) /\
  (cnt 1 (ys.take (k+1))=p->cnt (-1) (ys.take (k+1))=q->cnt 0 (ys.take (k+1))=r+1->A7 w b (Oh ys (k+1)) T (W.setCell ⟨b,2,none⟩ (.int .i64 (r+1))))):=by
 rintro p q r rfl rfl rfl
 refine⟨fun e1 e2 e3=>?_,fun e1 e2 e3=>?_,fun e1 e2 e3=>?_⟩
 ·have:=h.set hb 0 (.int .i64 ((cnt 1 (ys.take k):Int)+1));unfold Oh at this ⊢;rw[e1,e2,e3]
  exact this
 ·have:=h.set hb 1 (.int .i64 ((cnt (-1) (ys.take k):Int)+1));unfold Oh at this ⊢;rw[e1,e2,e3]
  exact this
 ·have:=h.set hb 2 (.int .i64 ((cnt 0 (ys.take k):Int)+1));unfold Oh at this ⊢;rw[e1,e2,e3]
  exact this
theorem A06 (a':Option Addr)(c':Nat)(ys:List Int)(hl:ys.length<=1048576)(hm1:∀y,y∈ys->-1<=y/\y<=1)(w:World)(hs:Sl w a' (ys.map By)) :
 Calls Vp.prog 35 #[.slice a' ys.length c'] w fun e w'=>e=.returned (.agg (Oh ys ys.length))/\Below w.heap.size w w':=by
 have HT:=Aly (fun k=>A7c hm1 k)
 have HM:=Aly (fun k=>Adm k hl)
 have H2:=Aly hs;obtain⟨m,hm⟩:∃m,ys.length=m:=⟨_,rfl⟩;rw[hm]at hl HT ⊢;have R0:=(A7.new w #[.int .i64 0,.int .i64 0,.int .i64 0] 76).alloc (.cells #[.int .i64 0,.int .i64 0,.int .i64 0] 76);have O0:=(A7.new (w.alloc (.cells #[.int .i64 0,.int .i64 0,.int .i64 0] 76)) #[.int .i64 0,.int .i64 0,.int .i64 0] 76).up ((Amc w.heap.size w).alloc (Am0 _) _);rw[show(w.alloc (.cells #[.int .i64 0,.int .i64 0,.int .i64 0] 76)).heap.size=w.heap.size+1 by simp]at O0
 have HB:Hid (A7 w w.heap.size #[.int .i64 0,.int .i64 0,.int .i64 0] 76 ((w.alloc (.cells #[.int .i64 0,.int .i64 0,.int .i64 0] 76)).alloc (.cells #[.int .i64 0,.int .i64 0,.int .i64 0] 76))):=R0;have HR:Hid (A7 w (w.heap.size+1) (Oh ys 0) 76 ((w.alloc (.cells #[.int .i64 0,.int .i64 0,.int .i64 0] 76)).alloc (.cells #[.int .i64 0,.int .i64 0,.int .i64 0] 76))):=O0;clear hs hm1 R0 O0 hm
 go_enter Vp.func35,Tryz.ntmps35
 go_wp2
 go_loopw [5,8,17,23] (fun _ i _ _ wr=>∃k:Nat,k<=m/\i=.int .i64 k/\Hid (A7 w w.heap.size #[.int .i64 0,.int .i64 0,.int .i64 0] 76 wr)/\Hid (A7 w (w.heap.size+1) (Oh ys k) 76 wr)) (fun _ i _ _ _=>(m-intOf i).toNat)
 case atStart=>exact⟨0,by omega,rfl,HB.out,HR.out⟩
 case round =>
  obtain⟨k,hk,rfl,HB,HR⟩:=hrel;have R:=HR.out
  by_cases hlt:k<m
  ·obtain⟨y,hyk,hy⟩:=HT.out k hlt;obtain⟨b',off',rfl,hc'⟩:=(H2.out.step HB.out.old).at hyk;obtain⟨HS1,HS2,HS3⟩:=Aa7 k R (by omega) _ _ _ rfl rfl rfl
   replace HS1:=Aly HS1;replace HS2:=Aly HS2;replace HS3:=Aly HS3;have m1:=HM.out k 1;have m2:=HM.out k (-1);have m3:=HM.out k 0;have c0:=R.cell 0 (.int .i64 (cnt 1 (ys.take k))) rfl;have c1:=R.cell 1 (.int .i64 (cnt (-1) (ys.take k))) rfl;have c2:=R.cell 2 (.int .i64 (cnt 0 (ys.take k))) rfl;have f0:=R.frozen 0;have f1:=R.frozen 1;have f2:=R.frozen 2;have hlw:=R.lt;clear hyk R;obtain⟨p,hp⟩:∃p,cnt 1 (ys.take k)=p:=⟨_,rfl⟩;obtain⟨q,hq⟩:∃q,cnt (-1) (ys.take k)=q:=⟨_,rfl⟩;obtain⟨r,hr⟩:∃r,cnt 0 (ys.take k)=r:=⟨_,rfl⟩;rw[hp]at HS1 HS2 HS3 m1 hy c0;rw[hq]at HS1 HS2 HS3 m2 hy c1;rw[hr]at HS1 HS2 HS3 m3 hy c2;have HP:=Aly hp;have HQ:=Aly hq;have HRR:=Aly hr;clear hp hq hr
   rcases hy with⟨rfl,e1,e2,e3⟩ |⟨rfl,e1,e2,e3⟩ |⟨rfl,e1,e2,e3⟩
   ·have HN:=Aly (HS1.out e1 e2 e3);have HB2:=Aly (HB.out.other (p:=⟨w.heap.size+1,0,none⟩) (by simp) (by simp) (.int .i64 (p+1)))
    clear e1 e2 e3 HS1 HS2 HS3
    go_wp2
    go_roundw
    case rel=>exact⟨k+1,by omega,by go_num,HB2.out,HN.out⟩
    case measure=>simp[intOf];omega
   ·have HN:=Aly (HS2.out e1 e2 e3);have HB2:=Aly (HB.out.other (p:=⟨w.heap.size+1,1,none⟩) (by simp) (by simp) (.int .i64 (q+1)))
    clear e1 e2 e3 HS1 HS2 HS3
    go_wp2
    go_roundw
    case rel=>exact⟨k+1,by omega,by go_num,HB2.out,HN.out⟩
    case measure=>simp[intOf];omega
   ·have HN:=Aly (HS3.out e1 e2 e3);have HB2:=Aly (HB.out.other (p:=⟨w.heap.size+1,2,none⟩) (by simp) (by simp) (.int .i64 (r+1)))
    clear e1 e2 e3 HS1 HS2 HS3
    go_wp2
    go_roundw
    case rel=>exact⟨k+1,by omega,by go_num,HB2.out,HN.out⟩
    case measure=>simp[intOf];omega
  ·obtain rfl:k=m:=by omega
   have B:=HB.out;have c0:=R.cell 0 (.int .i64 (cnt 1 (ys.take k))) rfl;have c1:=R.cell 1 (.int .i64 (cnt (-1) (ys.take k))) rfl;have c2:=R.cell 2 (.int .i64 (cnt 0 (ys.take k))) rfl;have d0:=B.cell 0 (.int .i64 0) rfl;have d1:=B.cell 1 (.int .i64 0) rfl;have d2:=B.cell 2 (.int .i64 0) rfl;have f0:=B.frozen 0;have f1:=B.frozen 1;have f2:=B.frozen 2;have hbl:=B.lt;have HD:=Aly (((B.old.setCell (p:=⟨w.heap.size,0,none⟩) (Am0 _) (.int .i64 (cnt 1 (ys.take k)))).setCell (p:=⟨w.heap.size,1,none⟩) (Am0 _) (.int .i64 (cnt (-1) (ys.take k)))).setCell (p:=⟨w.heap.size,2,none⟩) (Am0 _) (.int .i64 (cnt 0 (ys.take k))));clear R B
   go_wp2
   exact Am5 (v:=.agg (Oh ys k)) (by simp[results,Tryz.f35,go_sem,Oh,d0,d1,d2]) rfl ⟨rfl,HD.out⟩
end
end Go.Proofs.YtjaehldnlamgkaaGreatDoor
