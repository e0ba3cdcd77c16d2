import Derived.Test.YtlfleicchbgcmaaGreatZr18
import Derived.Sort.LotA
import Derived.Shelf.SlSortCmp.WholeK
import Derived.Sort.Walk0
import Derived.BigRegion
import Derived.Test.YtlfleicchbgcmaaGreatZr0
import Derived.Test.YtlfleicchbgcmaaGreatZrK
set_option linter.all false
set_option maxHeartbeats 16000000
set_option maxRecDepth 100000
namespace Go.Proofs.YtlfleicchbgcmaaGreat
section
open Go.RowKit
attribute [local go_sem] A7 A5
structure Qb (B:Nat)(a1:Option Addr)(c1:Nat)(a2:Option Addr)(c2 cx cy:Nat)(deep size:Int)(xs:List Nat)(ys:List Int)(w':World):Prop where
 s1:Sl w' a1 (xs.map Dd)
 s2:Sl w' a2 (ys.map Ax)
 k1:xs.length<=c1
 k2:ys.length<=c2
 n1:∀g o s,a1=some ⟨g,o,s⟩->B<=g
 n2:∀g o s,a2=some ⟨g,o,s⟩->B<=g
 hx:∀x,x∈xs->x<4294967296
 hy:∀y,y∈ys->-1<=y/\y<=2
 bx:cx<4294967296
 by1:cy<4294967296
 pl:Bh cx cy deep size=true
 ly:ys.length=size.toNat*size.toNat
 lx:xs.length=ys.length\/xs.length+1=ys.length
theorem Qb.step {B:Nat}{a1:Option Addr}{c1:Nat}{a2:Option Addr}{c2 cx cy:Nat}{deep size:Int}{xs:List Nat}{ys:List Int}{w w':World}(h:Qb B a1 c1 a2 c2 cx cy deep size xs ys w)(k:Below w.heap.size w w'):Qb B a1 c1 a2 c2 cx cy deep size xs ys w' :=
 ⟨h.s1.step k,h.s2.step k,h.k1,h.k2,h.n1,h.n2,h.hx,h.hy,h.bx,h.by1,h.pl,h.ly,h.lx⟩
theorem Qb.lim {B:Nat}{a1:Option Addr}{c1:Nat}{a2:Option Addr}{c2 cx cy:Nat}{deep size:Int}{xs:List Nat}{ys:List Int}{w:World}(h:Qb B a1 c1 a2 c2 cx cy deep size xs ys w):1<=size/\size<=8/\0<=deep/\deep<=10/\1<=ys.length/\ys.length<=64/\xs.length<=64 /\(ys.length:Int)=size*size:=by
 obtain⟨h1,h2,h3,h4⟩:=Bs h.pl;obtain⟨s,rfl⟩:=Aqg (show 0<=size by omega)
 have hl:=h.ly;rw[Aqk]at hl;have h5:s*s<=8*8:=Aqh (by omega) (by omega)
 have h6:1*1<=s*s:=Aqh (by omega) (by omega)
 have h7:=h.lx
 refine⟨h3,h4,h1,h2,by omega,by omega,by omega,?_⟩
 rw[hl];simp
end
section
def cnt (v:Int)(ys:List Int):Nat:=(ys.filter (fun y=>decide (y=v))).length
theorem Jj (v y:Int)(ys:List Int):cnt v (y :: ys)=cnt v ys+if y=v then 1 else 0:=by
 unfold cnt
 by_cases h:y=v
 ·rw[List.filter_cons_of_pos (by simpa using h),Apb h];rfl
 ·rw[List.filter_cons_of_neg (by simpa using h),Ap8 h];rfl
theorem Ab9 (v y:Int)(ys:List Int):cnt v (ys++[y])=cnt v ys+if y=v then 1 else 0:=by
 unfold cnt;rw[List.filter_append,Apz]
 by_cases h:y=v
 ·rw[List.filter_cons_of_pos (by simpa using h),Apb h];rfl
 ·rw[List.filter_cons_of_neg (by simpa using h),Ap8 h];rfl
theorem Sz (v:Int)(ys:List Int)(k:Nat)(h:k<ys.length):cnt v (ys.take (k+1))=cnt v (ys.take k)+if ys[k]=v then 1 else 0:=by
 rw[<-List.take_append_getElem h,Ab9]
theorem Ahg (v:Int)(ys:List Int):cnt v ys<=ys.length:=List.length_filter_le _ _
theorem A8o {ys:List Int}(h:∀y,y∈ys->-1<=y/\y<=1):cnt 1 ys+cnt (-1) ys+cnt 0 ys=ys.length:=by
 induction ys with
 | nil=>rfl
 | cons y ys ih =>
   have h1:=h y (by simp)
   have h2:=ih (fun z hz=>h z (Atv _ hz))
   rw[Jj,Jj,Jj,Aqx]
   rcases(by omega:y=-1\/y=0\/y=1)with rfl|rfl|rfl
   ·simp;omega
   ·simp;omega
   ·simp;omega
end
section
def jq (n c k:Nat):Nat:=(2 *(c / n)+k / 2) / n*2 +(2 *(c % n)+k % 2) / n
def jat (n c k:Nat):Nat:=(2 *(c / n)+k / 2) % n*n +(2 *(c % n)+k % 2) % n
theorem Ahs:∀n:Fin 9,∀c:Fin 64,∀k:Fin 4,1<=n.val->c.val<n.val*n.val->jq n.val c.val k.val<4/\jat n.val c.val k.val<n.val*n.val:=by decide +kernel
theorem Akl {n c k:Nat}(h1:1<=n)(h8:n<=8)(hc:c<n*n)(hk:k<4):jq n c k<4/\jat n c k<n*n:=by
 have:n*n<=8*8:=Aqh h8 h8
 exact Ahs ⟨n,by omega⟩ ⟨c,by omega⟩ ⟨k,hk⟩ h1 hc
def A4t (n c:Nat):List (Nat×Nat):=(List.range 4).map fun k=>(jq n c k,jat n c k)
def Z8 (n:Nat):List (Nat×Nat):=(List.range (n*n)).flatMap (A4t n)
def Aeo (n:Nat):List (Nat×Nat):=(List.range 4).flatMap fun q=>(List.range (n*n)).map fun a=>(q,a)
theorem Acy:∀n:Fin 9,(Z8 n.val).isPerm (Aeo n.val)=true:=by decide +kernel
theorem A4h {n:Nat}(h:n<=8):(Z8 n).Perm (Aeo n):=List.isPerm_iff.1 (Acy ⟨n,by omega⟩)
def jm (Y:Nat->List Int)(n c k:Nat):Int:=(Y (jq n c k)).getD (jat n c k) 0
def Qo (Y:Nat->List Int)(n c:Nat):Int:=if jm Y n c 0=jm Y n c 0/\jm Y n c 1=jm Y n c 0/\jm Y n c 2=jm Y n c 0/\jm Y n c 3=jm Y n c 0 then jm Y n c 0 else 0
def jys (Y:Nat->List Int)(n:Nat):List Int:=(List.range (n*n)).map (Qo Y n)
def isM (Y:Nat->List Int)(v:Int)(p:Nat×Nat):Bool:=decide ((Y p.1).getD p.2 0=v)
theorem A57 {Y:Nat->List Int}{v:Int}(hv:v≠0)(n c:Nat):(4*if Qo Y n c=v then 1 else 0) <=(A4t n c).countP (isM Y v):=by
 by_cases h:Qo Y n c=v
 ·rw[Apb h];unfold Qo at h
  by_cases h4:jm Y n c 0=jm Y n c 0/\jm Y n c 1=jm Y n c 0/\jm Y n c 2=jm Y n c 0/\jm Y n c 3=jm Y n c 0
  ·rw[Apb h4]at h;obtain⟨-,h1,h2,h3⟩:=h4;rw[h]at h1 h2 h3;have e0:isM Y v (jq n c 0,jat n c 0)=true:=Apj h;have e1:isM Y v (jq n c 1,jat n c 1)=true:=Apj h1;have e2:isM Y v (jq n c 2,jat n c 2)=true:=Apj h2;have e3:isM Y v (jq n c 3,jat n c 3)=true:=Apj h3
   show 4<=List.countP _ [(jq n c 0,jat n c 0),(jq n c 1,jat n c 1),(jq n c 2,jat n c 2),(jq n c 3,jat n c 3)]
   simp[e0,e1,e2,e3]
  ·rw[Ap8 h4]at h
   exact absurd h.symm hv
 ·rw[Ap8 h]
  exact Aq1 _
theorem Aca {Y:Nat->List Int}{v:Int}(hv:v≠0)(n:Nat):∀l:List Nat,4*cnt v (l.map (Qo Y n)) <=(l.flatMap (A4t n)).countP (isM Y v)
 | []=>Aq1 _
 | c :: l=>by
   rw[Aqo,Jj,Auc,List.countP_append];have h1:=Aca (Y:=Y) hv n l;have h2:=A57 (Y:=Y) hv n c
   omega
theorem Abw (ys:List Int)(n:Nat)(h:ys.length=n):((List.range n).map fun a=>ys.getD a 0)=ys:=by
 apply List.ext_getElem?
 intro i
 by_cases hi:i<n
 ·rw[Apv,Atz hi];simp only[Ary];rw[Asz,Apd (by omega)]
  rfl
 ·rw[As9 (by simp;omega),As9 (by omega)]
theorem A4k (v:Int)(ys:List Int):cnt v ys=ys.countP (fun y=>decide (y=v)):=by
 unfold cnt;rw[List.countP_eq_length_filter]
theorem Rs (Y:Nat->List Int)(v:Int)(q n:Nat)(h:(Y q).length=n):(((List.range n).map fun a=>(q,a)).countP (isM Y v))=cnt v (Y q):=by
 rw[A4k,<-Abw (Y q) n h,List.countP_map,List.countP_map]
 rfl
theorem Ac9 {Y:Nat->List Int}{v:Int}(hv:v≠0){n:Nat}(h8:n<=8)(hl:∀q,q<4 ->(Y q).length=n*n):4*cnt v (jys Y n)<=cnt v (Y 0)+cnt v (Y 1)+cnt v (Y 2)+cnt v (Y 3):=by
 have h1:=Aca (Y:=Y) hv n (List.range (n*n));have h2:(Z8 n).countP (isM Y v)=(Aeo n).countP (isM Y v):=(A4h h8).countP_eq _
 have h3:(Aeo n).countP (isM Y v)=cnt v (Y 0)+cnt v (Y 1)+cnt v (Y 2)+cnt v (Y 3):=by
  show List.countP _ (List.flatMap _ [0,1,2,3])=_
  rw[Auc,Auc,Auc,Auc,List.flatMap_nil,Ass,List.countP_append,List.countP_append,List.countP_append];rw[Rs Y v 0 _ (hl 0 (by omega)),Rs Y v 1 _ (hl 1 (by omega)),Rs Y v 2 _ (hl 2 (by omega)),Rs Y v 3 _ (hl 3 (by omega))]
  omega
 unfold jys;unfold Z8 at h2
 omega
theorem Aff (Y:Nat->List Int)(n:Nat):(jys Y n).length=n*n:=by unfold jys;simp
theorem Aht (Y:Nat->List Int){n c:Nat}(h:c<n*n):(jys Y n)[c]?=some (Qo Y n c):=by
 unfold jys;rw[Apv,Atz h];rfl
end
section
open Go.RowKit Flo
structure JT where
 cx:Nat
 cy:Nat
 deep:Int
 size:Int
 a1:Option Addr
 c1:Nat
 a2:Option Addr
 c2:Nat
 xs:List Nat
 ys:List Int
def JT.cells (t:JT):List Value:=[.complex .f32 t.cx t.cy,.int .i64 t.deep,.int .i64 t.size,.slice t.a1 t.xs.length t.c1,.slice t.a2 t.ys.length t.c2]
def JT.Ok (t:JT)(B:Nat)(W:World):Prop:=Qb B t.a1 t.c1 t.a2 t.c2 t.cx t.cy t.deep t.size t.xs t.ys W
structure JIn (B g:Nat)(L:List JT)(W:World):Prop where
 cell:∀(k j:Nat) (t:JT) (v:Value),L[k]?=some t->t.cells[j]?=some v->W.cell? ⟨g,k*5+j,none⟩=some v
 own:∀t,t∈L->t.Ok B W
theorem JIn.Ad {B g:Nat}{L:List JT}{W:World}(h:JIn B g L W){k:Nat}{t:JT}(ht:L[k]?=some t) :
 W.cell? ⟨g,k*5,none⟩=some (.complex .f32 t.cx t.cy)/\W.cell? ⟨g,k*5+1,none⟩=some (.int .i64 t.deep)/\W.cell? ⟨g,k*5+2,none⟩=some (.int .i64 t.size)/\W.cell? ⟨g,k*5+3,none⟩=some (.slice t.a1 t.xs.length t.c1)/\W.cell? ⟨g,k*5+4,none⟩=some (.slice t.a2 t.ys.length t.c2) :=
 ⟨h.cell k 0 t _ ht rfl,h.cell k 1 t _ ht rfl,h.cell k 2 t _ ht rfl,h.cell k 3 t _ ht rfl,h.cell k 4 t _ ht rfl⟩
theorem JIn.step {B g:Nat}{L:List JT}{W W':World}(h:JIn B g L W)(k:Below W.heap.size W W'):JIn B g L W' :=
 ⟨fun i j t v ht hv=>by
  have h1:=h.cell i j t v ht hv
  exact(k.cell (p:=⟨g,i*5+j,none⟩) (Apw W _ h1)).trans h1,fun t ht=>Qb.step (h.own t ht) k⟩
def JT.of (t:Aj):JT:=⟨t.cx,t.cy,t.deep,t.size,some ⟨t.gs,0,none⟩,t.cs,some ⟨t.gm,0,none⟩,t.cm,t.xs,t.ys⟩
theorem Cn.Ab6 {B:Nat}{t:Aj}{W:World}(h:Cn B t W):(JT.of t).cells=t.cells:=by
 obtain⟨h1,h2⟩:=h.lens;unfold JT.cells JT.of Aj.cells;dsimp only;rw[h1,h2]
theorem Cn.ok {B:Nat}{t:Aj}{W:World}(h:Cn B t W):(JT.of t).Ok B W:=by
 obtain⟨h1,h2⟩:=h.lens;have b1:=Zy h.made.S;have b2:=Zy h.made.M
 exact⟨Es h.made.S,Es h.made.M,by show t.xs.length<=t.cs;rw[h1];exact h.ks,by show t.ys.length<=t.cm;rw[h2];exact h.km,fun g o s e=>by injection e with e;injection e with e;omega,fun g o s e=>by injection e with e;injection e with e;omega,h.made.hx,fun y hy=>by have:=h.made.hy y hy;omega,h.bx,h.by1,h.pl,h2,.inl (h1.trans h2.symm)⟩
theorem Pr:∀(L:List Aj) (k j:Nat) (t:Aj) (v:Value),L[k]?=some t->t.cells[j]?=some v ->(Ac L)[k*5+j]?=some v
 | [],k,j,t,v,h,_=>by simp at h
 | u :: L,0,j,t,v,h,hv=>by
   have e:u=t:=by simpa using h
   subst e
   show(u.cells++Ac L)[0*5+j]?=_
   have hj:j<5:=(Apg.1 hv).1;rw[Ar4 (by show 0*5+j<5;omega),Nat.zero_mul,Aqr]
   exact hv
 | u :: L,k+1,j,t,v,h,hv=>by
   show(u.cells++Ac L)[(k+1)*5+j]?=_
   rw[Are (by show 5 <=(k+1)*5+j;omega)]
   show(Ac L)[(k+1)*5+j-5]?=_
   rw[show(k+1)*5+j-5=k*5+j by omega]
   exact Pr L k j t v (by simpa using h) hv
theorem Ce.jin {B:Nat}{L:List Aj}{g cap:Nat}{W:World}(h:Ce B L (.slice (some ⟨g,0,none⟩) L.length cap) W):JIn B g (L.map JT.of) W:=by
 refine⟨fun k j t v ht hv=>?_,fun t ht=>?_⟩
 ·rw[Apv]at ht;obtain⟨u,hu,rfl⟩:=Ape.1 ht;have hm:=Aq7 hu;rw[(h.own u hm).Ab6]at hv;have hk:k<L.length:=(Apg.1 hu).1;have hj:j<5:=(Apg.1 hv).1;rw[h.row.cellAt (k*5+j) (by omega)]
  exact Pr L k j u v hu hv
 ·obtain⟨u,hu,rfl⟩:=Aq5.1 ht
  exact(h.own u hu).ok
end
section
open Go.RowKit Flo
attribute [local go_sem] A7 A5
def A6s (cx cy d:Nat)(s:Int):Prop :=
 floatBits .mul .f32 (floatOfInt .f32 s) (De (d+1))=some (Eg d s)/\floatBits .add .f32 cx (Eg d s)=some (Ff cx (Eg d s))/\floatBits .add .f32 cy (Eg d s)=some (Ff cy (Eg d s))/\floatBits .add .f32 cx 0=some (Ff cx 0)/\floatBits .add .f32 cy 0=some (Ff cy 0)
theorem Ad4 {cx cy d:Nat}{A B s:Int}(hd:d<=10)(hx:Pt cx (d+1) A)(hy:Pt cy (d+1) B)(hA:A.natAbs<=16384)(hB:B.natAbs<=16384)(hs:s.natAbs<=100):A6s cx cy d s:=by
 have f:=Zf (s:=s) hd (by omega)
 have z:=A04 (d+1);have h1:=F9 (by omega) hx f.2 (by omega)
 have h2:=F9 (by omega) hy f.2 (by omega)
 have h3:=F9 (by omega) hx z (by omega)
 have h4:=F9 (by omega) hy z (by omega)
 exact⟨f.1,h1.1,h2.1,h3.1,h4.1⟩
theorem Oz (cx cy d:Nat)(s:Int)(hd:d<=10)(hq:A6s cx cy d s)(w:World) :
 Calls Vp.prog 53 #[.complex .f32 cx cy,.int .i64 d,.int .i64 s] w fun e w'=>e=.returned (.agg (Lw cx cy d s))/\Below w.heap.size w w':=by
 obtain⟨h1,h2,h3,h4,h5⟩:=hq;have R:=A9.new w #[.complex .f32 0 0,.complex .f32 0 0,.complex .f32 0 0,.complex .f32 0 0] 101;have g0:=fun w=>Aqa (P:=Vp.prog) w .mul 74 .f32 _ _ _ h1
 have g1:=fun w=>At3 (P:=Vp.prog) w .add (.inl rfl) 23 .f32 cx cy (Eg d s) 0 _ _ (by unfold cSumBits;rw[h2,h5];rfl)
 have g2:=fun w=>At3 (P:=Vp.prog) w .add (.inl rfl) 23 .f32 cx cy 0 (Eg d s) _ _ (by unfold cSumBits;rw[h4,h3];rfl)
 have g3:=fun w=>At3 (P:=Vp.prog) w .add (.inl rfl) 23 .f32 cx cy (Eg d s) (Eg d s) _ _ (by unfold cSumBits;rw[h2,h3];rfl)
 have HS:Hid (∀w,Calls Vp.prog 56 #[.int .i64 ((d:Int)+1)] w fun e w'=>e=.returned (.float .f32 (De (d+1)))/\w=w'):=fun w=>Y3 (d+1) (by omega) w
 unfold Lw;clear h1 h2 h3 h4 h5;generalize Ff cx (Eg d s)=x1 at *;generalize Ff cy (Eg d s)=y1 at *;generalize Ff cx 0=x0 at *;generalize Ff cy 0=y0 at *;generalize Eg d s=f at *;generalize De (d+1)=sd at *;have e1:IntKind.i64.wrap ((d:Int)+1)=(d:Int)+1:=Aq4 _ (by omega)
 clear R
 go_enter Vp.func53,Tryz.ntmps53
 go_wp2_with (go_at_call 56;refine(HS.out _).mono ?_;rintro e w' ⟨rfl,rfl⟩)
 exact Ap4 (v:=.agg #[.complex .f32 cx cy,.complex .f32 x1 y0,.complex .f32 x0 y1,.complex .f32 x1 y1]) (by simp[results,Tryz.f53,go_sem]) rfl ⟨rfl,(Aph _ _).alloc (Ap0 _) _⟩
end
section
open Go.RowKit Flo
attribute [local go_sem ↓] Go.wp_at_zero Go.wp_at_succ
attribute [local go_sem] A7 A5
theorem A2c (cx cy d:Nat)(s:Int)(k:Nat)(h:k<4)(w:World):(Instr.index 101 (.agg (Lw cx cy d s)) (.int .i64 k)).run Vp.prog w=.ok (.complex .f32 (Bj cx cy d s k).1 (Bj cx cy d s k).2) w:=by
 rcases(by omega:k=0\/k=1\/k=2\/k=3)with rfl|rfl|rfl|rfl<;>kernel_rfl
theorem Vl (cx cy d:Nat)(s A4:Int)(hx:cx<4294967296)(hy:cy<4294967296)(hp:Bh cx cy d s=true)(a a':Option Addr)(n c c':Nat)(ys:List Int)(hl:ys.length<=1048576)(hwell:Ck s n ys=true)(w:World)(hs:Sl w a' (ys.map Ax)) :
 Calls Vp.prog 26 #[.agg #[.complex .f32 cx cy,.int .i64 d,.int .i64 s,.slice a n c,.slice a' ys.length c'],.int .i64 A4] w (Lc w cx cy d s A4):=by
 obtain⟨d',A,B,hd',hd,hA,hB,-,-,ha,hb⟩:=Xr hx hy hp;obtain rfl:d=d':=by omega
 obtain⟨h1,h2,h3,h4⟩:=Bs hp;have HW:=Aoy (fun W (hW:Below w.heap.size w W)=>A2a cx cy d s hx hy hp a a' n c c' ys hl W (hs.step hW))
 rw[hwell]at HW;have HQ:=(U5 (s:=s) hd hA hB (by omega) (by omega) (by omega)).2.2.2.2.2
 have HQ2:Hid (∀k,k<4 ->(Bj cx cy d s k).1<4294967296 /\(Bj cx cy d s k).2<4294967296):=fun k hk=>by
  obtain⟨u,v,-,-,p1,p2⟩:=HQ k hk
  exact⟨A7m p1,A7m p2⟩
 have HC:=Aoy (fun W=>Oz cx cy d s hd (Ad4 hd (Xu hd hA) (Xu hd hB) (by omega) (by omega) (by omega)) W)
 have R:=A9.new w #[.complex .f32 cx cy,.int .i64 d,.int .i64 s,.slice a n c,.slice a' ys.length c'] 35;clear HQ hs hp hA hB hd' hwell;have HR:=Aoy R;obtain⟨r0,r1,r2,r3,r4⟩:=R.Ad;have hwl:=R.lt;clear R;obtain⟨iT,hiT,hzT0,hzT1,hzT2⟩:=Aqz Ac6;obtain⟨cT,hcT,hT⟩:=Fl (P:=Vp.prog) 56 35 iT _ (Vp.Dw Tryz.underlying56) hiT hzT0 4 (by omega) (by omega)
 have hT4:∀w:World,(Instr.makeSlice 56 (.int .i64 0) (.int .i64 4)).run Vp.prog w=.ok (.slice (some ⟨w.heap.size,0,none⟩) 0 4) (w.alloc (.cells cT 35)):=hT;have hcT2:cT.size=4*5:=by rw[hcT,hzT1]
 go_enter Vp.func26,Tryz.ntmps26
 go_wp2_with fail
 refine(HW.out _ HR.out.old).mono ?_
 rintro e w1 ⟨rfl,hd1⟩;have HR1:=Aoy ((HR.out.step hd1).alloc (.cells cT 35));have hsz1:w.heap.size<w1.heap.size:=(HR.out.step hd1).lt
 have HT1:Hid (Ce (w.heap.size+1) [] (.slice (some ⟨w1.heap.size,0,none⟩) 0 4) (w1.alloc (.cells cT 35))) :=
  ⟨⟨by simp[Ac],.inr ⟨w1.heap.size,4,cT,rfl,hsz1,Arc w1 _,by simp,by unfold maxLen;omega,hcT2,by simp[Ac]⟩⟩,fun t ht=>by cases ht⟩
 clear hd1 r0 r1 r2 r3 r4 HR HW;obtain⟨r0,r1,r2,r3,r4⟩:=HR1.out.Ad
 go_wp2_with fail
 refine(HC.out _).mono ?_
 rintro e w2 ⟨rfl,hd2⟩;have HR2:=Aoy (HR1.out.step hd2);have HT2:=Aoy (HT1.out.step hd2);clear hd2 r0 r1 r2 r3 r4 HR1 HT1 HC hT hT4 hcT hcT2;have HIX:=Aoy (A2c cx cy d s)
 go_wp2
 generalize w1.heap.size=g0 at *
 go_loopw [6,23] (fun o i wr=>∃(k g cap:Nat) (L:List Aj),k<=4/\i=.int .i64 k/\o=.slice (some ⟨g,0,none⟩) k cap/\Hid (L.length=k)/\Hid (A9 w w.heap.size #[.complex .f32 cx cy,.int .i64 d,.int .i64 s,.slice a n c,.slice a' ys.length c'] 35 wr)/\Hid (Ce (w.heap.size+1) L (.slice (some ⟨g,0,none⟩) k cap) wr)/\Hid (∀j t,L[j]?=some t->t.cx=(Bj cx cy d s j).1/\t.cy=(Bj cx cy d s j).2/\t.deep=(d:Int)+1/\t.size=s/\Dq A4 t)) (fun _ i _=>(4-intOf i).toNat)
 case atStart=>exact⟨0,g0,4,[],by omega,rfl,rfl,rfl,HR2.out,HT2.out,fun j t h=>by simp at h⟩
 case round =>
  clear HR2 HT2;obtain⟨k,g,cap,L,hk,rfl,rfl,HL,HR,HT,HQL⟩:=hrel;obtain⟨wo,rfl⟩:∃wo,wo=wr:=⟨_,rfl⟩
  by_cases hlt:k<4
  ·have hix:=HIX.out k hlt;obtain⟨r0,r1,r2,r3,r4⟩:=HR.out.Ad;have hq2:=HQ2.out k hlt;have e1:IntKind.i64.wrap ((d:Int)+1)=(d:Int)+1:=Aq4 _ (by omega)
   have hszw:=HR.out.lt;generalize hpx:(Bj cx cy d s k).1=px at *;generalize hpy:(Bj cx cy d s k).2=py at *;have HPX:=Aoy hpx;have HPY:=Aoy hpy;clear hpx hpy
   go_wp2_with fail
   refine(Xa px py _ _ _ hq2.1 hq2.2 _).mono ?_
   rintro e w5 ⟨⟨x,y,dd,ss,a1,n1,c1,a2,n2,c2,ok,rfl,hM⟩,hb5⟩;clear r0 r1 r2 r3 r4 hix e1;have HB5:=Aoy hb5;have HR5:=Aoy ((HR.out.step hb5).alloc (.cells #[.complex .f32 x y,.int .i64 dd,.int .i64 ss,.slice a1 n1 c1,.slice a2 n2 c2] 35));have HT5:=Aoy ((HT.out.step hb5).step ((Aph _ _).alloc (Ap0 _) (.cells #[.complex .f32 x y,.int .i64 dd,.int .i64 ss,.slice a1 n1 c1,.slice a2 n2 c2] 35)));have hsz5:=hb5.size;have Z:=A9.new w5 #[.complex .f32 x y,.int .i64 dd,.int .i64 ss,.slice a1 n1 c1,.slice a2 n2 c2] 35;obtain⟨p0,p1,p2,p3,p4⟩:=Z.Ad;have HM:=Aoy hM;clear hM hb5 Z
   cases ok with
   | false =>
     have HB:=Aoy (HR5.out.old.alloc (by simp;omega) (.cells #[] 35))
     have HNO:=Aoy (HM.out.1 rfl).1
     go_wp2
     go_ret2
     exact⟨.inl ⟨_,_,rfl,k,hlt,by rw[HPX.out,HPY.out];exact HNO.out⟩,HB.out⟩
   | true =>
     obtain⟨t,e1,e2,e3,e4,e5,ht,hgood⟩:=HM.out.2 rfl;have HTo:Hid (Cn wo.heap.size t (w5.alloc (.cells #[.complex .f32 x y,.int .i64 dd,.int .i64 ss,.slice a1 n1 c1,.slice a2 n2 c2] 35))):=ht.step ((Aph _ _).alloc (Ap0 _) _)
     have HC5:Hid ([.complex .f32 x y,.int .i64 dd,.int .i64 ss,.slice a1 n1 c1,.slice a2 n2 c2]=t.cells):=by
      injection e5 with e5
      have:=congrArg Array.toList e5
      exact this
     have HE:Hid (t.cx=(Bj cx cy d s k).1/\t.cy=(Bj cx cy d s k).2/\t.deep=(d:Int)+1/\t.size=s/\Dq A4 t):=by
      refine⟨e1.trans HPX.out.symm,e2.trans HPY.out.symm,e3,e4,hgood⟩
     have hbs:w.heap.size+1<=w5.heap.size:=by omega
     have HL2:Hid (∀j t',(L++[t])[j]?=some t'->t'.cx=(Bj cx cy d s j).1/\t'.cy=(Bj cx cy d s j).2/\t'.deep=(d:Int)+1/\t'.size=s/\Dq A4 t'):=fun j t' hj=>by
      have hLk:=HL.out
      by_cases hjk:j<L.length
      ·rw[Ar4 hjk]at hj
       exact HQL.out j t' hj
      ·rw[Are (by omega)]at hj
       by_cases h0:j-L.length=0
       ·rw[h0]at hj;injection hj with hj
        obtain rfl:j=k:=by omega
        rw[<-hj];exact HE.out
       ·rw[As9 (by simp;omega)]at hj;cases hj
     clear e1 e2 e3 e4 e5 ht hgood HM
     go_wp2_with (at_builtin;go_must (refine wpList_append_lies _ rfl _ _ _ rfl (w.heap.size+1) 35 iT _ 5 72 (Vp.Dw Tryz.underlying56) hiT hzT0 hzT1 hzT2 rfl (by omega) _ k (Ac L) rfl (by rw[<-HL.out];have:=(HT5.out.row.alloc (.cells #[.complex .f32 x y,.int .i64 dd,.int .i64 ss,.slice a1 n1 c1,.slice a2 n2 c2] 35));rw[HL.out]at this ⊢;exact this) ⟨w5.heap.size+1,0,none⟩ 1 1 [.complex .f32 x y,.int .i64 dd,.int .i64 ss,.slice a1 n1 c1,.slice a2 n2 c2] rfl rfl (World.news_of_block (cs:=#[.complex .f32 x y,.int .i64 dd,.int .i64 ss,.slice a1 n1 c1,.slice a2 n2 c2]) (t:=35) (fr:=(0,0)) (by have:=Arc (w5.alloc (.cells #[.complex .f32 x y,.int .i64 dd,.int .i64 ss,.slice a1 n1 c1,.slice a2 n2 c2] 35)) (.cells #[.complex .f32 x y,.int .i64 dd,.int .i64 ss,.slice a1 n1 c1,.slice a2 n2 c2] 35);rw[Apl]at this;exact this)) (by intro u hu;simp only[Aqe,Aqc,As6]at hu;rcases hu with rfl|rfl|rfl|rfl|rfl<;>rfl) (by omega) (by unfold maxLen;omega) (by omega) (by simp;omega) (w5.heap.size+1+1) (by simp) ?_);intro g8 c8 w8 hown hgrow _ _)
     have T9:=HT5.out.step ((Aph _ _).alloc (Ap0 _) (.cells #[.complex .f32 x y,.int .i64 dd,.int .i64 ss,.slice a1 n1 c1,.slice a2 n2 c2] 35));have R9:=HR5.out.alloc (.cells #[.complex .f32 x y,.int .i64 dd,.int .i64 ss,.slice a1 n1 c1,.slice a2 n2 c2] 35);have t9:=HTo.out.step ((Aph _ _).alloc (Ap0 _) (.cells #[.complex .f32 x y,.int .i64 dd,.int .i64 ss,.slice a1 n1 c1,.slice a2 n2 c2] 35));have hg:w.heap.size+1<=g:=Zy T9.row;have hrow:∀j,(some g:Option Nat)=some j->w.heap.size<=j:=fun j hj=>by injection hj with hj;omega
     have HR8:=Aoy (R9.grown (row:=some g) hgrow (fun e=>by injection e with e;omega) hrow)
     have HT8:Hid (Ce (w.heap.size+1) (L++[t]) (.slice (some ⟨g8,0,none⟩) (k+1) c8) w8):=by
      refine⟨?_,fun t' ht'=>?_⟩
      ·rw[Apz,HL.out,Qf,<-HC5.out]
       exact hown
      ·rcases Aq9.1 ht' with h|h
       ·exact(T9.own t' h).grown T9.row hgrow
       ·rw[Arq]at h;rw[h]
        exact(t9.grown T9.row hgrow).mono (by omega)
     clear T9 R9 t9 hown hgrow
     go_roundw
     case rel=>exact⟨k+1,g8,c8,L++[t],by omega,by go_num,rfl,by show(L++[t]).length=k+1;rw[Apz,HL.out];rfl,HR8,HT8,HL2⟩
     case measure=>simp[intOf];omega
  ·have HT4:Hid (Ce w.heap.size L (.slice (some ⟨g,0,none⟩) k cap) wo):=HT.out.mono (by omega)
   go_wp2
   go_ret2
   exact⟨.inr ⟨L,_,rfl,HT4.out,by have:=HL.out;omega,HQL.out⟩,HR.out.old⟩
end
section
open Go.RowKit Flo
def dig (c:UInt8):Prop:=48<=c.toNat/\c.toNat<=51
def L9 (cx cy d:Nat)(s:Int):Prop:=∀k,k<4->Wi (Bj cx cy d s k).1 (Bj cx cy d s k).2 ((d:Int)+1) s
def Gw (s:Int):List UInt8->Nat->Nat->Nat->Nat->Nat->Nat->Prop
 | [],cx,cy,d,x,y,dd=>x=cx/\y=cy/\dd=d
 | c :: cs,cx,cy,d,x,y,dd=>dig c/\L9 cx cy d s/\Gw s cs (Bj cx cy d s (c.toNat-48)).1 (Bj cx cy d s (c.toNat-48)).2 (d+1) x y dd
theorem Gw.fn {s:Int}:∀{bs:List UInt8} {cx cy d x y dd x' y' dd':Nat},Gw s bs cx cy d x y dd->Gw s bs cx cy d x' y' dd'->x=x'/\y=y'/\dd=dd'
 | [],_,_,_,_,_,_,_,_,_,⟨h1,h2,h3⟩,⟨g1,g2,g3⟩=>⟨h1.trans g1.symm,h2.trans g2.symm,h3.trans g3.symm⟩
 | _ :: _,_,_,_,_,_,_,_,_,_,⟨_,_,h⟩,⟨_,_,g⟩=>Gw.fn h g
theorem Gw.Ake {s:Int}:∀{bs:List UInt8} {cx cy d x y dd:Nat},Gw s bs cx cy d x y dd->∀c∈bs,dig c
 | [],_,_,_,_,_,_,_,c,h=>by cases h
 | a :: bs,_,_,_,_,_,_,⟨h1,_,h⟩,c,hc=>by
   rcases Aqe.1 hc with rfl|hc
   ·exact h1
   ·exact h.Ake c hc
theorem Gw.len {s:Int}:∀{bs:List UInt8} {cx cy d x y dd:Nat},Gw s bs cx cy d x y dd->dd=d+bs.length
 | [],_,_,_,_,_,_,⟨_,_,h⟩=>h
 | a :: bs,_,_,_,_,_,_,⟨_,_,h⟩=>by rw[h.len,Aqx];omega
def A4a (f:Nat):Prop:=∀(A4:Int) (t:Aj) (B:Nat) (W:World),Cn B t W->Dq A4 t->∃d:Nat,t.deep=d/\Calls Vp.prog f #[.agg t.cells.toArray,.int .i64 A4] W (Lc W t.cx t.cy d t.size A4)
theorem Ya {f:Nat} (h:∀(cx cy d:Nat) (s A4:Int),cx<4294967296->cy<4294967296->Bh cx cy d s=true->∀(a a':Option Addr) (n c c':Nat) (ys:List Int),ys.length<=1048576->Ck s n ys=true->∀w,Sl w a' (ys.map Ax) ->
 Calls Vp.prog f #[.agg #[.complex .f32 cx cy,.int .i64 d,.int .i64 s,.slice a n c,.slice a' ys.length c'],.int .i64 A4] w (Lc w cx cy d s A4)):A4a f:=by
 intro A4 t B W hO hG;obtain⟨d,s,hd,hs,hn,s1,s8,d10⟩:=hG.n;obtain⟨l1,l2⟩:=hO.lens;have hss:s*s<=64:=Aqh s8 s8
 refine⟨d,hd,?_⟩
 have hw:Ck t.size t.n t.ys=true:=Ux (by rw[hn,hs];simp) l2 fun j hj=>by
  have:=hO.made.hy t.ys[j] (Aui hj);unfold Dz Gt;simp only[Ap7,Apm]
  exact this
 have:=h t.cx t.cy d t.size A4 hO.bx hO.by1 (by rw[<-hd];exact hO.pl) (some ⟨t.gs,0,none⟩) (some ⟨t.gm,0,none⟩) t.n t.cs t.cm t.ys (by omega) hw W (Es hO.made.M)
 rw[l2]at this;rw[show(.agg t.cells.toArray:Value)=.agg #[.complex .f32 t.cx t.cy,.int .i64 d,.int .i64 t.size,.slice (some ⟨t.gs,0,none⟩) t.n t.cs,.slice (some ⟨t.gm,0,none⟩) t.n t.cm]from by unfold Aj.cells;rw[hd]]
 exact this
theorem A5v:A4a 21:=Ya fun cx cy d s A4 hx hy hp a a' n c c' ys hl hw w hs=>Vu cx cy d s A4 hx hy hp a a' n c c' ys hl hw w hs
theorem A53:A4a 26:=Ya fun cx cy d s A4 hx hy hp a a' n c c' ys hl hw w hs=>Vl cx cy d s A4 hx hy hp a a' n c c' ys hl hw w hs
theorem Ce.cells {B:Nat}{L:List Aj}{g cap:Nat}{W:World}(h:Ce B L (.slice (some ⟨g,0,none⟩) L.length cap) W){k:Nat}{t:Aj}(ht:L[k]?=some t) :
 W.cell? ⟨g,k*5,none⟩=some (.complex .f32 t.cx t.cy)/\W.cell? ⟨g,k*5+1,none⟩=some (.int .i64 t.deep)/\W.cell? ⟨g,k*5+2,none⟩=some (.int .i64 t.size)/\W.cell? ⟨g,k*5+3,none⟩=some (.slice (some ⟨t.gs,0,none⟩) t.n t.cs)/\W.cell? ⟨g,k*5+4,none⟩=some (.slice (some ⟨t.gm,0,none⟩) t.n t.cm):=by
 have hk:k<L.length:=(Apg.1 ht).1
 have at_:∀j v,j<5->t.cells[j]?=some v->W.cell? ⟨g,k*5+j,none⟩=some v:=fun j v hj hv=>by
  rw[h.row.cellAt (k*5+j) (by omega)]
  exact Pr L k j t v ht hv
 exact⟨at_ 0 _ (by omega) rfl,at_ 1 _ (by omega) rfl,at_ 2 _ (by omega) rfl,at_ 3 _ (by omega) rfl,at_ 4 _ (by omega) rfl⟩
end
section
open Go.RowKit Flo
attribute [local go_sem ↓] Go.wp_at_zero Go.wp_at_succ
attribute [local go_sem] A7 A5
structure Aav (w:World)(tb cx cy d0:Nat)(size A4:Int)(bs:List UInt8)(k:Nat)(t:Aj)(d:Nat)(W:World):Prop where
 R:A9 w w.heap.size #[.complex .f32 0 0,.int .i64 0,.int .i64 0,.slice none 0 0,.slice none 0 0] 35 W
 T:A9 w tb #[.complex .f32 t.cx t.cy,.int .i64 t.deep,.int .i64 t.size,.slice (some ⟨t.gs,0,none⟩) t.n t.cs,.slice (some ⟨t.gm,0,none⟩) t.n t.cm] 35 W
 own:Cn w.heap.size t W
 Ca:Dq A4 t
 deep:t.deep=d
 sz:t.size=size
 tbw:w.heap.size<tb
 path:∀x y dd,Gw size bs cx cy d0 x y dd↔Gw size (bs.drop k) t.cx t.cy d x y dd
section
variable {w W W' : World} {tb cx cy d0 : Nat} {size A4 : Int} {bs : List UInt8} {k : Nat} {t : Aj} {d : Nat}
theorem Aav.step (h:Aav w tb cx cy d0 size A4 bs k t d W)(b:Below W.heap.size W W'):Aav w tb cx cy d0 size A4 bs k t d W':=⟨h.R.step b,h.T.step b,h.own.step b,h.Ca,h.deep,h.sz,h.tbw,h.path⟩
end
end
section
open Go.RowKit Flo
attribute [local go_sem ↓] Go.wp_at_zero Go.wp_at_succ
attribute [local go_sem] A7 A5
theorem Ua (a b:Option Addr)(ca cb:Nat)(P:List ByteArray)(hn:P.length<=1048576)(w:World)(ha:Sl w a (P.map Value.string))(hb:Sl w b (P.map Value.string)) :
 Calls Vp.prog 23 #[.slice a P.length ca,.slice b P.length cb] w fun e w'=>e=.returned (.bool true)/\Au w w':=by
 obtain⟨n,hnn⟩:∃n,P.length=n:=⟨_,rfl⟩;have HX:Hid (∀k,k<n->∃x,(P.map Value.string)[k]?=some (.string x)):=fun k h=>⟨P[k]'(by omega),by rw[Apv,Apd (by omega)];rfl⟩
 have HA:=Aoy ha;have HB:=Aoy hb;rw[hnn]at hn ⊢;clear ha hb hnn
 go_enter Vp.func23,Tryz.ntmps23
 go_wp2
 go_loopw [5] (fun i wr=>∃k:Nat,k<=n/\i=.int .i64 k/\Hid (Au w wr)) (fun i _=>(n-intOf i).toNat)
 case atStart=>exact⟨0,by omega,rfl,Au.refl _⟩
 case round =>
  obtain⟨k,hk,rfl,HD⟩:=hrel
  by_cases hlt:k<n
  ·obtain⟨x,hx⟩:=HX.out k hlt;obtain⟨b1,o1,rfl,hc1⟩:=(HA.out.Wy HD.out).at hx;obtain⟨b2,o2,rfl,hc2⟩:=(HB.out.Wy HD.out).at hx;clear hx
   go_upto_region 6 with fail
   go_quiet (fail)
   have HD2:=Aoy (HD.out.drewN nq)
   go_wp2
   go_roundw
   case rel=>exact⟨k+1,by omega,by go_num,HD2⟩
   case measure=>simp[intOf];omega
  ·go_wp2
   go_ret
   exact⟨rfl,HD.out⟩
theorem U9 (a b:Option Addr)(ca cb:Nat)(xs:List Int)(hn:xs.length<=1048576)(w:World)(ha:Sl w a (xs.map Ax))(hb:Sl w b (xs.map Ax)) :
 Calls Vp.prog 24 #[.slice a xs.length ca,.slice b xs.length cb] w fun e w'=>e=.returned (.bool true)/\Au w w':=by
 obtain⟨n,hnn⟩:∃n,xs.length=n:=⟨_,rfl⟩;have HX:Hid (∀k,k<n->∃x,(xs.map Ax)[k]?=some (.int .i64 x)):=fun k h=>⟨xs[k]'(by omega),by rw[Apv,Apd (by omega)];rfl⟩
 have HA:=Aoy ha;have HB:=Aoy hb;rw[hnn]at hn ⊢;clear ha hb hnn
 go_enter Vp.func24,Tryz.ntmps24
 go_wp2
 go_loopw [5] (fun i wr=>∃k:Nat,k<=n/\i=.int .i64 k/\Hid (Au w wr)) (fun i _=>(n-intOf i).toNat)
 case atStart=>exact⟨0,by omega,rfl,Au.refl _⟩
 case round =>
  obtain⟨k,hk,rfl,HD⟩:=hrel
  by_cases hlt:k<n
  ·obtain⟨x,hx⟩:=HX.out k hlt;obtain⟨b1,o1,rfl,hc1⟩:=(HA.out.Wy HD.out).at hx;obtain⟨b2,o2,rfl,hc2⟩:=(HB.out.Wy HD.out).at hx;clear hx
   go_upto_region 6 with fail
   go_quiet (fail)
   have HD2:=Aoy (HD.out.drewN nq)
   go_wp2
   go_roundw
   case rel=>exact⟨k+1,by omega,by go_num,HD2⟩
   case measure=>simp[intOf];omega
  ·go_wp2
   go_ret
   exact⟨rfl,HD.out⟩
end
section
open Go.RowKit Flo
attribute [local go_sem ↓] Go.wp_at_zero Go.wp_at_succ
theorem Ng (pa pb oa ob:Option Addr)(n cp cp' co co':Nat)(P:List ByteArray)(ms:List Int)(hP:P.length=n)(hm:ms.length=n)(hn:n<=1000)(p q r:Int)(w:World)(h1:Sl w pa (P.map Value.string))(h2:Sl w pb (P.map Value.string))(h3:Sl w oa (ms.map Ax))(h4:Sl w ob (ms.map Ax)) :
 Calls Vp.prog 8 #[.agg #[.slice pa n cp,.slice oa n co,.int .i64 p,.int .i64 q,.int .i64 r],.agg #[.slice pb n cp',.slice ob n co',.int .i64 p,.int .i64 q,.int .i64 r]] w fun e w'=>e=.returned (.bool true)/\Below w.heap.size w w':=by
 have X:=(A9.new w #[.slice pa n cp,.slice oa n co,.int .i64 p,.int .i64 q,.int .i64 r] 29).alloc (.cells #[.slice pb n cp',.slice ob n co',.int .i64 p,.int .i64 q,.int .i64 r] 29);have Y:=(A9.new (w.alloc (.cells #[.slice pa n cp,.slice oa n co,.int .i64 p,.int .i64 q,.int .i64 r] 29)) #[.slice pb n cp',.slice ob n co',.int .i64 p,.int .i64 q,.int .i64 r] 29).up (A9.new w #[.slice pa n cp,.slice oa n co,.int .i64 p,.int .i64 q,.int .i64 r] 29).old;rw[Apl]at Y;have HX:=Aoy (And.intro X Y)
 have HT:Hid (∀W,Below w.heap.size w W->Calls Vp.prog 23 #[.slice pa n cp,.slice pb n cp'] W fun e w'=>e=.returned (.bool true)/\Au W w'):=fun W hW=>by
  have:=Ua pa pb cp cp' P (by omega) W (h1.step hW) (h2.step hW)
  rwa [hP]at this
 have HI:Hid (∀W,Below w.heap.size w W->Calls Vp.prog 24 #[.slice oa n co,.slice ob n co'] W fun e w'=>e=.returned (.bool true)/\Au W w'):=fun W hW=>by
  have:=U9 oa ob co co' ms (by omega) W (h3.step hW) (h4.step hW)
  rwa [hm]at this
 obtain⟨x0,x1,x2,x3,x4⟩:=X.Ad;obtain⟨y0,y1,y2,y3,y4⟩:=Y.Ad;clear X Y h1 h2 h3 h4
 go_enter Vp.func8,Tryz.ntmps8
 go_wp2_with fail
 refine(HT.out _ HX.out.1.old).mono ?_
 rintro e w1 ⟨rfl,hd1⟩;have HX1:=Aoy (And.intro (HX.out.1.step (hd1.below _)) (HX.out.2.step (hd1.below _)));clear hd1 x0 x1 x2 x3 x4 y0 y1 y2 y3 y4 HX;obtain⟨x0,x1,x2,x3,x4⟩:=HX1.out.1.Ad;obtain⟨y0,y1,y2,y3,y4⟩:=HX1.out.2.Ad
 go_wp2_with fail
 refine(HI.out _ HX1.out.1.old).mono ?_
 rintro e w2 ⟨rfl,hd2⟩;have HX2:=Aoy (And.intro (HX1.out.1.step (hd2.below _)) (HX1.out.2.step (hd2.below _)));clear hd2 x0 x1 x2 x3 x4 y0 y1 y2 y3 y4 HX1;obtain⟨x0,x1,x2,x3,x4⟩:=HX2.out.1.Ad;obtain⟨y0,y1,y2,y3,y4⟩:=HX2.out.2.Ad
 go_wp2
 go_ret
 exact⟨rfl,HX2.out.1.old⟩
end
section
open Go.Sort
section
variable {α : Type} [Inhabited α] (lt : α -> α -> Bool)
def Py:Nat->Array α->Nat->Array α
 | 0,d,_=>d
 | f+1,d,j=>if j=0 then d else if lt d[j]! d[(j-1) / 2]! = true then Py f (swp d j ((j-1) / 2)) ((j-1) / 2)else d
def N6 (d:Array α)(i n:Nat):Nat:=if 2*i+2<n/\lt d[2*i+2]! d[2*i+1]! = true then 2*i+2 else 2*i+1
def Dk (n:Nat):Nat->Array α->Nat->Array α
 | 0,d,_=>d
 | f+1,d,i=>if n<=2*i+1 then d else if lt d[N6 lt d i n]! d[i]! = true then Dk n f (swp d (N6 lt d i n) i) (N6 lt d i n)else d
def Jy (n:Nat)(d:Array α):Prop:=∀k,0<k->k<n->lt d[k]! d[(k-1) / 2]! = false
theorem Uq (d:Array α){i j:Nat}(hi:i<d.size)(hj:j<d.size):swp d i j=swp d j i:=by
 apply Array.ext
 ·simp[swp_size]
 ·intro k h1 h2;rw[swp_size]at h1;have e1:=swp_get d hi hj k;have e2:=swp_get d hj hi k;rw[As7 _ k (by rw[swp_size];exact h1)]at e1 e2
  rw[e1,e2]
  by_cases a:k=j
  ·by_cases b:k=i
   ·subst a;subst b;simp
   ·subst a;simp[b]
  ·by_cases b:k=i
   ·subst b;simp[a]
   ·simp[a,b]
variable {lt} (h : SWO lt)
include h
theorem Ahq:∀(f:Nat) (d:Array α) (j n:Nat),j<n->n<=d.size->j<f ->(∀k,0<k->k<n->k≠j->lt d[k]! d[(k-1) / 2]! = false) ->(∀k,0<k->k<n ->(k-1) / 2=j->0<j->lt d[k]! d[(j-1) / 2]! = false) ->
 PermIn 0 n d (Py lt f d j)/\Jy lt n (Py lt f d j):=by
 intro f
 induction f with
 | zero=>intro d j n _ _ hf;omega
 | succ f ih =>
   intro d j n hj hn hf h1 h2;unfold Py
   by_cases h0:j=0
   ·rw[Apb h0]
    exact⟨permIn_refl _ _ _,fun k hk hkn=>h1 k hk hkn (by omega)⟩
   ·rw[Ap8 h0]
    by_cases hl:lt d[j]! d[(j-1) / 2]! = true
    ·rw[Apb hl];have hi:(j-1) / 2<j:=by omega
     obtain⟨i,hie⟩:∃i,(j-1) / 2=i:=⟨_,rfl⟩;rw[hie]at hl hi ⊢;have g:=swp_get d (i:=j) (j:=i) (by omega) (by omega)
     have:=ih (swp d j i) i n (by omega) (by rw[swp_size];exact hn) (by omega) (fun k hk hkn hki=>by
      rw[g,g,Ap8 hki]
      by_cases e:k=j
      ·subst e;rw[Apb rfl,hie,Apb rfl]
       exact h.asymmA hl
      ·rw[Ap8 e]
       by_cases e2:(k-1) / 2=i
       ·rw[Apb e2];have:=h1 k hk hkn e;rw[e2]at this
        cases hc:lt d[k]! d[j]! with
        | false=>rfl
        | true =>
          have:=h.trans _ _ _ hc hl
          simp_all
       ·rw[Ap8 e2]
        by_cases e3:(k-1) / 2=j
        ·rw[Apb e3];have:=h2 k hk hkn e3 (by omega)
         rwa [hie]at this
        ·rw[Ap8 e3]
         exact h1 k hk hkn e) (fun k hk hkn hki hi0=>by
      have hp:=h1 i hi0 (by omega) (by omega)
      rw[g,g,Ap8 (show k≠i by omega),Ap8 (show(i-1) / 2≠i by omega),Ap8 (show(i-1) / 2≠j by omega)]
      by_cases e:k=j
      ·rw[Apb e]
       exact hp
      ·rw[Ap8 e];have:=h1 k hk hkn e;rw[hki]at this
       exact h.ntrans _ _ _ this hp)
     exact⟨permIn_trans _ _ _ _ _ (swp_permIn d 0 n j i (Aq1 _) hj (Aq1 _) (by omega) hn) this.1,this.2⟩
    ·rw[Ap8 hl]
     refine⟨permIn_refl _ _ _,fun k hk hkn=>?_⟩
     by_cases e:k=j
     ·subst e;simpa using hl
     ·exact h1 k hk hkn e
theorem Abx:∀(f:Nat) (d:Array α) (i n:Nat),i<n->n<=d.size->n<f+i ->(∀k,0<k->k<n ->(k-1) / 2≠i->lt d[k]! d[(k-1) / 2]! = false) ->(∀k,0<k->k<n ->(k-1) / 2=i->0<i->lt d[k]! d[(i-1) / 2]! = false) ->
 PermIn 0 n d (Dk lt n f d i)/\Jy lt n (Dk lt n f d i):=by
 intro f
 induction f with
 | zero=>intro d i n hi _ hf;omega
 | succ f ih =>
   intro d i n hi hn hf h1 h2;unfold Dk
   by_cases h0:n<=2*i+1
   ·rw[Apb h0]
    exact⟨permIn_refl _ _ _,fun k hk hkn=>h1 k hk hkn (by omega)⟩
   ·rw[Ap8 h0];obtain⟨j,hje⟩:∃j,N6 lt d i n=j:=⟨_,rfl⟩
    have hj:(j=2*i+1\/j=2*i+2)/\j<n/\∀k,0<k->k<n ->(k-1) / 2=i->lt d[k]! d[j]! = false:=by
     unfold N6 at hje
     split at hje
     ·rename_i hc
      subst hje
      refine⟨.inr rfl,hc.1,fun k hk hkn hki=>?_⟩
      rcases(show k=2*i+1\/k=2*i+2 by omega)with rfl|rfl
      ·exact h.asymmA hc.2
      ·exact h.irrefl _
     ·rename_i hc
      subst hje
      refine⟨.inl rfl,by omega,fun k hk hkn hki=>?_⟩
      rcases(show k=2*i+1\/k=2*i+2 by omega)with rfl|rfl
      ·exact h.irrefl _
      ·cases hb:lt d[2*i+2]! d[2*i+1]! with
       | false=>rfl
       | true=>exact absurd ⟨hkn,hb⟩ hc
    rw[hje];obtain⟨hj1,hj2,hj3⟩:=hj;have hpj:(j-1) / 2=i:=by omega
    by_cases hl:lt d[j]! d[i]! = true
    ·rw[Apb hl];have g:=swp_get d (i:=j) (j:=i) (by omega) (by omega)
     have:=ih (swp d j i) j n hj2 (by rw[swp_size];exact hn) (by omega) (fun k hk hkn hkj=>by
      rw[g,g,Ap8 hkj]
      by_cases e:k=i
      ·subst e;rw[Apb rfl,Ap8 (show(k-1) / 2≠k by omega)]
       exact h2 j (by omega) hj2 hpj hk
      ·rw[Ap8 e]
       by_cases e1:k=j
       ·subst e1;rw[Apb rfl,Apb hpj]
        exact h.asymmA hl
       ·rw[Ap8 e1]
        by_cases e2:(k-1) / 2=i
        ·rw[Apb e2]
         exact hj3 k hk hkn e2
        ·rw[Ap8 e2]
         exact h1 k hk hkn e2) (fun k hk hkn hkj hj0=>by
      rw[g,g,Ap8 (show k≠i by omega),Ap8 (show k≠j by omega),hpj,Apb rfl]
      have:=h1 k hk hkn (by omega)
      rwa [hkj]at this)
     exact⟨permIn_trans _ _ _ _ _ (swp_permIn d 0 n j i (Aq1 _) hj2 (Aq1 _) (by omega) hn) this.1,this.2⟩
    ·rw[Ap8 hl]
     refine⟨permIn_refl _ _ _,fun k hk hkn=>?_⟩
     by_cases e:(k-1) / 2=i
     ·rw[e]
      exact h.ntrans _ _ _ (hj3 k hk hkn e) (by simpa using hl)
     ·exact h1 k hk hkn e
theorem Jy.root {n:Nat}{d:Array α}(hd:Jy lt n d):∀k,k<n->lt d[k]! d[0]! = false:=by
 intro k
 induction k using Nat.strongRecOn with
 | ind k ih =>
   intro hk
   by_cases h0:k=0
   ·subst h0;exact h.irrefl _
   ·exact h.ntrans _ _ _ (hd k (by omega) hk) (ih _ (by omega) (by omega))
end
end
section
open Go.RowKit Go.Sort
attribute [local go_sem ↓] Go.wp_at_zero Go.wp_at_succ
structure Ae where
 t:Aj
 path:ByteArray
 opn:Int
instance: Inhabited Ae:=⟨⟨⟨0,0,0,0,0,0,0,0,[],[]⟩,⟨#[]⟩,0⟩⟩
def Ah (p:Ae):List Value:=p.t.cells++[.string p.path,.int .i64 p.opn]
theorem Fy (p:Ae):(Ah p).length=7:=rfl
theorem Jl (p:Ae):∀v∈Ah p,v.oneCell'=true:=by
 intro v hv;unfold Ah Aj.cells at hv;simp only[Aq9,Aqe,Aqc,As6]at hv
 rcases hv with(rfl|rfl|rfl|rfl|rfl)|rfl|rfl<;>rfl
def Ec (a b:Ae):Bool:=if a.opn=b.opn then Op.bytesLess a.path.toList b.path.toList else decide (b.opn<a.opn)
theorem Jh (x:List UInt8):Op.bytesLess x x=false:=by
 rw[bytesLess_eq];simp[List.lt_irrefl]
theorem O9 {x y z:List UInt8}(h:Op.bytesLess x y=true)(g:Op.bytesLess y z=true):Op.bytesLess x z=true:=by
 rw[bytesLess_eq]at *;simp only[Apm]at *
 exact List.lt_trans h g
theorem Wp {x y z:List UInt8}(h:Op.bytesLess x y=false)(g:Op.bytesLess y z=false):Op.bytesLess x z=false:=by
 rw[bytesLess_eq]at *;simp only[Asg,List.not_lt]at *
 exact List.le_trans g h
theorem Aiz:SWO Ec where
 irrefl x:=by unfold Ec;rw[Apb rfl];exact Jh _
 trans x y z h g:=by
  unfold Ec at *
  split at h<;>split at g<;>split
  ·exact O9 h g
  ·omega
  ·omega
  ·simpa using (show z.opn<x.opn by simp at g;omega)
  ·simp at h;omega
  ·simpa using (show z.opn<x.opn by simp at h;omega)
  ·simp at h g;omega
  ·simpa using (show z.opn<x.opn by simp at h g;omega)
 ntrans x y z h g:=by
  unfold Ec at *
  split at h<;>split at g<;>split
  ·exact Wp h g
  ·omega
  ·omega
  ·simpa using (show x.opn<=z.opn by simp at g;omega)
  ·simp at h;omega
  ·simpa using (show x.opn<=z.opn by simp at h;omega)
  ·simp at h g;omega
  ·simpa using (show x.opn<=z.opn by simp at h g;omega)
def Grn (w w':World):Prop:=∃q os,w'=grow (w.drewN q) os
theorem A2q (a b:Ae)(w:World):Calls Vp.prog 34 #[.agg (Ah a).toArray,.agg (Ah b).toArray] w fun e w'=>e=.returned (.bool (Ec a b))/\Grn w w':=by
 have e1:(Ah a).toArray=#[.complex .f32 a.t.cx a.t.cy,.int .i64 a.t.deep,.int .i64 a.t.size,.slice (some ⟨a.t.gs,0,none⟩) a.t.n a.t.cs,.slice (some ⟨a.t.gm,0,none⟩) a.t.n a.t.cm,.string a.path,.int .i64 a.opn]:=rfl;have e2:(Ah b).toArray=#[.complex .f32 b.t.cx b.t.cy,.int .i64 b.t.deep,.int .i64 b.t.size,.slice (some ⟨b.t.gs,0,none⟩) b.t.n b.t.cs,.slice (some ⟨b.t.gm,0,none⟩) b.t.n b.t.cm,.string b.path,.int .i64 b.opn]:=rfl;have X:=(A9.new w (Ah a).toArray 52).alloc (.cells (Ah b).toArray 52);have Y:=A9.new (w.alloc (.cells (Ah a).toArray 52)) (Ah b).toArray 52;rw[Apl]at Y;rw[e1,e2]at X Y ⊢;have x5:=X.cell 5 _ rfl;have x6:=X.cell 6 _ rfl;have y5:=Y.cell 5 _ rfl;have y6:=Y.cell 6 _ rfl;clear X Y;have HG:Hid (∀o1 o2:Obj,Grn w ((w.alloc o1).alloc o2)):=fun o1 o2=>⟨0,#[o1,o2],by rw[alloc_eq_grow,alloc_eq_grow,grow_grow];rfl⟩
 by_cases h:a.opn=b.opn
 ·have f:(a.opn != b.opn)=false:=by simp[h]
  have r:Ec a b=Op.bytesLess a.path.toList b.path.toList:=by unfold Ec;rw[Apb h]
  rw[r];clear r h
  go_enter Vp.func34,Tryz.ntmps34
  go_wp2
  go_ret
  exact⟨rfl,HG.out _ _⟩
 ·have f:(a.opn != b.opn)=true:=by simp[h]
  have r:Ec a b=decide (b.opn<a.opn):=by unfold Ec;rw[Ap8 h]
  rw[r];clear r h
  go_enter Vp.func34,Tryz.ntmps34
  go_wp2
  all_goals
   go_ret
   exact⟨by simp_all,HG.out _ _⟩
end
section
open Go.RowKit Go.Sort
attribute [local go_sem ↓] Go.wp_at_zero Go.wp_at_succ
structure HpS (hb g n cap:Nat)(w:World):Prop where
 c0:w.cell? ⟨hb,0,none⟩=some (.slice (some ⟨g,0,none⟩) n cap)
 c1:w.cell? ⟨hb,1,none⟩=some (.func (.func 34) #[] #[])
theorem HpS.step {hb g n cap:Nat}{w w':World}(h:HpS hb g n cap w)(k:Below w.heap.size w w'):HpS hb g n cap w' :=
 ⟨(k.cell (p:=⟨hb,0,none⟩) (Apw w _ h.c0)).trans h.c0,(k.cell (p:=⟨hb,1,none⟩) (Apw w _ h.c1)).trans h.c1⟩
def E1 (g cap:Nat)(d:Array Ae)(w:World):Prop :=
 ∃cur,w.heap[g]?=some (.cells cur 52 (0,0))/\cur.size=cap*7/\d.size<=cap/\∀k,k<d.size->∀j,j<7->cur[k*7+j]?=(Ah d[k]!)[j]?
theorem E1.cell {g cap:Nat}{d:Array Ae}{w:World}(h:E1 g cap d w){k:Nat}(hk:k<d.size){j:Nat}{v:Value}(hj:(Ah d[k]!)[j]?=some v):w.cell? ⟨g,k*7+j,none⟩=some v:=by
 obtain⟨cur,h1,_,_,h3⟩:=h;unfold World.cell?;rw[h1];have hl:j<7:=by have:=(Apg.1 hj).1;rwa [Fy]at this
 exact(h3 k hk j hl).trans hj
theorem E1.lt {g cap:Nat}{d:Array Ae}{w:World}(h:E1 g cap d w):g<w.heap.size:=by
 obtain⟨cur,h1,_⟩:=h
 exact(Aoz.1 h1).1
theorem E1.step {g cap:Nat}{d:Array Ae}{w w':World}(h:E1 g cap d w)(k:Below w.heap.size w w'):E1 g cap d w':=by
 have hl:=h.lt;obtain⟨cur,h1,h2⟩:=h
 exact⟨cur,(k.block g hl).trans h1,h2⟩
theorem E1.D7 {g cap:Nat}{d:Array Ae}{w:World}(h:E1 g cap d w){k:Nat}(hk:k<d.size){p:Ae}(hp:d[k]! = p) :
 w.cell? ⟨g,k*7,none⟩=some (.complex .f32 p.t.cx p.t.cy)/\w.cell? ⟨g,k*7+1,none⟩=some (.int .i64 p.t.deep)/\w.cell? ⟨g,k*7+2,none⟩=some (.int .i64 p.t.size) /\
  w.cell? ⟨g,k*7+3,none⟩=some (.slice (some ⟨p.t.gs,0,none⟩) p.t.n p.t.cs)/\w.cell? ⟨g,k*7+4,none⟩=some (.slice (some ⟨p.t.gm,0,none⟩) p.t.n p.t.cm) /\
  w.cell? ⟨g,k*7+5,none⟩=some (.string p.path)/\w.cell? ⟨g,k*7+6,none⟩=some (.int .i64 p.opn):=by
 subst hp
 exact⟨h.cell hk (j:=0) rfl,h.cell hk (j:=1) rfl,h.cell hk (j:=2) rfl,h.cell hk (j:=3) rfl,h.cell hk (j:=4) rfl,h.cell hk (j:=5) rfl,h.cell hk (j:=6) rfl⟩
theorem Grn.below {w w':World}(h:Grn w w'):Below w.heap.size w w':=by
 obtain⟨q,os,rfl⟩:=h
 refine⟨rfl,rfl,rfl,?_,fun k hk=>?_⟩
 ·show w.heap.size <=(w.heap++os).size
  simp
 ·show(w.heap++os)[k]?=w.heap[k]?
  rw[At0 hk]
theorem Zt (hb g n cap i j:Nat)(d:Array Ae)(hn:d.size=n)(hi:i<n)(hj:j<n)(w:World)(H:HpS hb g n cap w)(R:E1 g cap d w) :
 Calls Vp.prog 164 #[.pointer (some ⟨hb,0,none⟩),.int .i64 i,.int .i64 j] w fun e w'=>e=.returned (.bool (Ec d[i]! d[j]!))/\Below w.heap.size w w':=by
 obtain⟨p,hp⟩:∃p,d[i]! = p:=⟨_,rfl⟩;obtain⟨q,hq⟩:∃q,d[j]! = q:=⟨_,rfl⟩;rw[hp,hq];obtain⟨r,hr⟩:∃r,Ec p q=r:=⟨_,rfl⟩;have M:=fun W:World=>A2q p q W
 rw[hr]at M ⊢;have e1:(Ah p).toArray=#[.complex .f32 p.t.cx p.t.cy,.int .i64 p.t.deep,.int .i64 p.t.size,.slice (some ⟨p.t.gs,0,none⟩) p.t.n p.t.cs,.slice (some ⟨p.t.gm,0,none⟩) p.t.n p.t.cm,.string p.path,.int .i64 p.opn]:=rfl;have e2:(Ah q).toArray=#[.complex .f32 q.t.cx q.t.cy,.int .i64 q.t.deep,.int .i64 q.t.size,.slice (some ⟨q.t.gs,0,none⟩) q.t.n q.t.cs,.slice (some ⟨q.t.gm,0,none⟩) q.t.n q.t.cm,.string q.path,.int .i64 q.opn]:=rfl;rw[e1,e2]at M;have x0:∀s:Kw w,s.W.cell? ⟨hb,0,none⟩=some (.slice (some ⟨g,0,none⟩) n cap):=fun s=>(H.step s.h).c0
 have x1:∀s:Kw w,s.W.cell? ⟨hb,1,none⟩=some (.func (.func 34) #[] #[]):=fun s=>(H.step s.h).c1
 have a0:∀s:Kw w,s.W.cell? ⟨g,i*7,none⟩=some (.complex .f32 p.t.cx p.t.cy):=fun s=>((R.step s.h).D7 (by omega) hp).1
 have a1:∀s:Kw w,s.W.cell? ⟨g,i*7+1,none⟩=some (.int .i64 p.t.deep):=fun s=>((R.step s.h).D7 (by omega) hp).2.1
 have a2:∀s:Kw w,s.W.cell? ⟨g,i*7+2,none⟩=some (.int .i64 p.t.size):=fun s=>((R.step s.h).D7 (by omega) hp).2.2.1
 have a3:∀s:Kw w,s.W.cell? ⟨g,i*7+3,none⟩=some (.slice (some ⟨p.t.gs,0,none⟩) p.t.n p.t.cs):=fun s=>((R.step s.h).D7 (by omega) hp).2.2.2.1
 have a4:∀s:Kw w,s.W.cell? ⟨g,i*7+4,none⟩=some (.slice (some ⟨p.t.gm,0,none⟩) p.t.n p.t.cm):=fun s=>((R.step s.h).D7 (by omega) hp).2.2.2.2.1
 have a5:∀s:Kw w,s.W.cell? ⟨g,i*7+5,none⟩=some (.string p.path):=fun s=>((R.step s.h).D7 (by omega) hp).2.2.2.2.2.1
 have a6:∀s:Kw w,s.W.cell? ⟨g,i*7+6,none⟩=some (.int .i64 p.opn):=fun s=>((R.step s.h).D7 (by omega) hp).2.2.2.2.2.2
 have b0:∀s:Kw w,s.W.cell? ⟨g,j*7,none⟩=some (.complex .f32 q.t.cx q.t.cy):=fun s=>((R.step s.h).D7 (by omega) hq).1
 have b1:∀s:Kw w,s.W.cell? ⟨g,j*7+1,none⟩=some (.int .i64 q.t.deep):=fun s=>((R.step s.h).D7 (by omega) hq).2.1
 have b2:∀s:Kw w,s.W.cell? ⟨g,j*7+2,none⟩=some (.int .i64 q.t.size):=fun s=>((R.step s.h).D7 (by omega) hq).2.2.1
 have b3:∀s:Kw w,s.W.cell? ⟨g,j*7+3,none⟩=some (.slice (some ⟨q.t.gs,0,none⟩) q.t.n q.t.cs):=fun s=>((R.step s.h).D7 (by omega) hq).2.2.2.1
 have b4:∀s:Kw w,s.W.cell? ⟨g,j*7+4,none⟩=some (.slice (some ⟨q.t.gm,0,none⟩) q.t.n q.t.cm):=fun s=>((R.step s.h).D7 (by omega) hq).2.2.2.2.1
 have b5:∀s:Kw w,s.W.cell? ⟨g,j*7+5,none⟩=some (.string q.path):=fun s=>((R.step s.h).D7 (by omega) hq).2.2.2.2.2.1
 have b6:∀s:Kw w,s.W.cell? ⟨g,j*7+6,none⟩=some (.int .i64 q.opn):=fun s=>((R.step s.h).D7 (by omega) hq).2.2.2.2.2.2
 have CM:Hid (∀s:Kw w,Calls Vp.prog 34 #[.agg #[.complex .f32 p.t.cx p.t.cy,.int .i64 p.t.deep,.int .i64 p.t.size,.slice (some ⟨p.t.gs,0,none⟩) p.t.n p.t.cs,.slice (some ⟨p.t.gm,0,none⟩) p.t.n p.t.cm,.string p.path,.int .i64 p.opn],.agg #[.complex .f32 q.t.cx q.t.cy,.int .i64 q.t.deep,.int .i64 q.t.size,.slice (some ⟨q.t.gs,0,none⟩) q.t.n q.t.cs,.slice (some ⟨q.t.gm,0,none⟩) q.t.n q.t.cm,.string q.path,.int .i64 q.opn]] s.W fun e w'=>e=.returned (.bool r)/\∃s':Kw w,w'=s'.W):=fun s=>by
  refine(M _).mono ?_
  rintro e w' ⟨rfl,hd⟩
  exact⟨rfl,s.step hd.below,rfl⟩
 have i1:(i:Int)<n:=by omega
 have i0:(0:Int)<=i:=by omega
 have j1:(j:Int)<n:=by omega
 have j0:(0:Int)<=j:=by omega
 clear M e1 e2 hr hp hq H R hn hi hj
 go_enter Vp.func164,Tryz.ntmps164
 go_upto_region 1 with fail
 refine V5 (by kernel_rfl) (by kernel_rfl) ?_
 repeat (go_big_quiet_step (first |(go_at_call 34;exact CM.out _) |(go_at_fn 34;exact CM.out _)))
 refine wpQuiet_nil ?_
 rintro _ ⟨sq,rfl⟩;have HB:=Aoy sq.h;clear x0 x1 a0 a1 a2 a3 a4 a5 a6 b0 b1 b2 b3 b4 b5 b6 CM;generalize sq.W=w9 at *
 go_wp2
 go_ret
 exact⟨rfl,HB.out⟩
theorem Aci (hb g n cap:Nat)(w:World)(H:HpS hb g n cap w):Calls Vp.prog 38 #[.pointer (some ⟨hb,0,none⟩)] w fun e w'=>e=.returned (.int .i64 n)/\Below w.heap.size w w':=by
 have x0:=H.c0;clear H
 go_enter Vp.func38,Tryz.ntmps38
 go_wp2
 go_ret
 exact⟨rfl,Aph _ _⟩
end
section
open Go.RowKit Go.Sort
attribute [local go_sem ↓] Go.wp_at_zero Go.wp_at_succ
theorem K3 {W:World}{g:Nat}{cur:Array Value}{T:TypeId}{f:Nat×Nat}(h:W.heap[g]?=some (.cells cur T f))(o:Nat)(v:Value):(W.setCell ⟨g,o,none⟩ v).heap[g]?=some (.cells (cur.setIfInBounds o v) T f):=by
 obtain⟨hlt,he⟩:=Aoz.1 h
 show(W.heap.modify g _)[g]?=_
 rw[Ap5 (by rw[Array.size_modify];exact hlt),Array.getElem_modify_self,he]
 rfl
abbrev Ain (W:World)(g o:Nat)(v0 v1 v2 v3 v4 v5 v6:Value):World :=
 ((((((W.setCell ⟨g,o,none⟩ v0).setCell ⟨g,o+1,none⟩ v1).setCell ⟨g,o+2,none⟩ v2).setCell ⟨g,o+3,none⟩ v3).setCell ⟨g,o+4,none⟩ v4).setCell ⟨g,o+5,none⟩ v5).setCell ⟨g,o+6,none⟩ v6
theorem Y2 {w W:World}{g:Nat}(h:C7 g w W)(o:Nat)(v0 v1 v2 v3 v4 v5 v6:Value):C7 g w (Ain W g o v0 v1 v2 v3 v4 v5 v6) :=
 ((((((h.setCell _ _).setCell _ _).setCell _ _).setCell _ _).setCell _ _).setCell _ _).setCell _ _
theorem Adg {W:World}{g o:Nat}{cur:Array Value}{T:TypeId}{f:Nat×Nat}(h:W.heap[g]?=some (.cells cur T f))(ho:o+7<=cur.size)(v0 v1 v2 v3 v4 v5 v6:Value) :
 ∃cur',(Ain W g o v0 v1 v2 v3 v4 v5 v6).heap[g]?=some (.cells cur' T f)/\cur'.size=cur.size /\(∀j,j<7->cur'[o+j]?=[v0,v1,v2,v3,v4,v5,v6][j]?)/\∀m,(m<o\/o+7<=m)->cur'[m]?=cur[m]?:=by
 refine⟨_,K3 (K3 (K3 (K3 (K3 (K3 (K3 h _ _) _ _) _ _) _ _) _ _) _ _) _ _,by simp,fun j hj=>?_,fun m hm=>?_⟩
 ·rcases(show j=0\/j=1\/j=2\/j=3\/j=4\/j=5\/j=6 by omega)with rfl|rfl|rfl|rfl|rfl|rfl|rfl<;>simp[show ∀k,k<7->o+k<cur.size from fun k hk=>by omega,show o<cur.size by omega]
 ·simp only[Apu];rw[Ap8 (by omega),Ap8 (by omega),Ap8 (by omega),Ap8 (by omega),Ap8 (by omega),Ap8 (by omega),Ap8 (by omega)]
abbrev P8 (W:World)(g i:Nat)(p:Ae):World:=Ain W g (i*7) (.complex .f32 p.t.cx p.t.cy) (.int .i64 p.t.deep) (.int .i64 p.t.size) (.slice (some ⟨p.t.gs,0,none⟩) p.t.n p.t.cs) (.slice (some ⟨p.t.gm,0,none⟩) p.t.n p.t.cm) (.string p.path) (.int .i64 p.opn)
theorem E1.set {g cap:Nat}{d d':Array Ae}{W:World}(h:E1 g cap d W){i:Nat}(hi:i<d.size)(p:Ae)(hs:d'.size=d.size)(hd:∀k,k<d.size->d'[k]! = if k=i then p else d[k]!):E1 g cap d' (P8 W g i p):=by
 obtain⟨cur,h1,h2,h3,h4⟩:=h;obtain⟨cur',c1,c2,c3,c4⟩:=Adg h1 (o:=i*7) (by omega) (.complex .f32 p.t.cx p.t.cy) (.int .i64 p.t.deep) (.int .i64 p.t.size) (.slice (some ⟨p.t.gs,0,none⟩) p.t.n p.t.cs) (.slice (some ⟨p.t.gm,0,none⟩) p.t.n p.t.cm) (.string p.path) (.int .i64 p.opn)
 refine⟨cur',c1,c2.trans h2,by omega,fun k hk j hj=>?_⟩
 rw[hd k (by omega)]
 by_cases e:k=i
 ·subst e;rw[Apb rfl]
  exact c3 j hj
 ·rw[Ap8 e,c4 _ (by omega)]
  exact h4 k (by omega) j hj
theorem E1.free {g cap:Nat}{d:Array Ae}{W:World}(h:E1 g cap d W)(o:Nat):W.frozen? ⟨g,o,none⟩=false:=by
 obtain⟨cur,h1,_⟩:=h;unfold World.frozen?;rw[h1]
 rfl
theorem E1.store {P:Program}{g cap:Nat}{d:Array Ae}{W:World}(h:E1 g cap d W){i:Nat}(hi:i<d.size)(p:Ae):Sem.run P (storeCells ⟨g,i*7,none⟩ (Ah p) 0) W=.ok () (P8 W g i p):=by
 obtain⟨cur,h1,h2,h3,_⟩:=h
 have:=run_storeCells_cells (P:=P) g (i*7) (Ah p) 0 W (fun j hj=>by
  rw[Fy]at hj;unfold World.cell?;rw[h1]
  show(cur[i*7+0+j]?).isSome=true
  rw[Ap5 (by omega)]
  rfl) (fun j hj=>by
  unfold World.frozen?;rw[h1]
  rfl) (Jl p)
 exact this
theorem M9 (b o j:Nat):(⟨b,o,none⟩:Addr).add j=⟨b,o+j,none⟩:=by unfold Addr.add;split<;>simp_all
theorem E1.load {P:Program}{g cap:Nat}{d:Array Ae}{W:World}(h:E1 g cap d W){i:Nat}(hi:i<d.size):Sem.run P (loadCellsFrom ⟨g,i*7,none⟩ 0 7 #[]) W=.ok (Ah d[i]!).toArray W :=
 run_loadCellsFrom_list P _ _ _ 7 (Fy _) fun j v hj=>by
  rw[M9]
  exact h.cell hi hj
theorem A0f (d:Array Ae)(i k:Nat)(v:Ae)(hi:i<d.size):(d.setIfInBounds i v)[k]! = if k=i then v else d[k]!:=by
 simp only[getElem!_def,Apu]
 by_cases e:k=i
 ·subst e;simp[hi]
 ·simp[e,Asb e]
theorem Sg (hb g n cap i j:Nat)(d:Array Ae)(hn:d.size=n)(hi:i<n)(hj:j<n)(w:World)(H:HpS hb g n cap w)(R:E1 g cap d w) :
 Calls Vp.prog 167 #[.pointer (some ⟨hb,0,none⟩),.int .i64 i,.int .i64 j] w fun e w'=>e=.returned (.tuple #[])/\C7 g w w'/\E1 g cap (swp d i j) w':=by
 have hdw:Below w.heap.size w w.drew:=(Au.refl _).drew.below _;obtain⟨p,hp⟩:∃p,d[i]! = p:=⟨_,rfl⟩;obtain⟨q,hq⟩:∃q,d[j]! = q:=⟨_,rfl⟩;have R':=R.step hdw;have H':=H.step hdw;have x0:=H.c0;have i1:(i:Int)<n:=by omega
 have i0:(0:Int)<=i:=by omega
 have j1:(j:Int)<n:=by omega
 have j0:(0:Int)<=j:=by omega
 have HF:Hid (C7 g w (P8 (P8 w.drew g i q) g j p)/\E1 g cap (swp d i j) (P8 (P8 w.drew g i q) g j p)):=by
  have R1:=R'.set (d':=d.setIfInBounds i q) (i:=i) (by omega) q (by simp) fun k hk=>A0f d i k q (by omega)
  refine⟨Y2 (Y2 (C7.Ay hdw) _ _ _ _ _ _ _ _) _ _ _ _ _ _ _ _,R1.set (i:=j) (by simp;omega) p (by simp[swp]) fun k hk=>?_⟩
  have hk:k<d.size:=by simpa using hk
  rw[swp_get d (by omega) (by omega),hp,hq]
  by_cases e:k=j
  ·rw[Apb e,Apb e]
  ·rw[Ap8 e,Ap8 e,A0f d i k q (by omega)]
 have R1:=R'.set (d':=d.setIfInBounds i q) (i:=i) (by omega) q (by simp) fun k hk=>A0f d i k q (by omega)
 have s1:=R'.store (P:=Vp.prog) (i:=i) (by omega) q
 have s2:=R1.store (P:=Vp.prog) (i:=j) (by simp;omega) p
 have l1:=R'.load (P:=Vp.prog) (i:=i) (by omega)
 have l2:=R'.load (P:=Vp.prog) (i:=j) (by omega)
 rw[hp]at l1;rw[hq]at l2;have z1:(Ah p).toArray.size=7:=rfl;have z2:(Ah q).toArray.size=7:=rfl;have zE:∀W:World,(Go.sizeOf 52).run Vp.prog W=.ok 7 W:=fun W=>(Vp.run_sizeOf _ W).trans (Tryz.sizeOf52 W)
 have zF:∀W:World,(Go.sizeOf 52).run Tryz.prog W=.ok 7 W:=Tryz.sizeOf52
 change Sem.run _ (storeCells _ (Ah q).toArray.toList 0) _=_ at s1
 change Sem.run _ (storeCells _ (Ah p).toArray.toList 0) _=_ at s2
 generalize P8 (P8 w.drew g i q) g j p=W2 at *;generalize P8 w.drew g i q=W1 at *;generalize (Ah p).toArray=cp at *;generalize (Ah q).toArray=cq at *;clear R1 R R' H H' hp hq hn hi hj;generalize swp d i j=d' at *;have HK:Hid ((7:Nat)=7):=rfl;generalize (7:Nat)=k at l1 l2 s1 s2 z1 z2 zE zF;have mixed:Vp.prog.follows .mixedOrders=true:=by kernel_rfl
 go_enter Vp.func167,Tryz.ntmps167
 go_big_region_o
 all_goals go_wp2
 go_end0
 exact⟨rfl,HF.out⟩
end
section
open Go.RowKit Go.Sort
attribute [local go_sem ↓] Go.wp_at_zero Go.wp_at_succ
theorem Lm {P:Program}{name:String}{f:Nat}{t e:TypeId}(hu:P.underlying t=some (.pointer e))(h:((P.info? t).map fun i=>(i.methods.find? (·.name == name)).map fun m=>(m.path,m.func))=some (some (#[],some (f,true))))(k:Nat)(v:Value)(w:World) :
 Sem.run P (method (k+1) t v name) w=.ok (f,v) w:=by
 obtain⟨i,hi,h⟩:=Ape.1 h;obtain⟨m,hm,h⟩:=Ape.1 h;injection h with h1 h2
 have ht:∀w,(typeInfo t).run P w=.ok i w:=fun w=>by
  unfold typeInfo;rw[As3,run_program]
  show(match P.info? t with|some i=>_|none=>_:Sem TypeInfo).run P w=_
  rw[hi]
  rfl
 have hut:∀w,(underlying t).run P w=.ok (.pointer e) w:=fun w=>As2 hu w
 unfold method;rw[As3,ht];dsimp only[Result.andThen];rw[hm];dsimp only;rw[h1,h2];unfold follow;dsimp only;unfold receiverAt;simp only[As3,Sem.run_pure,Atw,hut,Place.get]
section
variable {α : Type} [Inhabited α] (lt : α -> α -> Bool)
theorem Aby:∀(f g:Nat) (d:Array α) (j:Nat),j<f->j<g->Py lt f d j=Py lt g d j:=by
 intro f
 induction f with
 | zero=>intro g d j h;omega
 | succ f ih =>
   intro g d j h h';obtain⟨g,rfl⟩:∃k,g=k+1:=⟨g-1,by omega⟩
   unfold Py
   by_cases h0:j=0
   ·rw[Apb h0,Apb h0]
   ·rw[Ap8 h0,Ap8 h0]
    by_cases hl:lt d[j]! d[(j-1) / 2]! = true
    ·rw[Apb hl,Apb hl]
     exact ih _ _ _ (by omega) (by omega)
    ·rw[Ap8 hl,Ap8 hl]
theorem A1z (d:Array α)(j:Nat)(h:j=0\/lt d[j]! d[(j-1) / 2]! = false):Py lt (j+1) d j=d:=by
 unfold Py
 rcases h with h|h
 ·rw[Apb h]
 ·by_cases h0:j=0
  ·rw[Apb h0]
  ·rw[Ap8 h0,Ap8 (by rw[h];simp)]
theorem Ahp (d:Array α)(j:Nat)(h:lt d[j+1]! d[j / 2]! = true):Py lt (j+1+1) d (j+1)=Py lt (j / 2+1) (swp d (j+1) (j / 2)) (j / 2):=by
 rw[Py,Ap8 (by omega),Au5,Apb h]
 exact Aby lt _ _ _ _ (by omega) (by omega)
theorem Adm (f:Nat)(d:Array α)(j:Nat):(Py lt f d j).size=d.size:=by
 induction f generalizing d j with
 | zero=>rfl
 | succ f ih =>
   unfold Py
   split
   ·rfl
   ·split
    ·rw[ih,swp_size]
    ·rfl
end
theorem HpS.only {hb g n cap:Nat}{w w':World}(h:HpS hb g n cap w)(k:C7 g w w')(hne:hb≠g):HpS hb g n cap w':=by
 have hl:=Apw w _ h.c0;have e:=k.block hb hl hne
 refine⟨?_,?_⟩
 ·have:=h.c0;unfold World.cell? at this ⊢;rw[e]
  exact this
 ·have:=h.c1;unfold World.cell? at this ⊢;rw[e]
  exact this
theorem A2p (v:Value)(w:World):Sem.run Vp.prog (method (Tryz.prog.types.size+100) 79 v "Less") w=.ok (164,v) w:=Lm (Vp.Dw Tryz.underlying79) (by kernel_rfl) (Tryz.prog.types.size+99) v w
theorem Tv (v:Value)(w:World):Sem.run Vp.prog (method (Tryz.prog.types.size+100) 79 v "Swap") w=.ok (167,v) w:=Lm (Vp.Dw Tryz.underlying79) (by kernel_rfl) (Tryz.prog.types.size+99) v w
theorem A7c (v:Value)(w:World):Sem.run Vp.prog (method (Tryz.prog.types.size+100) 79 v "Len") w=.ok (38,v) w:=Lm (Vp.Dw Tryz.underlying79) (by kernel_rfl) (Tryz.prog.types.size+99) v w
theorem Acm (v:Value)(w:World):Sem.run Vp.prog (method (Tryz.prog.types.size+100) 79 v "Push") w=.ok (166,v) w:=Lm (Vp.Dw Tryz.underlying79) (by kernel_rfl) (Tryz.prog.types.size+99) v w
theorem Afn (v:Value)(w:World):Sem.run Vp.prog (method (Tryz.prog.types.size+100) 79 v "Pop") w=.ok (165,v) w:=Lm (Vp.Dw Tryz.underlying79) (by kernel_rfl) (Tryz.prog.types.size+99) v w
theorem Al9 (hb g n cap j:Nat)(d:Array Ae)(hn:d.size=n)(hj:j<n)(hn2:n<=1000)(w:World)(hne:hb≠g)(H:HpS hb g n cap w)(R:E1 g cap d w) :
 Calls Vp.prog 60 #[.iface 79 (.pointer (some ⟨hb,0,none⟩)),.int .i64 j] w fun e w'=>e=.returned (.tuple #[])/\C7 g w w'/\E1 g cap (Py Ec (j+1) d j) w':=by
 have HH:=Aoy H;have HR:=Aoy R;have HN:=Aoy hn;have mL:=A2p (.pointer (some ⟨hb,0,none⟩));have mS:=Tv (.pointer (some ⟨hb,0,none⟩));clear H R hn
 go_enter Vp.func60,Tryz.ntmps60
 go_wp2
 go_loopw [1] (fun vj wr=>∃(k:Nat) (d':Array Ae),k<=j/\vj=.int .i64 k/\Hid (d'.size=n)/\Hid (C7 g w wr)/\Hid (E1 g cap d' wr)/\Hid (Py Ec (k+1) d' k=Py Ec (j+1) d j)) (fun vj _=>(intOf vj).toNat)
 case atStart=>exact⟨j,d,Ap0 _,rfl,HN.out,C7.refl _ _,HR.out,rfl⟩
 case round =>
  obtain⟨k,d',hk,rfl,HS,HO,HRW,HE⟩:=hrel;have HSS:=Aoy (HH.out.only HO.out hne)
  rcases Aqq k with rfl|hk0
  ·go_wp2
   go_end0
   exact⟨rfl,HO.out,by rw[<-HE.out,A1z Ec d' 0 (.inl rfl)];exact HRW.out⟩
  ·obtain⟨m,rfl⟩:∃m,k=m+1:=⟨k-1,by omega⟩
   obtain⟨p,hp⟩:∃p,m / 2=p:=⟨_,rfl⟩;have hpm:p<=m:=by omega
   have dv:Int.tdiv (m:Int) 2=(p:Int):=by rw[Arf (by omega)];omega
   have wr1:IntKind.i64.wrap (m:Int)=(m:Int):=Aq4 _ (by omega)
   have wr2:IntKind.i64.wrap (p:Int)=(p:Int):=Aq4 _ (by omega)
   have ne1:((p:Int) ==(m:Int)+1)=false:=by simp;omega
   have CL:=fun W (H:HpS hb g n cap W) (R:E1 g cap d' W)=>Zt hb g n cap (m+1) p d' HS.out (by omega) (by omega) W H R
   cases hl:Ec d'[m+1]! d'[p]! with
   | false =>
     rw[hl]at CL;replace CL:=Aoy (CL wr HSS.out HRW.out);have HST:Hid (Py Ec (m+1+1) d' (m+1)=d'):=A1z Ec d' (m+1) (.inr (by rw[Au5,hp];exact hl))
     clear hl hp hk hn2 hj
     go_wp2_with fail
     refine CL.out.mono ?_
     rintro e w2 ⟨rfl,hb2⟩
     go_wp2
     go_end0
     exact⟨rfl,HO.out.trans (C7.Ay hb2),by rw[<-HE.out,HST.out];exact HRW.out.step hb2⟩
   | true =>
     have HGO:Hid (Py Ec (p+1) (swp d' (m+1) p) p=Py Ec (j+1) d j):=by
      have:=Ahp Ec d' m (by rw[hp];exact hl)
      rw[hp]at this
      exact this.symm.trans HE.out
     rw[hl]at CL;replace CL:=Aoy (CL wr HSS.out HRW.out)
     have CS:Hid (∀W,Below wr.heap.size wr W->Calls Vp.prog 167 #[.pointer (some ⟨hb,0,none⟩),.int .i64 p,.int .i64 (m+1:Nat)] W fun e w'=>e=.returned (.tuple #[])/\C7 g W w'/\E1 g cap (swp d' (m+1) p) w'):=fun W hbw=>by
      have:=Sg hb g n cap p (m+1) d' HS.out (by omega) (by omega) W (HSS.out.step hbw) (HRW.out.step hbw)
      rwa [Uq d' (by have:=HS.out;omega) (by have:=HS.out;omega)]at this
     have HSZ:Hid ((swp d' (m+1) p).size=n):=(swp_size _ _ _).trans HS.out;clear hl hp
     go_wp2_with fail
     refine CL.out.mono ?_
     rintro e w2 ⟨rfl,hb2⟩;have CS2:=Aoy (CS.out w2 hb2)
     go_wp2_with fail
     refine CS2.out.mono ?_
     rintro e w3 ⟨rfl,ho3,hr3⟩;have HO3:=Aoy ((HO.out.trans (C7.Ay hb2)).trans ho3);have HR3:=Aoy hr3
     go_wp2
     go_roundw
     case rel=>exact⟨p,swp d' (m+1) p,by omega,rfl,HSZ.out,HO3.out,HR3.out,HGO.out⟩
     case measure=>simp[intOf];omega
end
end Go.Proofs.YtlfleicchbgcmaaGreat
