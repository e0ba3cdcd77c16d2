import Derived.Test.YtjaehldnlamgkaaGreatDoorXe7
import Derived.Conc.Beside
import Derived.Test.YtjaehldnlamgkaaGreatDoorXe0
set_option linter.all false
set_option maxHeartbeats 16000000
set_option maxRecDepth 100000
namespace Go.Proofs.YtjaehldnlamgkaaGreatDoor
namespace Co
open Go.Conc Tl Lr Bar
def Ew (X:Cx)(B:Lk)(b':Nat):Prop:=∃b,B b b'/\¬X.D b/\¬X.F b
def Jj (X:Cx)(B:Lk)(b':Nat):Prop:=∃b,B b b'/\¬X.D b/\X.F b
def Aw (L R:Nat->Prop)(W W2:World):Prop:=W.heap.size<=W2.heap.size /\(∀b,L b\/R b->W2.heap[b]?=W.heap[b]?)/\W2.os=W.os/\W2.output=W.output
def EvC (L R:Nat->Prop)(e:Event):Prop :=
 match e.loc with
 | .cell a=>e.sync=false /\(L a.block \/(R a.block/\e.write=false))
 | .obj r=>L r
 | .mark m=>m=.noRoom
 | _=>False
structure Did (L R:Nat->Prop)(W:World)(L1:Nat->Prop)(W1:World)(n:Array Event):Prop where
 old:∀b,L b->L1 b
 new:∀b,L1 b->L b\/W.heap.size<=b
 lt:∀b,L1 b->b<W1.heap.size
 size:W.heap.size<=W1.heap.size
 kept:∀b,b<W.heap.size->¬L b->W1.heap[b]?=W.heap[b]?
 tape:W1.tape=W.tape
 os:W1.os=W.os/\W1.output=W.output
 evs:∀e∈n,EvC L1 R e
inductive Co (P:Program)(m:Bool)(base:List Frame)(R:Nat->Prop)(Post:(Nat->Prop)->Frame->List Frame->World->Prop):(Nat->Prop)->Frame->List Frame->World->Prop
 | stop {L:Nat->Prop} {fr:Frame} {cs:List Frame} {W:World}:Post L fr cs W->Co P m base R Post L fr cs W
 | go {L:Nat->Prop} {fr:Frame} {cs:List Frame} {W:World} (f1:World->Frame) (c1:World->List Frame) (w1:World->World) (n1:World->Array Event) (L1:World->Nat->Prop) :
  (∀W2,Aw L R W W2->stepG P m (G fr (cs++base)) W2=.go (G (f1 W2) (c1 W2++base)) (w1 W2) (n1 W2)/\Did L R W2 (L1 W2) (w1 W2) (n1 W2)) ->
  (∀W2,Aw L R W W2->Co P m base R Post (L1 W2) (f1 W2) (c1 W2) (w1 W2))->Co P m base R Post L fr cs W
section
variable {X : Cx} {P P' : Program}
theorem Gc {B:Lk}{V W W2:World}(h:WR X B V W)(k:Aw (Ew X B) (Jj X B) W W2):WR X B { V with tape:=W2.tape,drawn:=W2.drawn } W2 where
 tape:=rfl
 drawn:=rfl
 os:=k.2.2.1.trans h.os
 output:=k.2.2.2.trans h.output
 fn:=h.fn
 inj:=h.inj
 G8:=h.G8
 live b b' x d f:=by
  obtain⟨o,o',h1,h2,h3⟩:=h.live b b' x d f
  exact⟨o,o',h1,(k.2.1 b' (.inl ⟨b,x,d,f⟩)).trans h2,h3⟩
 Hj b b' x d f:=by
  obtain⟨c,c',t,t',g,h1,h2,h3⟩:=h.Hj b b' x d f
  exact⟨c,c',t,t',g,h1,(k.2.1 b' (.inr ⟨b,x,d,f⟩)).trans h2,h3⟩
 dead b b' x d:=by
  obtain⟨h1,h2⟩:=h.dead b b' x d
  exact⟨h1,Am2 h2 k.1⟩
 Vv:=h.Vv
 Qo:=h.Qo
 low:=h.low
 nV:=h.nV
 nW:=Am1 h.nW k.1
theorem A0x {B B1:Lk}{V W V1 W1:World}(hw:WR X B V W)(hx:Ext X B V W B1 V1 W1):Jj X B1=Jj X B:=by
 funext b'
 apply propext
 constructor
 ·rintro⟨b,h1,h2,h3⟩
  rcases hx.new b b' h1 with h |⟨h,_⟩
  ·exact⟨b,h,h2,h3⟩
  ·have:=hw.Qo b h3
   omega
 ·rintro⟨b,h1,h2,h3⟩
  exact⟨b,hx.le _ _ h1,h2,h3⟩
theorem Xr {B B1:Lk}{V W V1 W1:World}{n:Array Event}(hw:WR X B V W)(hw1:WR X B1 V1 W1)(hx:Ext X B V W B1 V1 W1)(hn:A39 X B1 n):Did (Ew X B) (Jj X B) W (Ew X B1) W1 n where
 old b:=fun⟨a,h1,h2,h3⟩=>⟨a,hx.le _ _ h1,h2,h3⟩
 new b:=fun⟨a,h1,h2,h3⟩=>by
  rcases hx.new a b h1 with h |⟨_,h⟩
  ·exact .inl ⟨a,h,h2,h3⟩
  ·exact .inr h
 lt b:=fun⟨a,h1,_⟩=>hw1.ltW h1
 size:=hx.Tt
 kept b hb hl:=hx.kept b hb fun a ha=>by
  by_cases h1:X.D a
  ·exact .inl h1
  ·by_cases h2:X.F a
   ·exact .inr h2
   ·exact absurd ⟨a,ha,h1,h2⟩ hl
 tape:=hx.tape
 os:=⟨by rw[hw1.os,hx.osV.1,hw.os],by rw[hw1.output,hx.osV.2,hw.output]⟩
 evs e he:=by
  obtain⟨h1,h2⟩:=hn e he;rw[<-A0x hw hx];unfold Zl at h1;unfold EvC
  split at h1
  ·rename_i a ha
   rw[ha];obtain⟨⟨b,g1,g2,g3⟩,g4⟩:=h1
   refine⟨g4,?_⟩
   by_cases hf:X.F b
   ·refine .inr ⟨⟨b,g1,g2,hf⟩,?_⟩
    by_cases hq:e.write=true
    ·exact absurd hf (g3 hq)
    ·simpa using hq
   ·exact .inl ⟨b,g1,g2,hf⟩
  ·rename_i r hr
   rw[hr]
   exact h1
  ·rename_i mk hm
   rw[hm]
   rcases h1 with h |⟨f,h⟩
   ·exact h
   ·exact absurd (by rw[hm,h]) (h2 f)
  ·exact h1.elim
def Gr (n m:Nat)(B0 B:Lk):Prop:=Le B0 B/\∀b b',B b b'->B0 b b' \/(n<=b/\m<=b')
theorem Gr.refl (n m:Nat)(B:Lk):Gr n m B B:=⟨Le.refl _,fun _ _ h=>.inl h⟩
theorem Gr.ext {n m:Nat}{B0 B B1:Lk}{V W V1 W1:World}(h:Gr n m B0 B)(hn:n<=V.heap.size)(hm:m<=W.heap.size)(k:Ext X B V W B1 V1 W1):Gr n m B0 B1 :=
 ⟨h.1.trans k.le,fun b b' x=>by
  rcases k.new b b' x with y |⟨y1,y2⟩
  ·exact h.2 b b' y
  ·exact .inr ⟨Am1 hn y1,Am1 hm y2⟩⟩
def Hx (X:Cx)(n m:Nat)(B0:Lk)(F:St->Prop)(L:Nat->Prop)(fr':Frame)(cs':List Frame)(W:World):Prop :=
 ∃B x τ d,Gr n m B0 B/\F x/\WR X B (x.at τ d).V W/\Dj X B x.fr fr'/\J7 X B x.cs cs'/\L=Ew X B/\n<=x.V.heap.size/\m<=W.heap.size
theorem Hx.rely {n m:Nat}{B0:Lk}{F:St->Prop}{L R:Nat->Prop}{fr':Frame}{cs':List Frame}{W W2:World}(h:Hx X n m B0 F L fr' cs' W)(hR:∀B,Gr n m B0 B->L=Ew X B->Jj X B=R)(hr:Aw L R W W2):Hx X n m B0 F L fr' cs' W2:=by
 obtain⟨B,x,τ,d,h1,h2,h3,h4,h5,rfl,h6,h7⟩:=h;have:=hR B h1 rfl;rw[<-this]at hr
 exact⟨B,x,W2.tape,W2.drawn,h1,h2,Gc (V:=(x.at τ d).V) h3 hr,h4,h5,rfl,h6,Am1 h7 hr.1⟩
theorem A7e (H:Whole X P P')(hT:∀f,¬X.T f){F:St->Prop}{m:Bool}{base:List Frame}{n0 m0:Nat}{B0:Lk}{R:Nat->Prop}{x:St}(h:Bar.Way P F x) :
 ∀{B:Lk} {W:World} {fr':Frame} {cs':List Frame} {τ:Tape} {d:Nat},WR X B (x.at τ d).V W->Dj X B x.fr fr'->J7 X B x.cs cs' ->(Cb x.fr x.cs).1=none/\Bq (Cb x.fr x.cs).2 base->Gr n0 m0 B0 B->n0<=x.V.heap.size->m0<=W.heap.size->Jj X B=R ->
  Co P' m base R (Hx X n0 m0 B0 F) (Ew X B) fr' cs' W:=by
 induction h with
 | @fin x h =>
   intro B W fr' cs' τ d hw hf hc hb hle hn0 hm0 hR
   exact .stop ⟨B,x,τ,d,hle,h,hw,hf,hc,rfl,hn0,hm0⟩
 | @go x g hg _ ih =>
   intro B W fr' cs' τ d hw hf hc hb hle hn0 hm0 hR
   have key:∀W2,Aw (Ew X B) R W W2->∃fr1 cs1 W1 n L1,stepG P' m (G fr' (cs'++base)) W2=.go (G fr1 (cs1++base)) W1 n/\Did (Ew X B) R W2 L1 W1 n/\Co P' m base R (Hx X n0 m0 B0 F) L1 fr1 cs1 W1:=by
    intro W2 hr;rw[<-hR]at hr;have hw2:=Gc hw hr;have hgo:=hg W2.tape W2.drawn;have hp:=hgo.Ks;obtain⟨es,hgo⟩:=hgo;have hw3:WR X B (x.at W2.tape W2.drawn).V W2:=hw2;obtain⟨c1,c1',fr1',B',W1,n,e1,e2,hx,hw1,hn,hst⟩:=(Z5 H hw3 (base:=[wall P]) (base':=base) hf hc ⟨hb.2.wall,hb.2⟩ (We hp hb.1) true m).1 _ _ _ _ hgo;obtain rfl:=Anr e1;have hbt:=U6 H hw3 (base:=[wall P]) hf hc hb.2.wall (We hp hb.1) true _ _ _ _ hgo
    rcases hst with⟨g1,g2⟩ |⟨f,p,p',k,ht,_⟩
    ·refine⟨fr1',c1',W1,n,Ew X B',e2,hR▸Xr hw3 hw1 hx hn,?_⟩
     exact @ih W2.tape W2.drawn _ _ _ _ (g W2.tape W2.drawn).V.tape (g W2.tape W2.drawn).V.drawn hw1 g1 g2 (by rw[hbt];exact hb) (hle.ext (V:=(x.at W2.tape W2.drawn).V) hn0 (Am1 hm0 hr.1) hx) (Am1 hn0 hx.A25) (Am1 (Am1 hm0 hr.1) hx.Tt) ((A0x hw3 hx).trans hR)
    ·exact absurd ht.1 (hT f)
   have key2:∀W2,∃r:Frame×List Frame×World×Array Event×(Nat->Prop),Aw (Ew X B) R W W2->stepG P' m (G fr' (cs'++base)) W2=.go (G r.1 (r.2.1++base)) r.2.2.1 r.2.2.2.1/\Did (Ew X B) R W2 r.2.2.2.2 r.2.2.1 r.2.2.2.1/\Co P' m base R (Hx X n0 m0 B0 F) r.2.2.2.2 r.1 r.2.1 r.2.2.1:=by
    intro W2
    by_cases hr:Aw (Ew X B) R W W2
    ·obtain⟨fr1,cs1,W1,n,L1,h1,h2,h3⟩:=key W2 hr
     exact⟨(fr1,cs1,W1,n,L1),fun _=>⟨h1,h2,h3⟩⟩
    ·exact⟨(fr',cs',W,#[],fun _=>False),fun h=>absurd h hr⟩
   exact .go (fun W2=>(key2 W2).choose.1) (fun W2=>(key2 W2).choose.2.1) (fun W2=>(key2 W2).choose.2.2.1) (fun W2=>(key2 W2).choose.2.2.2.1) (fun W2=>(key2 W2).choose.2.2.2.2)
    (fun W2 hr=>⟨((key2 W2).choose_spec hr).1,((key2 W2).choose_spec hr).2.1⟩) (fun W2 hr=>((key2 W2).choose_spec hr).2.2)
theorem Q3 (H:Whole X P P'){Q:Value->World->Prop}(hQ:∀v w τ d,Q v w->Q v { w with tape:=τ,drawn:=d }){m:Bool}{n0 m0:Nat}{B0:Lk}{L R:Nat->Prop}{fr':Frame}{cs':List Frame}{W:World}
 (h:Hx X n0 m0 B0 (Fin P Q) L fr' cs' W) (hR:∀B,Gr n0 m0 B0 B->L=Ew X B->Jj X B=R):cs'=[]/\∀W2,Aw L R W W2->∃v' W1 n L1,Did L R W2 L1 W1 n /\(∀c bs,stepG P' m (G fr' (c :: bs)) W2=.go (G (c.finish v') bs) W1 n) /\
  ∃B V v,Gr n0 m0 B0 B/\Q v V/\VR X B v v'/\WR X B V W1/\L1=Ew X B:=by
 obtain⟨B,x,τ,d,hle,h,hw,hf,hc,rfl,hn0,hm0⟩:=h;have hR:=hR B hle rfl;obtain⟨h1,v,⟨g1,g2,g3,fn,g4,g5⟩,hq⟩:=h;have hcs:cs'=[]:=by rw[h1]at hc;cases hc;rfl
 subst hcs
 refine⟨rfl,fun W2 hr=>?_⟩
 rw[<-hR]at hr ⊢;have hw2:=Gc hw hr
 have hm':fr'.mode=.returning:=by
  have:=hf.mode;rw[g1]at this;generalize fr'.mode=q at this
  cases this
  rfl
 have hd':fr'.defers=[]:=by
  have:=hf.defers;rw[g2]at this;generalize fr'.defers=q at this
  cases this
  rfl
 have hk':fr'.kind=.normal:=hf.kind.trans g3
 obtain⟨fn',e5,hres⟩:∃fn',P'.funcs[x.fr.fn]?=some fn'/\fn'.results=fn.results:=by
  rcases H.hF.funcs x.fr.fn with⟨e1,e2⟩ |⟨f1,f2,e1,e2,hn,hr,_⟩
  ·rw[g4]at e1;cases e1
  ·rw[g4]at e1;cases e1;exact⟨f2,e2,hr⟩
 have g6:=Gu H hw (fr':=fr') hf g4 (fr:=x.fr) (V:=(x.at τ d).V) (v:=v) (by
  have:=Gu H (A34 (τ:=x.V.tape) (d:=x.V.drawn) hw) hf g4 g5 τ d
  exact this) W2.tape W2.drawn
 have g6:(results fn x.fr.tmps).run P { x.V with tape:=W2.tape,drawn:=W2.drawn }=.ok v { x.V with tape:=W2.tape,drawn:=W2.drawn }:=g6
 rcases Is (Gx H.hF.toPRel hres hf.tmps) hw2 with⟨a,V1,B1,W1,b,n,e1,e2,hx,hw1,hab,hn⟩ |⟨v,V1,B1,W1,v',n,e1,e2,hx,hw1,hab,hn⟩ |⟨h,V1,e1,hm⟩
 ·have e1:(results fn x.fr.tmps).run P { x.V with tape:=W2.tape,drawn:=W2.drawn }=.ok a V1:=e1
  rw[g6]at e1;injection e1 with e1 e3
  subst e1 e3
  refine⟨b,W1,seen P' fr'.fn n,Ew X B1,Xr hw2 hw1 hx (hn.seen _),fun c bs=>?_,B1,_,v,hle.ext (V:=(x.at W2.tape W2.drawn).V) hn0 (Am1 hm0 hr.1) hx,hQ _ _ W2.tape W2.drawn hq,hab,hw1,rfl⟩
  rw[Ck (by rw[hm'];simp)]
  unfold unwind;rw[hd',hm',hf.fn,e5];dsimp only;rw[e2 #[],Ang];dsimp only;unfold doReturn;rw[hk'];simp[GStep.after]
  rfl
 ·have e1:(results fn x.fr.tmps).run P { x.V with tape:=W2.tape,drawn:=W2.drawn }=.halt (.panic v) V1:=e1
  rw[g6]at e1
  cases e1
 ·have e1:(results fn x.fr.tmps).run P { x.V with tape:=W2.tape,drawn:=W2.drawn }=.halt h V1:=e1
  rw[g6]at e1
  cases e1
end
end Co
namespace Lr
open Go.Conc
structure Alike (X X':Cx):Prop where
 C:X'.C=X.C
 M:X'.M=X.M
 As:X'.As=X.As
 T:X'.T=X.T
 K:X'.K=X.K
 D:X'.D=X.D
 G:X'.G=X.G
 N:X'.N=X.N
 R:X'.R=X.R
 Dn:X'.Dn=X.Dn
 L:X'.L=X.L
 Mv:X'.Mv=X.Mv
 Z:X'.Z=X.Z
 Ar:X'.Ar=X.Ar
 Ex:X'.Ex=X.Ex
section
variable {X X' : Cx} {B : Lk} (A : Alike X X')
include A
theorem Ce.cx {a a':Addr}(h:Ce X B a a'):Ce X' B a a':=⟨⟨h.1.1,by rw[A.D];exact h.1.2⟩,by rw[A.L];exact h.2⟩
theorem FnR.cx {f f':Fn}(h:FnR X B f f'):FnR X' B f f':=by
 cases h with
 | func f c t=>exact .func f (by rw[A.C];exact c) (by rw[A.T];exact t)
 | method n c=>exact .method n (by rw[A.M];exact c)
 | methodOf t n c=>exact .methodOf t n (by rw[A.M];exact c)
 | yield l l' c=>exact .yield l l' c
theorem VR.cx {v v':Value}(h:VR X B v v'):VR X' B v v':=by
 induction h with
 | bool b=>exact .bool b
 | int k n=>exact .int k n
 | float k n=>exact .float k n
 | complex k n m=>exact .complex k n m
 | string s=>exact .string s
 | Mj=>exact .Mj
 | ptr a=>exact .ptr (a.cx A)
 | Iu l c=>exact .Iu l c
 | slice l c a=>exact .slice l c (a.cx A)
 | A88=>exact .A88
 | map r=>exact .map r
 | A7b=>exact .A7b
 | chan r=>exact .chan r
 | func f hp _ hq _ ip iq=>exact .func (f.cx A) hp ip hq iq
 | nilFunc=>exact .nilFunc
 | iface t _ i=>exact .iface t i
 | nilIface=>exact .nilIface
 | gone a l c e=>exact .gone a l c (by rw[A.Ex];exact e)
 | agg hp _ i=>exact .agg hp i
 | tuple hp _ i=>exact .tuple hp i
theorem AR.cx {p p':Array Value}(h:AR X B p p'):AR X' B p p':=⟨h.1,fun i v v' a b=>(h.2 i v v' a b).cx A⟩
theorem PR.cx {l:Nat}{p p':Array Value}(h:PR X B l p p'):PR X' B l p p':=⟨h.1,fun i v v' g a b=>(h.2 i v v' g a b).cx A⟩
theorem Alike.known {b n:Nat}{t t':TypeId}(h:TyR X b t t' n):TyR X' b t t' n:=by unfold TyR;rw[A.L,A.Mv,A.Z,A.N];exact h
theorem TgR.cx {t t':Target}(h:TgR X B t t'):TgR X' B t t':=by
 cases h with
 | fn f p=>exact .fn (f.cx A) (p.cx A)
 | nil=>exact .nil
 | builtin b ts t cs h=>exact .builtin b ts t cs h
 | collected r=>exact .collected r
theorem Rf.cx {l l':List Deferred}(h:Rf X B l l'):Rf X' B l l':=by
 induction h with
 | nil=>exact .nil
 | cons q a _ ih=>exact .cons (by rw[A.Dn];exact q) ⟨a.1.cx A,a.2.cx A⟩ ih
theorem Hv.cx {o:Operand}(h:Hv X o):Hv X' o:=by
 cases o with
 | tmp t=>trivial
 | const v=>exact fun B=>(h B).cx A
 | global g=>exact(by rw[A.G];exact h:X'.G g)
 | func f=>exact(by rw[A.C,A.T];exact h:X'.C f/\¬X'.T f)
theorem Mw.cx:∀{c c':Code} {K:Oper->Prop},Mw X K c c'->Mw X' K c c'
 | .refuse _,_,_,h=>h.imp id fun h=>(by rw[A.R];exact h:X'.R _ _)
 | .region _ _ _,_,_,h=>h
 | .seq _ _,_,_,⟨a,b,h1,h2,h3⟩=>⟨a,b,h1,h2.cx,h3.cx⟩
 | .cond _ _ _,_,_,⟨a,b,h1,h0,h2,h3⟩=>⟨a,b,h1,h0.cx A,h2.cx,h3.cx⟩
 | .rangeFunc _ _ _ _,_,_,⟨a,b,h1,h0,h2,h3⟩=>⟨a,b,h1,h0.cx A,h2.cx,h3.cx⟩
 | .block _ _,_,_,⟨a,h1,h2⟩=>⟨a,h1,h2.cx⟩
 | .loop _,_,_,⟨a,h1,h2⟩=>⟨a,h1,h2.cx⟩
 | .scope _,_,_,⟨a,h1,h2⟩=>⟨a,h1,h2.cx⟩
 | .goto _,_,_,h=>h.elim
 | .skip,_,_,h=>h
 | .ret,_,_,h=>h
 | .exit _,_,_,h=>h
 | .label _,_,_,h=>h
theorem LpR.cx {l l':Loop}(h:LpR X B l l'):LpR X' B l l' :=
 ⟨h.state,h.pending,fun c e K=>(h.pok c e K).cx A,h.fn,h.tmps.cx A,h.params,by rw[CdN,A.K];exact h.assign.cx A,by rw[CdN,A.K];exact h.body.cx A,h.defers⟩
theorem Um.cx {o o':Obj}(h:Um X B o o'):Um X' B o o':=by
 cases h with
 | cells t f a=>exact .cells t f (a.cx A)
 | chan cap cl s r tm a=>exact .chan cap cl s r tm (a.cx A)
 | number l a=>exact .number l (a.cx A)
 | stringIter s p=>exact .stringIter s p
 | loop a=>exact .loop (a.cx A)
 | A0d=>exact .A0d
 | A0e a=>exact .A0e (a.cx A)
 | view t e a=>exact .view t (by rw[A.Ex];exact e) (a.cx A)
theorem ItR.cx {K:Oper->Prop}{i i':Item}(h:ItR X K B i i'):ItR X' K B i i':=by
 cases h with
 | code a=>exact .code (a.cx A)
 | inBlock i=>exact .inBlock i
 | inLoop a=>exact .inLoop (a.cx A)
 | inScope a=>exact .inScope (a.cx A)
 | inRegion o l a=>exact .inRegion o l a
 | inRangeFunc a=>exact .inRangeFunc a
 | endRangeFunc a=>exact .endRangeFunc a
 | beginRound=>exact .beginRound
theorem Ri.cx {K:Oper->Prop}{l l':List Item}(h:Ri X K B l l'):Ri X' K B l l':=by
 induction h with
 | nil=>exact .nil
 | cons a _ ih=>exact .cons (a.cx A) ih
theorem Zk.cx {l l':List PanicEntry}(h:Zk X B l l'):Zk X' B l l':=by
 induction h with
 | nil=>exact .nil
 | cons r g a _ ih=>exact .cons r g (a.cx A) ih
theorem MoR.cx {l l':FrameMode}(h:MoR X B l l'):MoR X' B l l':=by
 cases h with
 | run=>exact .run
 | returning=>exact .returning
 | panicking a=>exact .panicking (a.cx A)
theorem Dj.cx {fr fr':Frame}(h:Dj X B fr fr'):Dj X' B fr fr' :=
 ⟨h.fn,h.tmps.cx A,by
  have e:∀r,Kr X' r=Kr X r:=fun r=>by cases r<;>simp[Kr,A.K]
  rw[e]
  exact h.todo.cx A,h.defers.cx A,h.mode.cx A,h.kind,h.roundOf⟩
theorem J7.cx {l l':List Frame}(h:J7 X B l l'):J7 X' B l l':=by
 induction h with
 | nil=>exact .nil
 | cons a _ ih=>exact .cons (a.cx A) ih
end
theorem A9o {X X':Cx}{B:Lk}{V W:World}(A:Alike X X')(hw:WR X B V W){s s':Nat}(hs:B s s')(hd:¬X.D s){c:Array Value}{t:TypeId}{f:Nat×Nat}(hv:V.heap[s]?=some (.cells c t f))
 (hF:∀b,X'.F b↔X.F b\/b=s):WR X' B { V with heap:=V.heap.setIfInBounds s (.cells c t (0,c.size)) } W:=by
 have hlt:=hw.Wo hs
 refine⟨hw.tape,hw.drawn,hw.os,hw.output,hw.fn,hw.inj,fun g hg=>hw.G8 g (by rw[A.G]at hg;exact hg),fun b b' x d fz=>?_,fun b b' x d fz=>?_,fun b b' x d=>?_,fun b d=>?_,fun b fz=>?_,by rw[A.N];exact hw.low,by rw[A.N];simpa using hw.nV,by rw[A.N];exact hw.nW⟩
 ·rw[A.D]at d;have hne:s≠b:=fun e=>fz ((hF b).2 (.inr e.symm))
  obtain⟨o,o',h1,h2,h3⟩:=hw.live b b' x d fun h=>fz ((hF b).2 (.inl h))
  exact⟨o,o',by simp[hne,h1],h2,h3.cx A⟩
 ·rw[A.D]at d
  by_cases e:s=b
  ·subst e;obtain rfl:=hw.fn _ _ _ x hs
   rcases hw.at hs hd with⟨c1,c',t1,t',f1,f',h1,h2,ha,_,hm⟩ |⟨_,o,o',h1,h2,_,hn,_⟩
   ·rw[hv]at h1
    cases h1
    exact⟨c,c',t,t',f',by simp[hlt],h2,by rw[A.L];exact ha.cx A,A.known hm⟩
   ·rw[hv]at h1
    cases h1
    exact absurd rfl (hn _ _ _)
  ·obtain⟨c1,c',t1,t',g,h1,h2,h3,h4⟩:=hw.Hj b b' x d (((hF b).1 fz).resolve_right fun h=>e h.symm)
   exact⟨c1,c',t1,t',g,by simp[e,h1],h2,by rw[A.L];exact h3.cx A,A.known h4⟩
 ·rw[A.D]at d;have hne:s≠b:=fun e=>hd (e▸d)
  obtain⟨⟨t1,h1⟩,h2⟩:=hw.dead b b' x d
  exact⟨⟨t1,by simp[hne,h1]⟩,h2⟩
 ·rw[A.D]at d
  simpa using hw.Vv b d
 ·rcases(hF b).1 fz with h|rfl
  ·simpa using hw.Qo b h
  ·simpa using hlt
theorem A6w {X X':Cx}{B:Lk}{V W:World}(A:Alike X X')(hw:WR X B V W){s':Nat}(hs:∀b,¬B b s'){c:Array Value}{t:TypeId}{f:Nat×Nat}(hv:W.heap[s']?=some (.cells c t f))(hc:∀v∈c,Flat X v)
 (hN:X.N<=s') (hF:∀b,X'.F b↔X.F b\/b=V.heap.size):WR X' (fun b b'=>B b b' \/(b=V.heap.size/\b'=s')) { V with heap:=V.heap.push (.cells c t (0,c.size)) } W:=by
 have hle:Le B (fun b b'=>B b b' \/(b=V.heap.size/\b'=s')):=fun b b' h=>.inl h
 have hnD:¬X.D V.heap.size:=fun h=>Aod _ (hw.Vv _ h)
 refine⟨hw.tape,hw.drawn,hw.os,hw.output,?_,?_,fun g hg=>.inl (hw.G8 g (by rw[A.G]at hg;exact hg)),fun b b' x d fz=>?_,fun b b' x d fz=>?_,fun b b' x d=>?_,fun b d=>?_,fun b fz=>?_,?_,by rw[A.N];exact Am1 hw.nV (by simp),by rw[A.N];exact hw.nW⟩
 ·rintro b b₁ b₂ (h |⟨rfl,rfl⟩) (k |⟨e,rfl⟩)
  ·exact hw.fn b b₁ b₂ h k
  ·exact absurd (hw.Wo h) (by omega)
  ·exact absurd (hw.Wo k) (by omega)
  ·rfl
 ·rintro b₁ b₂ b' (h |⟨rfl,rfl⟩) (k |⟨rfl,e⟩)
  ·exact hw.inj b₁ b₂ b' h k
  ·exact absurd (e▸h) (hs b₁)
  ·exact absurd k (hs b₂)
  ·rfl
 ·rw[A.D]at d
  rcases x with x |⟨rfl,rfl⟩
  ·obtain⟨o,o',h1,h2,h3⟩:=hw.live b b' x d fun h=>fz ((hF b).2 (.inl h))
   exact⟨o,o',by simp[Ama,Anb (hw.Wo x),h1],h2,(h3.mono hle).cx A⟩
  ·exact absurd ((hF _).2 (.inr rfl)) fz
 ·rw[A.D]at d
  rcases x with x |⟨rfl,rfl⟩
  ·obtain⟨c1,c',t1,t',g,h1,h2,h3,h4⟩:=hw.Hj b b' x d (((hF b).1 fz).resolve_right (Anb (hw.Wo x)))
   exact⟨c1,c',t1,t',g,by simp[Ama,Anb (hw.Wo x),h1],h2,by rw[A.L];exact(h3.mono hle).cx A,A.known h4⟩
  ·exact⟨c,c,t,t,f,by simp,hv,⟨Am0 _,fun i v v' _ h1 h2=>by
    cases h1.symm.trans h2
    exact(hc v (Amp h1) _).cx A⟩,TyR.same (by rw[A.L];exact Anm fun h=>Aod _ (hw.Qo _ (X.lf _ h)))⟩
 ·rw[A.D]at d
  rcases x with x |⟨rfl,rfl⟩
  ·obtain⟨⟨t1,h1⟩,h2⟩:=hw.dead b b' x d
   exact⟨⟨t1,by simp[Ama,Anb (hw.Wo x),h1]⟩,h2⟩
  ·exact absurd d hnD
 ·rw[A.D]at d;have:=hw.Vv b d;simp;omega
 ·rcases(hF b).1 fz with h|rfl
  ·have:=hw.Qo b h;simp;omega
  ·simp
 ·rw[A.N];rintro b b' (h |⟨rfl,rfl⟩)
  ·exact hw.low b b' h
  ·have:=hw.nV
   omega
end Lr
namespace Co
open Go.Conc Tl Lr Bar
section
variable {X : Cx} {P P' : Program}
theorem A3k (H:Whole X P P')(hT:∀f,¬X.T f){F:St->Prop}(hF:∀x τ d,JL X x->F x->F (x.at τ d)){m:Bool}{base:List Frame}{x:St}{B:Lk}{W:World}{fr':Frame}{cs':List Frame}
 (hw:WR X B x.V W) (hf:Dj X B x.fr fr') (hc:J7 X B x.cs cs') (hb:(Cb x.fr x.cs).1=none/\Bq (Cb x.fr x.cs).2 base)
 (hr:∀τ d,∃z n,F z/\runN P n (lone x.fr (x.cs++[wall P]) { x.V with tape:=τ,drawn:=d })=.next (lone z.fr (z.cs++[wall P]) z.V)) :
 Co P' m base (Jj X B) (Hx X x.V.heap.size W.heap.size B F) (Ew X B) fr' cs' W:=by
 have K:=A19 H hT hF;have hj:JL X x:=⟨B,W,fr',cs',hw,hf,hc,hb.1,hb.2.nil⟩
 have hC:C P F x:=fun τ d=>by
  obtain⟨z,n,hz,hn⟩:=hr τ d
  exact X8 K hz n (x.at τ d) (K.tape _ τ d hj) hn
 exact A7e H hT (bar K hj hC) (τ:=x.V.tape) (d:=x.V.drawn) hw hf hc hb (Gr.refl _ _ _) (Am0 _) (Am0 _) rfl
end
end Co
namespace Co
open Go.Conc Tl Lr Bar
open Go.ConcN (sumTo upd sumTo_upd upd_ne upd_same)
structure Left (L:Nat->Prop)(w:World)(L':Nat->Prop)(w':World):Prop where
 old:∀b,L b->L' b
 new:∀b,L' b->L b\/w.heap.size<=b
 size:w.heap.size<=w'.heap.size
 kept:∀b,b<w.heap.size->¬L b->w'.heap[b]?=w.heap[b]?
 tape:w'.tape=w.tape
 os:w'.os=w.os/\w'.output=w.output
theorem Left.refl (L:Nat->Prop)(w:World):Left L w L w:=⟨fun _ h=>h,fun _ h=>.inl h,Am0 _,fun _ _ _=>rfl,rfl,rfl,rfl⟩
theorem Left.trans {L L1 L2:Nat->Prop}{w w1 w2:World}(h:Left L w L1 w1)(k:Left L1 w1 L2 w2):Left L w L2 w2 where
 old b x:=k.old b (h.old b x)
 new b x:=by
  rcases k.new b x with y|y
  ·exact h.new b y
  ·exact .inr (Am1 h.size y)
 size:=Am1 h.size k.size
 kept b hb hl:=by
  rw[k.kept b (Am2 hb h.size) fun x=>(h.new b x).elim hl fun y=>by omega]
  exact h.kept b hb hl
 tape:=k.tape.trans h.tape
 os:=⟨k.os.1.trans h.os.1,k.os.2.trans h.os.2⟩
theorem Did.left {L R L1:Nat->Prop}{w w1:World}{n:Array Event}(h:Did L R w L1 w1 n):Left L w L1 w1:=⟨h.old,h.new,h.size,h.kept,h.tape,h.os⟩
theorem left_at (L:Nat->Prop)(w:World)(d:Nat):Left L w L (w.at d):=⟨fun _ h=>h,fun _ h=>.inl h,Am0 _,fun _ _ _=>rfl,rfl,rfl,rfl⟩
theorem Ad {L R:Nat->Prop}{W w:World}(h:Aw L R W w)(d:Nat):Aw L R W (w.at d):=h
theorem At (L R:Nat->Prop)(W:World):Aw L R W W:=⟨Am0 _,fun _ _=>rfl,rfl,rfl⟩
theorem Kk {L R:Nat->Prop}{B:Nat}{e:Event}(h:EvC L R e)(hL:∀b,L b->b<B)(hR:∀b,R b->b<B):EvL (fun _=>False) B e:=by
 obtain⟨loc,wr,sy⟩:=e;unfold EvC at h
 refine⟨fun x _ hs=>hs.elim,?_,?_,?_⟩<;>(cases loc<;>dsimp only at h)<;>first
  |(intro e;cases e;done)
  | exact h.elim
  |(subst h;intro e;cases e;done)
  | skip
 ·rcases h.2 with h|h
  ·exact hL _ h
  ·exact hR _ h.1
 ·have:=hL _ h
  cases wr<;>cases sy<;>exact this
 ·subst h;trivial
theorem A7d {P:Program}{base:List Frame}{R:Nat->Prop}{Post:(Nat->Prop)->Frame->List Frame->World->Prop}{L:Nat->Prop}{fr:Frame}{cs:List Frame}{W:World}(h:Co P true base R Post L fr cs W) :
 ∀(gs:Array Goroutine) (w:World) (sl:Option (Nat×Nat)) (t:Trace) (q:Nat->Nat),gs[0]?=some (G fr (cs++base))->Aw L R W w ->(∀b,R b->b<w.heap.size)->Leavers P t gs q->Past (fun _=>False) w.heap.size t ->
  ∃(N:Nat) (gs':Array Goroutine) (fr':Frame) (cs':List Frame) (w' W':World) (sl':Option (Nat×Nat)) (t':Trace) (q':Nat->Nat) (L':Nat->Prop),
   runNT P N (crowd gs w sl) t=(.next (crowd gs' w' sl'),t')/\gs'.size=gs.size/\gs'[0]?=some (G fr' (cs'++base))/\Post L' fr' cs' W'/\Aw L' R W' w'/\Leavers P t' gs' q'/\Past (fun _=>False) w'.heap.size t'/\Left L w L' w':=by
 induction h with
 | @stop L fr cs W hp =>
   intro gs w sl t q h0 hr _ hL hP
   exact⟨0,gs,fr,cs,w,W,sl,t,q,L,rfl,rfl,h0,hp,hr,hL,hP,Left.refl _ _⟩
 | @go L fr cs W f1 c1 w1 n1 L1 hstep _ ih =>
   intro gs w sl t q;generalize hM:sumTo gs.size q=M
   induction M using Nat.strongRecOn generalizing gs w sl t q with
   | _ M ihM =>
     intro h0 hr hR hL hP
     have haw:∀g∈gs,awake g:=by
      intro g hg;obtain⟨i,hi,rfl⟩:=Aq5.1 hg
      rcases Ani i with rfl|hpos
      ·have:gs[0]=G fr (cs++base):=by simpa [Am6 hi]using h0
       rw[this];exact awake_of (.inl rfl)
      ·exact awake_of ((hL.old i _ hpos (Am6 hi)).status.elim .inl fun x=>.inr (.inr x))
     obtain⟨i,g,d,sl',hi,hg,hst⟩:=crowd_pick (P:=P) (w:=w) (sl:=sl) haw ⟨0,_,h0,rfl⟩
     rcases Ani i with rfl|hpos
     ·
      obtain rfl:g=G fr (cs++base):=by rw[h0]at hi;exact(Aml hi).symm
      obtain⟨hgo,hdid⟩:=hstep (w.at d) (Ad hr d);have hrunT:=runT_crowd_go (P:=P) (sl:=sl') (i:=0) hi (show stepG P (0 == 0) (G fr (cs++base)) (w.at d)=_ from hgo);have hsz:((gs.map (woken P (G fr (cs++base)) (G (f1 (w.at d)) (c1 (w.at d)++base)) (w1 (w.at d)))).setIfInBounds 0 (G (f1 (w.at d)) (c1 (w.at d)++base))).size=gs.size:=by simp
      have hlt:0<gs.size:=(Alx.1 h0).1;have hgrow:w.heap.size <=(w1 (w.at d)).heap.size:=hdid.size
      obtain⟨N,gs',fr',cs',w',W',sl'',t',q',L',k1,k2,k3,k4,k5,k6,k7,k8⟩:=ih (w.at d) (Ad hr d) ((gs.map (woken P (G fr (cs++base)) (G (f1 (w.at d)) (c1 (w.at d)++base)) (w1 (w.at d)))).setIfInBounds 0 (G (f1 (w.at d)) (c1 (w.at d)++base))) (w1 (w.at d)) sl' (t++MemOp.ofEvents 0 (G fr (cs++base)).frame.fn (G fr (cs++base)).frame.place (n1 (w.at d))) q (by simp[hlt]) (At _ _ _) (fun b hb=>Am2 (hR b hb) hgrow)
       ⟨fun j x hj hx=>by
        have hne:0≠j:=by omega
        rw[Alz hne,Amv]at hx;obtain⟨y,hy,rfl⟩:=Ami.1 hx;have hq:=hL.old j y hj hy;rw[woken_quitsD hq,Deaf_other t (by omega) _ (fun op hop=>by obtain⟨e,_,rfl⟩:=Go.Conc.mem_ofEvents hop;rfl)]
        exact hq,fun j hj=>by
        rw[Deaf_other t (g':=0) (by simp at hj;omega) _ (fun op hop=>by obtain⟨e,_,rfl⟩:=Go.Conc.mem_ofEvents hop;rfl)]
        exact hL.above j (by simpa using hj)⟩
       ((hP.mono hgrow).own fun e he=>Kk (hdid.evs e he) hdid.lt fun b hb=>Am2 (hR b hb) hgrow)
      exact⟨N+1,gs',fr',cs',w',W',sl'',t',q',L',by simp only[runNT,hst,hrunT];exact k1,k2.trans hsz,k3,k4,k5,k6,k7,((left_at L w d).trans hdid.left).trans k8⟩
     ·
      have hq:=hL.old i g hpos hi;have hi0:(i == 0)=false:=by simp;omega
      have hlt:i<gs.size:=(Alx.1 hi).1
      cases hqi:q i with
      | zero=>rw[hqi]at hq;rw[hq.1]at hg;cases hg
      | succ k =>
        rw[hqi]at hq
        rcases hq with⟨hf,_⟩ |⟨_,g',es,hm,hstp,hq'⟩
        ·rw[hf]at hg;cases hg
        have hrunT:=runT_crowd_go (P:=P) (sl:=sl') (i:=i) hi (by rw[hi0];exact hstp (w.at d))
        have hsz:((gs.map (woken P g g' (w.at d))).setIfInBounds i g').size=gs.size:=by simp
        have hsum:sumTo gs.size (upd q i k) +(k+1)=sumTo gs.size q+k:=by
         have:=sumTo_upd q k id hlt
         simpa [hqi]using this
        obtain⟨N,gs',fr',cs',w',W',sl'',t',q',L',k1,k2,k3,k4,k5,k6,k7,k8⟩:=ihM (sumTo gs.size (upd q i k)) (by omega) ((gs.map (woken P g g' (w.at d))).setIfInBounds i g') (w.at d) sl' (t++MemOp.ofEvents i g.frame.fn g.frame.place es) (upd q i k) (by rw[hsz])
         (by
          have hne:i≠0:=by omega
          rw[Alz hne,Amv,h0];have:woken P g g' (w.at d) (G fr (cs++base))=G fr (cs++base):=woken_run rfl;simp[this])
         (Ad hr d) hR
         ⟨fun j x hj hx=>by
          by_cases hji:i=j
          ·subst hji;rw[Am7 (by simpa using hlt)]at hx
           obtain rfl:=Aml hx;rw[upd_same,Deaf_own]
           exact hq'
          ·rw[Alz hji,Amv]at hx;obtain⟨y,hy,rfl⟩:=Ami.1 hx;have hqj:=hL.old j y hj hy;rw[woken_quitsD hqj,upd_ne q k (Aoi hji),Deaf_other t hji _ (fun op hop=>by obtain⟨e,_,rfl⟩:=Go.Conc.mem_ofEvents hop;rfl)]
           exact hqj,fun j hj=>by
          rw[Deaf_other t (g':=i) (by simp at hj;omega) _ (fun op hop=>by obtain⟨e,_,rfl⟩:=Go.Conc.mem_ofEvents hop;rfl)]
          exact hL.above j (by simpa using hj)⟩
         (hP.mute (by omega) hm)
        exact⟨N+1,gs',fr',cs',w',W',sl'',t',q',L',by simp only[runNT,hst,hrunT];exact k1,k2.trans hsz,k3,k4,k5,k6,k7,(left_at L w d).trans k8⟩
end Co
namespace Lr
open Go.Conc Tl Bar
variable {X : Cx} {B : Lk} {V W V' W' : World}
theorem A6x (hw:WR X B V W)(hV:V.heap.size<=V'.heap.size)(hVk:∀b,b<V.heap.size->V'.heap[b]?=V.heap[b]?)(hW:W.heap.size<=W'.heap.size)(hWk:∀b,b<W.heap.size->W'.heap[b]?=W.heap[b]?)
 (ht:W'.tape=V'.tape) (hd:W'.drawn=V'.drawn) (ho:W'.os=V'.os) (hu:W'.output=V'.output):WR X B V' W':=by
 refine{ tape:=ht,drawn:=hd,os:=ho,output:=hu,fn:=hw.fn,inj:=hw.inj,G8:=hw.G8,live:=?_,Hj:=?_,dead:=?_,Vv:=fun b h=>Am2 (hw.Vv b h) hV,Qo:=fun b h=>Am2 (hw.Qo b h) hV,low:=hw.low,nV:=Am1 hw.nV hV,nW:=Am1 hw.nW hW }
 ·intro b b' h hd hf;obtain⟨o,o',h1,h2,h3⟩:=hw.live b b' h hd hf
  exact⟨o,o',(hVk b (hw.Wo h)).trans h1,(hWk b' (hw.ltW h)).trans h2,h3⟩
 ·intro b b' h hd hf;obtain⟨x,x',t,t',f,h1,h2,h3⟩:=hw.Hj b b' h hd hf
  exact⟨x,x',t,t',f,(hVk b (hw.Wo h)).trans h1,(hWk b' (hw.ltW h)).trans h2,h3⟩
 ·intro b b' h hd;obtain⟨⟨t,h1⟩,h2⟩:=hw.dead b b' h hd
  exact⟨⟨t,(hVk b (hw.Wo h)).trans h1⟩,Am2 h2 hW⟩
theorem Ad7 (hw:WR X B V W){s s':Nat}{C:Array Value}{t:TypeId}(hs:∀y,¬B s y)(hs':∀x,¬B x s')(hV:V.heap[s]?=some (.cells C t (0,0)))(hW:W.heap[s']?=some (.cells C t (0,0)))(hC:∀v∈C,Flat X v)(hd:¬X.D s)(hf:¬X.F s)(hN:X.N<=s)(hN':X.N<=s') :
 WR X (fun b b'=>B b b' \/(b=s/\b'=s')) V W:=by
 have hle:Le B (fun b b'=>B b b' \/(b=s/\b'=s')):=fun _ _ h=>.inl h
 refine{ tape:=hw.tape,drawn:=hw.drawn,os:=hw.os,output:=hw.output,fn:=?_,inj:=?_,G8:=fun g hg=>.inl (hw.G8 g hg),live:=?_,Hj:=?_,dead:=?_,Vv:=hw.Vv,Qo:=hw.Qo,low:=?_,nV:=hw.nV,nW:=hw.nW }
 ·rintro b b₁ b₂ (h1 |⟨rfl,rfl⟩) (h2 |⟨h3,rfl⟩)
  ·exact hw.fn _ _ _ h1 h2
  ·subst h3;exact absurd h1 (hs _)
  ·exact absurd h2 (hs _)
  ·rfl
 ·rintro b₁ b₂ b' (h1 |⟨rfl,rfl⟩) (h2 |⟨rfl,h3⟩)
  ·exact hw.inj _ _ _ h1 h2
  ·subst h3;exact absurd h1 (hs' _)
  ·exact absurd h2 (hs' _)
  ·rfl
 ·rintro b b' (h |⟨rfl,rfl⟩) hd' hf'
  ·obtain⟨o,o',h1,h2,h3⟩:=hw.live b b' h hd' hf'
   exact⟨o,o',h1,h2,h3.mono hle⟩
  ·refine⟨_,_,hV,hW,.cells t _ ⟨rfl,fun i v v' h1 h2=>?_⟩⟩
   rw[h1]at h2
   cases h2
   exact hC v (Amp h1) _
 ·rintro b b' (h |⟨rfl,rfl⟩) hd' hf'
  ·obtain⟨x,x',t,t',f,h1,h2,h3⟩:=hw.Hj b b' h hd' hf'
   exact⟨x,x',t,t',f,h1,h2,⟨h3.1.mono hle,h3.2⟩⟩
  ·exact absurd hf' hf
 ·rintro b b' (h |⟨rfl,rfl⟩) hd'
  ·exact hw.dead b b' h hd'
  ·exact absurd hd' hd
 ·rintro b b' (h |⟨rfl,rfl⟩)
  ·exact hw.low b b' h
  ·omega
end Lr
namespace Co
open Go Go.Conc
def Ro (P:Program){α:Type}(s:Sem α):Prop:=∀w v w1,s.run P w=.ok v w1->w1=w
section
variable {P : Program}
theorem Ro.pure {α:Type}(a:α):Ro P (Pure.pure a:Sem α):=by
 intro w v w1 h;simp at h
 exact h.2.symm
theorem Ro.bind {α β:Type}{s:Sem α}{f:α->Sem β}(h:Ro P s)(k:∀a,Ro P (f a)):Ro P (s >>= f):=by
 intro w v w1 e;simp only[Sem.run_bind]at e
 cases hs:s.run P w with
 | ok a w2 =>
   rw[hs]at e;rw[h w a w2 hs]at e
   exact k a w v w1 e
 | halt a w2=>rw[hs]at e;cases e
theorem Ro.load (a:Addr):Ro P (load a):=by
 intro w v w1 h;simp only[Go.load,Sem.run]at h
 repeat' split at h
 all_goals first
  |(injection h with _ h;exact h.symm)
  |(cases h;done)
theorem Ro.asAddr (v:Value):Ro P (asAddr v):=by
 intro w x w1 h;unfold Go.asAddr at h
 split at h<;>simp[runtimePanic]at h
 exact h.2.symm
theorem Ro.underlying (t:TypeId):Ro P (underlying t):=by
 intro w x w1 h;simp[Go.underlying]at h
 split at h<;>simp at h
 exact h.2.symm
theorem Ro.typeInfo (t:TypeId):Ro P (typeInfo t):=by
 intro w x w1 h;simp[Go.typeInfo]at h
 split at h<;>simp at h
 exact h.2.symm
theorem Ro.loadCellsFrom (a:Addr):∀(n i:Nat) (acc:Array Value),Ro P (loadCellsFrom a i n acc)
 | 0,i,acc=>Ro.pure acc
 | n+1,i,acc=>by
   unfold Go.loadCellsFrom
   exact Ro.bind (Ro.load _) fun v=>Ro.loadCellsFrom a n (i+1) _
theorem Ro.isAgg (t:TypeId):Ro P (isAgg t):=by
 unfold Go.isAgg
 refine Ro.bind (Ro.underlying t) fun d=>?_
 split<;>exact Ro.pure _
theorem Ro.loadVar (t:TypeId)(a:Addr):Ro P (loadVar t a):=by
 unfold Go.loadVar
 refine Ro.bind (Ro.isAgg t) fun b=>?_
 split
 ·refine Ro.bind ?_ fun n=>Ro.bind (Ro.loadCellsFrom a _ 0 #[]) fun _=>Ro.pure _
  unfold Go.sizeOf
  exact Ro.bind (Ro.typeInfo t) fun _=>Ro.pure _
 ·exact Ro.load a
theorem Ro.mapM {α β:Type}{f:α->Sem β}(h:∀a,Ro P (f a)):∀l:List α,Ro P (l.mapM f)
 | []=>by simpa using Ro.pure (P:=P) ([]:List β)
 | a :: l=>by
   rw[List.mapM_cons]
   exact Ro.bind (h a) fun _=>Ro.bind (Ro.mapM h l) fun _=>Ro.pure _
theorem Ro.results (fn:Func)(t:Array Value):Ro P (results fn t):=by
 unfold Go.results;rw[Aqh]
 refine Ro.bind ?_ fun vs=>Ro.pure _
 rw[map_eq_pure_bind]
 refine Ro.bind (Ro.mapM (fun x=>?_) _) fun _=>Ro.pure _
 cases x with
 | tmp i=>exact Ro.pure _
 | cell a ty=>exact Ro.bind (Ro.asAddr _) fun q=>Ro.loadVar _ _
end
end Co
section
open Go
theorem Ael {P:Program}{t:TypeId}(v:Value):(∃n,v=.int .i64 n)\/∀w,∃s,(binOp .mul t v (.int .i64 0)).run P w=.halt s w /\((∃m,s=.stuck m)\/s=.unsupported .addressObserved):=by
 unfold binOp
 cases v<;>simp
 split
 ·subst_vars
  exact .inl rfl
 ·exact .inr (by simp)
open Go.Conc Bar Co
theorem A31 {P:Program}{F:St->Prop}(hF:∀x,F x->Vl x){x:St}(h:Bar.Way P F x)(hp:¬Vl x)(τ:Tape)(d:Nat):∃x',Zg P (x.at τ d) x'/\Bar.Way P F x':=by
 cases h with
 | fin h=>exact absurd (hF x h) hp
 | go g hg hw=>exact⟨g τ d,hg τ d,hw τ d⟩
theorem Kg {P:Program}{F:St->Prop}(hF:∀x,F x->Vl x){b:Frame}{a:Act}{ops:Array Oper}{i:Nat}{rest:List Nat}{k:List Item}{cs:List Frame}{V:World}{o:Oper}(ho:ops[i]?=some o)(hg:o.guard=none)(hk:b.kind≠.early){v:Value}
 (hr:(∀w,(execOp a.eval o).run P w=.ok (.value v) w)\/∀w,∃s,(execOp a.eval o).run P w=.halt s w /\((∃m,s=.stuck m)\/s=.unsupported .addressObserved)) (h:Bar.Way P F ⟨b.at a (.inRegion ops (i :: rest) :: k),cs,V⟩) :
 (∀w,(execOp a.eval o).run P w=.ok (.value v) w)/\Bar.Way P F ⟨b.at (a.put o.dst v) (.inRegion ops rest :: k),cs,V⟩:=by
 obtain⟨x',⟨es,hgo⟩,hw⟩:=A31 hF h (fun hp=>hp.2.1 rfl) V.tape V.drawn
 have hgo:stepG P true (G (b.at a (.inRegion ops (i :: rest) :: k)) (cs++[wall P])) V=_:=hgo
 rcases hr with hr|hr
 ·refine⟨hr,?_⟩
  rw[stepG_value ho (by simp[Region.wanted,hg]) hk (hr V)]at hgo
  injection hgo with h1 h2 _
  injection h1 with h3 h4 _ _
  have h5:cs=x'.cs:=Anr h4;clear h4;obtain⟨x1,x2,x3⟩:=x';dsimp only at h2 h3 h5;subst h2 h3 h5
  exact hw
 ·exfalso
  obtain⟨s,hr,hs⟩:=hr V;rw[stepG_oper ho (by simp[Region.wanted,hg])]at hgo
  rcases hs with⟨m,rfl⟩|rfl
  ·simp[stepG.apply,hr,GStep.after]at hgo
  ·simp[stepG.apply,hr,GStep.after]at hgo
theorem A6v {P:Program}{F:St->Prop}(hF:∀x,F x->Vl x){fr fr1:Frame}{cs cs1:List Frame}{V:World}{es:Array Event}(hm:fr.mode=.run)(hst:stepG P true (G fr (cs++[wall P])) V=.go (G fr1 (cs1++[wall P])) V es)(h:Bar.Way P F ⟨fr,cs,V⟩):Bar.Way P F ⟨fr1,cs1,V⟩:=by
 obtain⟨x',⟨es',hgo⟩,hw⟩:=A31 hF h (fun hp=>hp.2.1 hm) V.tape V.drawn
 have hgo:stepG P true (G fr (cs++[wall P])) V=_:=hgo;rw[hst]at hgo;injection hgo with h1 h2 _
 injection h1 with h3 h4 _ _
 have h5:cs1=x'.cs:=Anr h4;clear h4;obtain⟨x1,x2,x3⟩:=x';dsimp only at h2 h3 h5;subst h2 h3 h5
 exact hw
end
namespace Ok
open Go.Conc Lr
def Ct:Nat->Value->Bool
 | k+1,.agg p=>p.all (Ct k)
 | k+1,.tuple p=>p.all (Ct k)
 | _,.bool _|_,.int _ _|_,.float _ _|_,.complex _ _ _|_,.string _|_,.pointer none|_,.slice none _ _|_,.map none|_,.chan none|_,.nilFunc|_,.nilIface=>true
 | _,_=>false
theorem Y1 {X:Cx}:∀(k:Nat) (v:Value),Ct k v=true->Flat X v:=by
 have rows:∀(k:Nat) (p:Array Value),(∀v,Ct k v=true->Flat X v)->p.all (Ct k)=true->∀B (i:Nat) v v',p[i]?=some v->p[i]?=some v'->VR X B v v':=by
  intro k p ih h B i v v' h1 h2
  cases h1.symm.trans h2
  rw[Amr]at h
  exact ih v (h v (Amp h1)) B
 intro k
 induction k with
 | zero =>
   intro v h B
   cases v with
   | bool b=>exact .bool b
   | int a b=>exact .int a b
   | float a b=>exact .float a b
   | complex a b c=>exact .complex a b c
   | string s=>exact .string s
   | pointer a=>cases a<;>first|exact .Mj|simp[Ct]at h
   | slice a l c=>cases a<;>first|exact .Iu _ _|simp[Ct]at h
   | map a=>cases a<;>first|exact .A88|simp[Ct]at h
   | chan a=>cases a<;>first|exact .A7b|simp[Ct]at h
   | nilFunc=>exact .nilFunc
   | nilIface=>exact .nilIface
   | _=>simp[Ct]at h
 | succ k ih =>
   intro v h B
   cases v with
   | bool b=>exact .bool b
   | int a b=>exact .int a b
   | float a b=>exact .float a b
   | complex a b c=>exact .complex a b c
   | string s=>exact .string s
   | pointer a=>cases a<;>first|exact .Mj|simp[Ct]at h
   | slice a l c=>cases a<;>first|exact .Iu _ _|simp[Ct]at h
   | map a=>cases a<;>first|exact .A88|simp[Ct]at h
   | chan a=>cases a<;>first|exact .A7b|simp[Ct]at h
   | nilFunc=>exact .nilFunc
   | nilIface=>exact .nilIface
   | agg p=>exact .agg rfl (rows k p ih (by simpa only[Ct]using h) B)
   | tuple p=>exact .tuple rfl (rows k p ih (by simpa only[Ct]using h) B)
   | _=>simp[Ct]at h
def Ni (cl gl:List Nat):Operand->Bool
 | .tmp _=>true
 | .const v=>Ct 4 v
 | .global g=>gl.contains g
 | .func f=>cl.contains f
def A4e (P:Program)(t:TypeId):Bool:=match P.underlying t with
 | some (.struct fs)=>fs.all fun f=>match P.info? f.type with
   | some i=>i.size != 0
   | none=>true
 | _=>true
theorem A89 {P:Program}{t:TypeId}(h:A4e P t=true):A3c P t:=by
 intro fs hf k f hk i hi;unfold A4e at h;rw[hf]at h;have:=Amr.1 h f (Amp hk);rw[hi]at this
 simpa using this
def A6b (P:Program)(f:Nat):Bool:=match P.funcs[f]? with
 | some fn=>fn.body.isNone && (!(fn.name == "runtime.NumGoroutine") && ((Extern.findNext fn).isNone && ((Extern.find fn).isNone && !(fn.name.endsWith ".init" && !fn.name.startsWith "(" && !fn.name.startsWith "gosem."))))
 | none=>true
def Nh (P:Program)(tl:List (Nat×Nat))(cl:List Nat)(name:String):Bool :=
 P.types.all fun i=>i.methods.all fun m=>m.name != name ||(m.path.isEmpty && ((match i.desc with
  | .pointer _=>true
  | _=>false) && (match m.func with
  | some (f,q)=>q && ((cl.contains f && tl.all fun x=>x.1 != f) || A6b P f)
  | none=>false)))
def Ji (P:Program)(gl:List Nat):Bool:=gl.contains P.globals.size
def Ab6 (P:Program)(t:TypeId):Bool:=match P.underlying t with
 | some (.pointer _)=>true
 | _=>false
def Mf (P:Program)(tl:List (Nat×Nat))(cl gl:List Nat):Op->Bool
 | .move _|.assign _|.pick ..|.alloc _|.box ..|.build ..|.buildSlice ..|.load ..|.store ..|.nilCheck _|.unOp ..|.makeChan ..|.makeSlice ..|.slice ..|.field ..|.indexAddr ..|.index ..|.extract ..
 | .makeInterface ..=>true
 | .fieldAddr t _ _=>A4e P t
 | .binOp op t _ y _=>match op,y with
   | .eql,.const .nilIface|.neq,.const .nilIface=>true
   | .eql,_|.neq,_=>Ly P 20 t ||(Ji P gl && Ab6 P t)
   | _,_=>true
 | .convert s d _=>A5k P s d ||(Ji P gl && A5l P s d)
 | .makeFunc fn _ _=>match fn with
   | .func f=>cl.contains f
   | .method n=>Nh P tl cl n
   | .methodOf _ n=>Nh P tl cl n
   | _=>false
 | .typeAssert ..=>Ji P gl
 | .call c=>match c.callee with
   | .builtin .recover=>true
   | .builtin .unsafeSliceData=>Ji P gl
   | .builtin .unsafeString=>Ji P gl
   | .builtin b=>A37 b
   | .invoke _ n=>Nh P tl cl n
   | .value _=>true
 | .defer c=>match c.callee with
   | .builtin b=>A37 b
   | .invoke _ n=>Nh P tl cl n
   | .value _=>true
 | _=>false
def okT (tl:List (Nat×Nat))(cl gl:List Nat):Op->Bool
 | .call c=>match c.callee with
   | .value (.func f)=>tl.contains (f,c.args.size) && c.args.all (Ni cl gl)
   | _=>false
 | _=>false
def Hc (P:Program)(tl:List (Nat×Nat))(cl gl:List Nat)(o:Oper):Bool:=Mf P tl cl gl o.op && (o.op.operands.all (Ni cl gl) || okT tl cl gl o.op)
abbrev Ah1 (P:Program)(cl gl:List Nat)(o:Oper):Bool:=Hc P [] cl gl o
def A4d:String := "unsupported: a function without a Go body is entered"
def Fa (P:Program)(tl:List (Nat×Nat))(cl gl:List Nat):Code->Bool
 | .refuse w=>decide (8<w.length)
 | .region _ ops _=>ops.all (Hc P tl cl gl)
 | .seq a b=>Fa P tl cl gl a && Fa P tl cl gl b
 | .cond c a b=>Ni cl gl c && (Fa P tl cl gl a && Fa P tl cl gl b)
 | .rangeFunc f _ a b=>Ni cl gl f && (Fa P tl cl gl a && Fa P tl cl gl b) && (Fl a && Fl b)
 | .block _ c|.loop c|.scope c=>Fa P tl cl gl c
 | .goto _=>false
 | .skip|.ret|.exit _|.label _=>true
abbrev okC (P:Program)(cl gl:List Nat)(c:Code):Bool:=Fa P [] cl gl c
section
variable {X : Cx} {P : Program} {tl : List (Nat × Nat)} {cl gl : List Nat}
theorem K4 (hc:∀f∈cl,X.C f/\¬X.T f)(hg:∀g∈gl,X.G g){o:Operand}(h:Ni cl gl o=true):Hv X o:=by
 cases o with
 | tmp t=>trivial
 | const v=>exact Y1 4 v h
 | global g=>exact hg g (by simpa [Ni]using h)
 | func f=>exact hc f (by simpa [Ni]using h)
theorem Ae9 (hc:∀f∈cl,X.C f/\¬X.T f)(hm:∀n,Nh P tl cl n=true->X.M n)(ha:Ji P gl=true->X.As/\X.Ex)(hd:X.Dn){o:Op}(h:Mf P tl cl gl o=true):A9t X P o:=by
 cases o with
 | binOp op t x y u =>
   by_cases hy:y=.const .nilIface /\(op=.eql\/op=.neq)
   ·exact .inr (.inl hy)
   ·by_cases he:op=.eql\/op=.neq
    ·have h2:(Ly P 20 t ||(Ji P gl && Ab6 P t))=true:=by
      unfold Mf at h
      rcases he with rfl|rfl<;>(dsimp only at h;split at h<;>first|exact h|simp_all)
     simp only[Ane,Am8]at h2
     rcases h2 with h2 |⟨h2,h3⟩
     ·exact .inl fun _=>⟨20,h2⟩
     ·refine .inr (.inr ⟨(ha h2).2,he,?_⟩)
      unfold Ab6 at h3
      split at h3
      ·exact⟨_,by assumption⟩
      ·cases h3
    ·exact .inl fun e=>absurd e he
 | convert s d x =>
   simp only[Mf,Ane,Am8]at h
   exact h.imp id fun h=>⟨(ha h.1).2,h.2⟩
 | fieldAddr t a f=>exact A89 h
 | makeFunc fn a b =>
   cases fn with
   | func f=>exact hc f (by simpa [Mf]using h)
   | method n=>exact hm n h
   | methodOf t n=>exact hm n h
   | _=>simp[Mf]at h
 | typeAssert x t a q=>exact(ha h).1
 | call c =>
   obtain⟨callee,args,ts⟩:=c
   cases callee with
   | builtin b =>
     by_cases e:b=.recover
     ·subst e
      exact .inr ⟨rfl,hd⟩
     ·by_cases e1:b=.unsafeSliceData
      ·subst e1
       exact .inl (.inr ⟨(ha h).2,.inl rfl⟩)
      ·by_cases e2:b=.unsafeString
       ·subst e2
        exact .inl (.inr ⟨(ha h).2,.inr rfl⟩)
       ·refine .inl (.inl ?_)
        show A37 b=true
        cases b<;>first|exact h|exact absurd rfl e|exact absurd rfl e1|exact absurd rfl e2
   | invoke a b=>exact .inl (.inl (hm b h))
   | value f=>exact .inl (.inl trivial)
 | defer c =>
   obtain⟨callee,args,ts⟩:=c
   refine⟨?_,hd⟩
   cases callee with
   | builtin b=>exact h
   | invoke a b=>exact hm b h
   | value f=>trivial
 | _=>first|trivial|simp[Mf]at h
theorem Aeq (hc:∀f∈cl,X.C f/\¬X.T f)(hm:∀n,Nh P tl cl n=true->X.M n)(ha:Ji P gl=true->X.As/\X.Ex)(hd:X.Dn)(hg:∀g∈gl,X.G g)(ht:∀f n,(f,n)∈tl->X.C f/\X.Ar f n){o:Oper}(h:Hc P tl cl gl o=true):Agi X P o:=by
 simp only[Hc,Am8,Ane]at h
 refine⟨Ae9 hc hm ha hd h.1,h.2.imp (fun this x hx=>?_) fun h=>?_⟩
 ·rw[Amr]at this
  exact K4 hc hg (this x hx)
 ·generalize o.op=p at h
  cases p with
  | call c =>
    obtain⟨callee,args,ts⟩:=c
    cases callee with
    | value x =>
      cases x with
      | func f =>
        simp only[okT,Am8]at h;obtain⟨h1,h2⟩:=h;rw[Amr]at h2;have h1:=ht f args.size (by simpa using h1)
        exact⟨h1.1,h1.2,fun x hx=>K4 hc hg (h2 x hx)⟩
      | _=>simp[okT]at h
    | _=>simp[okT]at h
  | _=>simp[okT]at h
theorem Cz (hc:∀f∈cl,X.C f/\¬X.T f)(hg:∀g∈gl,X.G g)(hK:∀o,Hc P tl cl gl o=true->X.K o):∀(c:Code),Fa P tl cl gl c=true->CdR X c c
 | .refuse w,h=>.inl (by simpa [Fa]using h)
 | .region _ ops _,h=>⟨rfl,fun o ho=>hK o (by
  have h:ops.all (Hc P tl cl gl)=true:=h;rw[Amr]at h
  exact h o ho)⟩
 | .seq a b,h=>by
   simp only[Fa,Am8]at h
   exact⟨a,b,rfl,Cz hc hg hK a h.1,Cz hc hg hK b h.2⟩
 | .cond c a b,h=>by
   simp only[Fa,Am8]at h
   exact⟨a,b,rfl,K4 hc hg h.1,Cz hc hg hK a h.2.1,Cz hc hg hK b h.2.2⟩
 | .rangeFunc f p a b,h=>by
   simp only[Fa,Am8]at h
   exact⟨a,b,rfl,K4 hc hg h.1.1,(Cz hc hg hK a h.1.2.1).noD h.2.1,(Cz hc hg hK b h.1.2.2).noD h.2.2⟩
 | .block _ c,h=>⟨c,rfl,Cz hc hg hK c h⟩
 | .loop c,h=>⟨c,rfl,Cz hc hg hK c h⟩
 | .scope c,h=>⟨c,rfl,Cz hc hg hK c h⟩
 | .goto _,h=>by simp[Fa]at h
 | .skip,_=>rfl
 | .ret,_=>rfl
 | .exit _,_=>rfl
 | .label _,_=>rfl
end
end Ok
namespace Ok
open Go.Conc Lr
section
variable {X : Cx} {P P' : Program} {B : Lk} {z : Prop}
theorem A3f {v:Value}{p':Array Value}(h:AR X B #[v] p'):∃v',p'=#[v']/\VR X B v v':=by
 obtain⟨h1,h2⟩:=h;obtain⟨l⟩:=p'
 match l,h1 with
 | [v'],_=>exact⟨v',rfl,h2 0 v v' (by simp) (by simp)⟩
theorem A8y {f:FuncId}{fn:Func}(hf:P.funcs[f]?=some fn)(hf':P'.funcs[f]?=some fn)(hname:(fn.name == "runtime.NumGoroutine") = false)(hb:fn.body.isNone=true)(hn:Extern.findNext fn=none)
 {e:Array Value->Sem Value} (he:Extern.find fn=some e) (hS:∀B p p',AR X B p p'->SR X P P' (Ac X) B (e p) (e p')) {p p':Array Value} (h:AR X B p p'):SR X P P' (Xf X z) B (callFunc f p) (callFunc f p'):=by
 unfold callFunc
 refine SR.bind SR.program ?_
 rintro B1 l1 q q' ⟨rfl,rfl⟩;rw[hf,hf'];dsimp only;simp only[hname,hb,Amk,Ao5,Apg]
 refine SR.bind (SR.mark (.inr ⟨f,rfl⟩)) fun B2 l2 _ _ _=>?_
 simp only[hn,he]
 exact SR.bind (hS B2 _ _ ((h.mono l1).mono l2)) fun B3 l3 v v' hv=>SR.pure (.value hv)
theorem Vx {α:Type}{R:Lk->α->α->Prop}{p:Array Value}(F:Array Value->Sem α){s':Sem α}(hs:(∀x,p ≠#[.float .f64 x])->∃why,F p=Go.stuck why)(h:∀x,p=#[.float .f64 x]->SR X P P' R B (F p) s'):SR X P P' R B (F p) s':=by
 by_cases hp:∃x,p=#[.float .f64 x]
 ·obtain⟨x,hx⟩:=hp
  exact h x hx
 ·obtain⟨why,e⟩:=hs fun x hx=>hp ⟨x,hx⟩
  rw[e]
  exact SR.stuck
theorem Vc (name:String)(way:Ieee.Toward):∀B p p',AR X B p p'->SR X P P' (Ac X) B (Extern.MathFloor.toIntegral name way p) (Extern.MathFloor.toIntegral name way p'):=by
 intro B p p' h
 refine Vx (Extern.MathFloor.toIntegral name way) (fun hn=>?_) (fun x hx=>?_)
 ·unfold Extern.MathFloor.toIntegral;obtain⟨l⟩:=p
  match l with
  | []=>exact⟨_,rfl⟩
  | v :: w :: r=>exact⟨_,rfl⟩
  | [v] =>
    cases v<;>first
     | exact⟨_,rfl⟩
     | skip
    rename_i k x
    cases k<;>first
     | exact absurd rfl (hn _)
     | exact⟨_,rfl⟩
 ·subst hx;obtain⟨v',rfl,hv⟩:=A3f h
  cases hv
  have e:Extern.MathFloor.toIntegral name way #[.float .f64 x]=(match FloatKind.f64.decode x with
   | .nan s t =>
     if FloatKind.f64.format.quiet t=t then(Pure.pure (Value.float .f64 x):Sem Value)else do
     let kept <-choose (.extern "math.Floor,Ceil,Trunc,RoundToEven.signallingNaN kept" 2)
     Pure.pure (Value.float .f64 (if kept == 1 then x else FloatKind.f64.encode (.nan s (FloatKind.f64.format.quiet t))))
   | d=>Pure.pure (Value.float .f64 (FloatKind.f64.encode (d.integral way)))):=rfl
  rw[e];generalize FloatKind.f64.decode x=d
  cases d with
  | nan s t =>
    refine SR.ite (fun _=>SR.pure (.float _ _)) (fun _=>?_)
    refine SR.bind (SR.choose _) ?_
    rintro B1 l1 k _ rfl
    exact SR.pure (.float _ _)
  | _=>exact SR.pure (.float _ _)
theorem Aey:∀B p p',AR X B p p'->SR X P P' (Ac X) B (Extern.MathFloatBits.float64bits p) (Extern.MathFloatBits.float64bits p'):=by
 intro B p p' h
 refine Vx Extern.MathFloatBits.float64bits (fun hn=>?_) (fun x hx=>?_)
 ·unfold Extern.MathFloatBits.float64bits;obtain⟨l⟩:=p
  match l with
  | []=>exact⟨_,rfl⟩
  | v :: w :: r=>exact⟨_,rfl⟩
  | [v] =>
    cases v<;>first
     | exact⟨_,rfl⟩
     | skip
    rename_i k x
    cases k<;>first
     | exact absurd rfl (hn _)
     | exact⟨_,rfl⟩
 ·subst hx;obtain⟨v',rfl,hv⟩:=A3f h
  cases hv
  exact SR.pure (.int _ _)
theorem A2e:∀B p p',AR X B p p'->SR X P P' (Ac X) B (Extern.MathFloatBits.float64frombits p) (Extern.MathFloatBits.float64frombits p'):=by
 intro B p p' h
 by_cases hp:∃x,p=#[.int .u64 x]
 ·obtain⟨x,rfl⟩:=hp;obtain⟨v',rfl,hv⟩:=A3f h
  cases hv
  exact SR.pure (.float _ _)
 ·have:∃why,Extern.MathFloatBits.float64frombits p=Go.stuck why:=by
   unfold Extern.MathFloatBits.float64frombits;obtain⟨l⟩:=p
   match l with
   | []=>exact⟨_,rfl⟩
   | v :: w :: r=>exact⟨_,rfl⟩
   | [v] =>
     cases v<;>first
      | exact⟨_,rfl⟩
      | skip
     rename_i k x
     cases k<;>first
      | exact absurd ⟨_,rfl⟩ hp
      | exact⟨_,rfl⟩
  obtain⟨why,e⟩:=this;rw[e]
  exact SR.stuck
end
end Ok
end Go.Proofs.YtjaehldnlamgkaaGreatDoor
