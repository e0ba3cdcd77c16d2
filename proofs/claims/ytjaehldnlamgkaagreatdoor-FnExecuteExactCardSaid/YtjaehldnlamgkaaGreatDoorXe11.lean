import Derived.Test.YtjaehldnlamgkaaGreatDoorXe8
import Derived.Conc.CrowdComm
import Derived.Test.YtjaehldnlamgkaaGreatDoorXe0
set_option linter.all false
set_option maxHeartbeats 16000000
set_option maxRecDepth 100000
namespace Go.Proofs.YtjaehldnlamgkaaGreatDoor
namespace Co
open Go.Conc
def H5 (S:Nat->Prop):Loc->Prop
 | .cell a=>S a.block
 | .obj r=>S r
 | _=>False
theorem Sq {S S':Nat->Prop}(h:∀b,S b->S' b){l:Loc}(k:H5 S l):H5 S' l:=by
 cases l<;>first|exact h _ k|exact k.elim
structure Ul (t:Trace)(g:Nat)(L R:Nat->Prop):Prop where
 own:∀i a,touchAt t i=some a->H5 L a.loc->Knows t g i
 read:∀i a,touchAt t i=some a->H5 R a.loc->a.write=true->Knows t g i
theorem Kl {L R:Nat->Prop}{e:Event}(h:EvC L R e){b:Touch}(hb:(MemAct.ofEvent e).touch?=some b):H5 L b.loc \/(H5 R b.loc/\b.write=false):=by
 obtain⟨loc,wr,sy⟩:=e;unfold EvC at h
 cases loc with
 | cell a =>
   dsimp only at h;obtain⟨rfl,h⟩:=h
   cases hb
   rcases h with h |⟨h,h2⟩
   ·exact .inl h
   ·exact .inr ⟨h,h2⟩
 | obj r =>
   dsimp only at h
   cases wr<;>cases sy<;>first |(cases hb;done) |(cases hb;exact .inl h)
 | mark m =>
   dsimp only at h;subst h
   cases hb
 | _=>exact h.elim
section
variable {t : Trace} {g : Nat} {L R : Nat -> Prop} {fn : FuncId} {pos : String} {es : Array Event}
theorem Bh {u:Trace}{i:Nat}{a:Touch}(h:touchAt (t++u) i=some a):touchAt t i=some a\/∃op∈u,(t++u)[i]?=some op/\op.act.touch?=some a:=by
 obtain⟨x,hx,hxa⟩:=touch_of h
 rcases getElem?_append_cases hx with⟨hi,hx'⟩ |⟨_,hxu⟩
 ·exact .inl (by rw[touchAt_of hx'];exact hxa)
 ·exact .inr ⟨x,hxu,hx,hxa⟩
theorem Ul.noRace (h:Ul t g L R)(hc:∀said,¬Race said t)(he:∀e∈es,EvC L R e):∀said,¬Race said (t++MemOp.ofEvents g fn pos es):=by
 intro said
 refine noRace_append (hc said) (fun op hop=>by obtain⟨e,_,rfl⟩:=Go.Conc.mem_ofEvents hop;rfl) fun i a ha op hop b hb hcf=>?_
 obtain⟨e,hee,rfl⟩:=Go.Conc.mem_ofEvents hop;obtain⟨h1,_,h3,_⟩:=hcf
 rcases Kl (he e hee) hb with k |⟨k,hw⟩
 ·exact h.own i a ha (by rw[h1];exact k)
 ·exact h.read i a ha (by rw[h1];exact k) (by rcases h3 with h3|h3;exact h3;rw[hw]at h3;cases h3)
theorem Ul.self (h:Ul t g L R):Ul (t++MemOp.ofEvents g fn pos es) g L R:=by
 have key:∀op∈MemOp.ofEvents g fn pos es,op.g=g:=fun op hop=>by obtain⟨e,_,rfl⟩:=Go.Conc.mem_ofEvents hop;rfl
 refine⟨fun i a ha hl=>?_,fun i a ha hl hw=>?_⟩
 ·rcases Bh ha with h1 |⟨op,h1,h2,h3⟩
  ·exact(h.own i a h1 hl).app _
  ·have:=knows_own h2
   rwa [key op h1]at this
 ·rcases Bh ha with h1 |⟨op,h1,h2,h3⟩
  ·exact(h.read i a h1 hl hw).app _
  ·have:=knows_own h2
   rwa [key op h1]at this
theorem Ul.other {g':Nat}{L' R':Nat->Prop}(h:Ul t g L R)(he:∀e∈es,EvC L' R' e)(h1:∀b,L' b->¬L b/\¬R b)(h2:∀b,R' b->¬L b):Ul (t++MemOp.ofEvents g' fn pos es) g L R:=by
 have ap:∀{S S':Nat->Prop} {l:Loc},(∀b,S b->¬S' b)->H5 S l->¬H5 S' l:=by
  intro S S' l k x y
  cases l<;>first|exact k _ x y|exact x
 refine⟨fun i a ha hl=>?_,fun i a ha hl hw=>?_⟩
 ·rcases Bh ha with h3 |⟨op,h3,_,h4⟩
  ·exact(h.own i a h3 hl).app _
  ·obtain⟨e,hee,rfl⟩:=Go.Conc.mem_ofEvents h3
   rcases Kl (he e hee) h4 with k |⟨k,_⟩
   ·exact absurd hl (ap (fun b x=>(h1 b x).1) k)
   ·exact absurd hl (ap h2 k)
 ·rcases Bh ha with h3 |⟨op,h3,_,h4⟩
  ·exact(h.read i a h3 hl hw).app _
  ·obtain⟨e,hee,rfl⟩:=Go.Conc.mem_ofEvents h3
   rcases Kl (he e hee) h4 with k |⟨k,hw'⟩
   ·exact absurd hl (ap (fun b x=>(h1 b x).2) k)
   ·rw[hw']at hw;cases hw
theorem Ul.app {u:Trace}(h:Ul t g L R)(hu:∀op∈u,op.act.touch?=none):Ul (t++u) g L R:=by
 refine⟨fun i a ha hl=>?_,fun i a ha hl hw=>?_⟩
 ·rcases Bh ha with h3 |⟨op,h3,_,h4⟩
  ·exact(h.own i a h3 hl).app _
  ·rw[hu op h3]at h4;cases h4
 ·rcases Bh ha with h3 |⟨op,h3,_,h4⟩
  ·exact(h.read i a h3 hl hw).app _
  ·rw[hu op h3]at h4;cases h4
theorem Ul.fresh {B:Nat}{L1:Nat->Prop}(h:Ul t g L R)(hs:∀op∈t,op.act.low B)(hl:∀b,L1 b->L b\/B<=b):Ul t g L1 R:=by
 refine⟨fun i a ha hla=>?_,h.read⟩
 obtain⟨x,hx,hxa⟩:=touch_of ha;have hlow:=hs x (Amp hx)
 have:H5 L a.loc:=by
  obtain⟨loc,wr,kd⟩:=a
  have hlo:loc.low B:=by
   generalize x.act=act at hlow hxa
   cases act with
   | access e=>cases hxa;exact hlow
   | mark m=>cases m<;>first |(cases hxa;done) |(cases hxa;exact hlow)
   | _=>cases hxa
  cases loc with
  | cell c=>exact(hl _ hla).resolve_right fun x=>by have:c.block<B:=hlo;omega
  | obj r=>exact(hl _ hla).resolve_right fun x=>by have:r<B:=hlo;omega
  | _=>exact hla.elim
 exact h.own i a ha this
end
theorem A46 {t u:Trace}{g g' i p q:Nat}{x y:MemOp}(h:Knows t g i)(hp:t.size<=p)(hx:(t++u)[p]?=some x)(hxg:x.g=g)(hpq:HappensBefore (t++u) p q)(hy:(t++u)[q]?=some y)(hyg:y.g=g'):Knows (t++u) g' i :=
 ⟨q,y,hy,hyg,.inr ((h.hb_new hp hx hxg).trans hpq)⟩
theorem M9 {t u:Trace}{g:Nat}(hu:∀op∈u,op.act≠.mark .disable/\op.act≠.mark .enable):∀k,k<=u.size ->(t++u).deaf g (t.size+k)=Deaf t g
 | 0,_=>deaf_old (Am0 _)
 | k+1,hk=>by
   have hlt:k<u.size:=hk
   have hy:(t++u)[t.size+k]?=some u[k]:=by
    rw[Aol (by omega)]
    simp[hlt]
   rw[<-Nat.add_assoc,deaf_succ hy,M9 hu k (by omega)]
   have:=hu u[k] (Array.getElem_mem hlt);unfold deafStep
   split
   ·exact absurd ‹_› this.1
   ·exact absurd ‹_› this.2
   ·rfl
theorem F6 (t:Trace)(g:Nat)(u:Trace)(hu:∀op∈u,op.act≠.mark .disable/\op.act≠.mark .enable):Deaf (t++u) g=Deaf t g:=by
 have:=M9 (t:=t) (g:=g) hu u.size (Am0 _);unfold Deaf at *;rw[Array.size_append]
 exact this
theorem H8 {t u:Trace}(hu:∀op∈u,op.act≠.mark .disable/\op.act≠.mark .enable){k:Nat}{x:MemOp}(hk:u[k]?=some x)(hd:Deaf t x.g=0):(t++u).heard (t.size+k):=by
 have hlt:=(Alx.1 hk).1
 refine⟨x.g,?_,?_⟩
 ·unfold Trace.g?;rw[Aol (by omega)]
  simp[hk]
 ·rw[M9 hu k (by omega)]
  exact hd
theorem A3y {t:Trace}{c k cap gS gR:Nat}{f1 f2 f3 f4:FuncId}{p1 p2 p3 p4:String}(hS:Deaf t gS=0)(hR:Deaf t gR=0){i:Nat}(h:Knows t gS i) :
 Knows (t ++#[{ g:=gS,fn:=f1,pos:=p1,act:=.send c k },{ g:=gR,fn:=f2,pos:=p2,act:=.recv c k cap },{ g:=gS,fn:=f3,pos:=p3,act:=.sendDone c k },{ g:=gR,fn:=f4,pos:=p4,act:=.recvDone c k }]) gR i:=by
 generalize hu:(#[{ g:=gS,fn:=f1,pos:=p1,act:=.send c k },{ g:=gR,fn:=f2,pos:=p2,act:=.recv c k cap },{ g:=gS,fn:=f3,pos:=p3,act:=.sendDone c k },{ g:=gR,fn:=f4,pos:=p4,act:=.recvDone c k }]:Trace)=u
 have hq:∀op∈u,op.act≠.mark .disable/\op.act≠.mark .enable:=by
  intro op hop;rw[<-hu]at hop;simp only[An4,An7,An6,Ap5]at hop
  rcases hop with rfl|rfl|rfl|rfl<;>exact⟨by simp,by simp⟩
 have h0:u[0]?=some { g:=gS,fn:=f1,pos:=p1,act:=.send c k }:=by rw[<-hu];rfl
 have h3:u[3]?=some { g:=gR,fn:=f4,pos:=p4,act:=.recvDone c k }:=by rw[<-hu];rfl
 have g0:(t++u)[t.size+0]?=some { g:=gS,fn:=f1,pos:=p1,act:=.send c k }:=by
  rw[Aol (by omega)];simpa using h0
 have g3:(t++u)[t.size+3]?=some { g:=gR,fn:=f4,pos:=p4,act:=.recvDone c k }:=by
  rw[Aol (by omega)];simpa using h3
 refine A46 h (Am0 _) g0 rfl (.single (.inr ⟨.handOver (c:=c) (k:=k) ?_ ?_,H8 hq h0 hS,H8 hq h3 hR⟩)) g3 rfl
 ·unfold Trace.act?;rw[Nat.add_zero]at g0;rw[g0];rfl
 ·unfold Trace.act?;rw[g3];rfl
theorem A00 {t:Trace}{c p gR:Nat}{x:MemOp}{f1:FuncId}{p1:String}(hp:t[p]?=some x)(hx:x.act=.close c)(hh:t.heard p)(hR:Deaf t gR=0){i:Nat}(h:Before t i p) :
 Knows (t ++#[{ g:=gR,fn:=f1,pos:=p1,act:=.recvClosed c }]) gR i:=by
 generalize hu:(#[{ g:=gR,fn:=f1,pos:=p1,act:=.recvClosed c }]:Trace)=u
 have hq:∀op∈u,op.act≠.mark .disable/\op.act≠.mark .enable:=by
  intro op hop;rw[<-hu]at hop;simp only[An4,An7,An6,Ap5]at hop;subst hop
  exact⟨by simp,by simp⟩
 have h0:u[0]?=some { g:=gR,fn:=f1,pos:=p1,act:=.recvClosed c }:=by rw[<-hu];rfl
 have g0:(t++u)[t.size+0]?=some { g:=gR,fn:=f1,pos:=p1,act:=.recvClosed c }:=by
  rw[Aol (by omega)];simpa using h0
 have hlt:=lt_size_of_getElem? hp;have gp:(t++u)[p]?=some x:=by rw[getElem?_append_old hlt];exact hp
 refine⟨t.size+0,_,g0,rfl,(h.app u).trans (.inr (.single (.inr ⟨.closed (c:=c) ?_ ?_,(heard_old hlt).2 hh,H8 hq h0 hR⟩)))⟩
 ·unfold Trace.act?;rw[gp,Ao6,hx]
 ·unfold Trace.act?;rw[g0];rfl
end Co
namespace Co
open Go.Conc
open Go.ConcN (sumTo upd sumTo_upd upd_ne upd_same)
structure Two (t:Trace)(a b:Nat)(La Lb R:Nat->Prop)(B:Nat):Prop where
 clean:∀said,¬Race said t
 ma:Ul t a La R
 mb:Ul t b Lb R
 known:∀i x,touchAt t i=some x->x.loc.isMemory=true->Knows t a i\/Knows t b i
 over:∀i g,t.g? i=some g->g≠a->g≠b->t.counts i->∃p,t.g? p=some 0/\HappensBefore t i p
 ha:Deaf t a=0
 hb:Deaf t b=0
 seen:∀op∈t,op.act.low B
theorem Tg {a b:Nat}{t u:Trace}(h:∀i g,t.g? i=some g->g≠a->g≠b->t.counts i->∃p,t.g? p=some 0/\HappensBefore t i p)(hu:∀op∈u,op.g=a\/op.g=b\/op.act.touch?=none) :
 ∀i g,(t++u).g? i=some g->g≠a->g≠b ->(t++u).counts i->∃p,(t++u).g? p=some 0/\HappensBefore (t++u) i p:=by
 intro i g hg ha hb hc;obtain⟨x,hx,_⟩:=hc;obtain⟨op,hop,hox⟩:=touch_of hx
 rcases getElem?_append_cases hop with⟨hi,hop'⟩ |⟨_,hopu⟩
 ·obtain⟨j,hj,hbf⟩:=h i g (by simpa [Trace.g?,getElem?_append_old hi]using hg) ha hb ((counts_old hi).1 ⟨x,hx,‹_›⟩)
  have hjl:j<t.size:=by
   unfold Trace.g? at hj;obtain⟨z,hz,_⟩:=Ami.1 hj
   exact lt_size_of_getElem? hz
  exact⟨j,by simpa [Trace.g?,getElem?_append_old hjl]using hj,hb_app u hbf⟩
 ·rcases hu op hopu with h0|h0|h0
  ·exact absurd (by simpa [Trace.g?,hop,h0]using hg.symm) ha
  ·exact absurd (by simpa [Trace.g?,hop,h0]using hg.symm) hb
  ·rw[h0]at hox;cases hox
theorem Wj {a b:Nat}{t u:Trace}(h:∀i x,touchAt t i=some x->x.loc.isMemory=true->Knows t a i\/Knows t b i)(hu:∀op∈u,op.g=a\/op.g=b\/op.act.touch?=none) :
 ∀i x,touchAt (t++u) i=some x->x.loc.isMemory=true->Knows (t++u) a i\/Knows (t++u) b i:=by
 intro i x hx hm
 rcases Bh hx with h1 |⟨op,h1,h2,h3⟩
 ·exact(h i x h1 hm).imp (·.app u) (·.app u)
 ·rcases hu op h1 with h0|h0|h0
  ·exact .inl (h0▸knows_own h2)
  ·exact .inr (h0▸knows_own h2)
  ·rw[h0]at h3;cases h3
section
variable {t : Trace} {a b B B1 : Nat} {La La1 Lb R : Nat -> Prop} {fn : FuncId} {pos : String} {es : Array Event}
theorem Two.swap (h:Two t a b La Lb R B):Two t b a Lb La R B :=
 ⟨h.clean,h.mb,h.ma,fun i x p q=>(h.known i x p q).symm,fun i g p q r s=>h.over i g p r q s,h.hb,h.ha,h.seen⟩
theorem Dp {g:Nat}:∀op∈MemOp.ofEvents g fn pos es,op.g=g:=fun op hop=>by obtain⟨e,_,rfl⟩:=Go.Conc.mem_ofEvents hop;rfl
theorem Two.own (h:Two t a b La Lb R B)(hab:a≠b)(he:∀e∈es,EvC La1 R e)(hn:∀x,La1 x->La x\/B<=x)(hB:B<=B1)(hL:∀x,La1 x->x<B1)(hR:∀x,R x->x<B)
 (d1:∀x,La x->¬Lb x/\¬R x) (d2:∀x,Lb x->x<B/\¬R x):Two (t++MemOp.ofEvents a fn pos es) a b La1 Lb R B1:=by
 have hf:Ul t a La1 R:=h.ma.fresh h.seen hn;have hEv:∀e∈es,EvL (fun _=>False) B1 e:=fun e x=>Kk (he e x) hL fun b hb=>Am2 (hR b hb) hB
 refine⟨hf.noRace h.clean he,hf.self,h.mb.other he (fun x hx=>?_) (fun x hx y=>(d2 x y).2 hx),Wj h.known fun op hop=>.inl (Dp op hop),Tg h.over fun op hop=>.inl (Dp op hop),?_,?_,?_⟩
 ·rcases hn x hx with h1|h1
  ·exact d1 x h1
  ·exact⟨fun y=>absurd (d2 x y).1 (by omega),fun y=>absurd (hR x y) (by omega)⟩
 ·rw[Deaf_own,deafBehind_still (fun e x=>⟨(hEv e x).2.1,(hEv e x).2.2.1⟩)]
  exact h.ha
 ·rw[Deaf_other t hab _ Dp]
  exact h.hb
 ·exact seen_app (fun op hop=>MemAct.low_mono hB (h.seen op hop)) fun op hop=>by obtain⟨e,x,rfl⟩:=Go.Conc.mem_ofEvents hop;exact(hEv e x).2.2.2
theorem Two.quiet {u:Trace}(h:Two t a b La Lb R B)(hu:∀op∈u,op.act.touch?=none/\op.act.low B)(hd:Deaf (t++u) a=0/\Deaf (t++u) b=0):Two (t++u) a b La Lb R B:=by
 refine⟨fun said=>?_,h.ma.app fun op x=>(hu op x).1,h.mb.app fun op x=>(hu op x).1,Wj h.known fun op x=>.inr (.inr (hu op x).1),Tg h.over fun op x=>.inr (.inr (hu op x).1),hd.1,hd.2,seen_app h.seen fun op x=>(hu op x).2⟩
 have key:∀(l:List MemOp) (t:Trace),(∀op∈l,op.act.touch?=none)->¬Race said t->¬Race said (t++l.toArray):=by
  intro l
  induction l with
  | nil=>intro t _ h;simpa using h
  | cons x l ih =>
    intro t hl h;have e:t ++(x :: l).toArray=(t ++#[x])++l.toArray:=by apply Array.ext';simp
    rw[e]
    refine ih _ (fun op y=>hl op (by simp[y])) (noRace_append (g:=x.g) h (fun op y=>by simp at y;rw[y]) fun i a _ op y b hb _=>?_)
    rw[hl op (by simp at y;simp[y])]at hb
    cases hb
 have:=key u.toList t (fun op x=>(hu op (by simpa using x)).1) (h.clean said)
 simpa using this
theorem Two.mute (h:Two t a b La Lb R B){i:Nat}(hia:i≠a)(hib:i≠b)(hm:∀e∈es,e.mute=true):Two (t++MemOp.ofEvents i fn pos es) a b La Lb R B :=
 h.quiet (fun op hop=>by obtain⟨e,x,rfl⟩:=Go.Conc.mem_ofEvents hop;exact⟨touch_mute (hm e x),low_mute (hm e x) B⟩) ⟨by rw[Deaf_other t hia _ Dp];exact h.ha,by rw[Deaf_other t hib _ Dp];exact h.hb⟩
theorem Two.pass {R':Nat->Prop}(h:Two t a b La Lb R B){c k cap:Nat}{f1 f2 f3 f4:FuncId}{p1 p2 p3 p4:String}(hc:c<B)(hR:∀x,R' x->Lb x) :
 Two (t ++#[{ g:=b,fn:=f1,pos:=p1,act:=.send c k },{ g:=a,fn:=f2,pos:=p2,act:=.recv c k cap },{ g:=b,fn:=f3,pos:=p3,act:=.sendDone c k },{ g:=a,fn:=f4,pos:=p4,act:=.recvDone c k }]) a b La (fun x=>Lb x/\¬R' x) (fun x=>R x\/R' x) B:=by
 have hk:∀i,Knows t b i->Knows (t++_) a i:=fun i x=>A3y (c:=c) (k:=k) (cap:=cap) (f1:=f1) (f2:=f2) (f3:=f3) (f4:=f4) (p1:=p1) (p2:=p2) (p3:=p3) (p4:=p4) h.hb h.ha x
 generalize hu:(#[{ g:=b,fn:=f1,pos:=p1,act:=.send c k },{ g:=a,fn:=f2,pos:=p2,act:=.recv c k cap },{ g:=b,fn:=f3,pos:=p3,act:=.sendDone c k },{ g:=a,fn:=f4,pos:=p4,act:=.recvDone c k }]:Trace)=u at hk ⊢
 have hq:∀op∈u,(op.act≠.mark .disable/\op.act≠.mark .enable)/\op.act.touch?=none/\op.act.low B:=by
  intro op hop;rw[<-hu]at hop;simp only[An4,An7,An6,Ap5]at hop
  rcases hop with rfl|rfl|rfl|rfl<;>exact⟨⟨by simp,by simp⟩,rfl,hc⟩
 have h2:=h.quiet (u:=u) (fun op x=>(hq op x).2) ⟨by rw[F6 t a u fun op x=>(hq op x).1];exact h.ha,by rw[F6 t b u fun op x=>(hq op x).1];exact h.hb⟩
 have old:∀{i x},touchAt (t++u) i=some x->touchAt t i=some x:=by
  intro i x hx
  rcases Bh hx with h1 |⟨op,h1,_,h3⟩
  ·exact h1
  ·rw[(hq op h1).2.1]at h3;cases h3
 refine⟨h2.clean,⟨h2.ma.own,fun i x hx hl hw=>?_⟩,⟨fun i x hx hl=>h2.mb.own i x hx (Sq (fun y z=>z.1) hl),fun i x hx hl hw=>?_⟩,h2.known,h2.over,h2.ha,h2.hb,h2.seen⟩
 ·obtain⟨loc,wr,kd⟩:=x
  have:H5 R loc\/H5 R' loc:=by
   cases loc<;>first|exact hl|exact hl.elim
  rcases this with h1|h1
  ·exact h2.ma.read i _ hx h1 hw
  ·exact hk i (h.mb.own i _ (old hx) (Sq hR h1))
 ·obtain⟨loc,wr,kd⟩:=x
  have:H5 R loc\/H5 R' loc:=by
   cases loc<;>first|exact hl|exact hl.elim
  rcases this with h1|h1
  ·exact h2.mb.read i _ hx h1 hw
  ·exact h2.mb.own i _ hx (Sq hR h1)
end
structure J8 (P:Program)(c a b B0:Nat)(w0:World)(gs:Array Goroutine)(w:World)(t:Trace)(q:Nat->Nat)(La Lb R:Nat->Prop):Prop where
 chan:∃s tm,w.heap[c]?=some (.chan 0 #[] false s s tm)
 ne:a≠b
 lta:a<gs.size
 ltb:b<gs.size
 zero:a=0\/b=0
 old:∀i g,i≠a->i≠b->gs[i]?=some g->QuitsD P (q i) (Deaf t i) g
 above:∀i,gs.size<=i->Deaf t i=0
 low:∀x,La x\/Lb x\/x=c->B0<=x
 da:∀x,La x->¬Lb x/\¬R x/\x≠c/\x<w.heap.size
 db:∀x,Lb x->¬La x/\¬R x/\x≠c/\x<w.heap.size
 dr:∀x,R x->x≠c/\x<w.heap.size
 two:Two t a b La Lb R w.heap.size
 Rk:∀i x,touchAt t i=some x->x.loc≠.obj c
 kept:B0<=w.heap.size /\(∀x,x<B0->w.heap[x]?=w0.heap[x]?)/\w.tape=w0.tape/\w.os=w0.os/\w.output=w0.output
theorem Ef {c:Nat}{t u:Trace}(h:∀i x,touchAt t i=some x->x.loc≠.obj c)(hu:∀op∈u,∀x,op.act.touch?=some x->x.loc≠.obj c):∀i x,touchAt (t++u) i=some x->x.loc≠.obj c:=by
 intro i x hx
 rcases Bh hx with h1 |⟨op,h1,_,h3⟩
 ·exact h i x h1
 ·exact hu op h1 x h3
theorem A8a {c g:Nat}{fn:FuncId}{pos:String}{es:Array Event}{L R:Nat->Prop}(he:∀e∈es,EvC L R e)(hL:¬L c)(hR:¬R c):∀op∈MemOp.ofEvents g fn pos es,∀x,op.act.touch?=some x->x.loc≠.obj c:=by
 intro op hop x hx e;obtain⟨ev,hev,rfl⟩:=Go.Conc.mem_ofEvents hop
 rcases Kl (he ev hev) hx with h |⟨h,_⟩
 ·rw[e]at h;exact hL h
 ·rw[e]at h;exact hR h
def Still (c:Nat)(g:Goroutine):Prop:=g.status=.running\/∃g0 k sh,g=parked g0 #[k] sh/\k.chan=.chan (some c)
theorem Still.woken {P:Program}{c s r:Nat}{tm:Bool}{g g1 g2:Goroutine}{w:World}(h:Still c g)(hc:w.heap[c]?=some (.chan 0 #[] false s r tm)):woken P g1 g2 w g=g:=by
 unfold Go.Conc.woken
 split
 ·rcases h with h |⟨g0,k,sh,rfl,hk⟩
  ·exact again_running _ (.inl h)
  ·exact again_parked_open hk hc
 ·rfl
theorem Still.awake {c:Nat}{g:Goroutine}(h:Still c g):awake g:=by
 rcases h with h |⟨g0,k,sh,rfl,_⟩
 ·exact awake_of (.inl h)
 ·exact awake_of (.inr (.inl rfl))
inductive Zj 
 | recv (z:Value)
 | send (v z:Value)
def Zj.Yb (c:Nat):Zj->CommCase
 | .recv z=>rcase c z
 | .send v z=>scase c v z
def Zj.shape:Zj->CommShape
 | .recv _=>.recv true
 | .send _ _=>.send
def G4 (P:Program)(m:Bool)(base:List Frame)(c:Nat)(dir:Zj)(fr:Frame)(cs:List Frame):Prop :=
 ∀w,stepG P m (G fr (cs++base)) w=.comm (G fr (cs++base)) #[dir.Yb c] true dir.shape w #[]
theorem Zj.still (c:Nat)(dir:Zj)(g:Goroutine):Still c (parked g #[dir.Yb c] dir.shape):=.inr ⟨g,_,_,rfl,by cases dir<;>rfl⟩
section
variable {P : Program} {c a b B0 : Nat} {w0 : World} {gs : Array Goroutine} {w : World} {t : Trace} {q : Nat -> Nat} {La Lb R : Nat -> Prop}
theorem J8.swap (h:J8 P c a b B0 w0 gs w t q La Lb R):J8 P c b a B0 w0 gs w t q Lb La R :=
 ⟨h.chan,h.ne.symm,h.ltb,h.lta,h.zero.symm,fun i g x y=>h.old i g y x,h.above,fun x hx=>h.low x (by rcases hx with hx|hx|hx<;>simp[hx]),h.db,h.da,h.dr,h.two.swap,h.Rk,h.kept⟩
theorem J8.at (h:J8 P c a b B0 w0 gs w t q La Lb R)(d:Nat):J8 P c a b B0 w0 gs (w.at d) t q La Lb R:=⟨h.chan,h.ne,h.lta,h.ltb,h.zero,h.old,h.above,h.low,h.da,h.db,h.dr,h.two,h.Rk,h.kept⟩
theorem J8.awake (h:J8 P c a b B0 w0 gs w t q La Lb R){ga gb:Goroutine}(ha:gs[a]?=some ga)(hb:gs[b]?=some gb)(sa:Still c ga)(sb:Still c gb):∀g∈gs,awake g:=by
 intro g hg;obtain⟨i,hi⟩:=Array.mem_iff_getElem?.1 hg
 by_cases ia:i=a
 ·subst ia;rw[ha]at hi;cases hi;exact sa.awake
 by_cases ib:i=b
 ·subst ib;rw[hb]at hi;cases hi;exact sb.awake
 exact awake_of ((h.old i g ia ib hi).status.elim .inl fun x=>.inr (.inr x))
theorem J8.own (h:J8 P c a b B0 w0 gs w t q La Lb R){ga gb g':Goroutine}(ha:gs[a]?=some ga)(hb:gs[b]?=some gb)(sb:Still c gb){d:Nat}{sl:Option (Nat×Nat)}{w':World}{n:Array Event}{La1:Nat->Prop}
 (hst:stepG P (a == 0) ga (w.at d)=.go g' w' n) (hd:Did La R (w.at d) La1 w' n) :
 ∃gs' ops,runT P (crowd gs (w.at d) sl) a=(.next (crowd gs' w' sl),ops)/\gs'.size=gs.size/\gs'[a]?=some g'/\gs'[b]?=some gb/\J8 P c a b B0 w0 gs' w' (t++ops) q La1 Lb R/\Aw Lb R w w':=by
 have hrun:=runT_crowd_go (P:=P) (sl:=sl) ha hst;have hnew:∀x,La1 x->La x\/w.heap.size<=x:=hd.new;have hsz:w.heap.size<=w'.heap.size:=hd.size;have hkept:∀x,x<w.heap.size->¬La x->w'.heap[x]?=w.heap[x]?:=hd.kept;obtain⟨s,tm,hc⟩:=h.chan;have hclt:c<w.heap.size:=(Alx.1 hc).1;have hc':w'.heap[c]?=some (.chan 0 #[] false s s tm):=by rw[hkept c hclt fun x=>(h.da c x).2.2.1 rfl];exact hc
 have hne:=h.ne
 refine⟨_,_,hrun,by simp,?_,?_,?_,?_⟩
 ·simp[h.lta]
 ·rw[Alz hne,Amv,hb];simp[sb.woken hc']
 ·refine⟨⟨s,tm,hc'⟩,hne,by simp[h.lta],by simp[h.ltb],h.zero,fun i g ia ib hi=>?_,fun i hi=>?_,fun x hx=>?_,fun x hx=>?_,fun x hx=>?_,fun x hx=>?_,?_,Ef h.Rk (A8a hd.evs (fun x=>?_) fun x=>(h.dr c x).1 rfl),?_⟩
  ·rw[Alz (Aoi ia),Amv]at hi;obtain⟨y,hy,rfl⟩:=Ami.1 hi;have hq:=h.old i y ia ib hy;rw[woken_quitsD hq,Deaf_other t (Aoi ia) _ Dp]
   exact hq
  ·have hi:gs.size<=i:=by simpa using hi
   rw[Deaf_other t (g':=a) (by have:=h.lta;omega) _ Dp]
   exact h.above i hi
  ·rcases hx with hx|hx|hx
   ·rcases hnew x hx with h1|h1
    ·exact h.low x (.inl h1)
    ·exact Am1 h.kept.1 h1
   ·exact h.low x (.inr (.inl hx))
   ·exact h.low x (.inr (.inr hx))
  ·rcases hnew x hx with h1|h1
   ·obtain⟨g1,g2,g3,g4⟩:=h.da x h1
    exact⟨g1,g2,g3,hd.lt x hx⟩
   ·exact⟨fun y=>by have:=(h.db x y).2.2.2;omega,fun y=>by have:=(h.dr x y).2;omega,by omega,hd.lt x hx⟩
  ·obtain⟨g1,g2,g3,g4⟩:=h.db x hx
   exact⟨fun y=>by rcases hnew x y with h1|h1;exact g1 h1;omega,g2,g3,by omega⟩
  ·obtain⟨g1,g2⟩:=h.dr x hx
   exact⟨g1,by omega⟩
  ·exact h.two.own hne hd.evs hnew hsz hd.lt (fun x hx=>(h.dr x hx).2) (fun x hx=>⟨(h.da x hx).1,(h.da x hx).2.1⟩) fun x hx=>⟨(h.db x hx).2.2.2,(h.db x hx).2.1⟩
  ·rcases hnew c x with h1|h1
   ·exact(h.da c h1).2.2.1 rfl
   ·omega
  ·obtain⟨k1,k2,k3,k4,k5⟩:=h.kept
   refine⟨by omega,fun x hx=>?_,hd.tape.trans k3,hd.os.1.trans k4,hd.os.2.trans k5⟩
   rw[hkept x (by omega) fun y=>by have:=h.low x (.inl y);omega]
   exact k2 x hx
 ·refine⟨hsz,fun x hx=>?_,hd.os.1,hd.os.2⟩
  rcases hx with hx|hx
  ·obtain⟨g1,g2,g3,g4⟩:=h.db x hx
   exact hkept x g4 g1
  ·exact hkept x (h.dr x hx).2 fun y=>(h.da x y).2.1 hx
theorem J8.slip (h:J8 P c a b B0 w0 gs w t q La Lb R){ga gb g:Goroutine}(ha:gs[a]?=some ga)(hb:gs[b]?=some gb)(sa:Still c ga)(sb:Still c gb){i:Nat}(hi:gs[i]?=some g)(hg:g.status=.running)(ia:i≠a)(ib:i≠b)(d:Nat)(sl:Option (Nat×Nat)) :
 ∃gs' ops q',runT P (crowd gs (w.at d) sl) i=(.next (crowd gs' (w.at d) sl),ops)/\gs'.size=gs.size/\gs'[a]?=some ga/\gs'[b]?=some gb/\J8 P c a b B0 w0 gs' (w.at d) (t++ops) q' La Lb R/\sumTo gs.size q'<sumTo gs.size q:=by
 have hq:=h.old i g ia ib hi;have hlt:i<gs.size:=(Alx.1 hi).1;obtain⟨s,tm,hc⟩:=h.chan
 have hz:(i == 0)=false:=by
  have:=h.zero;simp;omega
 cases hqi:q i with
 | zero=>rw[hqi]at hq;rw[hq.1]at hg;cases hg
 | succ k =>
   rw[hqi]at hq
   rcases hq with⟨hf,_⟩ |⟨_,g',es,hm,hstp,hq'⟩
   ·rw[hf]at hg;cases hg
   have hrun:=runT_crowd_go (P:=P) (sl:=sl) (i:=i) hi (by rw[hz];exact hstp (w.at d))
   refine⟨_,_,upd q i k,hrun,by simp,?_,?_,?_,?_⟩
   ·rw[Alz ia,Amv,ha];simp[sa.woken (w:=w.at d) hc]
   ·rw[Alz ib,Amv,hb];simp[sb.woken (w:=w.at d) hc]
   ·refine⟨⟨s,tm,hc⟩,h.ne,by simp[h.lta],by simp[h.ltb],h.zero,fun j x ja jb hj=>?_,fun j hj=>?_,h.low,h.da,h.db,h.dr,h.two.mute ia ib hm,Ef h.Rk fun op hop x hx=>(by obtain⟨e,he,rfl⟩:=Go.Conc.mem_ofEvents hop;rw[touch_mute (hm e he)]at hx;cases hx),h.kept⟩
    ·by_cases hji:i=j
     ·subst hji;rw[Am7 (by simpa using hlt)]at hj
      obtain rfl:=Aml hj;rw[upd_same,Deaf_own]
      exact hq'
     ·rw[Alz hji,Amv]at hj;obtain⟨y,hy,rfl⟩:=Ami.1 hj;have hqj:=h.old j y ja jb hy;rw[woken_quitsD hqj,upd_ne q k (Aoi hji),Deaf_other t hji _ Dp]
      exact hqj
    ·have hj:gs.size<=j:=by simpa using hj
     rw[Deaf_other t (g':=i) (by omega) _ Dp]
     exact h.above j hj
   ·have:=sumTo_upd q k id hlt;have this:sumTo gs.size (upd q i k)+q i=sumTo gs.size q+k:=this
    omega
theorem J8.Ah0 (h:J8 P c a b B0 w0 gs w t q La Lb R){gb:Goroutine}(hb:gs[b]?=some gb)(sb:gb.status=.running)(snd:Bool):partners (gs.setIfInBounds a ph) c snd=[]:=by
 refine partners_nil fun j g hj=>?_
 rcases getElem?_stand gs a j g hj with⟨_,rfl⟩ |⟨ja,hj⟩
 ·exact offersAt_ph c snd
 ·by_cases jb:j=b
  ·subst jb;rw[hb]at hj;cases hj
   exact offersAt_of_not_blocked (by rw[sb];simp) c snd
  ·exact offersAt_of_not_blocked (by rcases(h.old j g ja jb hj).status with x|x<;>rw[x]<;>simp) c snd
theorem J8.wait (h:J8 P c a b B0 w0 gs w t q La Lb R){fr:Frame}{cs base:List Frame}{gb:Goroutine}(ha:gs[a]?=some (G fr (cs++base)))(hb:gs[b]?=some gb)(sb:gb.status=.running){dir:Zj}(hst:G4 P (a == 0) base c dir fr cs)(d:Nat)(sl:Option (Nat×Nat)) :
 ∃gs',runT P (crowd gs (w.at d) sl) a=(.next (crowd gs' (w.at d) sl),#[])/\gs'.size=gs.size/\gs'[a]?=some (parked (G fr (cs++base)) #[dir.Yb c] dir.shape)/\gs'[b]?=some gb/\J8 P c a b B0 w0 gs' (w.at d) t q La Lb R:=by
 obtain⟨s,tm,hc⟩:=h.chan
 have hrun:=crowd_waits (P:=P) (sl:=sl) ha (hst (w.at d)) (fun cc hcc=>by
  have hcc:cc=dir.Yb c:=by simpa using hcc
  subst hcc;have hp:=fun snd=>h.Ah0 hb sb snd
  cases dir with
  | recv z=>exact ways_recv_none (w₁:=w.at d) hc (hp true)
  | send v z=>exact ways_send_none (w₁:=w.at d) hc (by simp) (hp false))
 refine⟨_,hrun,by simp,by simp[h.lta],by rw[Alz h.ne];exact hb,?_⟩
 refine⟨⟨s,tm,hc⟩,h.ne,by simp[h.lta],by simp[h.ltb],h.zero,fun i g ia ib hi=>?_,fun i hi=>h.above i (by simpa using hi),h.low,h.da,h.db,h.dr,h.two,h.Rk,h.kept⟩
 rw[Alz (Aoi ia)]at hi
 exact h.old i g ia ib hi
theorem J8.one (h:J8 P c a b B0 w0 gs w t q La Lb R){g0:Goroutine}{dir:Zj}{snd:Bool}(hb:gs[b]?=some (parked g0 #[dir.Yb c] dir.shape))(hd:offersAt (parked g0 #[dir.Yb c] dir.shape) c snd=[0]):partners (gs.setIfInBounds a ph) c snd=[(b,0)]:=by
 rw[partners_one (j:=b) (g:=parked g0 #[dir.Yb c] dir.shape) (by rw[Alz h.ne];exact hb) fun k x kb hx=>?_,hd]
 ·rfl
 ·rcases getElem?_stand gs a k x hx with⟨_,rfl⟩ |⟨ka,hk⟩
  ·exact offersAt_ph c snd
  ·exact offersAt_of_not_blocked (by rcases(h.old k x ka kb hk).status with x|x<;>rw[x]<;>simp) c snd
theorem J8.passed (h:J8 P c a b B0 w0 gs w t q La Lb R){R':Nat->Prop}(hR:∀x,R' x->Lb x){s:Nat}{tm:Bool}(hc:w.heap[c]?=some (.chan 0 #[] false s s tm)){gs':Array Goroutine}(hs:gs'.size=gs.size)(ho:∀i,i≠a->i≠b->gs'[i]?=gs[i]?){f1 f2 f3 f4:FuncId}{p1 p2 p3 p4:String}(d:Nat) :
 J8 P c a b B0 w0 gs' ((w.at d).setChan c 0 #[] false (s+1) (s+1) tm) (t ++#[{ g:=b,fn:=f1,pos:=p1,act:=.send c s },{ g:=a,fn:=f2,pos:=p2,act:=.recv c s 0 },{ g:=b,fn:=f3,pos:=p3,act:=.sendDone c s },{ g:=a,fn:=f4,pos:=p4,act:=.recvDone c s }]) q La (fun x=>Lb x/\¬R' x) (fun x=>R x\/R' x):=by
 have hclt:c<w.heap.size:=(Alx.1 hc).1;have hsz:((w.at d).setChan c 0 #[] false (s+1) (s+1) tm).heap.size=w.heap.size:=by simp[World.setChan,World.at]
 have hget:∀x,x≠c ->((w.at d).setChan c 0 #[] false (s+1) (s+1) tm).heap[x]?=w.heap[x]?:=fun x hx=>by simp[World.setChan,World.at,Aoi hx]
 have h2:=h.two.pass (c:=c) (k:=s) (cap:=0) (f1:=f1) (f2:=f2) (f3:=f3) (f4:=f4) (p1:=p1) (p2:=p2) (p3:=p3) (p4:=p4) hclt hR
 have hdeaf:∀i,i≠a->i≠b->Deaf (t ++#[{ g:=b,fn:=f1,pos:=p1,act:=.send c s },{ g:=a,fn:=f2,pos:=p2,act:=.recv c s 0 },{ g:=b,fn:=f3,pos:=p3,act:=.sendDone c s },{ g:=a,fn:=f4,pos:=p4,act:=.recvDone c s }]) i=Deaf t i:=fun i _ _=>F6 t i _ fun op hop=>by
  simp only[An4,An7,An6,Ap5]at hop
  rcases hop with rfl|rfl|rfl|rfl<;>exact⟨by simp,by simp⟩
 refine⟨⟨s+1,tm,by simp[World.setChan,World.at,hclt]⟩,h.ne,by rw[hs];exact h.lta,by rw[hs];exact h.ltb,h.zero,fun i g ia ib hi=>?_,fun i hi=>?_,fun x hx=>?_,fun x hx=>?_,fun x hx=>?_,fun x hx=>?_,by rw[hsz];exact h2,Ef h.Rk fun op hop x hx=>(by
  simp only[An4,An7,An6,Ap5]at hop
  rcases hop with rfl|rfl|rfl|rfl<;>cases hx),?_⟩
 ·rw[hdeaf i ia ib]
  exact h.old i g ia ib (by rw[<-ho i ia ib];exact hi)
 ·rw[hs]at hi;rw[hdeaf i (by have:=h.lta;omega) (by have:=h.ltb;omega)]
  exact h.above i hi
 ·exact h.low x (by rcases hx with hx|hx|hx;exact .inl hx;exact .inr (.inl hx.1);exact .inr (.inr hx))
 ·obtain⟨g1,g2,g3,g4⟩:=h.da x hx
  exact⟨fun y=>g1 y.1,fun y=>y.elim g2 fun z=>g1 (hR x z),g3,by rw[hsz];exact g4⟩
 ·obtain⟨g1,g2,g3,g4⟩:=h.db x hx.1
  exact⟨g1,fun y=>y.elim g2 hx.2,g3,by rw[hsz];exact g4⟩
 ·rw[hsz]
  rcases hx with hx|hx
  ·exact h.dr x hx
  ·exact⟨(h.db x (hR x hx)).2.2.1,(h.db x (hR x hx)).2.2.2⟩
 ·obtain⟨k1,k2,k3,k4,k5⟩:=h.kept
  refine⟨by rw[hsz];exact k1,fun x hx=>?_,k3,k4,k5⟩
  rw[hget x (by have:=h.low c (.inr (.inr rfl));omega)]
  exact k2 x hx
end
end Co
namespace Co
open Go.Conc
open Go.ConcN (sumTo upd sumTo_upd upd_ne upd_same)
def Ia (P:Program)(gs:Array Goroutine)(w:World)(sl:Option (Nat×Nat))(t:Trace)(gs':Array Goroutine)(w':World)(sl':Option (Nat×Nat))(t':Trace):Prop :=
 ∃N,runNT P N (crowd gs w sl) t=(.next (crowd gs' w' sl'),t')
theorem Ia.refl {P:Program}{gs:Array Goroutine}{w:World}{sl:Option (Nat×Nat)}{t:Trace}:Ia P gs w sl t gs w sl t:=⟨0,rfl⟩
theorem Ia.head {P:Program}{gs gs1 gs':Array Goroutine}{w w1 w':World}{sl sl1 sl':Option (Nat×Nat)}{t t' ops:Trace}(h:stepT P (crowd gs w sl)=(.next (crowd gs1 w1 sl1),ops))(k:Ia P gs1 w1 sl1 (t++ops) gs' w' sl' t'):Ia P gs w sl t gs' w' sl' t':=by
 obtain⟨N,k⟩:=k
 exact⟨N+1,by simp only[runNT,h];exact k⟩
theorem Ia.trans {P:Program}{gs gs1 gs':Array Goroutine}{w w1 w':World}{sl sl1 sl':Option (Nat×Nat)}{t t1 t':Trace}(h:Ia P gs w sl t gs1 w1 sl1 t1)(k:Ia P gs1 w1 sl1 t1 gs' w' sl' t'):Ia P gs w sl t gs' w' sl' t':=by
 obtain⟨M,h⟩:=h;obtain⟨N,k⟩:=k
 exact⟨M+N,by rw[runNT_add,h];exact k⟩
theorem Af {L R:Nat->Prop}{a b c:World}(h:Aw L R a b)(k:Aw L R b c):Aw L R a c :=
 ⟨Am1 h.1 k.1,fun x hx=>(k.2.1 x hx).trans (h.2.1 x hx),k.2.2.1.trans h.2.2.1,k.2.2.2.trans h.2.2.2⟩
theorem Ay (c:Nat)(fr:Frame)(cs:List Frame):Still c (G fr cs):=.inl rfl
section
variable {P : Program} {c a b B0 : Nat} {w0 : World} {basea baseb : List Frame} {R : Nat -> Prop} {PostA PostB : (Nat -> Prop) -> Frame -> List Frame -> World -> Prop}
theorem Yq {La Lb:Nat->Prop}{fra:Frame}{csa:List Frame}{Wa:World}(hA:Co P (a == 0) basea R PostA La fra csa Wa):∀(gs:Array Goroutine) (w:World) (sl:Option (Nat×Nat)) (t:Trace) (q:Nat->Nat) (gb:Goroutine),
 J8 P c a b B0 w0 gs w t q La Lb R->gs[a]?=some (G fra (csa++basea))->gs[b]?=some gb->Still c gb->gb.status≠.running->Aw La R Wa w ->
 ∃gs' w' sl' t' q' La' fra' csa' Wa',Ia P gs w sl t gs' w' sl' t'/\gs'.size=gs.size/\gs'[a]?=some (G fra' (csa'++basea))/\gs'[b]?=some gb/\PostA La' fra' csa' Wa'/\Aw La' R Wa' w'/\Aw Lb R w w' /\
  J8 P c a b B0 w0 gs' w' t' q' La' Lb R/\∃d sl'',stepT P (crowd gs' w' sl')=runT P (crowd gs' (w'.at d) sl'') a:=by
 induction hA with
 | @stop La fra csa Wa hp =>
   intro gs w sl t q;generalize hM:sumTo gs.size q=M
   induction M using Nat.strongRecOn generalizing gs w sl t q with
   | _ M ihM =>
     intro gb h ha hb sb nb hr;obtain⟨i,g,d,sl',hi,hg,hst⟩:=crowd_pick (P:=P) (w:=w) (sl:=sl) (h.awake ha hb (Ay c _ _) sb) ⟨a,_,ha,rfl⟩
     by_cases ia:i=a
     ·subst ia
      exact⟨gs,w,sl,t,q,La,fra,csa,Wa,.refl,rfl,ha,hb,hp,hr,At _ _ _,h,d,sl',hst⟩
     by_cases ib:i=b
     ·subst ib;rw[hb]at hi;cases hi;exact absurd hg nb
     obtain⟨gs1,ops,q1,k1,k2,k3,k4,k5,k6⟩:=h.slip ha hb (Ay c _ _) sb hi hg ia ib d sl';obtain⟨gs',w',sl2,t',q',La',fra',csa',Wa',m1,m2,m3,m4,m5,m6,m7,m8,m9⟩:=ihM _ (by rw[<-hM];exact k6) gs1 (w.at d) sl' (t++ops) q1 (by rw[k2]) gb k5 k3 k4 sb nb (Ad hr d)
     exact⟨gs',w',sl2,t',q',La',fra',csa',Wa',m1.head (hst.trans k1),m2.trans k2,m3,m4,m5,m6,m7,m8,m9⟩
 | @go La fra csa Wa f1 c1 w1 n1 L1 hstep _ ih =>
   intro gs w sl t q;generalize hM:sumTo gs.size q=M
   induction M using Nat.strongRecOn generalizing gs w sl t q with
   | _ M ihM =>
     intro gb h ha hb sb nb hr;obtain⟨i,g,d,sl',hi,hg,hst⟩:=crowd_pick (P:=P) (w:=w) (sl:=sl) (h.awake ha hb (Ay c _ _) sb) ⟨a,_,ha,rfl⟩
     by_cases ia:i=a
     ·subst ia;obtain⟨e1,e2⟩:=hstep (w.at d) (Ad hr d);obtain⟨gs1,ops,k1,k2,k3,k4,k5,k6⟩:=h.own ha hb sb (sl:=sl') e1 e2;obtain⟨gs',w',sl2,t',q',La',fra',csa',Wa',m1,m2,m3,m4,m5,m6,m7,m8,m9⟩:=ih (w.at d) (Ad hr d) gs1 _ sl' (t++ops) q gb k5 k3 k4 sb nb (At _ _ _)
      exact⟨gs',w',sl2,t',q',La',fra',csa',Wa',m1.head (hst.trans k1),m2.trans k2,m3,m4,m5,m6,Af k6 m7,m8,m9⟩
     by_cases ib:i=b
     ·subst ib;rw[hb]at hi;cases hi;exact absurd hg nb
     obtain⟨gs1,ops,q1,k1,k2,k3,k4,k5,k6⟩:=h.slip ha hb (Ay c _ _) sb hi hg ia ib d sl';obtain⟨gs',w',sl2,t',q',La',fra',csa',Wa',m1,m2,m3,m4,m5,m6,m7,m8,m9⟩:=ihM _ (by rw[<-hM];exact k6) gs1 (w.at d) sl' (t++ops) q1 (by rw[k2]) gb k5 k3 k4 sb nb (Ad hr d)
     exact⟨gs',w',sl2,t',q',La',fra',csa',Wa',m1.head (hst.trans k1),m2.trans k2,m3,m4,m5,m6,m7,m8,m9⟩
theorem A6j {La:Nat->Prop}{fra:Frame}{csa:List Frame}{Wa:World}(hA:Co P (a == 0) basea R PostA La fra csa Wa):∀{Lb:Nat->Prop} {frb:Frame} {csb:List Frame} {Wb:World},Co P (b == 0) baseb R PostB Lb frb csb Wb ->
 ∀(gs:Array Goroutine) (w:World) (sl:Option (Nat×Nat)) (t:Trace) (q:Nat->Nat),
 J8 P c a b B0 w0 gs w t q La Lb R->gs[a]?=some (G fra (csa++basea))->gs[b]?=some (G frb (csb++baseb))->Aw La R Wa w->Aw Lb R Wb w ->
 ∃gs' w' sl' t' q' La' fra' csa' Wa' Lb' frb' csb' Wb',Ia P gs w sl t gs' w' sl' t'/\gs'.size=gs.size/\gs'[a]?=some (G fra' (csa'++basea))/\gs'[b]?=some (G frb' (csb'++baseb))/\Aw La' R Wa' w'/\Aw Lb' R Wb' w' /\
  J8 P c a b B0 w0 gs' w' t' q' La' Lb' R /\((PostA La' fra' csa' Wa'/\Co P (b == 0) baseb R PostB Lb' frb' csb' Wb'/\∃d sl'',stepT P (crowd gs' w' sl')=runT P (crowd gs' (w'.at d) sl'') a) \/
   (PostB Lb' frb' csb' Wb'/\Co P (a == 0) basea R PostA La' fra' csa' Wa'/\∃d sl'',stepT P (crowd gs' w' sl')=runT P (crowd gs' (w'.at d) sl'') b)):=by
 induction hA with
 | @stop La fra csa Wa hp =>
   intro Lb frb csb Wb hB
   induction hB with
   | @stop Lb frb csb Wb hpb =>
     intro gs w sl t q;generalize hM:sumTo gs.size q=M
     induction M using Nat.strongRecOn generalizing gs w sl t q with
     | _ M ihM =>
       intro h ha hb hr hrb;obtain⟨i,g,d,sl',hi,hg,hst⟩:=crowd_pick (P:=P) (w:=w) (sl:=sl) (h.awake ha hb (Ay c _ _) (Ay c _ _)) ⟨a,_,ha,rfl⟩
       by_cases ia:i=a
       ·subst ia
        exact⟨gs,w,sl,t,q,La,fra,csa,Wa,Lb,frb,csb,Wb,.refl,rfl,ha,hb,hr,hrb,h,.inl ⟨hp,.stop hpb,d,sl',hst⟩⟩
       by_cases ib:i=b
       ·subst ib
        exact⟨gs,w,sl,t,q,La,fra,csa,Wa,Lb,frb,csb,Wb,.refl,rfl,ha,hb,hr,hrb,h,.inr ⟨hpb,.stop hp,d,sl',hst⟩⟩
       obtain⟨gs1,ops,q1,k1,k2,k3,k4,k5,k6⟩:=h.slip ha hb (Ay c _ _) (Ay c _ _) hi hg ia ib d sl';obtain⟨gs',w',sl2,t',q',La',fra',csa',Wa',Lb',frb',csb',Wb',m1,m2,m3⟩:=ihM _ (by rw[<-hM];exact k6) gs1 (w.at d) sl' (t++ops) q1 (by rw[k2]) k5 k3 k4 (Ad hr d) (Ad hrb d)
       exact⟨gs',w',sl2,t',q',La',fra',csa',Wa',Lb',frb',csb',Wb',m1.head (hst.trans k1),m2.trans k2,m3⟩
   | @go Lb frb csb Wb f1 c1 w1 n1 L1 hstep hnext ih =>
     intro gs w sl t q;generalize hM:sumTo gs.size q=M
     induction M using Nat.strongRecOn generalizing gs w sl t q with
     | _ M ihM =>
       intro h ha hb hr hrb;obtain⟨i,g,d,sl',hi,hg,hst⟩:=crowd_pick (P:=P) (w:=w) (sl:=sl) (h.awake ha hb (Ay c _ _) (Ay c _ _)) ⟨a,_,ha,rfl⟩
       by_cases ia:i=a
       ·subst ia
        exact⟨gs,w,sl,t,q,La,fra,csa,Wa,Lb,frb,csb,Wb,.refl,rfl,ha,hb,hr,hrb,h,.inl ⟨hp,.go f1 c1 w1 n1 L1 hstep hnext,d,sl',hst⟩⟩
       by_cases ib:i=b
       ·subst ib;obtain⟨e1,e2⟩:=hstep (w.at d) (Ad hrb d);obtain⟨gs1,ops,k1,k2,k3,k4,k5,k6⟩:=h.swap.own hb ha (Ay c _ _) (sl:=sl') e1 e2;obtain⟨gs',w',sl2,t',q',La',fra',csa',Wa',Lb',frb',csb',Wb',m1,m2,m3⟩:=ih (w.at d) (Ad hrb d) gs1 _ sl' (t++ops) q k5.swap k4 k3 (Af hr k6) (At _ _ _)
        exact⟨gs',w',sl2,t',q',La',fra',csa',Wa',Lb',frb',csb',Wb',m1.head (hst.trans k1),m2.trans k2,m3⟩
       obtain⟨gs1,ops,q1,k1,k2,k3,k4,k5,k6⟩:=h.slip ha hb (Ay c _ _) (Ay c _ _) hi hg ia ib d sl';obtain⟨gs',w',sl2,t',q',La',fra',csa',Wa',Lb',frb',csb',Wb',m1,m2,m3⟩:=ihM _ (by rw[<-hM];exact k6) gs1 (w.at d) sl' (t++ops) q1 (by rw[k2]) k5 k3 k4 (Ad hr d) (Ad hrb d)
       exact⟨gs',w',sl2,t',q',La',fra',csa',Wa',Lb',frb',csb',Wb',m1.head (hst.trans k1),m2.trans k2,m3⟩
 | @go La fra csa Wa f1a c1a w1a n1a L1a hstepa hnexta iha =>
   intro Lb frb csb Wb hB
   induction hB with
   | @stop Lb frb csb Wb hpb =>
     intro gs w sl t q;generalize hM:sumTo gs.size q=M
     induction M using Nat.strongRecOn generalizing gs w sl t q with
     | _ M ihM =>
       intro h ha hb hr hrb;obtain⟨i,g,d,sl',hi,hg,hst⟩:=crowd_pick (P:=P) (w:=w) (sl:=sl) (h.awake ha hb (Ay c _ _) (Ay c _ _)) ⟨a,_,ha,rfl⟩
       by_cases ia:i=a
       ·subst ia;obtain⟨e1,e2⟩:=hstepa (w.at d) (Ad hr d);obtain⟨gs1,ops,k1,k2,k3,k4,k5,k6⟩:=h.own ha hb (Ay c _ _) (sl:=sl') e1 e2;obtain⟨gs',w',sl2,t',q',La',fra',csa',Wa',Lb',frb',csb',Wb',m1,m2,m3⟩:=iha (w.at d) (Ad hr d) (.stop hpb) gs1 _ sl' (t++ops) q k5 k3 k4 (At _ _ _) (Af hrb k6)
        exact⟨gs',w',sl2,t',q',La',fra',csa',Wa',Lb',frb',csb',Wb',m1.head (hst.trans k1),m2.trans k2,m3⟩
       by_cases ib:i=b
       ·subst ib
        exact⟨gs,w,sl,t,q,La,fra,csa,Wa,Lb,frb,csb,Wb,.refl,rfl,ha,hb,hr,hrb,h,.inr ⟨hpb,.go f1a c1a w1a n1a L1a hstepa hnexta,d,sl',hst⟩⟩
       obtain⟨gs1,ops,q1,k1,k2,k3,k4,k5,k6⟩:=h.slip ha hb (Ay c _ _) (Ay c _ _) hi hg ia ib d sl';obtain⟨gs',w',sl2,t',q',La',fra',csa',Wa',Lb',frb',csb',Wb',m1,m2,m3⟩:=ihM _ (by rw[<-hM];exact k6) gs1 (w.at d) sl' (t++ops) q1 (by rw[k2]) k5 k3 k4 (Ad hr d) (Ad hrb d)
       exact⟨gs',w',sl2,t',q',La',fra',csa',Wa',Lb',frb',csb',Wb',m1.head (hst.trans k1),m2.trans k2,m3⟩
   | @go Lb frb csb Wb f1 c1 w1 n1 L1 hstep hnext ih =>
     intro gs w sl t q;generalize hM:sumTo gs.size q=M
     induction M using Nat.strongRecOn generalizing gs w sl t q with
     | _ M ihM =>
       intro h ha hb hr hrb;obtain⟨i,g,d,sl',hi,hg,hst⟩:=crowd_pick (P:=P) (w:=w) (sl:=sl) (h.awake ha hb (Ay c _ _) (Ay c _ _)) ⟨a,_,ha,rfl⟩
       by_cases ia:i=a
       ·subst ia;obtain⟨e1,e2⟩:=hstepa (w.at d) (Ad hr d);obtain⟨gs1,ops,k1,k2,k3,k4,k5,k6⟩:=h.own ha hb (Ay c _ _) (sl:=sl') e1 e2;obtain⟨gs',w',sl2,t',q',La',fra',csa',Wa',Lb',frb',csb',Wb',m1,m2,m3⟩:=iha (w.at d) (Ad hr d) (.go f1 c1 w1 n1 L1 hstep hnext) gs1 _ sl' (t++ops) q k5 k3 k4 (At _ _ _) (Af hrb k6)
        exact⟨gs',w',sl2,t',q',La',fra',csa',Wa',Lb',frb',csb',Wb',m1.head (hst.trans k1),m2.trans k2,m3⟩
       by_cases ib:i=b
       ·subst ib;obtain⟨e1,e2⟩:=hstep (w.at d) (Ad hrb d);obtain⟨gs1,ops,k1,k2,k3,k4,k5,k6⟩:=h.swap.own hb ha (Ay c _ _) (sl:=sl') e1 e2;obtain⟨gs',w',sl2,t',q',La',fra',csa',Wa',Lb',frb',csb',Wb',m1,m2,m3⟩:=ih (w.at d) (Ad hrb d) gs1 _ sl' (t++ops) q k5.swap k4 k3 (Af hr k6) (At _ _ _)
        exact⟨gs',w',sl2,t',q',La',fra',csa',Wa',Lb',frb',csb',Wb',m1.head (hst.trans k1),m2.trans k2,m3⟩
       obtain⟨gs1,ops,q1,k1,k2,k3,k4,k5,k6⟩:=h.slip ha hb (Ay c _ _) (Ay c _ _) hi hg ia ib d sl';obtain⟨gs',w',sl2,t',q',La',fra',csa',Wa',Lb',frb',csb',Wb',m1,m2,m3⟩:=ihM _ (by rw[<-hM];exact k6) gs1 (w.at d) sl' (t++ops) q1 (by rw[k2]) k5 k3 k4 (Ad hr d) (Ad hrb d)
       exact⟨gs',w',sl2,t',q',La',fra',csa',Wa',Lb',frb',csb',Wb',m1.head (hst.trans k1),m2.trans k2,m3⟩
theorem Ku {L:Nat->Prop}{W w:World}{s:Nat}{tm:Bool}{d:Nat}(h:Aw L R W w)(hL:∀x,L x\/R x->x≠c):Aw L R W ((w.at d).setChan c 0 #[] false s s tm) :=
 ⟨by simpa [World.setChan,World.at]using h.1,fun x hx=>by simpa [World.setChan,World.at,Aoi (hL x hx)]using h.2.1 x hx,h.2.2.1,h.2.2.2⟩
theorem meet {z:Value}{KA:(Nat->Prop)->Frame->List Frame->World->Prop}{KB:Value ->(Nat->Prop)->Frame->List Frame->World->Prop}{La Lb:Nat->Prop}{fra frb:Frame}{csa csb:List Frame}{Wa Wb:World}
 (hA:Co P (a == 0) basea R (fun L fr cs W=>G4 P (a == 0) basea c (.recv z) fr cs/\KA L fr cs W) La fra csa Wa)
 (hB:Co P (b == 0) baseb R (fun L fr cs W=>∃v z',G4 P (b == 0) baseb c (.send v z') fr cs/\KB v L fr cs W) Lb frb csb Wb)
 {gs:Array Goroutine} {w:World} {sl:Option (Nat×Nat)} {t:Trace} {q:Nat->Nat}
 (h:J8 P c a b B0 w0 gs w t q La Lb R) (ha:gs[a]?=some (G fra (csa++basea))) (hb:gs[b]?=some (G frb (csb++baseb))) (hra:Aw La R Wa w) (hrb:Aw Lb R Wb w) :
 ∃gs' w' sl' t' q' La' fra' csa' Wa' Lb' frb' csb' Wb' v,Ia P gs w sl t gs' w' sl' t'/\gs'.size=gs.size/\gs'[a]?=some (G (fra'.finish (.tuple #[v,.bool true])) (csa'++basea))/\gs'[b]?=some (G (frb'.finish undef) (csb'++baseb)) /\
  Aw La' R Wa' w'/\Aw Lb' R Wb' w'/\KA La' fra' csa' Wa'/\KB v Lb' frb' csb' Wb' /\
  ∀R':Nat->Prop,(∀x,R' x->Lb' x)->J8 P c a b B0 w0 gs' w' t' q' La' (fun x=>Lb' x/\¬R' x) (fun x=>R x\/R' x):=by
 obtain⟨gs1,w1,sl1,t1,q1,La1,fra1,csa1,Wa1,Lb1,frb1,csb1,Wb1,m1,m2,m3,m4,m5,m6,m7,m8⟩:=A6j hA hB gs w sl t q h ha hb hra hrb
 rcases m8 with⟨⟨hsa,hka⟩,hB1,d,sl2,hst⟩ |⟨⟨v,z',hsb,hkb⟩,hA1,d,sl2,hst⟩
 ·
  obtain⟨gs2,n1,n2,n3,n4,n5⟩:=m7.wait m3 m4 rfl hsa d sl2;obtain⟨gs3,w3,sl3,t3,q3,Lb3,frb3,csb3,Wb3,o1,o2,o3,o4,⟨v,z',hsb,hkb⟩,o6,o7,o8,d3,sl4,o9⟩:=Yq hB1 gs2 (w1.at d) sl2 t1 q1 _ n5.swap n4 n3 (Zj.still _ _ _) (by simp[parked]) (Ad m6 d)
  obtain⟨s,tm,hc⟩:=o8.chan;have hpart:=o8.one (snd:=false) o4 (by simpa [Zj.Yb,Zj.shape]using offersAt_parked_recv (G fra1 (csa1++basea)) c z (.recv true) c)
  have hrun:=crowd_send_meets (P:=P) (sl:=sl4) o3 (hsb (w3.at d3)) hc o8.ne.symm o4 hpart;have hra3:Aw La1 R Wa1 w3:=Af (Ad m5 d) o7
  refine⟨_,_,sl4,t3++_,q3,La1,fra1,csa1,Wa1,Lb3,frb3,csb3,Wb3,v,m1.trans (Ia.head (ops:=#[]) (hst.trans n1) (by rw[Array.append_empty];exact o1.trans (Ia.head (o9.trans hrun) .refl))),by simp[o2,n2,m2],?_,?_,Ku hra3 (fun x hx=>hx.elim (fun y=>(o8.db x y).2.2.1) fun y=>(o8.dr x y).1),Ku o6 (fun x hx=>hx.elim (fun y=>(o8.da x y).2.2.1) fun y=>(o8.dr x y).1),hka,hkb,fun R' hR'=>?_⟩
  ·have:=o8.ltb;rw[Alz o8.ne,Am7 this]
   rfl
  ·rw[Am7 (by simpa using o8.lta)]
   rfl
  ·exact J8.passed o8.swap hR' hc (gs':=_) (by simp) (fun i ia ib=>by rw[Alz (Aoi ib),Alz (Aoi ia)]) d3
 ·
  obtain⟨gs2,n1,n2,n3,n4,n5⟩:=m7.swap.wait m4 m3 rfl hsb d sl2;obtain⟨gs3,w3,sl3,t3,q3,La3,fra3,csa3,Wa3,o1,o2,o3,o4,⟨hsa,hka⟩,o6,o7,o8,d3,sl4,o9⟩:=Yq hA1 gs2 (w1.at d) sl2 t1 q1 _ n5.swap n4 n3 (Zj.still _ _ _) (by simp[parked]) (Ad m5 d)
  obtain⟨s,tm,hc⟩:=o8.chan;have hpart:=o8.one (snd:=true) o4 (by simpa [Zj.Yb,Zj.shape]using offersAt_parked_send (G frb1 (csb1++baseb)) c v z' .send c)
  have hrun:=crowd_recv_meets (P:=P) (sl:=sl4) o3 (hsa (w3.at d3)) hc o8.ne.symm o4 hpart;have hrb3:Aw Lb1 R Wb1 w3:=Af (Ad m6 d) o7
  refine⟨_,_,sl4,t3++_,q3,La3,fra3,csa3,Wa3,Lb1,frb1,csb1,Wb1,v,m1.trans (Ia.head (ops:=#[]) (hst.trans n1) (by rw[Array.append_empty];exact o1.trans (Ia.head (o9.trans hrun) .refl))),by simp[o2,n2,m2],?_,?_,Ku o6 (fun x hx=>hx.elim (fun y=>(o8.da x y).2.2.1) fun y=>(o8.dr x y).1),Ku hrb3 (fun x hx=>hx.elim (fun y=>(o8.db x y).2.2.1) fun y=>(o8.dr x y).1),hka,hkb,fun R' hR'=>?_⟩
  ·rw[Am7 (by simpa using o8.lta)]
   rfl
  ·have:=o8.ltb;rw[Alz o8.ne,Am7 this]
   rfl
  ·exact J8.passed o8 hR' hc (gs':=_) (by simp) (fun i ia ib=>by rw[Alz (Aoi ia),Alz (Aoi ib)]) d3
end
end Co
end Go.Proofs.YtjaehldnlamgkaaGreatDoor
