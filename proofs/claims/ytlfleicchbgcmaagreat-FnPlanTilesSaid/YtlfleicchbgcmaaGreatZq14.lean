import Derived.Test.YtlfleicchbgcmaaGreatZq13
import Derived.Conc.CrowdComm
import Derived.Test.YtlfleicchbgcmaaGreatZq0
set_option linter.all false
set_option maxHeartbeats 16000000
set_option maxRecDepth 100000
namespace Go.Proofs.YtlfleicchbgcmaaGreat
namespace Co
open Go.Conc
open Go.ConcN (sumTo upd sumTo_upd upd_ne upd_same)
structure Two (t:Trace)(a b:Nat)(La Lb R:Nat->Prop)(B:Nat):Prop where
 clean:∀said,¬Race said t
 ma:U1 t a La R
 mb:U1 t b Lb R
 known:∀i x,touchAt t i=some x->x.loc.isMemory=true->Knows t a i\/Knows t b i
 over:∀i g,t.g? i=some g->g≠a->g≠b->t.counts i->∃p,t.g? p=some 0/\HappensBefore t i p
 ha:Deaf t a=0
 hb:Deaf t b=0
 seen:∀op∈t,op.act.low B
theorem Sk {a b:Nat}{t u:Trace}(h:∀i g,t.g? i=some g->g≠a->g≠b->t.counts i->∃p,t.g? p=some 0/\HappensBefore t i p)(hu:∀op∈u,op.g=a\/op.g=b\/op.act.touch?=none) :
 ∀i g,(t++u).g? i=some g->g≠a->g≠b ->(t++u).counts i->∃p,(t++u).g? p=some 0/\HappensBefore (t++u) i p:=by
 intro i g hg ha hb hc;obtain⟨x,hx,_⟩:=hc;obtain⟨op,hop,hox⟩:=touch_of hx
 rcases getElem?_append_cases hop with⟨hi,hop'⟩ |⟨_,hopu⟩
 ·obtain⟨j,hj,hbf⟩:=h i g (by simpa [Trace.g?,getElem?_append_old hi]using hg) ha hb ((counts_old hi).1 ⟨x,hx,‹_›⟩)
  have hjl:j<t.size:=by
   unfold Trace.g? at hj;obtain⟨z,hz,_⟩:=Aif.1 hj
   exact lt_size_of_getElem? hz
  exact⟨j,by simpa [Trace.g?,getElem?_append_old hjl]using hj,hb_app u hbf⟩
 ·rcases hu op hopu with h0|h0|h0
  ·exact absurd (by simpa [Trace.g?,hop,h0]using hg.symm) ha
  ·exact absurd (by simpa [Trace.g?,hop,h0]using hg.symm) hb
  ·rw[h0]at hox;cases hox
theorem Vq {a b:Nat}{t u:Trace}(h:∀i x,touchAt t i=some x->x.loc.isMemory=true->Knows t a i\/Knows t b i)(hu:∀op∈u,op.g=a\/op.g=b\/op.act.touch?=none) :
 ∀i x,touchAt (t++u) i=some x->x.loc.isMemory=true->Knows (t++u) a i\/Knows (t++u) b i:=by
 intro i x hx hm
 rcases Ca hx with h1 |⟨op,h1,h2,h3⟩
 ·exact(h i x h1 hm).imp (·.app u) (·.app u)
 ·rcases hu op h1 with h0|h0|h0
  ·exact .inl (h0▸knows_own h2)
  ·exact .inr (h0▸knows_own h2)
  ·rw[h0]at h3;cases h3
section
variable {t : Trace} {a b B B1 : Nat} {La La1 Lb R : Nat -> Prop} {fn : FuncId} {pos : String} {es : Array Event}
theorem Two.swap (h:Two t a b La Lb R B):Two t b a Lb La R B :=
 ⟨h.clean,h.mb,h.ma,fun i x p q=>(h.known i x p q).symm,fun i g p q r s=>h.over i g p r q s,h.hb,h.ha,h.seen⟩
theorem Ea {g:Nat}:∀op∈MemOp.ofEvents g fn pos es,op.g=g:=fun op hop=>by obtain⟨e,_,rfl⟩:=Go.Conc.mem_ofEvents hop;rfl
theorem Two.own (h:Two t a b La Lb R B)(hab:a≠b)(he:∀e∈es,EvC La1 R e)(hn:∀x,La1 x->La x\/B<=x)(hB:B<=B1)(hL:∀x,La1 x->x<B1)(hR:∀x,R x->x<B)
 (d1:∀x,La x->¬Lb x/\¬R x) (d2:∀x,Lb x->x<B/\¬R x):Two (t++MemOp.ofEvents a fn pos es) a b La1 Lb R B1:=by
 have hf:U1 t a La1 R:=h.ma.fresh h.seen hn;have hEv:∀e∈es,EvL (fun _=>False) B1 e:=fun e x=>Ng (he e x) hL fun b hb=>Ai9 (hR b hb) hB
 refine⟨hf.noRace h.clean he,hf.self,h.mb.other he (fun x hx=>?_) (fun x hx y=>(d2 x y).2 hx),Vq h.known fun op hop=>.inl (Ea op hop),Sk h.over fun op hop=>.inl (Ea op hop),?_,?_,?_⟩
 ·rcases hn x hx with h1|h1
  ·exact d1 x h1
  ·exact⟨fun y=>absurd (d2 x y).1 (by omega),fun y=>absurd (hR x y) (by omega)⟩
 ·rw[Deaf_own,deafBehind_still (fun e x=>⟨(hEv e x).2.1,(hEv e x).2.2.1⟩)]
  exact h.ha
 ·rw[Deaf_other t hab _ Ea]
  exact h.hb
 ·exact seen_app (fun op hop=>MemAct.low_mono hB (h.seen op hop)) fun op hop=>by obtain⟨e,x,rfl⟩:=Go.Conc.mem_ofEvents hop;exact(hEv e x).2.2.2
theorem Two.quiet {u:Trace}(h:Two t a b La Lb R B)(hu:∀op∈u,op.act.touch?=none/\op.act.low B)(hd:Deaf (t++u) a=0/\Deaf (t++u) b=0):Two (t++u) a b La Lb R B:=by
 refine⟨fun said=>?_,h.ma.app fun op x=>(hu op x).1,h.mb.app fun op x=>(hu op x).1,Vq h.known fun op x=>.inr (.inr (hu op x).1),Sk h.over fun op x=>.inr (.inr (hu op x).1),hd.1,hd.2,seen_app h.seen fun op x=>(hu op x).2⟩
 have key:∀(l:List MemOp) (t:Trace),(∀op∈l,op.act.touch?=none)->¬Race said t->¬Race said (t++l.toArray):=by
  intro l
  induction l with
  | nil=>intro t _ h;simpa using h
  | cons x l ih =>
    intro t hl h;have e:t ++(x :: l).toArray=(t ++#[x])++l.toArray:=by apply Array.ext';simp
    rw[e]
    refine ih _ (fun op y=>hl op (by simp[y])) (noRace_append (g:=x.g) h (fun op y=>by simp at y;rw[y]) fun i a _ op y b hb _=>?_)
    rw[hl op (by simp at y;simp[y])]at hb
    cases hb
 have:=key u.toList t (fun op x=>(hu op (by simpa using x)).1) (h.clean said)
 simpa using this
theorem Two.mute (h:Two t a b La Lb R B){i:Nat}(hia:i≠a)(hib:i≠b)(hm:∀e∈es,e.mute=true):Two (t++MemOp.ofEvents i fn pos es) a b La Lb R B :=
 h.quiet (fun op hop=>by obtain⟨e,x,rfl⟩:=Go.Conc.mem_ofEvents hop;exact⟨touch_mute (hm e x),low_mute (hm e x) B⟩) ⟨by rw[Deaf_other t hia _ Ea];exact h.ha,by rw[Deaf_other t hib _ Ea];exact h.hb⟩
theorem Two.pass {R':Nat->Prop}(h:Two t a b La Lb R B){c k cap:Nat}{f1 f2 f3 f4:FuncId}{p1 p2 p3 p4:String}(hc:c<B)(hR:∀x,R' x->Lb x) :
 Two (t ++#[{ g:=b,fn:=f1,pos:=p1,act:=.send c k },{ g:=a,fn:=f2,pos:=p2,act:=.recv c k cap },{ g:=b,fn:=f3,pos:=p3,act:=.sendDone c k },{ g:=a,fn:=f4,pos:=p4,act:=.recvDone c k }]) a b La (fun x=>Lb x/\¬R' x) (fun x=>R x\/R' x) B:=by
 have hk:∀i,Knows t b i->Knows (t++_) a i:=fun i x=>A30 (c:=c) (k:=k) (cap:=cap) (f1:=f1) (f2:=f2) (f3:=f3) (f4:=f4) (p1:=p1) (p2:=p2) (p3:=p3) (p4:=p4) h.hb h.ha x
 generalize hu:(#[{ g:=b,fn:=f1,pos:=p1,act:=.send c k },{ g:=a,fn:=f2,pos:=p2,act:=.recv c k cap },{ g:=b,fn:=f3,pos:=p3,act:=.sendDone c k },{ g:=a,fn:=f4,pos:=p4,act:=.recvDone c k }]:Trace)=u at hk ⊢
 have hq:∀op∈u,(op.act≠.mark .disable/\op.act≠.mark .enable)/\op.act.touch?=none/\op.act.low B:=by
  intro op hop;rw[<-hu]at hop;simp only[Ajb,Ajf,Aja,Akv]at hop
  rcases hop with rfl|rfl|rfl|rfl<;>exact⟨⟨by simp,by simp⟩,rfl,hc⟩
 have h2:=h.quiet (u:=u) (fun op x=>(hq op x).2) ⟨by rw[G5 t a u fun op x=>(hq op x).1];exact h.ha,by rw[G5 t b u fun op x=>(hq op x).1];exact h.hb⟩
 have old:∀{i x},touchAt (t++u) i=some x->touchAt t i=some x:=by
  intro i x hx
  rcases Ca hx with h1 |⟨op,h1,_,h3⟩
  ·exact h1
  ·rw[(hq op h1).2.1]at h3;cases h3
 refine⟨h2.clean,⟨h2.ma.own,fun i x hx hl hw=>?_⟩,⟨fun i x hx hl=>h2.mb.own i x hx (S6 (fun y z=>z.1) hl),fun i x hx hl hw=>?_⟩,h2.known,h2.over,h2.ha,h2.hb,h2.seen⟩
 ·obtain⟨loc,wr,kd⟩:=x
  have:Gf R loc\/Gf R' loc:=by
   cases loc<;>first|exact hl|exact hl.elim
  rcases this with h1|h1
  ·exact h2.ma.read i _ hx h1 hw
  ·exact hk i (h.mb.own i _ (old hx) (S6 hR h1))
 ·obtain⟨loc,wr,kd⟩:=x
  have:Gf R loc\/Gf R' loc:=by
   cases loc<;>first|exact hl|exact hl.elim
  rcases this with h1|h1
  ·exact h2.mb.read i _ hx h1 hw
  ·exact h2.mb.own i _ hx (S6 hR h1)
end
structure K0 (P:Program)(c a b B0:Nat)(w0:World)(gs:Array Goroutine)(w:World)(t:Trace)(q:Nat->Nat)(La Lb R:Nat->Prop):Prop where
 chan:∃s tm,w.heap[c]?=some (.chan 0 #[] false s s tm)
 ne:a≠b
 lta:a<gs.size
 ltb:b<gs.size
 zero:a=0\/b=0
 old:∀i g,i≠a->i≠b->gs[i]?=some g->QuitsD P (q i) (Deaf t i) g
 above:∀i,gs.size<=i->Deaf t i=0
 low:∀x,La x\/Lb x\/x=c->B0<=x
 da:∀x,La x->¬Lb x/\¬R x/\x≠c/\x<w.heap.size
 db:∀x,Lb x->¬La x/\¬R x/\x≠c/\x<w.heap.size
 dr:∀x,R x->x≠c/\x<w.heap.size
 two:Two t a b La Lb R w.heap.size
 Rf:∀i x,touchAt t i=some x->x.loc≠.obj c
 kept:B0<=w.heap.size /\(∀x,x<B0->w.heap[x]?=w0.heap[x]?)/\w.tape=w0.tape/\w.os=w0.os/\w.output=w0.output
theorem F0 {c:Nat}{t u:Trace}(h:∀i x,touchAt t i=some x->x.loc≠.obj c)(hu:∀op∈u,∀x,op.act.touch?=some x->x.loc≠.obj c):∀i x,touchAt (t++u) i=some x->x.loc≠.obj c:=by
 intro i x hx
 rcases Ca hx with h1 |⟨op,h1,_,h3⟩
 ·exact h i x h1
 ·exact hu op h1 x h3
theorem A72 {c g:Nat}{fn:FuncId}{pos:String}{es:Array Event}{L R:Nat->Prop}(he:∀e∈es,EvC L R e)(hL:¬L c)(hR:¬R c):∀op∈MemOp.ofEvents g fn pos es,∀x,op.act.touch?=some x->x.loc≠.obj c:=by
 intro op hop x hx e;obtain⟨ev,hev,rfl⟩:=Go.Conc.mem_ofEvents hop
 rcases Lf (he ev hev) hx with h |⟨h,_⟩
 ·rw[e]at h;exact hL h
 ·rw[e]at h;exact hR h
def Still (c:Nat)(g:Goroutine):Prop:=g.status=.running\/∃g0 k sh,g=parked g0 #[k] sh/\k.chan=.chan (some c)
theorem Still.woken {P:Program}{c s r:Nat}{tm:Bool}{g g1 g2:Goroutine}{w:World}(h:Still c g)(hc:w.heap[c]?=some (.chan 0 #[] false s r tm)):woken P g1 g2 w g=g:=by
 unfold Go.Conc.woken
 split
 ·rcases h with h |⟨g0,k,sh,rfl,hk⟩
  ·exact again_running _ (.inl h)
  ·exact again_parked_open hk hc
 ·rfl
theorem Still.awake {c:Nat}{g:Goroutine}(h:Still c g):awake g:=by
 rcases h with h |⟨g0,k,sh,rfl,_⟩
 ·exact awake_of (.inl h)
 ·exact awake_of (.inr (.inl rfl))
inductive Z7 
 | recv (z:Value)
 | send (v z:Value)
def Z7.Y5 (c:Nat):Z7->CommCase
 | .recv z=>rcase c z
 | .send v z=>scase c v z
def Z7.shape:Z7->CommShape
 | .recv _=>.recv true
 | .send _ _=>.send
def Gt (P:Program)(m:Bool)(base:List Frame)(c:Nat)(dir:Z7)(fr:Frame)(cs:List Frame):Prop :=
 ∀w,stepG P m (G fr (cs++base)) w=.comm (G fr (cs++base)) #[dir.Y5 c] true dir.shape w #[]
theorem Z7.still (c:Nat)(dir:Z7)(g:Goroutine):Still c (parked g #[dir.Y5 c] dir.shape):=.inr ⟨g,_,_,rfl,by cases dir<;>rfl⟩
section
variable {P : Program} {c a b B0 : Nat} {w0 : World} {gs : Array Goroutine} {w : World} {t : Trace} {q : Nat -> Nat} {La Lb R : Nat -> Prop}
theorem K0.swap (h:K0 P c a b B0 w0 gs w t q La Lb R):K0 P c b a B0 w0 gs w t q Lb La R :=
 ⟨h.chan,h.ne.symm,h.ltb,h.lta,h.zero.symm,fun i g x y=>h.old i g y x,h.above,fun x hx=>h.low x (by rcases hx with hx|hx|hx<;>simp[hx]),h.db,h.da,h.dr,h.two.swap,h.Rf,h.kept⟩
theorem K0.at (h:K0 P c a b B0 w0 gs w t q La Lb R)(d:Nat):K0 P c a b B0 w0 gs (w.at d) t q La Lb R:=⟨h.chan,h.ne,h.lta,h.ltb,h.zero,h.old,h.above,h.low,h.da,h.db,h.dr,h.two,h.Rf,h.kept⟩
theorem K0.awake (h:K0 P c a b B0 w0 gs w t q La Lb R){ga gb:Goroutine}(ha:gs[a]?=some ga)(hb:gs[b]?=some gb)(sa:Still c ga)(sb:Still c gb):∀g∈gs,awake g:=by
 intro g hg;obtain⟨i,hi⟩:=Array.mem_iff_getElem?.1 hg
 by_cases ia:i=a
 ·subst ia;rw[ha]at hi;cases hi;exact sa.awake
 by_cases ib:i=b
 ·subst ib;rw[hb]at hi;cases hi;exact sb.awake
 exact awake_of ((h.old i g ia ib hi).status.elim .inl fun x=>.inr (.inr x))
theorem K0.own (h:K0 P c a b B0 w0 gs w t q La Lb R){ga gb g':Goroutine}(ha:gs[a]?=some ga)(hb:gs[b]?=some gb)(sb:Still c gb){d:Nat}{sl:Option (Nat×Nat)}{w':World}{n:Array Event}{La1:Nat->Prop}
 (hst:stepG P (a == 0) ga (w.at d)=.go g' w' n) (hd:Did La R (w.at d) La1 w' n) :
 ∃gs' ops,runT P (crowd gs (w.at d) sl) a=(.next (crowd gs' w' sl),ops)/\gs'.size=gs.size/\gs'[a]?=some g'/\gs'[b]?=some gb/\K0 P c a b B0 w0 gs' w' (t++ops) q La1 Lb R/\Bp Lb R w w':=by
 have hrun:=runT_crowd_go (P:=P) (sl:=sl) ha hst;have hnew:∀x,La1 x->La x\/w.heap.size<=x:=hd.new;have hsz:w.heap.size<=w'.heap.size:=hd.size;have hkept:∀x,x<w.heap.size->¬La x->w'.heap[x]?=w.heap[x]?:=hd.kept;obtain⟨s,tm,hc⟩:=h.chan;have hclt:c<w.heap.size:=(Ai2.1 hc).1;have hc':w'.heap[c]?=some (.chan 0 #[] false s s tm):=by rw[hkept c hclt fun x=>(h.da c x).2.2.1 rfl];exact hc
 have hne:=h.ne
 refine⟨_,_,hrun,by simp,?_,?_,?_,?_⟩
 ·simp[h.lta]
 ·rw[Ai4 hne,Aj4,hb];simp[sb.woken hc']
 ·refine⟨⟨s,tm,hc'⟩,hne,by simp[h.lta],by simp[h.ltb],h.zero,fun i g ia ib hi=>?_,fun i hi=>?_,fun x hx=>?_,fun x hx=>?_,fun x hx=>?_,fun x hx=>?_,?_,F0 h.Rf (A72 hd.evs (fun x=>?_) fun x=>(h.dr c x).1 rfl),?_⟩
  ·rw[Ai4 (Akx ia),Aj4]at hi;obtain⟨y,hy,rfl⟩:=Aif.1 hi;have hq:=h.old i y ia ib hy;rw[woken_quitsD hq,Deaf_other t (Akx ia) _ Ea]
   exact hq
  ·have hi:gs.size<=i:=by simpa using hi
   rw[Deaf_other t (g':=a) (by have:=h.lta;omega) _ Ea]
   exact h.above i hi
  ·rcases hx with hx|hx|hx
   ·rcases hnew x hx with h1|h1
    ·exact h.low x (.inl h1)
    ·exact Ai5 h.kept.1 h1
   ·exact h.low x (.inr (.inl hx))
   ·exact h.low x (.inr (.inr hx))
  ·rcases hnew x hx with h1|h1
   ·obtain⟨g1,g2,g3,g4⟩:=h.da x h1
    exact⟨g1,g2,g3,hd.lt x hx⟩
   ·exact⟨fun y=>by have:=(h.db x y).2.2.2;omega,fun y=>by have:=(h.dr x y).2;omega,by omega,hd.lt x hx⟩
  ·obtain⟨g1,g2,g3,g4⟩:=h.db x hx
   exact⟨fun y=>by rcases hnew x y with h1|h1;exact g1 h1;omega,g2,g3,by omega⟩
  ·obtain⟨g1,g2⟩:=h.dr x hx
   exact⟨g1,by omega⟩
  ·exact h.two.own hne hd.evs hnew hsz hd.lt (fun x hx=>(h.dr x hx).2) (fun x hx=>⟨(h.da x hx).1,(h.da x hx).2.1⟩) fun x hx=>⟨(h.db x hx).2.2.2,(h.db x hx).2.1⟩
  ·rcases hnew c x with h1|h1
   ·exact(h.da c h1).2.2.1 rfl
   ·omega
  ·obtain⟨k1,k2,k3,k4,k5⟩:=h.kept
   refine⟨by omega,fun x hx=>?_,hd.tape.trans k3,hd.os.1.trans k4,hd.os.2.trans k5⟩
   rw[hkept x (by omega) fun y=>by have:=h.low x (.inl y);omega]
   exact k2 x hx
 ·refine⟨hsz,fun x hx=>?_,hd.os.1,hd.os.2⟩
  rcases hx with hx|hx
  ·obtain⟨g1,g2,g3,g4⟩:=h.db x hx
   exact hkept x g4 g1
  ·exact hkept x (h.dr x hx).2 fun y=>(h.da x y).2.1 hx
theorem K0.slip (h:K0 P c a b B0 w0 gs w t q La Lb R){ga gb g:Goroutine}(ha:gs[a]?=some ga)(hb:gs[b]?=some gb)(sa:Still c ga)(sb:Still c gb){i:Nat}(hi:gs[i]?=some g)(hg:g.status=.running)(ia:i≠a)(ib:i≠b)(d:Nat)(sl:Option (Nat×Nat)) :
 ∃gs' ops q',runT P (crowd gs (w.at d) sl) i=(.next (crowd gs' (w.at d) sl),ops)/\gs'.size=gs.size/\gs'[a]?=some ga/\gs'[b]?=some gb/\K0 P c a b B0 w0 gs' (w.at d) (t++ops) q' La Lb R/\sumTo gs.size q'<sumTo gs.size q:=by
 have hq:=h.old i g ia ib hi;have hlt:i<gs.size:=(Ai2.1 hi).1;obtain⟨s,tm,hc⟩:=h.chan
 have hz:(i == 0)=false:=by
  have:=h.zero;simp;omega
 cases hqi:q i with
 | zero=>rw[hqi]at hq;rw[hq.1]at hg;cases hg
 | succ k =>
   rw[hqi]at hq
   rcases hq with⟨hf,_⟩ |⟨_,g',es,hm,hstp,hq'⟩
   ·rw[hf]at hg;cases hg
   have hrun:=runT_crowd_go (P:=P) (sl:=sl) (i:=i) hi (by rw[hz];exact hstp (w.at d))
   refine⟨_,_,upd q i k,hrun,by simp,?_,?_,?_,?_⟩
   ·rw[Ai4 ia,Aj4,ha];simp[sa.woken (w:=w.at d) hc]
   ·rw[Ai4 ib,Aj4,hb];simp[sb.woken (w:=w.at d) hc]
   ·refine⟨⟨s,tm,hc⟩,h.ne,by simp[h.lta],by simp[h.ltb],h.zero,fun j x ja jb hj=>?_,fun j hj=>?_,h.low,h.da,h.db,h.dr,h.two.mute ia ib hm,F0 h.Rf fun op hop x hx=>(by obtain⟨e,he,rfl⟩:=Go.Conc.mem_ofEvents hop;rw[touch_mute (hm e he)]at hx;cases hx),h.kept⟩
    ·by_cases hji:i=j
     ·subst hji;rw[Aic (by simpa using hlt)]at hj
      obtain rfl:=Ajo hj;rw[upd_same,Deaf_own]
      exact hq'
     ·rw[Ai4 hji,Aj4]at hj;obtain⟨y,hy,rfl⟩:=Aif.1 hj;have hqj:=h.old j y ja jb hy;rw[woken_quitsD hqj,upd_ne q k (Akx hji),Deaf_other t hji _ Ea]
      exact hqj
    ·have hj:gs.size<=j:=by simpa using hj
     rw[Deaf_other t (g':=i) (by omega) _ Ea]
     exact h.above j hj
   ·have:=sumTo_upd q k id hlt;have this:sumTo gs.size (upd q i k)+q i=sumTo gs.size q+k:=this
    omega
theorem K0.Aek (h:K0 P c a b B0 w0 gs w t q La Lb R){gb:Goroutine}(hb:gs[b]?=some gb)(sb:gb.status=.running)(snd:Bool):partners (gs.setIfInBounds a ph) c snd=[]:=by
 refine partners_nil fun j g hj=>?_
 rcases getElem?_stand gs a j g hj with⟨_,rfl⟩ |⟨ja,hj⟩
 ·exact offersAt_ph c snd
 ·by_cases jb:j=b
  ·subst jb;rw[hb]at hj;cases hj
   exact offersAt_of_not_blocked (by rw[sb];simp) c snd
  ·exact offersAt_of_not_blocked (by rcases(h.old j g ja jb hj).status with x|x<;>rw[x]<;>simp) c snd
theorem K0.wait (h:K0 P c a b B0 w0 gs w t q La Lb R){fr:Frame}{cs base:List Frame}{gb:Goroutine}(ha:gs[a]?=some (G fr (cs++base)))(hb:gs[b]?=some gb)(sb:gb.status=.running){dir:Z7}(hst:Gt P (a == 0) base c dir fr cs)(d:Nat)(sl:Option (Nat×Nat)) :
 ∃gs',runT P (crowd gs (w.at d) sl) a=(.next (crowd gs' (w.at d) sl),#[])/\gs'.size=gs.size/\gs'[a]?=some (parked (G fr (cs++base)) #[dir.Y5 c] dir.shape)/\gs'[b]?=some gb/\K0 P c a b B0 w0 gs' (w.at d) t q La Lb R:=by
 obtain⟨s,tm,hc⟩:=h.chan
 have hrun:=crowd_waits (P:=P) (sl:=sl) ha (hst (w.at d)) (fun cc hcc=>by
  have hcc:cc=dir.Y5 c:=by simpa using hcc
  subst hcc;have hp:=fun snd=>h.Aek hb sb snd
  cases dir with
  | recv z=>exact ways_recv_none (w₁:=w.at d) hc (hp true)
  | send v z=>exact ways_send_none (w₁:=w.at d) hc (by simp) (hp false))
 refine⟨_,hrun,by simp,by simp[h.lta],by rw[Ai4 h.ne];exact hb,?_⟩
 refine⟨⟨s,tm,hc⟩,h.ne,by simp[h.lta],by simp[h.ltb],h.zero,fun i g ia ib hi=>?_,fun i hi=>h.above i (by simpa using hi),h.low,h.da,h.db,h.dr,h.two,h.Rf,h.kept⟩
 rw[Ai4 (Akx ia)]at hi
 exact h.old i g ia ib hi
theorem K0.one (h:K0 P c a b B0 w0 gs w t q La Lb R){g0:Goroutine}{dir:Z7}{snd:Bool}(hb:gs[b]?=some (parked g0 #[dir.Y5 c] dir.shape))(hd:offersAt (parked g0 #[dir.Y5 c] dir.shape) c snd=[0]):partners (gs.setIfInBounds a ph) c snd=[(b,0)]:=by
 rw[partners_one (j:=b) (g:=parked g0 #[dir.Y5 c] dir.shape) (by rw[Ai4 h.ne];exact hb) fun k x kb hx=>?_,hd]
 ·rfl
 ·rcases getElem?_stand gs a k x hx with⟨_,rfl⟩ |⟨ka,hk⟩
  ·exact offersAt_ph c snd
  ·exact offersAt_of_not_blocked (by rcases(h.old k x ka kb hk).status with x|x<;>rw[x]<;>simp) c snd
theorem K0.passed (h:K0 P c a b B0 w0 gs w t q La Lb R){R':Nat->Prop}(hR:∀x,R' x->Lb x){s:Nat}{tm:Bool}(hc:w.heap[c]?=some (.chan 0 #[] false s s tm)){gs':Array Goroutine}(hs:gs'.size=gs.size)(ho:∀i,i≠a->i≠b->gs'[i]?=gs[i]?){f1 f2 f3 f4:FuncId}{p1 p2 p3 p4:String}(d:Nat) :
 K0 P c a b B0 w0 gs' ((w.at d).setChan c 0 #[] false (s+1) (s+1) tm) (t ++#[{ g:=b,fn:=f1,pos:=p1,act:=.send c s },{ g:=a,fn:=f2,pos:=p2,act:=.recv c s 0 },{ g:=b,fn:=f3,pos:=p3,act:=.sendDone c s },{ g:=a,fn:=f4,pos:=p4,act:=.recvDone c s }]) q La (fun x=>Lb x/\¬R' x) (fun x=>R x\/R' x):=by
 have hclt:c<w.heap.size:=(Ai2.1 hc).1;have hsz:((w.at d).setChan c 0 #[] false (s+1) (s+1) tm).heap.size=w.heap.size:=by simp[World.setChan,World.at]
 have hget:∀x,x≠c ->((w.at d).setChan c 0 #[] false (s+1) (s+1) tm).heap[x]?=w.heap[x]?:=fun x hx=>by simp[World.setChan,World.at,Akx hx]
 have h2:=h.two.pass (c:=c) (k:=s) (cap:=0) (f1:=f1) (f2:=f2) (f3:=f3) (f4:=f4) (p1:=p1) (p2:=p2) (p3:=p3) (p4:=p4) hclt hR
 have hdeaf:∀i,i≠a->i≠b->Deaf (t ++#[{ g:=b,fn:=f1,pos:=p1,act:=.send c s },{ g:=a,fn:=f2,pos:=p2,act:=.recv c s 0 },{ g:=b,fn:=f3,pos:=p3,act:=.sendDone c s },{ g:=a,fn:=f4,pos:=p4,act:=.recvDone c s }]) i=Deaf t i:=fun i _ _=>G5 t i _ fun op hop=>by
  simp only[Ajb,Ajf,Aja,Akv]at hop
  rcases hop with rfl|rfl|rfl|rfl<;>exact⟨by simp,by simp⟩
 refine⟨⟨s+1,tm,by simp[World.setChan,World.at,hclt]⟩,h.ne,by rw[hs];exact h.lta,by rw[hs];exact h.ltb,h.zero,fun i g ia ib hi=>?_,fun i hi=>?_,fun x hx=>?_,fun x hx=>?_,fun x hx=>?_,fun x hx=>?_,by rw[hsz];exact h2,F0 h.Rf fun op hop x hx=>(by
  simp only[Ajb,Ajf,Aja,Akv]at hop
  rcases hop with rfl|rfl|rfl|rfl<;>cases hx),?_⟩
 ·rw[hdeaf i ia ib]
  exact h.old i g ia ib (by rw[<-ho i ia ib];exact hi)
 ·rw[hs]at hi;rw[hdeaf i (by have:=h.lta;omega) (by have:=h.ltb;omega)]
  exact h.above i hi
 ·exact h.low x (by rcases hx with hx|hx|hx;exact .inl hx;exact .inr (.inl hx.1);exact .inr (.inr hx))
 ·obtain⟨g1,g2,g3,g4⟩:=h.da x hx
  exact⟨fun y=>g1 y.1,fun y=>y.elim g2 fun z=>g1 (hR x z),g3,by rw[hsz];exact g4⟩
 ·obtain⟨g1,g2,g3,g4⟩:=h.db x hx.1
  exact⟨g1,fun y=>y.elim g2 hx.2,g3,by rw[hsz];exact g4⟩
 ·rw[hsz]
  rcases hx with hx|hx
  ·exact h.dr x hx
  ·exact⟨(h.db x (hR x hx)).2.2.1,(h.db x (hR x hx)).2.2.2⟩
 ·obtain⟨k1,k2,k3,k4,k5⟩:=h.kept
  refine⟨by rw[hsz];exact k1,fun x hx=>?_,k3,k4,k5⟩
  rw[hget x (by have:=h.low c (.inr (.inr rfl));omega)]
  exact k2 x hx
end
end Co
namespace Co
open Go.Conc
open Go.ConcN (sumTo upd sumTo_upd upd_ne upd_same)
def Jz (P:Program)(gs:Array Goroutine)(w:World)(sl:Option (Nat×Nat))(t:Trace)(gs':Array Goroutine)(w':World)(sl':Option (Nat×Nat))(t':Trace):Prop :=
 ∃N,runNT P N (crowd gs w sl) t=(.next (crowd gs' w' sl'),t')
theorem Jz.refl {P:Program}{gs:Array Goroutine}{w:World}{sl:Option (Nat×Nat)}{t:Trace}:Jz P gs w sl t gs w sl t:=⟨0,rfl⟩
theorem Jz.head {P:Program}{gs gs1 gs':Array Goroutine}{w w1 w':World}{sl sl1 sl':Option (Nat×Nat)}{t t' ops:Trace}(h:stepT P (crowd gs w sl)=(.next (crowd gs1 w1 sl1),ops))(k:Jz P gs1 w1 sl1 (t++ops) gs' w' sl' t'):Jz P gs w sl t gs' w' sl' t':=by
 obtain⟨N,k⟩:=k
 exact⟨N+1,by simp only[runNT,h];exact k⟩
theorem Jz.trans {P:Program}{gs gs1 gs':Array Goroutine}{w w1 w':World}{sl sl1 sl':Option (Nat×Nat)}{t t1 t':Trace}(h:Jz P gs w sl t gs1 w1 sl1 t1)(k:Jz P gs1 w1 sl1 t1 gs' w' sl' t'):Jz P gs w sl t gs' w' sl' t':=by
 obtain⟨M,h⟩:=h;obtain⟨N,k⟩:=k
 exact⟨M+N,by rw[runNT_add,h];exact k⟩
theorem An {L R:Nat->Prop}{a b c:World}(h:Bp L R a b)(k:Bp L R b c):Bp L R a c :=
 ⟨Ai5 h.1 k.1,fun x hx=>(k.2.1 x hx).trans (h.2.1 x hx),k.2.2.1.trans h.2.2.1,k.2.2.2.trans h.2.2.2⟩
theorem Bo (c:Nat)(fr:Frame)(cs:List Frame):Still c (G fr cs):=.inl rfl
section
variable {P : Program} {c a b B0 : Nat} {w0 : World} {basea baseb : List Frame} {R : Nat -> Prop} {PostA PostB : (Nat -> Prop) -> Frame -> List Frame -> World -> Prop}
theorem Ym {La Lb:Nat->Prop}{fra:Frame}{csa:List Frame}{Wa:World}(hA:Co P (a == 0) basea R PostA La fra csa Wa):∀(gs:Array Goroutine) (w:World) (sl:Option (Nat×Nat)) (t:Trace) (q:Nat->Nat) (gb:Goroutine),
 K0 P c a b B0 w0 gs w t q La Lb R->gs[a]?=some (G fra (csa++basea))->gs[b]?=some gb->Still c gb->gb.status≠.running->Bp La R Wa w ->
 ∃gs' w' sl' t' q' La' fra' csa' Wa',Jz P gs w sl t gs' w' sl' t'/\gs'.size=gs.size/\gs'[a]?=some (G fra' (csa'++basea))/\gs'[b]?=some gb/\PostA La' fra' csa' Wa'/\Bp La' R Wa' w'/\Bp Lb R w w' /\
  K0 P c a b B0 w0 gs' w' t' q' La' Lb R/\∃d sl'',stepT P (crowd gs' w' sl')=runT P (crowd gs' (w'.at d) sl'') a:=by
 induction hA with
 | @stop La fra csa Wa hp =>
   intro gs w sl t q;generalize hM:sumTo gs.size q=M
   induction M using Nat.strongRecOn generalizing gs w sl t q with
   | _ M ihM =>
     intro gb h ha hb sb nb hr;obtain⟨i,g,d,sl',hi,hg,hst⟩:=crowd_pick (P:=P) (w:=w) (sl:=sl) (h.awake ha hb (Bo c _ _) sb) ⟨a,_,ha,rfl⟩
     by_cases ia:i=a
     ·subst ia
      exact⟨gs,w,sl,t,q,La,fra,csa,Wa,.refl,rfl,ha,hb,hp,hr,Bv _ _ _,h,d,sl',hst⟩
     by_cases ib:i=b
     ·subst ib;rw[hb]at hi;cases hi;exact absurd hg nb
     obtain⟨gs1,ops,q1,k1,k2,k3,k4,k5,k6⟩:=h.slip ha hb (Bo c _ _) sb hi hg ia ib d sl';obtain⟨gs',w',sl2,t',q',La',fra',csa',Wa',m1,m2,m3,m4,m5,m6,m7,m8,m9⟩:=ihM _ (by rw[<-hM];exact k6) gs1 (w.at d) sl' (t++ops) q1 (by rw[k2]) gb k5 k3 k4 sb nb (Ak hr d)
     exact⟨gs',w',sl2,t',q',La',fra',csa',Wa',m1.head (hst.trans k1),m2.trans k2,m3,m4,m5,m6,m7,m8,m9⟩
 | @go La fra csa Wa f1 c1 w1 n1 L1 hstep _ ih =>
   intro gs w sl t q;generalize hM:sumTo gs.size q=M
   induction M using Nat.strongRecOn generalizing gs w sl t q with
   | _ M ihM =>
     intro gb h ha hb sb nb hr;obtain⟨i,g,d,sl',hi,hg,hst⟩:=crowd_pick (P:=P) (w:=w) (sl:=sl) (h.awake ha hb (Bo c _ _) sb) ⟨a,_,ha,rfl⟩
     by_cases ia:i=a
     ·subst ia;obtain⟨e1,e2⟩:=hstep (w.at d) (Ak hr d);obtain⟨gs1,ops,k1,k2,k3,k4,k5,k6⟩:=h.own ha hb sb (sl:=sl') e1 e2;obtain⟨gs',w',sl2,t',q',La',fra',csa',Wa',m1,m2,m3,m4,m5,m6,m7,m8,m9⟩:=ih (w.at d) (Ak hr d) gs1 _ sl' (t++ops) q gb k5 k3 k4 sb nb (Bv _ _ _)
      exact⟨gs',w',sl2,t',q',La',fra',csa',Wa',m1.head (hst.trans k1),m2.trans k2,m3,m4,m5,m6,An k6 m7,m8,m9⟩
     by_cases ib:i=b
     ·subst ib;rw[hb]at hi;cases hi;exact absurd hg nb
     obtain⟨gs1,ops,q1,k1,k2,k3,k4,k5,k6⟩:=h.slip ha hb (Bo c _ _) sb hi hg ia ib d sl';obtain⟨gs',w',sl2,t',q',La',fra',csa',Wa',m1,m2,m3,m4,m5,m6,m7,m8,m9⟩:=ihM _ (by rw[<-hM];exact k6) gs1 (w.at d) sl' (t++ops) q1 (by rw[k2]) gb k5 k3 k4 sb nb (Ak hr d)
     exact⟨gs',w',sl2,t',q',La',fra',csa',Wa',m1.head (hst.trans k1),m2.trans k2,m3,m4,m5,m6,m7,m8,m9⟩
theorem A5l {La:Nat->Prop}{fra:Frame}{csa:List Frame}{Wa:World}(hA:Co P (a == 0) basea R PostA La fra csa Wa):∀{Lb:Nat->Prop} {frb:Frame} {csb:List Frame} {Wb:World},Co P (b == 0) baseb R PostB Lb frb csb Wb ->
 ∀(gs:Array Goroutine) (w:World) (sl:Option (Nat×Nat)) (t:Trace) (q:Nat->Nat),
 K0 P c a b B0 w0 gs w t q La Lb R->gs[a]?=some (G fra (csa++basea))->gs[b]?=some (G frb (csb++baseb))->Bp La R Wa w->Bp Lb R Wb w ->
 ∃gs' w' sl' t' q' La' fra' csa' Wa' Lb' frb' csb' Wb',Jz P gs w sl t gs' w' sl' t'/\gs'.size=gs.size/\gs'[a]?=some (G fra' (csa'++basea))/\gs'[b]?=some (G frb' (csb'++baseb))/\Bp La' R Wa' w'/\Bp Lb' R Wb' w' /\
  K0 P c a b B0 w0 gs' w' t' q' La' Lb' R /\((PostA La' fra' csa' Wa'/\Co P (b == 0) baseb R PostB Lb' frb' csb' Wb'/\∃d sl'',stepT P (crowd gs' w' sl')=runT P (crowd gs' (w'.at d) sl'') a) \/
   (PostB Lb' frb' csb' Wb'/\Co P (a == 0) basea R PostA La' fra' csa' Wa'/\∃d sl'',stepT P (crowd gs' w' sl')=runT P (crowd gs' (w'.at d) sl'') b)):=by
 induction hA with
 | @stop La fra csa Wa hp =>
   intro Lb frb csb Wb hB
   induction hB with
   | @stop Lb frb csb Wb hpb =>
     intro gs w sl t q;generalize hM:sumTo gs.size q=M
     induction M using Nat.strongRecOn generalizing gs w sl t q with
     | _ M ihM =>
       intro h ha hb hr hrb;obtain⟨i,g,d,sl',hi,hg,hst⟩:=crowd_pick (P:=P) (w:=w) (sl:=sl) (h.awake ha hb (Bo c _ _) (Bo c _ _)) ⟨a,_,ha,rfl⟩
       by_cases ia:i=a
       ·subst ia
        exact⟨gs,w,sl,t,q,La,fra,csa,Wa,Lb,frb,csb,Wb,.refl,rfl,ha,hb,hr,hrb,h,.inl ⟨hp,.stop hpb,d,sl',hst⟩⟩
       by_cases ib:i=b
       ·subst ib
        exact⟨gs,w,sl,t,q,La,fra,csa,Wa,Lb,frb,csb,Wb,.refl,rfl,ha,hb,hr,hrb,h,.inr ⟨hpb,.stop hp,d,sl',hst⟩⟩
       obtain⟨gs1,ops,q1,k1,k2,k3,k4,k5,k6⟩:=h.slip ha hb (Bo c _ _) (Bo c _ _) hi hg ia ib d sl';obtain⟨gs',w',sl2,t',q',La',fra',csa',Wa',Lb',frb',csb',Wb',m1,m2,m3⟩:=ihM _ (by rw[<-hM];exact k6) gs1 (w.at d) sl' (t++ops) q1 (by rw[k2]) k5 k3 k4 (Ak hr d) (Ak hrb d)
       exact⟨gs',w',sl2,t',q',La',fra',csa',Wa',Lb',frb',csb',Wb',m1.head (hst.trans k1),m2.trans k2,m3⟩
   | @go Lb frb csb Wb f1 c1 w1 n1 L1 hstep hnext ih =>
     intro gs w sl t q;generalize hM:sumTo gs.size q=M
     induction M using Nat.strongRecOn generalizing gs w sl t q with
     | _ M ihM =>
       intro h ha hb hr hrb;obtain⟨i,g,d,sl',hi,hg,hst⟩:=crowd_pick (P:=P) (w:=w) (sl:=sl) (h.awake ha hb (Bo c _ _) (Bo c _ _)) ⟨a,_,ha,rfl⟩
       by_cases ia:i=a
       ·subst ia
        exact⟨gs,w,sl,t,q,La,fra,csa,Wa,Lb,frb,csb,Wb,.refl,rfl,ha,hb,hr,hrb,h,.inl ⟨hp,.go f1 c1 w1 n1 L1 hstep hnext,d,sl',hst⟩⟩
       by_cases ib:i=b
       ·subst ib;obtain⟨e1,e2⟩:=hstep (w.at d) (Ak hrb d);obtain⟨gs1,ops,k1,k2,k3,k4,k5,k6⟩:=h.swap.own hb ha (Bo c _ _) (sl:=sl') e1 e2;obtain⟨gs',w',sl2,t',q',La',fra',csa',Wa',Lb',frb',csb',Wb',m1,m2,m3⟩:=ih (w.at d) (Ak hrb d) gs1 _ sl' (t++ops) q k5.swap k4 k3 (An hr k6) (Bv _ _ _)
        exact⟨gs',w',sl2,t',q',La',fra',csa',Wa',Lb',frb',csb',Wb',m1.head (hst.trans k1),m2.trans k2,m3⟩
       obtain⟨gs1,ops,q1,k1,k2,k3,k4,k5,k6⟩:=h.slip ha hb (Bo c _ _) (Bo c _ _) hi hg ia ib d sl';obtain⟨gs',w',sl2,t',q',La',fra',csa',Wa',Lb',frb',csb',Wb',m1,m2,m3⟩:=ihM _ (by rw[<-hM];exact k6) gs1 (w.at d) sl' (t++ops) q1 (by rw[k2]) k5 k3 k4 (Ak hr d) (Ak hrb d)
       exact⟨gs',w',sl2,t',q',La',fra',csa',Wa',Lb',frb',csb',Wb',m1.head (hst.trans k1),m2.trans k2,m3⟩
 | @go La fra csa Wa f1a c1a w1a n1a L1a hstepa hnexta iha =>
   intro Lb frb csb Wb hB
   induction hB with
   | @stop Lb frb csb Wb hpb =>
     intro gs w sl t q;generalize hM:sumTo gs.size q=M
     induction M using Nat.strongRecOn generalizing gs w sl t q with
     | _ M ihM =>
       intro h ha hb hr hrb;obtain⟨i,g,d,sl',hi,hg,hst⟩:=crowd_pick (P:=P) (w:=w) (sl:=sl) (h.awake ha hb (Bo c _ _) (Bo c _ _)) ⟨a,_,ha,rfl⟩
       by_cases ia:i=a
       ·subst ia;obtain⟨e1,e2⟩:=hstepa (w.at d) (Ak hr d);obtain⟨gs1,ops,k1,k2,k3,k4,k5,k6⟩:=h.own ha hb (Bo c _ _) (sl:=sl') e1 e2;obtain⟨gs',w',sl2,t',q',La',fra',csa',Wa',Lb',frb',csb',Wb',m1,m2,m3⟩:=iha (w.at d) (Ak hr d) (.stop hpb) gs1 _ sl' (t++ops) q k5 k3 k4 (Bv _ _ _) (An hrb k6)
        exact⟨gs',w',sl2,t',q',La',fra',csa',Wa',Lb',frb',csb',Wb',m1.head (hst.trans k1),m2.trans k2,m3⟩
       by_cases ib:i=b
       ·subst ib
        exact⟨gs,w,sl,t,q,La,fra,csa,Wa,Lb,frb,csb,Wb,.refl,rfl,ha,hb,hr,hrb,h,.inr ⟨hpb,.go f1a c1a w1a n1a L1a hstepa hnexta,d,sl',hst⟩⟩
       obtain⟨gs1,ops,q1,k1,k2,k3,k4,k5,k6⟩:=h.slip ha hb (Bo c _ _) (Bo c _ _) hi hg ia ib d sl';obtain⟨gs',w',sl2,t',q',La',fra',csa',Wa',Lb',frb',csb',Wb',m1,m2,m3⟩:=ihM _ (by rw[<-hM];exact k6) gs1 (w.at d) sl' (t++ops) q1 (by rw[k2]) k5 k3 k4 (Ak hr d) (Ak hrb d)
       exact⟨gs',w',sl2,t',q',La',fra',csa',Wa',Lb',frb',csb',Wb',m1.head (hst.trans k1),m2.trans k2,m3⟩
   | @go Lb frb csb Wb f1 c1 w1 n1 L1 hstep hnext ih =>
     intro gs w sl t q;generalize hM:sumTo gs.size q=M
     induction M using Nat.strongRecOn generalizing gs w sl t q with
     | _ M ihM =>
       intro h ha hb hr hrb;obtain⟨i,g,d,sl',hi,hg,hst⟩:=crowd_pick (P:=P) (w:=w) (sl:=sl) (h.awake ha hb (Bo c _ _) (Bo c _ _)) ⟨a,_,ha,rfl⟩
       by_cases ia:i=a
       ·subst ia;obtain⟨e1,e2⟩:=hstepa (w.at d) (Ak hr d);obtain⟨gs1,ops,k1,k2,k3,k4,k5,k6⟩:=h.own ha hb (Bo c _ _) (sl:=sl') e1 e2;obtain⟨gs',w',sl2,t',q',La',fra',csa',Wa',Lb',frb',csb',Wb',m1,m2,m3⟩:=iha (w.at d) (Ak hr d) (.go f1 c1 w1 n1 L1 hstep hnext) gs1 _ sl' (t++ops) q k5 k3 k4 (Bv _ _ _) (An hrb k6)
        exact⟨gs',w',sl2,t',q',La',fra',csa',Wa',Lb',frb',csb',Wb',m1.head (hst.trans k1),m2.trans k2,m3⟩
       by_cases ib:i=b
       ·subst ib;obtain⟨e1,e2⟩:=hstep (w.at d) (Ak hrb d);obtain⟨gs1,ops,k1,k2,k3,k4,k5,k6⟩:=h.swap.own hb ha (Bo c _ _) (sl:=sl') e1 e2;obtain⟨gs',w',sl2,t',q',La',fra',csa',Wa',Lb',frb',csb',Wb',m1,m2,m3⟩:=ih (w.at d) (Ak hrb d) gs1 _ sl' (t++ops) q k5.swap k4 k3 (An hr k6) (Bv _ _ _)
        exact⟨gs',w',sl2,t',q',La',fra',csa',Wa',Lb',frb',csb',Wb',m1.head (hst.trans k1),m2.trans k2,m3⟩
       obtain⟨gs1,ops,q1,k1,k2,k3,k4,k5,k6⟩:=h.slip ha hb (Bo c _ _) (Bo c _ _) hi hg ia ib d sl';obtain⟨gs',w',sl2,t',q',La',fra',csa',Wa',Lb',frb',csb',Wb',m1,m2,m3⟩:=ihM _ (by rw[<-hM];exact k6) gs1 (w.at d) sl' (t++ops) q1 (by rw[k2]) k5 k3 k4 (Ak hr d) (Ak hrb d)
       exact⟨gs',w',sl2,t',q',La',fra',csa',Wa',Lb',frb',csb',Wb',m1.head (hst.trans k1),m2.trans k2,m3⟩
theorem Ls {L:Nat->Prop}{W w:World}{s:Nat}{tm:Bool}{d:Nat}(h:Bp L R W w)(hL:∀x,L x\/R x->x≠c):Bp L R W ((w.at d).setChan c 0 #[] false s s tm) :=
 ⟨by simpa [World.setChan,World.at]using h.1,fun x hx=>by simpa [World.setChan,World.at,Akx (hL x hx)]using h.2.1 x hx,h.2.2.1,h.2.2.2⟩
theorem meet {z:Value}{KA:(Nat->Prop)->Frame->List Frame->World->Prop}{KB:Value ->(Nat->Prop)->Frame->List Frame->World->Prop}{La Lb:Nat->Prop}{fra frb:Frame}{csa csb:List Frame}{Wa Wb:World}
 (hA:Co P (a == 0) basea R (fun L fr cs W=>Gt P (a == 0) basea c (.recv z) fr cs/\KA L fr cs W) La fra csa Wa)
 (hB:Co P (b == 0) baseb R (fun L fr cs W=>∃v z',Gt P (b == 0) baseb c (.send v z') fr cs/\KB v L fr cs W) Lb frb csb Wb)
 {gs:Array Goroutine} {w:World} {sl:Option (Nat×Nat)} {t:Trace} {q:Nat->Nat}
 (h:K0 P c a b B0 w0 gs w t q La Lb R) (ha:gs[a]?=some (G fra (csa++basea))) (hb:gs[b]?=some (G frb (csb++baseb))) (hra:Bp La R Wa w) (hrb:Bp Lb R Wb w) :
 ∃gs' w' sl' t' q' La' fra' csa' Wa' Lb' frb' csb' Wb' v,Jz P gs w sl t gs' w' sl' t'/\gs'.size=gs.size/\gs'[a]?=some (G (fra'.finish (.tuple #[v,.bool true])) (csa'++basea))/\gs'[b]?=some (G (frb'.finish undef) (csb'++baseb)) /\
  Bp La' R Wa' w'/\Bp Lb' R Wb' w'/\KA La' fra' csa' Wa'/\KB v Lb' frb' csb' Wb' /\
  ∀R':Nat->Prop,(∀x,R' x->Lb' x)->K0 P c a b B0 w0 gs' w' t' q' La' (fun x=>Lb' x/\¬R' x) (fun x=>R x\/R' x):=by
 obtain⟨gs1,w1,sl1,t1,q1,La1,fra1,csa1,Wa1,Lb1,frb1,csb1,Wb1,m1,m2,m3,m4,m5,m6,m7,m8⟩:=A5l hA hB gs w sl t q h ha hb hra hrb
 rcases m8 with⟨⟨hsa,hka⟩,hB1,d,sl2,hst⟩ |⟨⟨v,z',hsb,hkb⟩,hA1,d,sl2,hst⟩
 ·
  obtain⟨gs2,n1,n2,n3,n4,n5⟩:=m7.wait m3 m4 rfl hsa d sl2;obtain⟨gs3,w3,sl3,t3,q3,Lb3,frb3,csb3,Wb3,o1,o2,o3,o4,⟨v,z',hsb,hkb⟩,o6,o7,o8,d3,sl4,o9⟩:=Ym hB1 gs2 (w1.at d) sl2 t1 q1 _ n5.swap n4 n3 (Z7.still _ _ _) (by simp[parked]) (Ak m6 d)
  obtain⟨s,tm,hc⟩:=o8.chan;have hpart:=o8.one (snd:=false) o4 (by simpa [Z7.Y5,Z7.shape]using offersAt_parked_recv (G fra1 (csa1++basea)) c z (.recv true) c)
  have hrun:=crowd_send_meets (P:=P) (sl:=sl4) o3 (hsb (w3.at d3)) hc o8.ne.symm o4 hpart;have hra3:Bp La1 R Wa1 w3:=An (Ak m5 d) o7
  refine⟨_,_,sl4,t3++_,q3,La1,fra1,csa1,Wa1,Lb3,frb3,csb3,Wb3,v,m1.trans (Jz.head (ops:=#[]) (hst.trans n1) (by rw[Array.append_empty];exact o1.trans (Jz.head (o9.trans hrun) .refl))),by simp[o2,n2,m2],?_,?_,Ls hra3 (fun x hx=>hx.elim (fun y=>(o8.db x y).2.2.1) fun y=>(o8.dr x y).1),Ls o6 (fun x hx=>hx.elim (fun y=>(o8.da x y).2.2.1) fun y=>(o8.dr x y).1),hka,hkb,fun R' hR'=>?_⟩
  ·have:=o8.ltb;rw[Ai4 o8.ne,Aic this]
   rfl
  ·rw[Aic (by simpa using o8.lta)]
   rfl
  ·exact K0.passed o8.swap hR' hc (gs':=_) (by simp) (fun i ia ib=>by rw[Ai4 (Akx ib),Ai4 (Akx ia)]) d3
 ·
  obtain⟨gs2,n1,n2,n3,n4,n5⟩:=m7.swap.wait m4 m3 rfl hsb d sl2;obtain⟨gs3,w3,sl3,t3,q3,La3,fra3,csa3,Wa3,o1,o2,o3,o4,⟨hsa,hka⟩,o6,o7,o8,d3,sl4,o9⟩:=Ym hA1 gs2 (w1.at d) sl2 t1 q1 _ n5.swap n4 n3 (Z7.still _ _ _) (by simp[parked]) (Ak m5 d)
  obtain⟨s,tm,hc⟩:=o8.chan;have hpart:=o8.one (snd:=true) o4 (by simpa [Z7.Y5,Z7.shape]using offersAt_parked_send (G frb1 (csb1++baseb)) c v z' .send c)
  have hrun:=crowd_recv_meets (P:=P) (sl:=sl4) o3 (hsa (w3.at d3)) hc o8.ne.symm o4 hpart;have hrb3:Bp Lb1 R Wb1 w3:=An (Ak m6 d) o7
  refine⟨_,_,sl4,t3++_,q3,La3,fra3,csa3,Wa3,Lb1,frb1,csb1,Wb1,v,m1.trans (Jz.head (ops:=#[]) (hst.trans n1) (by rw[Array.append_empty];exact o1.trans (Jz.head (o9.trans hrun) .refl))),by simp[o2,n2,m2],?_,?_,Ls o6 (fun x hx=>hx.elim (fun y=>(o8.da x y).2.2.1) fun y=>(o8.dr x y).1),Ls hrb3 (fun x hx=>hx.elim (fun y=>(o8.db x y).2.2.1) fun y=>(o8.dr x y).1),hka,hkb,fun R' hR'=>?_⟩
  ·rw[Aic (by simpa using o8.lta)]
   rfl
  ·have:=o8.ltb;rw[Ai4 o8.ne,Aic this]
   rfl
  ·exact K0.passed o8 hR' hc (gs':=_) (by simp) (fun i ia ib=>by rw[Ai4 (Akx ia),Ai4 (Akx ib)]) d3
end
end Co
namespace Co
open Go.Conc
open Go.ConcN (sumTo upd sumTo_upd upd_ne upd_same)
structure Shut (P:Program)(c p B0:Nat)(w0:World)(gs:Array Goroutine)(w:World)(t:Trace)(q:Nat->Nat)(La R:Nat->Prop):Prop where
 chan:∃s r tm,w.heap[c]?=some (.chan 0 #[] true s r tm)
 lt:0<gs.size
 old:∀i g,i≠0->gs[i]?=some g->QuitsD P (q i) (Deaf t i) g
 above:∀i,gs.size<=i->Deaf t i=0
 low:∀x,La x\/x=c->B0<=x
 da:∀x,La x->¬R x/\x≠c/\x<w.heap.size
 dr:∀x,R x->x≠c/\x<w.heap.size
 clean:∀said,¬Race said t
 ma:U1 t 0 La R
 known:∀i x,touchAt t i=some x->x.loc.isMemory=true->Knows t 0 i\/Before t i p
 over:∀i g,t.g? i=some g->g≠0->t.counts i ->(∃k,t.g? k=some 0/\HappensBefore t i k)\/Before t i p
 close:∃x,t[p]?=some x/\x.act=.close c/\t.heard p
 hears:Deaf t 0=0
 seen:∀op∈t,op.act.low w.heap.size
 kept:B0<=w.heap.size /\(∀x,x<B0->w.heap[x]?=w0.heap[x]?)/\w.tape=w0.tape/\w.os=w0.os/\w.output=w0.output
section
variable {P : Program} {c p B0 : Nat} {w0 : World} {gs : Array Goroutine} {w : World} {t : Trace} {q : Nat -> Nat} {La R : Nat -> Prop}
theorem Ny {u:Trace}(h:∀i g,t.g? i=some g->g≠0->t.counts i ->(∃k,t.g? k=some 0/\HappensBefore t i k)\/Before t i p)(hu:∀op∈u,op.g=0\/op.act.touch?=none) :
 ∀i g,(t++u).g? i=some g->g≠0 ->(t++u).counts i ->(∃k,(t++u).g? k=some 0/\HappensBefore (t++u) i k)\/Before (t++u) i p:=by
 intro i g hg ha hc;obtain⟨x,hx,_⟩:=hc;obtain⟨op,hop,hox⟩:=touch_of hx
 rcases getElem?_append_cases hop with⟨hi,hop'⟩ |⟨_,hopu⟩
 ·rcases h i g (by simpa [Trace.g?,getElem?_append_old hi]using hg) ha ((counts_old hi).1 ⟨x,hx,‹_›⟩)with⟨j,hj,hbf⟩|h1
  ·have hjl:j<t.size:=by
    unfold Trace.g? at hj;obtain⟨z,hz,_⟩:=Aif.1 hj
    exact lt_size_of_getElem? hz
   exact .inl ⟨j,by simpa [Trace.g?,getElem?_append_old hjl]using hj,hb_app u hbf⟩
  ·exact .inr (h1.app u)
 ·rcases hu op hopu with h0|h0
  ·exact absurd (by simpa [Trace.g?,hop,h0]using hg.symm) ha
  ·rw[h0]at hox;cases hox
theorem Mh {u:Trace}(h:∀i x,touchAt t i=some x->x.loc.isMemory=true->Knows t 0 i\/Before t i p)(hu:∀op∈u,op.g=0\/op.act.touch?=none) :
 ∀i x,touchAt (t++u) i=some x->x.loc.isMemory=true->Knows (t++u) 0 i\/Before (t++u) i p:=by
 intro i x hx hm
 rcases Ca hx with h1 |⟨op,h1,h2,h3⟩
 ·exact(h i x h1 hm).imp (·.app u) (·.app u)
 ·rcases hu op h1 with h0|h0
  ·exact .inl (h0▸knows_own h2)
  ·rw[h0]at h3;cases h3
theorem Zp {u:Trace}(h:∃x,t[p]?=some x/\x.act=.close c/\t.heard p):∃x,(t++u)[p]?=some x/\x.act=.close c /\(t++u).heard p:=by
 obtain⟨x,h1,h2,h3⟩:=h;have hlt:=lt_size_of_getElem? h1
 exact⟨x,by rw[getElem?_append_old hlt];exact h1,h2,(heard_old hlt).2 h3⟩
theorem Shut.awake (h:Shut P c p B0 w0 gs w t q La R){ga:Goroutine}(ha:gs[0]?=some ga)(sa:ga.status=.running):∀g∈gs,awake g:=by
 intro g hg;obtain⟨i,hi⟩:=Array.mem_iff_getElem?.1 hg
 by_cases ia:i=0
 ·subst ia;rw[ha]at hi;cases hi;exact awake_of (.inl sa)
 exact awake_of ((h.old i g ia hi).status.elim .inl fun x=>.inr (.inr x))
theorem Shut.own (h:Shut P c p B0 w0 gs w t q La R){ga g':Goroutine}(ha:gs[0]?=some ga){d:Nat}{sl:Option (Nat×Nat)}{w':World}{n:Array Event}{La1:Nat->Prop}
 (hst:stepG P true ga (w.at d)=.go g' w' n) (hd:Did La R (w.at d) La1 w' n) :
 ∃gs' ops,runT P (crowd gs (w.at d) sl) 0=(.next (crowd gs' w' sl),ops)/\gs'.size=gs.size/\gs'[0]?=some g'/\Shut P c p B0 w0 gs' w' (t++ops) q La1 R:=by
 have hrun:=runT_crowd_go (P:=P) (sl:=sl) ha (show stepG P (0 == 0) ga (w.at d)=_ from hst);have hnew:∀x,La1 x->La x\/w.heap.size<=x:=hd.new;have hsz:w.heap.size<=w'.heap.size:=hd.size;have hkept:∀x,x<w.heap.size->¬La x->w'.heap[x]?=w.heap[x]?:=hd.kept;obtain⟨s,r,tm,hc⟩:=h.chan;have hclt:c<w.heap.size:=(Ai2.1 hc).1;have hEv:∀e∈n,EvL (fun _=>False) w'.heap.size e:=fun e x=>Ng (hd.evs e x) hd.lt fun b hb=>Ai9 (h.dr b hb).2 hsz
 have hf:U1 t 0 La1 R:=h.ma.fresh h.seen hnew
 refine⟨_,_,hrun,by simp,by simp[h.lt],?_⟩
 refine⟨⟨s,r,tm,?_⟩,by simp[h.lt],fun i g ia hi=>?_,fun i hi=>?_,fun x hx=>?_,fun x hx=>?_,fun x hx=>?_,hf.noRace h.clean hd.evs,hf.self,Mh h.known fun op hop=>.inl (Ea op hop),Ny h.over fun op hop=>.inl (Ea op hop),Zp h.close,?_,?_,?_⟩
 ·rw[hkept c hclt fun x=>(h.da c x).2.1 rfl];exact hc
 ·rw[Ai4 (Akx ia),Aj4]at hi;obtain⟨y,hy,rfl⟩:=Aif.1 hi;have hq:=h.old i y ia hy;rw[woken_quitsD hq,Deaf_other t (Akx ia) _ Ea]
  exact hq
 ·have hi:gs.size<=i:=by simpa using hi
  rw[Deaf_other t (g':=0) (by have:=h.lt;omega) _ Ea]
  exact h.above i hi
 ·rcases hx with hx|hx
  ·rcases hnew x hx with h1|h1
   ·exact h.low x (.inl h1)
   ·exact Ai5 h.kept.1 h1
  ·exact h.low x (.inr hx)
 ·rcases hnew x hx with h1|h1
  ·obtain⟨g1,g2,g3⟩:=h.da x h1
   exact⟨g1,g2,hd.lt x hx⟩
  ·exact⟨fun y=>by have:=(h.dr x y).2;omega,by omega,hd.lt x hx⟩
 ·obtain⟨g1,g2⟩:=h.dr x hx
  exact⟨g1,by omega⟩
 ·rw[Deaf_own,deafBehind_still (fun e x=>⟨(hEv e x).2.1,(hEv e x).2.2.1⟩)]
  exact h.hears
 ·exact seen_app (fun op hop=>MemAct.low_mono hsz (h.seen op hop)) fun op hop=>by obtain⟨e,x,rfl⟩:=Go.Conc.mem_ofEvents hop;exact(hEv e x).2.2.2
 ·obtain⟨k1,k2,k3,k4,k5⟩:=h.kept
  refine⟨by omega,fun x hx=>?_,hd.tape.trans k3,hd.os.1.trans k4,hd.os.2.trans k5⟩
  rw[hkept x (by omega) fun y=>by have:=h.low x (.inl y);omega]
  exact k2 x hx
theorem Shut.slip (h:Shut P c p B0 w0 gs w t q La R){ga g:Goroutine}(ha:gs[0]?=some ga)(sa:ga.status=.running){i:Nat}(hi:gs[i]?=some g)(hg:g.status=.running)(ia:i≠0)(d:Nat)(sl:Option (Nat×Nat)) :
 ∃gs' ops q',runT P (crowd gs (w.at d) sl) i=(.next (crowd gs' (w.at d) sl),ops)/\gs'.size=gs.size/\gs'[0]?=some ga/\Shut P c p B0 w0 gs' (w.at d) (t++ops) q' La R/\sumTo gs.size q'<sumTo gs.size q:=by
 have hq:=h.old i g ia hi;have hlt:i<gs.size:=(Ai2.1 hi).1;have hz:(i == 0)=false:=by simp;omega
 cases hqi:q i with
 | zero=>rw[hqi]at hq;rw[hq.1]at hg;cases hg
 | succ k =>
   rw[hqi]at hq
   rcases hq with⟨hf,_⟩ |⟨_,g',es,hm,hstp,hq'⟩
   ·rw[hf]at hg;cases hg
   have hrun:=runT_crowd_go (P:=P) (sl:=sl) (i:=i) hi (by rw[hz];exact hstp (w.at d))
   have hop:∀op∈MemOp.ofEvents i g.frame.fn g.frame.place es,op.act.touch?=none/\op.act.low w.heap.size:=fun op hop=>by obtain⟨e,x,rfl⟩:=Go.Conc.mem_ofEvents hop;exact⟨touch_mute (hm e x),low_mute (hm e x) _⟩
   refine⟨_,_,upd q i k,hrun,by simp,?_,?_,?_⟩
   ·rw[Ai4 ia,Aj4,ha];have:woken P g g' (w.at d) ga=ga:=woken_run sa;simp[this]
   ·refine⟨h.chan,by simp[h.lt],fun j x ja hj=>?_,fun j hj=>?_,h.low,h.da,h.dr,fun said=>noRace_append (h.clean said) Ea fun i a _ op x b hb _=>(by rw[(hop op x).1]at hb;cases hb),h.ma.app fun op x=>(hop op x).1,Mh h.known fun op x=>.inr (hop op x).1,Ny h.over fun op x=>.inr (hop op x).1,Zp h.close,by rw[Deaf_other t ia _ Ea];exact h.hears,seen_app h.seen fun op x=>(hop op x).2,h.kept⟩
    ·by_cases hji:i=j
     ·subst hji;rw[Aic (by simpa using hlt)]at hj
      obtain rfl:=Ajo hj;rw[upd_same,Deaf_own]
      exact hq'
     ·rw[Ai4 hji,Aj4]at hj;obtain⟨y,hy,rfl⟩:=Aif.1 hj;have hqj:=h.old j y ja hy;rw[woken_quitsD hqj,upd_ne q k (Akx hji),Deaf_other t hji _ Ea]
      exact hqj
    ·have hj:gs.size<=j:=by simpa using hj
     rw[Deaf_other t (g':=i) (by omega) _ Ea]
     exact h.above j hj
   ·have:=sumTo_upd q k id hlt;have this:sumTo gs.size (upd q i k)+q i=sumTo gs.size q+k:=this
    omega
theorem Shut.found (h:Shut P c p B0 w0 gs w t q La R){fn:FuncId}{pos:String}{g':Goroutine}{d:Nat} :
 Leavers P (t ++#[{ g:=0,fn:=fn,pos:=pos,act:=.recvClosed c }]) (gs.setIfInBounds 0 g') q/\Past (fun _=>False) (w.at d).heap.size (t ++#[{ g:=0,fn:=fn,pos:=pos,act:=.recvClosed c }]):=by
 obtain⟨x,hx1,hx2,hx3⟩:=h.close;obtain⟨s,r,tm,hc⟩:=h.chan;have hclt:c<w.heap.size:=(Ai2.1 hc).1;have hk:∀i,Before t i p->Knows (t++_) 0 i:=fun i y=>Zr (f1:=fn) (p1:=pos) hx1 hx2 hx3 h.hears y
 have hst:∀g,Deaf (t ++#[{ g:=0,fn:=fn,pos:=pos,act:=.recvClosed c }]) g=Deaf t g:=fun g=>G5 t g _ fun op hop=>by
  simp only[Ajb,Ajf,Aja,Akv]at hop;subst hop;exact⟨by simp,by simp⟩
 generalize hu:(#[{ g:=0,fn:=fn,pos:=pos,act:=.recvClosed c }]:Trace)=u at hk hst ⊢
 have hq:∀op∈u,op.g=0/\op.act.touch?=none/\op.act.low w.heap.size:=by
  intro op hop;rw[<-hu]at hop;simp only[Ajb,Ajf,Aja,Akv]at hop;subst hop
  exact⟨rfl,rfl,hclt⟩
 refine⟨⟨fun i g hi hg=>?_,fun i hi=>?_⟩,fun said=>noRace_append (h.clean said) (fun op y=>(hq op y).1) fun i a _ op y b hb _=>(by rw[(hq op y).2.1]at hb;cases hb),fun i x hx hm=>?_,?_,(hst 0).trans h.hears,seen_app h.seen fun op y=>(hq op y).2.2⟩
 ·rw[Ai4 (by omega)]at hg
  rw[hst]
  exact h.old i g (by omega) hg
 ·rw[hst]
  exact h.above i (by simpa using hi)
 ·rcases Ca hx with h1 |⟨op,h1,_,h3⟩
  ·rcases h.known i x h1 hm with h2|h2
   ·exact .inl (h2.app u)
   ·exact .inl (hk i h2)
  ·rw[(hq op h1).2.1]at h3;cases h3
 ·intro i g hg hne hcn;obtain⟨y,hy,hy2⟩:=hcn;obtain⟨op,hop,hox⟩:=touch_of hy
  rcases getElem?_append_cases hop with⟨hi,hop'⟩ |⟨_,hou⟩
  ·have hg':t.g? i=some g:=by simpa [Trace.g?,getElem?_append_old hi]using hg
   rcases h.over i g hg' hne ((counts_old hi).1 ⟨y,hy,hy2⟩)with⟨k,hk1,hk2⟩|h2
   ·have hkl:k<t.size:=by
     unfold Trace.g? at hk1;obtain⟨z,hz,_⟩:=Aif.1 hk1
     exact lt_size_of_getElem? hz
    exact⟨k,by simpa [Trace.g?,getElem?_append_old hkl]using hk1,hb_app u hk2⟩
   ·obtain⟨k,z,hz1,hz2,hz3⟩:=hk i h2
    refine⟨k,by simp[Trace.g?,hz1,hz2],?_⟩
    rcases hz3 with rfl|hz3
    ·exfalso
     apply hne
     have:(t++u).g? i=some z.g:=by simp[Trace.g?,hz1]
     rw[this]at hg;rw[<-Ajo hg,hz2]
    ·exact hz3
  ·rw[(hq op hou).2.1]at hox;cases hox
theorem A1q {base:List Frame}{z:Value}{K:(Nat->Prop)->Frame->List Frame->World->Prop}{fr:Frame}{cs:List Frame}{W:World}
 (hA:Co P true base R (fun L fr cs W=>Gt P true base c (.recv z) fr cs/\K L fr cs W) La fr cs W):∀(gs:Array Goroutine) (w:World) (sl:Option (Nat×Nat)) (t:Trace) (q:Nat->Nat) (ga:Goroutine),
 Shut P c p B0 w0 gs w t q La R->gs[0]?=some ga->ga.frame=fr->ga.callers=cs++base->ga.status=.running->ga.dying=none->Bp La R W w ->
 ∃gs' w' sl' t' q' La' fr' cs' W',Jz P gs w sl t gs' w' sl' t'/\gs'.size=gs.size/\gs'[0]?=some (G (fr'.finish (.tuple #[z,.bool false])) (cs'++base))/\K La' fr' cs' W'/\Bp La' R W' w'/\Leavers P t' gs' q'/\Past (fun _=>False) w'.heap.size t' /\
  (∀x,La' x\/x=c->B0<=x) /\(∀x,La' x->¬R x/\x≠c/\x<w'.heap.size) /\(∀x,R x->x≠c/\x<w'.heap.size) /\(B0<=w'.heap.size /\(∀x,x<B0->w'.heap[x]?=w0.heap[x]?)/\w'.tape=w0.tape/\w'.os=w0.os/\w'.output=w0.output):=by
 induction hA with
 | @stop La fr cs W hp =>
   intro gs w sl t q;generalize hM:sumTo gs.size q=M
   induction M using Nat.strongRecOn generalizing gs w sl t q with
   | _ M ihM =>
     intro ga h ha e1 e2 e3 e4 hr;obtain⟨i,g,d,sl',hi,hg,hst⟩:=crowd_pick (P:=P) (w:=w) (sl:=sl) (h.awake ha e3) ⟨0,_,ha,e3⟩
     by_cases ia:i=0
     ·subst ia;rw[ha]at hi;obtain rfl:=Ajo hi
      have hstep:stepG P (0 == 0) ga (w.at d)=.comm (G fr (cs++base)) #[rcase c z] true (.recv true) (w.at d) #[]:=by
       rw[stepG_same (h:=G fr (cs++base)) e1 e2 e4]
       exact hp.1 (w.at d)
      obtain⟨s,r,tm,hc⟩:=h.chan
      have hrun:=crowd_recv_closed (P:=P) (sl:=sl') ha hstep hc (partners_nil fun j x hj=>by
       rcases getElem?_stand gs 0 j x hj with⟨_,rfl⟩ |⟨ja,hj⟩
       ·exact offersAt_ph c true
       ·exact offersAt_of_not_blocked (by rcases(h.old j x ja hj).status with x|x<;>rw[x]<;>simp) c true)
      have hf:=h.found (fn:=fr.fn) (pos:=fr.place) (g':=G (fr.finish (.tuple #[z,.bool false])) (cs++base)) (d:=d)
      refine⟨gs.setIfInBounds 0 (G (fr.finish (.tuple #[z,.bool false])) (cs++base)),w.at d,sl',_,q,La,fr,cs,W,.head (hst.trans hrun) ?_,by simp,by simp[h.lt],hp.2,Ak hr d,hf.1,hf.2,h.low,h.da,h.dr,h.kept⟩
      exact .refl
     obtain⟨gs1,ops,q1,k1,k2,k3,k4,k5⟩:=h.slip ha e3 hi hg ia d sl';obtain⟨gs',w',sl2,t',q',La',fr',cs',W',m1,m2,m3⟩:=ihM _ (by rw[<-hM];exact k5) gs1 (w.at d) sl' (t++ops) q1 (by rw[k2]) ga k4 k3 e1 e2 e3 e4 (Ak hr d)
     exact⟨gs',w',sl2,t',q',La',fr',cs',W',m1.head (hst.trans k1),m2.trans k2,m3⟩
 | @go La fr cs W f1 c1 w1 n1 L1 hstep _ ih =>
   intro gs w sl t q;generalize hM:sumTo gs.size q=M
   induction M using Nat.strongRecOn generalizing gs w sl t q with
   | _ M ihM =>
     intro ga h ha e1 e2 e3 e4 hr;obtain⟨i,g,d,sl',hi,hg,hst⟩:=crowd_pick (P:=P) (w:=w) (sl:=sl) (h.awake ha e3) ⟨0,_,ha,e3⟩
     by_cases ia:i=0
     ·subst ia;rw[ha]at hi;obtain rfl:=Ajo hi;obtain⟨g1,g2⟩:=hstep (w.at d) (Ak hr d);have g1':stepG P true ga (w.at d)=_:=(stepG_same (h:=G fr (cs++base)) e1 e2 e4 _).trans g1;obtain⟨gs1,ops,k1,k2,k3,k4⟩:=h.own ha (sl:=sl') g1' g2;obtain⟨gs',w',sl2,t',q',La',fr',cs',W',m1,m2,m3⟩:=ih (w.at d) (Ak hr d) gs1 _ sl' (t++ops) q _ k4 k3 rfl rfl rfl rfl (Bv _ _ _)
      exact⟨gs',w',sl2,t',q',La',fr',cs',W',m1.head (hst.trans k1),m2.trans k2,m3⟩
     obtain⟨gs1,ops,q1,k1,k2,k3,k4,k5⟩:=h.slip ha e3 hi hg ia d sl';obtain⟨gs',w',sl2,t',q',La',fr',cs',W',m1,m2,m3⟩:=ihM _ (by rw[<-hM];exact k5) gs1 (w.at d) sl' (t++ops) q1 (by rw[k2]) ga k4 k3 e1 e2 e3 e4 (Ak hr d)
     exact⟨gs',w',sl2,t',q',La',fr',cs',W',m1.head (hst.trans k1),m2.trans k2,m3⟩
end
def X4 (P:Program)(base:List Frame)(c:Nat)(fr:Frame)(cs:List Frame):Prop :=
 mayWake P (G fr (cs++base))=true/\∃g₂ n,(∀w s r tm,w.heap[c]?=some (.chan 0 #[] false s r tm)->stepG P false (G fr (cs++base)) w=.go g₂ (w.shut c s r tm) #[⟨.obj c,false,true⟩,⟨.obj c,true,true⟩])/\QuitsIn P n g₂
section
variable {P : Program} {c b B0 : Nat} {w0 : World} {gs : Array Goroutine} {w : World} {t : Trace} {q : Nat -> Nat} {La Lb R : Nat -> Prop}
theorem K0.closes (h:K0 P c 0 b B0 w0 gs w t q La Lb R){ga:Goroutine}(ha:gs[0]?=some ga)(sa:ga.status=.running\/∃g0 z,ga=parked g0 #[rcase c z] (.recv true)){frb:Frame}{csb baseb:List Frame}(hb:gs[b]?=some (G frb (csb++baseb)))
 (hcl:X4 P baseb c frb csb) (d:Nat) (sl:Option (Nat×Nat)) :
 ∃gs' w' ops q' p ga',runT P (crowd gs (w.at d) sl) b=(.next (crowd gs' w' sl),ops)/\gs'.size=gs.size/\gs'[0]?=some ga'/\ga'.frame=ga.frame/\ga'.callers=ga.callers/\ga'.status=.running/\ga'.dying=ga.dying/\Shut P c p B0 w0 gs' w' (t++ops) q' La R/\Bp La R w w':=by
 obtain⟨hw,g₂,n,hst,hq⟩:=hcl;obtain⟨s,tm,hc⟩:=h.chan;have hclt:c<w.heap.size:=(Ai2.1 hc).1;have hb0:b≠0:=h.ne.symm;have hz:(b == 0)=false:=by simp;omega
 have hrun:=runT_crowd_go (P:=P) (sl:=sl) hb (by rw[hz];exact hst (w.at d) s s tm hc)
 have hwk:∀o,woken P (G frb (csb++baseb)) g₂ ((w.at d).shut c s s tm) o=o.again ((w.at d).shut c s s tm):=by
  intro o;unfold Go.Conc.woken;rcases hq.status with h|h<;>simp[hw,h]
 have hc2:((w.at d).shut c s s tm).heap[c]?=some (.chan 0 #[] true s s tm):=heap_put (w:=w.at d) hc;have hsz:((w.at d).shut c s s tm).heap.size=w.heap.size:=by simp[World.shut,World.at]
 have hget:∀x,x≠c ->((w.at d).shut c s s tm).heap[x]?=w.heap[x]?:=fun x hx=>by simp[World.shut,World.at,Akx hx]
 obtain⟨fn,hfn⟩:∃fn,fn=(G frb (csb++baseb)).frame.fn:=⟨_,rfl⟩;obtain⟨pos,hpos⟩:∃pos,pos=(G frb (csb++baseb)).frame.place:=⟨_,rfl⟩;rw[<-hfn,<-hpos]at hrun
 have hops:MemOp.ofEvents b fn pos #[⟨.obj c,false,true⟩,⟨.obj c,true,true⟩]=#[{ g:=b,fn:=fn,pos:=pos,act:=.access ⟨.obj c,false,true⟩ },{ g:=b,fn:=fn,pos:=pos,act:=.close c }]:=by
  rw[ofEvents_eq];simp[MemAct.ofEvent]
 rw[hops]at hrun
 have hst2:∀g,Deaf (t ++#[{ g:=b,fn:=fn,pos:=pos,act:=.access ⟨.obj c,false,true⟩ },{ g:=b,fn:=fn,pos:=pos,act:=.close c }]) g=Deaf t g:=fun g=>G5 t g _ fun op hop=>by
  simp only[Ajb,Ajf,Aja,Akv]at hop
  rcases hop with rfl|rfl<;>exact⟨by simp,by simp⟩
 generalize hu:(#[{ g:=b,fn:=fn,pos:=pos,act:=.access ⟨.obj c,false,true⟩ },{ g:=b,fn:=fn,pos:=pos,act:=.close c }]:Trace)=u at hrun hst2;have hu1:u[1]?=some { g:=b,fn:=fn,pos:=pos,act:=.close c }:=by rw[<-hu];rfl
 have hus:u.size=2:=by rw[<-hu];rfl
 have hqu:∀op∈u,op.g=b /\(op.act.touch?=none\/op.act.touch?=some ⟨.obj c,false,.atomic⟩)/\op.act.low w.heap.size/\op.act≠.mark .disable/\op.act≠.mark .enable:=by
  intro op hop;rw[<-hu]at hop;simp only[Ajb,Ajf,Aja,Akv]at hop
  rcases hop with rfl|rfl
  ·exact⟨rfl,.inr rfl,hclt,by simp,by simp⟩
  ·exact⟨rfl,.inl rfl,hclt,by simp,by simp⟩
 have hp:(t++u)[t.size+1]?=some { g:=b,fn:=fn,pos:=pos,act:=.close c }:=by
  rw[Akn (by omega)]
  simpa using hu1
 have hkb:∀i,Knows t b i->Before (t++u) i (t.size+1):=fun i y=>.inr (y.hb_new (by omega) hp rfl)
 have hnew:∀i op,(t++u)[i]?=some op->op∈u->op.act.touch?≠none->Before (t++u) i (t.size+1):=by
  intro i op hi hou hne;have hlt:=lt_size_of_getElem? hi;rw[Array.size_append,hus]at hlt
  by_cases hi1:i=t.size+1
  ·exact .inl hi1
  ·exact .inr (hb_po (by omega) hi hp (hqu op hou).1)
 have hfr:∃ga',ga.again ((w.at d).shut c s s tm)=ga'/\ga'.frame=ga.frame/\ga'.callers=ga.callers/\ga'.status=.running/\ga'.dying=ga.dying:=by
  rcases sa with sa |⟨g0,z,rfl⟩
  ·exact⟨ga,again_running _ (.inl sa),rfl,rfl,sa,rfl⟩
  ·exact⟨_,again_recv_closed hc2,rfl,rfl,rfl,rfl⟩
 obtain⟨ga',f1,f2,f3,f4,f5⟩:=hfr
 refine⟨_,_,u,upd q b n,t.size+1,ga',hrun,by simp,?_,f2,f3,f4,f5,?_,?_⟩
 ·rw[Ai4 hb0,Aj4,ha,Akw,hwk,f1]
 ·refine⟨⟨s,s,tm,hc2⟩,by simp[h.lta],fun i g ia hi=>?_,fun i hi=>?_,fun x hx=>h.low x (hx.imp id .inr),fun x hx=>?_,fun x hx=>?_,fun said=>?_,⟨fun i a ha hl=>?_,fun i a ha hl hwr=>?_⟩,fun i x hx hm=>?_,fun i g hg hne hcn=>?_,⟨_,hp,rfl,?_⟩,(hst2 0).trans h.two.ha,?_,?_⟩
  ·by_cases ib:b=i
   ·subst ib;rw[Aic (by simpa using h.ltb)]at hi
    obtain rfl:=Ajo hi;rw[upd_same,hst2,h.two.hb]
    exact QuitsD.of_quitsIn hq
   ·rw[Ai4 ib,Aj4]at hi;obtain⟨y,hy,rfl⟩:=Aif.1 hi;have hqi:=h.old i y ia (Akx ib) hy;rw[woken_quitsD hqi,hst2,upd_ne q n (Akx ib)]
    exact hqi
  ·rw[hst2]
   exact h.above i (by simpa using hi)
  ·obtain⟨g1,g2,g3,g4⟩:=h.da x hx
   exact⟨g2,g3,by rw[hsz];exact g4⟩
  ·rw[hsz];exact h.dr x hx
  ·refine noRace_append (h.two.clean said) (fun op y=>(hqu op y).1) fun i a ha op y x hx hc=>?_
   rcases(hqu op y).2.1 with h1|h1
   ·rw[h1]at hx;cases hx
   ·rw[h1]at hx;cases hx
    exact absurd hc.1 (h.Rf i a ha)
  ·rcases Ca ha with h1 |⟨op,h1,_,h3⟩
   ·exact(h.two.ma.own i a h1 hl).app u
   ·rcases(hqu op h1).2.1 with h2|h2
    ·rw[h2]at h3;cases h3
    ·rw[h2]at h3;cases h3
     exact absurd rfl (h.da c hl).2.2.1
  ·rcases Ca ha with h1 |⟨op,h1,_,h3⟩
   ·exact(h.two.ma.read i a h1 hl hwr).app u
   ·rcases(hqu op h1).2.1 with h2|h2
    ·rw[h2]at h3;cases h3
    ·rw[h2]at h3;cases h3
     cases hwr
  ·rcases Ca hx with h1 |⟨op,h1,h2,h3⟩
   ·exact(h.two.known i x h1 hm).imp (·.app u) (hkb i)
   ·exact .inr (hnew i op h2 h1 (by rw[h3];simp))
  ·obtain⟨y,hy,hy2⟩:=hcn;obtain⟨op,hop,hox⟩:=touch_of hy
   rcases getElem?_append_cases hop with⟨hi,hop'⟩ |⟨_,hou⟩
   ·have hg':t.g? i=some g:=by simpa [Trace.g?,getElem?_append_old hi]using hg
    by_cases gb:g=b
    ·subst gb
     refine .inr (hkb i ?_)
     have:op.g=g:=by
      have:t.g? i=some op.g:=by simp[Trace.g?,hop']
      rw[this]at hg';exact Ajo hg'
     exact this▸knows_own hop'
    ·obtain⟨k,hk1,hk2⟩:=h.two.over i g hg' hne gb ((counts_old hi).1 ⟨y,hy,hy2⟩)
     have hkl:k<t.size:=by
      unfold Trace.g? at hk1;obtain⟨z,hz,_⟩:=Aif.1 hk1
      exact lt_size_of_getElem? hz
     exact .inl ⟨k,by simpa [Trace.g?,getElem?_append_old hkl]using hk1,hb_app u hk2⟩
   ·exact .inr (hnew i op hop hou (by rw[hox];simp))
  ·exact I8 (t:=t) (fun op y=>(hqu op y).2.2.2) hu1 h.two.hb
  ·rw[hsz];exact seen_app h.two.seen fun op y=>(hqu op y).2.2.1
  ·obtain⟨k1,k2,k3,k4,k5⟩:=h.kept
   refine⟨by rw[hsz];exact k1,fun x hx=>?_,k3,k4,k5⟩
   rw[hget x (by have:=h.low c (.inr (.inr rfl));omega)]
   exact k2 x hx
 ·refine⟨by rw[hsz];exact Ai3 _,fun x hx=>hget x ?_,rfl,rfl⟩
  rcases hx with hx|hx
  ·exact(h.da x hx).2.2.1
  ·exact(h.dr x hx).1
theorem finish {base baseb:List Frame}{z:Value}{K:(Nat->Prop)->Frame->List Frame->World->Prop}{fra frb:Frame}{csa csb:List Frame}{Wa Wb:World}
 (hA:Co P true base R (fun L fr cs W=>Gt P true base c (.recv z) fr cs/\K L fr cs W) La fra csa Wa)
 (hB:Co P false baseb R (fun _ fr cs _=>X4 P baseb c fr cs) Lb frb csb Wb) {sl:Option (Nat×Nat)}
 (h:K0 P c 0 b B0 w0 gs w t q La Lb R) (ha:gs[0]?=some (G fra (csa++base))) (hb:gs[b]?=some (G frb (csb++baseb))) (hra:Bp La R Wa w) (hrb:Bp Lb R Wb w) :
 ∃gs' w' sl' t' q' La' fr' cs' W',Jz P gs w sl t gs' w' sl' t'/\gs'.size=gs.size/\gs'[0]?=some (G (fr'.finish (.tuple #[z,.bool false])) (cs'++base))/\K La' fr' cs' W'/\Bp La' R W' w'/\Leavers P t' gs' q'/\Past (fun _=>False) w'.heap.size t' /\
  (∀x,La' x\/x=c->B0<=x) /\(∀x,La' x->¬R x/\x≠c/\x<w'.heap.size) /\(∀x,R x->x≠c/\x<w'.heap.size) /\(B0<=w'.heap.size /\(∀x,x<B0->w'.heap[x]?=w0.heap[x]?)/\w'.tape=w0.tape/\w'.os=w0.os/\w'.output=w0.output):=by
 have hbz:(b == 0)=false:=by have:=h.ne;simp;omega
 obtain⟨gs1,w1,sl1,t1,q1,La1,fra1,csa1,Wa1,Lb1,frb1,csb1,Wb1,m1,m2,m3,m4,m5,m6,m7,m8⟩:=A5l (a:=0) (b:=b) hA (hbz▸hB) gs w sl t q h ha hb hra hrb
 rcases m8 with⟨⟨hsa,hka⟩,hB1,d,sl2,hst⟩ |⟨hcl,hA1,d,sl2,hst⟩
 ·obtain⟨gs2,n1,n2,n3,n4,n5⟩:=m7.wait m3 m4 rfl hsa d sl2;obtain⟨gs3,w3,sl3,t3,q3,Lb3,frb3,csb3,Wb3,o1,o2,o3,o4,hcl,o6,o7,o8,d3,sl4,o9⟩:=Ym hB1 gs2 (w1.at d) sl2 t1 q1 _ n5.swap n4 n3 (Z7.still _ _ _) (by simp[parked]) (Ak m6 d)
  obtain⟨gs4,w4,ops,q4,p,ga',r1,r2,r3,r4,r5,r6,r7,r8,r9⟩:=o8.swap.closes o4 (.inr ⟨_,z,rfl⟩) o3 hcl d3 sl4;obtain⟨gs',w',sl',t',q',La',fr',cs',W',u1,u2,u3⟩:=A1q (.stop ⟨hsa,hka⟩) gs4 w4 sl4 _ q4 ga' r8 r3 r4 r5 r6 r7 (An (An (Ak m5 d) o7) r9)
  exact⟨gs',w',sl',t',q',La',fr',cs',W',m1.trans (Jz.head (ops:=#[]) (hst.trans n1) (by rw[Array.append_empty];exact o1.trans (Jz.head (o9.trans r1) u1))),by rw[u2,r2,o2,n2,m2],u3⟩
 ·obtain⟨gs4,w4,ops,q4,p,ga',r1,r2,r3,r4,r5,r6,r7,r8,r9⟩:=m7.closes m3 (.inl rfl) m4 hcl d sl2;obtain⟨gs',w',sl',t',q',La',fr',cs',W',u1,u2,u3⟩:=A1q hA1 gs4 w4 sl2 _ q4 ga' r8 r3 r4 r5 r6 r7 (An m5 r9)
  exact⟨gs',w',sl',t',q',La',fr',cs',W',m1.trans (Jz.head (hst.trans r1) u1),by rw[u2,r2,m2],u3⟩
end
end Co
namespace Co
open Go.Conc Tl Lr Bar
def Afv (b:Frame)(H:List Item->Act->World->Prop)(x:St):Prop:=x.cs=[]/\∃t a,x.fr=b.at a t/\H t a x.V
theorem Nd {X:Cx}{P P':Program}(Hw:Whole X P P')(hT:∀f,¬X.T f){H:List Item->Act->World->Prop}(hH:∀t a w τ d,H t a w->H t a { w with tape:=τ,drawn:=d }){m:Bool}{base:List Frame}{b:Frame}{a:Act}{s:List Item}
 {B:Lk} {V W:World} {fr':Frame} (hw:WR X B V W) (hf:Ee X B (b.at a s) fr') (hr:∀τ d,HW P s H a { V with tape:=τ,drawn:=d }) :
 Co P' m base (Ka X B) (M6 X V.heap.size W.heap.size B (Afv b H)) (G2 X B) fr' [] W:=by
 refine A2r Hw hT (F:=Afv b H) (fun x τ d _ ⟨h1,t,a,h2,h3⟩=>⟨h1,t,a,h2,hH _ _ _ _ _ h3⟩) (x:=⟨b.at a s,[],V⟩) hw hf .nil rfl fun τ d=>?_
 obtain⟨t,a',w',h1,n,hn⟩:=hr τ d b [] [wall P];rw[Aly,Aly]at hn
 exact⟨⟨b.at a' t,[],w'⟩,n,⟨rfl,t,a',rfl,h1⟩,hn⟩
end Co
end Go.Proofs.YtlfleicchbgcmaaGreat
