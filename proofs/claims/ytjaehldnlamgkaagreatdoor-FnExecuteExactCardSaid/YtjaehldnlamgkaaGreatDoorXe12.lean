import Derived.Test.YtjaehldnlamgkaaGreatDoorXe11
import Derived.WalkKit
import Derived.WalkSpells
import Derived.WalkLawsBesides
import Derived.Lib.Hide
import Derived.Deep.QuietTactic
import Derived.BigQuiet
import Derived.Test.YtjaehldnlamgkaaGreatDoorXe0
import Derived.Test.YtjaehldnlamgkaaGreatDoorXeK
set_option linter.all false
set_option maxHeartbeats 16000000
set_option maxRecDepth 100000
namespace Go.Proofs.YtjaehldnlamgkaaGreatDoor
namespace Co
open Go.Conc
open Go.ConcN (sumTo upd sumTo_upd upd_ne upd_same)
structure Shut (P:Program)(c p B0:Nat)(w0:World)(gs:Array Goroutine)(w:World)(t:Trace)(q:Nat->Nat)(La R:Nat->Prop):Prop where
 chan:∃s r tm,w.heap[c]?=some (.chan 0 #[] true s r tm)
 lt:0<gs.size
 old:∀i g,i≠0->gs[i]?=some g->QuitsD P (q i) (Deaf t i) g
 above:∀i,gs.size<=i->Deaf t i=0
 low:∀x,La x\/x=c->B0<=x
 da:∀x,La x->¬R x/\x≠c/\x<w.heap.size
 dr:∀x,R x->x≠c/\x<w.heap.size
 clean:∀said,¬Race said t
 ma:Ul t 0 La R
 known:∀i x,touchAt t i=some x->x.loc.isMemory=true->Knows t 0 i\/Before t i p
 over:∀i g,t.g? i=some g->g≠0->t.counts i ->(∃k,t.g? k=some 0/\HappensBefore t i k)\/Before t i p
 close:∃x,t[p]?=some x/\x.act=.close c/\t.heard p
 hears:Deaf t 0=0
 seen:∀op∈t,op.act.low w.heap.size
 kept:B0<=w.heap.size /\(∀x,x<B0->w.heap[x]?=w0.heap[x]?)/\w.tape=w0.tape/\w.os=w0.os/\w.output=w0.output
section
variable {P : Program} {c p B0 : Nat} {w0 : World} {gs : Array Goroutine} {w : World} {t : Trace} {q : Nat -> Nat} {La R : Nat -> Prop}
theorem Nr {u:Trace}(h:∀i g,t.g? i=some g->g≠0->t.counts i ->(∃k,t.g? k=some 0/\HappensBefore t i k)\/Before t i p)(hu:∀op∈u,op.g=0\/op.act.touch?=none) :
 ∀i g,(t++u).g? i=some g->g≠0 ->(t++u).counts i ->(∃k,(t++u).g? k=some 0/\HappensBefore (t++u) i k)\/Before (t++u) i p:=by
 intro i g hg ha hc;obtain⟨x,hx,_⟩:=hc;obtain⟨op,hop,hox⟩:=touch_of hx
 rcases getElem?_append_cases hop with⟨hi,hop'⟩ |⟨_,hopu⟩
 ·rcases h i g (by simpa [Trace.g?,getElem?_append_old hi]using hg) ha ((counts_old hi).1 ⟨x,hx,‹_›⟩)with⟨j,hj,hbf⟩|h1
  ·have hjl:j<t.size:=by
    unfold Trace.g? at hj;obtain⟨z,hz,_⟩:=Ami.1 hj
    exact lt_size_of_getElem? hz
   exact .inl ⟨j,by simpa [Trace.g?,getElem?_append_old hjl]using hj,hb_app u hbf⟩
  ·exact .inr (h1.app u)
 ·rcases hu op hopu with h0|h0
  ·exact absurd (by simpa [Trace.g?,hop,h0]using hg.symm) ha
  ·rw[h0]at hox;cases hox
theorem Lq {u:Trace}(h:∀i x,touchAt t i=some x->x.loc.isMemory=true->Knows t 0 i\/Before t i p)(hu:∀op∈u,op.g=0\/op.act.touch?=none) :
 ∀i x,touchAt (t++u) i=some x->x.loc.isMemory=true->Knows (t++u) 0 i\/Before (t++u) i p:=by
 intro i x hx hm
 rcases Bh hx with h1 |⟨op,h1,h2,h3⟩
 ·exact(h i x h1 hm).imp (·.app u) (·.app u)
 ·rcases hu op h1 with h0|h0
  ·exact .inl (h0▸knows_own h2)
  ·rw[h0]at h3;cases h3
theorem Zy {u:Trace}(h:∃x,t[p]?=some x/\x.act=.close c/\t.heard p):∃x,(t++u)[p]?=some x/\x.act=.close c /\(t++u).heard p:=by
 obtain⟨x,h1,h2,h3⟩:=h;have hlt:=lt_size_of_getElem? h1
 exact⟨x,by rw[getElem?_append_old hlt];exact h1,h2,(heard_old hlt).2 h3⟩
theorem Shut.awake (h:Shut P c p B0 w0 gs w t q La R){ga:Goroutine}(ha:gs[0]?=some ga)(sa:ga.status=.running):∀g∈gs,awake g:=by
 intro g hg;obtain⟨i,hi⟩:=Array.mem_iff_getElem?.1 hg
 by_cases ia:i=0
 ·subst ia;rw[ha]at hi;cases hi;exact awake_of (.inl sa)
 exact awake_of ((h.old i g ia hi).status.elim .inl fun x=>.inr (.inr x))
theorem Shut.own (h:Shut P c p B0 w0 gs w t q La R){ga g':Goroutine}(ha:gs[0]?=some ga){d:Nat}{sl:Option (Nat×Nat)}{w':World}{n:Array Event}{La1:Nat->Prop}
 (hst:stepG P true ga (w.at d)=.go g' w' n) (hd:Did La R (w.at d) La1 w' n) :
 ∃gs' ops,runT P (crowd gs (w.at d) sl) 0=(.next (crowd gs' w' sl),ops)/\gs'.size=gs.size/\gs'[0]?=some g'/\Shut P c p B0 w0 gs' w' (t++ops) q La1 R:=by
 have hrun:=runT_crowd_go (P:=P) (sl:=sl) ha (show stepG P (0 == 0) ga (w.at d)=_ from hst);have hnew:∀x,La1 x->La x\/w.heap.size<=x:=hd.new;have hsz:w.heap.size<=w'.heap.size:=hd.size;have hkept:∀x,x<w.heap.size->¬La x->w'.heap[x]?=w.heap[x]?:=hd.kept;obtain⟨s,r,tm,hc⟩:=h.chan;have hclt:c<w.heap.size:=(Alx.1 hc).1;have hEv:∀e∈n,EvL (fun _=>False) w'.heap.size e:=fun e x=>Kk (hd.evs e x) hd.lt fun b hb=>Am2 (h.dr b hb).2 hsz
 have hf:Ul t 0 La1 R:=h.ma.fresh h.seen hnew
 refine⟨_,_,hrun,by simp,by simp[h.lt],?_⟩
 refine⟨⟨s,r,tm,?_⟩,by simp[h.lt],fun i g ia hi=>?_,fun i hi=>?_,fun x hx=>?_,fun x hx=>?_,fun x hx=>?_,hf.noRace h.clean hd.evs,hf.self,Lq h.known fun op hop=>.inl (Dp op hop),Nr h.over fun op hop=>.inl (Dp op hop),Zy h.close,?_,?_,?_⟩
 ·rw[hkept c hclt fun x=>(h.da c x).2.1 rfl];exact hc
 ·rw[Alz (Aoi ia),Amv]at hi;obtain⟨y,hy,rfl⟩:=Ami.1 hi;have hq:=h.old i y ia hy;rw[woken_quitsD hq,Deaf_other t (Aoi ia) _ Dp]
  exact hq
 ·have hi:gs.size<=i:=by simpa using hi
  rw[Deaf_other t (g':=0) (by have:=h.lt;omega) _ Dp]
  exact h.above i hi
 ·rcases hx with hx|hx
  ·rcases hnew x hx with h1|h1
   ·exact h.low x (.inl h1)
   ·exact Am1 h.kept.1 h1
  ·exact h.low x (.inr hx)
 ·rcases hnew x hx with h1|h1
  ·obtain⟨g1,g2,g3⟩:=h.da x h1
   exact⟨g1,g2,hd.lt x hx⟩
  ·exact⟨fun y=>by have:=(h.dr x y).2;omega,by omega,hd.lt x hx⟩
 ·obtain⟨g1,g2⟩:=h.dr x hx
  exact⟨g1,by omega⟩
 ·rw[Deaf_own,deafBehind_still (fun e x=>⟨(hEv e x).2.1,(hEv e x).2.2.1⟩)]
  exact h.hears
 ·exact seen_app (fun op hop=>MemAct.low_mono hsz (h.seen op hop)) fun op hop=>by obtain⟨e,x,rfl⟩:=Go.Conc.mem_ofEvents hop;exact(hEv e x).2.2.2
 ·obtain⟨k1,k2,k3,k4,k5⟩:=h.kept
  refine⟨by omega,fun x hx=>?_,hd.tape.trans k3,hd.os.1.trans k4,hd.os.2.trans k5⟩
  rw[hkept x (by omega) fun y=>by have:=h.low x (.inl y);omega]
  exact k2 x hx
theorem Shut.slip (h:Shut P c p B0 w0 gs w t q La R){ga g:Goroutine}(ha:gs[0]?=some ga)(sa:ga.status=.running){i:Nat}(hi:gs[i]?=some g)(hg:g.status=.running)(ia:i≠0)(d:Nat)(sl:Option (Nat×Nat)) :
 ∃gs' ops q',runT P (crowd gs (w.at d) sl) i=(.next (crowd gs' (w.at d) sl),ops)/\gs'.size=gs.size/\gs'[0]?=some ga/\Shut P c p B0 w0 gs' (w.at d) (t++ops) q' La R/\sumTo gs.size q'<sumTo gs.size q:=by
 have hq:=h.old i g ia hi;have hlt:i<gs.size:=(Alx.1 hi).1;have hz:(i == 0)=false:=by simp;omega
 cases hqi:q i with
 | zero=>rw[hqi]at hq;rw[hq.1]at hg;cases hg
 | succ k =>
   rw[hqi]at hq
   rcases hq with⟨hf,_⟩ |⟨_,g',es,hm,hstp,hq'⟩
   ·rw[hf]at hg;cases hg
   have hrun:=runT_crowd_go (P:=P) (sl:=sl) (i:=i) hi (by rw[hz];exact hstp (w.at d))
   have hop:∀op∈MemOp.ofEvents i g.frame.fn g.frame.place es,op.act.touch?=none/\op.act.low w.heap.size:=fun op hop=>by obtain⟨e,x,rfl⟩:=Go.Conc.mem_ofEvents hop;exact⟨touch_mute (hm e x),low_mute (hm e x) _⟩
   refine⟨_,_,upd q i k,hrun,by simp,?_,?_,?_⟩
   ·rw[Alz ia,Amv,ha];have:woken P g g' (w.at d) ga=ga:=woken_run sa;simp[this]
   ·refine⟨h.chan,by simp[h.lt],fun j x ja hj=>?_,fun j hj=>?_,h.low,h.da,h.dr,fun said=>noRace_append (h.clean said) Dp fun i a _ op x b hb _=>(by rw[(hop op x).1]at hb;cases hb),h.ma.app fun op x=>(hop op x).1,Lq h.known fun op x=>.inr (hop op x).1,Nr h.over fun op x=>.inr (hop op x).1,Zy h.close,by rw[Deaf_other t ia _ Dp];exact h.hears,seen_app h.seen fun op x=>(hop op x).2,h.kept⟩
    ·by_cases hji:i=j
     ·subst hji;rw[Am7 (by simpa using hlt)]at hj
      obtain rfl:=Aml hj;rw[upd_same,Deaf_own]
      exact hq'
     ·rw[Alz hji,Amv]at hj;obtain⟨y,hy,rfl⟩:=Ami.1 hj;have hqj:=h.old j y ja hy;rw[woken_quitsD hqj,upd_ne q k (Aoi hji),Deaf_other t hji _ Dp]
      exact hqj
    ·have hj:gs.size<=j:=by simpa using hj
     rw[Deaf_other t (g':=i) (by omega) _ Dp]
     exact h.above j hj
   ·have:=sumTo_upd q k id hlt;have this:sumTo gs.size (upd q i k)+q i=sumTo gs.size q+k:=this
    omega
theorem Shut.found (h:Shut P c p B0 w0 gs w t q La R){fn:FuncId}{pos:String}{g':Goroutine}{d:Nat} :
 Leavers P (t ++#[{ g:=0,fn:=fn,pos:=pos,act:=.recvClosed c }]) (gs.setIfInBounds 0 g') q/\Past (fun _=>False) (w.at d).heap.size (t ++#[{ g:=0,fn:=fn,pos:=pos,act:=.recvClosed c }]):=by
 obtain⟨x,hx1,hx2,hx3⟩:=h.close;obtain⟨s,r,tm,hc⟩:=h.chan;have hclt:c<w.heap.size:=(Alx.1 hc).1;have hk:∀i,Before t i p->Knows (t++_) 0 i:=fun i y=>A00 (f1:=fn) (p1:=pos) hx1 hx2 hx3 h.hears y
 have hst:∀g,Deaf (t ++#[{ g:=0,fn:=fn,pos:=pos,act:=.recvClosed c }]) g=Deaf t g:=fun g=>F6 t g _ fun op hop=>by
  simp only[An4,An7,An6,Ap5]at hop;subst hop;exact⟨by simp,by simp⟩
 generalize hu:(#[{ g:=0,fn:=fn,pos:=pos,act:=.recvClosed c }]:Trace)=u at hk hst ⊢
 have hq:∀op∈u,op.g=0/\op.act.touch?=none/\op.act.low w.heap.size:=by
  intro op hop;rw[<-hu]at hop;simp only[An4,An7,An6,Ap5]at hop;subst hop
  exact⟨rfl,rfl,hclt⟩
 refine⟨⟨fun i g hi hg=>?_,fun i hi=>?_⟩,fun said=>noRace_append (h.clean said) (fun op y=>(hq op y).1) fun i a _ op y b hb _=>(by rw[(hq op y).2.1]at hb;cases hb),fun i x hx hm=>?_,?_,(hst 0).trans h.hears,seen_app h.seen fun op y=>(hq op y).2.2⟩
 ·rw[Alz (by omega)]at hg
  rw[hst]
  exact h.old i g (by omega) hg
 ·rw[hst]
  exact h.above i (by simpa using hi)
 ·rcases Bh hx with h1 |⟨op,h1,_,h3⟩
  ·rcases h.known i x h1 hm with h2|h2
   ·exact .inl (h2.app u)
   ·exact .inl (hk i h2)
  ·rw[(hq op h1).2.1]at h3;cases h3
 ·intro i g hg hne hcn;obtain⟨y,hy,hy2⟩:=hcn;obtain⟨op,hop,hox⟩:=touch_of hy
  rcases getElem?_append_cases hop with⟨hi,hop'⟩ |⟨_,hou⟩
  ·have hg':t.g? i=some g:=by simpa [Trace.g?,getElem?_append_old hi]using hg
   rcases h.over i g hg' hne ((counts_old hi).1 ⟨y,hy,hy2⟩)with⟨k,hk1,hk2⟩|h2
   ·have hkl:k<t.size:=by
     unfold Trace.g? at hk1;obtain⟨z,hz,_⟩:=Ami.1 hk1
     exact lt_size_of_getElem? hz
    exact⟨k,by simpa [Trace.g?,getElem?_append_old hkl]using hk1,hb_app u hk2⟩
   ·obtain⟨k,z,hz1,hz2,hz3⟩:=hk i h2
    refine⟨k,by simp[Trace.g?,hz1,hz2],?_⟩
    rcases hz3 with rfl|hz3
    ·exfalso
     apply hne
     have:(t++u).g? i=some z.g:=by simp[Trace.g?,hz1]
     rw[this]at hg;rw[<-Aml hg,hz2]
    ·exact hz3
  ·rw[(hq op hou).2.1]at hox;cases hox
theorem A24 {base:List Frame}{z:Value}{K:(Nat->Prop)->Frame->List Frame->World->Prop}{fr:Frame}{cs:List Frame}{W:World}
 (hA:Co P true base R (fun L fr cs W=>G4 P true base c (.recv z) fr cs/\K L fr cs W) La fr cs W):∀(gs:Array Goroutine) (w:World) (sl:Option (Nat×Nat)) (t:Trace) (q:Nat->Nat) (ga:Goroutine),
 Shut P c p B0 w0 gs w t q La R->gs[0]?=some ga->ga.frame=fr->ga.callers=cs++base->ga.status=.running->ga.dying=none->Aw La R W w ->
 ∃gs' w' sl' t' q' La' fr' cs' W',Ia P gs w sl t gs' w' sl' t'/\gs'.size=gs.size/\gs'[0]?=some (G (fr'.finish (.tuple #[z,.bool false])) (cs'++base))/\K La' fr' cs' W'/\Aw La' R W' w'/\Leavers P t' gs' q'/\Past (fun _=>False) w'.heap.size t' /\
  (∀x,La' x\/x=c->B0<=x) /\(∀x,La' x->¬R x/\x≠c/\x<w'.heap.size) /\(∀x,R x->x≠c/\x<w'.heap.size) /\(B0<=w'.heap.size /\(∀x,x<B0->w'.heap[x]?=w0.heap[x]?)/\w'.tape=w0.tape/\w'.os=w0.os/\w'.output=w0.output):=by
 induction hA with
 | @stop La fr cs W hp =>
   intro gs w sl t q;generalize hM:sumTo gs.size q=M
   induction M using Nat.strongRecOn generalizing gs w sl t q with
   | _ M ihM =>
     intro ga h ha e1 e2 e3 e4 hr;obtain⟨i,g,d,sl',hi,hg,hst⟩:=crowd_pick (P:=P) (w:=w) (sl:=sl) (h.awake ha e3) ⟨0,_,ha,e3⟩
     by_cases ia:i=0
     ·subst ia;rw[ha]at hi;obtain rfl:=Aml hi
      have hstep:stepG P (0 == 0) ga (w.at d)=.comm (G fr (cs++base)) #[rcase c z] true (.recv true) (w.at d) #[]:=by
       rw[stepG_same (h:=G fr (cs++base)) e1 e2 e4]
       exact hp.1 (w.at d)
      obtain⟨s,r,tm,hc⟩:=h.chan
      have hrun:=crowd_recv_closed (P:=P) (sl:=sl') ha hstep hc (partners_nil fun j x hj=>by
       rcases getElem?_stand gs 0 j x hj with⟨_,rfl⟩ |⟨ja,hj⟩
       ·exact offersAt_ph c true
       ·exact offersAt_of_not_blocked (by rcases(h.old j x ja hj).status with x|x<;>rw[x]<;>simp) c true)
      have hf:=h.found (fn:=fr.fn) (pos:=fr.place) (g':=G (fr.finish (.tuple #[z,.bool false])) (cs++base)) (d:=d)
      refine⟨gs.setIfInBounds 0 (G (fr.finish (.tuple #[z,.bool false])) (cs++base)),w.at d,sl',_,q,La,fr,cs,W,.head (hst.trans hrun) ?_,by simp,by simp[h.lt],hp.2,Ad hr d,hf.1,hf.2,h.low,h.da,h.dr,h.kept⟩
      exact .refl
     obtain⟨gs1,ops,q1,k1,k2,k3,k4,k5⟩:=h.slip ha e3 hi hg ia d sl';obtain⟨gs',w',sl2,t',q',La',fr',cs',W',m1,m2,m3⟩:=ihM _ (by rw[<-hM];exact k5) gs1 (w.at d) sl' (t++ops) q1 (by rw[k2]) ga k4 k3 e1 e2 e3 e4 (Ad hr d)
     exact⟨gs',w',sl2,t',q',La',fr',cs',W',m1.head (hst.trans k1),m2.trans k2,m3⟩
 | @go La fr cs W f1 c1 w1 n1 L1 hstep _ ih =>
   intro gs w sl t q;generalize hM:sumTo gs.size q=M
   induction M using Nat.strongRecOn generalizing gs w sl t q with
   | _ M ihM =>
     intro ga h ha e1 e2 e3 e4 hr;obtain⟨i,g,d,sl',hi,hg,hst⟩:=crowd_pick (P:=P) (w:=w) (sl:=sl) (h.awake ha e3) ⟨0,_,ha,e3⟩
     by_cases ia:i=0
     ·subst ia;rw[ha]at hi;obtain rfl:=Aml hi;obtain⟨g1,g2⟩:=hstep (w.at d) (Ad hr d);have g1':stepG P true ga (w.at d)=_:=(stepG_same (h:=G fr (cs++base)) e1 e2 e4 _).trans g1;obtain⟨gs1,ops,k1,k2,k3,k4⟩:=h.own ha (sl:=sl') g1' g2;obtain⟨gs',w',sl2,t',q',La',fr',cs',W',m1,m2,m3⟩:=ih (w.at d) (Ad hr d) gs1 _ sl' (t++ops) q _ k4 k3 rfl rfl rfl rfl (At _ _ _)
      exact⟨gs',w',sl2,t',q',La',fr',cs',W',m1.head (hst.trans k1),m2.trans k2,m3⟩
     obtain⟨gs1,ops,q1,k1,k2,k3,k4,k5⟩:=h.slip ha e3 hi hg ia d sl';obtain⟨gs',w',sl2,t',q',La',fr',cs',W',m1,m2,m3⟩:=ihM _ (by rw[<-hM];exact k5) gs1 (w.at d) sl' (t++ops) q1 (by rw[k2]) ga k4 k3 e1 e2 e3 e4 (Ad hr d)
     exact⟨gs',w',sl2,t',q',La',fr',cs',W',m1.head (hst.trans k1),m2.trans k2,m3⟩
end
def Closes (P:Program)(base:List Frame)(c:Nat)(fr:Frame)(cs:List Frame):Prop :=
 mayWake P (G fr (cs++base))=true/\∃g₂ n,(∀w s r tm,w.heap[c]?=some (.chan 0 #[] false s r tm)->stepG P false (G fr (cs++base)) w=.go g₂ (w.shut c s r tm) #[⟨.obj c,false,true⟩,⟨.obj c,true,true⟩])/\QuitsIn P n g₂
section
variable {P : Program} {c b B0 : Nat} {w0 : World} {gs : Array Goroutine} {w : World} {t : Trace} {q : Nat -> Nat} {La Lb R : Nat -> Prop}
theorem J8.closes (h:J8 P c 0 b B0 w0 gs w t q La Lb R){ga:Goroutine}(ha:gs[0]?=some ga)(sa:ga.status=.running\/∃g0 z,ga=parked g0 #[rcase c z] (.recv true)){frb:Frame}{csb baseb:List Frame}(hb:gs[b]?=some (G frb (csb++baseb)))
 (hcl:Closes P baseb c frb csb) (d:Nat) (sl:Option (Nat×Nat)) :
 ∃gs' w' ops q' p ga',runT P (crowd gs (w.at d) sl) b=(.next (crowd gs' w' sl),ops)/\gs'.size=gs.size/\gs'[0]?=some ga'/\ga'.frame=ga.frame/\ga'.callers=ga.callers/\ga'.status=.running/\ga'.dying=ga.dying/\Shut P c p B0 w0 gs' w' (t++ops) q' La R/\Aw La R w w':=by
 obtain⟨hw,g₂,n,hst,hq⟩:=hcl;obtain⟨s,tm,hc⟩:=h.chan;have hclt:c<w.heap.size:=(Alx.1 hc).1;have hb0:b≠0:=h.ne.symm;have hz:(b == 0)=false:=by simp;omega
 have hrun:=runT_crowd_go (P:=P) (sl:=sl) hb (by rw[hz];exact hst (w.at d) s s tm hc)
 have hwk:∀o,woken P (G frb (csb++baseb)) g₂ ((w.at d).shut c s s tm) o=o.again ((w.at d).shut c s s tm):=by
  intro o;unfold Go.Conc.woken;rcases hq.status with h|h<;>simp[hw,h]
 have hc2:((w.at d).shut c s s tm).heap[c]?=some (.chan 0 #[] true s s tm):=heap_put (w:=w.at d) hc;have hsz:((w.at d).shut c s s tm).heap.size=w.heap.size:=by simp[World.shut,World.at]
 have hget:∀x,x≠c ->((w.at d).shut c s s tm).heap[x]?=w.heap[x]?:=fun x hx=>by simp[World.shut,World.at,Aoi hx]
 obtain⟨fn,hfn⟩:∃fn,fn=(G frb (csb++baseb)).frame.fn:=⟨_,rfl⟩;obtain⟨pos,hpos⟩:∃pos,pos=(G frb (csb++baseb)).frame.place:=⟨_,rfl⟩;rw[<-hfn,<-hpos]at hrun
 have hops:MemOp.ofEvents b fn pos #[⟨.obj c,false,true⟩,⟨.obj c,true,true⟩]=#[{ g:=b,fn:=fn,pos:=pos,act:=.access ⟨.obj c,false,true⟩ },{ g:=b,fn:=fn,pos:=pos,act:=.close c }]:=by
  rw[ofEvents_eq];simp[MemAct.ofEvent]
 rw[hops]at hrun
 have hst2:∀g,Deaf (t ++#[{ g:=b,fn:=fn,pos:=pos,act:=.access ⟨.obj c,false,true⟩ },{ g:=b,fn:=fn,pos:=pos,act:=.close c }]) g=Deaf t g:=fun g=>F6 t g _ fun op hop=>by
  simp only[An4,An7,An6,Ap5]at hop
  rcases hop with rfl|rfl<;>exact⟨by simp,by simp⟩
 generalize hu:(#[{ g:=b,fn:=fn,pos:=pos,act:=.access ⟨.obj c,false,true⟩ },{ g:=b,fn:=fn,pos:=pos,act:=.close c }]:Trace)=u at hrun hst2;have hu1:u[1]?=some { g:=b,fn:=fn,pos:=pos,act:=.close c }:=by rw[<-hu];rfl
 have hus:u.size=2:=by rw[<-hu];rfl
 have hqu:∀op∈u,op.g=b /\(op.act.touch?=none\/op.act.touch?=some ⟨.obj c,false,.atomic⟩)/\op.act.low w.heap.size/\op.act≠.mark .disable/\op.act≠.mark .enable:=by
  intro op hop;rw[<-hu]at hop;simp only[An4,An7,An6,Ap5]at hop
  rcases hop with rfl|rfl
  ·exact⟨rfl,.inr rfl,hclt,by simp,by simp⟩
  ·exact⟨rfl,.inl rfl,hclt,by simp,by simp⟩
 have hp:(t++u)[t.size+1]?=some { g:=b,fn:=fn,pos:=pos,act:=.close c }:=by
  rw[Aol (by omega)]
  simpa using hu1
 have hkb:∀i,Knows t b i->Before (t++u) i (t.size+1):=fun i y=>.inr (y.hb_new (by omega) hp rfl)
 have hnew:∀i op,(t++u)[i]?=some op->op∈u->op.act.touch?≠none->Before (t++u) i (t.size+1):=by
  intro i op hi hou hne;have hlt:=lt_size_of_getElem? hi;rw[Array.size_append,hus]at hlt
  by_cases hi1:i=t.size+1
  ·exact .inl hi1
  ·exact .inr (hb_po (by omega) hi hp (hqu op hou).1)
 have hfr:∃ga',ga.again ((w.at d).shut c s s tm)=ga'/\ga'.frame=ga.frame/\ga'.callers=ga.callers/\ga'.status=.running/\ga'.dying=ga.dying:=by
  rcases sa with sa |⟨g0,z,rfl⟩
  ·exact⟨ga,again_running _ (.inl sa),rfl,rfl,sa,rfl⟩
  ·exact⟨_,again_recv_closed hc2,rfl,rfl,rfl,rfl⟩
 obtain⟨ga',f1,f2,f3,f4,f5⟩:=hfr
 refine⟨_,_,u,upd q b n,t.size+1,ga',hrun,by simp,?_,f2,f3,f4,f5,?_,?_⟩
 ·rw[Alz hb0,Amv,ha,Ao6,hwk,f1]
 ·refine⟨⟨s,s,tm,hc2⟩,by simp[h.lta],fun i g ia hi=>?_,fun i hi=>?_,fun x hx=>h.low x (hx.imp id .inr),fun x hx=>?_,fun x hx=>?_,fun said=>?_,⟨fun i a ha hl=>?_,fun i a ha hl hwr=>?_⟩,fun i x hx hm=>?_,fun i g hg hne hcn=>?_,⟨_,hp,rfl,?_⟩,(hst2 0).trans h.two.ha,?_,?_⟩
  ·by_cases ib:b=i
   ·subst ib;rw[Am7 (by simpa using h.ltb)]at hi
    obtain rfl:=Aml hi;rw[upd_same,hst2,h.two.hb]
    exact QuitsD.of_quitsIn hq
   ·rw[Alz ib,Amv]at hi;obtain⟨y,hy,rfl⟩:=Ami.1 hi;have hqi:=h.old i y ia (Aoi ib) hy;rw[woken_quitsD hqi,hst2,upd_ne q n (Aoi ib)]
    exact hqi
  ·rw[hst2]
   exact h.above i (by simpa using hi)
  ·obtain⟨g1,g2,g3,g4⟩:=h.da x hx
   exact⟨g2,g3,by rw[hsz];exact g4⟩
  ·rw[hsz];exact h.dr x hx
  ·refine noRace_append (h.two.clean said) (fun op y=>(hqu op y).1) fun i a ha op y x hx hc=>?_
   rcases(hqu op y).2.1 with h1|h1
   ·rw[h1]at hx;cases hx
   ·rw[h1]at hx;cases hx
    exact absurd hc.1 (h.Rk i a ha)
  ·rcases Bh ha with h1 |⟨op,h1,_,h3⟩
   ·exact(h.two.ma.own i a h1 hl).app u
   ·rcases(hqu op h1).2.1 with h2|h2
    ·rw[h2]at h3;cases h3
    ·rw[h2]at h3;cases h3
     exact absurd rfl (h.da c hl).2.2.1
  ·rcases Bh ha with h1 |⟨op,h1,_,h3⟩
   ·exact(h.two.ma.read i a h1 hl hwr).app u
   ·rcases(hqu op h1).2.1 with h2|h2
    ·rw[h2]at h3;cases h3
    ·rw[h2]at h3;cases h3
     cases hwr
  ·rcases Bh hx with h1 |⟨op,h1,h2,h3⟩
   ·exact(h.two.known i x h1 hm).imp (·.app u) (hkb i)
   ·exact .inr (hnew i op h2 h1 (by rw[h3];simp))
  ·obtain⟨y,hy,hy2⟩:=hcn;obtain⟨op,hop,hox⟩:=touch_of hy
   rcases getElem?_append_cases hop with⟨hi,hop'⟩ |⟨_,hou⟩
   ·have hg':t.g? i=some g:=by simpa [Trace.g?,getElem?_append_old hi]using hg
    by_cases gb:g=b
    ·subst gb
     refine .inr (hkb i ?_)
     have:op.g=g:=by
      have:t.g? i=some op.g:=by simp[Trace.g?,hop']
      rw[this]at hg';exact Aml hg'
     exact this▸knows_own hop'
    ·obtain⟨k,hk1,hk2⟩:=h.two.over i g hg' hne gb ((counts_old hi).1 ⟨y,hy,hy2⟩)
     have hkl:k<t.size:=by
      unfold Trace.g? at hk1;obtain⟨z,hz,_⟩:=Ami.1 hk1
      exact lt_size_of_getElem? hz
     exact .inl ⟨k,by simpa [Trace.g?,getElem?_append_old hkl]using hk1,hb_app u hk2⟩
   ·exact .inr (hnew i op hop hou (by rw[hox];simp))
  ·exact H8 (t:=t) (fun op y=>(hqu op y).2.2.2) hu1 h.two.hb
  ·rw[hsz];exact seen_app h.two.seen fun op y=>(hqu op y).2.2.1
  ·obtain⟨k1,k2,k3,k4,k5⟩:=h.kept
   refine⟨by rw[hsz];exact k1,fun x hx=>?_,k3,k4,k5⟩
   rw[hget x (by have:=h.low c (.inr (.inr rfl));omega)]
   exact k2 x hx
 ·refine⟨by rw[hsz];exact Am0 _,fun x hx=>hget x ?_,rfl,rfl⟩
  rcases hx with hx|hx
  ·exact(h.da x hx).2.2.1
  ·exact(h.dr x hx).1
theorem finish {base baseb:List Frame}{z:Value}{K:(Nat->Prop)->Frame->List Frame->World->Prop}{fra frb:Frame}{csa csb:List Frame}{Wa Wb:World}
 (hA:Co P true base R (fun L fr cs W=>G4 P true base c (.recv z) fr cs/\K L fr cs W) La fra csa Wa)
 (hB:Co P false baseb R (fun _ fr cs _=>Closes P baseb c fr cs) Lb frb csb Wb) {sl:Option (Nat×Nat)}
 (h:J8 P c 0 b B0 w0 gs w t q La Lb R) (ha:gs[0]?=some (G fra (csa++base))) (hb:gs[b]?=some (G frb (csb++baseb))) (hra:Aw La R Wa w) (hrb:Aw Lb R Wb w) :
 ∃gs' w' sl' t' q' La' fr' cs' W',Ia P gs w sl t gs' w' sl' t'/\gs'.size=gs.size/\gs'[0]?=some (G (fr'.finish (.tuple #[z,.bool false])) (cs'++base))/\K La' fr' cs' W'/\Aw La' R W' w'/\Leavers P t' gs' q'/\Past (fun _=>False) w'.heap.size t' /\
  (∀x,La' x\/x=c->B0<=x) /\(∀x,La' x->¬R x/\x≠c/\x<w'.heap.size) /\(∀x,R x->x≠c/\x<w'.heap.size) /\(B0<=w'.heap.size /\(∀x,x<B0->w'.heap[x]?=w0.heap[x]?)/\w'.tape=w0.tape/\w'.os=w0.os/\w'.output=w0.output):=by
 have hbz:(b == 0)=false:=by have:=h.ne;simp;omega
 obtain⟨gs1,w1,sl1,t1,q1,La1,fra1,csa1,Wa1,Lb1,frb1,csb1,Wb1,m1,m2,m3,m4,m5,m6,m7,m8⟩:=A6j (a:=0) (b:=b) hA (hbz▸hB) gs w sl t q h ha hb hra hrb
 rcases m8 with⟨⟨hsa,hka⟩,hB1,d,sl2,hst⟩ |⟨hcl,hA1,d,sl2,hst⟩
 ·obtain⟨gs2,n1,n2,n3,n4,n5⟩:=m7.wait m3 m4 rfl hsa d sl2;obtain⟨gs3,w3,sl3,t3,q3,Lb3,frb3,csb3,Wb3,o1,o2,o3,o4,hcl,o6,o7,o8,d3,sl4,o9⟩:=Yq hB1 gs2 (w1.at d) sl2 t1 q1 _ n5.swap n4 n3 (Zj.still _ _ _) (by simp[parked]) (Ad m6 d)
  obtain⟨gs4,w4,ops,q4,p,ga',r1,r2,r3,r4,r5,r6,r7,r8,r9⟩:=o8.swap.closes o4 (.inr ⟨_,z,rfl⟩) o3 hcl d3 sl4;obtain⟨gs',w',sl',t',q',La',fr',cs',W',u1,u2,u3⟩:=A24 (.stop ⟨hsa,hka⟩) gs4 w4 sl4 _ q4 ga' r8 r3 r4 r5 r6 r7 (Af (Af (Ad m5 d) o7) r9)
  exact⟨gs',w',sl',t',q',La',fr',cs',W',m1.trans (Ia.head (ops:=#[]) (hst.trans n1) (by rw[Array.append_empty];exact o1.trans (Ia.head (o9.trans r1) u1))),by rw[u2,r2,o2,n2,m2],u3⟩
 ·obtain⟨gs4,w4,ops,q4,p,ga',r1,r2,r3,r4,r5,r6,r7,r8,r9⟩:=m7.closes m3 (.inl rfl) m4 hcl d sl2;obtain⟨gs',w',sl',t',q',La',fr',cs',W',u1,u2,u3⟩:=A24 hA1 gs4 w4 sl2 _ q4 ga' r8 r3 r4 r5 r6 r7 (Af m5 r9)
  exact⟨gs',w',sl',t',q',La',fr',cs',W',m1.trans (Ia.head (hst.trans r1) u1),by rw[u2,r2,m2],u3⟩
end
end Co
namespace Co
open Go.Conc Tl Lr Bar
open Go.ConcN (sumTo upd sumTo_upd upd_ne upd_same)
theorem Aa0 {c g:Nat}{fn:FuncId}{pos:String}{es:Array Event}{L R:Nat->Prop}(he:∀e∈es,EvC L R e)(hL:¬L c):∀op∈MemOp.ofEvents g fn pos es,∀x,op.act.touch?=some x->x.loc≠.obj c:=by
 intro op hop x hx e;obtain⟨ev,hev,rfl⟩:=Go.Conc.mem_ofEvents hop;have h:=he ev hev;obtain⟨loc,wr,sy⟩:=ev;unfold EvC at h
 cases loc with
 | cell a =>
   have h1:sy=false:=h.1;subst h1
   cases wr<;>(cases hx;cases e)
 | obj r =>
   have h:L r:=h
   cases wr<;>cases sy<;>first |(cases hx;cases e;exact hL h) |(cases hx;done)
 | mark m =>
   have h:m=.noRoom:=h;subst h
   cases hx
 | _=>exact h
theorem Ie {P:Program}{base:List Frame}{R:Nat->Prop}{Post:(Nat->Prop)->Frame->List Frame->World->Prop}{L:Nat->Prop}{fr:Frame}{cs:List Frame}{W:World}(h:Co P true base R Post L fr cs W) :
 ∀(gs:Array Goroutine) (w:World) (sl:Option (Nat×Nat)) (t:Trace) (q:Nat->Nat),gs[0]?=some (G fr (cs++base))->Aw L R W w ->(∀b,R b->b<w.heap.size)->Leavers P t gs q->Past (fun _=>False) w.heap.size t ->
  ∃(N:Nat) (gs':Array Goroutine) (fr':Frame) (cs':List Frame) (w' W':World) (sl':Option (Nat×Nat)) (t':Trace) (q':Nat->Nat) (L':Nat->Prop),
   runNT P N (crowd gs w sl) t=(.next (crowd gs' w' sl'),t')/\gs'.size=gs.size/\gs'[0]?=some (G fr' (cs'++base))/\Post L' fr' cs' W'/\Aw L' R W' w'/\Leavers P t' gs' q'/\Past (fun _=>False) w'.heap.size t'/\Left L w L' w' /\(W.heap=w.heap->W'.heap=w'.heap)/\∀c,¬L' c ->(∀i x,touchAt t i=some x->x.loc≠.obj c)->∀i x,touchAt t' i=some x->x.loc≠.obj c:=by
 induction h with
 | @stop L fr cs W hp =>
   intro gs w sl t q h0 hr _ hL hP
   exact⟨0,gs,fr,cs,w,W,sl,t,q,L,rfl,rfl,h0,hp,hr,hL,hP,Left.refl _ _,id,fun _ _ h=>h⟩
 | @go L fr cs W f1 c1 w1 n1 L1 hstep _ ih =>
   intro gs w sl t q;generalize hM:sumTo gs.size q=M
   induction M using Nat.strongRecOn generalizing gs w sl t q with
   | _ M ihM =>
     intro h0 hr hR hL hP
     have haw:∀g∈gs,awake g:=by
      intro g hg;obtain⟨i,hi,rfl⟩:=Aq5.1 hg
      rcases Ani i with rfl|hpos
      ·have:gs[0]=G fr (cs++base):=by simpa [Am6 hi]using h0
       rw[this];exact awake_of (.inl rfl)
      ·exact awake_of ((hL.old i _ hpos (Am6 hi)).status.elim .inl fun x=>.inr (.inr x))
     obtain⟨i,g,d,sl',hi,hg,hst⟩:=crowd_pick (P:=P) (w:=w) (sl:=sl) haw ⟨0,_,h0,rfl⟩
     rcases Ani i with rfl|hpos
     ·
      obtain rfl:g=G fr (cs++base):=by rw[h0]at hi;exact(Aml hi).symm
      obtain⟨hgo,hdid⟩:=hstep (w.at d) (Ad hr d);have hrunT:=runT_crowd_go (P:=P) (sl:=sl') (i:=0) hi (show stepG P (0 == 0) (G fr (cs++base)) (w.at d)=_ from hgo);have hsz:((gs.map (woken P (G fr (cs++base)) (G (f1 (w.at d)) (c1 (w.at d)++base)) (w1 (w.at d)))).setIfInBounds 0 (G (f1 (w.at d)) (c1 (w.at d)++base))).size=gs.size:=by simp
      have hlt:0<gs.size:=(Alx.1 h0).1;have hgrow:w.heap.size <=(w1 (w.at d)).heap.size:=hdid.size
      obtain⟨N,gs',fr',cs',w',W',sl'',t',q',L',k1,k2,k3,k4,k5,k6,k7,k8,k9,k10⟩:=ih (w.at d) (Ad hr d) ((gs.map (woken P (G fr (cs++base)) (G (f1 (w.at d)) (c1 (w.at d)++base)) (w1 (w.at d)))).setIfInBounds 0 (G (f1 (w.at d)) (c1 (w.at d)++base))) (w1 (w.at d)) sl' (t++MemOp.ofEvents 0 (G fr (cs++base)).frame.fn (G fr (cs++base)).frame.place (n1 (w.at d))) q (by simp[hlt]) (At _ _ _) (fun b hb=>Am2 (hR b hb) hgrow)
       ⟨fun j x hj hx=>by
        have hne:0≠j:=by omega
        rw[Alz hne,Amv]at hx;obtain⟨y,hy,rfl⟩:=Ami.1 hx;have hq:=hL.old j y hj hy;rw[woken_quitsD hq,Deaf_other t (by omega) _ (fun op hop=>by obtain⟨e,_,rfl⟩:=Go.Conc.mem_ofEvents hop;rfl)]
        exact hq,fun j hj=>by
        rw[Deaf_other t (g':=0) (by simp at hj;omega) _ (fun op hop=>by obtain⟨e,_,rfl⟩:=Go.Conc.mem_ofEvents hop;rfl)]
        exact hL.above j (by simpa using hj)⟩
       ((hP.mono hgrow).own fun e he=>Kk (hdid.evs e he) hdid.lt fun b hb=>Am2 (hR b hb) hgrow)
      exact⟨N+1,gs',fr',cs',w',W',sl'',t',q',L',by simp only[runNT,hst,hrunT];exact k1,k2.trans hsz,k3,k4,k5,k6,k7,((left_at L w d).trans hdid.left).trans k8,fun _=>k9 rfl,fun c hc ht=>k10 c hc (Ef ht (Aa0 (hdid.evs) fun x=>hc (k8.old c x)))⟩
     ·
      have hq:=hL.old i g hpos hi;have hi0:(i == 0)=false:=by simp;omega
      have hlt:i<gs.size:=(Alx.1 hi).1
      cases hqi:q i with
      | zero=>rw[hqi]at hq;rw[hq.1]at hg;cases hg
      | succ k =>
        rw[hqi]at hq
        rcases hq with⟨hf,_⟩ |⟨_,g',es,hm,hstp,hq'⟩
        ·rw[hf]at hg;cases hg
        have hrunT:=runT_crowd_go (P:=P) (sl:=sl') (i:=i) hi (by rw[hi0];exact hstp (w.at d))
        have hsz:((gs.map (woken P g g' (w.at d))).setIfInBounds i g').size=gs.size:=by simp
        have hsum:sumTo gs.size (upd q i k) +(k+1)=sumTo gs.size q+k:=by
         have:=sumTo_upd q k id hlt
         simpa [hqi]using this
        obtain⟨N,gs',fr',cs',w',W',sl'',t',q',L',k1,k2,k3,k4,k5,k6,k7,k8,k9,k10⟩:=ihM (sumTo gs.size (upd q i k)) (by omega) ((gs.map (woken P g g' (w.at d))).setIfInBounds i g') (w.at d) sl' (t++MemOp.ofEvents i g.frame.fn g.frame.place es) (upd q i k) (by rw[hsz])
         (by
          have hne:i≠0:=by omega
          rw[Alz hne,Amv,h0];have:woken P g g' (w.at d) (G fr (cs++base))=G fr (cs++base):=woken_run rfl;simp[this])
         (Ad hr d) hR
         ⟨fun j x hj hx=>by
          by_cases hji:i=j
          ·subst hji;rw[Am7 (by simpa using hlt)]at hx
           obtain rfl:=Aml hx;rw[upd_same,Deaf_own]
           exact hq'
          ·rw[Alz hji,Amv]at hx;obtain⟨y,hy,rfl⟩:=Ami.1 hx;have hqj:=hL.old j y hj hy;rw[woken_quitsD hqj,upd_ne q k (Aoi hji),Deaf_other t hji _ (fun op hop=>by obtain⟨e,_,rfl⟩:=Go.Conc.mem_ofEvents hop;rfl)]
           exact hqj,fun j hj=>by
          rw[Deaf_other t (g':=i) (by simp at hj;omega) _ (fun op hop=>by obtain⟨e,_,rfl⟩:=Go.Conc.mem_ofEvents hop;rfl)]
          exact hL.above j (by simpa using hj)⟩
         (hP.mute (by omega) hm)
        exact⟨N+1,gs',fr',cs',w',W',sl'',t',q',L',by simp only[runNT,hst,hrunT];exact k1,k2.trans hsz,k3,k4,k5,k6,k7,(left_at L w d).trans k8,k9,fun c hc ht=>k10 c hc (Ef ht fun op hop x hx=>by obtain⟨e,he,rfl⟩:=Go.Conc.mem_ofEvents hop;rw[touch_mute (hm e he)]at hx;cases hx)⟩
theorem R9 {P:Program}{fr:Frame}{cs:List Frame}:∀(M:Nat) (gs:Array Goroutine) (w:World) (sl:Option (Nat×Nat)) (t:Trace) (q:Nat->Nat),sumTo gs.size q=M->gs[0]?=some (G fr cs)->Leavers P t gs q->Past (fun _=>False) w.heap.size t ->
 ∃(N:Nat) (gs':Array Goroutine) (d:Nat) (sl':Option (Nat×Nat)) (t':Trace) (q':Nat->Nat),runNT P N (crowd gs w sl) t=(.next (crowd gs' (w.at d) sl'),t')/\gs'.size=gs.size/\gs'[0]?=some (G fr cs)/\Leavers P t' gs' q'/\Past (fun _=>False) w.heap.size t' /\
  (∀c,(∀i x,touchAt t i=some x->x.loc≠.obj c)->∀i x,touchAt t' i=some x->x.loc≠.obj c)/\∃d' sl'',stepT P (crowd gs' (w.at d) sl')=runT P (crowd gs' (w.at d') sl'') 0:=by
 intro M
 induction M using Nat.strongRecOn with
 | _ M ihM =>
   intro gs w sl t q hM h0 hL hP
   have haw:∀g∈gs,awake g:=by
    intro g hg;obtain⟨i,hi,rfl⟩:=Aq5.1 hg
    rcases Ani i with rfl|hpos
    ·have:gs[0]=G fr cs:=by simpa [Am6 hi]using h0
     rw[this];exact awake_of (.inl rfl)
    ·exact awake_of ((hL.old i _ hpos (Am6 hi)).status.elim .inl fun x=>.inr (.inr x))
   obtain⟨i,g,d,sl',hi,hg,hst⟩:=crowd_pick (P:=P) (w:=w) (sl:=sl) haw ⟨0,_,h0,rfl⟩
   rcases Ani i with rfl|hpos
   ·exact⟨0,gs,w.drawn,sl,t,q,rfl,rfl,h0,hL,hP,fun _ h=>h,d,sl',hst⟩
   ·have hq:=hL.old i g hpos hi;have hi0:(i == 0)=false:=by simp;omega
    have hlt:i<gs.size:=(Alx.1 hi).1
    cases hqi:q i with
    | zero=>rw[hqi]at hq;rw[hq.1]at hg;cases hg
    | succ k =>
      rw[hqi]at hq
      rcases hq with⟨hf,_⟩ |⟨_,g',es,hm,hstp,hq'⟩
      ·rw[hf]at hg;cases hg
      have hrunT:=runT_crowd_go (P:=P) (sl:=sl') (i:=i) hi (by rw[hi0];exact hstp (w.at d))
      have hsz:((gs.map (woken P g g' (w.at d))).setIfInBounds i g').size=gs.size:=by simp
      have hsum:sumTo gs.size (upd q i k) +(k+1)=sumTo gs.size q+k:=by
       have:=sumTo_upd q k id hlt
       simpa [hqi]using this
      obtain⟨N,gs',d',sl'',t',q',k1,k2,k3,k4,k5,k6,k7⟩:=ihM (sumTo gs.size (upd q i k)) (by omega) ((gs.map (woken P g g' (w.at d))).setIfInBounds i g') (w.at d) sl' (t++MemOp.ofEvents i g.frame.fn g.frame.place es) (upd q i k) (by rw[hsz])
       (by
        have hne:i≠0:=by omega
        rw[Alz hne,Amv,h0];have:woken P g g' (w.at d) (G fr cs)=G fr cs:=woken_run rfl;simp[this])
       ⟨fun j x hj hx=>by
        by_cases hji:i=j
        ·subst hji;rw[Am7 (by simpa using hlt)]at hx
         obtain rfl:=Aml hx;rw[upd_same,Deaf_own]
         exact hq'
        ·rw[Alz hji,Amv]at hx;obtain⟨y,hy,rfl⟩:=Ami.1 hx;have hqj:=hL.old j y hj hy;rw[woken_quitsD hqj,upd_ne q k (Aoi hji),Deaf_other t hji _ (fun op hop=>by obtain⟨e,_,rfl⟩:=Go.Conc.mem_ofEvents hop;rfl)]
         exact hqj,fun j hj=>by
        rw[Deaf_other t (g':=i) (by simp at hj;omega) _ (fun op hop=>by obtain⟨e,_,rfl⟩:=Go.Conc.mem_ofEvents hop;rfl)]
        exact hL.above j (by simpa using hj)⟩
       (hP.mute (by omega) hm)
      exact⟨N+1,gs',d',sl'',t',q',by simp only[runNT,hst,hrunT];exact k1,k2.trans hsz,k3,k4,k5,fun c ht=>k6 c (Ef ht fun op hop x hx=>by obtain⟨e,he,rfl⟩:=Go.Conc.mem_ofEvents hop;rw[touch_mute (hm e he)]at hx;cases hx),k7⟩
end Co
namespace Co
open Go.Conc Tl Lr Bar
theorem A62 {S:Nat->Prop}{l:Loc}(h:H5 S l):l.isMemory=true:=by
 cases l<;>first|rfl|exact h.elim
theorem A8r {P:Program}{c B0:Nat}{w0 w:World}{gs:Array Goroutine}{t:Trace}{q:Nat->Nat}{L:Nat->Prop}{sl:Option (Nat×Nat)}{fr:Frame}{cs:List Frame}{g1 child:Goroutine}
 (h0:gs[0]?=some (G fr cs)) (hst:stepG P true (G fr cs) w=.spawn g1 child w #[]) (hL:Leavers P t gs q) (hP:Past (fun _=>False) w.heap.size t) (hc:∃s tm,w.heap[c]?=some (.chan 0 #[] false s s tm))
 (al:∀i x,touchAt t i=some x->x.loc≠.obj c) (lo:∀x,L x->B0<=x/\x≠c/\x<w.heap.size) (hcB:B0<=c) (hk:B0<=w.heap.size /\(∀x,x<B0->w.heap[x]?=w0.heap[x]?)/\w.tape=w0.tape/\w.os=w0.os/\w.output=w0.output) :
 ∃gs' ops,runT P (crowd gs w sl) 0=(.next (crowd gs' w sl),ops)/\gs'.size=gs.size+1/\gs'[0]?=some g1/\gs'[gs.size]?=some child/\J8 P c 0 gs.size B0 w0 gs' w (t++ops) q L (fun _=>False) (fun _=>False):=by
 have hrun:=runT_crowd_spawn (P:=P) (sl:=sl) (i:=0) h0 (show stepG P (0 == 0) (G fr cs) w=_ from hst);have hlt:0<gs.size:=(Alx.1 h0).1
 refine⟨_,_,hrun,by simp,?_,?_,?_⟩
 ·rw[Ama,Amd (by simp;omega)]
  exact Am7 hlt
 ·rw[Ama,Amo (by simp)]
 generalize hu:Array.push (Array.push (MemOp.ofEvents 0 (G fr cs).frame.fn (G fr cs).frame.place #[]) { g:=0,fn:=(G fr cs).frame.fn,pos:=(G fr cs).frame.place,act:=.go gs.size }) { g:=gs.size,fn:=child.frame.fn,pos:=(G fr cs).frame.place,act:=.start }=u
 have hq:∀op∈u,(op.act≠.mark .disable/\op.act≠.mark .enable)/\op.act.touch?=none/\op.act.low w.heap.size:=by
  intro op hop;rw[<-hu]at hop;simp[MemOp.ofEvents]at hop
  rcases hop with rfl|rfl
  ·exact⟨⟨by simp,by simp⟩,rfl,trivial⟩
  ·exact⟨⟨by simp,by simp⟩,rfl,trivial⟩
 have ht:∀op∈u,op.act.touch?=none:=fun op h=>(hq op h).2.1
 have hd:∀i,Deaf (t++u) i=Deaf t i:=fun i=>F6 t i u fun op h=>(hq op h).1
 have key:∀(l:List MemOp) (t:Trace),(∀op∈l,op.act.touch?=none) ->(∀said,¬Race said t)->∀said,¬Race said (t++l.toArray):=by
  intro l
  induction l with
  | nil=>intro t _ h;simpa using h
  | cons x l ih =>
    intro t hx h
    have:=ih (t ++#[x]) (fun op y=>hx op (by simp[y])) fun said=>noRace_append (g:=x.g) (h said) (fun op y=>by simp at y;rw[y]) fun i a _ op hop b hb _=>by
     rw[show op=x by simpa using hop,hx x (by simp)]at hb;cases hb
    simpa [Array.append_assoc]using this
 have hn:∀i x,touchAt t i=some x->x.loc.isMemory=true->Knows t 0 i:=fun i x h m=>(hP.known i x h m).resolve_right fun y=>y.1
 refine⟨hc,by omega,by simp,by simp,.inl rfl,?_,?_,?_,?_,fun x hx=>hx.elim,fun x hx=>hx.elim,⟨?_,?_,?_,?_,?_,?_,?_,?_⟩,?_,hk⟩
 ·intro i g hi0 hib hg
  have hlt':i<gs.size:=by
   have:=(Alx.1 hg).1;simp at this
   omega
  rw[Ama,Amd (by simp;omega),Alz (Aoi hi0)]at hg
  rw[hd]
  exact hL.old i g (by omega) hg
 ·intro i hi;rw[hd]
  exact hL.above i (by simp at hi;omega)
 ·rintro x (h|h|rfl)
  ·exact(lo x h).1
  ·exact h.elim
  ·exact hcB
 ·intro x hx
  exact⟨fun h=>h,fun h=>h,(lo x hx).2⟩
 ·have:=key u.toList t (fun op h=>ht op (by simpa using h)) hP.clean
  simpa using this
 ·exact Ul.app ⟨fun i a h hb=>hn i a h (A62 hb),fun i a h hb _=>hn i a h (A62 hb)⟩ ht
 ·exact Ul.app ⟨fun i a h hb=>by cases hl:a.loc<;>(rw[hl]at hb;exact hb.elim),fun i a h hb _=>by cases hl:a.loc<;>(rw[hl]at hb;exact hb.elim)⟩ ht
 ·intro i x hx hm
  rcases Bh hx with h |⟨op,h,_,h2⟩
  ·exact .inl ((hn i x h hm).app u)
  ·rw[ht op h]at h2;cases h2
 ·exact Tg (fun i g h1 h2 _ h3=>hP.over i g h1 h2 h3) fun op h=>.inr (.inr (ht op h))
 ·rw[hd];exact hP.hears
 ·rw[hd];exact hL.above _ (Am0 _)
 ·exact seen_app hP.seen fun op h=>(hq op h).2.2
 ·exact Ef al fun op h x hx=>by rw[ht op h]at hx;cases hx
end Co
namespace Co
open Go.Conc Tl Lr Bar
theorem On {P:Program}{gs:Array Goroutine}{w w1:World}{sl:Option (Nat×Nat)}{t:Trace}{q:Nat->Nat}{fr fr1:Frame}{cs cs1:List Frame}{n:Array Event}{L L1 R:Nat->Prop}
 (h0:gs[0]?=some (G fr cs)) (hst:stepG P true (G fr cs) w=.go (G fr1 cs1) w1 n) (hdid:Did L R w L1 w1 n) (hR:∀b,R b->b<w.heap.size) (hL:Leavers P t gs q) (hP:Past (fun _=>False) w.heap.size t) :
 ∃gs' ops,runT P (crowd gs w sl) 0=(.next (crowd gs' w1 sl),ops)/\gs'.size=gs.size/\gs'[0]?=some (G fr1 cs1)/\Leavers P (t++ops) gs' q/\Past (fun _=>False) w1.heap.size (t++ops):=by
 have hrunT:=runT_crowd_go (P:=P) (sl:=sl) (i:=0) h0 (show stepG P (0 == 0) (G fr cs) w=_ from hst);have hlt:0<gs.size:=(Alx.1 h0).1
 refine⟨_,_,hrunT,by simp,Am7 (by simpa using hlt),⟨fun j x hj hx=>?_,fun j hj=>?_⟩,(hP.mono hdid.size).own fun e he=>Kk (hdid.evs e he) hdid.lt fun b hb=>Am2 (hR b hb) hdid.size⟩
 ·have hne:0≠j:=by omega
  rw[Alz hne,Amv]at hx;obtain⟨y,hy,rfl⟩:=Ami.1 hx;have hq:=hL.old j y hj hy;rw[woken_quitsD hq,Deaf_other t (by omega) _ (fun op hop=>by obtain⟨e,_,rfl⟩:=Go.Conc.mem_ofEvents hop;rfl)]
  exact hq
 ·rw[Deaf_other t (g':=0) (by simp at hj;omega) _ (fun op hop=>by obtain⟨e,_,rfl⟩:=Go.Conc.mem_ofEvents hop;rfl)]
  exact hL.above j (by simpa using hj)
end Co
namespace Co
open Go.Conc Tl Lr Bar
open Go.ConcN (sumTo)
def Ends (P:Program)(Post:Value->World->Prop)(gs:Array Goroutine)(w:World)(sl:Option (Nat×Nat))(t:Trace):Prop :=
 ∃N last o w' t',runNT P (N+1) (crowd gs w sl) t=(.ended o w',t')/\runN P N (crowd gs w sl)=.next last/\step P last=.ended o w'/\Conc.Good P Post last o w' t'
theorem Ends.ran {P:Program}{Post:Value->World->Prop}{gs gs':Array Goroutine}{w w':World}{sl sl':Option (Nat×Nat)}{t t':Trace}(h:Ia P gs w sl t gs' w' sl' t')(k:Ends P Post gs' w' sl' t'):Ends P Post gs w sl t:=by
 obtain⟨M,h⟩:=h;obtain⟨N,last,o,w1,t1,h1,h2,h3,h4⟩:=k
 refine⟨M+N,last,o,w1,t1,by rw[Nat.add_assoc,runNT_add,h];exact h1,?_,h3,h4⟩
 have e:runNT P (M+N) (crowd gs w sl) t=runNT P N (crowd gs' w' sl') t':=by rw[runNT_add,h]
 rw[<-runNT_fst _ _ _ t,e,runNT_fst]
 exact h2
structure Kept (X:Cx)(m0:Nat)(w0:World)(S:Nat->Prop)(B:Lk)(w:World):Prop where
 low:∀x y,B x y->¬X.F x->m0<=y\/S y
 size:m0<=w.heap.size
 old:∀x,x<m0->¬S x->w.heap[x]?=w0.heap[x]?
 tape:w.tape=w0.tape
 os:w.os=w0.os/\w.output=w0.output
theorem Kept.at {X:Cx}{m0:Nat}{w0 w:World}{S:Nat->Prop}{B:Lk}(h:Kept X m0 w0 S B w)(d:Nat):Kept X m0 w0 S B (w.at d):=⟨h.low,h.size,h.old,h.tape,h.os⟩
theorem Kept.step {X:Cx}{m0:Nat}{w0 w V V1 W1:World}{S:Nat->Prop}{B B':Lk}{n:Array Event}(h:Kept X m0 w0 S B w)(hx:Ext X B V w B' V1 W1)(hd:Did (Ew X B) (Jj X B) w (Ew X B') W1 n):Kept X m0 w0 S B' W1 where
 low x y k hf:=(hx.new x y k).elim (fun z=>h.low x y z hf) fun z=>.inl (Am1 h.size z.2)
 size:=Am1 h.size hd.size
 old x k hs:=(hd.kept x (Am2 k h.size) fun⟨a,h1,_,hf⟩=>(h.low a x h1 hf).elim (Nat.not_le.2 k) hs).trans (h.old x k hs)
 tape:=hd.tape.trans h.tape
 os:=⟨hd.os.1.trans h.os.1,hd.os.2.trans h.os.2⟩
def Sim (X:Cx)(P':Program)(m0:Nat)(w0:World)(S:Nat->Prop)(Post:Value->World->Prop)(x:St):Prop :=
 ∀(B:Lk) (τ:Tape) (d:Nat) (gs:Array Goroutine) (w:World) (sl:Option (Nat×Nat)) (t:Trace) (q:Nat->Nat) (fr':Frame) (cs':List Frame),WR X B (x.at τ d).V w->Dj X B x.fr fr'->J7 X B x.cs cs'->Cb x.fr x.cs=(none,.normal)->Kept X m0 w0 S B w ->
  gs[0]?=some (G fr' cs')->Leavers P' t gs q->Past (fun _=>False) w.heap.size t->Ends P' Post gs w sl t
def A9u (X:Cx)(P P':Program)(F:St->Prop)(m0:Nat)(w0:World)(S:Nat->Prop)(Post:Value->World->Prop):Prop :=
 ∀(f:FuncId) (p p':Array Value) (c:Frame) (cs:List Frame) (V:World) (B:Lk) (gs:Array Goroutine) (w:World) (sl:Option (Nat×Nat)) (t:Trace) (q:Nat->Nat) (cs':List Frame),X.T f/\X.Ar f p.size->Bar.Way P F ⟨Frame.enter P f p .normal,c :: cs,V⟩ ->(∀y,Bar.Sub P ⟨Frame.enter P f p .normal,c :: cs,V⟩ y->Sim X P' m0 w0 S Post y) ->
  Cb (Frame.enter P f p .normal) (c :: cs)=(none,.normal)->Kept X m0 w0 S B w->WR X B V w->AR X B p p'->J7 X B (c :: cs) cs'->gs[0]?=some (G (Frame.enter P' f p' .normal) cs')->Leavers P' t gs q->Past (fun _=>False) w.heap.size t->Ends P' Post gs w sl t
section
variable {X : Cx} {P P' : Program} {F : St -> Prop} {m0 : Nat} {w0 : World} {S : Nat -> Prop} {Post : Value -> World -> Prop}
theorem Ac5 (H:Whole X P P')(hpart:A9u X P P' F m0 w0 S Post)(x:St)(g:Tape->Nat->St)(hg:∀τ d,Zg P (x.at τ d) (g τ d))(hway:∀τ d,Bar.Way P F (g τ d))(ih:∀τ d y,Bar.Sub P (g τ d) y->Sim X P' m0 w0 S Post y):Sim X P' m0 w0 S Post x:=by
 intro B τ d gs w sl t q fr' cs' hw hf hc hb hkp h0 hL hP;obtain⟨N5,gs5,d5,sl5,t5,q5,j1,j2,j3,j4,j5,_,d6,sl6,j6⟩:=R9 (P:=P') (sumTo gs.size q) gs w sl t q rfl h0 hL hP;have hw3:WR X B (x.at w.tape d6).V (w.at d6):=A34 hw w.tape d6;have hgo:=hg w.tape d6;have hp:=hgo.Ks;have hd1:=ih w.tape d6;have hd2:=hway w.tape d6;generalize g w.tape d6=z at hgo hd1 hd2;obtain⟨es,hgo⟩:=hgo;obtain⟨c1,c1',fr1',B',W1,n,e1,e2,hx,hw1,hn,hst⟩:=(Z5 H hw3 (base:=[wall P]) (base':=[]) hf hc ⟨.inl (by rw[hb]),.inl (by rw[hb])⟩ (We hp (by rw[hb])) true true).1 _ _ _ _ hgo
 obtain rfl:=Anr e1;have hbt:=(U6 H hw3 (base:=[wall P]) hf hc (.inl (by rw[hb])) (We hp (by rw[hb])) true _ _ _ _ hgo).trans hb
 rw[Aqu,Aqu]at e2;have hdid:=Xr hw3 hw1 hx hn;have hkp1:=(hkp.at d6).step hx hdid;obtain⟨gs7,ops,i1,i2,i3,i4,i5⟩:=On (sl:=sl6) (w:=w.at d6) j3 e2 hdid (fun b ⟨a,h1,_⟩=>hw3.ltW h1) j4 j5
 refine Ends.ran (Ia.trans ⟨N5,j1⟩ (Ia.head (by rw[j6];exact i1) .refl)) ?_
 rcases hst with⟨g1,g2⟩ |⟨f,p,p',k,ht,⟨hk,hne⟩,ef,ef',hpp,hcc⟩
 ·exact hd1 z (.refl z) B' z.V.tape z.V.drawn gs7 W1 sl6 _ q5 fr1' c1' hw1 g1 g2 hbt hkp1 i3 i4 i5
 ·subst hk;obtain⟨zf,zc,zV⟩:=z;dsimp only at ef hne hcc hw1 hbt hd1 hd2;subst ef ef'
  cases zc with
  | nil=>exact absurd rfl hne
  | cons c0 cs0=>exact hpart f p p' c0 cs0 zV B' gs7 W1 sl6 _ q5 c1' ht hd2 hd1 hbt hkp1 hw1 hpp hcc i3 i4 i5
theorem Aex (H:Whole X P P'){Q:Value->World->Prop}(hQ:∀v w τ d,Q v w->Q v { w with tape:=τ,drawn:=d })(hpost:∀B V v v' W,Q v V->VR X B v v'->WR X B V W->Kept X m0 w0 S B W->Post v' W){x:St}(hx:Fin P Q x)(hm:P'.inits.idxOf? x.fr.fn=none):Sim X P' m0 w0 S Post x:=by
 intro B τ d gs w sl t q fr' cs' hw hf hc hb hkp h0 hL hP;obtain⟨h1,v,⟨g1,g2,g3,fn,g4,g5⟩,hq⟩:=hx;obtain rfl:cs'=[]:=by rw[h1]at hc;cases hc;rfl
 have hm':fr'.mode=.returning:=by
  have:=hf.mode;rw[g1]at this;generalize fr'.mode=q at this
  cases this
  rfl
 have hd':fr'.defers=[]:=by
  have:=hf.defers;rw[g2]at this;generalize fr'.defers=q at this
  cases this
  rfl
 have hk':fr'.kind=.normal:=hf.kind.trans g3
 obtain⟨fn',e5,hres⟩:∃fn',P'.funcs[x.fr.fn]?=some fn'/\fn'.results=fn.results:=by
  rcases H.hF.funcs x.fr.fn with⟨e1,e2⟩ |⟨f1,f2,e1,e2,hn,hr,_⟩
  ·rw[g4]at e1;cases e1
  ·rw[g4]at e1;cases e1;exact⟨f2,e2,hr⟩
 refine beside_ends (Shun:=fun _=>False) (B:=w.heap.size) (D:=fun _ _ _=>False) (n:=0) (fun _ _ _ h=>h.elim) h0 hL hP ?_
 rintro w2 ⟨d2,rfl⟩;have hw2:WR X B (x.at w.tape d2).V (w.at d2):=A34 hw w.tape d2
 have g6:=Gu H hw (fr':=fr') hf g4 (fr:=x.fr) (V:=(x.at τ d).V) (v:=v) (by
  have:=Gu H (A34 (τ:=x.V.tape) (d:=x.V.drawn) hw) hf g4 g5 τ d
  exact this) w.tape d2
 have g6:(results fn x.fr.tmps).run P (x.at w.tape d2).V=.ok v (x.at w.tape d2).V:=g6
 rcases Is (Gx H.hF.toPRel hres hf.tmps) hw2 with⟨a,V1,B1,W1,b,n,e1,e2,hx,hw1,hab,hn⟩ |⟨v,V1,B1,W1,v',n,e1,e2,hx,hw1,hab,hn⟩ |⟨h,V1,e1,hm⟩
 ·rw[g6]at e1;injection e1 with e1 e3
  subst e1 e3
  have hW:W1=w.at d2:=by
   have:=e2 #[];rw[Sem.runT_eq]at this
   exact Ro.results fn' fr'.tmps (w.at d2) b W1 (congrArg Prod.fst this)
  subst hW;have hdid:=Xr hw2 hw1 hx (hn.seen (P':=P') fr'.fn)
  refine⟨rfl,b,seen P' fr'.fn n,?_,fun e he=>Kk (hdid.evs e he) hdid.lt fun z ⟨y,hy,_⟩=>hw2.ltW hy,hpost _ _ _ _ _ (hQ _ _ w.tape d2 hq) hab hw1 ((hkp.at d2).step hx hdid)⟩
  rw[Ck (by rw[hm'];simp)]
  unfold unwind;rw[hd',hm',hf.fn,e5];dsimp only;rw[e2 #[],Ang];dsimp only;unfold doReturn;rw[hk'];rw[<-hf.fn]at hm;simp[GStep.after,hm]
 ·rw[g6]at e1;cases e1
 ·rw[g6]at e1;cases e1
theorem sim (H:Whole X P P'){Q:Value->World->Prop}(hpart:A9u X P P' F m0 w0 S Post)(hQ:∀v w τ d,Q v w->Q v { w with tape:=τ,drawn:=d })(hF:∀x,F x->Fin P Q x/\P'.inits.idxOf? x.fr.fn=none)(hpost:∀B V v v' W,Q v V->VR X B v v'->WR X B V W->Kept X m0 w0 S B W->Post v' W){x:St}(h:Bar.Way P F x):Sim X P' m0 w0 S Post x :=
 Afh (fun x h=>Fin.pop (hF x h).1) (fun x h=>Aex H hQ hpost (hF x h).1 (hF x h).2) (fun x g hg hw ih=>Ac5 H hpart x g hg hw ih) h x (.refl x)
theorem Aij {XV:Cx}{PV:Program}(HV:Whole XV PV PV)(hT:∀f,¬XV.T f){Q:Value->World->Prop}(hQ:∀v w τ d,Q v w->Q v { w with tape:=τ,drawn:=d }){f:FuncId}{args:Array Value}{V:World}(hj:JL XV ⟨Frame.enter PV f args .normal,[],V⟩)
 (h:∀τ d,Calls PV f args { V with tape:=τ,drawn:=d } (only Q)):Bar.Way PV (fun x=>Fin PV Q x/\x.fr.fn=f) ⟨Frame.enter PV f args .normal,[],V⟩:=by
 have K:Vk PV (fun x=>Fin PV Q x/\x.fr.fn=f) (JL XV):=A19 HV hT fun x τ d hj hx=>⟨A7l HV hQ x τ d hj hx.1,hx.2⟩
 refine bar K hj fun τ d=>?_
 obtain⟨e,w',fr,hr,hs,hf,hl⟩:=h τ d [wall PV]
 cases e with
 | returned v =>
   obtain⟨n,hs⟩:=hs
   exact X8 K (z:=⟨fr,[],w'⟩) ⟨⟨rfl,v,hl,hr⟩,hf⟩ n _ (K.tape _ τ d hj) hs
 | panicked chain=>exact hr.elim
 | outgrown=>exact hr.elim
end
end Co
section
open Go.RowKit
def Bp (w w':World):Prop:=∃n,w'=w.drewN n
theorem Bp.refl (w:World):Bp w w:=⟨0,rfl⟩
theorem Bp.trans {a b c:World}(h:Bp a b)(k:Bp b c):Bp a c:=by
 obtain⟨n,rfl⟩:=h;obtain⟨m,rfl⟩:=k
 exact⟨n+m,by rw[World.drewN_drewN]⟩
theorem Bp.drewN {a b:World}(h:Bp a b)(n:Nat):Bp a (b.drewN n):=h.trans ⟨n,rfl⟩
theorem Bp.drew {a b:World}(h:Bp a b):Bp a b.drew:=h.trans ⟨1,rfl⟩
theorem Bp.below {a b:World}(h:Bp a b)(B:Nat):Below B a b:=by
 obtain⟨n,rfl⟩:=h
 exact⟨rfl,rfl,rfl,Am0 _,fun _ _=>rfl⟩
theorem Bp.heap {a b:World}(h:Bp a b):b.heap=a.heap:=by obtain⟨n,rfl⟩:=h;rfl
theorem below_drewN {B:Nat}{a w:World}(h:Below B a w)(n:Nat):Below B a (w.drewN n):=⟨h.os,h.tape,h.output,h.size,h.block⟩
structure A7 (w0:World)(b:Nat)(C:Array Value)(T:TypeId)(W:World):Prop where
 blk:W.heap[b]?=some (.cells C T (0,0))
 old:Below w0.heap.size w0 W
theorem A7.new (w:World)(C:Array Value)(T:TypeId):A7 w w.heap.size C T (w.alloc (.cells C T)) :=
 ⟨(MapKept.heap_alloc w _).1,(Amc _ _).alloc (Am0 _) _⟩
theorem A7.lt {w0 W:World}{b:Nat}{C:Array Value}{T:TypeId}(h:A7 w0 b C T W):b<W.heap.size:=(Alx.1 h.blk).1
theorem A7.step {w0 W W':World}{b:Nat}{C:Array Value}{T:TypeId}(h:A7 w0 b C T W)(k:Below W.heap.size W W'):A7 w0 b C T W' :=
 ⟨(k.block b h.lt).trans h.blk,h.old.trans (k.mono h.old.size)⟩
theorem A7.alloc {w0 W:World}{b:Nat}{C:Array Value}{T:TypeId}(h:A7 w0 b C T W)(o:Obj):A7 w0 b C T (W.alloc o) :=
 h.step ((Amc _ _).alloc (Am0 _) _)
theorem A7.cell {w0 W:World}{b:Nat}{C:Array Value}{T:TypeId}(h:A7 w0 b C T W)(j:Nat)(v:Value)(hv:C[j]?=some v):W.cell? ⟨b,j,none⟩=some v:=by
 simp[World.cell?,h.blk,hv]
theorem A7.frozen {w0 W:World}{b:Nat}{C:Array Value}{T:TypeId}(h:A7 w0 b C T W)(j:Nat):W.frozen? ⟨b,j,none⟩=false:=by
 simp[World.frozen?,h.blk]
theorem Hf {k:IntKind}{a b:Int}(h:a=b):Ending.returned (.int k a)=.returned (.int k b):=by rw[h]
theorem Tm {a b:Bool}(h:a=b):Ending.returned (.bool a)=.returned (.bool b):=by rw[h]
theorem Agy (s:ByteArray):s.data.toList.length=s.size:=Array.length_toList
theorem Adk (s:ByteArray)(j:Nat)(h:j<s.size):s[j]=s.data.toList.getD j 0:=by
 have h':j<s.data.toList.length:=by rw[Agy];exact h
 rw[List.getD_eq_getElem?_getD,Amw h']
 rfl
end
end Go.Proofs.YtjaehldnlamgkaaGreatDoor
