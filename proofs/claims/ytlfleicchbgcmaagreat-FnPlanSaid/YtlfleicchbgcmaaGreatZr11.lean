import Derived.Test.YtlfleicchbgcmaaGreatZr10
import Derived.Calls
import Derived.Test.YtlfleicchbgcmaaGreatZr1
import Derived.Test.YtlfleicchbgcmaaGreatZr0
set_option linter.all false
set_option maxHeartbeats 16000000
set_option maxRecDepth 100000
namespace Go.Proofs.YtlfleicchbgcmaaGreat
namespace Bar
open Go.Conc Tl Lr
structure St where
 fr:Frame
 cs:List Frame
 V:World
def St.at (x:St)(τ:Tape)(d:Nat):St:={ x with V:={ x.V with tape:=τ,drawn:=d } }
def wall (P:Program):Frame:={ fn:=P.funcs.size,tmps:=#[],todo:=[.code (.refuse "")],defers:=[⟨.nil,#[]⟩],mode:=.run,kind:=.normal }
def sg (P:Program)(x:St):GStep:=stepG P true (G x.fr (x.cs++[wall P])) x.V
def Go1 (P:Program)(x x':St):Prop:=∃es,sg P x=.go (G x'.fr (x'.cs++[wall P])) x'.V es
def Wj (x:St):Prop:=x.cs=[]/\x.fr.mode≠.run/\x.fr.defers=[]
def Fin (P:Program)(Q:Value->World->Prop)(x:St):Prop:=x.cs=[]/\∃v,x.fr.leaving P x.V (.returned v)/\Q v x.V
inductive Way (P:Program)(F:St->Prop):St->Prop
 | fin {x:St}:F x->Way P F x
 | go {x:St} (g:Tape->Nat->St):(∀τ d,Go1 P (x.at τ d) (g τ d)) ->(∀τ d,Way P F (g τ d))->Way P F x
inductive Rch (P:Program)(F:St->Prop):St->Prop
 | fin {x:St}:F x->Rch P F x
 | step {x x':St}:Go1 P x x'->Rch P F x'->Rch P F x
structure Wh (P:Program)(F J:St->Prop):Prop where
 tape:∀x τ d,J x->J (x.at τ d)
 step:∀x,J x->¬Wj x ->(∃x',Go1 P x x'/\J x')\/∃o w es,sg P x=.ended o w es
 loc:∀x,J x->¬Wj x->∀τ a b lim,Fc τ a b lim x.V->Tl1 τ a b lim x.V (sg P x) (sg P { x with V:=Ed τ a b x.V })
 fin:∀x τ d,J x->F x->F (x.at τ d)
section
variable {P : Program} {Q : Value -> World -> Prop} {F J : St -> Prop}
theorem Go1.inj {x y z:St}(h:Go1 P x y)(k:Go1 P x z):y=z:=by
 obtain⟨es,h⟩:=h;obtain⟨es',k⟩:=k;rw[h]at k;injection k with k1 k2 _
 injection k1 with k3 k4 _ _
 have k5:=Ar5 k4;obtain⟨a,b,c⟩:=y;obtain⟨a',b',c'⟩:=z;dsimp only at k2 k3 k5;subst k2 k3 k5
 rfl
theorem Fin.pop {x:St}(h:Fin P Q x):Wj x:=by
 obtain⟨h1,v,⟨h2,h3,_⟩,_⟩:=h
 exact⟨h1,by rw[h2];simp,h3⟩
theorem Adh {x:St}(h:Wj x):sg P x=unwind P true x.fr [wall P] none x.V:=by
 unfold sg;rw[h.1]
 exact Df h.2.1
theorem Aif {x:St}(h:Wj x){fr:Frame}{cs:List Frame}{w:World}{es:Array Event}(k:sg P x=.go (G fr cs) w es):cs=[]:=by
 rw[Adh h]at k;unfold unwind at k;rw[h.2.2]at k;dsimp only at k
 have ret:∀(v:Value) (w1:World) (es1:Array Event),doReturn P true x.fr [wall P] none v w1=.go (G fr cs) w es1->cs=[]:=by
  intro v w1 es1 e;unfold doReturn at e;dsimp only at e
  cases hk:x.fr.kind<;>rw[hk]at e<;>(injection e with e1;injection e1 with _ e2;exact e2.symm)
 split at k
 ·cases k
 ·split at k
  ·cases k
  ·injection k with e1;injection e1 with _ e2;exact e2.symm
 ·split at k
  ·exact ret _ _ _ k
  ·obtain⟨es2,k,_⟩:=Jg k
   split at k
   ·exact ret _ _ _ k
   ·cases k
   ·cases k
theorem Go1.Mk {x x':St}(h:Go1 P x x'):¬Wj x:=fun hp=>by
 obtain⟨es,h⟩:=h;have:=Aif hp h;simp at this
theorem Ad6 (K:Wh P F J){x:St}(h:Rch P F x):J x->∀(τ:Tape) (a b:Nat),a<=x.V.drawn ->(∀n q,x.V.drawn<=n->τ (n-a+b) q=x.V.tape n q)->Rch P F { x with V:=Ed τ a b x.V }:=by
 induction h with
 | @fin x h =>
   intro hj τ a b _ _
   exact .fin (K.fin x τ (x.V.drawn-a+b) hj h)
 | @step x x' h _ ih =>
   intro hj τ a b ha hA;have hp:=h.Mk
   have hj':J x':=by
    rcases K.step x hj hp with⟨y,g,hy⟩ |⟨o,w,es,e⟩
    ·exact(h.inj g)▸hy
    ·obtain⟨es',h⟩:=h;rw[e]at h
     cases h
   obtain⟨es,h⟩:=h;obtain⟨⟨g1,g2⟩,g3⟩:=K.loc x hj hp τ a b x'.V.drawn ⟨ha,fun n q h1 _=>hA n q h1⟩ _ _ _ _ h
   exact .step (x':={ x' with V:=Ed τ a b x'.V }) ⟨es,g3 (Ap0 _)⟩ (ih hj' τ a b (Ap3 ha g1) fun n q h1=>by rw[g2];exact hA n q (Ap3 g1 h1))
def C (P:Program)(F:St->Prop)(x:St):Prop:=∀τ d,Rch P F (x.at τ d)
theorem inherit (K:Wh P F J){x:St}(hj:J x)(hc:C P F x)(hn:¬F x)(τ:Tape)(d:Nat):∃x',Go1 P (x.at τ d) x'/\J x'/\C P F x':=by
 have nofin:∀τ d,¬F (x.at τ d):=fun τ d h=>hn (by have:=K.fin _ x.V.tape x.V.drawn (K.tape x τ d hj) h;exact this)
 have hj1:=K.tape x τ d hj;have h1:=hc τ d;generalize hx1:x.at τ d=x1 at h1 hj1
 cases h1 with
 | fin h=>exact absurd (hx1▸h) (nofin τ d)
 | @step _ x' h hr =>
   have hp:=h.Mk
   have hj':J x':=by
    rcases K.step x1 hj1 hp with⟨y,g,hy⟩ |⟨o,w,es,e⟩
    ·exact(h.inj g)▸hy
    ·obtain⟨es',h⟩:=h;rw[e]at h
     cases h
   refine⟨x',h,hj',fun τ' d'=>?_⟩
   let T:Tape:=fun k q=>if k<x'.V.drawn then τ k q else τ' (k-x'.V.drawn+d') q
   have hd1:x1.V.drawn=d:=by rw[<-hx1];rfl
   have ht1:x1.V.tape=τ:=by rw[<-hx1];rfl
   obtain⟨es,h0⟩:=h
   obtain⟨⟨g1,g2⟩,g3⟩:=K.loc x1 hj1 hp T d d x'.V.drawn ⟨As8 hd1.symm,fun n q h1 h2=>by
    rw[ht1];have e:n-d+d=n:=by omega
    show(if n-d+d<x'.V.drawn then τ (n-d+d) q else _)=_
    rw[e,Apb h2]⟩ _ _ _ _ h0
   have hgo:Go1 P (x.at T d) { x' with V:=Ed T d d x'.V }:=by
    refine⟨es,?_⟩
    rw[<-g3 (Ap0 _)]
    have:x.at T d={ x1 with V:=Ed T d d x1.V }:=by
     rw[<-hx1];simp[St.at,Ed]
    rw[this]
   have h2:=hc T d;generalize hx2:x.at T d=x2 at h2 hgo
   cases h2 with
   | fin h=>exact absurd (hx2▸h) (nofin T d)
   | @step _ y hy hr2 =>
     have e:=hgo.inj hy;subst e;have hj2:J { x' with V:=Ed T d d x'.V }:=K.tape x' T (x'.V.drawn-d+d) hj'
     have:=Ad6 K hr2 hj2 τ' x'.V.drawn d' (by show x'.V.drawn<=x'.V.drawn-d+d;omega) (fun n q h=>by
      have h:x'.V.drawn-d+d<=n:=h
      show τ' (n-x'.V.drawn+d') q=if n<x'.V.drawn then τ n q else τ' (n-x'.V.drawn+d') q
      rw[Ap8 (by omega)])
     have e3:x'.V.drawn-d+d-x'.V.drawn+d'=d':=by omega
     have e2:({ x' with V:=Ed τ' x'.V.drawn d' (Ed T d d x'.V) }:St)=x'.at τ' d':=by
      simp only[Ed,St.at,e3]
     exact e2▸this
theorem bar (K:Wh P F J){x:St}(hj:J x)(hc:C P F x):Way P F x:=by
 apply Classical.byContradiction
 intro hw
 have next:∀y:{y:St // J y/\C P F y/\¬Way P F y},∃(r:Tape×Nat×{y:St // J y/\C P F y/\¬Way P F y}),Go1 P (y.1.at r.1 r.2.1) r.2.2.1:=by
  rintro⟨y,hj,hc,hw⟩;have hnf:¬F y:=fun h=>hw (.fin h)
  apply Classical.byContradiction
  intro hcon
  have:∀τ d,∃x',Go1 P (y.at τ d) x'/\Way P F x':=by
   intro τ d;obtain⟨x',g,j,c⟩:=inherit K hj hc hnf τ d
   exact⟨x',g,Classical.byContradiction fun hw'=>hcon ⟨(τ,d,⟨x',j,c,hw'⟩),g⟩⟩
  exact hw (.go (fun τ d=>(this τ d).choose) (fun τ d=>(this τ d).choose_spec.1) (fun τ d=>(this τ d).choose_spec.2))
 let f:{y:St // J y/\C P F y/\¬Way P F y}->Tape×Nat×{y:St // J y/\C P F y/\¬Way P F y}:=fun y=>(next y).choose
 have hf:∀y,Go1 P (y.1.at (f y).1 (f y).2.1) (f y).2.2.1:=fun y=>(next y).choose_spec
 let seq:Nat ->{y:St // J y/\C P F y/\¬Way P F y}:=fun n=>Nat.rec ⟨x,hj,hc,hw⟩ (fun _ y=>(f y).2.2) n
 let t:Nat->Tape:=fun n=>(f (seq n)).1
 let d:Nat->Nat:=fun n=>(f (seq n)).2.1
 have hgo:∀n,Go1 P ((seq n).1.at (t n) (d n)) (seq (n+1)).1:=fun n=>hf (seq n)
 let k:Nat->Nat:=fun n=>Nat.rec 0 (fun n k=>k +((seq (n+1)).1.V.drawn-d n)) n
 have hk:∀n,k (n+1)=k n +((seq (n+1)).1.V.drawn-d n):=fun n=>rfl
 have hmono:∀n m,n<=m->k n<=k m:=by
  intro n m h
  induction h with
  | refl=>exact Ap0 _
  | step _ ih=>exact Ap3 ih (by rw[hk];omega)
 have huniq:∀n m i,k n<=i->i<k (n+1)->k m<=i->i<k (m+1)->n=m:=by
  intro n m i h1 h2 h3 h4
  rcases Atk n m with h|h|h
  ·have:=hmono (n+1) m h
   omega
  ·exact h
  ·have:=hmono (m+1) n h
   omega
 let T:Tape:=fun i q=>open Classical in if h:∃n,k n<=i/\i<k (n+1)then t h.choose (d h.choose +(i-k h.choose)) q else 0
 have hT:∀n i q,k n<=i->i<k (n+1)->T i q=t n (d n +(i-k n)) q:=by
  intro n i q h1 h2;have h:∃n,k n<=i/\i<k (n+1):=⟨n,h1,h2⟩;have e:h.choose=n:=huniq _ _ i h.choose_spec.1 h.choose_spec.2 h1 h2
  show(open Classical in if h:∃n,k n<=i/\i<k (n+1)then t h.choose (d h.choose +(i-k h.choose)) q else 0)=_
  rw[dif_pos h,e]
 have main:∀z,Rch P F z->∀n,z=(seq n).1.at T (k n)->False:=by
  intro z h
  induction h with
  | @fin z h =>
    intro n e;subst e
    refine(seq n).2.2.2 (.fin ?_)
    have:=K.fin _ (seq n).1.V.tape (seq n).1.V.drawn (K.tape _ T (k n) (seq n).2.1) h
    exact this
  | @step z z' h _ ih =>
    intro n e;subst e;have hg:=hgo n;have hp:=hg.Mk;have hj0:=K.tape _ (t n) (d n) (seq n).2.1;obtain⟨es,hg⟩:=hg
    have hA:Fc T (d n) (k n) (seq (n+1)).1.V.drawn ((seq n).1.at (t n) (d n)).V:=by
     refine⟨Ap0 _,fun m q h1 h2=>?_⟩
     have h1:d n<=m:=h1
     show T (m-d n+k n) q=t n m q
     rw[hT n _ q (by omega) (by rw[hk];omega)]
     congr 1
     omega
    obtain⟨⟨g1,g2⟩,g3⟩:=K.loc _ hj0 hp T (d n) (k n) _ hA _ _ _ _ hg;have g1:d n <=(seq (n+1)).1.V.drawn:=g1
    have e1:({ (seq n).1.at (t n) (d n)with V:=Ed T (d n) (k n) ((seq n).1.at (t n) (d n)).V }:St)=(seq n).1.at T (k n):=by
     simp[St.at,Ed]
    have g4:=g3 (Ap0 _);rw[e1]at g4
    have e2:z'=(seq (n+1)).1.at T (k (n+1)):=by
     refine h.inj ⟨es,?_⟩
     rw[g4]
     have e3:(seq (n+1)).1.V.drawn-d n+k n=k (n+1):=by
      rw[hk];omega
     simp only[St.at,Ed,e3]
    exact ih (n+1) e2
 exact main _ (hc T 0) 0 rfl
theorem Aec (w:World):∃o w1,step P (lone (wall P) [] w)=.ended o w1:=⟨_,_,step_lone_ended (o:=_) (w':=w) (by rfl)⟩
theorem A6i (chain:List PanicEntry)(w:World):∃o w1,step P (lone ((wall P).raise chain) [] w)=.ended o w1:=⟨_,_,step_lone_ended (o:=_) (w':=w) (by rfl)⟩
theorem A33 {x:St}(h:Wj x):(∃o w,step P (lone x.fr [wall P] x.V)=.ended o w)\/∃fr w o w1,step P (lone x.fr [wall P] x.V)=.next (lone fr [] w)/\step P (lone fr [] w)=.ended o w1:=by
 have e:=Adh (P:=P) h;unfold sg at e;rw[h.1]at e;have e:stepG P true { frame:=x.fr,callers:=[wall P],status:=.running,dying:=none } x.V=unwind P true x.fr [wall P] none x.V:=e
 have ended:∀{o:Outcome} {w:World} {es:Array Event},unwind P true x.fr [wall P] none x.V=.ended o w es->∃o w,step P (lone x.fr [wall P] x.V)=.ended o w:=fun{o w es} k =>
  ⟨o,w,step_lone_ended (by rw[e,k];rfl)⟩
 have gone:∀{fr:Frame} {w:World} {es:Array Event},unwind P true x.fr [wall P] none x.V=.go (G fr []) w es->step P (lone x.fr [wall P] x.V)=.next (lone fr [] w):=fun{fr w es} k =>
  step_lone_go (by rw[e,k];rfl)
 have ret:∀(v:Value) (w1:World),∃fr o w2,doReturn P true x.fr [wall P] none v w1=.go (G fr []) w1/\step P (lone fr [] w1)=.ended o w2:=by
  intro v w1;unfold doReturn;dsimp only;obtain⟨o,w2,h2⟩:=Aec (P:=P) w1
  cases hk:x.fr.kind<;>exact⟨wall P,o,w2,rfl,h2⟩
 generalize hu:unwind P true x.fr [wall P] none x.V=r at ended gone;unfold unwind at hu;rw[h.2.2]at hu;dsimp only at hu
 split at hu
 ·exact absurd ‹_› h.2.1
 ·split at hu
  ·exact .inl (ended hu.symm)
  ·rename_i chain _ _
   obtain⟨o,w2,h2⟩:=A6i (P:=P) chain x.V
   exact .inr ⟨_,_,o,w2,gone hu.symm,h2⟩
 ·split at hu
  ·obtain⟨fr,o,w2,h2,h3⟩:=ret (x.fr.tmps.getD 0 undef) x.V;rw[h2]at hu
   exact .inr ⟨_,_,o,w2,gone hu.symm,h3⟩
  ·split at hu
   ·rename_i v w1 _
    obtain⟨fr,o,w2,h2,h3⟩:=ret v w1;rw[h2]at hu
    exact .inr ⟨_,_,o,w2,gone hu.symm,h3⟩
   ·exact .inl (ended hu.symm)
   ·exact .inl (ended hu.symm)
theorem Yb (K:Wh P F J){z:St}(hf:F z):∀(n:Nat) (x:St),J x->runN P n (lone x.fr (x.cs++[wall P]) x.V)=.next (lone z.fr (z.cs++[wall P]) z.V)->Rch P F x:=by
 intro n
 induction n with
 | zero =>
   intro x _ h;simp only[runN]at h;injection h with h
   injection h with h1 h2 _
   have h2:(#[{ frame:=x.fr,callers:=x.cs++[wall P],status:=.running,dying:=none }]:Array Goroutine)=#[{ frame:=z.fr,callers:=z.cs++[wall P],status:=.running,dying:=none }]:=h2;simp only[Array.mk.injEq,List.cons.injEq,Goroutine.mk.injEq,and_true]at h2;obtain⟨a,b,c⟩:=x;obtain⟨a',b',c'⟩:=z;dsimp only at h1 h2;obtain⟨rfl,h3⟩:=h2;subst h1;have h3:=Ar5 h3;subst h3
   exact .fin hf
 | succ n ih =>
   intro x hj h;simp only[runN]at h
   by_cases hp:Wj x
   ·rw[hp.1]at h
    rcases A33 (P:=P) hp with⟨o,w,e⟩ |⟨fr1,w,o,w1,e1,e2⟩
    ·rw[Asd,e]at h
     cases h
    ·rw[Asd,e1]at h;dsimp only at h
     cases n with
     | zero =>
       simp only[runN]at h;injection h with h
       injection h with _ h2 _
       have h2:(#[{ frame:=fr1,callers:=[],status:=.running,dying:=none }]:Array Goroutine)=#[{ frame:=z.fr,callers:=z.cs++[wall P],status:=.running,dying:=none }]:=h2;simp at h2
     | succ n =>
       simp only[runN,e2]at h
       cases h
   ·rcases K.step x hj hp with⟨x',⟨es,g⟩,hj'⟩ |⟨o,w,es,e⟩
    ·have:step P (lone x.fr (x.cs++[wall P]) x.V)=.next (lone x'.fr (x'.cs++[wall P]) x'.V):=step_lone_go (by
      have g:stepG P true { frame:=x.fr,callers:=x.cs++[wall P],status:=.running,dying:=none } x.V=_:=g;rw[g];rfl)
     rw[this]at h
     exact .step ⟨es,g⟩ (ih x' hj' h)
    ·have:step P (lone x.fr (x.cs++[wall P]) x.V)=.ended o w:=step_lone_ended (by
      have e:stepG P true { frame:=x.fr,callers:=x.cs++[wall P],status:=.running,dying:=none } x.V=_:=e;rw[e];rfl)
     rw[this]at h
     cases h
def only (Q:Value->World->Prop):Ending->World->Prop
 | .returned v,w=>Q v w
 | _,_=>False
end
end Bar
namespace Bar
open Go.Conc Tl Lr
theorem A45 {X:Cx}{B:Lk}{V W:World}(h:WR X B V W)(τ:Tape)(d:Nat):WR X B { V with tape:=τ,drawn:=d } { W with tape:=τ,drawn:=d } :=
 ⟨rfl,rfl,h.os,h.output,h.fn,h.inj,h.Ie,h.live,h.Ja,h.dead,h.Wx,h.Tk,h.low,h.nV,h.nW⟩
def JL (X:Cx)(x:St):Prop:=∃B W fr' cs',WR X B x.V W/\En X B x.fr fr'/\M8 X B x.cs cs'/\Hn x.fr x.cs=none
theorem X8 {x:St}(hp:¬Wj x)(hb:Hn x.fr x.cs=none):x.cs=[]->x.fr.roundOf=none /\(x.fr.mode=.run\/x.fr.defers≠[]):=by
 intro e;rw[e]at hb
 refine⟨hb,?_⟩
 by_cases h:x.fr.mode=.run
 ·exact .inl h
 ·exact .inr fun h2=>hp ⟨e,h,h2⟩
section
variable {X : Cx} {P P' : Program} {Q : Value -> World -> Prop} (H : Whole X P P')
include H
theorem Ik {V W:World}{B:Lk}(hw:WR X B V W){fr fr':Frame}(hf:En X B fr fr'){fn:Func}(hfn:P.funcs[fr.fn]?=some fn){v:Value}(hv:(results fn fr.tmps).run P V=.ok v V) :
 (∀τ d,(results fn fr.tmps).run P { V with tape:=τ,drawn:=d }=.ok v { V with tape:=τ,drawn:=d }):=by
 intro τ d
 obtain⟨fn',h5,hres⟩:∃fn',P'.funcs[fr.fn]?=some fn'/\fn'.results=fn.results:=by
  rcases H.hF.funcs fr.fn with⟨e1,e2⟩ |⟨f1,f2,e1,e2,hn,hr,_⟩
  ·rw[hfn]at e1;cases e1
  ·rw[hfn]at e1;cases e1;exact⟨f2,e2,hr⟩
 rcases Hh (τ:=τ) (a:=V.drawn) (b:=d) (lim:=V.drawn) (Ip H.hF.toPRel hres hf.tmps) hw ⟨Ap0 _,fun n q h1 h2=>by omega⟩with⟨v1,V1,es,B1,d1,e1,hm,hA1,e2,_⟩ |⟨v1,V1,es,e1,hm,e2⟩ |⟨h,V1,es,e1,hn⟩
 ·rw[Sem.runT_eq,hv]at e1;injection e1 with e1 _
  injection e1 with e1 e3
  subst e1 e3;have:=e2 (Ap0 _);rw[Sem.runT_eq]at this;have:=congrArg Prod.fst this;dsimp only at this;simp only[Ed,Nat.sub_self,Aqr]at this
  exact this
 ·rw[Sem.runT_eq,hv]at e1;injection e1 with e1 _
  cases e1
 ·rw[Sem.runT_eq,hv]at e1;injection e1 with e1 _
  cases e1
theorem A2j {F:St->Prop}(hT:∀f,¬X.T f)(hF:∀x τ d,JL X x->F x->F (x.at τ d)):Wh P F (JL X) where
 tape x τ d:=fun⟨B,W,fr',cs',h1,h2,h3,h4⟩=>⟨B,{ W with tape:=τ,drawn:=d },fr',cs',A45 h1 τ d,h2,h3,h4⟩
 step x:=by
  rintro⟨B,W,fr',cs',hw,hf,hc,hbot⟩ hp;have hb:=X8 hp hbot;obtain⟨h1,h2⟩:=A0n H hw (base:=[wall P]) (base':=[]) hf hc hb true true
  rcases h2 with⟨fr1,cs1,V1,es,e⟩|h2
  ·obtain⟨c1,c1',fr1',B',W1,n,rfl,e2,hx,hw1,hn,hst⟩:=h1 _ _ _ _ e;have hbt:=Un H hw (base:=[wall P]) hf hc hb true _ _ _ _ e
   refine .inl ⟨⟨fr1,c1,V1⟩,⟨es,e⟩,?_⟩
   rcases hst with⟨g1,g2⟩ |⟨f,p,p',k,ht,_⟩
   ·exact⟨B',W1,fr1',c1',hw1,g1,g2,hbt.trans hbot⟩
   ·exact absurd ht.1 (hT f)
  ·exact .inr h2
 loc x:=by
  rintro⟨B,W,fr',cs',hw,hf,hc,hbot⟩ hp τ a b lim hA
  exact Agf H hw hA (base:=[wall P]) hf hc (X8 hp hbot) true
 fin:=hF
theorem A8u (hQ:∀v w τ d,Q v w->Q v { w with tape:=τ,drawn:=d }):∀x τ d,JL X x->Fin P Q x->Fin P Q (x.at τ d):=by
 intro x τ d;rintro⟨B,W,fr',cs',hw,hf,hc,hbot⟩ ⟨h1,v,⟨h2,h3,h4,fn,h5,h6⟩,h7⟩
 exact⟨h1,v,⟨h2,h3,h4,fn,h5,Ik H hw hf h5 h6 τ d⟩,hQ _ _ _ _ h7⟩
end
end Bar
namespace Co
open Go.Conc Tl Lr Bar
def Gf (X:Cx)(B:Lk)(b':Nat):Prop:=∃b,B b b'/\¬X.D b/\¬X.F b
def L5 (X:Cx)(B:Lk)(b':Nat):Prop:=∃b,B b b'/\¬X.D b/\X.F b
def Bw (L R:Nat->Prop)(W W2:World):Prop:=W.heap.size<=W2.heap.size /\(∀b,L b\/R b->W2.heap[b]?=W.heap[b]?)/\W2.os=W.os/\W2.output=W.output
def EvC (L R:Nat->Prop)(e:Event):Prop :=
 match e.loc with
 | .cell a=>e.sync=false /\(L a.block \/(R a.block/\e.write=false))
 | .obj r=>L r
 | .mark m=>m=.noRoom
 | _=>False
structure Did (L R:Nat->Prop)(W:World)(L1:Nat->Prop)(W1:World)(n:Array Event):Prop where
 old:∀b,L b->L1 b
 new:∀b,L1 b->L b\/W.heap.size<=b
 lt:∀b,L1 b->b<W1.heap.size
 size:W.heap.size<=W1.heap.size
 kept:∀b,b<W.heap.size->¬L b->W1.heap[b]?=W.heap[b]?
 tape:W1.tape=W.tape
 os:W1.os=W.os/\W1.output=W.output
 evs:∀e∈n,EvC L1 R e
inductive Co (P:Program)(m:Bool)(base:List Frame)(R:Nat->Prop)(Post:(Nat->Prop)->Frame->List Frame->World->Prop):(Nat->Prop)->Frame->List Frame->World->Prop
 | stop {L:Nat->Prop} {fr:Frame} {cs:List Frame} {W:World}:Post L fr cs W->Co P m base R Post L fr cs W
 | go {L:Nat->Prop} {fr:Frame} {cs:List Frame} {W:World} (f1:World->Frame) (c1:World->List Frame) (w1:World->World) (n1:World->Array Event) (L1:World->Nat->Prop) :
  (∀W2,Bw L R W W2->stepG P m (G fr (cs++base)) W2=.go (G (f1 W2) (c1 W2++base)) (w1 W2) (n1 W2)/\Did L R W2 (L1 W2) (w1 W2) (n1 W2)) ->
  (∀W2,Bw L R W W2->Co P m base R Post (L1 W2) (f1 W2) (c1 W2) (w1 W2))->Co P m base R Post L fr cs W
section
variable {X : Cx} {P P' : Program}
theorem J6 {B:Lk}{V W W2:World}(h:WR X B V W)(k:Bw (Gf X B) (L5 X B) W W2):WR X B { V with tape:=W2.tape,drawn:=W2.drawn } W2 where
 tape:=rfl
 drawn:=rfl
 os:=k.2.2.1.trans h.os
 output:=k.2.2.2.trans h.output
 fn:=h.fn
 inj:=h.inj
 Ie:=h.Ie
 live b b' x d f:=by
  obtain⟨o,o',h1,h2,h3⟩:=h.live b b' x d f
  exact⟨o,o',h1,(k.2.1 b' (.inl ⟨b,x,d,f⟩)).trans h2,h3⟩
 Ja b b' x d f:=by
  obtain⟨c,c',t,t',g,h1,h2,h3⟩:=h.Ja b b' x d f
  exact⟨c,c',t,t',g,h1,(k.2.1 b' (.inr ⟨b,x,d,f⟩)).trans h2,h3⟩
 dead b b' x d:=by
  obtain⟨h1,h2⟩:=h.dead b b' x d
  exact⟨h1,Ap6 h2 k.1⟩
 Wx:=h.Wx
 Tk:=h.Tk
 low:=h.low
 nV:=h.nV
 nW:=Ap3 h.nW k.1
theorem A25 {B B1:Lk}{V W V1 W1:World}(hw:WR X B V W)(hx:Ext X B V W B1 V1 W1):L5 X B1=L5 X B:=by
 funext b'
 apply propext
 constructor
 ·rintro⟨b,h1,h2,h3⟩
  rcases hx.new b b' h1 with h |⟨h,_⟩
  ·exact⟨b,h,h2,h3⟩
  ·have:=hw.Tk b h3
   omega
 ·rintro⟨b,h1,h2,h3⟩
  exact⟨b,hx.le _ _ h1,h2,h3⟩
theorem Zb {B B1:Lk}{V W V1 W1:World}{n:Array Event}(hw:WR X B V W)(hw1:WR X B1 V1 W1)(hx:Ext X B V W B1 V1 W1)(hn:A46 X B1 n):Did (Gf X B) (L5 X B) W (Gf X B1) W1 n where
 old b:=fun⟨a,h1,h2,h3⟩=>⟨a,hx.le _ _ h1,h2,h3⟩
 new b:=fun⟨a,h1,h2,h3⟩=>by
  rcases hx.new a b h1 with h |⟨_,h⟩
  ·exact .inl ⟨a,h,h2,h3⟩
  ·exact .inr h
 lt b:=fun⟨a,h1,_⟩=>hw1.ltW h1
 size:=hx.Ue
 kept b hb hl:=hx.kept b hb fun a ha=>by
  by_cases h1:X.D a
  ·exact .inl h1
  ·by_cases h2:X.F a
   ·exact .inr h2
   ·exact absurd ⟨a,ha,h1,h2⟩ hl
 tape:=hx.tape
 os:=⟨by rw[hw1.os,hx.osV.1,hw.os],by rw[hw1.output,hx.osV.2,hw.output]⟩
 evs e he:=by
  obtain⟨h1,h2⟩:=hn e he;rw[<-A25 hw hx];unfold A0v at h1;unfold EvC
  split at h1
  ·rename_i a ha
   rw[ha];obtain⟨⟨b,g1,g2,g3⟩,g4⟩:=h1
   refine⟨g4,?_⟩
   by_cases hf:X.F b
   ·refine .inr ⟨⟨b,g1,g2,hf⟩,?_⟩
    by_cases hq:e.write=true
    ·exact absurd hf (g3 hq)
    ·simpa using hq
   ·exact .inl ⟨b,g1,g2,hf⟩
  ·rename_i r hr
   rw[hr]
   exact h1
  ·rename_i mk hm
   rw[hm]
   rcases h1 with h |⟨f,h⟩
   ·exact h
   ·exact absurd (by rw[hm,h]) (h2 f)
  ·exact h1.elim
def Gr (n m:Nat)(B0 B:Lk):Prop:=Le B0 B/\∀b b',B b b'->B0 b b' \/(n<=b/\m<=b')
theorem Gr.refl (n m:Nat)(B:Lk):Gr n m B B:=⟨Le.refl _,fun _ _ h=>.inl h⟩
theorem Gr.ext {n m:Nat}{B0 B B1:Lk}{V W V1 W1:World}(h:Gr n m B0 B)(hn:n<=V.heap.size)(hm:m<=W.heap.size)(k:Ext X B V W B1 V1 W1):Gr n m B0 B1 :=
 ⟨h.1.trans k.le,fun b b' x=>by
  rcases k.new b b' x with y |⟨y1,y2⟩
  ·exact h.2 b b' y
  ·exact .inr ⟨Ap3 hn y1,Ap3 hm y2⟩⟩
def N7 (X:Cx)(n m:Nat)(B0:Lk)(F:St->Prop)(L:Nat->Prop)(fr':Frame)(cs':List Frame)(W:World):Prop :=
 ∃B x τ d,Gr n m B0 B/\F x/\WR X B (x.at τ d).V W/\En X B x.fr fr'/\M8 X B x.cs cs'/\L=Gf X B/\n<=x.V.heap.size/\m<=W.heap.size
theorem A8p (H:Whole X P P')(hT:∀f,¬X.T f){F:St->Prop}{m:Bool}{base:List Frame}{n0 m0:Nat}{B0:Lk}{R:Nat->Prop}{x:St}(h:Bar.Way P F x) :
 ∀{B:Lk} {W:World} {fr':Frame} {cs':List Frame} {τ:Tape} {d:Nat},WR X B (x.at τ d).V W->En X B x.fr fr'->M8 X B x.cs cs'->Hn x.fr x.cs=none->Gr n0 m0 B0 B->n0<=x.V.heap.size->m0<=W.heap.size->L5 X B=R ->
  Co P' m base R (N7 X n0 m0 B0 F) (Gf X B) fr' cs' W:=by
 induction h with
 | @fin x h =>
   intro B W fr' cs' τ d hw hf hc hb hle hn0 hm0 hR
   exact .stop ⟨B,x,τ,d,hle,h,hw,hf,hc,rfl,hn0,hm0⟩
 | @go x g hg _ ih =>
   intro B W fr' cs' τ d hw hf hc hb hle hn0 hm0 hR
   have key:∀W2,Bw (Gf X B) R W W2->∃fr1 cs1 W1 n L1,stepG P' m (G fr' (cs'++base)) W2=.go (G fr1 (cs1++base)) W1 n/\Did (Gf X B) R W2 L1 W1 n/\Co P' m base R (N7 X n0 m0 B0 F) L1 fr1 cs1 W1:=by
    intro W2 hr;rw[<-hR]at hr;have hw2:=J6 hw hr;have hgo:=hg W2.tape W2.drawn;have hp:=hgo.Mk;obtain⟨es,hgo⟩:=hgo;have hw3:WR X B (x.at W2.tape W2.drawn).V W2:=hw2;obtain⟨c1,c1',fr1',B',W1,n,e1,e2,hx,hw1,hn,hst⟩:=(A0n H hw3 (base:=[wall P]) (base':=base) hf hc (X8 hp hb) true m).1 _ _ _ _ hgo;obtain rfl:=Ar5 e1;have hbt:=Un H hw3 (base:=[wall P]) hf hc (X8 hp hb) true _ _ _ _ hgo
    rcases hst with⟨g1,g2⟩ |⟨f,p,p',k,ht,_⟩
    ·refine⟨fr1',c1',W1,n,Gf X B',e2,hR▸Zb hw3 hw1 hx hn,?_⟩
     exact @ih W2.tape W2.drawn _ _ _ _ (g W2.tape W2.drawn).V.tape (g W2.tape W2.drawn).V.drawn hw1 g1 g2 (hbt.trans hb) (hle.ext (V:=(x.at W2.tape W2.drawn).V) hn0 (Ap3 hm0 hr.1) hx) (Ap3 hn0 hx.A3i) (Ap3 (Ap3 hm0 hr.1) hx.Ue) ((A25 hw3 hx).trans hR)
    ·exact absurd ht.1 (hT f)
   have key2:∀W2,∃r:Frame×List Frame×World×Array Event×(Nat->Prop),Bw (Gf X B) R W W2->stepG P' m (G fr' (cs'++base)) W2=.go (G r.1 (r.2.1++base)) r.2.2.1 r.2.2.2.1/\Did (Gf X B) R W2 r.2.2.2.2 r.2.2.1 r.2.2.2.1/\Co P' m base R (N7 X n0 m0 B0 F) r.2.2.2.2 r.1 r.2.1 r.2.2.1:=by
    intro W2
    by_cases hr:Bw (Gf X B) R W W2
    ·obtain⟨fr1,cs1,W1,n,L1,h1,h2,h3⟩:=key W2 hr
     exact⟨(fr1,cs1,W1,n,L1),fun _=>⟨h1,h2,h3⟩⟩
    ·exact⟨(fr',cs',W,#[],fun _=>False),fun h=>absurd h hr⟩
   exact .go (fun W2=>(key2 W2).choose.1) (fun W2=>(key2 W2).choose.2.1) (fun W2=>(key2 W2).choose.2.2.1) (fun W2=>(key2 W2).choose.2.2.2.1) (fun W2=>(key2 W2).choose.2.2.2.2)
    (fun W2 hr=>⟨((key2 W2).choose_spec hr).1,((key2 W2).choose_spec hr).2.1⟩) (fun W2 hr=>((key2 W2).choose_spec hr).2.2)
theorem Qw (H:Whole X P P'){Q:Value->World->Prop}(hQ:∀v w τ d,Q v w->Q v { w with tape:=τ,drawn:=d }){m:Bool}{n0 m0:Nat}{B0:Lk}{L R:Nat->Prop}{fr':Frame}{cs':List Frame}{W:World}
 (h:N7 X n0 m0 B0 (Fin P Q) L fr' cs' W) (hR:∀B,Gr n0 m0 B0 B->L=Gf X B->L5 X B=R):cs'=[]/\∀W2,Bw L R W W2->∃v' W1 n L1,Did L R W2 L1 W1 n /\(∀c bs,stepG P' m (G fr' (c :: bs)) W2=.go (G (c.finish v') bs) W1 n) /\
  ∃B V v,Gr n0 m0 B0 B/\Q v V/\VR X B v v'/\WR X B V W1/\L1=Gf X B:=by
 obtain⟨B,x,τ,d,hle,h,hw,hf,hc,rfl,hn0,hm0⟩:=h;have hR:=hR B hle rfl;obtain⟨h1,v,⟨g1,g2,g3,fn,g4,g5⟩,hq⟩:=h;have hcs:cs'=[]:=by rw[h1]at hc;cases hc;rfl
 subst hcs
 refine⟨rfl,fun W2 hr=>?_⟩
 rw[<-hR]at hr ⊢;have hw2:=J6 hw hr
 have hm':fr'.mode=.returning:=by
  have:=hf.mode;rw[g1]at this;generalize fr'.mode=q at this
  cases this
  rfl
 have hd':fr'.defers=[]:=by
  have:=hf.defers;rw[g2]at this;generalize fr'.defers=q at this
  cases this
  rfl
 have hk':fr'.kind=.normal:=hf.kind.trans g3
 obtain⟨fn',e5,hres⟩:∃fn',P'.funcs[x.fr.fn]?=some fn'/\fn'.results=fn.results:=by
  rcases H.hF.funcs x.fr.fn with⟨e1,e2⟩ |⟨f1,f2,e1,e2,hn,hr,_⟩
  ·rw[g4]at e1;cases e1
  ·rw[g4]at e1;cases e1;exact⟨f2,e2,hr⟩
 have g6:=Ik H hw (fr':=fr') hf g4 (fr:=x.fr) (V:=(x.at τ d).V) (v:=v) (by
  have:=Ik H (A45 (τ:=x.V.tape) (d:=x.V.drawn) hw) hf g4 g5 τ d
  exact this) W2.tape W2.drawn
 have g6:(results fn x.fr.tmps).run P { x.V with tape:=W2.tape,drawn:=W2.drawn }=.ok v { x.V with tape:=W2.tape,drawn:=W2.drawn }:=g6
 rcases Kh (Ip H.hF.toPRel hres hf.tmps) hw2 with⟨a,V1,B1,W1,b,n,e1,e2,hx,hw1,hab,hn⟩ |⟨v,V1,B1,W1,v',n,e1,e2,hx,hw1,hab,hn⟩ |⟨h,V1,e1,hm⟩
 ·have e1:(results fn x.fr.tmps).run P { x.V with tape:=W2.tape,drawn:=W2.drawn }=.ok a V1:=e1
  rw[g6]at e1;injection e1 with e1 e3
  subst e1 e3
  refine⟨b,W1,seen P' fr'.fn n,Gf X B1,Zb hw2 hw1 hx (hn.seen _),fun c bs=>?_,B1,_,v,hle.ext (V:=(x.at W2.tape W2.drawn).V) hn0 (Ap3 hm0 hr.1) hx,hQ _ _ W2.tape W2.drawn hq,hab,hw1,rfl⟩
  rw[Df (by rw[hm'];simp)]
  unfold unwind;rw[hd',hm',hf.fn,e5];dsimp only;rw[e2 #[],Aqu];dsimp only;unfold doReturn;rw[hk'];simp[GStep.after]
  rfl
 ·have e1:(results fn x.fr.tmps).run P { x.V with tape:=W2.tape,drawn:=W2.drawn }=.halt (.panic v) V1:=e1
  rw[g6]at e1
  cases e1
 ·have e1:(results fn x.fr.tmps).run P { x.V with tape:=W2.tape,drawn:=W2.drawn }=.halt h V1:=e1
  rw[g6]at e1
  cases e1
end
end Co
namespace Ok
open Go.Conc Lr
def Dc:Nat->Value->Bool
 | k+1,.agg p=>p.all (Dc k)
 | k+1,.tuple p=>p.all (Dc k)
 | _,.bool _|_,.int _ _|_,.float _ _|_,.complex _ _ _|_,.string _|_,.pointer none|_,.slice none _ _|_,.map none|_,.chan none|_,.nilFunc|_,.nilIface=>true
 | _,_=>false
theorem Zh {X:Cx}:∀(k:Nat) (v:Value),Dc k v=true->Flat X v:=by
 have rows:∀(k:Nat) (p:Array Value),(∀v,Dc k v=true->Flat X v)->p.all (Dc k)=true->∀B (i:Nat) v v',p[i]?=some v->p[i]?=some v'->VR X B v v':=by
  intro k p ih h B i v v' h1 h2
  cases h1.symm.trans h2
  rw[Aq0]at h
  exact ih v (h v (Aq3 h1)) B
 intro k
 induction k with
 | zero =>
   intro v h B
   cases v with
   | bool b=>exact .bool b
   | int a b=>exact .int a b
   | float a b=>exact .float a b
   | complex a b c=>exact .complex a b c
   | string s=>exact .string s
   | pointer a=>cases a<;>first|exact .Rk|simp[Dc]at h
   | slice a l c=>cases a<;>first|exact .Lz _ _|simp[Dc]at h
   | map a=>cases a<;>first|exact .A9d|simp[Dc]at h
   | chan a=>cases a<;>first|exact .A8n|simp[Dc]at h
   | nilFunc=>exact .nilFunc
   | nilIface=>exact .nilIface
   | _=>simp[Dc]at h
 | succ k ih =>
   intro v h B
   cases v with
   | bool b=>exact .bool b
   | int a b=>exact .int a b
   | float a b=>exact .float a b
   | complex a b c=>exact .complex a b c
   | string s=>exact .string s
   | pointer a=>cases a<;>first|exact .Rk|simp[Dc]at h
   | slice a l c=>cases a<;>first|exact .Lz _ _|simp[Dc]at h
   | map a=>cases a<;>first|exact .A9d|simp[Dc]at h
   | chan a=>cases a<;>first|exact .A8n|simp[Dc]at h
   | nilFunc=>exact .nilFunc
   | nilIface=>exact .nilIface
   | agg p=>exact .agg rfl (rows k p ih (by simpa only[Dc]using h) B)
   | tuple p=>exact .tuple rfl (rows k p ih (by simpa only[Dc]using h) B)
   | _=>simp[Dc]at h
def Ov (cl gl:List Nat):Operand->Bool
 | .tmp _=>true
 | .const v=>Dc 4 v
 | .global g=>gl.contains g
 | .func f=>cl.contains f
def A5e (P:Program)(t:TypeId):Bool:=match P.underlying t with
 | some (.struct fs)=>fs.all fun f=>match P.info? f.type with
   | some i=>i.size != 0
   | none=>true
 | _=>true
theorem A9e {P:Program}{t:TypeId}(h:A5e P t=true):A47 P t:=by
 intro fs hf k f hk i hi;unfold A5e at h;rw[hf]at h;have:=Aq0.1 h f (Aq3 hk);rw[hi]at this
 simpa using this
def A7f (P:Program)(f:Nat):Bool:=match P.funcs[f]? with
 | some fn=>fn.body.isNone && (!(fn.name == "runtime.NumGoroutine") && ((Extern.findNext fn).isNone && ((Extern.find fn).isNone && !(fn.name.endsWith ".init" && !fn.name.startsWith "(" && !fn.name.startsWith "gosem."))))
 | none=>true
def Qu (P:Program)(tl:List (Nat×Nat))(cl:List Nat)(name:String):Bool :=
 P.types.all fun i=>i.methods.all fun m=>m.name != name ||(m.path.isEmpty && ((match i.desc with
  | .pointer _=>true
  | _=>false) && (match m.func with
  | some (f,q)=>q && ((cl.contains f && tl.all fun x=>x.1 != f) || A7f P f)
  | none=>false)))
def Acr (P:Program)(gl:List Nat):Bool:=gl.contains P.globals.size
def U0 (P:Program)(tl:List (Nat×Nat))(cl gl:List Nat):Op->Bool
 | .move _|.assign _|.pick ..|.alloc _|.box ..|.build ..|.buildSlice ..|.load ..|.store ..|.nilCheck _|.unOp ..|.makeChan ..|.makeSlice ..|.slice ..|.field ..|.indexAddr ..|.index ..|.extract ..
 | .makeInterface ..=>true
 | .fieldAddr t _ _=>A5e P t
 | .binOp op t _ _ _=>match op with
   | .eql|.neq=>O6 P 20 t
   | _=>true
 | .convert s d _=>A6q P s d
 | .makeFunc fn _ _=>match fn with
   | .func f=>cl.contains f
   | .method n=>Qu P tl cl n
   | .methodOf _ n=>Qu P tl cl n
   | _=>false
 | .typeAssert ..=>Acr P gl
 | .call c=>match c.callee with
   | .builtin b=>Aan b
   | .invoke _ n=>Qu P tl cl n
   | .value _=>true
 | _=>false
def okT (tl:List (Nat×Nat))(cl gl:List Nat):Op->Bool
 | .call c=>match c.callee with
   | .value (.func f)=>tl.contains (f,c.args.size) && c.args.all (Ov cl gl)
   | _=>false
 | _=>false
def J0 (P:Program)(tl:List (Nat×Nat))(cl gl:List Nat)(o:Oper):Bool:=U0 P tl cl gl o.op && (o.op.operands.all (Ov cl gl) || okT tl cl gl o.op)
abbrev Ahy (P:Program)(cl gl:List Nat)(o:Oper):Bool:=J0 P [] cl gl o
def Ty:String := "unsupported: a function without a Go body is entered"
def Is (P:Program)(tl:List (Nat×Nat))(cl gl:List Nat):Code->Bool
 | .refuse w=>w == Ty
 | .region _ ops _=>ops.all (J0 P tl cl gl)
 | .seq a b=>Is P tl cl gl a && Is P tl cl gl b
 | .cond c a b=>Ov cl gl c && (Is P tl cl gl a && Is P tl cl gl b)
 | .rangeFunc f _ a b=>Ov cl gl f && (Is P tl cl gl a && Is P tl cl gl b)
 | .block _ c|.loop c|.scope c=>Is P tl cl gl c
 | .goto _=>false
 | .skip|.ret|.exit _|.label _=>true
abbrev okC (P:Program)(cl gl:List Nat)(c:Code):Bool:=Is P [] cl gl c
section
variable {X : Cx} {P : Program} {tl : List (Nat × Nat)} {cl gl : List Nat}
theorem Lq (hc:∀f∈cl,X.C f/\¬X.T f)(hg:∀g∈gl,X.G g){o:Operand}(h:Ov cl gl o=true):Je X o:=by
 cases o with
 | tmp t=>trivial
 | const v=>exact Zh 4 v h
 | global g=>exact hg g (by simpa [Ov]using h)
 | func f=>exact hc f (by simpa [Ov]using h)
theorem Afg (hc:∀f∈cl,X.C f/\¬X.T f)(hm:∀n,Qu P tl cl n=true->X.M n)(ha:Acr P gl=true->X.As){o:Op}(h:U0 P tl cl gl o=true):Aat X P o:=by
 cases o with
 | binOp op t x y u =>
   intro e
   refine⟨20,?_⟩
   rcases e with rfl|rfl<;>exact h
 | convert s d x=>exact h
 | fieldAddr t a f=>exact A9e h
 | makeFunc fn a b =>
   cases fn with
   | func f=>exact hc f (by simpa [U0]using h)
   | method n=>exact hm n h
   | methodOf t n=>exact hm n h
   | _=>simp[U0]at h
 | typeAssert x t a q=>exact ha h
 | call c =>
   obtain⟨callee,args,ts⟩:=c
   cases callee with
   | builtin b=>exact h
   | invoke a b=>exact hm b h
   | value f=>trivial
 | _=>first|trivial|simp[U0]at h
theorem Afu (hc:∀f∈cl,X.C f/\¬X.T f)(hm:∀n,Qu P tl cl n=true->X.M n)(ha:Acr P gl=true->X.As)(hg:∀g∈gl,X.G g)(ht:∀f n,(f,n)∈tl->X.C f/\X.Ar f n){o:Oper}(h:J0 P tl cl gl o=true):Ah8 X P o:=by
 simp only[J0,Ap7,Ase]at h
 refine⟨Afg hc hm ha h.1,h.2.imp (fun this x hx=>?_) fun h=>?_⟩
 ·rw[Aq0]at this
  exact Lq hc hg (this x hx)
 ·generalize o.op=p at h
  cases p with
  | call c =>
    obtain⟨callee,args,ts⟩:=c
    cases callee with
    | value x =>
      cases x with
      | func f =>
        simp only[okT,Ap7]at h;obtain⟨h1,h2⟩:=h;rw[Aq0]at h2;have h1:=ht f args.size (by simpa using h1)
        exact⟨h1.1,h1.2,fun x hx=>Lq hc hg (h2 x hx)⟩
      | _=>simp[okT]at h
    | _=>simp[okT]at h
  | _=>simp[okT]at h
theorem Fa (hc:∀f∈cl,X.C f/\¬X.T f)(hg:∀g∈gl,X.G g)(hK:∀o,J0 P tl cl gl o=true->X.K o):∀(c:Code),Is P tl cl gl c=true->Km X c c
 | .refuse w,h=>.inl (by simpa [Is,Ty]using h)
 | .region _ ops _,h=>⟨rfl,fun o ho=>hK o (by
  have h:ops.all (J0 P tl cl gl)=true:=h;rw[Aq0]at h
  exact h o ho)⟩
 | .seq a b,h=>by
   simp only[Is,Ap7]at h
   exact⟨a,b,rfl,Fa hc hg hK a h.1,Fa hc hg hK b h.2⟩
 | .cond c a b,h=>by
   simp only[Is,Ap7]at h
   exact⟨a,b,rfl,Lq hc hg h.1,Fa hc hg hK a h.2.1,Fa hc hg hK b h.2.2⟩
 | .rangeFunc f p a b,h=>by
   simp only[Is,Ap7]at h
   exact⟨a,b,rfl,Lq hc hg h.1,Fa hc hg hK a h.2.1,Fa hc hg hK b h.2.2⟩
 | .block _ c,h=>⟨c,rfl,Fa hc hg hK c h⟩
 | .loop c,h=>⟨c,rfl,Fa hc hg hK c h⟩
 | .scope c,h=>⟨c,rfl,Fa hc hg hK c h⟩
 | .goto _,h=>by simp[Is]at h
 | .skip,_=>rfl
 | .ret,_=>rfl
 | .exit _,_=>rfl
 | .label _,_=>rfl
end
end Ok
namespace Ok
open Go.Conc Lr
section
variable {X : Cx} {P P' : Program} {B : Lk}
theorem A4d {v:Value}{p':Array Value}(h:AR X B #[v] p'):∃v',p'=#[v']/\VR X B v v':=by
 obtain⟨h1,h2⟩:=h;obtain⟨l⟩:=p'
 match l,h1 with
 | [v'],_=>exact⟨v',rfl,h2 0 v v' (by simp) (by simp)⟩
theorem A9x {f:FuncId}{fn:Func}(hf:P.funcs[f]?=some fn)(hf':P'.funcs[f]?=some fn)(hname:(fn.name == "runtime.NumGoroutine") = false)(hb:fn.body.isNone=true)(hn:Extern.findNext fn=none)
 {e:Array Value->Sem Value} (he:Extern.find fn=some e) (hS:∀B p p',AR X B p p'->SR X P P' (Aq X) B (e p) (e p')) {p p':Array Value} (h:AR X B p p'):SR X P P' (Vb X) B (callFunc f p) (callFunc f p'):=by
 unfold callFunc
 refine SR.bind SR.program ?_
 rintro B1 l1 q q' ⟨rfl,rfl⟩;rw[hf,hf'];dsimp only;simp only[hname,hb,Aqb,At6,Ats]
 refine SR.bind (SR.mark (.inr ⟨f,rfl⟩)) fun B2 l2 _ _ _=>?_
 simp only[hn,he]
 exact SR.bind (hS B2 _ _ ((h.mono l1).mono l2)) fun B3 l3 v v' hv=>SR.pure (.value hv)
theorem X2 {α:Type}{R:Lk->α->α->Prop}{p:Array Value}(F:Array Value->Sem α){s':Sem α}(hs:(∀x,p ≠#[.float .f64 x])->∃why,F p=Go.stuck why)(h:∀x,p=#[.float .f64 x]->SR X P P' R B (F p) s'):SR X P P' R B (F p) s':=by
 by_cases hp:∃x,p=#[.float .f64 x]
 ·obtain⟨x,hx⟩:=hp
  exact h x hx
 ·obtain⟨why,e⟩:=hs fun x hx=>hp ⟨x,hx⟩
  rw[e]
  exact SR.stuck
theorem Vy (name:String)(way:Ieee.Toward):∀B p p',AR X B p p'->SR X P P' (Aq X) B (Extern.MathFloor.toIntegral name way p) (Extern.MathFloor.toIntegral name way p'):=by
 intro B p p' h
 refine X2 (Extern.MathFloor.toIntegral name way) (fun hn=>?_) (fun x hx=>?_)
 ·unfold Extern.MathFloor.toIntegral;obtain⟨l⟩:=p
  match l with
  | []=>exact⟨_,rfl⟩
  | v :: w :: r=>exact⟨_,rfl⟩
  | [v] =>
    cases v<;>first
     | exact⟨_,rfl⟩
     | skip
    rename_i k x
    cases k<;>first
     | exact absurd rfl (hn _)
     | exact⟨_,rfl⟩
 ·subst hx;obtain⟨v',rfl,hv⟩:=A4d h
  cases hv
  have e:Extern.MathFloor.toIntegral name way #[.float .f64 x]=(match FloatKind.f64.decode x with
   | .nan s t =>
     if FloatKind.f64.format.quiet t=t then(Pure.pure (Value.float .f64 x):Sem Value)else do
     let kept <-choose (.extern "math.Floor,Ceil,Trunc,RoundToEven.signallingNaN kept" 2)
     Pure.pure (Value.float .f64 (if kept == 1 then x else FloatKind.f64.encode (.nan s (FloatKind.f64.format.quiet t))))
   | d=>Pure.pure (Value.float .f64 (FloatKind.f64.encode (d.integral way)))):=rfl
  rw[e];generalize FloatKind.f64.decode x=d
  cases d with
  | nan s t =>
    refine SR.ite (fun _=>SR.pure (.float _ _)) (fun _=>?_)
    refine SR.bind (SR.choose _) ?_
    rintro B1 l1 k _ rfl
    exact SR.pure (.float _ _)
  | _=>exact SR.pure (.float _ _)
theorem Ag6:∀B p p',AR X B p p'->SR X P P' (Aq X) B (Extern.MathFloatBits.float64bits p) (Extern.MathFloatBits.float64bits p'):=by
 intro B p p' h
 refine X2 Extern.MathFloatBits.float64bits (fun hn=>?_) (fun x hx=>?_)
 ·unfold Extern.MathFloatBits.float64bits;obtain⟨l⟩:=p
  match l with
  | []=>exact⟨_,rfl⟩
  | v :: w :: r=>exact⟨_,rfl⟩
  | [v] =>
    cases v<;>first
     | exact⟨_,rfl⟩
     | skip
    rename_i k x
    cases k<;>first
     | exact absurd rfl (hn _)
     | exact⟨_,rfl⟩
 ·subst hx;obtain⟨v',rfl,hv⟩:=A4d h
  cases hv
  exact SR.pure (.int _ _)
theorem A3n:∀B p p',AR X B p p'->SR X P P' (Aq X) B (Extern.MathFloatBits.float64frombits p) (Extern.MathFloatBits.float64frombits p'):=by
 intro B p p' h
 by_cases hp:∃x,p=#[.int .u64 x]
 ·obtain⟨x,rfl⟩:=hp;obtain⟨v',rfl,hv⟩:=A4d h
  cases hv
  exact SR.pure (.float _ _)
 ·have:∃why,Extern.MathFloatBits.float64frombits p=Go.stuck why:=by
   unfold Extern.MathFloatBits.float64frombits;obtain⟨l⟩:=p
   match l with
   | []=>exact⟨_,rfl⟩
   | v :: w :: r=>exact⟨_,rfl⟩
   | [v] =>
     cases v<;>first
      | exact⟨_,rfl⟩
      | skip
     rename_i k x
     cases k<;>first
      | exact absurd ⟨_,rfl⟩ hp
      | exact⟨_,rfl⟩
  obtain⟨why,e⟩:=this;rw[e]
  exact SR.stuck
end
end Ok
namespace Ok
open Go.Conc Lr
theorem A8x {ι σ:Type}{I:σ->Prop}{f:ι->σ->Option (ForInStep σ)}(hf:∀x s,I s->∀r,f x s=some r->I (match r with|.yield s=>s|.done s=>s)) :
 ∀(l:List ι) (s r:σ),I s->forIn l s f=some r->I r:=by
 intro l
 induction l with
 | nil =>
   intro s r hs h;simp only[List.forIn_nil,pure]at h
   cases h
   exact hs
 | cons x l ih =>
   intro s r hs h;simp only[List.forIn_cons,bind,Option.bind]at h
   cases hx:f x s with
   | none=>rw[hx]at h;cases h
   | some q =>
     rw[hx]at h;have:=hf x s hs q hx
     cases q with
     | done s'=>simp only[pure]at h;cases h;exact this
     | yield s'=>exact ih s' r this h
def Q9 (X:Cx)(i:TypeInfo):Prop:=∀v,i.zero=some v->Flat X v
theorem flat_agg {X:Cx}{p:Array Value}(h:∀v∈p,Flat X v):Flat X (.agg p):=fun B=>.agg rfl fun i v v' h1 h2=>by
 cases h1.symm.trans h2
 exact h v (Aq3 h1) B
theorem Tj {X:Cx}{v:Value}(h:Flat X v):∀w∈v.cells,Flat X w:=by
 intro w hw B;have:=(h B).cells;obtain⟨i,hi,e⟩:=Array.mem_iff_getElem.1 hw
 exact this.2 i w w (by rw[Ap5 hi,e]) (by rw[Ap5 hi,e])
theorem A3w {X:Cx}{info:TypeId->Option TypeInfo}(hi:∀t i,info t=some i->Q9 X i){fs:Array Field}{i:TypeInfo}(h:Made.reckonStruct info fs=some i):Q9 X i:=by
 unfold Made.reckonStruct at h;obtain⟨s,h1,h2⟩:=Auf.1 h;rw[<-Au7]at h1
 have hI:=A8x (I:=fun s=>∀cs,s.2.2.2.2.2.2.2.1=some cs->∀v∈cs,Flat X v) (fun f s hs r h=>by
  simp only[bind,Option.bind,pure]at h
  repeat' (first|split at h|dsimp only at h)
  all_goals first
   |(cases h;done)
   |(injection h with h
     subst h;intro cs hc v hv;dsimp only at hc
     first
      |(cases hc;done)
      |(injection hc with hc
        subst hc
        rcases Array.mem_append.1 hv with h|h
        ·exact hs _ (by assumption) v h
        ·exact Tj (hi _ _ (by assumption) _ (by assumption)) v h))) fs.toList _ s (fun cs h v hv=>by
  dsimp only at h;injection h with h
  subst h;simp at hv) h1
 dsimp only at h2;intro v hv
 split at h2<;>
 ·injection h2 with h2
  subst h2;obtain⟨cs,hc,rfl⟩:=Ape.1 hv
  exact flat_agg (hI cs hc)
theorem A37 {X:Cx}{info:TypeId->Option TypeInfo}(hi:∀t i,info t=some i->Q9 X i){d:TypeDesc}{i:TypeInfo}(h:Made.reckon info d=some i):Q9 X i:=by
 have fl:∀v,Dc 4 v=true->Flat X v:=Zh 4;intro v hv;unfold Made.reckon at h
 cases d with
 | struct fs=>exact A3w hi h v hv
 | array n e =>
   simp only[bind,Option.bind,pure]at h
   cases he:info e with
   | none=>rw[he]at h;cases h
   | some j =>
     rw[he]at h;dsimp only at h
     split at h
     ·cases h
     ·injection h with h
      subst h;dsimp only at hv
      split at hv
      ·cases hv
      ·split at hv
       ·injection hv with hv
        subst hv
        exact flat_agg fun w hw=>by simp at hw
       ·obtain⟨z,hz,rfl⟩:=Ape.1 hv
        refine flat_agg fun w hw=>?_
        rw[Array.mem_flatten]at hw;obtain⟨r,hr,hw⟩:=hw;rw[Array.mem_replicate]at hr;obtain⟨_,rfl⟩:=hr
        exact Tj (hi e j he z hz) w hw
 | _ =>
   simp only[bind,Option.bind,pure]at h
   repeat' (first|split at h|dsimp only at h)
   all_goals first
    |(cases h;done)
    |(injection h with h
      subst h;simp only[Made.word,Aqj]at hv;subst hv
      exact fl _ rfl)
theorem A2f {X:Cx}{T:Tables}(ht:∀i∈T.types,Q9 X i):∀(k:Nat) t i,Made.infoAt T k t=some i->Q9 X i:=by
 intro k
 induction k with
 | zero=>intro t i h;cases h
 | succ k ih =>
   intro t i h;unfold Made.infoAt at h
   split at h
   ·exact ht i (Aq3 h)
   ·obtain⟨d,_,h⟩:=Auf.1 h
    exact A37 (fun t i h=>ih t i h) h
theorem A95 {X:Cx}{T:Tables}(ht:∀i∈T.types,Q9 X i)(t:TypeId)(i:TypeInfo)(h:T.info? t=some i):Q9 X i:=by
 unfold Tables.info? at h
 split at h
 ·exact ht i (Aq3 h)
 ·exact A2f ht _ t i h
end Ok
namespace Ok
open Go.Conc Lr
theorem A9b {info:TypeId->Option TypeInfo}{d:TypeDesc}{i:TypeInfo}(h:Made.reckon info d=some i):i.methods=#[]:=by
 unfold Made.reckon at h
 cases d with
 | struct fs =>
   have h:Made.reckonStruct info fs=some i:=h;unfold Made.reckonStruct at h;obtain⟨s,_,h2⟩:=Auf.1 h;dsimp only at h2
   split at h2<;>
   ·injection h2 with h2
    subst h2
    rfl
 | _ =>
   simp only[bind,Option.bind,pure]at h
   repeat' (first|split at h|dsimp only at h)
   all_goals first
    |(cases h;done)
    |(injection h with h
      subst h
      rfl)
theorem A2g {T:Tables}{p:TypeInfo->Prop}(ht:∀i∈T.types,p i)(h0:∀i:TypeInfo,i.methods=#[]->p i):∀(k:Nat) t i,Made.infoAt T k t=some i->p i:=by
 intro k
 cases k with
 | zero=>intro t i h;cases h
 | succ k =>
   intro t i h;unfold Made.infoAt at h
   split at h
   ·exact ht i (Aq3 h)
   ·obtain⟨d,_,h⟩:=Auf.1 h
    exact h0 i (A9b h)
theorem Ac7 {T:Tables}{p:TypeInfo->Prop}(ht:∀i∈T.types,p i)(h0:∀i:TypeInfo,i.methods=#[]->p i)(t:TypeId)(i:TypeInfo)(h:T.info? t=some i):p i:=by
 unfold Tables.info? at h
 split at h
 ·exact ht i (Aq3 h)
 ·exact A2g ht h0 _ t i h
def A6t (P:Program)(tl:List (Nat×Nat))(cl:List Nat)(name:String)(i:TypeInfo):Prop :=
 ∀m,i.methods.find? (·.name == name)=some m->m.path=#[] /\(∃e,i.desc=.pointer e)/\∃f,m.func=some (f,true) /\((f∈cl/\∀n,(f,n) ∉ tl)\/A7f P f=true)
theorem Ada {P:Program}{tl:List (Nat×Nat)}{cl:List Nat}{name:String}(h:Qu P tl cl name=true)(t:TypeId)(i:TypeInfo)(hi:P.info? t=some i):A6t P tl cl name i:=by
 refine Ac7 (T:=P.toTables) (p:=A6t P tl cl name) (fun i hi m hm=>?_) (fun i hi m hm=>by rw[hi]at hm;simp at hm) t i hi
 have h1:=Aq0.1 (Aq0.1 h i hi) m (Array.mem_of_find?_eq_some hm);have h2:=Array.find?_some hm;simp only[bne,h2,Bool.not_true,Bool.false_or,Ap7]at h1;obtain⟨h3,h4,h5⟩:=h1
 refine⟨Array.isEmpty_iff.1 h3,?_,?_⟩
 ·split at h4
  ·exact⟨_,by assumption⟩
  ·cases h4
 ·split at h5
  ·rename_i f q hf
   simp only[Ap7,Ase]at h5;obtain⟨rfl,⟨h6,h7⟩|h6⟩:=h5
   ·refine⟨f,hf,.inl ⟨by simpa using h6,fun n hn=>?_⟩⟩
    have:=Art.1 h7 _ hn;simp at this
   ·exact⟨f,hf,.inr h6⟩
  ·cases h5
section
variable {X : Cx} {P P' : Program} {B : Lk} (hP : PRel X P P')
theorem Ady {f:Nat}(h:A7f P f=true)(B:Lk)(p:Array Value)(s':Sem Next):SR X P P' (Vb X) B (callFunc f p) s':=by
 have key:∀V,∃h',(callFunc f p).run P V=.halt h' V/\L8 h':=fun V=>by
  unfold A7f at h;unfold callFunc;rw[Sem.run_bind,run_program];dsimp only[Result.andThen]
  split at h
  ·rename_i fn hf
   simp only[Ap7,Bool.not_eq_true',Option.isNone_iff_eq_none]at h;obtain⟨h1,h2,h3,h4,h5⟩:=h;rw[hf];dsimp only;simp only[h1,h2,h3,h4,h5,Aqb,At6,Option.isNone_none,Ats]
   exact⟨_,rfl,trivial⟩
  ·rename_i hf
   rw[hf]
   exact⟨_,rfl,trivial⟩
 intro V W _;obtain⟨h',e,n⟩:=key V
 refine⟨.inl ⟨h',V,e,n⟩,?_⟩
 rw[e]
 exact Av n
include hP
theorem SR.A11 {α β:Type}{R:Lk->α->β->Prop}(hg:X.G X.N)(hd:¬X.D X.N)(hl:X.L X.N=0)(i c:Option TypeId)(a:TypeId)(m:String) :
 SR X P P' R B (runtimePanic (.typeAssertion i c a m):Sem α) (runtimePanic (.typeAssertion i c a m):Sem β):=by
 intro V W hw;have hb:=hw.Ie _ hg
 revert V W
 show ∀V W,WR X B V W->_
 intro V W hw
 refine(?_:SR X P P' R B _ _) V W hw
 unfold Go.runtimePanic
 refine SR.bind SR.program ?_
 rintro B' hl' p p' ⟨rfl,rfl⟩;have hrt:p'.rt=p.rt:=by rw[hP.Pj]
 have hgs:p'.globals.size=p.globals.size:=by rw[hP.Pj]
 dsimp only;rw[hrt]
 have hh:∀(B2:Lk),Le B' B2->∀t:TypeId,VR X B2 (typeHandle p t) (typeHandle p' t):=fun B2 h2 t=>by
  unfold typeHandle;rw[hgs]
  refine .ptr ⟨⟨h2 _ _ (hl' _ _ ?_),?_⟩,⟨rfl,?_⟩,rfl⟩
  ·rw[<-hP.nG];exact hb
  ·show ¬X.D p.globals.size
   rw[<-hP.nG];exact hd
  ·show X.L p.globals.size<=t
   rw[<-hP.nG,hl];exact Aq1 _
 have ho:∀(B2:Lk),Le B' B2->∀t:Option TypeId,VR X B2 (match t with|some t=>typeHandle p t|none=>.pointer none) (match t with|some t=>typeHandle p' t|none=>.pointer none):=fun B2 h2 t=>by
  cases t with
  | none=>exact .Rk
  | some t=>exact hh B2 h2 t
 refine SR.bind (SR.elemOf hP _) ?_
 rintro B2 hl2 n n' rfl
 refine SR.bind (SR.newVar n' (AR.agg (AR.push (AR.push (AR.push (AR.one (ho B2 hl2 i)) (ho B2 hl2 c)) (ho B2 hl2 (some a))) (.string _)))) fun B3 hl3 r r' hr=>SR.panic (.iface _ (.ptr hr))
theorem SR.typeAssert (hg:X.G X.N)(hd:¬X.D X.N)(hl:X.L X.N=0)(t a:TypeId){v v':Value}(q:Bool)(h:VR X B v v'):SR X P P' (Aq X) B (Instr.typeAssert v t a q) (Instr.typeAssert v' t a q):=by
 have hold:∀(B:Lk) {v v':Value},VR X B v v'->SR X P P' (Aq X) B (Pure.pure (if q then .tuple #[v,.bool true]else v)) (Pure.pure (if q then .tuple #[v',.bool true]else v')):=fun B v v' h=>SR.pure (by
  cases q
  ·exact h
  ·exact AR.tuple (AR.push (AR.one h) (.bool _)))
 have fail:∀(B:Lk) (i c:Option TypeId) (m:String),SR X P P' (Aq X) B (if q then do Pure.pure (.tuple #[<-zeroValue a,.bool false])else runtimePanic (.typeAssertion i c a m)) (if q then do Pure.pure (.tuple #[<-zeroValue a,.bool false])else runtimePanic (.typeAssertion i c a m)):=fun B i c m=>by
  cases q
  ·exact SR.A11 hP hg hd hl i c a m
  ·exact SR.bind (SR.zeroValue hP a) fun B1 l1 w w' hw=>SR.pure (AR.tuple (AR.push (AR.one hw) (.bool _)))
 unfold Instr.typeAssert;dsimp only
 refine SR.bind (SR.underlying hP a) ?_
 rintro B1 l1 _ d ⟨rfl,_⟩;have h:=h.mono l1
 cases d with
 | interface want =>
   cases h with
   | nilIface=>exact fail _ _ _ _
   | iface t hv =>
     dsimp only
     refine SR.bind (SR.typeInfo hP t) ?_
     rintro B2 l2 _ i ⟨rfl,_⟩
     cases Instr.missingMethod want i.methods with
     | none=>exact hold _ (.iface t (hv.mono l2))
     | some m=>exact fail _ _ _ _
   | _=>exact SR.stuck
 | _ =>
   cases h with
   | nilIface=>exact fail _ _ _ _
   | iface t hv=>exact SR.ite (fun _=>hold _ hv) (fun _=>fail _ _ _ _)
   | _=>exact SR.stuck
theorem Afo {tl:List (Nat×Nat)}{cl:List Nat}(hM:∀n,X.M n->Qu P tl cl n=true)(hc:∀f∈cl,(∀n,(f,n) ∉ tl)->X.C f/\¬X.T f)(hG:∀g,X.G g->¬X.D g/\X.L g=0):Ah7 X P P' where
 method name m n t B v v' h:=by
  cases n with
  | zero=>exact SR.unsupported
  | succ n =>
    unfold Go.method
    refine SR.bind (SR.typeInfo hP t) ?_
    rintro B1 l1 _ i ⟨rfl,hi⟩;have hrow:=Ada (hM name m) t i hi
    cases hf:i.methods.find? (·.name == name)with
    | none=>exact SR.stuck
    | some r =>
      obtain⟨h1,⟨e,h2⟩,f,h3,h4⟩:=hrow r hf;dsimp only;rw[h1,h3]
      have hu:P.underlying t=some (.pointer e):=by
       unfold Program.underlying;rw[hi];obtain⟨d⟩:=i;obtain rfl:d=.pointer e:=h2
       rfl
      unfold follow
      refine SR.bind (SR.pure (R:=fun _ (a b:TypeId×Place)=>a=(t,.val v)/\b=(t,.val v')) ⟨rfl,rfl⟩) ?_
      rintro B2 l2 _ _ ⟨rfl,rfl⟩;dsimp only;unfold receiverAt
      refine SR.bind (R:=fun B x x'=>VR X B x x') ?_ fun B3 l3 x x' hx=>SR.pure ⟨⟨rfl,h4.imp (fun h=>hc f h.1 h.2) fun h=>Ady h⟩,hx⟩
      refine SR.bind (SR.underlying hP t) ?_
      rintro B3 l3 _ d ⟨rfl,hd⟩;rw[hu]at hd
      cases hd
      exact SR.pure (((h.mono l1).mono l2).mono l3)
 nilAhead name m n t B v v' h:=by
  cases n with
  | zero=>exact SR.pure rfl
  | succ n =>
    unfold Go.nilAhead
    refine SR.bind (SR.typeInfo hP t) ?_
    rintro B1 l1 _ i ⟨rfl,hi⟩;have hrow:=Ada (hM name m) t i hi
    cases hf:i.methods.find? (·.name == name)with
    | none=>exact SR.stuck
    | some r =>
      obtain⟨h1,_,f,h3,_⟩:=hrow r hf;dsimp only;rw[h1,h3];unfold followBlind
      refine SR.bind (SR.pure (R:=fun _ (a b:Except (Option Bool) (TypeId×Option Value))=>a=.ok (t,some v)/\b=.ok (t,some v')) ⟨rfl,rfl⟩) ?_
      rintro B2 l2 _ _ ⟨rfl,rfl⟩
      exact SR.pure rfl
 typeAssert ha t a B v v' q h:=SR.typeAssert hP (X.asG ha) (hG _ (X.asG ha)).1 (hG _ (X.asG ha)).2 t a q h
end
end Ok
namespace Ok
open Go.Conc Lr
def mvP (P:Program)(t:TypeId)(n l:Nat):Prop:=∀off (m:Int) off',l<=off->0<=m->cellAtBytes P P.depth t (n / P.cellsOf t) off m=some off'->l<=off'
def Td (P:Program)(tl:List (Nat×Nat))(cl gl:List Nat)(Q:String->Code->Prop)(D F:Nat->Prop)(Dn:Prop)(L:Nat->Nat)(lf:∀b,L b≠0->F b):Cx where
 C f:=f∈cl\/∃n,(f,n)∈tl
 M n:=Qu P tl cl n=true
 As:=Acr P gl=true
 T f:=∃n,(f,n)∈tl
 K o:=J0 P tl cl gl o=true
 D:=D
 F:=F
 G g:=g∈gl
 N:=P.globals.size
 R:=Q
 Dn:=Dn
 L:=L
 Mv:=mvP P
 Z t:=P.info? t=none
 lf:=lf
 Ar f n:=(f,n)∈tl
 asG h:=by simpa [Acr]using h
def cx (P:Program)(cl gl:List Nat)(Q:String->Code->Prop)(D F:Nat->Prop)(Dn:Prop:=True):Cx:=Td P [] cl gl Q D F Dn (fun _=>0) fun _ h=>absurd rfl h
theorem Te {P:Program}{cl gl:List Nat}{Q:String->Code->Prop}{D F:Nat->Prop}{Dn:Prop}:∀f,¬(cx P cl gl Q D F Dn).T f:=fun _ ⟨_,h⟩=>by cases h
theorem Akd {P:Program}{cl gl:List Nat}{Q:String->Code->Prop}{D F:Nat->Prop}{Dn:Prop}:∀f∈cl,(cx P cl gl Q D F Dn).C f/\¬(cx P cl gl Q D F Dn).T f:=fun f h=>⟨.inl h,Te f⟩
def Aaq (e:Array Value->Sem Value):Prop:=(∃n w,e=Extern.MathFloor.toIntegral n w)\/e=Extern.MathFloatBits.float64bits\/e=Extern.MathFloatBits.float64frombits
def Vc (P:Program)(tl:List (Nat×Nat))(cl gl:List Nat)(f:Nat):Prop :=
 ∃fn,P.funcs[f]?=some fn /\(fn.name == "runtime.NumGoroutine") = false /\((∃c,fn.body=some c/\Is P tl cl gl c=true) \/(fn.body.isNone=true/\Extern.findNext fn=none/\∃e,Extern.find fn=some e/\Aaq e))
def My (P:Program):Bool:=P.types.all (fun i=>match i.zero with|none=>true|some v=>Dc 8 v)
theorem A6p {X:Cx}{P:Program}(h:My P=true)(t:TypeId)(i:TypeInfo)(v:Value)(h1:P.info? t=some i)(h2:i.zero=some v):Flat X v:=by
 refine A95 (T:=P.toTables) (fun i hi v hv=>?_) t i h1 v h2
 unfold My at h;rw[Aq0]at h;have:=h i hi;rw[hv]at this
 exact Zh 8 v this
section
variable {P P' : Program} {tl : List (Nat × Nat)} {cl gl : List Nat} {Q : String -> Code -> Prop} {D F : Nat -> Prop} {Dn : Prop} {L : Nat -> Nat} {lf : ∀ b, L b ≠ 0 -> F b}
theorem Abn {X:Cx}{P P':Program}{e:Array Value->Sem Value}(h:Aaq e):∀B p p',AR X B p p'->SR X P P' (Aq X) B (e p) (e p'):=by
 rcases h with⟨n,w,rfl⟩|rfl|rfl
 ·exact Vy n w
 ·exact Ag6
 ·exact A3n
def J8 (ids:List Nat):Code->Code
 | .region id ops d=>if ids.contains id then .refuse Ty else .region id ops d
 | .seq a b=>.seq (J8 ids a) (J8 ids b)
 | .cond c a b=>.cond c (J8 ids a) (J8 ids b)
 | .rangeFunc f p a b=>.rangeFunc f p (J8 ids a) (J8 ids b)
 | .block i c=>.block i (J8 ids c)
 | .loop c=>.loop (J8 ids c)
 | .scope c=>.scope (J8 ids c)
 | .refuse w=>.refuse w
 | .goto l=>.goto l
 | .skip=>.skip
 | .ret=>.ret
 | .exit i=>.exit i
 | .label l=>.label l
theorem Ex {X:Cx}(hc:∀f∈cl,X.C f/\¬X.T f)(hg:∀g∈gl,X.G g)(hK:∀o,J0 P tl cl gl o=true->X.K o)(ids:List Nat):∀(c:Code),Is P tl cl gl (J8 ids c)=true->Km X (J8 ids c) c
 | .refuse w,h=>by
   unfold J8 at h ⊢
   exact .inl (by simpa [Is,Ty]using h)
 | .region id ops d,h=>by
   unfold J8 at h ⊢
   by_cases hn:ids.contains id=true
   ·rw[Apb hn]
    exact .inl rfl
   ·rw[Ap8 hn]at h ⊢
    exact Fa hc hg hK (.region id ops d) h
 | .seq a b,h=>by
   simp only[J8,Is,Ap7]at h
   exact⟨a,b,rfl,Ex hc hg hK ids a h.1,Ex hc hg hK ids b h.2⟩
 | .cond c a b,h=>by
   simp only[J8,Is,Ap7]at h
   exact⟨a,b,rfl,Lq hc hg h.1,Ex hc hg hK ids a h.2.1,Ex hc hg hK ids b h.2.2⟩
 | .rangeFunc f p a b,h=>by
   simp only[J8,Is,Ap7]at h
   exact⟨a,b,rfl,Lq hc hg h.1,Ex hc hg hK ids a h.2.1,Ex hc hg hK ids b h.2.2⟩
 | .block _ c,h=>⟨c,rfl,Ex hc hg hK ids c h⟩
 | .loop c,h=>⟨c,rfl,Ex hc hg hK ids c h⟩
 | .scope c,h=>⟨c,rfl,Ex hc hg hK ids c h⟩
 | .goto _,h=>by simp[J8,Is]at h
 | .skip,_=>rfl
 | .ret,_=>rfl
 | .exit _,_=>rfl
 | .label _,_=>rfl
def Ah5 (P P':Program)(f:Nat):Prop:=∃(fn fn':Func) (c:Code) (ids:List Nat),P'.funcs[f]?=some fn'/\P.funcs[f]?=some fn/\fn.name=fn'.name/\fn.results=fn'.results/\fn.ntmps=fn'.ntmps/\fn'.body=some c/\fn.body=some (J8 ids c)
theorem Yl (hz:My P=true)(htab:P'.toTables=P.toTables)(hsz:P'.funcs.size=P.funcs.size)(hcl:∀f∈cl,Vc P tl cl gl f /\(∀n,(f,n) ∉ tl) /\(P'.funcs[f]?=P.funcs[f]?\/Ah5 P P' f))
 (hT:∀f:Nat,(∃n,(f,n)∈tl)->∃fn fn':Func,P.funcs[f]?=some fn/\P'.funcs[f]?=some fn'/\fn'.name=fn.name/\fn'.results=fn.results /\(fn.name == "runtime.NumGoroutine") = false/\fn.body.isNone=false/\fn'.body.isNone=false)
 (hall:∀f:Nat,P'.funcs[f]?=P.funcs[f]?\/∃fn fn':Func,P.funcs[f]?=some fn/\P'.funcs[f]?=some fn'/\fn'.name=fn.name/\fn'.results=fn.results) (hD:∀g∈gl,¬D g/\L g=0):Whole (Td P tl cl gl Q D F Dn L lf) P P':=by
 have hF:A8c (Td P tl cl gl Q D F Dn L lf) P P':={
  Pj:=htab
  nG:=rfl
  zero:=A6p hz
  mono:=fun t n l h=>h
  zed:=fun t h=>h
  size:=hsz
  funcs:=fun f=>by
   by_cases hf:f∈cl\/∃n,(f,n)∈tl
   ·by_cases ht:∃n,(f,n)∈tl
    ·obtain⟨fn,fn',h1,h2,h3,h4,h5,h6,h7⟩:=hT f ht
     exact .inr ⟨fn,fn',h1,h2,h3,h4,fun _ h=>absurd ht h,fun _=>⟨fun e=>by rw[e]at h5;simp at h5,.inl ⟨h6,h7,fun h=>absurd ht h⟩⟩⟩
    ·obtain⟨⟨fn,h1,h2,h3⟩,_,hs⟩:=hcl f (hf.resolve_right ht)
     rcases hs with hs |⟨fn0,fn',c',ids,g1,g2,g3,g4,g5,g6,g7⟩
     ·refine .inr ⟨fn,fn,h1,hs.trans h1,rfl,rfl,fun _ _=>rfl,fun _=>⟨fun e=>by rw[e]at h2;simp at h2,?_⟩⟩
      rcases h3 with⟨c,h4,h5⟩ |⟨h4,h5,e,h6,h7⟩
      ·exact .inl ⟨by rw[h4];rfl,by rw[h4];rfl,fun _=>⟨c,c,h4,h4,Fa (X:=Td P tl cl gl Q D F Dn L lf) (tl:=tl) (cl:=cl) (gl:=gl) (fun f h=>⟨.inl h,fun⟨n,hn⟩=>(hcl f h).2.1 n hn⟩) (fun g h=>h) (fun o h=>h) c h5⟩⟩
      ·exact .inr ⟨h4,rfl,fun B p p' hp=>A9x h1 (hs.trans h1) h2 h4 h5 h6 (Abn h7) hp⟩
     ·obtain rfl:fn=fn0:=Aqp (h1.symm.trans g2)
      refine .inr ⟨fn,fn',h1,g1,g3.symm,g4.symm,fun _ _=>g5.symm,fun _=>⟨fun e=>by rw[e]at h2;simp at h2,?_⟩⟩
      rcases h3 with⟨c,h4,h5⟩ |⟨h4,_⟩
      ·obtain rfl:c=J8 ids c':=Aqp (h4.symm.trans g7)
       exact .inl ⟨by rw[h4];rfl,by rw[g6];rfl,fun _=>⟨_,c',h4,g6,Ex (X:=Td P tl cl gl Q D F Dn L lf) (P:=P) (tl:=tl) (cl:=cl) (gl:=gl) (fun f h=>⟨.inl h,fun⟨n,hn⟩=>(hcl f h).2.1 n hn⟩) (fun g h=>h) (fun o h=>h) ids c' h5⟩⟩
      ·rw[g7]at h4
       cases h4
   ·rcases hall f with hs |⟨fn,fn',h1,h2,h3,h4⟩
    ·cases h:P.funcs[f]? with
     | none=>exact .inl ⟨rfl,hs.trans h⟩
     | some fn=>exact .inr ⟨fn,fn,rfl,hs.trans h,rfl,rfl,fun hc=>absurd hc hf,fun hc=>absurd hc hf⟩
    ·exact .inr ⟨fn,fn',h1,h2,h3,h4,fun hc=>absurd hc hf,fun hc=>absurd hc hf⟩ }
 exact{
  hF:=hF
  hM:=Afo hF.toPRel (fun n h=>h) (fun f h hn=>⟨.inl h,fun⟨n,e⟩=>hn n e⟩) (fun g h=>hD g h)
  hK:=fun o h=>Afu (X:=Td P tl cl gl Q D F Dn L lf) (tl:=tl) (cl:=cl) (gl:=gl) (fun f h=>⟨.inl h,fun⟨n,hn⟩=>(hcl f h).2.1 n hn⟩) (fun n h=>h) (fun h=>h) (fun g h=>h) (fun f n h=>⟨.inr ⟨n,h⟩,h⟩) h
  hG:=fun g h=>hD g h }
theorem Ym (hz:My P=true)(htab:P'.toTables=P.toTables)(hsz:P'.funcs.size=P.funcs.size)(hcl:∀f∈cl,Vc P tl cl gl f /\(∀n,(f,n) ∉ tl)/\P'.funcs[f]?=P.funcs[f]?)
 (hT:∀f:Nat,(∃n,(f,n)∈tl)->∃fn fn':Func,P.funcs[f]?=some fn/\P'.funcs[f]?=some fn'/\fn'.name=fn.name/\fn'.results=fn.results /\(fn.name == "runtime.NumGoroutine") = false/\fn.body.isNone=false/\fn'.body.isNone=false)
 (hall:∀f:Nat,P'.funcs[f]?=P.funcs[f]?\/∃fn fn':Func,P.funcs[f]?=some fn/\P'.funcs[f]?=some fn'/\fn'.name=fn.name/\fn'.results=fn.results) (hD:∀g∈gl,¬D g/\L g=0):Whole (Td P tl cl gl Q D F Dn L lf) P P' :=
 Yl hz htab hsz (fun f h=>⟨(hcl f h).1,(hcl f h).2.1,.inl (hcl f h).2.2⟩) hT hall hD
theorem Aed (hz:My P=true)(htab:P'.toTables=P.toTables)(hsz:P'.funcs.size=P.funcs.size)(hcl:∀f∈cl,Vc P [] cl gl f/\P'.funcs[f]?=P.funcs[f]?)
 (hall:∀f:Nat,P'.funcs[f]?=P.funcs[f]?\/∃fn fn':Func,P.funcs[f]?=some fn/\P'.funcs[f]?=some fn'/\fn'.name=fn.name/\fn'.results=fn.results) (hD:∀g∈gl,¬D g):Whole (cx P cl gl Q D F Dn) P P' :=
 Ym hz htab hsz (fun f h=>⟨(hcl f h).1,(fun n hn=>by cases hn),(hcl f h).2⟩) (fun f ⟨n,hn⟩=>by cases hn) hall fun g hg=>⟨hD g hg,rfl⟩
end
def chk (P:Program)(tl:List (Nat×Nat))(cl gl:List Nat)(f:Nat):Bool:=match P.funcs[f]? with
 | some fn=>!(fn.name == "runtime.NumGoroutine") && (match fn.body with
   | some c=>Is P tl cl gl c
   | none=>false)
 | none=>false
theorem Af7 {P:Program}{tl:List (Nat×Nat)}{cl gl:List Nat}{f:Nat}(h:chk P tl cl gl f=true):Vc P tl cl gl f:=by
 unfold chk at h
 split at h
 ·rename_i fn hf
  simp only[Ap7,Bool.not_eq_true']at h
  split at h
  ·rename_i c hc
   exact⟨fn,hf,h.1,.inl ⟨c,hc,h.2⟩⟩
  ·simp at h
 ·cases h
theorem Ze {P:Program}{tl:List (Nat×Nat)}{cl gl:List Nat}{f:Nat}{fn:Func}{e:Array Value->Sem Value}(h1:P.funcs[f]?=some fn)(h2:(fn.name == "runtime.NumGoroutine") = false)(h3:fn.body.isNone=true)(h4:Extern.findNext fn=none)(h5:Extern.find fn=some e)(h6:Aaq e):Vc P tl cl gl f :=
 ⟨fn,h1,h2,.inr ⟨h3,h4,e,h5,h6⟩⟩
end Ok
namespace Ok
open Go.Conc Lr
theorem Rb:My Vp.prog=true:=by kernel_rfl
def phs:List Nat:=[31,32,55,56,57,58,59,76,77,78,79,80,81,101,102,103,104,105,106,107,108,109,110,111,112,113,114,115,124,125,126,127,128,129,130,131,132,133,134,135,138,139,140,141,142,143,144,145,146,147]
def ext:List Nat:=[101,144,145,146]
theorem Aob (tl:List (Nat×Nat))(cl gl:List Nat):Vc Vp.prog tl cl gl 101:=Ze (fn:=Tryz.f101) (by kernel_rfl) (by kernel_rfl) (by kernel_rfl) (by kernel_rfl) (e:=Extern.MathFloor.toIntegral "math.archFloor" .down) (by kernel_rfl) (.inl ⟨_,_,rfl⟩)
theorem Aoc (tl:List (Nat×Nat))(cl gl:List Nat):Vc Vp.prog tl cl gl 144:=Ze (fn:=Tryz.f144) (by kernel_rfl) (by kernel_rfl) (by kernel_rfl) (by kernel_rfl) (e:=Extern.MathFloatBits.float64frombits) (by kernel_rfl) (.inr (.inr rfl))
theorem Aod (tl:List (Nat×Nat))(cl gl:List Nat):Vc Vp.prog tl cl gl 145:=Ze (fn:=Tryz.f145) (by kernel_rfl) (by kernel_rfl) (by kernel_rfl) (by kernel_rfl) (e:=Extern.MathFloatBits.float64bits) (by kernel_rfl) (.inr (.inl rfl))
theorem Aoe (tl:List (Nat×Nat))(cl gl:List Nat):Vc Vp.prog tl cl gl 146:=Ze (fn:=Tryz.f146) (by kernel_rfl) (by kernel_rfl) (by kernel_rfl) (by kernel_rfl) (e:=Extern.MathFloor.toIntegral "math.archTrunc" .zero) (by kernel_rfl) (.inl ⟨_,_,rfl⟩)
theorem A4c {tl:List (Nat×Nat)}{cl gl:List Nat}(h:(cl.filter fun f=>!(ext.contains f)).all (chk Vp.prog tl cl gl)=true):∀f∈cl,Vc Vp.prog tl cl gl f:=by
 intro f hf
 by_cases hx:ext.contains f=true
 ·have hx:f∈ext:=by simpa using hx
  simp only[ext,Aqe,Aqc,As6]at hx
  rcases hx with rfl|rfl|rfl|rfl
  ·exact Aob _ _ _
  ·exact Aoc _ _ _
  ·exact Aod _ _ _
  ·exact Aoe _ _ _
 ·refine Af7 ?_
  rw[Art]at h
  exact h f (List.mem_filter.2 ⟨hf,by simpa using hx⟩)
theorem Alo:(phs.filter fun f=>!(ext.contains f)).all (chk Vp.prog [] phs [])=true:=by kernel_rfl
theorem A85:∀f:Nat,Tryz.prog.funcs[f]?=Vp.prog.funcs[f]?\/∃fn fn':Func,Vp.prog.funcs[f]?=some fn/\Tryz.prog.funcs[f]?=some fn'/\fn'.name=fn.name/\fn'.results=fn.results:=by
 intro f
 by_cases h:f=15
 ·subst h
  exact .inr ⟨Vp.fT,Tryz.f15,Vp.Ql,Tryz.func15,by kernel_rfl,by kernel_rfl⟩
 ·by_cases hc:Vp.Np.contains f=true
  ·obtain⟨fn,fn',c,ids,h1,h2,h3,h4,_⟩:=Vp.Af0 f hc
   exact .inr ⟨fn,fn',h2,h1,h3.symm,h4.symm⟩
  ·exact .inl (Vp.same h (by simpa using hc)).symm
theorem Aew (ids:List Nat)(c:Code):Vp.N0 ids c=J8 ids c:=by
 induction c<;>simp_all [Vp.N0,J8,Ty]
theorem Af0 {f:Nat}(h:Vp.Np.contains f=true):Ah5 Vp.prog Tryz.prog f:=by
 obtain⟨fn,fn',c,ids,h1,h2,h3,h4,h5,h6,h7⟩:=Vp.Af0 f h
 exact⟨fn,fn',c,ids,h1,h2,h3,h4,h5,h6,by rw[h7,Aew]⟩
theorem Ag2 {f:Nat}(h:f≠15):Tryz.prog.funcs[f]?=Vp.prog.funcs[f]?\/Ah5 Vp.prog Tryz.prog f:=by
 by_cases hc:Vp.Np.contains f=true
 ·exact .inr (Af0 hc)
 ·exact .inl (Vp.same h (by simpa using hc)).symm
theorem A9i:phs.all (fun f=>!(Vp.Np.contains f))=true:=by kernel_rfl
theorem whole (Q:String->Code->Prop)(D F:Nat->Prop):Whole (cx Vp.prog phs [] Q D F) Vp.prog Tryz.prog :=
 Aed Rb Vp.Pj.symm Vp.size.symm (fun f hf=>by
  have ht:f≠15:=fun e=>by subst e;revert hf;decide
  exact⟨A4c Alo f hf,(Vp.same ht (by have:=Art.1 A9i f hf;simpa using this)).symm⟩) A85 (fun g h=>by cases h)
end Ok
namespace Ok
open Go.Conc Lr
def A82:Nat->String
 | 0 => "0"
 | 9 => "9"
 | 10 => "10"
 | 12 => "12"
 | 13 => "13"
 | _ => ""
def cut (ids:List Nat):Code->Code
 | .region id ops d=>if ids.contains id then .refuse (A82 id)else .region id ops d
 | .seq a b=>.seq (cut ids a) (cut ids b)
 | .cond c a b=>.cond c (cut ids a) (cut ids b)
 | .rangeFunc f p a b=>.rangeFunc f p (cut ids a) (cut ids b)
 | .block i c=>.block i (cut ids c)
 | .loop c=>.loop (cut ids c)
 | .scope c=>.scope (cut ids c)
 | .refuse w=>.refuse w
 | .goto l=>.goto l
 | .skip=>.skip
 | .ret=>.ret
 | .exit i=>.exit i
 | .label l=>.label l
def Js:Code->List (Nat×Array Oper×Bool)
 | .region id ops d=>[(id,ops,d)]
 | .seq a b=>Js a++Js b
 | .cond _ a b=>Js a++Js b
 | .rangeFunc _ _ a b=>Js a++Js b
 | .block _ c=>Js c
 | .loop c=>Js c
 | .scope c=>Js c
 | _=>[]
def Gz (P:Program)(cl gl ids:List Nat):Code->Bool
 | .region id ops d=>ids.contains id || okC P cl gl (.region id ops d)
 | .seq a b=>Gz P cl gl ids a && Gz P cl gl ids b
 | .cond c a b=>Ov cl gl c && (Gz P cl gl ids a && Gz P cl gl ids b)
 | .rangeFunc f _ a b=>Ov cl gl f && (Gz P cl gl ids a && Gz P cl gl ids b)
 | .block _ c|.loop c|.scope c=>Gz P cl gl ids c
 | .goto _|.refuse _=>false
 | .skip|.ret|.exit _|.label _=>true
theorem J9 {X:Cx}{P:Program}{cl gl:List Nat}(hc:∀f∈cl,X.C f/\¬X.T f)(hg:∀g∈gl,X.G g)(hK:∀o,Ahy P cl gl o=true->X.K o)(ids:List Nat):∀(c:Code),(∀r∈Js c,ids.contains r.1=true->X.R (A82 r.1) (.region r.1 r.2.1 r.2.2))->Gz P cl gl ids c=true->Km X (cut ids c) c
 | .refuse _,_,h=>by simp[Gz]at h
 | .region id ops d,hR,h=>by
   unfold cut;unfold Gz at h
   by_cases hn:ids.contains id=true
   ·rw[Apb hn]
    exact .inr (hR (id,ops,d) (by simp[Js]) hn)
   ·rw[Ap8 hn];rw[Ase]at h
    exact Fa hc hg hK (.region id ops d) (h.resolve_left hn)
 | .seq a b,hR,h=>by
   simp only[Gz,Ap7]at h
   exact⟨a,b,rfl,J9 hc hg hK ids a (fun r x=>hR r (by simp[Js,x])) h.1,J9 hc hg hK ids b (fun r x=>hR r (by simp[Js,x])) h.2⟩
 | .cond c a b,hR,h=>by
   simp only[Gz,Ap7]at h
   exact⟨a,b,rfl,Lq hc hg h.1,J9 hc hg hK ids a (fun r x=>hR r (by simp[Js,x])) h.2.1,J9 hc hg hK ids b (fun r x=>hR r (by simp[Js,x])) h.2.2⟩
 | .rangeFunc f p a b,hR,h=>by
   simp only[Gz,Ap7]at h
   exact⟨a,b,rfl,Lq hc hg h.1,J9 hc hg hK ids a (fun r x=>hR r (by simp[Js,x])) h.2.1,J9 hc hg hK ids b (fun r x=>hR r (by simp[Js,x])) h.2.2⟩
 | .block _ c,hR,h=>⟨c,rfl,J9 hc hg hK ids c (fun r x=>hR r x) h⟩
 | .loop c,hR,h=>⟨c,rfl,J9 hc hg hK ids c (fun r x=>hR r x) h⟩
 | .scope c,hR,h=>⟨c,rfl,J9 hc hg hK ids c (fun r x=>hR r x) h⟩
 | .goto _,_,h=>by simp[Gz]at h
 | .skip,_,_=>rfl
 | .ret,_,_=>rfl
 | .exit _,_,_=>rfl
 | .label _,_,_=>rfl
end Ok
end Go.Proofs.YtlfleicchbgcmaaGreat
