import Derived.Test.YtlfleicchbgcmaaGreatZq10
import Derived.Calls
import Derived.Test.YtlfleicchbgcmaaGreatZq0
set_option linter.all false
set_option maxHeartbeats 16000000
set_option maxRecDepth 100000
namespace Go.Proofs.YtlfleicchbgcmaaGreat
namespace Lr
open Go.Conc Tl
def Gv (fr:Frame):List Frame->Option Nat
 | []=>fr.roundOf
 | c :: cs=>Gv c cs
theorem Dc {fr fr1:Frame}(h:fr1.roundOf=fr.roundOf)(cs:List Frame):Gv fr1 cs=Gv fr cs:=by
 cases cs with
 | nil=>exact h
 | cons c cs=>rfl
theorem Dr (fr:Frame)(v:Value):(fr.finish v).roundOf=fr.roundOf:=by
 unfold Frame.finish
 split<;>rfl
theorem Ih (fr:Frame)(l:List PanicEntry):(fr.raise l).roundOf=fr.roundOf:=by
 unfold Frame.raise
 split<;>rfl
def Bt (base:List Frame)(x:Option Nat)(r:GStep):Prop:=∀fr cs W1 es,r=.go (G fr (cs++base)) W1 es->Gv fr cs=x
section
variable {X : Cx} {P P' : Program} {B : Lk} {base : List Frame} {x : Option Nat}
theorem Cf {w:World}{fr:Frame}{cs:List Frame}{es:Array Event}(h:Gv fr cs=x):Bt base x (.go (G fr (cs++base)) w es):=by
 intro fr1 cs1 W1 e h1;injection h1 with h1 _ _
 injection h1 with h2 h3 _ _
 obtain rfl:=h2;obtain rfl:=Ak2 h3
 exact h
theorem Dq {w1:World}{o:Outcome}{es:Array Event}:Bt base x (.ended o w1 es):=fun _ _ _ _ h=>by cases h
theorem Cy {es:Array Event}{r1:GStep}(h:Bt base x r1):Bt base x (GStep.after es r1):=by
 intro fr cs W1 e he;obtain⟨es2,h1,rfl⟩:=Iv he
 exact h _ _ _ _ h1
theorem Nb {fr fr':Frame}(hf:Ee X B fr fr'){cs:List Frame}{s s':Sem Next}(hs:SR X P P' (Tz X) B s s'){V W:World}(hw:WR X B V W) :
 Bt base (Gv fr cs) (stepG.apply P true fr (cs++base) none s V):=by
 rcases Gq (τ:=V.tape) (a:=0) (b:=0) (lim:=0) hs hw ⟨Aj9 _,fun n q h1 h2=>by omega⟩with⟨v,V1,es,B1,d,e1,hm,hA1,e2,hl,hr,_⟩ |⟨v,V1,es,e1,hm,e2⟩ |⟨h,V1,es,e1,hn⟩
 ·have hp:Plain v:=by cases hr<;>trivial
  rw[Og e1 hp hf.todo.kind.1]
  refine Cy ?_
  cases hr with
  | value _=>exact Cf (Dc (Dr _ _) cs)
  | skip=>exact Cf (Dc (Dr _ _) cs)
  | enter f hcf hp=>exact Cf (cs:=fr :: cs) rfl
  | round f hl hp ha hb=>exact Cf (cs:=fr :: cs) rfl
  | defer hd=>exact Cf (Dc (by rw[Dr]) cs)
 ·rw[Jg e1]
  exact Cy (Cf (Dc (Ih _ _) cs))
 ·obtain⟨o,w1,es1,h⟩:=Mm (fr:=fr) (cs:=cs++base) e1 hn;rw[h]
  exact Dq
theorem Kd {fr c:Frame}{cs:List Frame}{v:Value}(m:Bool)(w:World):Bt base (Gv fr (c :: cs)) (doReturn P m fr (c :: cs++base) none v w):=by
 unfold doReturn;dsimp only[List.cons_append]
 cases fr.kind with
 | normal=>exact Cf (Dc (Dr _ _) cs)
 | wrapped=>exact Cf (Dc (Dr _ _) cs)
 | early=>exact Cf rfl
 | _ =>
   refine Cf (Dc ?_ cs)
   split
   ·split<;>rfl
   ·rfl
theorem Rh {V W:World}(hw:WR X B V W){fr fr':Frame}{cs cs':List Frame}(hf:Ee X B fr fr')(hc:L8 X B cs cs')(hb:cs=[]->fr.roundOf=none)(m:Bool)(j:Option Code)(hj:∀c,j=some c->Jy X c c) :
 Bt base (Gv fr cs)
  (match fr.roundOf with
   | none=>if(match (generalizing:=false) j with|none=>true|some .ret=>true|_=>false)=true then GStep.go (G { fr with mode:=.returning } (cs++base)) V else .ended (.stuck "exit, goto: no such block or label" (fr.pos P)) V
   | some l=>match (Instr.endRound l j).runT P V #[]with
     | (r,es)=>GStep.after (seen P fr.fn es) (match r with
       | .ok v w=>doReturn P m fr (cs++base) none v w
       | .halt _ w=>.ended (.stuck "range over a function: no such loop" (fr.pos P)) w)):=by
 cases hro:fr.roundOf with
 | none =>
   dsimp only;generalize (match (generalizing:=false) j with|none=>true|some .ret=>true|_=>false:Bool)=q
   cases q
   ·rw[Aid (by simp)];exact Dq
   ·rw[Aij rfl]
    exact Cf (Dc (by first|rfl|exact hro.symm) cs)
 | some l =>
   dsimp only
   cases hc with
   | nil=>rw[hb rfl]at hro;cases hro
   | cons hcc hc =>
     refine Cy ?_
     generalize (Instr.endRound l j).runT P V #[]=q;obtain⟨r,es⟩:=q
     cases r with
     | ok v w=>exact Kd m w
     | halt h w=>exact Dq
variable (H : Whole X P P')
include H
theorem Abl {V W:World}(hw:WR X B V W){fr fr':Frame}(hf:Ee X B fr fr'){cs:List Frame}{ops:Array Oper}{i:Nat}{rest:List Nat}{k:List Item}
 (ht:fr.todo=.inRegion ops (i :: rest) :: k) (hops:∀o∈ops,X.K o) :
 Bt base (Gv fr cs) (stepG.oper P true fr (cs++base) none V):=by
 unfold stepG.oper Frame.oper?;rw[ht];dsimp only
 cases ho:ops[i]? with
 | none=>exact Dq
 | some o =>
   dsimp only;have hok:=H.hK o (hops o (Aj2 ho));have hev:=hf.evR hw.Hm H.hG
   cases hro:fr.roundOf with
   | none=>exact Nb hf (Cd H.hF H.hM o hok hev fun f=>⟨rfl,rfl⟩) hw
   | some l =>
     cases hop:o.op with
     | defer c =>
       have:=hok.1;rw[hop]at this
       exact this.elim
     | _=>exact Nb hf (Cd H.hF H.hM o hok hev fun f=>⟨rfl,rfl⟩) hw
theorem Abk {V W:World}(hw:WR X B V W){fr fr':Frame}{cs cs':List Frame}(hf:Ee X B fr fr')(hc:L8 X B cs cs')(hb:cs=[]->fr.roundOf=none)(m:Bool) :
 Bt base (Gv fr cs) (stepG.exec P m true fr (cs++base) none V):=by
 have hP:=H.hF.toPRel;obtain⟨fn,tmps,todo,defers,mode,kind,ro⟩:=fr;obtain⟨fn',tmps',todo',defers',mode',kind',ro'⟩:=fr';have ht:=hf.todo;dsimp only at ht hb;have key:∀(td:List Item) (df:List Deferred),Gv ⟨fn,tmps,td,df,mode,kind,ro⟩ cs=Gv ⟨fn,tmps,todo,defers,mode,kind,ro⟩ cs:=fun td df=>Dc (by first|rfl|exact hro.symm) cs
 cases ht with
 | nil=>exact Rh hw hf hc hb m none fun c e=>by cases e
 | cons hi hk =>
  cases hi with
  | inBlock i=>unfold stepG.exec;exact Cf (key _ _)
  | inScope hcd=>unfold stepG.exec;exact Cf (key _ _)
  | inLoop hcd=>unfold stepG.exec;exact Cf (key _ _)
  | inRangeFunc hl=>unfold stepG.exec;exact Dq
  | beginRound =>
    unfold stepG.exec;have hr:=hf.roundOf;dsimp only;dsimp only at hr
    refine Nb hf (P':=P') (s':=(do ro'.elim (stuck "beginRound: no round") Instr.beginRound;pure .skip)) ?_ hw
    cases hr with
    | none=>exact SR.Cq
    | some hl=>exact SR.bind (Ir hP hl) fun _ _ _ _ _=>SR.pure .skip
  | endRangeFunc hl =>
    rename_i l l'
    unfold stepG.exec;dsimp only
    refine Cy ?_
    generalize (Instr.endLoop l).runT P V #[]=q;obtain⟨r,es⟩:=q
    cases r with
    | ok v w=>exact Cf (key _ _)
    | halt h w =>
      cases h<;>first
       | exact Dq
       | exact Cf (Dc (Ih _ _) cs)
  | inRegion ops l hops =>
    cases l with
    | nil=>unfold stepG.exec;exact Cf (key _ _)
    | cons i rest =>
      have ho:=Abl H hw hf (cs:=cs) (base:=base) rfl hops;unfold stepG.exec;dsimp only
      split
      ·exact ho
      ·exact Cf (Dc (Dr _ _) cs)
  | @code c c' hcd =>
    cases c with
    | skip=>unfold stepG.exec;exact Cf (key _ _)
    | label l=>unfold stepG.exec;exact Cf (key _ _)
    | ret =>
      unfold stepG.exec
      exact Rh hw hf hc hb m (some .ret) fun c e=>by cases e;rfl
    | seq a b=>unfold stepG.exec;exact Cf (key _ _)
    | cond o a b =>
      unfold stepG.exec;dsimp only;generalize Frame.eval _ o=v
      cases v<;>first
       | exact Dq
       | exact Cf (key _ _)
    | block i a=>unfold stepG.exec;exact Cf (key _ _)
    | loop a=>unfold stepG.exec;exact Cf (key _ _)
    | scope a=>unfold stepG.exec;exact Cf (key _ _)
    | exit i =>
      unfold stepG.exec;dsimp only
      rcases Oq i hk with⟨e1,e2⟩ |⟨q,q',e1,e2,hq⟩
      ·rw[e1]
       exact Rh hw hf hc hb m (some (.exit i)) fun c e=>by cases e;rfl
      ·rw[e1]
       exact Cf (key _ _)
    | goto l=>exact hcd.elim
    | refuse why=>unfold stepG.exec;exact Dq
    | region id ops d =>
      unfold stepG.exec;dsimp only
      cases d with
      | false=>exact Cf (key _ _)
      | true =>
        generalize (Go.choose (.order fn id)).run P V=r
        cases r with
        | ok v w=>exact Cf (key _ _)
        | halt h w=>exact Dq
    | rangeFunc f ps aa bb =>
      obtain⟨aa',bb',rfl,h00,h01,h02⟩:=hcd;obtain rfl:fn'=fn:=hf.fn;unfold stepG.exec;dsimp only;have hev:=hf.evR hw.Hm H.hG f h00
      rcases Gq (τ:=V.tape) (a:=0) (b:=0) (lim:=0) (Ju (P:=P) (P':=P') fn' hf.tmps ps h01 h02 hf.roundOf) hw ⟨Aj9 _,fun n q h1 h2=>by omega⟩with⟨x,V1,es,B1,y,e1,hm,hA1,e2,hle,hab,W1,hw1⟩ |⟨v,V1,es,e1,hm,e2⟩ |⟨h,V1,es,e1,hn⟩
      ·dsimp only at e1 e2;rw[e1];obtain⟨l,mk⟩:=x;obtain⟨l',mk'⟩:=y;obtain⟨hl,hmk⟩:=hab;dsimp only at hl hmk ⊢;have hf1:=hf.mono hle;have hf2:Ee X B1 ⟨fn',tmps,.inRangeFunc l :: _,mk++defers,mode,kind,ro⟩ ⟨fn',tmps',.inRangeFunc l' :: _,mk'++defers',mode',kind',ro'⟩:=⟨rfl,hf1.tmps,.cons (.inRangeFunc hl) (hk.mono hle),hmk.append hf1.defers,hf1.mode,hf1.kind,hf1.roundOf⟩;have hev1:=hev.mono hle;have hone:AR X B1 #[Value.func (.yield l) #[] #[]] #[Value.func (.yield l') #[] #[]]:=AR.one (.func (.yield _ _ hl) rfl (fun i v v' (a:(#[]:Array Value)[i]?=some v) _=>by simp at a) rfl (fun i v v' (a:(#[]:Array Value)[i]?=some v) _=>by simp at a))
       refine Cy ?_
       have hba:=Nb (base:=base) hf2 (P:=P) (P':=P') (cs:=cs) (s:=(do let d <-resolve (Frame.eval ⟨fn',tmps,[],mk++defers,mode,kind,ro⟩ f |> fun _=>(⟨fn',tmps,[],mk++defers,mode,kind,ro⟩:Frame).eval) { callee:=.value f,args:=#[.const (.func (.yield l) #[] #[])],argTypes:=#[] } 0;invoke d.target d.args)) (s':=(do let d <-resolve (Frame.eval ⟨fn',tmps',[],mk'++defers',mode',kind',ro'⟩) { callee:=.value f,args:=#[.const (.func (.yield l') #[] #[])],argTypes:=#[] } 0;invoke d.target d.args)) ?_ hw1
       ·rw[key]at hba
        exact hba
       ·refine SR.bind (R:=fun B' d d'=>DfR X B' d d') ?_ fun B2 l2 d d' hd=>G9 H.hF H.hM hd.1 hd.2
        refine Mw ?_ ?_
        ·cases f<;>exact hev1
        ·simpa [Frame.eval]using hone
      ·dsimp only at e1;rw[e1]
       exact Cy Dq
      ·dsimp only at e1;rw[e1]
       exact Cy Dq
theorem Qa {V W:World}(hw:WR X B V W){cs:List Frame}{fr:Frame}{d d':Deferred}(hd:DfR X B d d') :
 Bt base (Gv fr cs) (callDeferred P fr (cs++base) none d V):=by
 unfold callDeferred;generalize ((match d.target with|.nil=>true|_=>false) && (match fr.mode with|.panicking _=>true|_=>false))=q
 cases q with
 | true=>exact Dq
 | false =>
   rw[Aid (by simp)]
   rcases Gq (τ:=V.tape) (a:=0) (b:=0) (lim:=0) (G9 H.hF H.hM hd.1 hd.2) hw ⟨Aj9 _,fun n q h1 h2=>by omega⟩with⟨v,V1,es,B1,d,e1,hm,hA1,e2,hle,hab,_⟩ |⟨v,V1,es,e1,hm,e2⟩ |⟨h,V1,es,e1,hn⟩
   ·rw[e1]
    refine Cy ?_
    cases hab with
    | enter f hcf hp=>exact Cf (cs:=fr :: cs) rfl
    | round f hl hp ha hb=>exact Cf (cs:=fr :: cs) rfl
    | _=>exact Cf rfl
   ·rw[e1]
    exact Cy (Cf (Dc (Ih _ _) cs))
   ·rw[e1]
    cases h with
    | unsupported u=>exact Cy Dq
    | exit c=>exact Cy Dq
    | stuck m=>exact Cy Dq
    | _=>exact hn.elim
theorem A6d {V W:World}(hw:WR X B V W){fr fr':Frame}{cs:List Frame}(hf:Ee X B fr fr')(hb:cs=[]->fr.defers≠[])(m:Bool) :
 Bt base (Gv fr cs) (unwind P m fr (cs++base) none V):=by
 have hP:=H.hF.toPRel;have hd:=hf.defers;unfold unwind
 cases h1:fr.defers with
 | cons d ds =>
   rw[h1]at hd
   cases h2:fr'.defers with
   | nil=>rw[h2]at hd;cases hd
   | cons d' ds' =>
     rw[h2]at hd
     cases hd with
     | cons hq hdd hds =>
     obtain⟨t,p⟩:=d;obtain⟨t',p'⟩:=d';have hcd:=Qa H hw (cs:=cs) (base:=base) (fr:={ fr with defers:=ds }) hdd
     rw[show Gv { fr with defers:=ds } cs=Gv fr cs from Dc (by first|rfl|exact hro.symm) cs]at hcd
     obtain⟨ht,hp⟩:=hdd;dsimp only at ht hp
     cases ht with
     | fn _ _=>exact hcd
     | nil=>exact hcd
     | builtin _ _ _ _ _=>exact hcd
     | collected hr =>
       dsimp only
       refine Cy ?_
       generalize Sem.runT P (Instr.takeDeferred _) V #[]=q;obtain⟨r,es⟩:=q
       cases r with
       | ok v w=>exact Cf (Dc (by first|rfl|exact hro.symm) cs)
       | halt h w=>exact Dq
 | nil =>
   cases cs with
   | nil=>exact absurd h1 (hb rfl)
   | cons c cs =>
   dsimp only[List.cons_append]
   cases h3:fr.mode with
   | run=>exact Dq
   | panicking chain =>
     dsimp only
     split
     ·exact Dq
     ·exact Cf (Dc (Ih _ _) cs)
   | returning =>
     dsimp only
     cases h4:P.funcs[fr.fn]? with
     | none=>exact Kd m V
     | some fn =>
       dsimp only
       refine Cy ?_
       generalize (results fn fr.tmps).runT P V #[]=q;obtain⟨r,es⟩:=q
       cases r with
       | ok v w=>exact Kd m w
       | halt h w=>cases h<;>exact Dq
theorem Th {V W:World}(hw:WR X B V W){fr fr':Frame}{cs cs':List Frame}(hf:Ee X B fr fr')(hc:L8 X B cs cs')(hb:cs=[]->fr.roundOf=none /\(fr.mode=.run\/fr.defers≠[]))(m:Bool) :
 Bt base (Gv fr cs) (stepG P m (G fr (cs++base)) V):=by
 by_cases hr:fr.mode=.run
 ·rw[J8 hr]
  exact Abk H hw hf hc (fun e=>(hb e).1) m
 ·rw[D8 hr]
  exact A6d H hw hf (fun e=>(hb e).2.resolve_left hr) m
end
end Lr
namespace Bar
open Go.Conc Tl Lr
structure St where
 fr:Frame
 cs:List Frame
 V:World
def St.at (x:St)(τ:Tape)(d:Nat):St:={ x with V:={ x.V with tape:=τ,drawn:=d } }
def wall (P:Program):Frame:={ fn:=P.funcs.size,tmps:=#[],todo:=[.code (.refuse "")],defers:=[⟨.nil,#[]⟩],mode:=.run,kind:=.normal }
def sg (P:Program)(x:St):GStep:=stepG P true (G x.fr (x.cs++[wall P])) x.V
def Z4 (P:Program)(x x':St):Prop:=∃es,sg P x=.go (G x'.fr (x'.cs++[wall P])) x'.V es
def Uv (x:St):Prop:=x.cs=[]/\x.fr.mode≠.run/\x.fr.defers=[]
def Fin (P:Program)(Q:Value->World->Prop)(x:St):Prop:=x.cs=[]/\∃v,x.fr.leaving P x.V (.returned v)/\Q v x.V
inductive Way (P:Program)(F:St->Prop):St->Prop
 | fin {x:St}:F x->Way P F x
 | go {x:St} (g:Tape->Nat->St):(∀τ d,Z4 P (x.at τ d) (g τ d)) ->(∀τ d,Way P F (g τ d))->Way P F x
inductive Rch (P:Program)(F:St->Prop):St->Prop
 | fin {x:St}:F x->Rch P F x
 | step {x x':St}:Z4 P x x'->Rch P F x'->Rch P F x
structure Ut (P:Program)(F J:St->Prop):Prop where
 tape:∀x τ d,J x->J (x.at τ d)
 step:∀x,J x->¬Uv x ->(∃x',Z4 P x x'/\J x')\/∃o w es,sg P x=.ended o w es
 loc:∀x,J x->¬Uv x->∀τ a b lim,Ex τ a b lim x.V->Tl1 τ a b lim x.V (sg P x) (sg P { x with V:=E1 τ a b x.V })
 fin:∀x τ d,J x->F x->F (x.at τ d)
section
variable {P : Program} {Q : Value -> World -> Prop} {F J : St -> Prop}
theorem Z4.inj {x y z:St}(h:Z4 P x y)(k:Z4 P x z):y=z:=by
 obtain⟨es,h⟩:=h;obtain⟨es',k⟩:=k;rw[h]at k;injection k with k1 k2 _
 injection k1 with k3 k4 _ _
 have k5:=Ak2 k4;obtain⟨a,b,c⟩:=y;obtain⟨a',b',c'⟩:=z;dsimp only at k2 k3 k5;subst k2 k3 k5
 rfl
theorem Fin.pop {x:St}(h:Fin P Q x):Uv x:=by
 obtain⟨h1,v,⟨h2,h3,_⟩,_⟩:=h
 exact⟨h1,by rw[h2];simp,h3⟩
theorem Aai {x:St}(h:Uv x):sg P x=unwind P true x.fr [wall P] none x.V:=by
 unfold sg;rw[h.1]
 exact D8 h.2.1
theorem Af2 {x:St}(h:Uv x){fr:Frame}{cs:List Frame}{w:World}{es:Array Event}(k:sg P x=.go (G fr cs) w es):cs=[]:=by
 rw[Aai h]at k;unfold unwind at k;rw[h.2.2]at k;dsimp only at k
 have ret:∀(v:Value) (w1:World) (es1:Array Event),doReturn P true x.fr [wall P] none v w1=.go (G fr cs) w es1->cs=[]:=by
  intro v w1 es1 e;unfold doReturn at e;dsimp only at e
  cases hk:x.fr.kind<;>rw[hk]at e<;>(injection e with e1;injection e1 with _ e2;exact e2.symm)
 split at k
 ·cases k
 ·split at k
  ·cases k
  ·injection k with e1;injection e1 with _ e2;exact e2.symm
 ·split at k
  ·exact ret _ _ _ k
  ·obtain⟨es2,k,_⟩:=Iv k
   split at k
   ·exact ret _ _ _ k
   ·cases k
   ·cases k
theorem Z4.Ln {x x':St}(h:Z4 P x x'):¬Uv x:=fun hp=>by
 obtain⟨es,h⟩:=h;have:=Af2 hp h;simp at this
theorem Aa8 (K:Ut P F J){x:St}(h:Rch P F x):J x->∀(τ:Tape) (a b:Nat),a<=x.V.drawn ->(∀n q,x.V.drawn<=n->τ (n-a+b) q=x.V.tape n q)->Rch P F { x with V:=E1 τ a b x.V }:=by
 induction h with
 | @fin x h =>
   intro hj τ a b _ _
   exact .fin (K.fin x τ (x.V.drawn-a+b) hj h)
 | @step x x' h _ ih =>
   intro hj τ a b ha hA;have hp:=h.Ln
   have hj':J x':=by
    rcases K.step x hj hp with⟨y,g,hy⟩ |⟨o,w,es,e⟩
    ·exact(h.inj g)▸hy
    ·obtain⟨es',h⟩:=h;rw[e]at h
     cases h
   obtain⟨es,h⟩:=h;obtain⟨⟨g1,g2⟩,g3⟩:=K.loc x hj hp τ a b x'.V.drawn ⟨ha,fun n q h1 _=>hA n q h1⟩ _ _ _ _ h
   exact .step (x':={ x' with V:=E1 τ a b x'.V }) ⟨es,g3 (Ai3 _)⟩ (ih hj' τ a b (Ai5 ha g1) fun n q h1=>by rw[g2];exact hA n q (Ai5 g1 h1))
def C (P:Program)(F:St->Prop)(x:St):Prop:=∀τ d,Rch P F (x.at τ d)
theorem inherit (K:Ut P F J){x:St}(hj:J x)(hc:C P F x)(hn:¬F x)(τ:Tape)(d:Nat):∃x',Z4 P (x.at τ d) x'/\J x'/\C P F x':=by
 have nofin:∀τ d,¬F (x.at τ d):=fun τ d h=>hn (by have:=K.fin _ x.V.tape x.V.drawn (K.tape x τ d hj) h;exact this)
 have hj1:=K.tape x τ d hj;have h1:=hc τ d;generalize hx1:x.at τ d=x1 at h1 hj1
 cases h1 with
 | fin h=>exact absurd (hx1▸h) (nofin τ d)
 | @step _ x' h hr =>
   have hp:=h.Ln
   have hj':J x':=by
    rcases K.step x1 hj1 hp with⟨y,g,hy⟩ |⟨o,w,es,e⟩
    ·exact(h.inj g)▸hy
    ·obtain⟨es',h⟩:=h;rw[e]at h
     cases h
   refine⟨x',h,hj',fun τ' d'=>?_⟩
   let T:Tape:=fun k q=>if k<x'.V.drawn then τ k q else τ' (k-x'.V.drawn+d') q
   have hd1:x1.V.drawn=d:=by rw[<-hx1];rfl
   have ht1:x1.V.tape=τ:=by rw[<-hx1];rfl
   obtain⟨es,h0⟩:=h
   obtain⟨⟨g1,g2⟩,g3⟩:=K.loc x1 hj1 hp T d d x'.V.drawn ⟨Al3 hd1.symm,fun n q h1 h2=>by
    rw[ht1];have e:n-d+d=n:=by omega
    show(if n-d+d<x'.V.drawn then τ (n-d+d) q else _)=_
    rw[e,Aij h2]⟩ _ _ _ _ h0
   have hgo:Z4 P (x.at T d) { x' with V:=E1 T d d x'.V }:=by
    refine⟨es,?_⟩
    rw[<-g3 (Ai3 _)]
    have:x.at T d={ x1 with V:=E1 T d d x1.V }:=by
     rw[<-hx1];simp[St.at,E1]
    rw[this]
   have h2:=hc T d;generalize hx2:x.at T d=x2 at h2 hgo
   cases h2 with
   | fin h=>exact absurd (hx2▸h) (nofin T d)
   | @step _ y hy hr2 =>
     have e:=hgo.inj hy;subst e;have hj2:J { x' with V:=E1 T d d x'.V }:=K.tape x' T (x'.V.drawn-d+d) hj'
     have:=Aa8 K hr2 hj2 τ' x'.V.drawn d' (by show x'.V.drawn<=x'.V.drawn-d+d;omega) (fun n q h=>by
      have h:x'.V.drawn-d+d<=n:=h
      show τ' (n-x'.V.drawn+d') q=if n<x'.V.drawn then τ n q else τ' (n-x'.V.drawn+d') q
      rw[Aid (by omega)])
     have e3:x'.V.drawn-d+d-x'.V.drawn+d'=d':=by omega
     have e2:({ x' with V:=E1 τ' x'.V.drawn d' (E1 T d d x'.V) }:St)=x'.at τ' d':=by
      simp only[E1,St.at,e3]
     exact e2▸this
theorem bar (K:Ut P F J){x:St}(hj:J x)(hc:C P F x):Way P F x:=by
 apply Classical.byContradiction
 intro hw
 have next:∀y:{y:St // J y/\C P F y/\¬Way P F y},∃(r:Tape×Nat×{y:St // J y/\C P F y/\¬Way P F y}),Z4 P (y.1.at r.1 r.2.1) r.2.2.1:=by
  rintro⟨y,hj,hc,hw⟩;have hnf:¬F y:=fun h=>hw (.fin h)
  apply Classical.byContradiction
  intro hcon
  have:∀τ d,∃x',Z4 P (y.at τ d) x'/\Way P F x':=by
   intro τ d;obtain⟨x',g,j,c⟩:=inherit K hj hc hnf τ d
   exact⟨x',g,Classical.byContradiction fun hw'=>hcon ⟨(τ,d,⟨x',j,c,hw'⟩),g⟩⟩
  exact hw (.go (fun τ d=>(this τ d).choose) (fun τ d=>(this τ d).choose_spec.1) (fun τ d=>(this τ d).choose_spec.2))
 let f:{y:St // J y/\C P F y/\¬Way P F y}->Tape×Nat×{y:St // J y/\C P F y/\¬Way P F y}:=fun y=>(next y).choose
 have hf:∀y,Z4 P (y.1.at (f y).1 (f y).2.1) (f y).2.2.1:=fun y=>(next y).choose_spec
 let seq:Nat ->{y:St // J y/\C P F y/\¬Way P F y}:=fun n=>Nat.rec ⟨x,hj,hc,hw⟩ (fun _ y=>(f y).2.2) n
 let t:Nat->Tape:=fun n=>(f (seq n)).1
 let d:Nat->Nat:=fun n=>(f (seq n)).2.1
 have hgo:∀n,Z4 P ((seq n).1.at (t n) (d n)) (seq (n+1)).1:=fun n=>hf (seq n)
 let k:Nat->Nat:=fun n=>Nat.rec 0 (fun n k=>k +((seq (n+1)).1.V.drawn-d n)) n
 have hk:∀n,k (n+1)=k n +((seq (n+1)).1.V.drawn-d n):=fun n=>rfl
 have hmono:∀n m,n<=m->k n<=k m:=by
  intro n m h
  induction h with
  | refl=>exact Ai3 _
  | step _ ih=>exact Ai5 ih (by rw[hk];omega)
 have huniq:∀n m i,k n<=i->i<k (n+1)->k m<=i->i<k (m+1)->n=m:=by
  intro n m i h1 h2 h3 h4
  rcases Am3 n m with h|h|h
  ·have:=hmono (n+1) m h
   omega
  ·exact h
  ·have:=hmono (m+1) n h
   omega
 let T:Tape:=fun i q=>open Classical in if h:∃n,k n<=i/\i<k (n+1)then t h.choose (d h.choose +(i-k h.choose)) q else 0
 have hT:∀n i q,k n<=i->i<k (n+1)->T i q=t n (d n +(i-k n)) q:=by
  intro n i q h1 h2;have h:∃n,k n<=i/\i<k (n+1):=⟨n,h1,h2⟩;have e:h.choose=n:=huniq _ _ i h.choose_spec.1 h.choose_spec.2 h1 h2
  show(open Classical in if h:∃n,k n<=i/\i<k (n+1)then t h.choose (d h.choose +(i-k h.choose)) q else 0)=_
  rw[dif_pos h,e]
 have main:∀z,Rch P F z->∀n,z=(seq n).1.at T (k n)->False:=by
  intro z h
  induction h with
  | @fin z h =>
    intro n e;subst e
    refine(seq n).2.2.2 (.fin ?_)
    have:=K.fin _ (seq n).1.V.tape (seq n).1.V.drawn (K.tape _ T (k n) (seq n).2.1) h
    exact this
  | @step z z' h _ ih =>
    intro n e;subst e;have hg:=hgo n;have hp:=hg.Ln;have hj0:=K.tape _ (t n) (d n) (seq n).2.1;obtain⟨es,hg⟩:=hg
    have hA:Ex T (d n) (k n) (seq (n+1)).1.V.drawn ((seq n).1.at (t n) (d n)).V:=by
     refine⟨Ai3 _,fun m q h1 h2=>?_⟩
     have h1:d n<=m:=h1
     show T (m-d n+k n) q=t n m q
     rw[hT n _ q (by omega) (by rw[hk];omega)]
     congr 1
     omega
    obtain⟨⟨g1,g2⟩,g3⟩:=K.loc _ hj0 hp T (d n) (k n) _ hA _ _ _ _ hg;have g1:d n <=(seq (n+1)).1.V.drawn:=g1
    have e1:({ (seq n).1.at (t n) (d n)with V:=E1 T (d n) (k n) ((seq n).1.at (t n) (d n)).V }:St)=(seq n).1.at T (k n):=by
     simp[St.at,E1]
    have g4:=g3 (Ai3 _);rw[e1]at g4
    have e2:z'=(seq (n+1)).1.at T (k (n+1)):=by
     refine h.inj ⟨es,?_⟩
     rw[g4]
     have e3:(seq (n+1)).1.V.drawn-d n+k n=k (n+1):=by
      rw[hk];omega
     simp only[St.at,E1,e3]
    exact ih (n+1) e2
 exact main _ (hc T 0) 0 rfl
theorem Aba (w:World):∃o w1,step P (lone (wall P) [] w)=.ended o w1:=⟨_,_,step_lone_ended (o:=_) (w':=w) (by rfl)⟩
theorem A4f (chain:List PanicEntry)(w:World):∃o w1,step P (lone ((wall P).raise chain) [] w)=.ended o w1:=⟨_,_,step_lone_ended (o:=_) (w':=w) (by rfl)⟩
theorem A1e {x:St}(h:Uv x):(∃o w,step P (lone x.fr [wall P] x.V)=.ended o w)\/∃fr w o w1,step P (lone x.fr [wall P] x.V)=.next (lone fr [] w)/\step P (lone fr [] w)=.ended o w1:=by
 have e:=Aai (P:=P) h;unfold sg at e;rw[h.1]at e;have e:stepG P true { frame:=x.fr,callers:=[wall P],status:=.running,dying:=none } x.V=unwind P true x.fr [wall P] none x.V:=e
 have ended:∀{o:Outcome} {w:World} {es:Array Event},unwind P true x.fr [wall P] none x.V=.ended o w es->∃o w,step P (lone x.fr [wall P] x.V)=.ended o w:=fun{o w es} k =>
  ⟨o,w,step_lone_ended (by rw[e,k];rfl)⟩
 have gone:∀{fr:Frame} {w:World} {es:Array Event},unwind P true x.fr [wall P] none x.V=.go (G fr []) w es->step P (lone x.fr [wall P] x.V)=.next (lone fr [] w):=fun{fr w es} k =>
  step_lone_go (by rw[e,k];rfl)
 have ret:∀(v:Value) (w1:World),∃fr o w2,doReturn P true x.fr [wall P] none v w1=.go (G fr []) w1/\step P (lone fr [] w1)=.ended o w2:=by
  intro v w1;unfold doReturn;dsimp only;obtain⟨o,w2,h2⟩:=Aba (P:=P) w1
  cases hk:x.fr.kind<;>exact⟨wall P,o,w2,rfl,h2⟩
 generalize hu:unwind P true x.fr [wall P] none x.V=r at ended gone;unfold unwind at hu;rw[h.2.2]at hu;dsimp only at hu
 split at hu
 ·exact absurd ‹_› h.2.1
 ·split at hu
  ·exact .inl (ended hu.symm)
  ·rename_i chain _ _
   obtain⟨o,w2,h2⟩:=A4f (P:=P) chain x.V
   exact .inr ⟨_,_,o,w2,gone hu.symm,h2⟩
 ·split at hu
  ·obtain⟨fr,o,w2,h2,h3⟩:=ret (x.fr.tmps.getD 0 undef) x.V;rw[h2]at hu
   exact .inr ⟨_,_,o,w2,gone hu.symm,h3⟩
  ·split at hu
   ·rename_i v w1 _
    obtain⟨fr,o,w2,h2,h3⟩:=ret v w1;rw[h2]at hu
    exact .inr ⟨_,_,o,w2,gone hu.symm,h3⟩
   ·exact .inl (ended hu.symm)
   ·exact .inl (ended hu.symm)
theorem Wr (K:Ut P F J){z:St}(hf:F z):∀(n:Nat) (x:St),J x->runN P n (lone x.fr (x.cs++[wall P]) x.V)=.next (lone z.fr (z.cs++[wall P]) z.V)->Rch P F x:=by
 intro n
 induction n with
 | zero =>
   intro x _ h;simp only[runN]at h;injection h with h
   injection h with h1 h2 _
   have h2:(#[{ frame:=x.fr,callers:=x.cs++[wall P],status:=.running,dying:=none }]:Array Goroutine)=#[{ frame:=z.fr,callers:=z.cs++[wall P],status:=.running,dying:=none }]:=h2;simp only[Array.mk.injEq,List.cons.injEq,Goroutine.mk.injEq,and_true]at h2;obtain⟨a,b,c⟩:=x;obtain⟨a',b',c'⟩:=z;dsimp only at h1 h2;obtain⟨rfl,h3⟩:=h2;subst h1;have h3:=Ak2 h3;subst h3
   exact .fin hf
 | succ n ih =>
   intro x hj h;simp only[runN]at h
   by_cases hp:Uv x
   ·rw[hp.1]at h
    rcases A1e (P:=P) hp with⟨o,w,e⟩ |⟨fr1,w,o,w1,e1,e2⟩
    ·rw[Al0,e]at h
     cases h
    ·rw[Al0,e1]at h;dsimp only at h
     cases n with
     | zero =>
       simp only[runN]at h;injection h with h
       injection h with _ h2 _
       have h2:(#[{ frame:=fr1,callers:=[],status:=.running,dying:=none }]:Array Goroutine)=#[{ frame:=z.fr,callers:=z.cs++[wall P],status:=.running,dying:=none }]:=h2;simp at h2
     | succ n =>
       simp only[runN,e2]at h
       cases h
   ·rcases K.step x hj hp with⟨x',⟨es,g⟩,hj'⟩ |⟨o,w,es,e⟩
    ·have:step P (lone x.fr (x.cs++[wall P]) x.V)=.next (lone x'.fr (x'.cs++[wall P]) x'.V):=step_lone_go (by
      have g:stepG P true { frame:=x.fr,callers:=x.cs++[wall P],status:=.running,dying:=none } x.V=_:=g;rw[g];rfl)
     rw[this]at h
     exact .step ⟨es,g⟩ (ih x' hj' h)
    ·have:step P (lone x.fr (x.cs++[wall P]) x.V)=.ended o w:=step_lone_ended (by
      have e:stepG P true { frame:=x.fr,callers:=x.cs++[wall P],status:=.running,dying:=none } x.V=_:=e;rw[e];rfl)
     rw[this]at h
     cases h
def only (Q:Value->World->Prop):Ending->World->Prop
 | .returned v,w=>Q v w
 | _,_=>False
end
end Bar
namespace Bar
open Go.Conc Tl Lr
theorem A2d {X:Cx}{B:Lk}{V W:World}(h:WR X B V W)(τ:Tape)(d:Nat):WR X B { V with tape:=τ,drawn:=d } { W with tape:=τ,drawn:=d } :=
 ⟨rfl,rfl,h.os,h.output,h.fn,h.inj,h.Hm,h.live,h.Ip,h.dead,h.Vc,h.Rw,h.low,h.nV,h.nW⟩
def JL (X:Cx)(x:St):Prop:=∃B W fr' cs',WR X B x.V W/\Ee X B x.fr fr'/\L8 X B x.cs cs'/\Gv x.fr x.cs=none
theorem Vj {x:St}(hp:¬Uv x)(hb:Gv x.fr x.cs=none):x.cs=[]->x.fr.roundOf=none /\(x.fr.mode=.run\/x.fr.defers≠[]):=by
 intro e;rw[e]at hb
 refine⟨hb,?_⟩
 by_cases h:x.fr.mode=.run
 ·exact .inl h
 ·exact .inr fun h2=>hp ⟨e,h,h2⟩
section
variable {X : Cx} {P P' : Program} {Q : Value -> World -> Prop} (H : Whole X P P')
include H
theorem Hr {V W:World}{B:Lk}(hw:WR X B V W){fr fr':Frame}(hf:Ee X B fr fr'){fn:Func}(hfn:P.funcs[fr.fn]?=some fn){v:Value}(hv:(results fn fr.tmps).run P V=.ok v V) :
 (∀τ d,(results fn fr.tmps).run P { V with tape:=τ,drawn:=d }=.ok v { V with tape:=τ,drawn:=d }):=by
 intro τ d
 obtain⟨fn',h5,hres⟩:∃fn',P'.funcs[fr.fn]?=some fn'/\fn'.results=fn.results:=by
  rcases H.hF.funcs fr.fn with⟨e1,e2⟩ |⟨f1,f2,e1,e2,hn,hr,_⟩
  ·rw[hfn]at e1;cases e1
  ·rw[hfn]at e1;cases e1;exact⟨f2,e2,hr⟩
 rcases Gq (τ:=τ) (a:=V.drawn) (b:=d) (lim:=V.drawn) (Hx H.hF.toPRel hres hf.tmps) hw ⟨Ai3 _,fun n q h1 h2=>by omega⟩with⟨v1,V1,es,B1,d1,e1,hm,hA1,e2,_⟩ |⟨v1,V1,es,e1,hm,e2⟩ |⟨h,V1,es,e1,hn⟩
 ·rw[Sem.runT_eq,hv]at e1;injection e1 with e1 _
  injection e1 with e1 e3
  subst e1 e3;have:=e2 (Ai3 _);rw[Sem.runT_eq]at this;have:=congrArg Prod.fst this;dsimp only at this;simp only[E1,Nat.sub_self,Ak1]at this
  exact this
 ·rw[Sem.runT_eq,hv]at e1;injection e1 with e1 _
  cases e1
 ·rw[Sem.runT_eq,hv]at e1;injection e1 with e1 _
  cases e1
theorem A0v {F:St->Prop}(hT:∀f,¬X.T f)(hF:∀x τ d,JL X x->F x->F (x.at τ d)):Ut P F (JL X) where
 tape x τ d:=fun⟨B,W,fr',cs',h1,h2,h3,h4⟩=>⟨B,{ W with tape:=τ,drawn:=d },fr',cs',A2d h1 τ d,h2,h3,h4⟩
 step x:=by
  rintro⟨B,W,fr',cs',hw,hf,hc,hbot⟩ hp;have hb:=Vj hp hbot;obtain⟨h1,h2⟩:=Yv H hw (base:=[wall P]) (base':=[]) hf hc hb true true
  rcases h2 with⟨fr1,cs1,V1,es,e⟩|h2
  ·obtain⟨c1,c1',fr1',B',W1,n,rfl,e2,hx,hw1,hn,hst⟩:=h1 _ _ _ _ e;have hbt:=Th H hw (base:=[wall P]) hf hc hb true _ _ _ _ e
   refine .inl ⟨⟨fr1,c1,V1⟩,⟨es,e⟩,?_⟩
   rcases hst with⟨g1,g2⟩ |⟨f,p,p',k,ht,_⟩
   ·exact⟨B',W1,fr1',c1',hw1,g1,g2,hbt.trans hbot⟩
   ·exact absurd ht.1 (hT f)
  ·exact .inr h2
 loc x:=by
  rintro⟨B,W,fr',cs',hw,hf,hc,hbot⟩ hp τ a b lim hA
  exact Ad5 H hw hA (base:=[wall P]) hf hc (Vj hp hbot) true
 fin:=hF
theorem A6l (hQ:∀v w τ d,Q v w->Q v { w with tape:=τ,drawn:=d }):∀x τ d,JL X x->Fin P Q x->Fin P Q (x.at τ d):=by
 intro x τ d;rintro⟨B,W,fr',cs',hw,hf,hc,hbot⟩ ⟨h1,v,⟨h2,h3,h4,fn,h5,h6⟩,h7⟩
 exact⟨h1,v,⟨h2,h3,h4,fn,h5,Hr H hw hf h5 h6 τ d⟩,hQ _ _ _ _ h7⟩
end
end Bar
namespace Co
open Go.Conc Tl Lr Bar
def G2 (X:Cx)(B:Lk)(b':Nat):Prop:=∃b,B b b'/\¬X.D b/\¬X.F b
def Ka (X:Cx)(B:Lk)(b':Nat):Prop:=∃b,B b b'/\¬X.D b/\X.F b
def Bp (L R:Nat->Prop)(W W2:World):Prop:=W.heap.size<=W2.heap.size /\(∀b,L b\/R b->W2.heap[b]?=W.heap[b]?)/\W2.os=W.os/\W2.output=W.output
def EvC (L R:Nat->Prop)(e:Event):Prop :=
 match e.loc with
 | .cell a=>e.sync=false /\(L a.block \/(R a.block/\e.write=false))
 | .obj r=>L r
 | .mark m=>m=.noRoom
 | _=>False
structure Did (L R:Nat->Prop)(W:World)(L1:Nat->Prop)(W1:World)(n:Array Event):Prop where
 old:∀b,L b->L1 b
 new:∀b,L1 b->L b\/W.heap.size<=b
 lt:∀b,L1 b->b<W1.heap.size
 size:W.heap.size<=W1.heap.size
 kept:∀b,b<W.heap.size->¬L b->W1.heap[b]?=W.heap[b]?
 tape:W1.tape=W.tape
 os:W1.os=W.os/\W1.output=W.output
 evs:∀e∈n,EvC L1 R e
inductive Co (P:Program)(m:Bool)(base:List Frame)(R:Nat->Prop)(Post:(Nat->Prop)->Frame->List Frame->World->Prop):(Nat->Prop)->Frame->List Frame->World->Prop
 | stop {L:Nat->Prop} {fr:Frame} {cs:List Frame} {W:World}:Post L fr cs W->Co P m base R Post L fr cs W
 | go {L:Nat->Prop} {fr:Frame} {cs:List Frame} {W:World} (f1:World->Frame) (c1:World->List Frame) (w1:World->World) (n1:World->Array Event) (L1:World->Nat->Prop) :
  (∀W2,Bp L R W W2->stepG P m (G fr (cs++base)) W2=.go (G (f1 W2) (c1 W2++base)) (w1 W2) (n1 W2)/\Did L R W2 (L1 W2) (w1 W2) (n1 W2)) ->
  (∀W2,Bp L R W W2->Co P m base R Post (L1 W2) (f1 W2) (c1 W2) (w1 W2))->Co P m base R Post L fr cs W
section
variable {X : Cx} {P P' : Program}
theorem Il {B:Lk}{V W W2:World}(h:WR X B V W)(k:Bp (G2 X B) (Ka X B) W W2):WR X B { V with tape:=W2.tape,drawn:=W2.drawn } W2 where
 tape:=rfl
 drawn:=rfl
 os:=k.2.2.1.trans h.os
 output:=k.2.2.2.trans h.output
 fn:=h.fn
 inj:=h.inj
 Hm:=h.Hm
 live b b' x d f:=by
  obtain⟨o,o',h1,h2,h3⟩:=h.live b b' x d f
  exact⟨o,o',h1,(k.2.1 b' (.inl ⟨b,x,d,f⟩)).trans h2,h3⟩
 Ip b b' x d f:=by
  obtain⟨c,c',t,t',g,h1,h2,h3⟩:=h.Ip b b' x d f
  exact⟨c,c',t,t',g,h1,(k.2.1 b' (.inr ⟨b,x,d,f⟩)).trans h2,h3⟩
 dead b b' x d:=by
  obtain⟨h1,h2⟩:=h.dead b b' x d
  exact⟨h1,Ai9 h2 k.1⟩
 Vc:=h.Vc
 Rw:=h.Rw
 low:=h.low
 nV:=h.nV
 nW:=Ai5 h.nW k.1
theorem A0g {B B1:Lk}{V W V1 W1:World}(hw:WR X B V W)(hx:Ext X B V W B1 V1 W1):Ka X B1=Ka X B:=by
 funext b'
 apply propext
 constructor
 ·rintro⟨b,h1,h2,h3⟩
  rcases hx.new b b' h1 with h |⟨h,_⟩
  ·exact⟨b,h,h2,h3⟩
  ·have:=hw.Rw b h3
   omega
 ·rintro⟨b,h1,h2,h3⟩
  exact⟨b,hx.le _ _ h1,h2,h3⟩
theorem Xp {B B1:Lk}{V W V1 W1:World}{n:Array Event}(hw:WR X B V W)(hw1:WR X B1 V1 W1)(hx:Ext X B V W B1 V1 W1)(hn:A2e X B1 n):Did (G2 X B) (Ka X B) W (G2 X B1) W1 n where
 old b:=fun⟨a,h1,h2,h3⟩=>⟨a,hx.le _ _ h1,h2,h3⟩
 new b:=fun⟨a,h1,h2,h3⟩=>by
  rcases hx.new a b h1 with h |⟨_,h⟩
  ·exact .inl ⟨a,h,h2,h3⟩
  ·exact .inr h
 lt b:=fun⟨a,h1,_⟩=>hw1.ltW h1
 size:=hx.Sz
 kept b hb hl:=hx.kept b hb fun a ha=>by
  by_cases h1:X.D a
  ·exact .inl h1
  ·by_cases h2:X.F a
   ·exact .inr h2
   ·exact absurd ⟨a,ha,h1,h2⟩ hl
 tape:=hx.tape
 os:=⟨by rw[hw1.os,hx.osV.1,hw.os],by rw[hw1.output,hx.osV.2,hw.output]⟩
 evs e he:=by
  obtain⟨h1,h2⟩:=hn e he;rw[<-A0g hw hx];unfold Z9 at h1;unfold EvC
  split at h1
  ·rename_i a ha
   rw[ha];obtain⟨⟨b,g1,g2,g3⟩,g4⟩:=h1
   refine⟨g4,?_⟩
   by_cases hf:X.F b
   ·refine .inr ⟨⟨b,g1,g2,hf⟩,?_⟩
    by_cases hq:e.write=true
    ·exact absurd hf (g3 hq)
    ·simpa using hq
   ·exact .inl ⟨b,g1,g2,hf⟩
  ·rename_i r hr
   rw[hr]
   exact h1
  ·rename_i mk hm
   rw[hm]
   rcases h1 with h |⟨f,h⟩
   ·exact h
   ·exact absurd (by rw[hm,h]) (h2 f)
  ·exact h1.elim
def Gr (n m:Nat)(B0 B:Lk):Prop:=Le B0 B/\∀b b',B b b'->B0 b b' \/(n<=b/\m<=b')
theorem Gr.refl (n m:Nat)(B:Lk):Gr n m B B:=⟨Le.refl _,fun _ _ h=>.inl h⟩
theorem Gr.ext {n m:Nat}{B0 B B1:Lk}{V W V1 W1:World}(h:Gr n m B0 B)(hn:n<=V.heap.size)(hm:m<=W.heap.size)(k:Ext X B V W B1 V1 W1):Gr n m B0 B1 :=
 ⟨h.1.trans k.le,fun b b' x=>by
  rcases k.new b b' x with y |⟨y1,y2⟩
  ·exact h.2 b b' y
  ·exact .inr ⟨Ai5 hn y1,Ai5 hm y2⟩⟩
def M6 (X:Cx)(n m:Nat)(B0:Lk)(F:St->Prop)(L:Nat->Prop)(fr':Frame)(cs':List Frame)(W:World):Prop :=
 ∃B x τ d,Gr n m B0 B/\F x/\WR X B (x.at τ d).V W/\Ee X B x.fr fr'/\L8 X B x.cs cs'/\L=G2 X B/\n<=x.V.heap.size/\m<=W.heap.size
theorem A6g (H:Whole X P P')(hT:∀f,¬X.T f){F:St->Prop}{m:Bool}{base:List Frame}{n0 m0:Nat}{B0:Lk}{R:Nat->Prop}{x:St}(h:Bar.Way P F x) :
 ∀{B:Lk} {W:World} {fr':Frame} {cs':List Frame} {τ:Tape} {d:Nat},WR X B (x.at τ d).V W->Ee X B x.fr fr'->L8 X B x.cs cs'->Gv x.fr x.cs=none->Gr n0 m0 B0 B->n0<=x.V.heap.size->m0<=W.heap.size->Ka X B=R ->
  Co P' m base R (M6 X n0 m0 B0 F) (G2 X B) fr' cs' W:=by
 induction h with
 | @fin x h =>
   intro B W fr' cs' τ d hw hf hc hb hle hn0 hm0 hR
   exact .stop ⟨B,x,τ,d,hle,h,hw,hf,hc,rfl,hn0,hm0⟩
 | @go x g hg _ ih =>
   intro B W fr' cs' τ d hw hf hc hb hle hn0 hm0 hR
   have key:∀W2,Bp (G2 X B) R W W2->∃fr1 cs1 W1 n L1,stepG P' m (G fr' (cs'++base)) W2=.go (G fr1 (cs1++base)) W1 n/\Did (G2 X B) R W2 L1 W1 n/\Co P' m base R (M6 X n0 m0 B0 F) L1 fr1 cs1 W1:=by
    intro W2 hr;rw[<-hR]at hr;have hw2:=Il hw hr;have hgo:=hg W2.tape W2.drawn;have hp:=hgo.Ln;obtain⟨es,hgo⟩:=hgo;have hw3:WR X B (x.at W2.tape W2.drawn).V W2:=hw2;obtain⟨c1,c1',fr1',B',W1,n,e1,e2,hx,hw1,hn,hst⟩:=(Yv H hw3 (base:=[wall P]) (base':=base) hf hc (Vj hp hb) true m).1 _ _ _ _ hgo;obtain rfl:=Ak2 e1;have hbt:=Th H hw3 (base:=[wall P]) hf hc (Vj hp hb) true _ _ _ _ hgo
    rcases hst with⟨g1,g2⟩ |⟨f,p,p',k,ht,_⟩
    ·refine⟨fr1',c1',W1,n,G2 X B',e2,hR▸Xp hw3 hw1 hx hn,?_⟩
     exact @ih W2.tape W2.drawn _ _ _ _ (g W2.tape W2.drawn).V.tape (g W2.tape W2.drawn).V.drawn hw1 g1 g2 (hbt.trans hb) (hle.ext (V:=(x.at W2.tape W2.drawn).V) hn0 (Ai5 hm0 hr.1) hx) (Ai5 hn0 hx.A1s) (Ai5 (Ai5 hm0 hr.1) hx.Sz) ((A0g hw3 hx).trans hR)
    ·exact absurd ht.1 (hT f)
   have key2:∀W2,∃r:Frame×List Frame×World×Array Event×(Nat->Prop),Bp (G2 X B) R W W2->stepG P' m (G fr' (cs'++base)) W2=.go (G r.1 (r.2.1++base)) r.2.2.1 r.2.2.2.1/\Did (G2 X B) R W2 r.2.2.2.2 r.2.2.1 r.2.2.2.1/\Co P' m base R (M6 X n0 m0 B0 F) r.2.2.2.2 r.1 r.2.1 r.2.2.1:=by
    intro W2
    by_cases hr:Bp (G2 X B) R W W2
    ·obtain⟨fr1,cs1,W1,n,L1,h1,h2,h3⟩:=key W2 hr
     exact⟨(fr1,cs1,W1,n,L1),fun _=>⟨h1,h2,h3⟩⟩
    ·exact⟨(fr',cs',W,#[],fun _=>False),fun h=>absurd h hr⟩
   exact .go (fun W2=>(key2 W2).choose.1) (fun W2=>(key2 W2).choose.2.1) (fun W2=>(key2 W2).choose.2.2.1) (fun W2=>(key2 W2).choose.2.2.2.1) (fun W2=>(key2 W2).choose.2.2.2.2)
    (fun W2 hr=>⟨((key2 W2).choose_spec hr).1,((key2 W2).choose_spec hr).2.1⟩) (fun W2 hr=>((key2 W2).choose_spec hr).2.2)
theorem Pu (H:Whole X P P'){Q:Value->World->Prop}(hQ:∀v w τ d,Q v w->Q v { w with tape:=τ,drawn:=d }){m:Bool}{n0 m0:Nat}{B0:Lk}{L R:Nat->Prop}{fr':Frame}{cs':List Frame}{W:World}
 (h:M6 X n0 m0 B0 (Fin P Q) L fr' cs' W) (hR:∀B,Gr n0 m0 B0 B->L=G2 X B->Ka X B=R):cs'=[]/\∀W2,Bp L R W W2->∃v' W1 n L1,Did L R W2 L1 W1 n /\(∀c bs,stepG P' m (G fr' (c :: bs)) W2=.go (G (c.finish v') bs) W1 n) /\
  ∃B V v,Gr n0 m0 B0 B/\Q v V/\VR X B v v'/\WR X B V W1/\L1=G2 X B:=by
 obtain⟨B,x,τ,d,hle,h,hw,hf,hc,rfl,hn0,hm0⟩:=h;have hR:=hR B hle rfl;obtain⟨h1,v,⟨g1,g2,g3,fn,g4,g5⟩,hq⟩:=h;have hcs:cs'=[]:=by rw[h1]at hc;cases hc;rfl
 subst hcs
 refine⟨rfl,fun W2 hr=>?_⟩
 rw[<-hR]at hr ⊢;have hw2:=Il hw hr
 have hm':fr'.mode=.returning:=by
  have:=hf.mode;rw[g1]at this;generalize fr'.mode=q at this
  cases this
  rfl
 have hd':fr'.defers=[]:=by
  have:=hf.defers;rw[g2]at this;generalize fr'.defers=q at this
  cases this
  rfl
 have hk':fr'.kind=.normal:=hf.kind.trans g3
 obtain⟨fn',e5,hres⟩:∃fn',P'.funcs[x.fr.fn]?=some fn'/\fn'.results=fn.results:=by
  rcases H.hF.funcs x.fr.fn with⟨e1,e2⟩ |⟨f1,f2,e1,e2,hn,hr,_⟩
  ·rw[g4]at e1;cases e1
  ·rw[g4]at e1;cases e1;exact⟨f2,e2,hr⟩
 have g6:=Hr H hw (fr':=fr') hf g4 (fr:=x.fr) (V:=(x.at τ d).V) (v:=v) (by
  have:=Hr H (A2d (τ:=x.V.tape) (d:=x.V.drawn) hw) hf g4 g5 τ d
  exact this) W2.tape W2.drawn
 have g6:(results fn x.fr.tmps).run P { x.V with tape:=W2.tape,drawn:=W2.drawn }=.ok v { x.V with tape:=W2.tape,drawn:=W2.drawn }:=g6
 rcases Jt (Hx H.hF.toPRel hres hf.tmps) hw2 with⟨a,V1,B1,W1,b,n,e1,e2,hx,hw1,hab,hn⟩ |⟨v,V1,B1,W1,v',n,e1,e2,hx,hw1,hab,hn⟩ |⟨h,V1,e1,hm⟩
 ·have e1:(results fn x.fr.tmps).run P { x.V with tape:=W2.tape,drawn:=W2.drawn }=.ok a V1:=e1
  rw[g6]at e1;injection e1 with e1 e3
  subst e1 e3
  refine⟨b,W1,seen P' fr'.fn n,G2 X B1,Xp hw2 hw1 hx (hn.seen _),fun c bs=>?_,B1,_,v,hle.ext (V:=(x.at W2.tape W2.drawn).V) hn0 (Ai5 hm0 hr.1) hx,hQ _ _ W2.tape W2.drawn hq,hab,hw1,rfl⟩
  rw[D8 (by rw[hm'];simp)]
  unfold unwind;rw[hd',hm',hf.fn,e5];dsimp only;rw[e2 #[],Ajt];dsimp only;unfold doReturn;rw[hk'];simp[GStep.after]
  rfl
 ·have e1:(results fn x.fr.tmps).run P { x.V with tape:=W2.tape,drawn:=W2.drawn }=.halt (.panic v) V1:=e1
  rw[g6]at e1
  cases e1
 ·have e1:(results fn x.fr.tmps).run P { x.V with tape:=W2.tape,drawn:=W2.drawn }=.halt h V1:=e1
  rw[g6]at e1
  cases e1
end
end Co
namespace Ok
open Go.Conc Lr
def D5:Nat->Value->Bool
 | k+1,.agg p=>p.all (D5 k)
 | k+1,.tuple p=>p.all (D5 k)
 | _,.bool _|_,.int _ _|_,.float _ _|_,.complex _ _ _|_,.string _|_,.pointer none|_,.slice none _ _|_,.map none|_,.chan none|_,.nilFunc|_,.nilIface=>true
 | _,_=>false
theorem Xw {X:Cx}:∀(k:Nat) (v:Value),D5 k v=true->Flat X v:=by
 have rows:∀(k:Nat) (p:Array Value),(∀v,D5 k v=true->Flat X v)->p.all (D5 k)=true->∀B (i:Nat) v v',p[i]?=some v->p[i]?=some v'->VR X B v v':=by
  intro k p ih h B i v v' h1 h2
  cases h1.symm.trans h2
  rw[Aiz]at h
  exact ih v (h v (Aj2 h1)) B
 intro k
 induction k with
 | zero =>
   intro v h B
   cases v with
   | bool b=>exact .bool b
   | int a b=>exact .int a b
   | float a b=>exact .float a b
   | complex a b c=>exact .complex a b c
   | string s=>exact .string s
   | pointer a=>cases a<;>first|exact .Qg|simp[D5]at h
   | slice a l c=>cases a<;>first|exact .Kv _ _|simp[D5]at h
   | map a=>cases a<;>first|exact .A70|simp[D5]at h
   | chan a=>cases a<;>first|exact .A6f|simp[D5]at h
   | nilFunc=>exact .nilFunc
   | nilIface=>exact .nilIface
   | _=>simp[D5]at h
 | succ k ih =>
   intro v h B
   cases v with
   | bool b=>exact .bool b
   | int a b=>exact .int a b
   | float a b=>exact .float a b
   | complex a b c=>exact .complex a b c
   | string s=>exact .string s
   | pointer a=>cases a<;>first|exact .Qg|simp[D5]at h
   | slice a l c=>cases a<;>first|exact .Kv _ _|simp[D5]at h
   | map a=>cases a<;>first|exact .A70|simp[D5]at h
   | chan a=>cases a<;>first|exact .A6f|simp[D5]at h
   | nilFunc=>exact .nilFunc
   | nilIface=>exact .nilIface
   | agg p=>exact .agg rfl (rows k p ih (by simpa only[D5]using h) B)
   | tuple p=>exact .tuple rfl (rows k p ih (by simpa only[D5]using h) B)
   | _=>simp[D5]at h
def Nq (cl gl:List Nat):Operand->Bool
 | .tmp _=>true
 | .const v=>D5 4 v
 | .global g=>gl.contains g
 | .func f=>cl.contains f
def A3g (P:Program)(t:TypeId):Bool:=match P.underlying t with
 | some (.struct fs)=>fs.all fun f=>match P.info? f.type with
   | some i=>i.size != 0
   | none=>true
 | _=>true
theorem A71 {P:Program}{t:TypeId}(h:A3g P t=true):A2f P t:=by
 intro fs hf k f hk i hi;unfold A3g at h;rw[hf]at h;have:=Aiz.1 h f (Aj2 hk);rw[hi]at this
 simpa using this
def A59 (P:Program)(f:Nat):Bool:=match P.funcs[f]? with
 | some fn=>fn.body.isNone && (!(fn.name == "runtime.NumGoroutine") && ((Extern.findNext fn).isNone && ((Extern.find fn).isNone && !(fn.name.endsWith ".init" && !fn.name.startsWith "(" && !fn.name.startsWith "gosem."))))
 | none=>true
def Ps (P:Program)(tl:List (Nat×Nat))(cl:List Nat)(name:String):Bool :=
 P.types.all fun i=>i.methods.all fun m=>m.name != name ||(m.path.isEmpty && ((match i.desc with
  | .pointer _=>true
  | _=>false) && (match m.func with
  | some (f,q)=>q && ((cl.contains f && tl.all fun x=>x.1 != f) || A59 P f)
  | none=>false)))
def A9w (P:Program)(gl:List Nat):Bool:=gl.contains P.globals.size
def Sg (P:Program)(tl:List (Nat×Nat))(cl gl:List Nat):Op->Bool
 | .move _|.assign _|.pick ..|.alloc _|.box ..|.build ..|.buildSlice ..|.load ..|.store ..|.nilCheck _|.unOp ..|.makeChan ..|.makeSlice ..|.slice ..|.field ..|.indexAddr ..|.index ..|.extract ..
 | .makeInterface ..=>true
 | .fieldAddr t _ _=>A3g P t
 | .binOp op t _ _ _=>match op with
   | .eql|.neq=>N7 P 20 t
   | _=>true
 | .convert s d _=>A4l P s d
 | .makeFunc fn _ _=>match fn with
   | .func f=>cl.contains f
   | .method n=>Ps P tl cl n
   | .methodOf _ n=>Ps P tl cl n
   | _=>false
 | .typeAssert ..=>A9w P gl
 | .call c=>match c.callee with
   | .builtin b=>A88 b
   | .invoke _ n=>Ps P tl cl n
   | .value _=>true
 | _=>false
def okT (tl:List (Nat×Nat))(cl gl:List Nat):Op->Bool
 | .call c=>match c.callee with
   | .value (.func f)=>tl.contains (f,c.args.size) && c.args.all (Nq cl gl)
   | _=>false
 | _=>false
def Ic (P:Program)(tl:List (Nat×Nat))(cl gl:List Nat)(o:Oper):Bool:=Sg P tl cl gl o.op && (o.op.operands.all (Nq cl gl) || okT tl cl gl o.op)
abbrev Ael (P:Program)(cl gl:List Nat)(o:Oper):Bool:=Ic P [] cl gl o
def Se:String := "unsupported: a function without a Go body is entered"
def I0 (P:Program)(tl:List (Nat×Nat))(cl gl:List Nat):Code->Bool
 | .refuse w=>w == Se
 | .region _ ops _=>ops.all (Ic P tl cl gl)
 | .seq a b=>I0 P tl cl gl a && I0 P tl cl gl b
 | .cond c a b=>Nq cl gl c && (I0 P tl cl gl a && I0 P tl cl gl b)
 | .rangeFunc f _ a b=>Nq cl gl f && (I0 P tl cl gl a && I0 P tl cl gl b)
 | .block _ c|.loop c|.scope c=>I0 P tl cl gl c
 | .goto _=>false
 | .skip|.ret|.exit _|.label _=>true
abbrev okC (P:Program)(cl gl:List Nat)(c:Code):Bool:=I0 P [] cl gl c
section
variable {X : Cx} {P : Program} {tl : List (Nat × Nat)} {cl gl : List Nat}
theorem Kp (hc:∀f∈cl,X.C f/\¬X.T f)(hg:∀g∈gl,X.G g){o:Operand}(h:Nq cl gl o=true):It X o:=by
 cases o with
 | tmp t=>trivial
 | const v=>exact Xw 4 v h
 | global g=>exact hg g (by simpa [Nq]using h)
 | func f=>exact hc f (by simpa [Nq]using h)
theorem Ac7 (hc:∀f∈cl,X.C f/\¬X.T f)(hm:∀n,Ps P tl cl n=true->X.M n)(ha:A9w P gl=true->X.As){o:Op}(h:Sg P tl cl gl o=true):A8e X P o:=by
 cases o with
 | binOp op t x y u =>
   intro e
   refine⟨20,?_⟩
   rcases e with rfl|rfl<;>exact h
 | convert s d x=>exact h
 | fieldAddr t a f=>exact A71 h
 | makeFunc fn a b =>
   cases fn with
   | func f=>exact hc f (by simpa [Sg]using h)
   | method n=>exact hm n h
   | methodOf t n=>exact hm n h
   | _=>simp[Sg]at h
 | typeAssert x t a q=>exact ha h
 | call c =>
   obtain⟨callee,args,ts⟩:=c
   cases callee with
   | builtin b=>exact h
   | invoke a b=>exact hm b h
   | value f=>trivial
 | _=>first|trivial|simp[Sg]at h
theorem Acm (hc:∀f∈cl,X.C f/\¬X.T f)(hm:∀n,Ps P tl cl n=true->X.M n)(ha:A9w P gl=true->X.As)(hg:∀g∈gl,X.G g)(ht:∀f n,(f,n)∈tl->X.C f/\X.Ar f n){o:Oper}(h:Ic P tl cl gl o=true):Adz X P o:=by
 simp only[Ic,Aia,Al2]at h
 refine⟨Ac7 hc hm ha h.1,h.2.imp (fun this x hx=>?_) fun h=>?_⟩
 ·rw[Aiz]at this
  exact Kp hc hg (this x hx)
 ·generalize o.op=p at h
  cases p with
  | call c =>
    obtain⟨callee,args,ts⟩:=c
    cases callee with
    | value x =>
      cases x with
      | func f =>
        simp only[okT,Aia]at h;obtain⟨h1,h2⟩:=h;rw[Aiz]at h2;have h1:=ht f args.size (by simpa using h1)
        exact⟨h1.1,h1.2,fun x hx=>Kp hc hg (h2 x hx)⟩
      | _=>simp[okT]at h
    | _=>simp[okT]at h
  | _=>simp[okT]at h
theorem Ev (hc:∀f∈cl,X.C f/\¬X.T f)(hg:∀g∈gl,X.G g)(hK:∀o,Ic P tl cl gl o=true->X.K o):∀(c:Code),I0 P tl cl gl c=true->Jy X c c
 | .refuse w,h=>.inl (by simpa [I0,Se]using h)
 | .region _ ops _,h=>⟨rfl,fun o ho=>hK o (by
  have h:ops.all (Ic P tl cl gl)=true:=h;rw[Aiz]at h
  exact h o ho)⟩
 | .seq a b,h=>by
   simp only[I0,Aia]at h
   exact⟨a,b,rfl,Ev hc hg hK a h.1,Ev hc hg hK b h.2⟩
 | .cond c a b,h=>by
   simp only[I0,Aia]at h
   exact⟨a,b,rfl,Kp hc hg h.1,Ev hc hg hK a h.2.1,Ev hc hg hK b h.2.2⟩
 | .rangeFunc f p a b,h=>by
   simp only[I0,Aia]at h
   exact⟨a,b,rfl,Kp hc hg h.1,Ev hc hg hK a h.2.1,Ev hc hg hK b h.2.2⟩
 | .block _ c,h=>⟨c,rfl,Ev hc hg hK c h⟩
 | .loop c,h=>⟨c,rfl,Ev hc hg hK c h⟩
 | .scope c,h=>⟨c,rfl,Ev hc hg hK c h⟩
 | .goto _,h=>by simp[I0]at h
 | .skip,_=>rfl
 | .ret,_=>rfl
 | .exit _,_=>rfl
 | .label _,_=>rfl
end
end Ok
namespace Ok
open Go.Conc Lr
section
variable {X : Cx} {P P' : Program} {B : Lk}
theorem A2l {v:Value}{p':Array Value}(h:AR X B #[v] p'):∃v',p'=#[v']/\VR X B v v':=by
 obtain⟨h1,h2⟩:=h;obtain⟨l⟩:=p'
 match l,h1 with
 | [v'],_=>exact⟨v',rfl,h2 0 v v' (by simp) (by simp)⟩
theorem A7j {f:FuncId}{fn:Func}(hf:P.funcs[f]?=some fn)(hf':P'.funcs[f]?=some fn)(hname:(fn.name == "runtime.NumGoroutine") = false)(hb:fn.body.isNone=true)(hn:Extern.findNext fn=none)
 {e:Array Value->Sem Value} (he:Extern.find fn=some e) (hS:∀B p p',AR X B p p'->SR X P P' (Ap X) B (e p) (e p')) {p p':Array Value} (h:AR X B p p'):SR X P P' (Tz X) B (callFunc f p) (callFunc f p'):=by
 unfold callFunc
 refine SR.bind SR.program ?_
 rintro B1 l1 q q' ⟨rfl,rfl⟩;rw[hf,hf'];dsimp only;simp only[hname,hb,Aj8,Alx,Amg]
 refine SR.bind (SR.mark (.inr ⟨f,rfl⟩)) fun B2 l2 _ _ _=>?_
 simp only[hn,he]
 exact SR.bind (hS B2 _ _ ((h.mono l1).mono l2)) fun B3 l3 v v' hv=>SR.pure (.value hv)
theorem Vf {α:Type}{R:Lk->α->α->Prop}{p:Array Value}(F:Array Value->Sem α){s':Sem α}(hs:(∀x,p ≠#[.float .f64 x])->∃why,F p=Go.stuck why)(h:∀x,p=#[.float .f64 x]->SR X P P' R B (F p) s'):SR X P P' R B (F p) s':=by
 by_cases hp:∃x,p=#[.float .f64 x]
 ·obtain⟨x,hx⟩:=hp
  exact h x hx
 ·obtain⟨why,e⟩:=hs fun x hx=>hp ⟨x,hx⟩
  rw[e]
  exact SR.stuck
theorem Un (name:String)(way:Ieee.Toward):∀B p p',AR X B p p'->SR X P P' (Ap X) B (Extern.MathFloor.toIntegral name way p) (Extern.MathFloor.toIntegral name way p'):=by
 intro B p p' h
 refine Vf (Extern.MathFloor.toIntegral name way) (fun hn=>?_) (fun x hx=>?_)
 ·unfold Extern.MathFloor.toIntegral;obtain⟨l⟩:=p
  match l with
  | []=>exact⟨_,rfl⟩
  | v :: w :: r=>exact⟨_,rfl⟩
  | [v] =>
    cases v<;>first
     | exact⟨_,rfl⟩
     | skip
    rename_i k x
    cases k<;>first
     | exact absurd rfl (hn _)
     | exact⟨_,rfl⟩
 ·subst hx;obtain⟨v',rfl,hv⟩:=A2l h
  cases hv
  have e:Extern.MathFloor.toIntegral name way #[.float .f64 x]=(match FloatKind.f64.decode x with
   | .nan s t =>
     if FloatKind.f64.format.quiet t=t then(Pure.pure (Value.float .f64 x):Sem Value)else do
     let kept <-choose (.extern "math.Floor,Ceil,Trunc,RoundToEven.signallingNaN kept" 2)
     Pure.pure (Value.float .f64 (if kept == 1 then x else FloatKind.f64.encode (.nan s (FloatKind.f64.format.quiet t))))
   | d=>Pure.pure (Value.float .f64 (FloatKind.f64.encode (d.integral way)))):=rfl
  rw[e];generalize FloatKind.f64.decode x=d
  cases d with
  | nan s t =>
    refine SR.ite (fun _=>SR.pure (.float _ _)) (fun _=>?_)
    refine SR.bind (SR.choose _) ?_
    rintro B1 l1 k _ rfl
    exact SR.pure (.float _ _)
  | _=>exact SR.pure (.float _ _)
theorem Acw:∀B p p',AR X B p p'->SR X P P' (Ap X) B (Extern.MathFloatBits.float64bits p) (Extern.MathFloatBits.float64bits p'):=by
 intro B p p' h
 refine Vf Extern.MathFloatBits.float64bits (fun hn=>?_) (fun x hx=>?_)
 ·unfold Extern.MathFloatBits.float64bits;obtain⟨l⟩:=p
  match l with
  | []=>exact⟨_,rfl⟩
  | v :: w :: r=>exact⟨_,rfl⟩
  | [v] =>
    cases v<;>first
     | exact⟨_,rfl⟩
     | skip
    rename_i k x
    cases k<;>first
     | exact absurd rfl (hn _)
     | exact⟨_,rfl⟩
 ·subst hx;obtain⟨v',rfl,hv⟩:=A2l h
  cases hv
  exact SR.pure (.int _ _)
theorem A1x:∀B p p',AR X B p p'->SR X P P' (Ap X) B (Extern.MathFloatBits.float64frombits p) (Extern.MathFloatBits.float64frombits p'):=by
 intro B p p' h
 by_cases hp:∃x,p=#[.int .u64 x]
 ·obtain⟨x,rfl⟩:=hp;obtain⟨v',rfl,hv⟩:=A2l h
  cases hv
  exact SR.pure (.float _ _)
 ·have:∃why,Extern.MathFloatBits.float64frombits p=Go.stuck why:=by
   unfold Extern.MathFloatBits.float64frombits;obtain⟨l⟩:=p
   match l with
   | []=>exact⟨_,rfl⟩
   | v :: w :: r=>exact⟨_,rfl⟩
   | [v] =>
     cases v<;>first
      | exact⟨_,rfl⟩
      | skip
     rename_i k x
     cases k<;>first
      | exact absurd ⟨_,rfl⟩ hp
      | exact⟨_,rfl⟩
  obtain⟨why,e⟩:=this;rw[e]
  exact SR.stuck
end
end Ok
namespace Ok
open Go.Conc Lr
theorem A6o {ι σ:Type}{I:σ->Prop}{f:ι->σ->Option (ForInStep σ)}(hf:∀x s,I s->∀r,f x s=some r->I (match r with|.yield s=>s|.done s=>s)) :
 ∀(l:List ι) (s r:σ),I s->forIn l s f=some r->I r:=by
 intro l
 induction l with
 | nil =>
   intro s r hs h;simp only[List.forIn_nil,pure]at h
   cases h
   exact hs
 | cons x l ih =>
   intro s r hs h;simp only[List.forIn_cons,bind,Option.bind]at h
   cases hx:f x s with
   | none=>rw[hx]at h;cases h
   | some q =>
     rw[hx]at h;have:=hf x s hs q hx
     cases q with
     | done s'=>simp only[pure]at h;cases h;exact this
     | yield s'=>exact ih s' r this h
def P9 (X:Cx)(i:TypeInfo):Prop:=∀v,i.zero=some v->Flat X v
theorem flat_agg {X:Cx}{p:Array Value}(h:∀v∈p,Flat X v):Flat X (.agg p):=fun B=>.agg rfl fun i v v' h1 h2=>by
 cases h1.symm.trans h2
 exact h v (Aj2 h1) B
theorem Rv {X:Cx}{v:Value}(h:Flat X v):∀w∈v.cells,Flat X w:=by
 intro w hw B;have:=(h B).cells;obtain⟨i,hi,e⟩:=Array.mem_iff_getElem.1 hw
 exact this.2 i w w (by rw[Ai8 hi,e]) (by rw[Ai8 hi,e])
theorem A26 {X:Cx}{info:TypeId->Option TypeInfo}(hi:∀t i,info t=some i->P9 X i){fs:Array Field}{i:TypeInfo}(h:Made.reckonStruct info fs=some i):P9 X i:=by
 unfold Made.reckonStruct at h;obtain⟨s,h1,h2⟩:=Amw.1 h;rw[<-Amm]at h1
 have hI:=A6o (I:=fun s=>∀cs,s.2.2.2.2.2.2.2.1=some cs->∀v∈cs,Flat X v) (fun f s hs r h=>by
  simp only[bind,Option.bind,pure]at h
  repeat' (first|split at h|dsimp only at h)
  all_goals first
   |(cases h;done)
   |(injection h with h
     subst h;intro cs hc v hv;dsimp only at hc
     first
      |(cases hc;done)
      |(injection hc with hc
        subst hc
        rcases Array.mem_append.1 hv with h|h
        ·exact hs _ (by assumption) v h
        ·exact Rv (hi _ _ (by assumption) _ (by assumption)) v h))) fs.toList _ s (fun cs h v hv=>by
  dsimp only at h;injection h with h
  subst h;simp at hv) h1
 dsimp only at h2;intro v hv
 split at h2<;>
 ·injection h2 with h2
  subst h2;obtain⟨cs,hc,rfl⟩:=Aif.1 hv
  exact flat_agg (hI cs hc)
theorem A1i {X:Cx}{info:TypeId->Option TypeInfo}(hi:∀t i,info t=some i->P9 X i){d:TypeDesc}{i:TypeInfo}(h:Made.reckon info d=some i):P9 X i:=by
 have fl:∀v,D5 4 v=true->Flat X v:=Xw 4;intro v hv;unfold Made.reckon at h
 cases d with
 | struct fs=>exact A26 hi h v hv
 | array n e =>
   simp only[bind,Option.bind,pure]at h
   cases he:info e with
   | none=>rw[he]at h;cases h
   | some j =>
     rw[he]at h;dsimp only at h
     split at h
     ·cases h
     ·injection h with h
      subst h;dsimp only at hv
      split at hv
      ·cases hv
      ·split at hv
       ·injection hv with hv
        subst hv
        exact flat_agg fun w hw=>by simp at hw
       ·obtain⟨z,hz,rfl⟩:=Aif.1 hv
        refine flat_agg fun w hw=>?_
        rw[Array.mem_flatten]at hw;obtain⟨r,hr,hw⟩:=hw;rw[Array.mem_replicate]at hr;obtain⟨_,rfl⟩:=hr
        exact Rv (hi e j he z hz) w hw
 | _ =>
   simp only[bind,Option.bind,pure]at h
   repeat' (first|split at h|dsimp only at h)
   all_goals first
    |(cases h;done)
    |(injection h with h
      subst h;simp only[Made.word,Ajj]at hv;subst hv
      exact fl _ rfl)
theorem A0r {X:Cx}{T:Tables}(ht:∀i∈T.types,P9 X i):∀(k:Nat) t i,Made.infoAt T k t=some i->P9 X i:=by
 intro k
 induction k with
 | zero=>intro t i h;cases h
 | succ k ih =>
   intro t i h;unfold Made.infoAt at h
   split at h
   ·exact ht i (Aj2 h)
   ·obtain⟨d,_,h⟩:=Amw.1 h
    exact A1i (fun t i h=>ih t i h) h
theorem A6t {X:Cx}{T:Tables}(ht:∀i∈T.types,P9 X i)(t:TypeId)(i:TypeInfo)(h:T.info? t=some i):P9 X i:=by
 unfold Tables.info? at h
 split at h
 ·exact ht i (Aj2 h)
 ·exact A0r ht _ t i h
end Ok
end Go.Proofs.YtlfleicchbgcmaaGreat
