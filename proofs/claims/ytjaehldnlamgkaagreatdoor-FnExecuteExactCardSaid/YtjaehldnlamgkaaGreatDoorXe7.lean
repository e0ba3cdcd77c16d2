import Derived.Test.YtjaehldnlamgkaaGreatDoorXe6
import Derived.Calls
import Derived.Test.YtjaehldnlamgkaaGreatDoorXe0
set_option linter.all false
set_option maxHeartbeats 16000000
set_option maxRecDepth 100000
namespace Go.Proofs.YtjaehldnlamgkaaGreatDoor
namespace Lr
open Go.Conc Tl
def Tl1 (τ:Tape)(a b lim:Nat)(w:World)(r r':GStep):Prop :=
 ∀fr cs W1 es,r=.go (G fr cs) W1 es ->(w.drawn<=W1.drawn/\W1.tape=w.tape) /\(W1.drawn<=lim->r'=.go (G fr cs) (Dk τ a b W1) es)
section
variable {X : Cx} {P P' : Program} {B : Lk} {τ : Tape} {a b lim : Nat}
theorem Dd {w:World}{g:Goroutine}{es:Array Event}:Tl1 τ a b lim w (.go g w es) (.go g (Dk τ a b w) es):=by
 intro fr cs W1 e h
 cases h
 exact⟨⟨Am0 _,rfl⟩,fun _=>rfl⟩
theorem Fy {w w1:World}{o:Outcome}{es:Array Event}{r':GStep}:Tl1 τ a b lim w (.ended o w1 es) r':=fun _ _ _ _ h=>by cases h
theorem Dc {w w1:World}{o:Outcome}{es es1:Array Event}{r':GStep}:Tl1 τ a b lim w (GStep.after es1 (.ended o w1 es)) r':=Fy
theorem Eb {w w1:World}{es:Array Event}{r1 r2 r':GStep}(hm:w.drawn<=w1.drawn/\w1.tape=w.tape)(h:Tl1 τ a b lim w1 r1 r2)(hr:w1.drawn<=lim->r'=GStep.after es r2):Tl1 τ a b lim w (GStep.after es r1) r':=by
 intro fr cs W1 e he;obtain⟨es2,h1,rfl⟩:=Hy he;obtain⟨g1,g2⟩:=h _ _ _ _ h1
 refine⟨⟨Am1 hm.1 g1.1,g1.2.trans hm.2⟩,fun hl=>?_⟩
 rw[hr (Am1 g1.1 hl),g2 hl]
 rfl
theorem Fz {α β:Type}{R:Lk->α->β->Prop}{s:Sem α}{s':Sem β}(hs:SR X P P' R B s s'){V W:World}(hw:WR X B V W)(hA:Ed τ a b lim V) :
 (∃v V1 es B1 d,s.runT P V #[]=(.ok v V1,es) /\(V.drawn<=V1.drawn/\V1.tape=V.tape)/\Ed τ a b lim V1 /\(V1.drawn<=lim->s.runT P (Dk τ a b V) #[]=(.ok v (Dk τ a b V1),es))/\Le B B1/\R B1 v d/\∃W1,WR X B1 V1 W1) \/
 (∃v V1 es,s.runT P V #[]=(.halt (.panic v) V1,es) /\(V.drawn<=V1.drawn/\V1.tape=V.tape) /\(V1.drawn<=lim->s.runT P (Dk τ a b V) #[]=(.halt (.panic v) (Dk τ a b V1),es))) \/
 ∃h V1 es,s.runT P V #[]=(.halt h V1,es)/\Jo h:=by
 obtain⟨hcl,hr⟩:=hs V W hw;have e0:(s.runT P V #[]).1=s.run P V:=by rw[Sem.runT_eq]
 rcases hcl with⟨h,V1,e1,e2⟩|hcl
 ·refine .inr (.inr ⟨h,V1,(s.runT P V #[]).2,?_,e2⟩)
  rw[<-e1,<-e0]
 have hm:=A1x (P:=P) s V #[];have ht:=Ahy (P:=P) (lim:=lim) s V #[] hA (fun e he=>(hcl #[] e he).elim (fun h=>by simp at h) id)
 have hp:s.runT P V #[]=(s.run P V,(s.runT P V #[]).2):=by rw[<-e0]
 rw[e0]at hm ht;generalize (s.runT P V #[]).2=es at hp ht;generalize s.run P V=r at hm ht hp hr
 match r,hr with
 | .ok v V1,⟨B',W',d,n,h1,h2,h3,h4,h5⟩ =>
   exact .inl ⟨v,V1,es,B',d,hp,hm,hA.on hm.1 hm.2,ht,h1.le,h4,W',h2⟩
 | .halt x V1,k =>
   rcases F8 x with⟨v,rfl⟩|hn
   ·exact .inr (.inl ⟨v,V1,es,hp,hm,ht⟩)
   ·exact .inr (.inr ⟨x,V1,es,hp,Gd hn k⟩)
theorem Oc {fr:Frame}{cs:List Frame}{s:Sem Next}{w w':World}{n:Next}{es:Array Event}(h:s.runT P w #[]=(.ok n w',es))(hn:Plain n)
 (hk:∀d r s k,fr.todo≠.call d true r s :: k):stepG.apply P true fr cs none s w=GStep.after (seen P fr.fn (if fr.kind == .early then#[]else es)) (Q1 P fr cs w' n):=by
 unfold stepG.apply;rw[Amo rfl,h]
 cases n<;>first
  | exact hn.elim
  | rfl
  |(dsimp only[Q1,G]
    generalize seen P fr.fn _=E
    split
    ·exact absurd ‹_› (hk _ _ _ _)
    ·rfl)
theorem Ic {fr:Frame}{cs:List Frame}{s:Sem Next}{w w':World}{v:Value}{es:Array Event}(h:s.runT P w #[]=(.halt (.panic v) w',es)) :
 stepG.apply P true fr cs none s w=GStep.after (seen P fr.fn (if fr.kind == .early then#[]else es)) (.go (G (fr.raise [⟨v,false,false⟩]) cs) w'):=by
 unfold stepG.apply;rw[Amo rfl,h]
 rfl
theorem O4 {fr fr':Frame}(hf:Dj X B fr fr'){cs:List Frame}{s s':Sem Next}(hs:SR X P P' (NxR X) B s s'){V W:World}(hw:WR X B V W)(hA:Ed τ a b lim V) :
 Tl1 τ a b lim V (stepG.apply P true fr cs none s V) (stepG.apply P true fr cs none s (Dk τ a b V)):=by
 rcases Fz hs hw hA with⟨v,V1,es,B1,d,e1,hm,hA1,e2,hl,hr,_⟩ |⟨v,V1,es,e1,hm,e2⟩ |⟨h,V1,es,e1,hn⟩
 ·have hp:Plain v:=by cases hr<;>trivial
  rw[Oc e1 hp hf.todo.kind.1]
  refine Eb hm (r2:=Q1 P fr cs (Dk τ a b V1) v) ?_ (fun hl=>Oc (e2 hl) hp hf.todo.kind.1)
  cases hr<;>first
   | exact Dd
   |(unfold Q1;dsimp only;split<;>exact Dd)
 ·rw[Ic e1]
  exact Eb hm (r2:=.go (G (fr.raise [⟨v,false,false⟩]) cs) (Dk τ a b V1)) Dd (fun hl=>Ic (e2 hl))
 ·obtain⟨o,w1,es1,h⟩:=M7 (fr:=fr) (cs:=cs) e1 hn;rw[h]
  exact Fy
theorem Kd {fr c:Frame}{cs:List Frame}{v:Value}(m:Bool)(w:World):Tl1 τ a b lim w (doReturn P m fr (c :: cs) none v w) (doReturn P m fr (c :: cs) none v (Dk τ a b w)):=by
 unfold doReturn;dsimp only
 cases fr.kind<;>exact Dd
variable (H : Whole X P P')
theorem U9 {V W:World}(hw:WR X B V W)(hA:Ed τ a b lim V){base:List Frame}{fr fr':Frame}{cs cs':List Frame}(hf:Dj X B fr fr')(hc:J7 X B cs cs')(hb:cs=[]->fr.roundOf=none)(m:Bool)(j:Option Code)(hj:∀c,j=some c->∀K,Mw X K c c) :
 Tl1 τ a b lim V
  (match fr.roundOf with
   | none=>if(match (generalizing:=false) j with|none=>true|some .ret=>true|_=>false)=true then GStep.go (G { fr with mode:=.returning } (cs++base)) V else .ended (.stuck "exit, goto: no such block or label" (fr.pos P)) V
   | some l=>match (Instr.endRound l j).runT P V #[]with
     | (r,es)=>GStep.after (seen P fr.fn es) (match r with
       | .ok v w=>doReturn P m fr (cs++base) none v w
       | .halt _ w=>.ended (.stuck "range over a function: no such loop" (fr.pos P)) w))
  (match fr.roundOf with
   | none=>if(match (generalizing:=false) j with|none=>true|some .ret=>true|_=>false)=true then GStep.go (G { fr with mode:=.returning } (cs++base)) (Dk τ a b V)else .ended (.stuck "exit, goto: no such block or label" (fr.pos P)) (Dk τ a b V)
   | some l=>match (Instr.endRound l j).runT P (Dk τ a b V) #[]with
     | (r,es)=>GStep.after (seen P fr.fn es) (match r with
       | .ok v w=>doReturn P m fr (cs++base) none v w
       | .halt _ w=>.ended (.stuck "range over a function: no such loop" (fr.pos P)) w)):=by
 have hr:=hf.roundOf
 cases hro:fr.roundOf with
 | none =>
   dsimp only;generalize (match (generalizing:=false) j with|none=>true|some .ret=>true|_=>false:Bool)=q
   cases q
   ·rw[Amd (by simp),Amd (by simp)];exact Fy
   ·rw[Amo rfl,Amo rfl]
    exact Dd
 | some l =>
   rw[hro]at hr
   cases hro':fr'.roundOf with
   | none=>rw[hro']at hr;cases hr
   | some l' =>
     rw[hro']at hr
     cases hr
     rename_i hl
     dsimp only
     cases hc with
     | nil=>rw[hb rfl]at hro;cases hro
     | cons hcc hc =>
       rcases Fz (Qc (P:=P) (P':=P) hl j hj) hw hA with⟨v,V1,es,B1,d,e1,hm,hA1,e2,_⟩ |⟨v,V1,es,e1,hm,e2⟩ |⟨h,V1,es,e1,hn⟩
       ·rw[e1]
        refine Eb hm (Kd m V1) (fun hl=>?_)
        rw[e2 hl]
        rfl
       ·rw[e1]
        exact Dc
       ·rw[e1]
        exact Dc
include H
theorem Afd {V W:World}(hw:WR X B V W)(hA:Ed τ a b lim V){fr fr':Frame}(hf:Dj X B fr fr'){cs:List Frame}{ops:Array Oper}{i:Nat}{rest:List Nat}{k:List Item}
 (ht:fr.todo=.inRegion ops (i :: rest) :: k) (hops:∀o∈ops,Kr X fr.roundOf o) :
 Tl1 τ a b lim V (stepG.oper P true fr cs none V) (stepG.oper P true fr cs none (Dk τ a b V)):=by
 unfold stepG.oper Frame.oper?;rw[ht];dsimp only
 cases ho:ops[i]? with
 | none=>exact Fy
 | some o =>
   dsimp only;have hKo:=hops o (Amp ho);have hok:=H.hK o hKo.k;have hev:=hf.evR hw.G8 H.hG
   cases hro:fr.roundOf with
   | none=>exact O4 hf (Ey H.hF H.hM o hok hev fun f=>⟨rfl,rfl⟩) hw hA
   | some l =>
     cases hop:o.op with
     | defer c =>
       rw[hro]at hKo
       exact absurd hop (hKo.2 c)
     | _=>exact O4 hf (Ey H.hF H.hM o hok hev fun f=>⟨rfl,rfl⟩) hw hA
theorem Afc {V W:World}(hw:WR X B V W)(hA:Ed τ a b lim V){base:List Frame}{fr fr':Frame}{cs cs':List Frame}(hf:Dj X B fr fr')(hc:J7 X B cs cs')(hb:cs=[]->fr.roundOf=none)(m:Bool) :
 Tl1 τ a b lim V (stepG.exec P m true fr (cs++base) none V) (stepG.exec P m true fr (cs++base) none (Dk τ a b V)):=by
 have hP:=H.hF.toPRel;obtain⟨fn,tmps,todo,defers,mode,kind,ro⟩:=fr;obtain⟨fn',tmps',todo',defers',mode',kind',ro'⟩:=fr';have ht:=hf.todo;dsimp only at ht hb
 cases ht with
 | nil=>exact U9 hw hA hf hc hb m none fun c e=>by cases e
 | cons hi hk =>
  cases hi with
  | inBlock i =>
    unfold stepG.exec
    exact Dd
  | inScope hcd =>
    unfold stepG.exec
    exact Dd
  | inLoop hcd =>
    unfold stepG.exec
    exact Dd
  | inRangeFunc hl =>
    unfold stepG.exec
    exact Fy
  | beginRound =>
    unfold stepG.exec;have hr:=hf.roundOf;dsimp only;dsimp only at hr
    refine O4 hf (P':=P') (s':=(do ro'.elim (stuck "beginRound: no round") Instr.beginRound;pure .skip)) ?_ hw hA
    cases hr with
    | none=>exact SR.C7
    | some hl=>exact SR.bind (Hq hP hl) fun _ _ _ _ _=>SR.pure .skip
  | endRangeFunc hl =>
    rename_i l l'
    unfold stepG.exec;dsimp only
    rcases Fz (U0 hP hl) hw hA with⟨v,V1,es,B1,d,e1,hm,hA1,e2,_⟩ |⟨v,V1,es,e1,hm,e2⟩ |⟨h,V1,es,e1,hn⟩
    ·rw[e1]
     refine Eb (r2:=.go _ (Dk τ a b V1)) hm Dd (fun hl=>?_)
     rw[e2 hl]
    ·rw[e1]
     refine Eb (r2:=.go _ (Dk τ a b V1)) hm Dd (fun hl=>?_)
     rw[e2 hl]
    ·rw[e1]
     cases h<;>first|exact hn.elim|exact Dc
  | inRegion ops l hops =>
    cases l with
    | nil =>
      unfold stepG.exec
      exact Dd
    | cons i rest =>
      have ho:=Afd H hw hA hf (cs:=cs++base) rfl hops;unfold stepG.exec;dsimp only
      split
      ·exact ho
      ·exact Dd
  | @code c c' hcd =>
    cases c with
    | skip =>
      unfold stepG.exec
      exact Dd
    | label l =>
      unfold stepG.exec
      exact Dd
    | ret =>
      unfold stepG.exec
      exact U9 hw hA hf hc hb m (some .ret) fun c e K=>by cases e;rfl
    | seq a b =>
      unfold stepG.exec
      exact Dd
    | cond o a b =>
      unfold stepG.exec;dsimp only;generalize Frame.eval _ o=v
      cases v<;>first
       | exact Fy
       | exact Dd
    | block i a =>
      unfold stepG.exec
      exact Dd
    | loop a =>
      unfold stepG.exec
      exact Dd
    | scope a =>
      unfold stepG.exec
      exact Dd
    | exit i =>
      unfold stepG.exec;dsimp only
      rcases Om i hk with⟨e1,e2⟩ |⟨q,q',e1,e2,hq⟩
      ·rw[e1]
       exact U9 hw hA hf hc hb m (some (.exit i)) fun c e K=>by cases e;rfl
      ·rw[e1]
       exact Dd
    | goto l=>exact hcd.elim
    | refuse why =>
      unfold stepG.exec
      exact Fy
    | region id ops d =>
      unfold stepG.exec;dsimp only
      cases d with
      | false=>exact Dd
      | true =>
        rcases Fz (SR.choose (X:=X) (P:=P) (P':=P') (B:=B) (.order fn id)) hw hA with⟨v,V1,es,B1,d,e1,hm,hA1,e2,_⟩ |⟨v,V1,es,e1,hm,e2⟩ |⟨h,V1,es,e1,hn⟩
        ·have e3:(Go.choose (.order fn id)).run P V=.ok v V1:=by
          rw[Sem.runT_eq]at e1
          exact congrArg Prod.fst e1
         rw[e3];intro fr2 cs2 W1 e0 h
         cases h
         refine⟨hm,fun hl=>?_⟩
         have e4:(Go.choose (.order fn id)).run P (Dk τ a b V)=.ok v (Dk τ a b V1):=by
          have:=e2 hl;rw[Sem.runT_eq]at this
          exact congrArg Prod.fst this
         rw[e4]
         rfl
        ·have e3:(Go.choose (.order fn id)).run P V=.halt (.panic v) V1:=by
          rw[Sem.runT_eq]at e1
          exact congrArg Prod.fst e1
         rw[e3]
         exact Fy
        ·have e3:(Go.choose (.order fn id)).run P V=.halt h V1:=by
          rw[Sem.runT_eq]at e1
          exact congrArg Prod.fst e1
         rw[e3]
         exact Fy
    | rangeFunc f ps aa bb =>
      obtain⟨aa',bb',rfl,h00,h01,h02⟩:=hcd;obtain rfl:fn'=fn:=hf.fn;unfold stepG.exec;dsimp only;have hev:=hf.evR hw.G8 H.hG f h00
      rcases Fz (Iw (P:=P) (P':=P') fn' hf.tmps ps (h01.mono (NoD.mono fun _=>Kr.k)) (h02.mono (NoD.mono fun _=>Kr.k)) hf.roundOf) hw hA with⟨x,V1,es,B1,y,e1,hm,hA1,e2,hle,hab,W1,hw1⟩ |⟨v,V1,es,e1,hm,e2⟩ |⟨h,V1,es,e1,hn⟩
      ·dsimp only at e1 e2;rw[e1];obtain⟨l,mk⟩:=x;obtain⟨l',mk'⟩:=y;obtain⟨hl,hmk⟩:=hab;dsimp only at hl hmk ⊢;have hf1:=hf.mono hle;have hf2:Dj X B1 ⟨fn',tmps,.inRangeFunc l :: _,mk++defers,mode,kind,ro⟩ ⟨fn',tmps',.inRangeFunc l' :: _,mk'++defers',mode',kind',ro'⟩:=⟨rfl,hf1.tmps,.cons (.inRangeFunc hl) (hk.mono hle),hmk.append hf1.defers,hf1.mode,hf1.kind,hf1.roundOf⟩;have hev1:=hev.mono hle;have hone:AR X B1 #[Value.func (.yield l) #[] #[]] #[Value.func (.yield l') #[] #[]]:=AR.one (.func (.yield _ _ hl) rfl (fun i v v' (a:(#[]:Array Value)[i]?=some v) _=>by simp at a) rfl (fun i v v' (a:(#[]:Array Value)[i]?=some v) _=>by simp at a))
       refine Eb hm (O4 hf2 (P':=P') (cs:=cs++base) (s':=(do let d <-resolve (Frame.eval ⟨fn',tmps',[],mk'++defers',mode',kind',ro'⟩) { callee:=.value f,args:=#[.const (.func (.yield l') #[] #[])],argTypes:=#[] } 0;invoke d.target d.args)) ?_ hw1 hA1) (fun hl=>?_)
       ·refine SR.bind (R:=fun B' d d'=>DfR X B' d d') ?_ fun B2 l2 d d' hd=>Fc H.hF H.hM hd.1 hd.2
        refine Mq ?_ ?_
        ·cases f<;>exact hev1
        ·simpa [Frame.eval]using hone
       ·rw[e2 hl]
      ·dsimp only at e1;rw[e1]
       exact Dc
      ·dsimp only at e1;rw[e1]
       exact Dc
theorem Qs {V W:World}(hw:WR X B V W)(hA:Ed τ a b lim V){cs:List Frame}{fr:Frame}{d d':Deferred}(hd:DfR X B d d') :
 Tl1 τ a b lim V (callDeferred P fr cs none d V) (callDeferred P fr cs none d (Dk τ a b V)):=by
 unfold callDeferred;generalize ((match d.target with|.nil=>true|_=>false) && (match fr.mode with|.panicking _=>true|_=>false))=q
 cases q with
 | true=>exact Fy
 | false =>
   rw[Amd (by simp),Amd (by simp)]
   rcases Fz (Fc (z:=False) H.hF H.hM hd.1 hd.2) hw hA with⟨v,V1,es,B1,d,e1,hm,hA1,e2,hle,hab,_⟩ |⟨v,V1,es,e1,hm,e2⟩ |⟨h,V1,es,e1,hn⟩
   ·rw[e1]
    cases hab<;>first
     | exact Eb (r2:=.go _ (Dk τ a b V1)) hm Dd (fun hl=>by rw[e2 hl])
     | exact absurd ‹False› id
   ·rw[e1]
    exact Eb (r2:=.go _ (Dk τ a b V1)) hm Dd (fun hl=>by rw[e2 hl])
   ·rw[e1]
    cases h with
    | unsupported u=>exact Dc
    | exit c=>exact Dc
    | stuck m=>exact Dc
    | _=>exact hn.elim
theorem A9k {V W:World}(hw:WR X B V W)(hA:Ed τ a b lim V){fr fr':Frame}{cs base:List Frame}(hf:Dj X B fr fr')(hb:cs=[]->fr.defers≠[])(m:Bool) :
 Tl1 τ a b lim V (unwind P m fr (cs++base) none V) (unwind P m fr (cs++base) none (Dk τ a b V)):=by
 have hP:=H.hF.toPRel;have hd:=hf.defers;unfold unwind
 cases h1:fr.defers with
 | cons d ds =>
   rw[h1]at hd
   cases h2:fr'.defers with
   | nil=>rw[h2]at hd;cases hd
   | cons d' ds' =>
     rw[h2]at hd
     cases hd with
     | cons hq hdd hds =>
     obtain⟨t,p⟩:=d;obtain⟨t',p'⟩:=d';have hcd:=Qs H hw hA (cs:=cs++base) (fr:={ fr with defers:=ds }) hdd
     obtain⟨ht,hp⟩:=hdd;dsimp only at ht hp
     cases ht with
     | fn _ _=>exact hcd
     | nil=>exact hcd
     | builtin _ _ _ _ _=>exact hcd
     | collected hr =>
       dsimp only
       rcases Fz (Jg (P:=P) (P':=P') hr) hw hA with⟨v,V1,es,B1,d,e1,hm,hA1,e2,hle,hab,_⟩ |⟨v,V1,es,e1,hm,e2⟩ |⟨h,V1,es,e1,hn⟩
       ·rw[e1]
        exact Eb (r2:=.go _ (Dk τ a b V1)) hm Dd (fun hl=>by rw[e2 hl])
       ·rw[e1]
        exact Dc
       ·rw[e1]
        exact Dc
 | nil =>
   cases cs with
   | nil=>exact absurd h1 (hb rfl)
   | cons c cs =>
   dsimp only[List.cons_append]
   cases h3:fr.mode with
   | run=>exact Fy
   | panicking chain =>
     dsimp only
     split
     ·exact Fy
     ·exact Dd
   | returning =>
     dsimp only
     cases h4:P.funcs[fr.fn]? with
     | none=>exact Kd m V
     | some fn =>
       dsimp only
       have hres:∃fn',P'.funcs[fr.fn]?=some fn'/\fn'.results=fn.results:=by
        rcases H.hF.funcs fr.fn with⟨e1,e2⟩ |⟨f1,f2,e1,e2,hn,hr,_⟩
        ·rw[h4]at e1;cases e1
        ·rw[h4]at e1;cases e1;exact⟨f2,e2,hr⟩
       obtain⟨fn',h5,hres⟩:=hres
       rcases Fz (Gx hP hres hf.tmps) hw hA with⟨v,V1,es,B1,d,e1,hm,hA1,e2,hle,hab,_⟩ |⟨v,V1,es,e1,hm,e2⟩ |⟨h,V1,es,e1,hn⟩
       ·rw[e1]
        exact Eb hm (Kd m V1) (fun hl=>by rw[e2 hl])
       ·rw[e1]
        exact Dc
       ·rw[e1]
        cases h<;>exact Dc
theorem Af7 {V W:World}(hw:WR X B V W)(hA:Ed τ a b lim V){base:List Frame}{fr fr':Frame}{cs cs':List Frame}(hf:Dj X B fr fr')(hc:J7 X B cs cs')(hb:cs=[]->fr.roundOf=none /\(fr.mode=.run\/fr.defers≠[]))(m:Bool) :
 Tl1 τ a b lim V (stepG P m (G fr (cs++base)) V) (stepG P m (G fr (cs++base)) (Dk τ a b V)):=by
 by_cases hr:fr.mode=.run
 ·rw[I9 hr,I9 hr]
  exact Afc H hw hA hf hc (fun e=>(hb e).1) m
 ·rw[Ck hr,Ck hr]
  exact A9k H hw hA hf (fun e=>(hb e).2.resolve_left hr) m
end
end Lr
namespace Lr
open Go.Conc Tl
theorem C3 (fr:Frame)(v:Value):(fr.finish v).roundOf=fr.roundOf:=by
 unfold Frame.finish
 split<;>rfl
theorem Hd (fr:Frame)(l:List PanicEntry):(fr.raise l).roundOf=fr.roundOf:=by
 unfold Frame.raise
 split<;>rfl
theorem Ci (fr:Frame)(v:Value):(fr.finish v).kind=fr.kind:=by
 unfold Frame.finish
 split<;>rfl
theorem Ir (fr:Frame)(l:List PanicEntry):(fr.raise l).kind=fr.kind:=by
 unfold Frame.raise
 split<;>rfl
def Bt (base:List Frame)(x:Option Nat×CallKind)(r:GStep):Prop:=∀fr cs W1 es,r=.go (G fr (cs++base)) W1 es->Cb fr cs=x
section
variable {X : Cx} {P P' : Program} {B : Lk} {base : List Frame} {x : Option Nat × CallKind}
theorem Bi {w:World}{fr:Frame}{cs:List Frame}{es:Array Event}(h:Cb fr cs=x):Bt base x (.go (G fr (cs++base)) w es):=by
 intro fr1 cs1 W1 e h1;injection h1 with h1 _ _
 injection h1 with h2 h3 _ _
 obtain rfl:=h2;obtain rfl:=Anr h3
 exact h
theorem Cy {w1:World}{o:Outcome}{es:Array Event}:Bt base x (.ended o w1 es):=fun _ _ _ _ h=>by cases h
theorem Ch {es:Array Event}{r1:GStep}(h:Bt base x r1):Bt base x (GStep.after es r1):=by
 intro fr cs W1 e he;obtain⟨es2,h1,rfl⟩:=Hy he
 exact h _ _ _ _ h1
theorem N9 (hF:A3a X P P'){fr fr':Frame}(hf:Dj X B fr fr'){cs cs':List Frame}(hc:J7 X B cs cs')(hbk:Bq (Cb fr cs).2 base){s s':Sem Next}(hs:SR X P P' (NxR X) B s s'){V W:World}(hw:WR X B V W) :
 Bt base (Cb fr cs) (stepG.apply P true fr (cs++base) none s V):=by
 rcases Fz (τ:=V.tape) (a:=0) (b:=0) (lim:=0) hs hw ⟨Amu _,fun n q h1 h2=>by omega⟩with⟨v,V1,es,B1,d,e1,hm,hA1,e2,hl,hr,_⟩ |⟨v,V1,es,e1,hm,e2⟩ |⟨h,V1,es,e1,hn⟩
 ·have hp:Plain v:=by cases hr<;>trivial
  rw[Oc e1 hp hf.todo.kind.1]
  refine Ch ?_
  cases hr with
  | value _=>exact Bi (Bu (C3 _ _) (Ci _ _) cs)
  | skip=>exact Bi (Bu (C3 _ _) (Ci _ _) cs)
  | enter f hcf hp=>exact Bi (cs:=fr :: cs) rfl
  | round f hl hp ha hb=>exact Bi (cs:=fr :: cs) rfl
  | defer hd=>exact Bi (Bu (by rw[C3]) (by rw[Ci]) cs)
  | recover _ _ =>
    rw[Oo hF.A6h]
    rcases Ht hf hc base base hbk hbk with⟨q1,_⟩ |⟨v,v',c1,c1',q1,_,_,_,q5⟩
    ·rw[q1]
     exact Bi (Bu (C3 _ _) (Ci _ _) cs)
    ·rw[q1]
     exact Bi ((Bu (C3 _ _) (Ci _ _) c1).trans q5)
 ·rw[Ic e1]
  exact Ch (Bi (Bu (Hd _ _) (Ir _ _) cs))
 ·obtain⟨o,w1,es1,h⟩:=M7 (fr:=fr) (cs:=cs++base) e1 hn;rw[h]
  exact Cy
theorem Jp {fr c:Frame}{cs:List Frame}{v:Value}(m:Bool)(w:World):Bt base (Cb fr (c :: cs)) (doReturn P m fr (c :: cs++base) none v w):=by
 unfold doReturn;dsimp only[List.cons_append]
 cases fr.kind with
 | normal=>exact Bi (Bu (C3 _ _) (Ci _ _) cs)
 | wrapped=>exact Bi (Bu (C3 _ _) (Ci _ _) cs)
 | early=>exact Bi rfl
 | _ =>
   refine Bi (Bu ?_ ?_ cs)
   all_goals
    split
    ·split<;>rfl
    ·rfl
theorem Rm {V W:World}(hw:WR X B V W){fr fr':Frame}{cs cs':List Frame}(hf:Dj X B fr fr')(hc:J7 X B cs cs')(hb:cs=[]->fr.roundOf=none)(m:Bool)(j:Option Code)(hj:∀c,j=some c->∀K,Mw X K c c) :
 Bt base (Cb fr cs)
  (match fr.roundOf with
   | none=>if(match (generalizing:=false) j with|none=>true|some .ret=>true|_=>false)=true then GStep.go (G { fr with mode:=.returning } (cs++base)) V else .ended (.stuck "exit, goto: no such block or label" (fr.pos P)) V
   | some l=>match (Instr.endRound l j).runT P V #[]with
     | (r,es)=>GStep.after (seen P fr.fn es) (match r with
       | .ok v w=>doReturn P m fr (cs++base) none v w
       | .halt _ w=>.ended (.stuck "range over a function: no such loop" (fr.pos P)) w)):=by
 cases hro:fr.roundOf with
 | none =>
   dsimp only;generalize (match (generalizing:=false) j with|none=>true|some .ret=>true|_=>false:Bool)=q
   cases q
   ·rw[Amd (by simp)];exact Cy
   ·rw[Amo rfl]
    exact Bi (Bu (by first|rfl|exact hro.symm) (by rfl) cs)
 | some l =>
   dsimp only
   cases hc with
   | nil=>rw[hb rfl]at hro;cases hro
   | cons hcc hc =>
     refine Ch ?_
     generalize (Instr.endRound l j).runT P V #[]=q;obtain⟨r,es⟩:=q
     cases r with
     | ok v w=>exact Jp m w
     | halt h w=>exact Cy
variable (H : Whole X P P')
include H
theorem Adj {V W:World}(hw:WR X B V W){fr fr':Frame}(hf:Dj X B fr fr'){cs cs':List Frame}(hc:J7 X B cs cs')(hbk:Bq (Cb fr cs).2 base){ops:Array Oper}{i:Nat}{rest:List Nat}{k:List Item}
 (ht:fr.todo=.inRegion ops (i :: rest) :: k) (hops:∀o∈ops,Kr X fr.roundOf o) :
 Bt base (Cb fr cs) (stepG.oper P true fr (cs++base) none V):=by
 unfold stepG.oper Frame.oper?;rw[ht];dsimp only
 cases ho:ops[i]? with
 | none=>exact Cy
 | some o =>
   dsimp only;have hKo:=hops o (Amp ho);have hok:=H.hK o hKo.k;have hev:=hf.evR hw.G8 H.hG
   cases hro:fr.roundOf with
   | none=>exact N9 H.hF hf hc hbk (Ey H.hF H.hM o hok hev fun f=>⟨rfl,rfl⟩) hw
   | some l =>
     cases hop:o.op with
     | defer c =>
       rw[hro]at hKo
       exact absurd hop (hKo.2 c)
     | _=>exact N9 H.hF hf hc hbk (Ey H.hF H.hM o hok hev fun f=>⟨rfl,rfl⟩) hw
theorem Adi {V W:World}(hw:WR X B V W){fr fr':Frame}{cs cs':List Frame}(hf:Dj X B fr fr')(hc:J7 X B cs cs')(hbk:Bq (Cb fr cs).2 base)(hb:cs=[]->fr.roundOf=none)(m:Bool) :
 Bt base (Cb fr cs) (stepG.exec P m true fr (cs++base) none V):=by
 have hP:=H.hF.toPRel;obtain⟨fn,tmps,todo,defers,mode,kind,ro⟩:=fr;obtain⟨fn',tmps',todo',defers',mode',kind',ro'⟩:=fr';have ht:=hf.todo;dsimp only at ht hb;have key:∀(td:List Item) (df:List Deferred),Cb ⟨fn,tmps,td,df,mode,kind,ro⟩ cs=Cb ⟨fn,tmps,todo,defers,mode,kind,ro⟩ cs:=fun td df=>Bu (by first|rfl|exact hro.symm) (by rfl) cs
 cases ht with
 | nil=>exact Rm hw hf hc hb m none fun c e=>by cases e
 | cons hi hk =>
  cases hi with
  | inBlock i=>unfold stepG.exec;exact Bi (key _ _)
  | inScope hcd=>unfold stepG.exec;exact Bi (key _ _)
  | inLoop hcd=>unfold stepG.exec;exact Bi (key _ _)
  | inRangeFunc hl=>unfold stepG.exec;exact Cy
  | beginRound =>
    unfold stepG.exec;have hr:=hf.roundOf;dsimp only;dsimp only at hr
    refine N9 H.hF hf hc hbk (s':=(do ro'.elim (stuck "beginRound: no round") Instr.beginRound;pure .skip)) ?_ hw
    cases hr with
    | none=>exact SR.C7
    | some hl=>exact SR.bind (Hq hP hl) fun _ _ _ _ _=>SR.pure .skip
  | endRangeFunc hl =>
    rename_i l l'
    unfold stepG.exec;dsimp only
    refine Ch ?_
    generalize (Instr.endLoop l).runT P V #[]=q;obtain⟨r,es⟩:=q
    cases r with
    | ok v w=>exact Bi (key _ _)
    | halt h w =>
      cases h<;>first
       | exact Cy
       | exact Bi (Bu (Hd _ _) (Ir _ _) cs)
  | inRegion ops l hops =>
    cases l with
    | nil=>unfold stepG.exec;exact Bi (key _ _)
    | cons i rest =>
      have ho:=Adj H hw hf hc hbk (base:=base) rfl hops;unfold stepG.exec;dsimp only
      split
      ·exact ho
      ·exact Bi (Bu (C3 _ _) (Ci _ _) cs)
  | @code c c' hcd =>
    cases c with
    | skip=>unfold stepG.exec;exact Bi (key _ _)
    | label l=>unfold stepG.exec;exact Bi (key _ _)
    | ret =>
      unfold stepG.exec
      exact Rm hw hf hc hb m (some .ret) fun c e K=>by cases e;rfl
    | seq a b=>unfold stepG.exec;exact Bi (key _ _)
    | cond o a b =>
      unfold stepG.exec;dsimp only;generalize Frame.eval _ o=v
      cases v<;>first
       | exact Cy
       | exact Bi (key _ _)
    | block i a=>unfold stepG.exec;exact Bi (key _ _)
    | loop a=>unfold stepG.exec;exact Bi (key _ _)
    | scope a=>unfold stepG.exec;exact Bi (key _ _)
    | exit i =>
      unfold stepG.exec;dsimp only
      rcases Om i hk with⟨e1,e2⟩ |⟨q,q',e1,e2,hq⟩
      ·rw[e1]
       exact Rm hw hf hc hb m (some (.exit i)) fun c e K=>by cases e;rfl
      ·rw[e1]
       exact Bi (key _ _)
    | goto l=>exact hcd.elim
    | refuse why=>unfold stepG.exec;exact Cy
    | region id ops d =>
      unfold stepG.exec;dsimp only
      cases d with
      | false=>exact Bi (key _ _)
      | true =>
        generalize (Go.choose (.order fn id)).run P V=r
        cases r with
        | ok v w=>exact Bi (key _ _)
        | halt h w=>exact Cy
    | rangeFunc f ps aa bb =>
      obtain⟨aa',bb',rfl,h00,h01,h02⟩:=hcd;obtain rfl:fn'=fn:=hf.fn;unfold stepG.exec;dsimp only;have hev:=hf.evR hw.G8 H.hG f h00
      rcases Fz (τ:=V.tape) (a:=0) (b:=0) (lim:=0) (Iw (P:=P) (P':=P') fn' hf.tmps ps (h01.mono (NoD.mono fun _=>Kr.k)) (h02.mono (NoD.mono fun _=>Kr.k)) hf.roundOf) hw ⟨Amu _,fun n q h1 h2=>by omega⟩with⟨x,V1,es,B1,y,e1,hm,hA1,e2,hle,hab,W1,hw1⟩ |⟨v,V1,es,e1,hm,e2⟩ |⟨h,V1,es,e1,hn⟩
      ·dsimp only at e1 e2;rw[e1];obtain⟨l,mk⟩:=x;obtain⟨l',mk'⟩:=y;obtain⟨hl,hmk⟩:=hab;dsimp only at hl hmk ⊢;have hf1:=hf.mono hle;have hf2:Dj X B1 ⟨fn',tmps,.inRangeFunc l :: _,mk++defers,mode,kind,ro⟩ ⟨fn',tmps',.inRangeFunc l' :: _,mk'++defers',mode',kind',ro'⟩:=⟨rfl,hf1.tmps,.cons (.inRangeFunc hl) (hk.mono hle),hmk.append hf1.defers,hf1.mode,hf1.kind,hf1.roundOf⟩;have hev1:=hev.mono hle;have hone:AR X B1 #[Value.func (.yield l) #[] #[]] #[Value.func (.yield l') #[] #[]]:=AR.one (.func (.yield _ _ hl) rfl (fun i v v' (a:(#[]:Array Value)[i]?=some v) _=>by simp at a) rfl (fun i v v' (a:(#[]:Array Value)[i]?=some v) _=>by simp at a))
       refine Ch ?_
       have hba:=N9 (base:=base) H.hF hf2 (hc.mono hle) (by rw[key];exact hbk) (s:=(do let d <-resolve (Frame.eval ⟨fn',tmps,[],mk++defers,mode,kind,ro⟩ f |> fun _=>(⟨fn',tmps,[],mk++defers,mode,kind,ro⟩:Frame).eval) { callee:=.value f,args:=#[.const (.func (.yield l) #[] #[])],argTypes:=#[] } 0;invoke d.target d.args)) (s':=(do let d <-resolve (Frame.eval ⟨fn',tmps',[],mk'++defers',mode',kind',ro'⟩) { callee:=.value f,args:=#[.const (.func (.yield l') #[] #[])],argTypes:=#[] } 0;invoke d.target d.args)) ?_ hw1
       ·rw[key]at hba
        exact hba
       ·refine SR.bind (R:=fun B' d d'=>DfR X B' d d') ?_ fun B2 l2 d d' hd=>Fc H.hF H.hM hd.1 hd.2
        refine Mq ?_ ?_
        ·cases f<;>exact hev1
        ·simpa [Frame.eval]using hone
      ·dsimp only at e1;rw[e1]
       exact Ch Cy
      ·dsimp only at e1;rw[e1]
       exact Ch Cy
theorem Qm {V W:World}(hw:WR X B V W){cs:List Frame}{fr:Frame}{d d':Deferred}(hd:DfR X B d d') :
 Bt base (Cb fr cs) (callDeferred P fr (cs++base) none d V):=by
 unfold callDeferred;generalize ((match d.target with|.nil=>true|_=>false) && (match fr.mode with|.panicking _=>true|_=>false))=q
 cases q with
 | true=>exact Cy
 | false =>
   rw[Amd (by simp)]
   rcases Fz (τ:=V.tape) (a:=0) (b:=0) (lim:=0) (Fc (z:=False) H.hF H.hM hd.1 hd.2) hw ⟨Amu _,fun n q h1 h2=>by omega⟩with⟨v,V1,es,B1,d,e1,hm,hA1,e2,hle,hab,_⟩ |⟨v,V1,es,e1,hm,e2⟩ |⟨h,V1,es,e1,hn⟩
   ·rw[e1]
    refine Ch ?_
    cases hab with
    | enter f hcf hp=>exact Bi (cs:=fr :: cs) rfl
    | round f hl hp ha hb=>exact Bi (cs:=fr :: cs) rfl
    | recover h _=>exact h.elim
    | _=>exact Bi rfl
   ·rw[e1]
    exact Ch (Bi (Bu (Hd _ _) (Ir _ _) cs))
   ·rw[e1]
    cases h with
    | unsupported u=>exact Ch Cy
    | exit c=>exact Ch Cy
    | stuck m=>exact Ch Cy
    | _=>exact hn.elim
theorem A76 {V W:World}(hw:WR X B V W){fr fr':Frame}{cs:List Frame}(hf:Dj X B fr fr')(hb:cs=[]->fr.defers≠[])(m:Bool) :
 Bt base (Cb fr cs) (unwind P m fr (cs++base) none V):=by
 have hP:=H.hF.toPRel;have hd:=hf.defers;unfold unwind
 cases h1:fr.defers with
 | cons d ds =>
   rw[h1]at hd
   cases h2:fr'.defers with
   | nil=>rw[h2]at hd;cases hd
   | cons d' ds' =>
     rw[h2]at hd
     cases hd with
     | cons hq hdd hds =>
     obtain⟨t,p⟩:=d;obtain⟨t',p'⟩:=d';have hcd:=Qm H hw (cs:=cs) (base:=base) (fr:={ fr with defers:=ds }) hdd
     rw[show Cb { fr with defers:=ds } cs=Cb fr cs from Bu (by first|rfl|exact hro.symm) (by rfl) cs]at hcd
     obtain⟨ht,hp⟩:=hdd;dsimp only at ht hp
     cases ht with
     | fn _ _=>exact hcd
     | nil=>exact hcd
     | builtin _ _ _ _ _=>exact hcd
     | collected hr =>
       dsimp only
       refine Ch ?_
       generalize Sem.runT P (Instr.takeDeferred _) V #[]=q;obtain⟨r,es⟩:=q
       cases r with
       | ok v w=>exact Bi (Bu (by first|rfl|exact hro.symm) (by rfl) cs)
       | halt h w=>exact Cy
 | nil =>
   cases cs with
   | nil=>exact absurd h1 (hb rfl)
   | cons c cs =>
   dsimp only[List.cons_append]
   cases h3:fr.mode with
   | run=>exact Cy
   | panicking chain =>
     dsimp only
     split
     ·exact Cy
     ·exact Bi (Bu (Hd _ _) (Ir _ _) cs)
   | returning =>
     dsimp only
     cases h4:P.funcs[fr.fn]? with
     | none=>exact Jp m V
     | some fn =>
       dsimp only
       refine Ch ?_
       generalize (results fn fr.tmps).runT P V #[]=q;obtain⟨r,es⟩:=q
       cases r with
       | ok v w=>exact Jp m w
       | halt h w=>cases h<;>exact Cy
theorem U6 {V W:World}(hw:WR X B V W){fr fr':Frame}{cs cs':List Frame}(hf:Dj X B fr fr')(hc:J7 X B cs cs')(hbk:Bq (Cb fr cs).2 base)(hb:cs=[]->fr.roundOf=none /\(fr.mode=.run\/fr.defers≠[]))(m:Bool) :
 Bt base (Cb fr cs) (stepG P m (G fr (cs++base)) V):=by
 by_cases hr:fr.mode=.run
 ·rw[I9 hr]
  exact Adi H hw hf hc hbk (fun e=>(hb e).1) m
 ·rw[Ck hr]
  exact A76 H hw hf (fun e=>(hb e).2.resolve_left hr) m
end
end Lr
namespace Bar
open Go.Conc Tl Lr
structure St where
 fr:Frame
 cs:List Frame
 V:World
def St.at (x:St)(τ:Tape)(d:Nat):St:={ x with V:={ x.V with tape:=τ,drawn:=d } }
def wall (P:Program):Frame:={ fn:=P.funcs.size,tmps:=#[],todo:=[.code (.refuse "")],defers:=[⟨.nil,#[]⟩],mode:=.run,kind:=.normal }
def sg (P:Program)(x:St):GStep:=stepG P true (G x.fr (x.cs++[wall P])) x.V
def Zg (P:Program)(x x':St):Prop:=∃es,sg P x=.go (G x'.fr (x'.cs++[wall P])) x'.V es
def Vl (x:St):Prop:=x.cs=[]/\x.fr.mode≠.run/\x.fr.defers=[]
def Fin (P:Program)(Q:Value->World->Prop)(x:St):Prop:=x.cs=[]/\∃v,x.fr.leaving P x.V (.returned v)/\Q v x.V
inductive Way (P:Program)(F:St->Prop):St->Prop
 | fin {x:St}:F x->Way P F x
 | go {x:St} (g:Tape->Nat->St):(∀τ d,Zg P (x.at τ d) (g τ d)) ->(∀τ d,Way P F (g τ d))->Way P F x
inductive Rch (P:Program)(F:St->Prop):St->Prop
 | fin {x:St}:F x->Rch P F x
 | step {x x':St}:Zg P x x'->Rch P F x'->Rch P F x
structure Vk (P:Program)(F J:St->Prop):Prop where
 tape:∀x τ d,J x->J (x.at τ d)
 step:∀x,J x->¬Vl x ->(∃x',Zg P x x'/\J x')\/∃o w es,sg P x=.ended o w es
 loc:∀x,J x->¬Vl x->∀τ a b lim,Ed τ a b lim x.V->Tl1 τ a b lim x.V (sg P x) (sg P { x with V:=Dk τ a b x.V })
 fin:∀x τ d,J x->F x->F (x.at τ d)
section
variable {P : Program} {Q : Value -> World -> Prop} {F J : St -> Prop}
theorem Zg.inj {x y z:St}(h:Zg P x y)(k:Zg P x z):y=z:=by
 obtain⟨es,h⟩:=h;obtain⟨es',k⟩:=k;rw[h]at k;injection k with k1 k2 _
 injection k1 with k3 k4 _ _
 have k5:=Anr k4;obtain⟨a,b,c⟩:=y;obtain⟨a',b',c'⟩:=z;dsimp only at k2 k3 k5;subst k2 k3 k5
 rfl
theorem Fin.pop {x:St}(h:Fin P Q x):Vl x:=by
 obtain⟨h1,v,⟨h2,h3,_⟩,_⟩:=h
 exact⟨h1,by rw[h2];simp,h3⟩
theorem Ac0 {x:St}(h:Vl x):sg P x=unwind P true x.fr [wall P] none x.V:=by
 unfold sg;rw[h.1]
 exact Ck h.2.1
theorem Ahu {x:St}(h:Vl x){fr:Frame}{cs:List Frame}{w:World}{es:Array Event}(k:sg P x=.go (G fr cs) w es):cs=[]:=by
 rw[Ac0 h]at k;unfold unwind at k;rw[h.2.2]at k;dsimp only at k
 have ret:∀(v:Value) (w1:World) (es1:Array Event),doReturn P true x.fr [wall P] none v w1=.go (G fr cs) w es1->cs=[]:=by
  intro v w1 es1 e;unfold doReturn at e;dsimp only at e
  cases hk:x.fr.kind<;>rw[hk]at e<;>(injection e with e1;injection e1 with _ e2;exact e2.symm)
 split at k
 ·cases k
 ·split at k
  ·cases k
  ·injection k with e1;injection e1 with _ e2;exact e2.symm
 ·split at k
  ·exact ret _ _ _ k
  ·obtain⟨es2,k,_⟩:=Hy k
   split at k
   ·exact ret _ _ _ k
   ·cases k
   ·cases k
theorem Zg.Ks {x x':St}(h:Zg P x x'):¬Vl x:=fun hp=>by
 obtain⟨es,h⟩:=h;have:=Ahu hp h;simp at this
theorem Abs (K:Vk P F J){x:St}(h:Rch P F x):J x->∀(τ:Tape) (a b:Nat),a<=x.V.drawn ->(∀n q,x.V.drawn<=n->τ (n-a+b) q=x.V.tape n q)->Rch P F { x with V:=Dk τ a b x.V }:=by
 induction h with
 | @fin x h =>
   intro hj τ a b _ _
   exact .fin (K.fin x τ (x.V.drawn-a+b) hj h)
 | @step x x' h _ ih =>
   intro hj τ a b ha hA;have hp:=h.Ks
   have hj':J x':=by
    rcases K.step x hj hp with⟨y,g,hy⟩ |⟨o,w,es,e⟩
    ·exact(h.inj g)▸hy
    ·obtain⟨es',h⟩:=h;rw[e]at h
     cases h
   obtain⟨es,h⟩:=h;obtain⟨⟨g1,g2⟩,g3⟩:=K.loc x hj hp τ a b x'.V.drawn ⟨ha,fun n q h1 _=>hA n q h1⟩ _ _ _ _ h
   exact .step (x':={ x' with V:=Dk τ a b x'.V }) ⟨es,g3 (Am0 _)⟩ (ih hj' τ a b (Am1 ha g1) fun n q h1=>by rw[g2];exact hA n q (Am1 g1 h1))
def C (P:Program)(F:St->Prop)(x:St):Prop:=∀τ d,Rch P F (x.at τ d)
theorem inherit (K:Vk P F J){x:St}(hj:J x)(hc:C P F x)(hn:¬F x)(τ:Tape)(d:Nat):∃x',Zg P (x.at τ d) x'/\J x'/\C P F x':=by
 have nofin:∀τ d,¬F (x.at τ d):=fun τ d h=>hn (by have:=K.fin _ x.V.tape x.V.drawn (K.tape x τ d hj) h;exact this)
 have hj1:=K.tape x τ d hj;have h1:=hc τ d;generalize hx1:x.at τ d=x1 at h1 hj1
 cases h1 with
 | fin h=>exact absurd (hx1▸h) (nofin τ d)
 | @step _ x' h hr =>
   have hp:=h.Ks
   have hj':J x':=by
    rcases K.step x1 hj1 hp with⟨y,g,hy⟩ |⟨o,w,es,e⟩
    ·exact(h.inj g)▸hy
    ·obtain⟨es',h⟩:=h;rw[e]at h
     cases h
   refine⟨x',h,hj',fun τ' d'=>?_⟩
   let T:Tape:=fun k q=>if k<x'.V.drawn then τ k q else τ' (k-x'.V.drawn+d') q
   have hd1:x1.V.drawn=d:=by rw[<-hx1];rfl
   have ht1:x1.V.tape=τ:=by rw[<-hx1];rfl
   obtain⟨es,h0⟩:=h
   obtain⟨⟨g1,g2⟩,g3⟩:=K.loc x1 hj1 hp T d d x'.V.drawn ⟨Aof hd1.symm,fun n q h1 h2=>by
    rw[ht1];have e:n-d+d=n:=by omega
    show(if n-d+d<x'.V.drawn then τ (n-d+d) q else _)=_
    rw[e,Amo h2]⟩ _ _ _ _ h0
   have hgo:Zg P (x.at T d) { x' with V:=Dk T d d x'.V }:=by
    refine⟨es,?_⟩
    rw[<-g3 (Am0 _)]
    have:x.at T d={ x1 with V:=Dk T d d x1.V }:=by
     rw[<-hx1];simp[St.at,Dk]
    rw[this]
   have h2:=hc T d;generalize hx2:x.at T d=x2 at h2 hgo
   cases h2 with
   | fin h=>exact absurd (hx2▸h) (nofin T d)
   | @step _ y hy hr2 =>
     have e:=hgo.inj hy;subst e;have hj2:J { x' with V:=Dk T d d x'.V }:=K.tape x' T (x'.V.drawn-d+d) hj'
     have:=Abs K hr2 hj2 τ' x'.V.drawn d' (by show x'.V.drawn<=x'.V.drawn-d+d;omega) (fun n q h=>by
      have h:x'.V.drawn-d+d<=n:=h
      show τ' (n-x'.V.drawn+d') q=if n<x'.V.drawn then τ n q else τ' (n-x'.V.drawn+d') q
      rw[Amd (by omega)])
     have e3:x'.V.drawn-d+d-x'.V.drawn+d'=d':=by omega
     have e2:({ x' with V:=Dk τ' x'.V.drawn d' (Dk T d d x'.V) }:St)=x'.at τ' d':=by
      simp only[Dk,St.at,e3]
     exact e2▸this
theorem bar (K:Vk P F J){x:St}(hj:J x)(hc:C P F x):Way P F x:=by
 apply Apk
 intro hw
 have next:∀y:{y:St // J y/\C P F y/\¬Way P F y},∃(r:Tape×Nat×{y:St // J y/\C P F y/\¬Way P F y}),Zg P (y.1.at r.1 r.2.1) r.2.2.1:=by
  rintro⟨y,hj,hc,hw⟩;have hnf:¬F y:=fun h=>hw (.fin h)
  apply Apk
  intro hcon
  have:∀τ d,∃x',Zg P (y.at τ d) x'/\Way P F x':=by
   intro τ d;obtain⟨x',g,j,c⟩:=inherit K hj hc hnf τ d
   exact⟨x',g,Apk fun hw'=>hcon ⟨(τ,d,⟨x',j,c,hw'⟩),g⟩⟩
  exact hw (.go (fun τ d=>(this τ d).choose) (fun τ d=>(this τ d).choose_spec.1) (fun τ d=>(this τ d).choose_spec.2))
 let f:{y:St // J y/\C P F y/\¬Way P F y}->Tape×Nat×{y:St // J y/\C P F y/\¬Way P F y}:=fun y=>(next y).choose
 have hf:∀y,Zg P (y.1.at (f y).1 (f y).2.1) (f y).2.2.1:=fun y=>(next y).choose_spec
 let seq:Nat ->{y:St // J y/\C P F y/\¬Way P F y}:=fun n=>Nat.rec ⟨x,hj,hc,hw⟩ (fun _ y=>(f y).2.2) n
 let t:Nat->Tape:=fun n=>(f (seq n)).1
 let d:Nat->Nat:=fun n=>(f (seq n)).2.1
 have hgo:∀n,Zg P ((seq n).1.at (t n) (d n)) (seq (n+1)).1:=fun n=>hf (seq n)
 let k:Nat->Nat:=fun n=>Nat.rec 0 (fun n k=>k +((seq (n+1)).1.V.drawn-d n)) n
 have hk:∀n,k (n+1)=k n +((seq (n+1)).1.V.drawn-d n):=fun n=>rfl
 have hmono:∀n m,n<=m->k n<=k m:=by
  intro n m h
  induction h with
  | refl=>exact Am0 _
  | step _ ih=>exact Am1 ih (by rw[hk];omega)
 have huniq:∀n m i,k n<=i->i<k (n+1)->k m<=i->i<k (m+1)->n=m:=by
  intro n m i h1 h2 h3 h4
  rcases Aqi n m with h|h|h
  ·have:=hmono (n+1) m h
   omega
  ·exact h
  ·have:=hmono (m+1) n h
   omega
 let T:Tape:=fun i q=>open Classical in if h:∃n,k n<=i/\i<k (n+1)then t h.choose (d h.choose +(i-k h.choose)) q else 0
 have hT:∀n i q,k n<=i->i<k (n+1)->T i q=t n (d n +(i-k n)) q:=by
  intro n i q h1 h2;have h:∃n,k n<=i/\i<k (n+1):=⟨n,h1,h2⟩;have e:h.choose=n:=huniq _ _ i h.choose_spec.1 h.choose_spec.2 h1 h2
  show(open Classical in if h:∃n,k n<=i/\i<k (n+1)then t h.choose (d h.choose +(i-k h.choose)) q else 0)=_
  rw[dif_pos h,e]
 have main:∀z,Rch P F z->∀n,z=(seq n).1.at T (k n)->False:=by
  intro z h
  induction h with
  | @fin z h =>
    intro n e;subst e
    refine(seq n).2.2.2 (.fin ?_)
    have:=K.fin _ (seq n).1.V.tape (seq n).1.V.drawn (K.tape _ T (k n) (seq n).2.1) h
    exact this
  | @step z z' h _ ih =>
    intro n e;subst e;have hg:=hgo n;have hp:=hg.Ks;have hj0:=K.tape _ (t n) (d n) (seq n).2.1;obtain⟨es,hg⟩:=hg
    have hA:Ed T (d n) (k n) (seq (n+1)).1.V.drawn ((seq n).1.at (t n) (d n)).V:=by
     refine⟨Am0 _,fun m q h1 h2=>?_⟩
     have h1:d n<=m:=h1
     show T (m-d n+k n) q=t n m q
     rw[hT n _ q (by omega) (by rw[hk];omega)]
     congr 1
     omega
    obtain⟨⟨g1,g2⟩,g3⟩:=K.loc _ hj0 hp T (d n) (k n) _ hA _ _ _ _ hg;have g1:d n <=(seq (n+1)).1.V.drawn:=g1
    have e1:({ (seq n).1.at (t n) (d n)with V:=Dk T (d n) (k n) ((seq n).1.at (t n) (d n)).V }:St)=(seq n).1.at T (k n):=by
     simp[St.at,Dk]
    have g4:=g3 (Am0 _);rw[e1]at g4
    have e2:z'=(seq (n+1)).1.at T (k (n+1)):=by
     refine h.inj ⟨es,?_⟩
     rw[g4]
     have e3:(seq (n+1)).1.V.drawn-d n+k n=k (n+1):=by
      rw[hk];omega
     simp only[St.at,Dk,e3]
    exact ih (n+1) e2
 exact main _ (hc T 0) 0 rfl
theorem Ad2 (w:World):∃o w1,step P (lone (wall P) [] w)=.ended o w1:=⟨_,_,step_lone_ended (o:=_) (w':=w) (by rfl)⟩
theorem A5g (chain:List PanicEntry)(w:World):∃o w1,step P (lone ((wall P).raise chain) [] w)=.ended o w1:=⟨_,_,step_lone_ended (o:=_) (w':=w) (by rfl)⟩
theorem A1q {x:St}(h:Vl x):(∃o w,step P (lone x.fr [wall P] x.V)=.ended o w)\/∃fr w o w1,step P (lone x.fr [wall P] x.V)=.next (lone fr [] w)/\step P (lone fr [] w)=.ended o w1:=by
 have e:=Ac0 (P:=P) h;unfold sg at e;rw[h.1]at e;have e:stepG P true { frame:=x.fr,callers:=[wall P],status:=.running,dying:=none } x.V=unwind P true x.fr [wall P] none x.V:=e
 have ended:∀{o:Outcome} {w:World} {es:Array Event},unwind P true x.fr [wall P] none x.V=.ended o w es->∃o w,step P (lone x.fr [wall P] x.V)=.ended o w:=fun{o w es} k =>
  ⟨o,w,step_lone_ended (by rw[e,k];rfl)⟩
 have gone:∀{fr:Frame} {w:World} {es:Array Event},unwind P true x.fr [wall P] none x.V=.go (G fr []) w es->step P (lone x.fr [wall P] x.V)=.next (lone fr [] w):=fun{fr w es} k =>
  step_lone_go (by rw[e,k];rfl)
 have ret:∀(v:Value) (w1:World),∃fr o w2,doReturn P true x.fr [wall P] none v w1=.go (G fr []) w1/\step P (lone fr [] w1)=.ended o w2:=by
  intro v w1;unfold doReturn;dsimp only;obtain⟨o,w2,h2⟩:=Ad2 (P:=P) w1
  cases hk:x.fr.kind<;>exact⟨wall P,o,w2,rfl,h2⟩
 generalize hu:unwind P true x.fr [wall P] none x.V=r at ended gone;unfold unwind at hu;rw[h.2.2]at hu;dsimp only at hu
 split at hu
 ·exact absurd ‹_› h.2.1
 ·split at hu
  ·exact .inl (ended hu.symm)
  ·rename_i chain _ _
   obtain⟨o,w2,h2⟩:=A5g (P:=P) chain x.V
   exact .inr ⟨_,_,o,w2,gone hu.symm,h2⟩
 ·split at hu
  ·obtain⟨fr,o,w2,h2,h3⟩:=ret (x.fr.tmps.getD 0 undef) x.V;rw[h2]at hu
   exact .inr ⟨_,_,o,w2,gone hu.symm,h3⟩
  ·split at hu
   ·rename_i v w1 _
    obtain⟨fr,o,w2,h2,h3⟩:=ret v w1;rw[h2]at hu
    exact .inr ⟨_,_,o,w2,gone hu.symm,h3⟩
   ·exact .inl (ended hu.symm)
   ·exact .inl (ended hu.symm)
theorem X8 (K:Vk P F J){z:St}(hf:F z):∀(n:Nat) (x:St),J x->runN P n (lone x.fr (x.cs++[wall P]) x.V)=.next (lone z.fr (z.cs++[wall P]) z.V)->Rch P F x:=by
 intro n
 induction n with
 | zero =>
   intro x _ h;simp only[runN]at h;injection h with h
   injection h with h1 h2 _
   have h2:(#[{ frame:=x.fr,callers:=x.cs++[wall P],status:=.running,dying:=none }]:Array Goroutine)=#[{ frame:=z.fr,callers:=z.cs++[wall P],status:=.running,dying:=none }]:=h2;simp only[Array.mk.injEq,List.cons.injEq,Goroutine.mk.injEq,and_true]at h2;obtain⟨a,b,c⟩:=x;obtain⟨a',b',c'⟩:=z;dsimp only at h1 h2;obtain⟨rfl,h3⟩:=h2;subst h1;have h3:=Anr h3;subst h3
   exact .fin hf
 | succ n ih =>
   intro x hj h;simp only[runN]at h
   by_cases hp:Vl x
   ·rw[hp.1]at h
    rcases A1q (P:=P) hp with⟨o,w,e⟩ |⟨fr1,w,o,w1,e1,e2⟩
    ·rw[Ant,e]at h
     cases h
    ·rw[Ant,e1]at h;dsimp only at h
     cases n with
     | zero =>
       simp only[runN]at h;injection h with h
       injection h with _ h2 _
       have h2:(#[{ frame:=fr1,callers:=[],status:=.running,dying:=none }]:Array Goroutine)=#[{ frame:=z.fr,callers:=z.cs++[wall P],status:=.running,dying:=none }]:=h2;simp at h2
     | succ n =>
       simp only[runN,e2]at h
       cases h
   ·rcases K.step x hj hp with⟨x',⟨es,g⟩,hj'⟩ |⟨o,w,es,e⟩
    ·have:step P (lone x.fr (x.cs++[wall P]) x.V)=.next (lone x'.fr (x'.cs++[wall P]) x'.V):=step_lone_go (by
      have g:stepG P true { frame:=x.fr,callers:=x.cs++[wall P],status:=.running,dying:=none } x.V=_:=g;rw[g];rfl)
     rw[this]at h
     exact .step ⟨es,g⟩ (ih x' hj' h)
    ·have:step P (lone x.fr (x.cs++[wall P]) x.V)=.ended o w:=step_lone_ended (by
      have e:stepG P true { frame:=x.fr,callers:=x.cs++[wall P],status:=.running,dying:=none } x.V=_:=e;rw[e];rfl)
     rw[this]at h
     cases h
def only (Q:Value->World->Prop):Ending->World->Prop
 | .returned v,w=>Q v w
 | _,_=>False
end
end Bar
end Go.Proofs.YtjaehldnlamgkaaGreatDoor
section
namespace Go.Proofs.YtjaehldnlamgkaaGreatDoor.Bar
open Go.Conc Tl Lr
theorem A34 {X:Cx}{B:Lk}{V W:World}(h:WR X B V W)(τ:Tape)(d:Nat):WR X B { V with tape:=τ,drawn:=d } { W with tape:=τ,drawn:=d } :=
 ⟨rfl,rfl,h.os,h.output,h.fn,h.inj,h.G8,h.live,h.Hj,h.dead,h.Vv,h.Qo,h.low,h.nV,h.nW⟩
def JL (X:Cx)(x:St):Prop:=∃B W fr' cs',WR X B x.V W/\Dj X B x.fr fr'/\J7 X B x.cs cs' /\(Cb x.fr x.cs).1=none/\Bq (Cb x.fr x.cs).2 []
end Go.Proofs.YtjaehldnlamgkaaGreatDoor.Bar
namespace Go.Proofs.YtjaehldnlamgkaaGreatDoor.Lr
open Bar
theorem Bq.wall {P:Program}{k:CallKind}{base:List Frame}(h:Bq k base):Bq k [wall P]:=h.imp id fun h=>⟨h.1,fun c r e v l q=>by cases e;cases q⟩
end Go.Proofs.YtjaehldnlamgkaaGreatDoor.Lr
namespace Go.Proofs.YtjaehldnlamgkaaGreatDoor.Bar
open Go.Conc Tl Lr
theorem We {x:St}(hp:¬Vl x)(hb:(Cb x.fr x.cs).1=none):x.cs=[]->x.fr.roundOf=none /\(x.fr.mode=.run\/x.fr.defers≠[]):=by
 intro e;rw[e]at hb
 refine⟨hb,?_⟩
 by_cases h:x.fr.mode=.run
 ·exact .inl h
 ·exact .inr fun h2=>hp ⟨e,h,h2⟩
section
variable {X : Cx} {P P' : Program} {Q : Value -> World -> Prop} (H : Whole X P P')
include H
theorem Gu {V W:World}{B:Lk}(hw:WR X B V W){fr fr':Frame}(hf:Dj X B fr fr'){fn:Func}(hfn:P.funcs[fr.fn]?=some fn){v:Value}(hv:(results fn fr.tmps).run P V=.ok v V) :
 (∀τ d,(results fn fr.tmps).run P { V with tape:=τ,drawn:=d }=.ok v { V with tape:=τ,drawn:=d }):=by
 intro τ d
 obtain⟨fn',h5,hres⟩:∃fn',P'.funcs[fr.fn]?=some fn'/\fn'.results=fn.results:=by
  rcases H.hF.funcs fr.fn with⟨e1,e2⟩ |⟨f1,f2,e1,e2,hn,hr,_⟩
  ·rw[hfn]at e1;cases e1
  ·rw[hfn]at e1;cases e1;exact⟨f2,e2,hr⟩
 rcases Fz (τ:=τ) (a:=V.drawn) (b:=d) (lim:=V.drawn) (Gx H.hF.toPRel hres hf.tmps) hw ⟨Am0 _,fun n q h1 h2=>by omega⟩with⟨v1,V1,es,B1,d1,e1,hm,hA1,e2,_⟩ |⟨v1,V1,es,e1,hm,e2⟩ |⟨h,V1,es,e1,hn⟩
 ·rw[Sem.runT_eq,hv]at e1;injection e1 with e1 _
  injection e1 with e1 e3
  subst e1 e3;have:=e2 (Am0 _);rw[Sem.runT_eq]at this;have:=congrArg Prod.fst this;dsimp only at this;simp only[Dk,Nat.sub_self,Aqr]at this
  exact this
 ·rw[Sem.runT_eq,hv]at e1;injection e1 with e1 _
  cases e1
 ·rw[Sem.runT_eq,hv]at e1;injection e1 with e1 _
  cases e1
theorem A19 {F:St->Prop}(hT:∀f,¬X.T f)(hF:∀x τ d,JL X x->F x->F (x.at τ d)):Vk P F (JL X) where
 tape x τ d:=fun⟨B,W,fr',cs',h1,h2,h3,h4⟩=>⟨B,{ W with tape:=τ,drawn:=d },fr',cs',A34 h1 τ d,h2,h3,h4⟩
 step x:=by
  rintro⟨B,W,fr',cs',hw,hf,hc,hbot⟩ hp;have hb:=We hp hbot.1;obtain⟨h1,h2⟩:=Z5 H hw (base:=[wall P]) (base':=[]) hf hc ⟨hbot.2.wall,hbot.2⟩ hb true true
  rcases h2 with⟨fr1,cs1,V1,es,e⟩|h2
  ·obtain⟨c1,c1',fr1',B',W1,n,rfl,e2,hx,hw1,hn,hst⟩:=h1 _ _ _ _ e;have hbt:=U6 H hw (base:=[wall P]) hf hc hbot.2.wall hb true _ _ _ _ e
   refine .inl ⟨⟨fr1,c1,V1⟩,⟨es,e⟩,?_⟩
   rcases hst with⟨g1,g2⟩ |⟨f,p,p',k,ht,_⟩
   ·exact⟨B',W1,fr1',c1',hw1,g1,g2,(by rw[hbt];exact hbot)⟩
   ·exact absurd ht.1 (hT f)
  ·exact .inr h2
 loc x:=by
  rintro⟨B,W,fr',cs',hw,hf,hc,hbot⟩ hp τ a b lim hA
  exact Af7 H hw hA (base:=[wall P]) hf hc (We hp hbot.1) true
 fin:=hF
theorem A7l (hQ:∀v w τ d,Q v w->Q v { w with tape:=τ,drawn:=d }):∀x τ d,JL X x->Fin P Q x->Fin P Q (x.at τ d):=by
 intro x τ d;rintro⟨B,W,fr',cs',hw,hf,hc,hbot⟩ ⟨h1,v,⟨h2,h3,h4,fn,h5,h6⟩,h7⟩
 exact⟨h1,v,⟨h2,h3,h4,fn,h5,Gu H hw hf h5 h6 τ d⟩,hQ _ _ _ _ h7⟩
end
end Go.Proofs.YtjaehldnlamgkaaGreatDoor.Bar
end
namespace Go.Proofs.YtjaehldnlamgkaaGreatDoor
namespace Bar
open Go.Conc Tl Lr
inductive Sub (P:Program):St->St->Prop
 | refl (x:St):Sub P x x
 | step {x x' y:St} (τ:Tape) (d:Nat):Zg P (x.at τ d) x'->Sub P x' y->Sub P x y
section
variable {P : Program} {F J : St -> Prop}
theorem Afh {M:St->Prop}(hp:∀x,F x->Vl x)(h0:∀x,F x->M x)(hs:∀x (g:Tape->Nat->St),(∀τ d,Zg P (x.at τ d) (g τ d)) ->(∀τ d,Way P F (g τ d)) ->(∀τ d y,Sub P (g τ d) y->M y)->M x){x:St}(h:Way P F x):∀y,Sub P x y->M y:=by
 induction h with
 | @fin x h =>
   intro y hy
   cases hy with
   | refl=>exact h0 x h
   | step τ d g _=>exact absurd (show Vl (x.at τ d)from hp x h) g.Ks
 | @go x g hg hw ih =>
   intro y hy
   cases hy with
   | refl=>exact hs x g hg hw ih
   | @step _ x' _ τ d g' k =>
     obtain rfl:=(hg τ d).inj g'
     exact ih τ d y k
end
end Bar
end Go.Proofs.YtjaehldnlamgkaaGreatDoor
