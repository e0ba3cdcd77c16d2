import Derived.Test.YtjaehldnlamgkaaGreatDoorXe5
import Derived.Test.YtjaehldnlamgkaaGreatDoorXe0
set_option linter.all false
set_option maxHeartbeats 16000000
set_option maxRecDepth 100000
namespace Go.Proofs.YtjaehldnlamgkaaGreatDoor
namespace Lr
open Go.Conc
section
variable {X : Cx} {P P' : Program} {B : Lk}
theorem Om (i:Nat){K:Oper->Prop}{l l':List Item}(h:Ri X K B l l'):(exitTo i l=none/\exitTo i l'=none)\/∃k k',exitTo i l=some k/\exitTo i l'=some k'/\Ri X K B k k':=by
 induction h with
 | nil=>exact .inl ⟨rfl,rfl⟩
 | cons hi hl ih =>
   cases hi with
   | inBlock j =>
     unfold exitTo
     by_cases e:(j == i)=true
     ·rw[Amo e,Amo e];exact .inr ⟨_,_,rfl,rfl,hl⟩
     ·rw[Amd e,Amd e];exact ih
   | _=>exact ih
theorem Ab {V W:World}(hw:WR X B V W){base base':List Frame}{fr fr':Frame}{cs cs':List Frame}(hf:Dj X B fr fr')(hc:J7 X B cs cs') :
 Ee X P P' B V W base base' (.go (G fr (cs++base)) V) (.go (G fr' (cs'++base')) W):=by
 refine⟨?_,.inl ⟨_,_,_,_,rfl⟩⟩
 rintro fr1 csx V1 es he
 cases he
 exact⟨cs,cs',fr',B,W,#[],rfl,rfl,Ext.refl ..,hw,A39.nil,.inl ⟨hf,hc⟩⟩
theorem Fg {V W:World}{base base':List Frame}{o:Outcome}{w:World}{es:Array Event}{r':GStep}:Ee X P P' B V W base base' (.ended o w es) r':=Mr ⟨_,_,_,rfl⟩
theorem Dj.Bz {fr fr':Frame}(h:Dj X B fr fr'){l l':List Item}(k:Ri X (Kr X fr.roundOf) B l l'):Dj X B { fr with todo:=l } { fr' with todo:=l' }:=⟨h.fn,h.tmps,k,h.defers,h.mode,h.kind,h.roundOf⟩
theorem Dj.Ue {fr fr':Frame}(h:Dj X B fr fr'){m m':FrameMode}(k:MoR X B m m'):Dj X B { fr with mode:=m } { fr' with mode:=m' }:=⟨h.fn,h.tmps,h.todo,h.defers,k,h.kind,h.roundOf⟩
theorem Xv {l l':List PanicEntry}(h:Zk X B l l'):(l.dropWhile (!·.goexit)=[]/\l'.dropWhile (!·.goexit)=[])\/∃e m e' m',l.dropWhile (!·.goexit)=e :: m/\l'.dropWhile (!·.goexit)=e' :: m'/\Zk X B (e :: m) (e' :: m'):=by
 induction h with
 | nil=>exact .inl ⟨rfl,rfl⟩
 | @cons v v' r g l l' hv hl ih =>
   cases g with
   | true=>exact .inr ⟨_,_,_,_,rfl,rfl,.cons r true hv hl⟩
   | false=>simpa [List.dropWhile]using ih
theorem Jw {V W:World}(hw:WR X B V W){base base':List Frame}{fr fr':Frame}{c c':Frame}{cs cs':List Frame}(hf:Dj X B fr fr')(hcc:Dj X B c c')(hc:J7 X B cs cs'){v v':Value}(hv:VR X B v v')(m m':Bool) :
 Ee X P P' B V W base base' (doReturn P m fr (c :: cs++base) none v V) (doReturn P' m' fr' (c' :: cs'++base') none v' W):=by
 unfold doReturn;rw[An9,An9];dsimp only;rw[hf.kind]
 cases fr.kind with
 | normal=>exact Ab hw (hcc.finish hv) hc
 | wrapped=>exact Ab hw (hcc.finish hv) hc
 | early=>exact Ab hw hcc hc
 | _ =>
   dsimp only
   refine Ab hw ?_ hc
   have hm:=hcc.mode
   cases hcm:c.mode with
   | run =>
     rw[hcm]at hm
     cases hcm':c'.mode<;>rw[hcm']at hm<;>cases hm
     exact hcc
   | returning =>
     rw[hcm]at hm
     cases hcm':c'.mode<;>rw[hcm']at hm<;>cases hm
     exact hcc
   | panicking l =>
     rw[hcm]at hm
     cases hcm':c'.mode<;>rw[hcm']at hm<;>cases hm
     rename_i l' hl
     cases hl with
     | nil=>exact hcc
     | cons r g hv hl =>
       cases r with
       | false=>exact hcc
       | true =>
         dsimp only
         rcases Xv hl with⟨e1,e2⟩ |⟨e,m,e',m',e1,e2,e3⟩
         ·rw[e1,e2];exact hcc.Ue .returning
         ·rw[e1,e2];exact hcc.Ue (.panicking e3)
theorem Is {α β:Type}{R:Lk->α->β->Prop}{s:Sem α}{s':Sem β}(hs:SR X P P' R B s s'){V W:World}(hw:WR X B V W) :
 (∃a V1 B1 W1 b n,s.run P V=.ok a V1 /\(∀es,s'.runT P' W es=(.ok b W1,es++n))/\Ext X B V W B1 V1 W1/\WR X B1 V1 W1/\R B1 a b/\G2 X B1 n) \/
 (∃v V1 B1 W1 v' n,s.run P V=.halt (.panic v) V1 /\(∀es,s'.runT P' W es=(.halt (.panic v') W1,es++n))/\Ext X B V W B1 V1 W1/\WR X B1 V1 W1/\VR X B1 v v'/\G2 X B1 n) \/
 ∃h V1,s.run P V=.halt h V1/\Jo h:=by
 have:=(hs V W hw).2;generalize s.run P V=r at this
 match r,this with
 | .ok a V',⟨B',W',b,n,h1,h2,h3,h4,h5⟩=>exact .inl ⟨a,V',B',W',b,n,rfl,h3,h1,h2,h4,h5⟩
 | .halt x V',k =>
   rcases F8 x with⟨v,rfl⟩|hp
   ·obtain⟨B',W',v',n,h1,h2,h3,h4,h5⟩:=k
    exact .inr (.inl ⟨v,V',B',W',v',n,rfl,h3,h1,h2,h4,h5⟩)
   ·exact .inr (.inr ⟨x,V',rfl,Gd hp k⟩)
theorem Bv {V W V1 W1:World}{B1:Lk}{base base':List Frame}{a a':GStep}(h:Ee X P P' B1 V1 W1 base base' a a')(hx:Ext X B V W B1 V1 W1){n:Array Event}(hn:G2 X B1 n)(es:Array Event)(fn:FuncId) :
 Ee X P P' B V W base base' (GStep.after es a) (GStep.after (seen P' fn n) a'):=by
 obtain⟨h,ht⟩:=h
 refine⟨?_,ht.elim (fun⟨f,c,v,e,h⟩=>.inl ⟨f,c,v,es++e,by rw[h];rfl⟩) (fun⟨o,w,e,h⟩=>.inr ⟨o,w,es++e,by rw[h];rfl⟩)⟩
 intro fr1 csx V2 e1 he;obtain⟨es2,he,_⟩:=Hy he;obtain⟨c1,c1',fr1',B',W2,m,rfl,rfl,h1,h2,h3,h4⟩:=h _ _ _ _ he
 refine⟨c1,c1',fr1',B',W2,seen P' fn n++m,rfl,rfl,hx.trans h1,h2,fun e x=>?_,h4⟩
 rcases Array.mem_append.1 x with x|x
 ·have:=(hn.seen (P':=P') fn) e x
  exact⟨this.1.mono h1.le,this.2⟩
 ·exact h3 e x
theorem Cd {V W:World}{base base':List Frame}{a r':GStep}{es:Array Event}(h:∃o w es,a=.ended o w es):Ee X P P' B V W base base' (GStep.after es a) r' :=
 Mr (let ⟨o,w,e,h⟩:=h;⟨o,w,es++e,by rw[h];rfl⟩)
theorem Iy {l l':Nat}(k:B l l'):SR X P P' (fun B' r r'=>LpR X B' r r') B (Instr.getLoop l) (Instr.getLoop l'):=by
 unfold Instr.getLoop
 refine SR.bind (SR.getObj k) fun B1 l1 o o' ho=>?_
 cases ho<;>first
  | exact SR.stuck
  | exact SR.pure (by assumption)
theorem LpR.with {r r':Loop}(h:LpR X B r r')(st:LoopState)(p:Option Code)(hp:∀c,p=some c->∀K,Mw X K c c):LpR X B { r with state:=st,pending:=p } { r' with state:=st,pending:=p } :=
 ⟨rfl,rfl,hp,h.fn,h.tmps,h.params,h.assign,h.body,h.defers⟩
theorem Qc {l l':Nat}(k:B l l')(j:Option Code)(hj:∀c,j=some c->∀K,Mw X K c c):SR X P P' (Ac X) B (Instr.endRound l j) (Instr.endRound l' j):=by
 unfold Instr.endRound
 refine SR.bind (Iy k) fun B1 l1 r r' hr=>?_
 exact SR.bind (SR.setObj (l1 _ _ k) (.loop (hr.with _ _ hj))) fun B2 l2 _ _ _=>SR.pure (.bool _)
theorem U0 (hP:PRel X P P'){l l':Nat}(k:B l l'):SR X P P' (fun _ (c c':Option Code)=>c'=c/\∀x,c=some x->∀K,Mw X K x x) B (Instr.endLoop l) (Instr.endLoop l'):=by
 unfold Instr.endLoop
 refine SR.bind (Iy k) fun B1 l1 r r' hr=>?_
 rw[hr.state]
 refine SR.ite (fun _=>Fx hP _) (fun _=>?_)
 exact SR.bind (SR.setObj (l1 _ _ k) (.loop (by rw[hr.pending];exact hr.with _ _ hr.pok))) fun B2 l2 _ _ _=>SR.pure ⟨hr.pending,hr.pok⟩
theorem Hq (hP:PRel X P P'){l l':Nat}(k:B l l'):SR X P P' Ql B (Instr.beginRound l) (Instr.beginRound l'):=by
 unfold Instr.beginRound
 refine SR.bind (Iy k) fun B1 l1 r r' hr=>?_
 refine SR.bind (SR.setObj (l1 _ _ k) (.loop (by rw[hr.pending];exact hr.with _ _ hr.pok))) fun B2 l2 _ _ _=>?_
 rw[hr.state]
 cases r.state<;>first
  | exact SR.pure trivial
  | exact SR.runtimePanic hP (e:=.error _) trivial
theorem Iw (fn:FuncId){t t':Array Value}(ht:AR X B t t')(ps:Array Tmp){a b a' b':Code}(ha:CdN X a a')(hb:CdN X b b'){o o':Option Nat}(ho:OnR B o o') :
 SR X P P' (fun B' (x x':Nat×List Deferred)=>B' x.1 x'.1/\Rf X B' x.2 x'.2) B (Instr.enterLoop fn t ps a b o) (Instr.enterLoop fn t' ps a' b' o'):=by
 unfold Instr.enterLoop
 cases ho with
 | none =>
   dsimp only
   refine SR.bind (SR.newObj (.A0e .nil)) fun B1 l1 r r' hr=>?_
   refine SR.bind (R:=fun B' (x x':Nat×List Deferred)=>B' x.1 x'.1/\Rf X B' x.2 x'.2) (SR.pure ⟨hr.1,.cons (.inr ⟨_,rfl⟩) ⟨.collected hr.1,AR.nil⟩ .nil⟩) ?_
   rintro B2 l2 ⟨d,m⟩ ⟨d',m'⟩ ⟨h1,h2⟩
   refine SR.bind (SR.newObj (.loop ⟨rfl,rfl,fun c e=>(by cases e),rfl,((ht.mono l1).mono l2),rfl,ha,hb,h1⟩)) fun B3 l3 q q' hq=>SR.pure ⟨hq.1,h2.mono l3⟩
 | some k =>
   dsimp only
   refine SR.bind (Iy k) fun B1 l1 r r' hr=>?_
   refine SR.bind (R:=fun B' (x x':Nat×List Deferred)=>B' x.1 x'.1/\Rf X B' x.2 x'.2) (SR.pure ⟨hr.defers,.nil⟩) ?_
   rintro B2 l2 ⟨d,m⟩ ⟨d',m'⟩ ⟨h1,h2⟩
   refine SR.bind (SR.newObj (.loop ⟨rfl,rfl,fun c e=>(by cases e),rfl,((ht.mono l1).mono l2),rfl,ha,hb,h1⟩)) fun B3 l3 q q' hq=>SR.pure ⟨hq.1,h2.mono l3⟩
theorem Jg {l l':Nat}(k:B l l'):SR X P P' (fun B' d d'=>Rf X B' d d') B (Instr.takeDeferred l) (Instr.takeDeferred l'):=by
 unfold Instr.takeDeferred
 refine SR.bind (SR.getObj k) fun B1 l1 o o' ho=>?_
 cases ho<;>first
  | exact SR.stuck
  | skip
 rename_i hd
 exact SR.bind (SR.setObj (l1 _ _ k) .A0d) fun B2 l2 _ _ _=>SR.pure (hd.mono l2)
theorem U4 {ι:Type}{f f':ι->Sem Value}:∀(l:List ι) {B:Lk},(∀x∈l,∀B',Le B B'->SR X P P' (Ac X) B' (f x) (f' x))->SR X P P' (fun B' v v'=>LR X B' v v') B (l.mapM f) (l.mapM f')
 | [],_,_=>by simp only[List.mapM_nil];exact SR.pure .nil
 | x :: l,B,h=>by
   simp only[List.mapM_cons]
   refine SR.bind (h x (by simp) B (Le.refl _)) fun B1 l1 v v' hv=>?_
   refine SR.bind (U4 l fun y hy B' hl=>h y (by simp[hy]) B' (l1.trans hl)) fun B2 l2 vs vs' hvs=>?_
   exact SR.pure (.cons (hv.mono l2) hvs)
theorem LR.arr:∀{l l':List Value},LR X B l l'->AR X B l.toArray l'.toArray:=by
 intro l l' h
 refine⟨?_,?_⟩
 ·simp only[Aoh]
  induction h with
  | nil=>rfl
  | cons _ _ ih=>simp[ih]
 ·induction h with
  | nil=>intro i v v' a _;simp at a
  | cons h1 _ ih =>
    intro i v v' a b
    cases i with
    | zero=>simp at a b;exact a▸b▸h1
    | succ i=>exact ih i v v' (by simpa using a) (by simpa using b)
theorem Gx (hP:PRel X P P'){fn fn':Func}(he:fn'.results=fn.results){t t':Array Value}(ht:AR X B t t'):SR X P P' (Ac X) B (results fn t) (results fn' t'):=by
 unfold results;rw[he,Aqh,Aqh]
 refine SR.bind (R:=Oa X) (SR.map (U4 fn.results.toList fun x _ B' hl=>?_) fun B1 _ a b h=>LR.arr h) ?_
 ·cases x with
  | tmp i=>exact SR.pure ((ht.mono hl).getD i Du)
  | cell a ty=>exact SR.bind (SR.asAddr hP ((ht.mono hl).getD a Du)) fun B2 l2 q q' hq=>SR.loadVar hP hq ty
 ·intro B1 l1 vs vs' hvs
  refine SR.pure ?_
  by_cases h:vs.size=1
  ·have h':vs'.size=1:=hvs.1▸h;rw[dif_pos h,dif_pos h']
   exact hvs.2 0 _ _ (Am6 (by omega)) (Am6 (by omega))
  ·have h':¬vs'.size=1:=hvs.1▸h;rw[dif_neg h,dif_neg h']
   exact AR.tuple hvs
end
end Lr
namespace Lr
open Go.Conc
theorem I9 {P:Program}{m:Bool}{fr:Frame}{cs:List Frame}{w:World}(h:fr.mode=.run):stepG P m (G fr cs) w=stepG.exec P m true fr cs none w:=by
 unfold stepG G;dsimp only;rw[h]
theorem Ck {P:Program}{m:Bool}{fr:Frame}{cs:List Frame}{w:World}(h:fr.mode≠.run):stepG P m (G fr cs) w=unwind P m fr cs none w:=by
 unfold stepG G;dsimp only
 cases hm:fr.mode<;>first|exact absurd hm h|rfl
structure Whole (X:Cx)(P P':Program):Prop where
 hF:A3a X P P'
 hM:Agh X P P'
 hK:∀o,X.K o->Agi X P o
 hG:∀g,X.G g->¬X.D g/\X.L g=0
section
variable {X : Cx} {P P' : Program} {B : Lk} (H : Whole X P P')
theorem Sw {V W:World}(hw:WR X B V W){base base':List Frame}{fr fr':Frame}{cs cs':List Frame}(hf:Dj X B fr fr')(hc:J7 X B cs cs')(hb:cs=[]->fr.roundOf=none)(m m':Bool)(j:Option Code)(hj:∀c,j=some c->∀K,Mw X K c c) :
 Ee X P P' B V W base base'
  (match fr.roundOf with
   | none=>if(match (generalizing:=false) j with|none=>true|some .ret=>true|_=>false)=true then GStep.go (G { fr with mode:=.returning } (cs++base)) V else .ended (.stuck "exit, goto: no such block or label" (fr.pos P)) V
   | some l=>match (Instr.endRound l j).runT P V #[]with
     | (r,es)=>GStep.after (seen P fr.fn es) (match r with
       | .ok v w=>doReturn P m fr (cs++base) none v w
       | .halt _ w=>.ended (.stuck "range over a function: no such loop" (fr.pos P)) w))
  (match fr'.roundOf with
   | none=>if(match (generalizing:=false) j with|none=>true|some .ret=>true|_=>false)=true then GStep.go (G { fr' with mode:=.returning } (cs'++base')) W else .ended (.stuck "exit, goto: no such block or label" (fr'.pos P')) W
   | some l=>match (Instr.endRound l j).runT P' W #[]with
     | (r,es)=>GStep.after (seen P' fr'.fn es) (match r with
       | .ok v w=>doReturn P' m' fr' (cs'++base') none v w
       | .halt _ w=>.ended (.stuck "range over a function: no such loop" (fr'.pos P')) w)):=by
 have hr:=hf.roundOf
 cases hro:fr.roundOf with
 | none =>
   rw[hro]at hr
   cases hro':fr'.roundOf with
   | some _=>rw[hro']at hr;cases hr
   | none =>
     dsimp only;generalize (match (generalizing:=false) j with|none=>true|some .ret=>true|_=>false:Bool)=q
     cases q
     ·rw[Amd (by simp),Amd (by simp)];exact Fg
     ·rw[Amo rfl,Amo rfl]
      exact Ab hw ⟨hf.fn,hf.tmps,(by have q:=hf.todo;rw[hro]at q;exact q),hf.defers,.returning,hf.kind,.none⟩ hc
 | some l =>
   rw[hro]at hr
   cases hro':fr'.roundOf with
   | none=>rw[hro']at hr;cases hr
   | some l' =>
     rw[hro']at hr
     cases hr
     rename_i hl
     dsimp only
     cases hc with
     | nil=>rw[hb rfl]at hro;cases hro
     | cons hcc hc =>
       rcases Is (Qc hl j hj) hw with⟨a,V1,B1,W1,b,n,e1,e2,hx,hw1,hab,hn⟩ |⟨v,V1,B1,W1,v',n,e1,e2,hx,hw1,hab,hn⟩ |⟨h,V1,e1,hm⟩
       ·rw[Sem.runT_eq,e1,e2 #[],Ang]
        exact Bv (Jw hw1 (hf.mono hx.le) (hcc.mono hx.le) (hc.mono hx.le) hab m m') hx hn _ _
       ·rw[Sem.runT_eq,e1]
        exact Cd ⟨_,_,_,rfl⟩
       ·rw[Sem.runT_eq,e1]
        exact Cd ⟨_,_,_,rfl⟩
include H
theorem Aep {V W:World}(hw:WR X B V W){base base':List Frame}{fr fr':Frame}{cs cs':List Frame}(hf:Dj X B fr fr')(hc:J7 X B cs cs')(hbk:Bq (Cb fr cs).2 base/\Bq (Cb fr cs).2 base'){ops:Array Oper}{i:Nat}{rest:List Nat}{k k':List Item}
 (ht:fr.todo=.inRegion ops (i :: rest) :: k) (ht':fr'.todo=.inRegion ops (i :: rest) :: k') (hops:∀o∈ops,Kr X fr.roundOf o) :
 Ee X P P' B V W base base' (stepG.oper P true fr (cs++base) none V) (stepG.oper P' true fr' (cs'++base') none W):=by
 unfold stepG.oper Frame.oper?;rw[ht,ht'];dsimp only
 cases ho:ops[i]? with
 | none=>exact Fg
 | some o =>
   dsimp only;have hKo:=hops o (Amp ho);have hok:=H.hK o hKo.k;have hev:=hf.evR hw.G8 H.hG;have hr:=hf.roundOf
   cases hro:fr.roundOf with
   | none =>
     rw[hro]at hr
     cases hro':fr'.roundOf with
     | some _=>rw[hro']at hr;cases hr
     | none=>exact N8 H.hF hf hc hbk (Ey H.hF H.hM o hok hev fun f=>⟨rfl,rfl⟩) hw
   | some l =>
     rw[hro]at hr
     cases hro':fr'.roundOf with
     | none=>rw[hro']at hr;cases hr
     | some l' =>
       rw[hro']at hr
       cases hr
       rename_i hl
       cases hop:o.op with
       | defer c =>
         rw[hro]at hKo
         exact absurd hop (hKo.2 c)
       | _=>exact N8 H.hF hf hc hbk (Ey H.hF H.hM o hok hev fun f=>⟨rfl,rfl⟩) hw
theorem Adz {V W:World}(hw:WR X B V W){base base':List Frame}{fr fr':Frame}{cs cs':List Frame}(hf:Dj X B fr fr')(hc:J7 X B cs cs')(hbk:Bq (Cb fr cs).2 base/\Bq (Cb fr cs).2 base')(hb:cs=[]->fr.roundOf=none)(m m':Bool) :
 Ee X P P' B V W base base' (stepG.exec P m true fr (cs++base) none V) (stepG.exec P' m' true fr' (cs'++base') none W):=by
 have hP:=H.hF.toPRel;obtain⟨fn,tmps,todo,defers,mode,kind,ro⟩:=fr;obtain⟨fn',tmps',todo',defers',mode',kind',ro'⟩:=fr';have ht:=hf.todo;dsimp only at ht hb
 cases ht with
 | nil=>exact Sw hw hf hc hb m m' none fun c e=>by cases e
 | cons hi hk =>
  cases hi with
  | inBlock i =>
    unfold stepG.exec
    exact Ab hw (hf.Bz hk) hc
  | inScope hcd =>
    unfold stepG.exec
    exact Ab hw (hf.Bz hk) hc
  | inLoop hcd =>
    unfold stepG.exec
    exact Ab hw (hf.Bz (.cons (.code hcd) (.cons (.inLoop hcd) hk))) hc
  | inRangeFunc hl =>
    unfold stepG.exec
    exact Fg
  | beginRound =>
    unfold stepG.exec;have hr:=hf.roundOf;dsimp only
    refine N8 H.hF hf hc hbk ?_ hw
    dsimp only at hr
    cases hr with
    | none=>exact SR.C7
    | some hl=>exact SR.bind (Hq hP hl) fun _ _ _ _ _=>SR.pure .skip
  | endRangeFunc hl =>
    rename_i l l'
    unfold stepG.exec;dsimp only
    rcases Is (U0 hP hl) hw with⟨a,V1,B1,W1,b,n,e1,e2,hx,hw1,hab,hn⟩ |⟨v,V1,B1,W1,v',n,e1,e2,hx,hw1,hab,hn⟩ |⟨h,V1,e1,hm⟩
    ·rw[Sem.runT_eq,e1,e2 #[],Ang];obtain⟨rfl,hcd⟩:=hab
     refine Bv (Ab hw1 ((hf.mono hx.le).Bz ?_) (hc.mono hx.le)) hx hn _ _
     cases b with
     | none=>exact hk.mono hx.le
     | some c=>exact .cons (.code (hcd c rfl _)) (hk.mono hx.le)
    ·rw[Sem.runT_eq,e1,e2 #[],Ang]
     exact Bv (Ab hw1 ((hf.mono hx.le).raise (.cons _ _ hab .nil)) (hc.mono hx.le)) hx hn _ _
    ·rw[Sem.runT_eq,e1]
     cases h<;>first|exact hm.elim|exact Cd ⟨_,_,_,rfl⟩
  | inRegion ops l hops =>
    cases l with
    | nil =>
      unfold stepG.exec
      exact Ab hw (hf.Bz hk) hc
    | cons i rest =>
      have hy:yielded ops tmps'=yielded ops tmps:=by
       funext j
       unfold yielded
       cases ((ops[j]?).bind (·.dst))with
       | none=>rfl
       | some d =>
         rcases hf.tmps.get d with⟨v,v',e1,e2,hv⟩ |⟨e1,e2⟩
         ·simp only[Ao9,e1,e2]
          cases hv<;>rfl
         ·simp only[Ao9,e1,e2]
      have ho:=Aep H hw hf hc hbk (base:=base) (base':=base') rfl rfl hops;unfold stepG.exec;dsimp only;rw[hy]
      split
      ·exact ho
      ·exact Ab hw (hf.finish Du) hc
  | @code c c' hcd =>
    cases c with
    | skip =>
      obtain rfl:c'=.skip:=hcd;unfold stepG.exec
      exact Ab hw (hf.Bz hk) hc
    | label l =>
      obtain rfl:c'=.label l:=hcd;unfold stepG.exec
      exact Ab hw (hf.Bz hk) hc
    | ret =>
      obtain rfl:c'=.ret:=hcd;unfold stepG.exec
      exact Sw hw hf hc hb m m' (some .ret) fun c e K=>by cases e;rfl
    | seq a b =>
      obtain⟨a',b',rfl,h1,h2⟩:=hcd;unfold stepG.exec
      exact Ab hw (hf.Bz (.cons (.code h1) (.cons (.code h2) hk))) hc
    | cond o a b =>
      obtain⟨a',b',rfl,h0,h1,h2⟩:=hcd;have hv:=hf.evR hw.G8 H.hG o h0;unfold stepG.exec;dsimp only;generalize Frame.eval _ o=v at hv ⊢;generalize Frame.eval _ o=v' at hv ⊢
      cases hv<;>first
       | exact Fg
       | skip
      rename_i q
      cases q
      ·exact Ab hw (hf.Bz (.cons (.code h2) hk)) hc
      ·exact Ab hw (hf.Bz (.cons (.code h1) hk)) hc
    | block i a =>
      obtain⟨a',rfl,h1⟩:=hcd;unfold stepG.exec
      exact Ab hw (hf.Bz (.cons (.code h1) (.cons (.inBlock i) hk))) hc
    | loop a =>
      obtain⟨a',rfl,h1⟩:=hcd;unfold stepG.exec
      exact Ab hw (hf.Bz (.cons (.code h1) (.cons (.inLoop h1) hk))) hc
    | scope a =>
      obtain⟨a',rfl,h1⟩:=hcd;unfold stepG.exec
      exact Ab hw (hf.Bz (.cons (.code h1) (.cons (.inScope h1) hk))) hc
    | exit i =>
      obtain rfl:c'=.exit i:=hcd;unfold stepG.exec;dsimp only
      rcases Om i hk with⟨e1,e2⟩ |⟨q,q',e1,e2,hq⟩
      ·rw[e1,e2]
       exact Sw hw hf hc hb m m' (some (.exit i)) fun c e K=>by cases e;rfl
      ·rw[e1,e2]
       exact Ab hw (hf.Bz hq) hc
    | goto l=>exact hcd.elim
    | refuse why =>
      unfold stepG.exec
      exact Fg
    | region id ops d =>
      obtain⟨rfl,hcd⟩:=hcd;unfold stepG.exec;dsimp only
      cases d with
      | false=>exact Ab hw (hf.Bz (.cons (.inRegion ops _ hcd) hk)) hc
      | true =>
        have hfo:P'.follows .mixedOrders=P.follows .mixedOrders:=by rw[hP.Gb]
        obtain rfl:fn'=fn:=hf.fn;rw[hfo]
        rcases Is (SR.choose (X:=X) (P:=P) (P':=P') (B:=B) (.order fn' id)) hw with⟨a,V1,B1,W1,b,n,e1,e2,hx,hw1,hab,hn⟩ |⟨v,V1,B1,W1,v',n,e1,e2,hx,hw1,hab,hn⟩ |⟨h,V1,e1,hm⟩
        ·have e3:(Go.choose (.order fn' id)).run P' W=.ok b W1:=by
          have:=e2 #[];rw[Sem.runT_eq]at this
          exact congrArg Prod.fst this
         rw[e1,e3];obtain rfl:b=a:=hab;have:=Ab (P:=P) (P':=P') (base:=base) (base':=base') hw1 ((hf.mono hx.le).Bz (.cons (.inRegion ops (Region.schedule (P.follows .mixedOrders) ops b) hcd) (hk.mono hx.le))) (hc.mono hx.le)
         refine⟨?_,.inl ⟨_,_,_,_,rfl⟩⟩
         intro fr1 csx V2 e0 he;obtain⟨c1,c1',fr1',B',W2,m0,h3,h4,h5,h6,h7,h8⟩:=this.1 _ _ _ _ he
         exact⟨c1,c1',fr1',B',W2,m0,h3,h4,hx.trans h5,h6,h7,h8⟩
        ·rw[e1];exact Fg
        ·rw[e1];exact Fg
    | rangeFunc f ps a b =>
      obtain⟨a',b',rfl,h0,h1,h2⟩:=hcd;obtain rfl:fn'=fn:=hf.fn;unfold stepG.exec;dsimp only;have hev:=hf.evR hw.G8 H.hG f h0
      rcases Is (Iw (P:=P) (P':=P') fn' hf.tmps ps (h1.mono (NoD.mono fun _=>Kr.k)) (h2.mono (NoD.mono fun _=>Kr.k)) hf.roundOf) hw with⟨x,V1,B1,W1,y,n,e1,e2,hx,hw1,hab,hn⟩ |⟨v,V1,B1,W1,v',n,e1,e2,hx,hw1,hab,hn⟩ |⟨h,V1,e1,hm⟩
      ·dsimp only at e1 e2;rw[Sem.runT_eq,e1,e2 #[],Ang];obtain⟨l,mk⟩:=x;obtain⟨l',mk'⟩:=y;obtain⟨hl,hmk⟩:=hab;dsimp only at hl hmk ⊢;have hf1:=hf.mono hx.le;have hf2:Dj X B1 ⟨fn',tmps,.inRangeFunc l :: _,mk++defers,mode,kind,ro⟩ ⟨fn',tmps',.inRangeFunc l' :: _,mk'++defers',mode',kind',ro'⟩:=⟨rfl,hf1.tmps,.cons (.inRangeFunc hl) (hk.mono hx.le),hmk.append hf1.defers,hf1.mode,hf1.kind,hf1.roundOf⟩
       refine Bv (N8 H.hF hf2 (hc.mono hx.le) ((congrArg (fun z:Option Nat×CallKind=>Bq z.2 base/\Bq z.2 base') (Bu (fr:=⟨fn',tmps,.code (.rangeFunc f ps a b) :: _,defers,mode,kind,ro⟩) (fr1:=⟨fn',tmps,.inRangeFunc l :: _,mk++defers,mode,kind,ro⟩) rfl rfl cs)).mpr hbk) ?_ hw1) hx hn _ _
       have hev1:=hev.mono hx.le
       refine SR.bind (R:=fun B' d d'=>DfR X B' d d') ?_ fun B2 l2 d d' hd=>Fc H.hF H.hM hd.1 hd.2
       have hone:AR X B1 #[Value.func (.yield l) #[] #[]] #[Value.func (.yield l') #[] #[]]:=AR.one (.func (.yield _ _ hl) rfl (fun i v v' (a:(#[]:Array Value)[i]?=some v) _=>by simp at a) rfl (fun i v v' (a:(#[]:Array Value)[i]?=some v) _=>by simp at a))
       refine Mq ?_ ?_
       ·cases f<;>exact hev1
       ·simpa [Frame.eval]using hone
      ·dsimp only at e1;rw[Sem.runT_eq,e1]
       exact Cd ⟨_,_,_,rfl⟩
      ·dsimp only at e1;rw[Sem.runT_eq,e1]
       exact Cd ⟨_,_,_,rfl⟩
theorem Qn {V W:World}(hw:WR X B V W){base base':List Frame}{fr fr':Frame}{cs cs':List Frame}(hf:Dj X B fr fr')(hc:J7 X B cs cs'){d d':Deferred}(hd:DfR X B d d')(hdn:X.Dn) :
 Ee X P P' B V W base base' (callDeferred P fr (cs++base) none d V) (callDeferred P' fr' (cs'++base') none d' W):=by
 unfold callDeferred
 have hnil:(match d'.target with|.nil=>true|_=>false)=(match d.target with|.nil=>true|_=>false):=by
  have:=hd.1;generalize d.target=t at this ⊢;generalize d'.target=t' at this ⊢
  cases this<;>rfl
 have hmo:(match fr'.mode with|.panicking _=>true|_=>false)=(match fr.mode with|.panicking _=>true|_=>false):=by
  have:=hf.mode;generalize fr.mode=t at this ⊢;generalize fr'.mode=t' at this ⊢
  cases this<;>rfl
 generalize hq:((match d.target with|.nil=>true|_=>false) && (match fr.mode with|.panicking _=>true|_=>false))=q
 generalize hq':((match d'.target with|.nil=>true|_=>false) && (match fr'.mode with|.panicking _=>true|_=>false))=q'
 obtain rfl:q'=q:=by rw[<-hq',<-hq,hnil,hmo]
 cases q' with
 | true=>exact Fg
 | false =>
   rw[Amd (by simp),Amd (by simp)]
   rcases Is (Fc (z:=False) H.hF H.hM hd.1 hd.2) hw with⟨a,V1,B1,W1,b,n,e1,e2,hx,hw1,hab,hn⟩ |⟨v,V1,B1,W1,v',n,e1,e2,hx,hw1,hab,hn⟩ |⟨h,V1,e1,hm⟩
   ·rw[Sem.runT_eq,e1,e2 #[],Ang];have hf1:=hf.mono hx.le;have hc1:=hc.mono hx.le
    cases hab with
    | value _=>exact Bv (Ab hw1 hf1 hc1) hx hn _ _
    | skip=>exact Bv (Ab hw1 hf1 hc1) hx hn _ _
    | defer _ _=>exact Bv (Ab hw1 hf1 hc1) hx hn _ _
    | recover h _=>exact h.elim
    | enter f hcf har hp =>
      refine Bv ⟨?_,.inl ⟨_,_,_,_,rfl⟩⟩ hx hn _ _
      rintro fr1 csx V2 es he
      cases he
      exact⟨fr :: cs,fr' :: cs',_,B1,W1,#[],rfl,rfl,Ext.refl ..,hw1,A39.nil,A0g H.hF hcf (fun h=>(har h).1.elim) hp _ (fun h=>(har h).1.elim) (.cons hf1 hc1)⟩
    | @round l l' f p p' a b a' b' hl hp ha hb =>
      have hfr:Dj X B1 (Frame.round l f p a b .deferred) (Frame.round l' f p' a' b' .deferred):=⟨rfl,hp,.cons (.code ha) (.cons .beginRound (.cons (.code hb) .nil)),.nil,.run,rfl,.some hl⟩
      exact Bv (Ab (cs:=fr :: cs) (cs':=fr' :: cs') hw1 hfr (.cons hf1 hc1)) hx hn _ _
   ·rw[Sem.runT_eq,e1,e2 #[],Ang]
    exact Bv (Ab hw1 ((hf.mono hx.le).raise (.cons _ _ hab .nil)) (hc.mono hx.le)) hx hn _ _
   ·rw[Sem.runT_eq,e1]
    cases h with
    | unsupported u=>exact Cd ⟨_,_,_,rfl⟩
    | exit c=>exact Cd ⟨_,_,_,rfl⟩
    | stuck m=>exact Cd ⟨_,_,_,rfl⟩
    | _=>exact hm.elim
theorem A9m {V W:World}(hw:WR X B V W){base base':List Frame}{fr fr':Frame}{cs cs':List Frame}(hf:Dj X B fr fr')(hcs:J7 X B cs cs')(hb:cs=[]->fr.defers≠[])(m m':Bool) :
 Ee X P P' B V W base base' (unwind P m fr (cs++base) none V) (unwind P' m' fr' (cs'++base') none W):=by
 have hP:=H.hF.toPRel;have hd:=hf.defers;unfold unwind
 cases h1:fr.defers with
 | cons d ds =>
   rw[h1]at hd
   cases h2:fr'.defers with
   | nil=>rw[h2]at hd;cases hd
   | cons d' ds' =>
     rw[h2]at hd
     cases hd with
     | cons hq hdd hds =>
     obtain⟨t,p⟩:=d;obtain⟨t',p'⟩:=d';have hcd:=fun hdn=>Qn H hw (base:=base) (base':=base') (fr:={ fr with defers:=ds }) (fr':={ fr' with defers:=ds' }) ⟨hf.fn,hf.tmps,hf.todo,hds,hf.mode,hf.kind,hf.roundOf⟩ hcs hdd hdn
     obtain⟨ht,hp⟩:=hdd;dsimp only at ht hp
     cases ht with
     | fn _ _=>exact hcd (hq.resolve_right fun⟨_,h⟩=>by cases h)
     | nil=>exact hcd (hq.resolve_right fun⟨_,h⟩=>by cases h)
     | builtin _ _ _ _ _=>exact hcd (hq.resolve_right fun⟨_,h⟩=>by cases h)
     | collected hr =>
       dsimp only
       rcases Is (Jg (P:=P) (P':=P') hr) hw with⟨a,V1,B1,W1,b,n,e1,e2,hx,hw1,hab,hn⟩ |⟨v,V1,B1,W1,v',n,e1,e2,hx,hw1,hab,hn⟩ |⟨h,V1,e1,hm⟩
       ·rw[Sem.runT_eq,e1,e2 #[],Ang];have hf1:=hf.mono hx.le
        exact Bv (Ab (fr:={ fr with defers:=a++ds }) (fr':={ fr' with defers:=b++ds' }) (cs:=cs) (cs':=cs') hw1 ⟨hf1.fn,hf1.tmps,hf1.todo,hab.append (hds.mono hx.le),hf1.mode,hf1.kind,hf1.roundOf⟩ (hcs.mono hx.le)) hx hn _ _
       ·rw[Sem.runT_eq,e1]
        exact Cd ⟨_,_,_,rfl⟩
       ·rw[Sem.runT_eq,e1]
        exact Cd ⟨_,_,_,rfl⟩
 | nil =>
   rw[h1]at hd
   cases h2:fr'.defers with
   | cons _ _=>rw[h2]at hd;cases hd
   | nil =>
     cases hcs with
     | nil=>exact absurd h1 (hb rfl)
     | @cons c c' cs cs' hcc hc =>
     dsimp only;have hm:=hf.mode
     cases h3:fr.mode with
     | run=>exact Fg
     | panicking chain =>
       rw[h3]at hm
       cases h4:fr'.mode<;>rw[h4]at hm<;>cases hm
       rename_i chain' hch
       dsimp only
       have hcat:fr'.catches P'=fr.catches P:=by
        unfold Frame.catches;rw[hf.fn];have ht:=hf.todo;have hfs:=H.hF.funcs fr.fn
        rcases hfs with⟨e1,e2⟩ |⟨_,_,e1,e2,_⟩
        ·rw[e1,e2];generalize fr.todo=t at ht;generalize fr'.todo=t' at ht
         cases ht with
         | nil=>rfl
         | cons hi _=>cases hi<;>rfl
        ·rw[e1,e2]
       rw[hcat]
       split
       ·exact Fg
       ·exact Ab hw (hcc.raise hch) hc
     | returning =>
       rw[h3]at hm
       cases h4:fr'.mode<;>rw[h4]at hm<;>cases hm
       dsimp only;rw[hf.fn]
       rcases H.hF.funcs fr.fn with⟨e1,e2⟩ |⟨fn,fn',e1,e2,_,hres,_,_⟩
       ·rw[e1,e2]
        exact Jw hw hf hcc hc (hf.tmps.getD 0 Du) m m'
       ·rw[e1,e2];dsimp only
        rcases Is (Gx hP hres hf.tmps) hw with⟨a,V1,B1,W1,b,n,e1,e2,hx,hw1,hab,hn⟩ |⟨v,V1,B1,W1,v',n,e1,e2,hx,hw1,hab,hn⟩ |⟨h,V1,e1,hm⟩
        ·rw[Sem.runT_eq,e1,e2 #[],Ang]
         exact Bv (Jw hw1 (hf.mono hx.le) (hcc.mono hx.le) (hc.mono hx.le) hab m m') hx hn _ _
        ·rw[Sem.runT_eq,e1]
         exact Cd ⟨_,_,_,rfl⟩
        ·rw[Sem.runT_eq,e1]
         cases h<;>first|exact hm.elim|exact Cd ⟨_,_,_,rfl⟩
theorem Z5 {V W:World}(hw:WR X B V W){base base':List Frame}{fr fr':Frame}{cs cs':List Frame}(hf:Dj X B fr fr')(hc:J7 X B cs cs')(hbk:Bq (Cb fr cs).2 base/\Bq (Cb fr cs).2 base')(hb:cs=[]->fr.roundOf=none /\(fr.mode=.run\/fr.defers≠[]))(m m':Bool) :
 Ee X P P' B V W base base' (stepG P m (G fr (cs++base)) V) (stepG P' m' (G fr' (cs'++base')) W):=by
 by_cases hr:fr.mode=.run
 ·rw[I9 hr,I9 (hf.place.2 hr)]
  exact Adz H hw hf hc hbk (fun e=>(hb e).1) m m'
 ·rw[Ck hr,Ck fun e=>hr (hf.place.1 e)]
  exact A9m H hw hf hc (fun e=>(hb e).2.resolve_left hr) m m'
end
end Lr
namespace Tl
open Go.Conc
def Dk (τ:Tape)(a b:Nat)(w:World):World:={ w with tape:=τ,drawn:=w.drawn-a+b }
def Ed (τ:Tape)(a b lim:Nat)(w:World):Prop:=a<=w.drawn/\∀n q,w.drawn<=n->n<lim->τ (n-a+b) q=w.tape n q
def A8j {α:Type}:Result α->World
 | .ok _ w=>w
 | .halt _ w=>w
def Ak8 {α:Type}(f:World->World):Result α->Result α
 | .ok v w=>.ok v (f w)
 | .halt h w=>.halt h (f w)
section
variable {P : Program} {τ : Tape} {a b lim : Nat}
theorem Ed.on {w w':World}(h:Ed τ a b lim w)(hd:w.drawn<=w'.drawn)(ht:w'.tape=w.tape):Ed τ a b lim w' :=
 ⟨Am1 h.1 hd,fun n q h1 h2=>by rw[ht];exact h.2 n q (Am1 hd h1) h2⟩
theorem Aa1 {α:Type}(x:Ask α):∀w:World,w.drawn <=(w.ask x).2.drawn /\(w.ask x).2.tape=w.tape:=by
 induction x with
 | done v=>intro w;exact⟨Am0 _,rfl⟩
 | ask what range k ih =>
   intro w;unfold World.ask;dsimp only
   split
   ·exact ih 0 w
   ·have:=ih ((Question.extern what range).cut (w.tape w.drawn (.extern what range))) { w with drawn:=w.drawn+1 }
    exact⟨Am1 (Nat.le_succ _) this.1,this.2⟩
theorem Acv (c:Sys)(w:World):w.drawn <=(w.sys c).2.drawn /\(w.sys c).2.tape=w.tape:=by
 unfold World.sys;have:=Aa1 (Kernel.perform c w.os) w;generalize w.ask (Kernel.perform c w.os)=r at this;obtain⟨⟨x,os⟩,w1⟩:=r
 cases x<;>first
  | exact⟨Am0 _,rfl⟩
  | exact this
theorem Ub {w w':World}{at_ k:Addr}{u:TypeId}{v:Value}{q:Bool}{l:List Addr}(h:w.viewStore P at_ u k v q=.ok (w',l)):w'.tape=w.tape/\w'.drawn=w.drawn:=by
 unfold World.viewStore at h;simp only[bind,Except.bind,pure,Except.pure]at h
 repeat' (split at h)
 all_goals first
  |(cases h;done)
  |(injection h with h;injection h with h1 h2;subst h1;exact⟨rfl,rfl⟩)
theorem Lm {w w':World}{a:Addr}{v:Value}{q:Bool}{l:List Addr}(h:w.farStore P a v q=.ok (w',l)):w'.tape=w.tape/\w'.drawn=w.drawn:=by
 unfold World.farStore at h
 split at h
 ·split at h
  ·rename_i r hr
   obtain⟨w1,l1⟩:=r;injection h with h
   injection h with h1 h2
   subst h1
   exact Ub hr
  ·cases h
 ·cases h
theorem A1x {α:Type}(s:Sem α):∀(w:World) (es:Array Event),w.drawn <=(A8j (s.runT P w es).1).drawn /\(A8j (s.runT P w es).1).tape=w.tape:=by
 induction s with
 | pure v=>intro w es;exact⟨Am0 _,rfl⟩
 | halt h=>intro w es;exact⟨Am0 _,rfl⟩
 | load m a k ih =>
   intro w es;simp only[Sem.runT]
   split
   ·exact ih _ _ _
   ·split
    ·exact ih _ _ _
    ·exact⟨Am0 _,rfl⟩
 | store m a v k ih =>
   intro w es
   have key:∀(r:Result α×Array Event),(r=(.halt (.stuck "store: not the value of one cell") w,es)\/r=(match w.cell? a with
    | some _ =>
      if w.frozen? a then(.halt (.unsupported (.unsafePointer "a write to bytes that a string shares")) w,es)
      else k.runT P (w.setCell a v) (es.push ⟨.cell a,true,m == .atomic⟩)
    | none=>match w.farStore P a v (m == .atomic)with
      | .ok (w,touched)=>k.runT P w (es++touched.toArray.map (⟨.cell ·,true,m == .atomic⟩))
      | .error h=>(.halt h w,es)))->w.drawn <=(A8j r.1).drawn /\(A8j r.1).tape=w.tape:=by
    rintro r (rfl|rfl)
    ·exact⟨Am0 _,rfl⟩
    ·split
     ·split
      ·exact⟨Am0 _,rfl⟩
      ·exact ih (w.setCell a v) _
     ·split
      ·rename_i w1 l1 hf
       have h1:=Lm hf;have h2:=ih w1 (es++l1.toArray.map (⟨.cell ·,true,m == .atomic⟩))
       exact⟨h1.2▸h2.1,h2.2.trans h1.1⟩
      ·exact⟨Am0 _,rfl⟩
   refine key _ ?_
   cases v<;>first|exact .inl rfl|exact .inr rfl
 | new o k ih=>intro w es;exact ih _ { w with heap:=w.heap.push o } es
 | shape r k ih=>intro w es;exact ih _ w es
 | freeze a n k ih =>
   intro w es;have h:=ih (w.freeze a n) es
   have:(w.freeze a n).drawn=w.drawn /\(w.freeze a n).tape=w.tape:=by
    unfold World.freeze
    split<;>exact⟨rfl,rfl⟩
   rw[this.1,this.2]at h
   exact h
 | frozen a k ih=>intro w es;exact ih _ w es
 | getObj r k ih =>
   intro w es;simp only[Sem.runT]
   split
   ·exact⟨Am0 _,rfl⟩
   ·exact ih _ _ _
   ·exact⟨Am0 _,rfl⟩
 | setObj r o k ih =>
   intro w es;simp only[Sem.runT]
   split
   ·exact⟨Am0 _,rfl⟩
   ·exact ih { w with heap:=w.heap.setIfInBounds r o } _
   ·exact⟨Am0 _,rfl⟩
 | choose q k ih =>
   intro w es;simp only[Sem.runT]
   split
   ·exact ih _ _ _
   ·have:=ih (q.cut (w.tape w.drawn q)) { w with drawn:=w.drawn+1 } es
    exact⟨Am1 (Nat.le_succ _) this.1,this.2⟩
 | sys c k ih =>
   intro w es;have h1:=Acv c w;have h2:=ih (w.sys c).1 (w.sys c).2 (es.push ⟨.output,true,false⟩)
   exact⟨Am1 h1.1 h2.1,h2.2.trans h1.2⟩
 | program k ih=>intro w es;exact ih _ w es
 | mark m k ih=>intro w es;exact ih w _
theorem Vf (w:World)(at_ k:Addr)(u:TypeId)(v:Value)(q:Bool) :
 (Dk τ a b w).viewStore P at_ u k v q=match w.viewStore P at_ u k v q with
  | .ok (w',l)=>.ok (Dk τ a b w',l)
  | .error h=>.error h:=by
 unfold World.viewStore;rw[show(Dk τ a b w).seen P at_ u k q=w.seen P at_ u k q from rfl];generalize w.seen P at_ u k q=sn
 by_cases ht:(!tight P P.depth u)=true
 ·rw[Amo ht,Amo ht];rfl
 rw[Amd ht,Amd ht]
 cases sn with
 | error e=>rfl
 | ok y =>
   obtain⟨c,e,fz,first,like,cells⟩:=y
   cases hb:v.bytes? with
   | none=>rfl
   | some bytes =>
     dsimp only[bind,Except.bind,pure,Except.pure]
     by_cases hl:some bytes.length≠like.bytes?.map (·.length)
     ·rw[Amo hl,Amo hl];rfl
     rw[Amd hl,Amd hl]
     have key:∀fo:Except String (Array Value),(fo.bind fun c=>(Except.ok ({ Dk τ a b w with heap:=(Dk τ a b w).heap.setIfInBounds at_.block (.cells c e fz) },cells.map fun x=>({ block:=at_.block,off:=x.1 }:Addr)):Except String (World×List Addr))) =
      match (fo.bind fun c=>(Except.ok ({ w with heap:=w.heap.setIfInBounds at_.block (.cells c e fz) },cells.map fun x=>({ block:=at_.block,off:=x.1 }:Addr)):Except String (World×List Addr)))with
      | .ok (w',l)=>.ok (Dk τ a b w',l)
      | .error h=>.error h:=by
      intro fo
      cases fo<;>rfl
     exact key _
theorem Xz (w:World)(x:Addr)(v:Value)(q:Bool) :
 (Dk τ a b w).farStore P x v q=match w.farStore P x v q with
  | .ok (w',l)=>.ok (Dk τ a b w',l)
  | .error h=>.error h:=by
 unfold World.farStore;rw[show(Dk τ a b w).heap=w.heap from rfl]
 split
 ·rw[Vf]
  cases w.viewStore P _ _ x v q<;>rfl
 ·rfl
theorem A8m {α:Type}(s:Sem α):∀(w:World) (es:Array Event) (e:Event),e∈es->e∈(s.runT P w es).2:=by
 induction s with
 | pure v=>intro w es e h;exact h
 | halt x=>intro w es e h;exact h
 | load m a k ih =>
   intro w es e h;simp only[Sem.runT]
   split
   ·exact ih _ _ _ _ (by simp[h])
   ·split
    ·exact ih _ _ _ _ (by simp[h])
    ·exact h
 | store m a v k ih =>
   intro w es e h
   have key:∀(r:Result α×Array Event),(r=(.halt (.stuck "store: not the value of one cell") w,es)\/r=(match w.cell? a with
    | some _ =>
      if w.frozen? a then(.halt (.unsupported (.unsafePointer "a write to bytes that a string shares")) w,es)
      else k.runT P (w.setCell a v) (es.push ⟨.cell a,true,m == .atomic⟩)
    | none=>match w.farStore P a v (m == .atomic)with
      | .ok (w,touched)=>k.runT P w (es++touched.toArray.map (⟨.cell ·,true,m == .atomic⟩))
      | .error h=>(.halt h w,es)))->e∈r.2:=by
    rintro r (rfl|rfl)
    ·exact h
    ·split
     ·split
      ·exact h
      ·exact ih _ _ _ (by simp[h])
     ·split
      ·exact ih _ _ _ (by simp[h])
      ·exact h
   refine key _ ?_
   cases v<;>first|exact .inl rfl|exact .inr rfl
 | new o k ih=>intro w es e h;exact ih _ _ _ _ h
 | shape r k ih=>intro w es e h;exact ih _ _ _ _ h
 | freeze a n k ih=>intro w es e h;exact ih _ _ _ h
 | frozen a k ih=>intro w es e h;exact ih _ _ _ _ h
 | getObj r k ih =>
   intro w es e h;simp only[Sem.runT]
   split
   ·exact h
   ·exact ih _ _ _ _ (by simp[h])
   ·exact h
 | setObj r o k ih =>
   intro w es e h;simp only[Sem.runT]
   split
   ·exact h
   ·exact ih _ _ _ (by simp[h])
   ·exact h
 | choose q k ih =>
   intro w es e h;simp only[Sem.runT]
   split
   ·exact ih _ _ _ _ h
   ·exact ih _ _ _ _ h
 | sys c k ih=>intro w es e h;exact ih _ _ _ _ (by simp[h])
 | program k ih=>intro w es e h;exact ih _ _ _ _ h
 | mark m k ih=>intro w es e h;exact ih _ _ _ (by simp[h])
theorem Ahy {α:Type}(s:Sem α):∀(w:World) (es:Array Event),Ed τ a b lim w ->(∀e∈(s.runT P w es).2,e.loc≠.output) ->(A8j (s.runT P w es).1).drawn<=lim ->
 s.runT P (Dk τ a b w) es=(Ak8 (Dk τ a b) (s.runT P w es).1,(s.runT P w es).2):=by
 induction s with
 | pure v=>intro w es _ _ _;rfl
 | halt h=>intro w es _ _ _;rfl
 | load m x k ih =>
   intro w es hw ho hl;simp only[Sem.runT]at ho hl ⊢;rw[show(Dk τ a b w).cell? x=w.cell? x from rfl,show(Dk τ a b w).farLoad P x (m == .atomic)=w.farLoad P x (m == .atomic)from rfl]
   cases hc:w.cell? x with
   | some v =>
     rw[hc]at ho hl
     exact ih _ _ _ hw ho hl
   | none =>
     rw[hc]at ho hl;dsimp only at ho hl ⊢
     cases hf:w.farLoad P x (m == .atomic)with
     | ok y =>
       rw[hf]at ho hl
       exact ih _ _ _ hw ho hl
     | error h=>rfl
 | store m x v k ih =>
   intro w es hw
   have key:∀(r r':Result α×Array Event),((r=(.halt (.stuck "store: not the value of one cell") w,es)/\r'=(.halt (.stuck "store: not the value of one cell") (Dk τ a b w),es)) \/(r=(match w.cell? x with
    | some _ =>
      if w.frozen? x then(.halt (.unsupported (.unsafePointer "a write to bytes that a string shares")) w,es)
      else k.runT P (w.setCell x v) (es.push ⟨.cell x,true,m == .atomic⟩)
    | none=>match w.farStore P x v (m == .atomic)with
      | .ok (w,touched)=>k.runT P w (es++touched.toArray.map (⟨.cell ·,true,m == .atomic⟩))
      | .error h=>(.halt h w,es))/\r'=(match (Dk τ a b w).cell? x with
    | some _ =>
      if(Dk τ a b w).frozen? x then(.halt (.unsupported (.unsafePointer "a write to bytes that a string shares")) (Dk τ a b w),es)
      else k.runT P ((Dk τ a b w).setCell x v) (es.push ⟨.cell x,true,m == .atomic⟩)
    | none=>match (Dk τ a b w).farStore P x v (m == .atomic)with
      | .ok (w,touched)=>k.runT P w (es++touched.toArray.map (⟨.cell ·,true,m == .atomic⟩))
      | .error h=>(.halt h (Dk τ a b w),es)))) ->(∀e∈r.2,e.loc≠.output) ->(A8j r.1).drawn<=lim->r'=(Ak8 (Dk τ a b) r.1,r.2):=by
    rintro r r' (⟨rfl,rfl⟩ |⟨rfl,rfl⟩) ho hl
    ·rfl
    ·rw[show(Dk τ a b w).cell? x=w.cell? x from rfl,show(Dk τ a b w).frozen? x=w.frozen? x from rfl,Xz]
     cases hc:w.cell? x with
     | some v0 =>
       rw[hc]at ho hl;dsimp only at ho hl ⊢
       by_cases hz:w.frozen? x=true
       ·rw[Amo hz,Amo hz];rfl
       ·rw[Amd hz]at ho hl;rw[Amd hz,Amd hz]
        exact ih (w.setCell x v) _ ⟨hw.1,hw.2⟩ ho hl
     | none =>
       rw[hc]at ho hl;dsimp only at ho hl ⊢
       cases hf:w.farStore P x v (m == .atomic)with
       | error h=>rfl
       | ok y =>
         obtain⟨w1,l1⟩:=y;rw[hf]at ho hl;obtain⟨g1,g2⟩:=Lm hf
         exact ih w1 _ (hw.on (Aof g2.symm) g1) ho hl
   refine key _ _ ?_
   cases v<;>first|exact .inl ⟨rfl,rfl⟩|exact .inr ⟨rfl,rfl⟩
 | new o k ih=>intro w es hw ho hl;exact ih _ { w with heap:=w.heap.push o } _ ⟨hw.1,hw.2⟩ ho hl
 | shape r k ih=>intro w es hw ho hl;exact ih _ _ _ hw ho hl
 | freeze x n k ih =>
   intro w es hw ho hl
   have h1:(w.freeze x n).drawn=w.drawn /\(w.freeze x n).tape=w.tape:=by
    unfold World.freeze
    split<;>exact⟨rfl,rfl⟩
   have h2:(Dk τ a b w).freeze x n=Dk τ a b (w.freeze x n):=by
    unfold World.freeze
    split<;>rfl
   simp only[Sem.runT]at ho hl ⊢;rw[h2]
   exact ih _ _ (hw.on (Aof h1.1.symm) h1.2) ho hl
 | frozen x k ih=>intro w es hw ho hl;exact ih _ _ _ hw ho hl
 | getObj r k ih =>
   intro w es hw ho hl;simp only[Sem.runT]at ho hl ⊢;rw[show(Dk τ a b w).heap=w.heap from rfl]
   cases hc:w.heap[r]? with
   | none=>rfl
   | some o =>
     rw[hc]at ho hl
     cases o<;>first
      | rfl
      | exact ih _ _ _ hw ho hl
 | setObj r o k ih =>
   intro w es hw ho hl;simp only[Sem.runT]at ho hl ⊢;rw[show(Dk τ a b w).heap=w.heap from rfl]
   cases hc:w.heap[r]? with
   | none=>rfl
   | some o' =>
     rw[hc]at ho hl
     cases o'<;>first
      | rfl
      | exact ih { w with heap:=w.heap.setIfInBounds r o } _ ⟨hw.1,hw.2⟩ ho hl
 | choose q k ih =>
   intro w es hw ho hl;simp only[Sem.runT]at ho hl ⊢
   by_cases hq:q.forced=true
   ·rw[Amo hq]at ho hl;rw[Amo hq,Amo hq]
    exact ih _ _ _ hw ho hl
   ·rw[Amd hq]at ho hl;rw[Amd hq,Amd hq];have hm:=(A1x (P:=P) (k (q.cut (w.tape w.drawn q))) { w with drawn:=w.drawn+1 } es).1
    have e:τ (w.drawn-a+b) q=w.tape w.drawn q:=hw.2 _ _ (Am0 _) (Am2 (Am2 (Aqo _) hm) hl)
    have e2:({ Dk τ a b w with drawn:=(Dk τ a b w).drawn+1 }:World)=Dk τ a b { w with drawn:=w.drawn+1 }:=by
     have:=hw.1;simp only[Dk,World.mk.injEq,true_and,and_true]
     omega
    rw[e2,show(Dk τ a b w).tape (Dk τ a b w).drawn q=τ (w.drawn-a+b) q from rfl,e]
    exact ih _ _ _ (hw.on (by simp) rfl) ho hl
 | sys c k ih =>
   intro w es hw ho hl
   exact absurd rfl (ho ⟨.output,true,false⟩ (A8m (P:=P) (k (w.sys c).1) (w.sys c).2 (es.push ⟨.output,true,false⟩) _ (by simp)))
 | program k ih=>intro w es hw ho hl;exact ih _ _ _ hw ho hl
 | mark m k ih=>intro w es hw ho hl;exact ih _ _ hw ho hl
end
end Tl
end Go.Proofs.YtjaehldnlamgkaaGreatDoor
