import Derived.Test.YtlfleicchbgcmaaGreatZr9
import Derived.Test.YtlfleicchbgcmaaGreatZr0
set_option linter.all false
set_option maxHeartbeats 16000000
set_option maxRecDepth 100000
namespace Go.Proofs.YtlfleicchbgcmaaGreat
namespace Lr
open Go.Conc
theorem Ju {P:Program}{m:Bool}{fr:Frame}{cs:List Frame}{w:World}(h:fr.mode=.run):stepG P m (G fr cs) w=stepG.exec P m true fr cs none w:=by
 unfold stepG G;dsimp only;rw[h]
theorem Df {P:Program}{m:Bool}{fr:Frame}{cs:List Frame}{w:World}(h:fr.mode≠.run):stepG P m (G fr cs) w=unwind P m fr cs none w:=by
 unfold stepG G;dsimp only
 cases hm:fr.mode<;>first|exact absurd hm h|rfl
structure Whole (X:Cx)(P P':Program):Prop where
 hF:A8c X P P'
 hM:Ah7 X P P'
 hK:∀o,X.K o->Ah8 X P o
 hG:∀g,X.G g->¬X.D g/\X.L g=0
section
variable {X : Cx} {P P' : Program} {B : Lk} (H : Whole X P P')
theorem Tt {V W:World}(hw:WR X B V W){base base':List Frame}{fr fr':Frame}{cs cs':List Frame}(hf:En X B fr fr')(hc:M8 X B cs cs')(hb:cs=[]->fr.roundOf=none)(m m':Bool)(j:Option Code)(hj:∀c,j=some c->Km X c c) :
 Fe X P P' B V W base base'
  (match fr.roundOf with
   | none=>if(match (generalizing:=false) j with|none=>true|some .ret=>true|_=>false)=true then GStep.go (G { fr with mode:=.returning } (cs++base)) V else .ended (.stuck "exit, goto: no such block or label" (fr.pos P)) V
   | some l=>match (Instr.endRound l j).runT P V #[]with
     | (r,es)=>GStep.after (seen P fr.fn es) (match r with
       | .ok v w=>doReturn P m fr (cs++base) none v w
       | .halt _ w=>.ended (.stuck "range over a function: no such loop" (fr.pos P)) w))
  (match fr'.roundOf with
   | none=>if(match (generalizing:=false) j with|none=>true|some .ret=>true|_=>false)=true then GStep.go (G { fr' with mode:=.returning } (cs'++base')) W else .ended (.stuck "exit, goto: no such block or label" (fr'.pos P')) W
   | some l=>match (Instr.endRound l j).runT P' W #[]with
     | (r,es)=>GStep.after (seen P' fr'.fn es) (match r with
       | .ok v w=>doReturn P' m' fr' (cs'++base') none v w
       | .halt _ w=>.ended (.stuck "range over a function: no such loop" (fr'.pos P')) w)):=by
 have hr:=hf.roundOf
 cases hro:fr.roundOf with
 | none =>
   rw[hro]at hr
   cases hro':fr'.roundOf with
   | some _=>rw[hro']at hr;cases hr
   | none =>
     dsimp only;generalize (match (generalizing:=false) j with|none=>true|some .ret=>true|_=>false:Bool)=q
     cases q
     ·rw[Ap8 (by simp),Ap8 (by simp)];exact Gu
     ·rw[Apb rfl,Apb rfl]
      exact Ai hw ⟨hf.fn,hf.tmps,hf.todo,hf.defers,.returning,hf.kind,.none⟩ hc
 | some l =>
   rw[hro]at hr
   cases hro':fr'.roundOf with
   | none=>rw[hro']at hr;cases hr
   | some l' =>
     rw[hro']at hr
     cases hr
     rename_i hl
     dsimp only
     cases hc with
     | nil=>rw[hb rfl]at hro;cases hro
     | cons hcc hc =>
       rcases Kh (R4 hl j hj) hw with⟨a,V1,B1,W1,b,n,e1,e2,hx,hw1,hab,hn⟩ |⟨v,V1,B1,W1,v',n,e1,e2,hx,hw1,hab,hn⟩ |⟨h,V1,e1,hm⟩
       ·rw[Sem.runT_eq,e1,e2 #[],Aqu]
        exact Cl (Li hw1 (hf.mono hx.le) (hcc.mono hx.le) (hc.mono hx.le) hab m m') hx hn _ _
       ·rw[Sem.runT_eq,e1]
        exact D8 ⟨_,_,_,rfl⟩
       ·rw[Sem.runT_eq,e1]
        exact D8 ⟨_,_,_,rfl⟩
include H
theorem Aft {V W:World}(hw:WR X B V W){base base':List Frame}{fr fr':Frame}{cs cs':List Frame}(hf:En X B fr fr')(hc:M8 X B cs cs'){ops:Array Oper}{i:Nat}{rest:List Nat}{k k':List Item}
 (ht:fr.todo=.inRegion ops (i :: rest) :: k) (ht':fr'.todo=.inRegion ops (i :: rest) :: k') (hops:∀o∈ops,X.K o) :
 Fe X P P' B V W base base' (stepG.oper P true fr (cs++base) none V) (stepG.oper P' true fr' (cs'++base') none W):=by
 unfold stepG.oper Frame.oper?;rw[ht,ht'];dsimp only
 cases ho:ops[i]? with
 | none=>exact Gu
 | some o =>
   dsimp only;have hok:=H.hK o (hops o (Aq3 ho));have hev:=hf.evR hw.Ie H.hG;have hr:=hf.roundOf
   cases hro:fr.roundOf with
   | none =>
     rw[hro]at hr
     cases hro':fr'.roundOf with
     | some _=>rw[hro']at hr;cases hr
     | none=>exact O8 H.hF hf hc (Ca H.hF H.hM o hok hev fun f=>⟨rfl,rfl⟩) hw base base'
   | some l =>
     rw[hro]at hr
     cases hro':fr'.roundOf with
     | none=>rw[hro']at hr;cases hr
     | some l' =>
       rw[hro']at hr
       cases hr
       rename_i hl
       cases hop:o.op with
       | defer c =>
         have:=hok.1;rw[hop]at this
         exact this.elim
       | _=>exact O8 H.hF hf hc (Ca H.hF H.hM o hok hev fun f=>⟨rfl,rfl⟩) hw base base'
theorem Af5 {V W:World}(hw:WR X B V W){base base':List Frame}{fr fr':Frame}{cs cs':List Frame}(hf:En X B fr fr')(hc:M8 X B cs cs')(hb:cs=[]->fr.roundOf=none)(m m':Bool) :
 Fe X P P' B V W base base' (stepG.exec P m true fr (cs++base) none V) (stepG.exec P' m' true fr' (cs'++base') none W):=by
 have hP:=H.hF.toPRel;obtain⟨fn,tmps,todo,defers,mode,kind,ro⟩:=fr;obtain⟨fn',tmps',todo',defers',mode',kind',ro'⟩:=fr';have ht:=hf.todo;dsimp only at ht hb
 cases ht with
 | nil=>exact Tt hw hf hc hb m m' none fun c e=>by cases e
 | cons hi hk =>
  cases hi with
  | inBlock i =>
    unfold stepG.exec
    exact Ai hw (hf.Cm hk) hc
  | inScope hcd =>
    unfold stepG.exec
    exact Ai hw (hf.Cm hk) hc
  | inLoop hcd =>
    unfold stepG.exec
    exact Ai hw (hf.Cm (.cons (.code hcd) (.cons (.inLoop hcd) hk))) hc
  | inRangeFunc hl =>
    unfold stepG.exec
    exact Gu
  | beginRound =>
    unfold stepG.exec;have hr:=hf.roundOf;dsimp only
    refine O8 H.hF hf hc ?_ hw base base'
    dsimp only at hr
    cases hr with
    | none=>exact SR.Cw
    | some hl=>exact SR.bind (Jc hP hl) fun _ _ _ _ _=>SR.pure .skip
  | endRangeFunc hl =>
    rename_i l l'
    unfold stepG.exec;dsimp only
    rcases Kh (Uj hP hl) hw with⟨a,V1,B1,W1,b,n,e1,e2,hx,hw1,hab,hn⟩ |⟨v,V1,B1,W1,v',n,e1,e2,hx,hw1,hab,hn⟩ |⟨h,V1,e1,hm⟩
    ·rw[Sem.runT_eq,e1,e2 #[],Aqu];obtain⟨rfl,hcd⟩:=hab
     refine Cl (Ai hw1 ((hf.mono hx.le).Cm ?_) (hc.mono hx.le)) hx hn _ _
     cases b with
     | none=>exact hk.mono hx.le
     | some c=>exact .cons (.code (hcd c rfl)) (hk.mono hx.le)
    ·rw[Sem.runT_eq,e1,e2 #[],Aqu]
     exact Cl (Ai hw1 ((hf.mono hx.le).raise (.cons _ _ hab .nil)) (hc.mono hx.le)) hx hn _ _
    ·rw[Sem.runT_eq,e1]
     cases h<;>first|exact hm.elim|exact D8 ⟨_,_,_,rfl⟩
  | inRegion ops l hops =>
    cases l with
    | nil =>
      unfold stepG.exec
      exact Ai hw (hf.Cm hk) hc
    | cons i rest =>
      have hy:yielded ops tmps'=yielded ops tmps:=by
       funext j
       unfold yielded
       cases ((ops[j]?).bind (·.dst))with
       | none=>rfl
       | some d =>
         rcases hf.tmps.get d with⟨v,v',e1,e2,hv⟩ |⟨e1,e2⟩
         ·simp only[At7,e1,e2]
          cases hv<;>rfl
         ·simp only[At7,e1,e2]
      have ho:=Aft H hw hf hc (base:=base) (base':=base') rfl rfl hops;unfold stepG.exec;dsimp only;rw[hy]
      split
      ·exact ho
      ·exact Ai hw (hf.finish Gp) hc
  | @code c c' hcd =>
    cases c with
    | skip =>
      obtain rfl:c'=.skip:=hcd;unfold stepG.exec
      exact Ai hw (hf.Cm hk) hc
    | label l =>
      obtain rfl:c'=.label l:=hcd;unfold stepG.exec
      exact Ai hw (hf.Cm hk) hc
    | ret =>
      obtain rfl:c'=.ret:=hcd;unfold stepG.exec
      exact Tt hw hf hc hb m m' (some .ret) fun c e=>by cases e;rfl
    | seq a b =>
      obtain⟨a',b',rfl,h1,h2⟩:=hcd;unfold stepG.exec
      exact Ai hw (hf.Cm (.cons (.code h1) (.cons (.code h2) hk))) hc
    | cond o a b =>
      obtain⟨a',b',rfl,h0,h1,h2⟩:=hcd;have hv:=hf.evR hw.Ie H.hG o h0;unfold stepG.exec;dsimp only;generalize Frame.eval _ o=v at hv ⊢;generalize Frame.eval _ o=v' at hv ⊢
      cases hv<;>first
       | exact Gu
       | skip
      rename_i q
      cases q
      ·exact Ai hw (hf.Cm (.cons (.code h2) hk)) hc
      ·exact Ai hw (hf.Cm (.cons (.code h1) hk)) hc
    | block i a =>
      obtain⟨a',rfl,h1⟩:=hcd;unfold stepG.exec
      exact Ai hw (hf.Cm (.cons (.code h1) (.cons (.inBlock i) hk))) hc
    | loop a =>
      obtain⟨a',rfl,h1⟩:=hcd;unfold stepG.exec
      exact Ai hw (hf.Cm (.cons (.code h1) (.cons (.inLoop h1) hk))) hc
    | scope a =>
      obtain⟨a',rfl,h1⟩:=hcd;unfold stepG.exec
      exact Ai hw (hf.Cm (.cons (.code h1) (.cons (.inScope h1) hk))) hc
    | exit i =>
      obtain rfl:c'=.exit i:=hcd;unfold stepG.exec;dsimp only
      rcases Px i hk with⟨e1,e2⟩ |⟨q,q',e1,e2,hq⟩
      ·rw[e1,e2]
       exact Tt hw hf hc hb m m' (some (.exit i)) fun c e=>by cases e;rfl
      ·rw[e1,e2]
       exact Ai hw (hf.Cm hq) hc
    | goto l=>exact hcd.elim
    | refuse why =>
      unfold stepG.exec
      exact Gu
    | region id ops d =>
      obtain⟨rfl,hcd⟩:=hcd;unfold stepG.exec;dsimp only
      cases d with
      | false=>exact Ai hw (hf.Cm (.cons (.inRegion ops _ hcd) hk)) hc
      | true =>
        have hfo:P'.follows .mixedOrders=P.follows .mixedOrders:=by rw[hP.Pj]
        obtain rfl:fn'=fn:=hf.fn;rw[hfo]
        rcases Kh (SR.choose (X:=X) (P:=P) (P':=P') (B:=B) (.order fn' id)) hw with⟨a,V1,B1,W1,b,n,e1,e2,hx,hw1,hab,hn⟩ |⟨v,V1,B1,W1,v',n,e1,e2,hx,hw1,hab,hn⟩ |⟨h,V1,e1,hm⟩
        ·have e3:(Go.choose (.order fn' id)).run P' W=.ok b W1:=by
          have:=e2 #[];rw[Sem.runT_eq]at this
          exact congrArg Prod.fst this
         rw[e1,e3];obtain rfl:b=a:=hab;have:=Ai (P:=P) (P':=P') (base:=base) (base':=base') hw1 ((hf.mono hx.le).Cm (.cons (.inRegion ops (Region.schedule (P.follows .mixedOrders) ops b) hcd) (hk.mono hx.le))) (hc.mono hx.le)
         refine⟨?_,.inl ⟨_,_,_,_,rfl⟩⟩
         intro fr1 csx V2 e0 he;obtain⟨c1,c1',fr1',B',W2,m0,h3,h4,h5,h6,h7,h8⟩:=this.1 _ _ _ _ he
         exact⟨c1,c1',fr1',B',W2,m0,h3,h4,hx.trans h5,h6,h7,h8⟩
        ·rw[e1];exact Gu
        ·rw[e1];exact Gu
    | rangeFunc f ps a b =>
      obtain⟨a',b',rfl,h0,h1,h2⟩:=hcd;obtain rfl:fn'=fn:=hf.fn;unfold stepG.exec;dsimp only;have hev:=hf.evR hw.Ie H.hG f h0
      rcases Kh (Kj (P:=P) (P':=P') fn' hf.tmps ps h1 h2 hf.roundOf) hw with⟨x,V1,B1,W1,y,n,e1,e2,hx,hw1,hab,hn⟩ |⟨v,V1,B1,W1,v',n,e1,e2,hx,hw1,hab,hn⟩ |⟨h,V1,e1,hm⟩
      ·dsimp only at e1 e2;rw[Sem.runT_eq,e1,e2 #[],Aqu];obtain⟨l,mk⟩:=x;obtain⟨l',mk'⟩:=y;obtain⟨hl,hmk⟩:=hab;dsimp only at hl hmk ⊢;have hf1:=hf.mono hx.le;have hf2:En X B1 ⟨fn',tmps,.inRangeFunc l :: _,mk++defers,mode,kind,ro⟩ ⟨fn',tmps',.inRangeFunc l' :: _,mk'++defers',mode',kind',ro'⟩:=⟨rfl,hf1.tmps,.cons (.inRangeFunc hl) (hk.mono hx.le),hmk.append hf1.defers,hf1.mode,hf1.kind,hf1.roundOf⟩
       refine Cl (O8 H.hF hf2 (hc.mono hx.le) ?_ hw1 base base') hx hn _ _
       have hev1:=hev.mono hx.le
       refine SR.bind (R:=fun B' d d'=>DfR X B' d d') ?_ fun B2 l2 d d' hd=>Gn H.hF H.hM hd.1 hd.2
       have hone:AR X B1 #[Value.func (.yield l) #[] #[]] #[Value.func (.yield l') #[] #[]]:=AR.one (.func (.yield _ _ hl) rfl (fun i v v' (a:(#[]:Array Value)[i]?=some v) _=>by simp at a) rfl (fun i v v' (a:(#[]:Array Value)[i]?=some v) _=>by simp at a))
       refine Nx ?_ ?_
       ·cases f<;>exact hev1
       ·simpa [Frame.eval]using hone
      ·dsimp only at e1;rw[Sem.runT_eq,e1]
       exact D8 ⟨_,_,_,rfl⟩
      ·dsimp only at e1;rw[Sem.runT_eq,e1]
       exact D8 ⟨_,_,_,rfl⟩
theorem Rh {V W:World}(hw:WR X B V W){base base':List Frame}{fr fr':Frame}{cs cs':List Frame}(hf:En X B fr fr')(hc:M8 X B cs cs'){d d':Deferred}(hd:DfR X B d d')(hdn:X.Dn) :
 Fe X P P' B V W base base' (callDeferred P fr (cs++base) none d V) (callDeferred P' fr' (cs'++base') none d' W):=by
 unfold callDeferred
 have hnil:(match d'.target with|.nil=>true|_=>false)=(match d.target with|.nil=>true|_=>false):=by
  have:=hd.1;generalize d.target=t at this ⊢;generalize d'.target=t' at this ⊢
  cases this<;>rfl
 have hmo:(match fr'.mode with|.panicking _=>true|_=>false)=(match fr.mode with|.panicking _=>true|_=>false):=by
  have:=hf.mode;generalize fr.mode=t at this ⊢;generalize fr'.mode=t' at this ⊢
  cases this<;>rfl
 generalize hq:((match d.target with|.nil=>true|_=>false) && (match fr.mode with|.panicking _=>true|_=>false))=q
 generalize hq':((match d'.target with|.nil=>true|_=>false) && (match fr'.mode with|.panicking _=>true|_=>false))=q'
 obtain rfl:q'=q:=by rw[<-hq',<-hq,hnil,hmo]
 cases q' with
 | true=>exact Gu
 | false =>
   rw[Ap8 (by simp),Ap8 (by simp)]
   rcases Kh (Gn H.hF H.hM hd.1 hd.2) hw with⟨a,V1,B1,W1,b,n,e1,e2,hx,hw1,hab,hn⟩ |⟨v,V1,B1,W1,v',n,e1,e2,hx,hw1,hab,hn⟩ |⟨h,V1,e1,hm⟩
   ·rw[Sem.runT_eq,e1,e2 #[],Aqu];have hf1:=hf.mono hx.le;have hc1:=hc.mono hx.le
    cases hab with
    | value _=>exact Cl (Ai hw1 hf1 hc1) hx hn _ _
    | skip=>exact Cl (Ai hw1 hf1 hc1) hx hn _ _
    | defer _ _=>exact Cl (Ai hw1 hf1 hc1) hx hn _ _
    | enter f hcf har hp =>
      refine Cl ⟨?_,.inl ⟨_,_,_,_,rfl⟩⟩ hx hn _ _
      rintro fr1 csx V2 es he
      cases he
      exact⟨fr :: cs,fr' :: cs',_,B1,W1,#[],rfl,rfl,Ext.refl ..,hw1,A46.nil,Of H.hF hcf har hp _ (fun _=>⟨.inr hdn,by simp⟩) (.cons hf1 hc1)⟩
    | @round l l' f p p' a b a' b' hl hp ha hb =>
      have hfr:En X B1 (Frame.round l f p a b .deferred) (Frame.round l' f p' a' b' .deferred):=⟨rfl,hp,.cons (.code ha) (.cons .beginRound (.cons (.code hb) .nil)),.nil,.run,rfl,.some hl⟩
      exact Cl (Ai (cs:=fr :: cs) (cs':=fr' :: cs') hw1 hfr (.cons hf1 hc1)) hx hn _ _
   ·rw[Sem.runT_eq,e1,e2 #[],Aqu]
    exact Cl (Ai hw1 ((hf.mono hx.le).raise (.cons _ _ hab .nil)) (hc.mono hx.le)) hx hn _ _
   ·rw[Sem.runT_eq,e1]
    cases h with
    | unsupported u=>exact D8 ⟨_,_,_,rfl⟩
    | exit c=>exact D8 ⟨_,_,_,rfl⟩
    | stuck m=>exact D8 ⟨_,_,_,rfl⟩
    | _=>exact hm.elim
theorem Aaj {V W:World}(hw:WR X B V W){base base':List Frame}{fr fr':Frame}{cs cs':List Frame}(hf:En X B fr fr')(hcs:M8 X B cs cs')(hb:cs=[]->fr.defers≠[])(m m':Bool) :
 Fe X P P' B V W base base' (unwind P m fr (cs++base) none V) (unwind P' m' fr' (cs'++base') none W):=by
 have hP:=H.hF.toPRel;have hd:=hf.defers;unfold unwind
 cases h1:fr.defers with
 | cons d ds =>
   rw[h1]at hd
   cases h2:fr'.defers with
   | nil=>rw[h2]at hd;cases hd
   | cons d' ds' =>
     rw[h2]at hd
     cases hd with
     | cons hq hdd hds =>
     obtain⟨t,p⟩:=d;obtain⟨t',p'⟩:=d';have hcd:=fun hdn=>Rh H hw (base:=base) (base':=base') (fr:={ fr with defers:=ds }) (fr':={ fr' with defers:=ds' }) ⟨hf.fn,hf.tmps,hf.todo,hds,hf.mode,hf.kind,hf.roundOf⟩ hcs hdd hdn
     obtain⟨ht,hp⟩:=hdd;dsimp only at ht hp
     cases ht with
     | fn _ _=>exact hcd (hq.resolve_right fun⟨_,h⟩=>by cases h)
     | nil=>exact hcd (hq.resolve_right fun⟨_,h⟩=>by cases h)
     | builtin _ _ _ _ _=>exact hcd (hq.resolve_right fun⟨_,h⟩=>by cases h)
     | collected hr =>
       dsimp only
       rcases Kh (Ku (P:=P) (P':=P') hr) hw with⟨a,V1,B1,W1,b,n,e1,e2,hx,hw1,hab,hn⟩ |⟨v,V1,B1,W1,v',n,e1,e2,hx,hw1,hab,hn⟩ |⟨h,V1,e1,hm⟩
       ·rw[Sem.runT_eq,e1,e2 #[],Aqu];have hf1:=hf.mono hx.le
        exact Cl (Ai (fr:={ fr with defers:=a++ds }) (fr':={ fr' with defers:=b++ds' }) (cs:=cs) (cs':=cs') hw1 ⟨hf1.fn,hf1.tmps,hf1.todo,hab.append (hds.mono hx.le),hf1.mode,hf1.kind,hf1.roundOf⟩ (hcs.mono hx.le)) hx hn _ _
       ·rw[Sem.runT_eq,e1]
        exact D8 ⟨_,_,_,rfl⟩
       ·rw[Sem.runT_eq,e1]
        exact D8 ⟨_,_,_,rfl⟩
 | nil =>
   rw[h1]at hd
   cases h2:fr'.defers with
   | cons _ _=>rw[h2]at hd;cases hd
   | nil =>
     cases hcs with
     | nil=>exact absurd h1 (hb rfl)
     | @cons c c' cs cs' hcc hc =>
     dsimp only;have hm:=hf.mode
     cases h3:fr.mode with
     | run=>exact Gu
     | panicking chain =>
       rw[h3]at hm
       cases h4:fr'.mode<;>rw[h4]at hm<;>cases hm
       rename_i chain' hch
       dsimp only
       have hcat:fr'.catches P'=fr.catches P:=by
        unfold Frame.catches;rw[hf.fn];have ht:=hf.todo;have hfs:=H.hF.funcs fr.fn
        rcases hfs with⟨e1,e2⟩ |⟨_,_,e1,e2,_⟩
        ·rw[e1,e2];generalize fr.todo=t at ht;generalize fr'.todo=t' at ht
         cases ht with
         | nil=>rfl
         | cons hi _=>cases hi<;>rfl
        ·rw[e1,e2]
       rw[hcat]
       split
       ·exact Gu
       ·exact Ai hw (hcc.raise hch) hc
     | returning =>
       rw[h3]at hm
       cases h4:fr'.mode<;>rw[h4]at hm<;>cases hm
       dsimp only;rw[hf.fn]
       rcases H.hF.funcs fr.fn with⟨e1,e2⟩ |⟨fn,fn',e1,e2,_,hres,_,_⟩
       ·rw[e1,e2]
        exact Li hw hf hcc hc (hf.tmps.getD 0 Gp) m m'
       ·rw[e1,e2];dsimp only
        rcases Kh (Ip hP hres hf.tmps) hw with⟨a,V1,B1,W1,b,n,e1,e2,hx,hw1,hab,hn⟩ |⟨v,V1,B1,W1,v',n,e1,e2,hx,hw1,hab,hn⟩ |⟨h,V1,e1,hm⟩
        ·rw[Sem.runT_eq,e1,e2 #[],Aqu]
         exact Cl (Li hw1 (hf.mono hx.le) (hcc.mono hx.le) (hc.mono hx.le) hab m m') hx hn _ _
        ·rw[Sem.runT_eq,e1]
         exact D8 ⟨_,_,_,rfl⟩
        ·rw[Sem.runT_eq,e1]
         cases h<;>first|exact hm.elim|exact D8 ⟨_,_,_,rfl⟩
theorem A0n {V W:World}(hw:WR X B V W){base base':List Frame}{fr fr':Frame}{cs cs':List Frame}(hf:En X B fr fr')(hc:M8 X B cs cs')(hb:cs=[]->fr.roundOf=none /\(fr.mode=.run\/fr.defers≠[]))(m m':Bool) :
 Fe X P P' B V W base base' (stepG P m (G fr (cs++base)) V) (stepG P' m' (G fr' (cs'++base')) W):=by
 by_cases hr:fr.mode=.run
 ·rw[Ju hr,Ju (hf.place.2 hr)]
  exact Af5 H hw hf hc (fun e=>(hb e).1) m m'
 ·rw[Df hr,Df fun e=>hr (hf.place.1 e)]
  exact Aaj H hw hf hc (fun e=>(hb e).2.resolve_left hr) m m'
end
end Lr
namespace Tl
open Go.Conc
def Ed (τ:Tape)(a b:Nat)(w:World):World:={ w with tape:=τ,drawn:=w.drawn-a+b }
def Fc (τ:Tape)(a b lim:Nat)(w:World):Prop:=a<=w.drawn/\∀n q,w.drawn<=n->n<lim->τ (n-a+b) q=w.tape n q
def A9p {α:Type}:Result α->World
 | .ok _ w=>w
 | .halt _ w=>w
def Ako {α:Type}(f:World->World):Result α->Result α
 | .ok v w=>.ok v (f w)
 | .halt h w=>.halt h (f w)
section
variable {P : Program} {τ : Tape} {a b lim : Nat}
theorem Fc.on {w w':World}(h:Fc τ a b lim w)(hd:w.drawn<=w'.drawn)(ht:w'.tape=w.tape):Fc τ a b lim w' :=
 ⟨Ap3 h.1 hd,fun n q h1 h2=>by rw[ht];exact h.2 n q (Ap3 hd h1) h2⟩
theorem Ab3 {α:Type}(x:Ask α):∀w:World,w.drawn <=(w.ask x).2.drawn /\(w.ask x).2.tape=w.tape:=by
 induction x with
 | done v=>intro w;exact⟨Ap0 _,rfl⟩
 | ask what range k ih =>
   intro w;unfold World.ask;dsimp only
   split
   ·exact ih 0 w
   ·have:=ih ((Question.extern what range).cut (w.tape w.drawn (.extern what range))) { w with drawn:=w.drawn+1 }
    exact⟨Ap3 (Nat.le_succ _) this.1,this.2⟩
theorem Ae7 (c:Sys)(w:World):w.drawn <=(w.sys c).2.drawn /\(w.sys c).2.tape=w.tape:=by
 unfold World.sys;have:=Ab3 (Kernel.perform c w.os) w;generalize w.ask (Kernel.perform c w.os)=r at this;obtain⟨⟨x,os⟩,w1⟩:=r
 cases x<;>first
  | exact⟨Ap0 _,rfl⟩
  | exact this
theorem Uu {w w':World}{at_ k:Addr}{u:TypeId}{v:Value}{q:Bool}{l:List Addr}(h:w.viewStore P at_ u k v q=.ok (w',l)):w'.tape=w.tape/\w'.drawn=w.drawn:=by
 unfold World.viewStore at h;simp only[bind,Except.bind,pure,Except.pure]at h
 repeat' (split at h)
 all_goals first
  |(cases h;done)
  |(injection h with h;injection h with h1 h2;subst h1;exact⟨rfl,rfl⟩)
theorem Nd {w w':World}{a:Addr}{v:Value}{q:Bool}{l:List Addr}(h:w.farStore P a v q=.ok (w',l)):w'.tape=w.tape/\w'.drawn=w.drawn:=by
 unfold World.farStore at h
 split at h
 ·split at h
  ·rename_i r hr
   obtain⟨w1,l1⟩:=r;injection h with h
   injection h with h1 h2
   subst h1
   exact Uu hr
  ·cases h
 ·cases h
theorem A3b {α:Type}(s:Sem α):∀(w:World) (es:Array Event),w.drawn <=(A9p (s.runT P w es).1).drawn /\(A9p (s.runT P w es).1).tape=w.tape:=by
 induction s with
 | pure v=>intro w es;exact⟨Ap0 _,rfl⟩
 | halt h=>intro w es;exact⟨Ap0 _,rfl⟩
 | load m a k ih =>
   intro w es;simp only[Sem.runT]
   split
   ·exact ih _ _ _
   ·split
    ·exact ih _ _ _
    ·exact⟨Ap0 _,rfl⟩
 | store m a v k ih =>
   intro w es
   have key:∀(r:Result α×Array Event),(r=(.halt (.stuck "store: not the value of one cell") w,es)\/r=(match w.cell? a with
    | some _ =>
      if w.frozen? a then(.halt (.unsupported (.unsafePointer "a write to bytes that a string shares")) w,es)
      else k.runT P (w.setCell a v) (es.push ⟨.cell a,true,m == .atomic⟩)
    | none=>match w.farStore P a v (m == .atomic)with
      | .ok (w,touched)=>k.runT P w (es++touched.toArray.map (⟨.cell ·,true,m == .atomic⟩))
      | .error h=>(.halt h w,es)))->w.drawn <=(A9p r.1).drawn /\(A9p r.1).tape=w.tape:=by
    rintro r (rfl|rfl)
    ·exact⟨Ap0 _,rfl⟩
    ·split
     ·split
      ·exact⟨Ap0 _,rfl⟩
      ·exact ih (w.setCell a v) _
     ·split
      ·rename_i w1 l1 hf
       have h1:=Nd hf;have h2:=ih w1 (es++l1.toArray.map (⟨.cell ·,true,m == .atomic⟩))
       exact⟨h1.2▸h2.1,h2.2.trans h1.1⟩
      ·exact⟨Ap0 _,rfl⟩
   refine key _ ?_
   cases v<;>first|exact .inl rfl|exact .inr rfl
 | new o k ih=>intro w es;exact ih _ { w with heap:=w.heap.push o } es
 | shape r k ih=>intro w es;exact ih _ w es
 | freeze a n k ih =>
   intro w es;have h:=ih (w.freeze a n) es
   have:(w.freeze a n).drawn=w.drawn /\(w.freeze a n).tape=w.tape:=by
    unfold World.freeze
    split<;>exact⟨rfl,rfl⟩
   rw[this.1,this.2]at h
   exact h
 | frozen a k ih=>intro w es;exact ih _ w es
 | getObj r k ih =>
   intro w es;simp only[Sem.runT]
   split
   ·exact⟨Ap0 _,rfl⟩
   ·exact ih _ _ _
   ·exact⟨Ap0 _,rfl⟩
 | setObj r o k ih =>
   intro w es;simp only[Sem.runT]
   split
   ·exact⟨Ap0 _,rfl⟩
   ·exact ih { w with heap:=w.heap.setIfInBounds r o } _
   ·exact⟨Ap0 _,rfl⟩
 | choose q k ih =>
   intro w es;simp only[Sem.runT]
   split
   ·exact ih _ _ _
   ·have:=ih (q.cut (w.tape w.drawn q)) { w with drawn:=w.drawn+1 } es
    exact⟨Ap3 (Nat.le_succ _) this.1,this.2⟩
 | sys c k ih =>
   intro w es;have h1:=Ae7 c w;have h2:=ih (w.sys c).1 (w.sys c).2 (es.push ⟨.output,true,false⟩)
   exact⟨Ap3 h1.1 h2.1,h2.2.trans h1.2⟩
 | program k ih=>intro w es;exact ih _ w es
 | mark m k ih=>intro w es;exact ih w _
theorem Wd (w:World)(at_ k:Addr)(u:TypeId)(v:Value)(q:Bool) :
 (Ed τ a b w).viewStore P at_ u k v q=match w.viewStore P at_ u k v q with
  | .ok (w',l)=>.ok (Ed τ a b w',l)
  | .error h=>.error h:=by
 unfold World.viewStore;rw[show(Ed τ a b w).seen P at_ u k q=w.seen P at_ u k q from rfl];generalize w.seen P at_ u k q=sn
 by_cases ht:(!tight P P.depth u)=true
 ·rw[Apb ht,Apb ht];rfl
 rw[Ap8 ht,Ap8 ht]
 cases sn with
 | error e=>rfl
 | ok y =>
   obtain⟨c,e,fz,first,like,cells⟩:=y
   cases hb:v.bytes? with
   | none=>rfl
   | some bytes =>
     dsimp only[bind,Except.bind,pure,Except.pure]
     by_cases hl:some bytes.length≠like.bytes?.map (·.length)
     ·rw[Apb hl,Apb hl];rfl
     rw[Ap8 hl,Ap8 hl]
     have key:∀fo:Except String (Array Value),(fo.bind fun c=>(Except.ok ({ Ed τ a b w with heap:=(Ed τ a b w).heap.setIfInBounds at_.block (.cells c e fz) },cells.map fun x=>({ block:=at_.block,off:=x.1 }:Addr)):Except String (World×List Addr))) =
      match (fo.bind fun c=>(Except.ok ({ w with heap:=w.heap.setIfInBounds at_.block (.cells c e fz) },cells.map fun x=>({ block:=at_.block,off:=x.1 }:Addr)):Except String (World×List Addr)))with
      | .ok (w',l)=>.ok (Ed τ a b w',l)
      | .error h=>.error h:=by
      intro fo
      cases fo<;>rfl
     exact key _
theorem Zg (w:World)(x:Addr)(v:Value)(q:Bool) :
 (Ed τ a b w).farStore P x v q=match w.farStore P x v q with
  | .ok (w',l)=>.ok (Ed τ a b w',l)
  | .error h=>.error h:=by
 unfold World.farStore;rw[show(Ed τ a b w).heap=w.heap from rfl]
 split
 ·rw[Wd]
  cases w.viewStore P _ _ x v q<;>rfl
 ·rfl
theorem A9s {α:Type}(s:Sem α):∀(w:World) (es:Array Event) (e:Event),e∈es->e∈(s.runT P w es).2:=by
 induction s with
 | pure v=>intro w es e h;exact h
 | halt x=>intro w es e h;exact h
 | load m a k ih =>
   intro w es e h;simp only[Sem.runT]
   split
   ·exact ih _ _ _ _ (by simp[h])
   ·split
    ·exact ih _ _ _ _ (by simp[h])
    ·exact h
 | store m a v k ih =>
   intro w es e h
   have key:∀(r:Result α×Array Event),(r=(.halt (.stuck "store: not the value of one cell") w,es)\/r=(match w.cell? a with
    | some _ =>
      if w.frozen? a then(.halt (.unsupported (.unsafePointer "a write to bytes that a string shares")) w,es)
      else k.runT P (w.setCell a v) (es.push ⟨.cell a,true,m == .atomic⟩)
    | none=>match w.farStore P a v (m == .atomic)with
      | .ok (w,touched)=>k.runT P w (es++touched.toArray.map (⟨.cell ·,true,m == .atomic⟩))
      | .error h=>(.halt h w,es)))->e∈r.2:=by
    rintro r (rfl|rfl)
    ·exact h
    ·split
     ·split
      ·exact h
      ·exact ih _ _ _ (by simp[h])
     ·split
      ·exact ih _ _ _ (by simp[h])
      ·exact h
   refine key _ ?_
   cases v<;>first|exact .inl rfl|exact .inr rfl
 | new o k ih=>intro w es e h;exact ih _ _ _ _ h
 | shape r k ih=>intro w es e h;exact ih _ _ _ _ h
 | freeze a n k ih=>intro w es e h;exact ih _ _ _ h
 | frozen a k ih=>intro w es e h;exact ih _ _ _ _ h
 | getObj r k ih =>
   intro w es e h;simp only[Sem.runT]
   split
   ·exact h
   ·exact ih _ _ _ _ (by simp[h])
   ·exact h
 | setObj r o k ih =>
   intro w es e h;simp only[Sem.runT]
   split
   ·exact h
   ·exact ih _ _ _ (by simp[h])
   ·exact h
 | choose q k ih =>
   intro w es e h;simp only[Sem.runT]
   split
   ·exact ih _ _ _ _ h
   ·exact ih _ _ _ _ h
 | sys c k ih=>intro w es e h;exact ih _ _ _ _ (by simp[h])
 | program k ih=>intro w es e h;exact ih _ _ _ _ h
 | mark m k ih=>intro w es e h;exact ih _ _ _ (by simp[h])
theorem Ail {α:Type}(s:Sem α):∀(w:World) (es:Array Event),Fc τ a b lim w ->(∀e∈(s.runT P w es).2,e.loc≠.output) ->(A9p (s.runT P w es).1).drawn<=lim ->
 s.runT P (Ed τ a b w) es=(Ako (Ed τ a b) (s.runT P w es).1,(s.runT P w es).2):=by
 induction s with
 | pure v=>intro w es _ _ _;rfl
 | halt h=>intro w es _ _ _;rfl
 | load m x k ih =>
   intro w es hw ho hl;simp only[Sem.runT]at ho hl ⊢;rw[show(Ed τ a b w).cell? x=w.cell? x from rfl,show(Ed τ a b w).farLoad P x (m == .atomic)=w.farLoad P x (m == .atomic)from rfl]
   cases hc:w.cell? x with
   | some v =>
     rw[hc]at ho hl
     exact ih _ _ _ hw ho hl
   | none =>
     rw[hc]at ho hl;dsimp only at ho hl ⊢
     cases hf:w.farLoad P x (m == .atomic)with
     | ok y =>
       rw[hf]at ho hl
       exact ih _ _ _ hw ho hl
     | error h=>rfl
 | store m x v k ih =>
   intro w es hw
   have key:∀(r r':Result α×Array Event),((r=(.halt (.stuck "store: not the value of one cell") w,es)/\r'=(.halt (.stuck "store: not the value of one cell") (Ed τ a b w),es)) \/(r=(match w.cell? x with
    | some _ =>
      if w.frozen? x then(.halt (.unsupported (.unsafePointer "a write to bytes that a string shares")) w,es)
      else k.runT P (w.setCell x v) (es.push ⟨.cell x,true,m == .atomic⟩)
    | none=>match w.farStore P x v (m == .atomic)with
      | .ok (w,touched)=>k.runT P w (es++touched.toArray.map (⟨.cell ·,true,m == .atomic⟩))
      | .error h=>(.halt h w,es))/\r'=(match (Ed τ a b w).cell? x with
    | some _ =>
      if(Ed τ a b w).frozen? x then(.halt (.unsupported (.unsafePointer "a write to bytes that a string shares")) (Ed τ a b w),es)
      else k.runT P ((Ed τ a b w).setCell x v) (es.push ⟨.cell x,true,m == .atomic⟩)
    | none=>match (Ed τ a b w).farStore P x v (m == .atomic)with
      | .ok (w,touched)=>k.runT P w (es++touched.toArray.map (⟨.cell ·,true,m == .atomic⟩))
      | .error h=>(.halt h (Ed τ a b w),es)))) ->(∀e∈r.2,e.loc≠.output) ->(A9p r.1).drawn<=lim->r'=(Ako (Ed τ a b) r.1,r.2):=by
    rintro r r' (⟨rfl,rfl⟩ |⟨rfl,rfl⟩) ho hl
    ·rfl
    ·rw[show(Ed τ a b w).cell? x=w.cell? x from rfl,show(Ed τ a b w).frozen? x=w.frozen? x from rfl,Zg]
     cases hc:w.cell? x with
     | some v0 =>
       rw[hc]at ho hl;dsimp only at ho hl ⊢
       by_cases hz:w.frozen? x=true
       ·rw[Apb hz,Apb hz];rfl
       ·rw[Ap8 hz]at ho hl;rw[Ap8 hz,Ap8 hz]
        exact ih (w.setCell x v) _ ⟨hw.1,hw.2⟩ ho hl
     | none =>
       rw[hc]at ho hl;dsimp only at ho hl ⊢
       cases hf:w.farStore P x v (m == .atomic)with
       | error h=>rfl
       | ok y =>
         obtain⟨w1,l1⟩:=y;rw[hf]at ho hl;obtain⟨g1,g2⟩:=Nd hf
         exact ih w1 _ (hw.on (As8 g2.symm) g1) ho hl
   refine key _ _ ?_
   cases v<;>first|exact .inl ⟨rfl,rfl⟩|exact .inr ⟨rfl,rfl⟩
 | new o k ih=>intro w es hw ho hl;exact ih _ { w with heap:=w.heap.push o } _ ⟨hw.1,hw.2⟩ ho hl
 | shape r k ih=>intro w es hw ho hl;exact ih _ _ _ hw ho hl
 | freeze x n k ih =>
   intro w es hw ho hl
   have h1:(w.freeze x n).drawn=w.drawn /\(w.freeze x n).tape=w.tape:=by
    unfold World.freeze
    split<;>exact⟨rfl,rfl⟩
   have h2:(Ed τ a b w).freeze x n=Ed τ a b (w.freeze x n):=by
    unfold World.freeze
    split<;>rfl
   simp only[Sem.runT]at ho hl ⊢;rw[h2]
   exact ih _ _ (hw.on (As8 h1.1.symm) h1.2) ho hl
 | frozen x k ih=>intro w es hw ho hl;exact ih _ _ _ hw ho hl
 | getObj r k ih =>
   intro w es hw ho hl;simp only[Sem.runT]at ho hl ⊢;rw[show(Ed τ a b w).heap=w.heap from rfl]
   cases hc:w.heap[r]? with
   | none=>rfl
   | some o =>
     rw[hc]at ho hl
     cases o<;>first
      | rfl
      | exact ih _ _ _ hw ho hl
 | setObj r o k ih =>
   intro w es hw ho hl;simp only[Sem.runT]at ho hl ⊢;rw[show(Ed τ a b w).heap=w.heap from rfl]
   cases hc:w.heap[r]? with
   | none=>rfl
   | some o' =>
     rw[hc]at ho hl
     cases o'<;>first
      | rfl
      | exact ih { w with heap:=w.heap.setIfInBounds r o } _ ⟨hw.1,hw.2⟩ ho hl
 | choose q k ih =>
   intro w es hw ho hl;simp only[Sem.runT]at ho hl ⊢
   by_cases hq:q.forced=true
   ·rw[Apb hq]at ho hl;rw[Apb hq,Apb hq]
    exact ih _ _ _ hw ho hl
   ·rw[Ap8 hq]at ho hl;rw[Ap8 hq,Ap8 hq];have hm:=(A3b (P:=P) (k (q.cut (w.tape w.drawn q))) { w with drawn:=w.drawn+1 } es).1
    have e:τ (w.drawn-a+b) q=w.tape w.drawn q:=hw.2 _ _ (Ap0 _) (Ap6 (Ap6 (Auh _) hm) hl)
    have e2:({ Ed τ a b w with drawn:=(Ed τ a b w).drawn+1 }:World)=Ed τ a b { w with drawn:=w.drawn+1 }:=by
     have:=hw.1;simp only[Ed,World.mk.injEq,true_and,and_true]
     omega
    rw[e2,show(Ed τ a b w).tape (Ed τ a b w).drawn q=τ (w.drawn-a+b) q from rfl,e]
    exact ih _ _ _ (hw.on (by simp) rfl) ho hl
 | sys c k ih =>
   intro w es hw ho hl
   exact absurd rfl (ho ⟨.output,true,false⟩ (A9s (P:=P) (k (w.sys c).1) (w.sys c).2 (es.push ⟨.output,true,false⟩) _ (by simp)))
 | program k ih=>intro w es hw ho hl;exact ih _ _ _ hw ho hl
 | mark m k ih=>intro w es hw ho hl;exact ih _ _ hw ho hl
end
end Tl
namespace Lr
open Go.Conc Tl
def Tl1 (τ:Tape)(a b lim:Nat)(w:World)(r r':GStep):Prop :=
 ∀fr cs W1 es,r=.go (G fr cs) W1 es ->(w.drawn<=W1.drawn/\W1.tape=w.tape) /\(W1.drawn<=lim->r'=.go (G fr cs) (Ed τ a b W1) es)
section
variable {X : Cx} {P P' : Program} {B : Lk} {τ : Tape} {a b lim : Nat}
theorem Eb {w:World}{g:Goroutine}{es:Array Event}:Tl1 τ a b lim w (.go g w es) (.go g (Ed τ a b w) es):=by
 intro fr cs W1 e h
 cases h
 exact⟨⟨Ap0 _,rfl⟩,fun _=>rfl⟩
theorem G9 {w w1:World}{o:Outcome}{es:Array Event}{r':GStep}:Tl1 τ a b lim w (.ended o w1 es) r':=fun _ _ _ _ h=>by cases h
theorem E6 {w w1:World}{o:Outcome}{es es1:Array Event}{r':GStep}:Tl1 τ a b lim w (GStep.after es1 (.ended o w1 es)) r':=G9
theorem F7 {w w1:World}{es:Array Event}{r1 r2 r':GStep}(hm:w.drawn<=w1.drawn/\w1.tape=w.tape)(h:Tl1 τ a b lim w1 r1 r2)(hr:w1.drawn<=lim->r'=GStep.after es r2):Tl1 τ a b lim w (GStep.after es r1) r':=by
 intro fr cs W1 e he;obtain⟨es2,h1,rfl⟩:=Jg he;obtain⟨g1,g2⟩:=h _ _ _ _ h1
 refine⟨⟨Ap3 hm.1 g1.1,g1.2.trans hm.2⟩,fun hl=>?_⟩
 rw[hr (Ap3 g1.1 hl),g2 hl]
 rfl
theorem Hh {α β:Type}{R:Lk->α->β->Prop}{s:Sem α}{s':Sem β}(hs:SR X P P' R B s s'){V W:World}(hw:WR X B V W)(hA:Fc τ a b lim V) :
 (∃v V1 es B1 d,s.runT P V #[]=(.ok v V1,es) /\(V.drawn<=V1.drawn/\V1.tape=V.tape)/\Fc τ a b lim V1 /\(V1.drawn<=lim->s.runT P (Ed τ a b V) #[]=(.ok v (Ed τ a b V1),es))/\Le B B1/\R B1 v d/\∃W1,WR X B1 V1 W1) \/
 (∃v V1 es,s.runT P V #[]=(.halt (.panic v) V1,es) /\(V.drawn<=V1.drawn/\V1.tape=V.tape) /\(V1.drawn<=lim->s.runT P (Ed τ a b V) #[]=(.halt (.panic v) (Ed τ a b V1),es))) \/
 ∃h V1 es,s.runT P V #[]=(.halt h V1,es)/\L8 h:=by
 obtain⟨hcl,hr⟩:=hs V W hw;have e0:(s.runT P V #[]).1=s.run P V:=by rw[Sem.runT_eq]
 rcases hcl with⟨h,V1,e1,e2⟩|hcl
 ·refine .inr (.inr ⟨h,V1,(s.runT P V #[]).2,?_,e2⟩)
  rw[<-e1,<-e0]
 have hm:=A3b (P:=P) s V #[];have ht:=Ail (P:=P) (lim:=lim) s V #[] hA (fun e he=>(hcl #[] e he).elim (fun h=>by simp at h) id)
 have hp:s.runT P V #[]=(s.run P V,(s.runT P V #[]).2):=by rw[<-e0]
 rw[e0]at hm ht;generalize (s.runT P V #[]).2=es at hp ht;generalize s.run P V=r at hm ht hp hr
 match r,hr with
 | .ok v V1,⟨B',W',d,n,h1,h2,h3,h4,h5⟩ =>
   exact .inl ⟨v,V1,es,B',d,hp,hm,hA.on hm.1 hm.2,ht,h1.le,h4,W',h2⟩
 | .halt x V1,k =>
   rcases Gj x with⟨v,rfl⟩|hn
   ·exact .inr (.inl ⟨v,V1,es,hp,hm,ht⟩)
   ·exact .inr (.inr ⟨x,V1,es,hp,Hv hn k⟩)
theorem Po {fr:Frame}{cs:List Frame}{s:Sem Next}{w w':World}{n:Next}{es:Array Event}(h:s.runT P w #[]=(.ok n w',es))(hn:Plain n)
 (hk:∀d r s k,fr.todo≠.call d true r s :: k):stepG.apply P true fr cs none s w=GStep.after (seen P fr.fn (if fr.kind == .early then#[]else es)) (A2r P fr cs w' n):=by
 unfold stepG.apply;rw[Apb rfl,h]
 cases n<;>first
  | exact hn.elim
  | rfl
  |(dsimp only[A2r,G]
    generalize seen P fr.fn _=E
    split
    ·exact absurd ‹_› (hk _ _ _ _)
    ·rfl)
theorem K2 {fr:Frame}{cs:List Frame}{s:Sem Next}{w w':World}{v:Value}{es:Array Event}(h:s.runT P w #[]=(.halt (.panic v) w',es)) :
 stepG.apply P true fr cs none s w=GStep.after (seen P fr.fn (if fr.kind == .early then#[]else es)) (.go (G (fr.raise [⟨v,false,false⟩]) cs) w'):=by
 unfold stepG.apply;rw[Apb rfl,h]
 rfl
theorem Pf {fr fr':Frame}(hf:En X B fr fr'){cs:List Frame}{s s':Sem Next}(hs:SR X P P' (Vb X) B s s'){V W:World}(hw:WR X B V W)(hA:Fc τ a b lim V) :
 Tl1 τ a b lim V (stepG.apply P true fr cs none s V) (stepG.apply P true fr cs none s (Ed τ a b V)):=by
 rcases Hh hs hw hA with⟨v,V1,es,B1,d,e1,hm,hA1,e2,hl,hr,_⟩ |⟨v,V1,es,e1,hm,e2⟩ |⟨h,V1,es,e1,hn⟩
 ·have hp:Plain v:=by cases hr<;>trivial
  rw[Po e1 hp hf.todo.kind.1]
  refine F7 hm (r2:=A2r P fr cs (Ed τ a b V1) v) ?_ (fun hl=>Po (e2 hl) hp hf.todo.kind.1)
  cases hr<;>exact Eb
 ·rw[K2 e1]
  exact F7 hm (r2:=.go (G (fr.raise [⟨v,false,false⟩]) cs) (Ed τ a b V1)) Eb (fun hl=>K2 (e2 hl))
 ·obtain⟨o,w1,es1,h⟩:=Nl (fr:=fr) (cs:=cs) e1 hn;rw[h]
  exact G9
theorem M4 {fr c:Frame}{cs:List Frame}{v:Value}(m:Bool)(w:World):Tl1 τ a b lim w (doReturn P m fr (c :: cs) none v w) (doReturn P m fr (c :: cs) none v (Ed τ a b w)):=by
 unfold doReturn;dsimp only
 cases fr.kind<;>exact Eb
variable (H : Whole X P P')
theorem Ut {V W:World}(hw:WR X B V W)(hA:Fc τ a b lim V){base:List Frame}{fr fr':Frame}{cs cs':List Frame}(hf:En X B fr fr')(hc:M8 X B cs cs')(hb:cs=[]->fr.roundOf=none)(m:Bool)(j:Option Code)(hj:∀c,j=some c->Km X c c) :
 Tl1 τ a b lim V
  (match fr.roundOf with
   | none=>if(match (generalizing:=false) j with|none=>true|some .ret=>true|_=>false)=true then GStep.go (G { fr with mode:=.returning } (cs++base)) V else .ended (.stuck "exit, goto: no such block or label" (fr.pos P)) V
   | some l=>match (Instr.endRound l j).runT P V #[]with
     | (r,es)=>GStep.after (seen P fr.fn es) (match r with
       | .ok v w=>doReturn P m fr (cs++base) none v w
       | .halt _ w=>.ended (.stuck "range over a function: no such loop" (fr.pos P)) w))
  (match fr.roundOf with
   | none=>if(match (generalizing:=false) j with|none=>true|some .ret=>true|_=>false)=true then GStep.go (G { fr with mode:=.returning } (cs++base)) (Ed τ a b V)else .ended (.stuck "exit, goto: no such block or label" (fr.pos P)) (Ed τ a b V)
   | some l=>match (Instr.endRound l j).runT P (Ed τ a b V) #[]with
     | (r,es)=>GStep.after (seen P fr.fn es) (match r with
       | .ok v w=>doReturn P m fr (cs++base) none v w
       | .halt _ w=>.ended (.stuck "range over a function: no such loop" (fr.pos P)) w)):=by
 have hr:=hf.roundOf
 cases hro:fr.roundOf with
 | none =>
   dsimp only;generalize (match (generalizing:=false) j with|none=>true|some .ret=>true|_=>false:Bool)=q
   cases q
   ·rw[Ap8 (by simp),Ap8 (by simp)];exact G9
   ·rw[Apb rfl,Apb rfl]
    exact Eb
 | some l =>
   rw[hro]at hr
   cases hro':fr'.roundOf with
   | none=>rw[hro']at hr;cases hr
   | some l' =>
     rw[hro']at hr
     cases hr
     rename_i hl
     dsimp only
     cases hc with
     | nil=>rw[hb rfl]at hro;cases hro
     | cons hcc hc =>
       rcases Hh (R4 (P:=P) (P':=P) hl j hj) hw hA with⟨v,V1,es,B1,d,e1,hm,hA1,e2,_⟩ |⟨v,V1,es,e1,hm,e2⟩ |⟨h,V1,es,e1,hn⟩
       ·rw[e1]
        refine F7 hm (M4 m V1) (fun hl=>?_)
        rw[e2 hl]
        rfl
       ·rw[e1]
        exact E6
       ·rw[e1]
        exact E6
include H
theorem Agk {V W:World}(hw:WR X B V W)(hA:Fc τ a b lim V){fr fr':Frame}(hf:En X B fr fr'){cs:List Frame}{ops:Array Oper}{i:Nat}{rest:List Nat}{k:List Item}
 (ht:fr.todo=.inRegion ops (i :: rest) :: k) (hops:∀o∈ops,X.K o) :
 Tl1 τ a b lim V (stepG.oper P true fr cs none V) (stepG.oper P true fr cs none (Ed τ a b V)):=by
 unfold stepG.oper Frame.oper?;rw[ht];dsimp only
 cases ho:ops[i]? with
 | none=>exact G9
 | some o =>
   dsimp only;have hok:=H.hK o (hops o (Aq3 ho));have hev:=hf.evR hw.Ie H.hG
   cases hro:fr.roundOf with
   | none=>exact Pf hf (Ca H.hF H.hM o hok hev fun f=>⟨rfl,rfl⟩) hw hA
   | some l =>
     cases hop:o.op with
     | defer c =>
       have:=hok.1;rw[hop]at this
       exact this.elim
     | _=>exact Pf hf (Ca H.hF H.hM o hok hev fun f=>⟨rfl,rfl⟩) hw hA
theorem Agj {V W:World}(hw:WR X B V W)(hA:Fc τ a b lim V){base:List Frame}{fr fr':Frame}{cs cs':List Frame}(hf:En X B fr fr')(hc:M8 X B cs cs')(hb:cs=[]->fr.roundOf=none)(m:Bool) :
 Tl1 τ a b lim V (stepG.exec P m true fr (cs++base) none V) (stepG.exec P m true fr (cs++base) none (Ed τ a b V)):=by
 have hP:=H.hF.toPRel;obtain⟨fn,tmps,todo,defers,mode,kind,ro⟩:=fr;obtain⟨fn',tmps',todo',defers',mode',kind',ro'⟩:=fr';have ht:=hf.todo;dsimp only at ht hb
 cases ht with
 | nil=>exact Ut hw hA hf hc hb m none fun c e=>by cases e
 | cons hi hk =>
  cases hi with
  | inBlock i =>
    unfold stepG.exec
    exact Eb
  | inScope hcd =>
    unfold stepG.exec
    exact Eb
  | inLoop hcd =>
    unfold stepG.exec
    exact Eb
  | inRangeFunc hl =>
    unfold stepG.exec
    exact G9
  | beginRound =>
    unfold stepG.exec;have hr:=hf.roundOf;dsimp only;dsimp only at hr
    refine Pf hf (P':=P') (s':=(do ro'.elim (stuck "beginRound: no round") Instr.beginRound;pure .skip)) ?_ hw hA
    cases hr with
    | none=>exact SR.Cw
    | some hl=>exact SR.bind (Jc hP hl) fun _ _ _ _ _=>SR.pure .skip
  | endRangeFunc hl =>
    rename_i l l'
    unfold stepG.exec;dsimp only
    rcases Hh (Uj hP hl) hw hA with⟨v,V1,es,B1,d,e1,hm,hA1,e2,_⟩ |⟨v,V1,es,e1,hm,e2⟩ |⟨h,V1,es,e1,hn⟩
    ·rw[e1]
     refine F7 (r2:=.go _ (Ed τ a b V1)) hm Eb (fun hl=>?_)
     rw[e2 hl]
    ·rw[e1]
     refine F7 (r2:=.go _ (Ed τ a b V1)) hm Eb (fun hl=>?_)
     rw[e2 hl]
    ·rw[e1]
     cases h<;>first|exact hn.elim|exact E6
  | inRegion ops l hops =>
    cases l with
    | nil =>
      unfold stepG.exec
      exact Eb
    | cons i rest =>
      have ho:=Agk H hw hA hf (cs:=cs++base) rfl hops;unfold stepG.exec;dsimp only
      split
      ·exact ho
      ·exact Eb
  | @code c c' hcd =>
    cases c with
    | skip =>
      unfold stepG.exec
      exact Eb
    | label l =>
      unfold stepG.exec
      exact Eb
    | ret =>
      unfold stepG.exec
      exact Ut hw hA hf hc hb m (some .ret) fun c e=>by cases e;rfl
    | seq a b =>
      unfold stepG.exec
      exact Eb
    | cond o a b =>
      unfold stepG.exec;dsimp only;generalize Frame.eval _ o=v
      cases v<;>first
       | exact G9
       | exact Eb
    | block i a =>
      unfold stepG.exec
      exact Eb
    | loop a =>
      unfold stepG.exec
      exact Eb
    | scope a =>
      unfold stepG.exec
      exact Eb
    | exit i =>
      unfold stepG.exec;dsimp only
      rcases Px i hk with⟨e1,e2⟩ |⟨q,q',e1,e2,hq⟩
      ·rw[e1]
       exact Ut hw hA hf hc hb m (some (.exit i)) fun c e=>by cases e;rfl
      ·rw[e1]
       exact Eb
    | goto l=>exact hcd.elim
    | refuse why =>
      unfold stepG.exec
      exact G9
    | region id ops d =>
      unfold stepG.exec;dsimp only
      cases d with
      | false=>exact Eb
      | true =>
        rcases Hh (SR.choose (X:=X) (P:=P) (P':=P') (B:=B) (.order fn id)) hw hA with⟨v,V1,es,B1,d,e1,hm,hA1,e2,_⟩ |⟨v,V1,es,e1,hm,e2⟩ |⟨h,V1,es,e1,hn⟩
        ·have e3:(Go.choose (.order fn id)).run P V=.ok v V1:=by
          rw[Sem.runT_eq]at e1
          exact congrArg Prod.fst e1
         rw[e3];intro fr2 cs2 W1 e0 h
         cases h
         refine⟨hm,fun hl=>?_⟩
         have e4:(Go.choose (.order fn id)).run P (Ed τ a b V)=.ok v (Ed τ a b V1):=by
          have:=e2 hl;rw[Sem.runT_eq]at this
          exact congrArg Prod.fst this
         rw[e4]
         rfl
        ·have e3:(Go.choose (.order fn id)).run P V=.halt (.panic v) V1:=by
          rw[Sem.runT_eq]at e1
          exact congrArg Prod.fst e1
         rw[e3]
         exact G9
        ·have e3:(Go.choose (.order fn id)).run P V=.halt h V1:=by
          rw[Sem.runT_eq]at e1
          exact congrArg Prod.fst e1
         rw[e3]
         exact G9
    | rangeFunc f ps aa bb =>
      obtain⟨aa',bb',rfl,h00,h01,h02⟩:=hcd;obtain rfl:fn'=fn:=hf.fn;unfold stepG.exec;dsimp only;have hev:=hf.evR hw.Ie H.hG f h00
      rcases Hh (Kj (P:=P) (P':=P') fn' hf.tmps ps h01 h02 hf.roundOf) hw hA with⟨x,V1,es,B1,y,e1,hm,hA1,e2,hle,hab,W1,hw1⟩ |⟨v,V1,es,e1,hm,e2⟩ |⟨h,V1,es,e1,hn⟩
      ·dsimp only at e1 e2;rw[e1];obtain⟨l,mk⟩:=x;obtain⟨l',mk'⟩:=y;obtain⟨hl,hmk⟩:=hab;dsimp only at hl hmk ⊢;have hf1:=hf.mono hle;have hf2:En X B1 ⟨fn',tmps,.inRangeFunc l :: _,mk++defers,mode,kind,ro⟩ ⟨fn',tmps',.inRangeFunc l' :: _,mk'++defers',mode',kind',ro'⟩:=⟨rfl,hf1.tmps,.cons (.inRangeFunc hl) (hk.mono hle),hmk.append hf1.defers,hf1.mode,hf1.kind,hf1.roundOf⟩;have hev1:=hev.mono hle;have hone:AR X B1 #[Value.func (.yield l) #[] #[]] #[Value.func (.yield l') #[] #[]]:=AR.one (.func (.yield _ _ hl) rfl (fun i v v' (a:(#[]:Array Value)[i]?=some v) _=>by simp at a) rfl (fun i v v' (a:(#[]:Array Value)[i]?=some v) _=>by simp at a))
       refine F7 hm (Pf hf2 (P':=P') (cs:=cs++base) (s':=(do let d <-resolve (Frame.eval ⟨fn',tmps',[],mk'++defers',mode',kind',ro'⟩) { callee:=.value f,args:=#[.const (.func (.yield l') #[] #[])],argTypes:=#[] } 0;invoke d.target d.args)) ?_ hw1 hA1) (fun hl=>?_)
       ·refine SR.bind (R:=fun B' d d'=>DfR X B' d d') ?_ fun B2 l2 d d' hd=>Gn H.hF H.hM hd.1 hd.2
        refine Nx ?_ ?_
        ·cases f<;>exact hev1
        ·simpa [Frame.eval]using hone
       ·rw[e2 hl]
      ·dsimp only at e1;rw[e1]
       exact E6
      ·dsimp only at e1;rw[e1]
       exact E6
theorem Rm {V W:World}(hw:WR X B V W)(hA:Fc τ a b lim V){cs:List Frame}{fr:Frame}{d d':Deferred}(hd:DfR X B d d') :
 Tl1 τ a b lim V (callDeferred P fr cs none d V) (callDeferred P fr cs none d (Ed τ a b V)):=by
 unfold callDeferred;generalize ((match d.target with|.nil=>true|_=>false) && (match fr.mode with|.panicking _=>true|_=>false))=q
 cases q with
 | true=>exact G9
 | false =>
   rw[Ap8 (by simp),Ap8 (by simp)]
   rcases Hh (Gn H.hF H.hM hd.1 hd.2) hw hA with⟨v,V1,es,B1,d,e1,hm,hA1,e2,hle,hab,_⟩ |⟨v,V1,es,e1,hm,e2⟩ |⟨h,V1,es,e1,hn⟩
   ·rw[e1]
    cases hab<;>exact F7 (r2:=.go _ (Ed τ a b V1)) hm Eb (fun hl=>by rw[e2 hl])
   ·rw[e1]
    exact F7 (r2:=.go _ (Ed τ a b V1)) hm Eb (fun hl=>by rw[e2 hl])
   ·rw[e1]
    cases h with
    | unsupported u=>exact E6
    | exit c=>exact E6
    | stuck m=>exact E6
    | _=>exact hn.elim
theorem Aai {V W:World}(hw:WR X B V W)(hA:Fc τ a b lim V){fr fr':Frame}{cs base:List Frame}(hf:En X B fr fr')(hb:cs=[]->fr.defers≠[])(m:Bool) :
 Tl1 τ a b lim V (unwind P m fr (cs++base) none V) (unwind P m fr (cs++base) none (Ed τ a b V)):=by
 have hP:=H.hF.toPRel;have hd:=hf.defers;unfold unwind
 cases h1:fr.defers with
 | cons d ds =>
   rw[h1]at hd
   cases h2:fr'.defers with
   | nil=>rw[h2]at hd;cases hd
   | cons d' ds' =>
     rw[h2]at hd
     cases hd with
     | cons hq hdd hds =>
     obtain⟨t,p⟩:=d;obtain⟨t',p'⟩:=d';have hcd:=Rm H hw hA (cs:=cs++base) (fr:={ fr with defers:=ds }) hdd
     obtain⟨ht,hp⟩:=hdd;dsimp only at ht hp
     cases ht with
     | fn _ _=>exact hcd
     | nil=>exact hcd
     | builtin _ _ _ _ _=>exact hcd
     | collected hr =>
       dsimp only
       rcases Hh (Ku (P:=P) (P':=P') hr) hw hA with⟨v,V1,es,B1,d,e1,hm,hA1,e2,hle,hab,_⟩ |⟨v,V1,es,e1,hm,e2⟩ |⟨h,V1,es,e1,hn⟩
       ·rw[e1]
        exact F7 (r2:=.go _ (Ed τ a b V1)) hm Eb (fun hl=>by rw[e2 hl])
       ·rw[e1]
        exact E6
       ·rw[e1]
        exact E6
 | nil =>
   cases cs with
   | nil=>exact absurd h1 (hb rfl)
   | cons c cs =>
   dsimp only[List.cons_append]
   cases h3:fr.mode with
   | run=>exact G9
   | panicking chain =>
     dsimp only
     split
     ·exact G9
     ·exact Eb
   | returning =>
     dsimp only
     cases h4:P.funcs[fr.fn]? with
     | none=>exact M4 m V
     | some fn =>
       dsimp only
       have hres:∃fn',P'.funcs[fr.fn]?=some fn'/\fn'.results=fn.results:=by
        rcases H.hF.funcs fr.fn with⟨e1,e2⟩ |⟨f1,f2,e1,e2,hn,hr,_⟩
        ·rw[h4]at e1;cases e1
        ·rw[h4]at e1;cases e1;exact⟨f2,e2,hr⟩
       obtain⟨fn',h5,hres⟩:=hres
       rcases Hh (Ip hP hres hf.tmps) hw hA with⟨v,V1,es,B1,d,e1,hm,hA1,e2,hle,hab,_⟩ |⟨v,V1,es,e1,hm,e2⟩ |⟨h,V1,es,e1,hn⟩
       ·rw[e1]
        exact F7 hm (M4 m V1) (fun hl=>by rw[e2 hl])
       ·rw[e1]
        exact E6
       ·rw[e1]
        cases h<;>exact E6
theorem Agf {V W:World}(hw:WR X B V W)(hA:Fc τ a b lim V){base:List Frame}{fr fr':Frame}{cs cs':List Frame}(hf:En X B fr fr')(hc:M8 X B cs cs')(hb:cs=[]->fr.roundOf=none /\(fr.mode=.run\/fr.defers≠[]))(m:Bool) :
 Tl1 τ a b lim V (stepG P m (G fr (cs++base)) V) (stepG P m (G fr (cs++base)) (Ed τ a b V)):=by
 by_cases hr:fr.mode=.run
 ·rw[Ju hr,Ju hr]
  exact Agj H hw hA hf hc (fun e=>(hb e).1) m
 ·rw[Df hr,Df hr]
  exact Aai H hw hA hf (fun e=>(hb e).2.resolve_left hr) m
end
end Lr
namespace Lr
open Go.Conc Tl
def Hn (fr:Frame):List Frame->Option Nat
 | []=>fr.roundOf
 | c :: cs=>Hn c cs
theorem Dl {fr fr1:Frame}(h:fr1.roundOf=fr.roundOf)(cs:List Frame):Hn fr1 cs=Hn fr cs:=by
 cases cs with
 | nil=>exact h
 | cons c cs=>rfl
theorem E4 (fr:Frame)(v:Value):(fr.finish v).roundOf=fr.roundOf:=by
 unfold Frame.finish
 split<;>rfl
theorem J3 (fr:Frame)(l:List PanicEntry):(fr.raise l).roundOf=fr.roundOf:=by
 unfold Frame.raise
 split<;>rfl
def Bt (base:List Frame)(x:Option Nat)(r:GStep):Prop:=∀fr cs W1 es,r=.go (G fr (cs++base)) W1 es->Hn fr cs=x
section
variable {X : Cx} {P P' : Program} {B : Lk} {base : List Frame} {x : Option Nat}
theorem Ci {w:World}{fr:Frame}{cs:List Frame}{es:Array Event}(h:Hn fr cs=x):Bt base x (.go (G fr (cs++base)) w es):=by
 intro fr1 cs1 W1 e h1;injection h1 with h1 _ _
 injection h1 with h2 h3 _ _
 obtain rfl:=h2;obtain rfl:=Ar5 h3
 exact h
theorem E3 {w1:World}{o:Outcome}{es:Array Event}:Bt base x (.ended o w1 es):=fun _ _ _ _ h=>by cases h
theorem D9 {es:Array Event}{r1:GStep}(h:Bt base x r1):Bt base x (GStep.after es r1):=by
 intro fr cs W1 e he;obtain⟨es2,h1,rfl⟩:=Jg he
 exact h _ _ _ _ h1
theorem Oa {fr fr':Frame}(hf:En X B fr fr'){cs:List Frame}{s s':Sem Next}(hs:SR X P P' (Vb X) B s s'){V W:World}(hw:WR X B V W) :
 Bt base (Hn fr cs) (stepG.apply P true fr (cs++base) none s V):=by
 rcases Hh (τ:=V.tape) (a:=0) (b:=0) (lim:=0) hs hw ⟨Aq1 _,fun n q h1 h2=>by omega⟩with⟨v,V1,es,B1,d,e1,hm,hA1,e2,hl,hr,_⟩ |⟨v,V1,es,e1,hm,e2⟩ |⟨h,V1,es,e1,hn⟩
 ·have hp:Plain v:=by cases hr<;>trivial
  rw[Po e1 hp hf.todo.kind.1]
  refine D9 ?_
  cases hr with
  | value _=>exact Ci (Dl (E4 _ _) cs)
  | skip=>exact Ci (Dl (E4 _ _) cs)
  | enter f hcf hp=>exact Ci (cs:=fr :: cs) rfl
  | round f hl hp ha hb=>exact Ci (cs:=fr :: cs) rfl
  | defer hd=>exact Ci (Dl (by rw[E4]) cs)
 ·rw[K2 e1]
  exact D9 (Ci (Dl (J3 _ _) cs))
 ·obtain⟨o,w1,es1,h⟩:=Nl (fr:=fr) (cs:=cs++base) e1 hn;rw[h]
  exact E3
theorem Lf {fr c:Frame}{cs:List Frame}{v:Value}(m:Bool)(w:World):Bt base (Hn fr (c :: cs)) (doReturn P m fr (c :: cs++base) none v w):=by
 unfold doReturn;dsimp only[List.cons_append]
 cases fr.kind with
 | normal=>exact Ci (Dl (E4 _ _) cs)
 | wrapped=>exact Ci (Dl (E4 _ _) cs)
 | early=>exact Ci rfl
 | _ =>
   refine Ci (Dl ?_ cs)
   split
   ·split<;>rfl
   ·rfl
theorem Su {V W:World}(hw:WR X B V W){fr fr':Frame}{cs cs':List Frame}(hf:En X B fr fr')(hc:M8 X B cs cs')(hb:cs=[]->fr.roundOf=none)(m:Bool)(j:Option Code)(hj:∀c,j=some c->Km X c c) :
 Bt base (Hn fr cs)
  (match fr.roundOf with
   | none=>if(match (generalizing:=false) j with|none=>true|some .ret=>true|_=>false)=true then GStep.go (G { fr with mode:=.returning } (cs++base)) V else .ended (.stuck "exit, goto: no such block or label" (fr.pos P)) V
   | some l=>match (Instr.endRound l j).runT P V #[]with
     | (r,es)=>GStep.after (seen P fr.fn es) (match r with
       | .ok v w=>doReturn P m fr (cs++base) none v w
       | .halt _ w=>.ended (.stuck "range over a function: no such loop" (fr.pos P)) w)):=by
 cases hro:fr.roundOf with
 | none =>
   dsimp only;generalize (match (generalizing:=false) j with|none=>true|some .ret=>true|_=>false:Bool)=q
   cases q
   ·rw[Ap8 (by simp)];exact E3
   ·rw[Apb rfl]
    exact Ci (Dl (by first|rfl|exact hro.symm) cs)
 | some l =>
   dsimp only
   cases hc with
   | nil=>rw[hb rfl]at hro;cases hro
   | cons hcc hc =>
     refine D9 ?_
     generalize (Instr.endRound l j).runT P V #[]=q;obtain⟨r,es⟩:=q
     cases r with
     | ok v w=>exact Lf m w
     | halt h w=>exact E3
variable (H : Whole X P P')
include H
theorem Aeq {V W:World}(hw:WR X B V W){fr fr':Frame}(hf:En X B fr fr'){cs:List Frame}{ops:Array Oper}{i:Nat}{rest:List Nat}{k:List Item}
 (ht:fr.todo=.inRegion ops (i :: rest) :: k) (hops:∀o∈ops,X.K o) :
 Bt base (Hn fr cs) (stepG.oper P true fr (cs++base) none V):=by
 unfold stepG.oper Frame.oper?;rw[ht];dsimp only
 cases ho:ops[i]? with
 | none=>exact E3
 | some o =>
   dsimp only;have hok:=H.hK o (hops o (Aq3 ho));have hev:=hf.evR hw.Ie H.hG
   cases hro:fr.roundOf with
   | none=>exact Oa hf (Ca H.hF H.hM o hok hev fun f=>⟨rfl,rfl⟩) hw
   | some l =>
     cases hop:o.op with
     | defer c =>
       have:=hok.1;rw[hop]at this
       exact this.elim
     | _=>exact Oa hf (Ca H.hF H.hM o hok hev fun f=>⟨rfl,rfl⟩) hw
theorem Aep {V W:World}(hw:WR X B V W){fr fr':Frame}{cs cs':List Frame}(hf:En X B fr fr')(hc:M8 X B cs cs')(hb:cs=[]->fr.roundOf=none)(m:Bool) :
 Bt base (Hn fr cs) (stepG.exec P m true fr (cs++base) none V):=by
 have hP:=H.hF.toPRel;obtain⟨fn,tmps,todo,defers,mode,kind,ro⟩:=fr;obtain⟨fn',tmps',todo',defers',mode',kind',ro'⟩:=fr';have ht:=hf.todo;dsimp only at ht hb;have key:∀(td:List Item) (df:List Deferred),Hn ⟨fn,tmps,td,df,mode,kind,ro⟩ cs=Hn ⟨fn,tmps,todo,defers,mode,kind,ro⟩ cs:=fun td df=>Dl (by first|rfl|exact hro.symm) cs
 cases ht with
 | nil=>exact Su hw hf hc hb m none fun c e=>by cases e
 | cons hi hk =>
  cases hi with
  | inBlock i=>unfold stepG.exec;exact Ci (key _ _)
  | inScope hcd=>unfold stepG.exec;exact Ci (key _ _)
  | inLoop hcd=>unfold stepG.exec;exact Ci (key _ _)
  | inRangeFunc hl=>unfold stepG.exec;exact E3
  | beginRound =>
    unfold stepG.exec;have hr:=hf.roundOf;dsimp only;dsimp only at hr
    refine Oa hf (P':=P') (s':=(do ro'.elim (stuck "beginRound: no round") Instr.beginRound;pure .skip)) ?_ hw
    cases hr with
    | none=>exact SR.Cw
    | some hl=>exact SR.bind (Jc hP hl) fun _ _ _ _ _=>SR.pure .skip
  | endRangeFunc hl =>
    rename_i l l'
    unfold stepG.exec;dsimp only
    refine D9 ?_
    generalize (Instr.endLoop l).runT P V #[]=q;obtain⟨r,es⟩:=q
    cases r with
    | ok v w=>exact Ci (key _ _)
    | halt h w =>
      cases h<;>first
       | exact E3
       | exact Ci (Dl (J3 _ _) cs)
  | inRegion ops l hops =>
    cases l with
    | nil=>unfold stepG.exec;exact Ci (key _ _)
    | cons i rest =>
      have ho:=Aeq H hw hf (cs:=cs) (base:=base) rfl hops;unfold stepG.exec;dsimp only
      split
      ·exact ho
      ·exact Ci (Dl (E4 _ _) cs)
  | @code c c' hcd =>
    cases c with
    | skip=>unfold stepG.exec;exact Ci (key _ _)
    | label l=>unfold stepG.exec;exact Ci (key _ _)
    | ret =>
      unfold stepG.exec
      exact Su hw hf hc hb m (some .ret) fun c e=>by cases e;rfl
    | seq a b=>unfold stepG.exec;exact Ci (key _ _)
    | cond o a b =>
      unfold stepG.exec;dsimp only;generalize Frame.eval _ o=v
      cases v<;>first
       | exact E3
       | exact Ci (key _ _)
    | block i a=>unfold stepG.exec;exact Ci (key _ _)
    | loop a=>unfold stepG.exec;exact Ci (key _ _)
    | scope a=>unfold stepG.exec;exact Ci (key _ _)
    | exit i =>
      unfold stepG.exec;dsimp only
      rcases Px i hk with⟨e1,e2⟩ |⟨q,q',e1,e2,hq⟩
      ·rw[e1]
       exact Su hw hf hc hb m (some (.exit i)) fun c e=>by cases e;rfl
      ·rw[e1]
       exact Ci (key _ _)
    | goto l=>exact hcd.elim
    | refuse why=>unfold stepG.exec;exact E3
    | region id ops d =>
      unfold stepG.exec;dsimp only
      cases d with
      | false=>exact Ci (key _ _)
      | true =>
        generalize (Go.choose (.order fn id)).run P V=r
        cases r with
        | ok v w=>exact Ci (key _ _)
        | halt h w=>exact E3
    | rangeFunc f ps aa bb =>
      obtain⟨aa',bb',rfl,h00,h01,h02⟩:=hcd;obtain rfl:fn'=fn:=hf.fn;unfold stepG.exec;dsimp only;have hev:=hf.evR hw.Ie H.hG f h00
      rcases Hh (τ:=V.tape) (a:=0) (b:=0) (lim:=0) (Kj (P:=P) (P':=P') fn' hf.tmps ps h01 h02 hf.roundOf) hw ⟨Aq1 _,fun n q h1 h2=>by omega⟩with⟨x,V1,es,B1,y,e1,hm,hA1,e2,hle,hab,W1,hw1⟩ |⟨v,V1,es,e1,hm,e2⟩ |⟨h,V1,es,e1,hn⟩
      ·dsimp only at e1 e2;rw[e1];obtain⟨l,mk⟩:=x;obtain⟨l',mk'⟩:=y;obtain⟨hl,hmk⟩:=hab;dsimp only at hl hmk ⊢;have hf1:=hf.mono hle;have hf2:En X B1 ⟨fn',tmps,.inRangeFunc l :: _,mk++defers,mode,kind,ro⟩ ⟨fn',tmps',.inRangeFunc l' :: _,mk'++defers',mode',kind',ro'⟩:=⟨rfl,hf1.tmps,.cons (.inRangeFunc hl) (hk.mono hle),hmk.append hf1.defers,hf1.mode,hf1.kind,hf1.roundOf⟩;have hev1:=hev.mono hle;have hone:AR X B1 #[Value.func (.yield l) #[] #[]] #[Value.func (.yield l') #[] #[]]:=AR.one (.func (.yield _ _ hl) rfl (fun i v v' (a:(#[]:Array Value)[i]?=some v) _=>by simp at a) rfl (fun i v v' (a:(#[]:Array Value)[i]?=some v) _=>by simp at a))
       refine D9 ?_
       have hba:=Oa (base:=base) hf2 (P:=P) (P':=P') (cs:=cs) (s:=(do let d <-resolve (Frame.eval ⟨fn',tmps,[],mk++defers,mode,kind,ro⟩ f |> fun _=>(⟨fn',tmps,[],mk++defers,mode,kind,ro⟩:Frame).eval) { callee:=.value f,args:=#[.const (.func (.yield l) #[] #[])],argTypes:=#[] } 0;invoke d.target d.args)) (s':=(do let d <-resolve (Frame.eval ⟨fn',tmps',[],mk'++defers',mode',kind',ro'⟩) { callee:=.value f,args:=#[.const (.func (.yield l') #[] #[])],argTypes:=#[] } 0;invoke d.target d.args)) ?_ hw1
       ·rw[key]at hba
        exact hba
       ·refine SR.bind (R:=fun B' d d'=>DfR X B' d d') ?_ fun B2 l2 d d' hd=>Gn H.hF H.hM hd.1 hd.2
        refine Nx ?_ ?_
        ·cases f<;>exact hev1
        ·simpa [Frame.eval]using hone
      ·dsimp only at e1;rw[e1]
       exact D9 E3
      ·dsimp only at e1;rw[e1]
       exact D9 E3
theorem Rg {V W:World}(hw:WR X B V W){cs:List Frame}{fr:Frame}{d d':Deferred}(hd:DfR X B d d') :
 Bt base (Hn fr cs) (callDeferred P fr (cs++base) none d V):=by
 unfold callDeferred;generalize ((match d.target with|.nil=>true|_=>false) && (match fr.mode with|.panicking _=>true|_=>false))=q
 cases q with
 | true=>exact E3
 | false =>
   rw[Ap8 (by simp)]
   rcases Hh (τ:=V.tape) (a:=0) (b:=0) (lim:=0) (Gn H.hF H.hM hd.1 hd.2) hw ⟨Aq1 _,fun n q h1 h2=>by omega⟩with⟨v,V1,es,B1,d,e1,hm,hA1,e2,hle,hab,_⟩ |⟨v,V1,es,e1,hm,e2⟩ |⟨h,V1,es,e1,hn⟩
   ·rw[e1]
    refine D9 ?_
    cases hab with
    | enter f hcf hp=>exact Ci (cs:=fr :: cs) rfl
    | round f hl hp ha hb=>exact Ci (cs:=fr :: cs) rfl
    | _=>exact Ci rfl
   ·rw[e1]
    exact D9 (Ci (Dl (J3 _ _) cs))
   ·rw[e1]
    cases h with
    | unsupported u=>exact D9 E3
    | exit c=>exact D9 E3
    | stuck m=>exact D9 E3
    | _=>exact hn.elim
theorem A8l {V W:World}(hw:WR X B V W){fr fr':Frame}{cs:List Frame}(hf:En X B fr fr')(hb:cs=[]->fr.defers≠[])(m:Bool) :
 Bt base (Hn fr cs) (unwind P m fr (cs++base) none V):=by
 have hP:=H.hF.toPRel;have hd:=hf.defers;unfold unwind
 cases h1:fr.defers with
 | cons d ds =>
   rw[h1]at hd
   cases h2:fr'.defers with
   | nil=>rw[h2]at hd;cases hd
   | cons d' ds' =>
     rw[h2]at hd
     cases hd with
     | cons hq hdd hds =>
     obtain⟨t,p⟩:=d;obtain⟨t',p'⟩:=d';have hcd:=Rg H hw (cs:=cs) (base:=base) (fr:={ fr with defers:=ds }) hdd
     rw[show Hn { fr with defers:=ds } cs=Hn fr cs from Dl (by first|rfl|exact hro.symm) cs]at hcd
     obtain⟨ht,hp⟩:=hdd;dsimp only at ht hp
     cases ht with
     | fn _ _=>exact hcd
     | nil=>exact hcd
     | builtin _ _ _ _ _=>exact hcd
     | collected hr =>
       dsimp only
       refine D9 ?_
       generalize Sem.runT P (Instr.takeDeferred _) V #[]=q;obtain⟨r,es⟩:=q
       cases r with
       | ok v w=>exact Ci (Dl (by first|rfl|exact hro.symm) cs)
       | halt h w=>exact E3
 | nil =>
   cases cs with
   | nil=>exact absurd h1 (hb rfl)
   | cons c cs =>
   dsimp only[List.cons_append]
   cases h3:fr.mode with
   | run=>exact E3
   | panicking chain =>
     dsimp only
     split
     ·exact E3
     ·exact Ci (Dl (J3 _ _) cs)
   | returning =>
     dsimp only
     cases h4:P.funcs[fr.fn]? with
     | none=>exact Lf m V
     | some fn =>
       dsimp only
       refine D9 ?_
       generalize (results fn fr.tmps).runT P V #[]=q;obtain⟨r,es⟩:=q
       cases r with
       | ok v w=>exact Lf m w
       | halt h w=>cases h<;>exact E3
theorem Un {V W:World}(hw:WR X B V W){fr fr':Frame}{cs cs':List Frame}(hf:En X B fr fr')(hc:M8 X B cs cs')(hb:cs=[]->fr.roundOf=none /\(fr.mode=.run\/fr.defers≠[]))(m:Bool) :
 Bt base (Hn fr cs) (stepG P m (G fr (cs++base)) V):=by
 by_cases hr:fr.mode=.run
 ·rw[Ju hr]
  exact Aep H hw hf hc (fun e=>(hb e).1) m
 ·rw[Df hr]
  exact A8l H hw hf (fun e=>(hb e).2.resolve_left hr) m
end
end Lr
end Go.Proofs.YtlfleicchbgcmaaGreat
