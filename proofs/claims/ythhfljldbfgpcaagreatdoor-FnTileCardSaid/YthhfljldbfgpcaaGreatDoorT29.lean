/- Merged texts: LrP, LrR. -/
import Derived.Test.YthhfljldbfgpcaaGreatDoorT28
set_option linter.all false
section
namespace Go.Proofs.YthhfljldbfgpcaaGreatDoor.Lr
open Go.Conc
section
variable {X:Cx} {P P':Program} {B:Lk}
theorem exitTo_lr (i:Nat) {l l':List Item} (h:TdR X B l l'):(exitTo i l=none ∧ exitTo i l'=none) ∨ ∃ k k',exitTo i l=some k ∧ exitTo i l'=some k' ∧ TdR X B k k':=by
 induction h with
 | nil => exact .inl ⟨rfl,rfl⟩
 | cons hi hl ih =>
   cases hi with
   | inBlock j =>
     unfold exitTo
     by_cases e:(j == i)=true
     · rw [if_pos e,if_pos e]; exact .inr ⟨_,_,rfl,rfl,hl⟩
     · rw [if_neg e,if_neg e]; exact ih
   | _ => exact ih
theorem steps2_to {V W:World} (hw:WR X B V W) {base base':List Frame} {fr fr':Frame} {cs cs':List Frame} (hf:FrR X B fr fr') (hc:CsR X B cs cs') :
   Steps2 X P P' B V W base base' (.go (G fr (cs ++ base)) V) (.go (G fr' (cs' ++ base')) W):=by
 refine ⟨?_,.inl ⟨_,_,_,_,rfl⟩⟩
 rintro fr1 csx V1 es he
 cases he
 exact ⟨cs,cs',fr',B,W,#[],rfl,rfl,Ext.refl ..,hw,EvsK.nil,.inl ⟨hf,hc⟩⟩
theorem ofEnded {V W:World} {base base':List Frame} {o:Outcome} {w:World} {es:Array Event} {r':GStep}:Steps2 X P P' B V W base base' (.ended o w es) r':=steps2_end ⟨_,_,_,rfl⟩
theorem FrR.withTodo {fr fr':Frame} (h:FrR X B fr fr') {l l':List Item} (k:TdR X B l l'):FrR X B { fr with todo:=l } { fr' with todo:=l' }:=⟨h.fn,h.tmps,k,h.defers,h.mode,h.kind,h.roundOf⟩
theorem FrR.withMode {fr fr':Frame} (h:FrR X B fr fr') {m m':FrameMode} (k:MoR X B m m'):FrR X B { fr with mode:=m } { fr' with mode:=m' }:=⟨h.fn,h.tmps,h.todo,h.defers,k,h.kind,h.roundOf⟩
theorem dropWhile_lr {l l':List PanicEntry} (h:EnR X B l l'):(l.dropWhile (!·.goexit)=[] ∧ l'.dropWhile (!·.goexit)=[]) ∨ ∃ e m e' m',l.dropWhile (!·.goexit)=e :: m ∧ l'.dropWhile (!·.goexit)=e' :: m' ∧ EnR X B (e :: m) (e' :: m'):=by
 induction h with
 | nil => exact .inl ⟨rfl,rfl⟩
 | @cons v v' r g l l' hv hl ih =>
   cases g with
   | true => exact .inr ⟨_,_,_,_,rfl,rfl,.cons r true hv hl⟩
   | false => simpa [List.dropWhile] using ih
theorem doReturn_lr {V W:World} (hw:WR X B V W) {base base':List Frame} {fr fr':Frame} {c c':Frame} {cs cs':List Frame} (hf:FrR X B fr fr') (hcc:FrR X B c c') (hc:CsR X B cs cs') {v v':Value} (hv:VR X B v v') (m m':Bool) :
   Steps2 X P P' B V W base base' (doReturn P m fr (c :: cs ++ base) none v V) (doReturn P' m' fr' (c' :: cs' ++ base') none v' W):=by
 unfold doReturn
 rw [List.cons_append,List.cons_append]
 dsimp only
 rw [hf.kind]
 cases fr.kind with
 | normal => exact steps2_to hw (hcc.finish hv) hc
 | wrapped => exact steps2_to hw (hcc.finish hv) hc
 | early => exact steps2_to hw hcc hc
 | _ =>
   dsimp only
   refine steps2_to hw ?_ hc
   have hm:=hcc.mode
   cases hcm:c.mode with
   | run =>
     rw [hcm] at hm
     cases hcm':c'.mode <;> rw [hcm'] at hm <;> cases hm
     exact hcc
   | returning =>
     rw [hcm] at hm
     cases hcm':c'.mode <;> rw [hcm'] at hm <;> cases hm
     exact hcc
   | panicking l =>
     rw [hcm] at hm
     cases hcm':c'.mode <;> rw [hcm'] at hm <;> cases hm
     rename_i l' hl
     cases hl with
     | nil => exact hcc
     | cons r g hv hl =>
       cases r with
       | false => exact hcc
       | true =>
         dsimp only
         rcases dropWhile_lr hl with ⟨e1,e2⟩ | ⟨e,m,e',m',e1,e2,e3⟩
         · rw [e1,e2]; exact hcc.withMode .returning
         · rw [e1,e2]; exact hcc.withMode (.panicking e3)
theorem run_lr {α β:Type} {R:Lk → α → β → Prop} {s:Sem α} {s':Sem β} (hs:SR X P P' R B s s') {V W:World} (hw:WR X B V W) :
   (∃ a V1 B1 W1 b n,s.run P V=.ok a V1 ∧ (∀ es,s'.runT P' W es=(.ok b W1,es ++ n)) ∧ Ext X B V W B1 V1 W1 ∧ WR X B1 V1 W1 ∧ R B1 a b ∧ EvsOk X B1 n) ∨
   (∃ v V1 B1 W1 v' n,s.run P V=.halt (.panic v) V1 ∧ (∀ es,s'.runT P' W es=(.halt (.panic v') W1,es ++ n)) ∧ Ext X B V W B1 V1 W1 ∧ WR X B1 V1 W1 ∧ VR X B1 v v' ∧ EvsOk X B1 n) ∨
   ∃ h V1,s.run P V=.halt h V1 ∧ Mute h:=by
 have:=(hs V W hw).2
 generalize s.run P V=r at this
 match r,this with
 | .ok a V',⟨B',W',b,n,h1,h2,h3,h4,h5⟩ => exact .inl ⟨a,V',B',W',b,n,rfl,h3,h1,h2,h4,h5⟩
 | .halt x V',k =>
   rcases halt_cases x with ⟨v,rfl⟩ | hp
   · obtain ⟨B',W',v',n,h1,h2,h3,h4,h5⟩:=k
     exact .inr (.inl ⟨v,V',B',W',v',n,rfl,h3,h1,h2,h4,h5⟩)
   · exact .inr (.inr ⟨x,V',rfl,resR_mute hp k⟩)
theorem after_step {V W V1 W1:World} {B1:Lk} {base base':List Frame} {a a':GStep} (h:Steps2 X P P' B1 V1 W1 base base' a a') (hx:Ext X B V W B1 V1 W1) {n:Array Event} (hn:EvsOk X B1 n) (es:Array Event) (fn:FuncId) :
   Steps2 X P P' B V W base base' (GStep.after es a) (GStep.after (seen P' fn n) a'):=by
 obtain ⟨h,ht⟩:=h
 refine ⟨?_,ht.elim (fun ⟨f,c,v,e,h⟩ => .inl ⟨f,c,v,es ++ e,by rw [h]; rfl⟩) (fun ⟨o,w,e,h⟩ => .inr ⟨o,w,es ++ e,by rw [h]; rfl⟩)⟩
 intro fr1 csx V2 e1 he
 obtain ⟨es2,he,_⟩:=after_go he
 obtain ⟨c1,c1',fr1',B',W2,m,rfl,rfl,h1,h2,h3,h4⟩:=h _ _ _ _ he
 refine ⟨c1,c1',fr1',B',W2,seen P' fn n ++ m,rfl,rfl,hx.trans h1,h2,fun e x => ?_,h4⟩
 rcases Array.mem_append.1 x with x | x
 · have:=(hn.seen (P':=P') fn) e x
   exact ⟨this.1.mono h1.le,this.2⟩
 · exact h3 e x
theorem after_end {V W:World} {base base':List Frame} {a r':GStep} {es:Array Event} (h:∃ o w es,a=.ended o w es):Steps2 X P P' B V W base base' (GStep.after es a) r' :=
 steps2_end (let ⟨o,w,e,h⟩:=h; ⟨o,w,es ++ e,by rw [h]; rfl⟩)
theorem sr_getLoop {l l':Nat} (k:B l l'):SR X P P' (fun B' r r' => LpR X B' r r') B (Instr.getLoop l) (Instr.getLoop l'):=by
 unfold Instr.getLoop
 refine SR.bind (SR.getObj k) fun B1 l1 o o' ho => ?_
 cases ho <;> first
   | exact SR.stuck
   | exact SR.pure (by assumption)
theorem LpR.with {r r':Loop} (h:LpR X B r r') (st:LoopState) (p:Option Code) (hp:∀ c,p=some c → CdR X c c):LpR X B { r with state:=st,pending:=p } { r' with state:=st,pending:=p } :=
 ⟨rfl,rfl,hp,h.fn,h.tmps,h.params,h.assign,h.body,h.defers⟩
theorem sr_endRound {l l':Nat} (k:B l l') (j:Option Code) (hj:∀ c,j=some c → CdR X c c):SR X P P' (VRel X) B (Instr.endRound l j) (Instr.endRound l' j):=by
 unfold Instr.endRound
 refine SR.bind (sr_getLoop k) fun B1 l1 r r' hr => ?_
 exact SR.bind (SR.setObj (l1 _ _ k) (.loop (hr.with _ _ hj))) fun B2 l2 _ _ _ => SR.pure (.bool _)
theorem sr_endLoop (hP:PRel X P P') {l l':Nat} (k:B l l'):SR X P P' (fun _ (c c':Option Code) => c'=c ∧ ∀ x,c=some x → CdR X x x) B (Instr.endLoop l) (Instr.endLoop l'):=by
 unfold Instr.endLoop
 refine SR.bind (sr_getLoop k) fun B1 l1 r r' hr => ?_
 rw [hr.state]
 refine SR.ite (fun _ => sr_pan hP _) (fun _ => ?_)
 exact SR.bind (SR.setObj (l1 _ _ k) (.loop (by rw [hr.pending]; exact hr.with _ _ hr.pok))) fun B2 l2 _ _ _ => SR.pure ⟨hr.pending,hr.pok⟩
theorem sr_beginRound (hP:PRel X P P') {l l':Nat} (k:B l l'):SR X P P' Triv B (Instr.beginRound l) (Instr.beginRound l'):=by
 unfold Instr.beginRound
 refine SR.bind (sr_getLoop k) fun B1 l1 r r' hr => ?_
 refine SR.bind (SR.setObj (l1 _ _ k) (.loop (by rw [hr.pending]; exact hr.with _ _ hr.pok))) fun B2 l2 _ _ _ => ?_
 rw [hr.state]
 cases r.state <;> first
   | exact SR.pure trivial
   | exact SR.runtimePanic hP (e:=.error _) trivial
theorem sr_enterLoop (fn:FuncId) {t t':Array Value} (ht:AR X B t t') (ps:Array Tmp) {a b a' b':Code} (ha:CdR X a a') (hb:CdR X b b') {o o':Option Nat} (ho:OnR B o o') :
   SR X P P' (fun B' (x x':Nat × List Deferred) => B' x.1 x'.1 ∧ DsR X B' x.2 x'.2) B (Instr.enterLoop fn t ps a b o) (Instr.enterLoop fn t' ps a' b' o'):=by
 unfold Instr.enterLoop
 cases ho with
 | none =>
   dsimp only
   refine SR.bind (SR.newObj (.dsome .nil)) fun B1 l1 r r' hr => ?_
   refine SR.bind (R:=fun B' (x x':Nat × List Deferred) => B' x.1 x'.1 ∧ DsR X B' x.2 x'.2) (SR.pure ⟨hr.1,.cons (.inr ⟨_,rfl⟩) ⟨.collected hr.1,AR.nil⟩ .nil⟩) ?_
   rintro B2 l2 ⟨d,m⟩ ⟨d',m'⟩ ⟨h1,h2⟩
   refine SR.bind (SR.newObj (.loop ⟨rfl,rfl,fun c e => (by cases e),rfl,((ht.mono l1).mono l2),rfl,ha,hb,h1⟩)) fun B3 l3 q q' hq => SR.pure ⟨hq.1,h2.mono l3⟩
 | some k =>
   dsimp only
   refine SR.bind (sr_getLoop k) fun B1 l1 r r' hr => ?_
   refine SR.bind (R:=fun B' (x x':Nat × List Deferred) => B' x.1 x'.1 ∧ DsR X B' x.2 x'.2) (SR.pure ⟨hr.defers,.nil⟩) ?_
   rintro B2 l2 ⟨d,m⟩ ⟨d',m'⟩ ⟨h1,h2⟩
   refine SR.bind (SR.newObj (.loop ⟨rfl,rfl,fun c e => (by cases e),rfl,((ht.mono l1).mono l2),rfl,ha,hb,h1⟩)) fun B3 l3 q q' hq => SR.pure ⟨hq.1,h2.mono l3⟩
theorem sr_takeDeferred {l l':Nat} (k:B l l'):SR X P P' (fun B' d d' => DsR X B' d d') B (Instr.takeDeferred l) (Instr.takeDeferred l'):=by
 unfold Instr.takeDeferred
 refine SR.bind (SR.getObj k) fun B1 l1 o o' ho => ?_
 cases ho <;> first
   | exact SR.stuck
   | skip
 rename_i hd
 exact SR.bind (SR.setObj (l1 _ _ k) .dnone) fun B2 l2 _ _ _ => SR.pure (hd.mono l2)
theorem sr_mapMVal {ι:Type} {f f':ι → Sem Value}:∀ (l:List ι) {B:Lk},(∀ x ∈ l,∀ B',Le B B' → SR X P P' (VRel X) B' (f x) (f' x)) → SR X P P' (fun B' v v' => LR X B' v v') B (l.mapM f) (l.mapM f')
 | [],_,_ => by simp only [List.mapM_nil]; exact SR.pure .nil
 | x :: l,B,h => by
   simp only [List.mapM_cons]
   refine SR.bind (h x (by simp) B (Le.refl _)) fun B1 l1 v v' hv => ?_
   refine SR.bind (sr_mapMVal l fun y hy B' hl => h y (by simp [hy]) B' (l1.trans hl)) fun B2 l2 vs vs' hvs => ?_
   exact SR.pure (.cons (hv.mono l2) hvs)
theorem LR.arr:∀ {l l':List Value},LR X B l l' → AR X B l.toArray l'.toArray:=by
 intro l l' h
 refine ⟨?_,?_⟩
 · simp only [List.size_toArray]
   induction h with
   | nil => rfl
   | cons _ _ ih => simp [ih]
 · induction h with
   | nil => intro i v v' a _; simp at a
   | cons h1 _ ih =>
     intro i v v' a b
     cases i with
     | zero => simp at a b; exact a ▸ b ▸ h1
     | succ i => exact ih i v v' (by simpa using a) (by simpa using b)
theorem sr_results (hP:PRel X P P') {fn fn':Func} (he:fn'.results=fn.results) {t t':Array Value} (ht:AR X B t t'):SR X P P' (VRel X) B (results fn t) (results fn' t'):=by
 unfold results
 rw [he,Array.mapM_eq_mapM_toList,Array.mapM_eq_mapM_toList]
 refine SR.bind (R:=ARel X) (SR.map (sr_mapMVal fn.results.toList fun x _ B' hl => ?_) fun B1 _ a b h => LR.arr h) ?_
 · cases x with
   | tmp i => exact SR.pure ((ht.mono hl).getD i undefR)
   | cell a ty => exact SR.bind (SR.asAddr hP ((ht.mono hl).getD a undefR)) fun B2 l2 q q' hq => SR.loadVar hP hq ty
 · intro B1 l1 vs vs' hvs
   refine SR.pure ?_
   by_cases h:vs.size=1
   · have h':vs'.size=1:=hvs.1 ▸ h
     rw [dif_pos h,dif_pos h']
     exact hvs.2 0 _ _ (Array.getElem?_eq_getElem (by omega)) (Array.getElem?_eq_getElem (by omega))
   · have h':¬ vs'.size=1:=hvs.1 ▸ h
     rw [dif_neg h,dif_neg h']
     exact AR.tuple hvs
end
end Go.Proofs.YthhfljldbfgpcaaGreatDoor.Lr
end

section
namespace Go.Proofs.YthhfljldbfgpcaaGreatDoor.Lr
open Go.Conc
theorem stepG_run {P:Program} {m:Bool} {fr:Frame} {cs:List Frame} {w:World} (h:fr.mode=.run):stepG P m (G fr cs) w=stepG.exec P m true fr cs none w:=by
 unfold stepG G
 dsimp only
 rw [h]
theorem stepG_unwind {P:Program} {m:Bool} {fr:Frame} {cs:List Frame} {w:World} (h:fr.mode ≠ .run):stepG P m (G fr cs) w=unwind P m fr cs none w:=by
 unfold stepG G
 dsimp only
 cases hm:fr.mode <;> first | exact absurd hm h | rfl
structure Whole (X:Cx) (P P':Program):Prop where
 hF:FRel X P P'
 hM:MRel X P P'
 hK:∀ o,X.K o → OpOk X P o
 hG:∀ g,X.G g → ¬ X.D g ∧ X.L g=0
section
variable {X:Cx} {P P':Program} {B:Lk} (H:Whole X P P')
theorem leave_lr {V W:World} (hw:WR X B V W) {base base':List Frame} {fr fr':Frame} {cs cs':List Frame} (hf:FrR X B fr fr') (hc:CsR X B cs cs') (hb:cs=[] → fr.roundOf=none) (m m':Bool) (j:Option Code) (hj:∀ c,j=some c → CdR X c c) :
   Steps2 X P P' B V W base base'
     (match fr.roundOf with
       | none => if (match (generalizing:=false) j with | none => true | some .ret => true | _ => false)=true then GStep.go (G { fr with mode:=.returning } (cs ++ base)) V else .ended (.stuck "exit, goto: no such block or label" (fr.pos P)) V
       | some l => match (Instr.endRound l j).runT P V #[] with
         | (r,es) => GStep.after (seen P fr.fn es) (match r with
           | .ok v w => doReturn P m fr (cs ++ base) none v w
           | .halt _ w => .ended (.stuck "range over a function: no such loop" (fr.pos P)) w))
     (match fr'.roundOf with
       | none => if (match (generalizing:=false) j with | none => true | some .ret => true | _ => false)=true then GStep.go (G { fr' with mode:=.returning } (cs' ++ base')) W else .ended (.stuck "exit, goto: no such block or label" (fr'.pos P')) W
       | some l => match (Instr.endRound l j).runT P' W #[] with
         | (r,es) => GStep.after (seen P' fr'.fn es) (match r with
           | .ok v w => doReturn P' m' fr' (cs' ++ base') none v w
           | .halt _ w => .ended (.stuck "range over a function: no such loop" (fr'.pos P')) w)):=by
 have hr:=hf.roundOf
 cases hro:fr.roundOf with
 | none =>
   rw [hro] at hr
   cases hro':fr'.roundOf with
   | some _ => rw [hro'] at hr; cases hr
   | none =>
     dsimp only
     generalize (match (generalizing:=false) j with | none => true | some .ret => true | _ => false:Bool)=q
     cases q
     · rw [if_neg (by simp),if_neg (by simp)]; exact ofEnded
     · rw [if_pos rfl,if_pos rfl]
       exact steps2_to hw ⟨hf.fn,hf.tmps,hf.todo,hf.defers,.returning,hf.kind,.none⟩ hc
 | some l =>
   rw [hro] at hr
   cases hro':fr'.roundOf with
   | none => rw [hro'] at hr; cases hr
   | some l' =>
     rw [hro'] at hr
     cases hr
     rename_i hl
     dsimp only
     cases hc with
     | nil => rw [hb rfl] at hro; cases hro
     | cons hcc hc =>
       rcases run_lr (sr_endRound hl j hj) hw with ⟨a,V1,B1,W1,b,n,e1,e2,hx,hw1,hab,hn⟩ | ⟨v,V1,B1,W1,v',n,e1,e2,hx,hw1,hab,hn⟩ | ⟨h,V1,e1,hm⟩
       · rw [Sem.runT_eq,e1,e2 #[],Array.empty_append]
         exact after_step (doReturn_lr hw1 (hf.mono hx.le) (hcc.mono hx.le) (hc.mono hx.le) hab m m') hx hn _ _
       · rw [Sem.runT_eq,e1]
         exact after_end ⟨_,_,_,rfl⟩
       · rw [Sem.runT_eq,e1]
         exact after_end ⟨_,_,_,rfl⟩
include H
theorem oper_lr {V W:World} (hw:WR X B V W) {base base':List Frame} {fr fr':Frame} {cs cs':List Frame} (hf:FrR X B fr fr') (hc:CsR X B cs cs') {ops:Array Oper} {i:Nat} {rest:List Nat} {k k':List Item}
   (ht:fr.todo=.inRegion ops (i :: rest) :: k) (ht':fr'.todo=.inRegion ops (i :: rest) :: k') (hops:∀ o ∈ ops,X.K o) :
   Steps2 X P P' B V W base base' (stepG.oper P true fr (cs ++ base) none V) (stepG.oper P' true fr' (cs' ++ base') none W):=by
 unfold stepG.oper Frame.oper?
 rw [ht,ht']
 dsimp only
 cases ho:ops[i]? with
 | none => exact ofEnded
 | some o =>
   dsimp only
   have hok:=H.hK o (hops o (Array.mem_of_getElem? ho))
   have hev:=hf.evR hw.glob H.hG
   have hr:=hf.roundOf
   cases hro:fr.roundOf with
   | none =>
     rw [hro] at hr
     cases hro':fr'.roundOf with
     | some _ => rw [hro'] at hr; cases hr
     | none => exact apply_lr H.hF hf hc (good H.hF H.hM o hok hev fun f => ⟨rfl,rfl⟩) hw base base'
   | some l =>
     rw [hro] at hr
     cases hro':fr'.roundOf with
     | none => rw [hro'] at hr; cases hr
     | some l' =>
       rw [hro'] at hr
       cases hr
       rename_i hl
       cases hop:o.op with
       | defer c =>
         have:=hok.1
         rw [hop] at this
         exact this.elim
       | _ => exact apply_lr H.hF hf hc (good H.hF H.hM o hok hev fun f => ⟨rfl,rfl⟩) hw base base'
theorem exec_lr {V W:World} (hw:WR X B V W) {base base':List Frame} {fr fr':Frame} {cs cs':List Frame} (hf:FrR X B fr fr') (hc:CsR X B cs cs') (hb:cs=[] → fr.roundOf=none) (m m':Bool) :
   Steps2 X P P' B V W base base' (stepG.exec P m true fr (cs ++ base) none V) (stepG.exec P' m' true fr' (cs' ++ base') none W):=by
 have hP:=H.hF.toPRel
 obtain ⟨fn,tmps,todo,defers,mode,kind,ro⟩:=fr
 obtain ⟨fn',tmps',todo',defers',mode',kind',ro'⟩:=fr'
 have ht:=hf.todo
 dsimp only at ht hb
 cases ht with
 | nil => exact leave_lr hw hf hc hb m m' none fun c e => by cases e
 | cons hi hk =>
     cases hi with
     | inBlock i =>
       unfold stepG.exec
       exact steps2_to hw (hf.withTodo hk) hc
     | inScope hcd =>
       unfold stepG.exec
       exact steps2_to hw (hf.withTodo hk) hc
     | inLoop hcd =>
       unfold stepG.exec
       exact steps2_to hw (hf.withTodo (.cons (.code hcd) (.cons (.inLoop hcd) hk))) hc
     | inRangeFunc hl =>
       unfold stepG.exec
       exact ofEnded
     | beginRound =>
       unfold stepG.exec
       have hr:=hf.roundOf
       dsimp only
       refine apply_lr H.hF hf hc ?_ hw base base'
       dsimp only at hr
       cases hr with
       | none => exact SR.stuck_bind
       | some hl => exact SR.bind (sr_beginRound hP hl) fun _ _ _ _ _ => SR.pure .skip
     | endRangeFunc hl =>
       rename_i l l'
       unfold stepG.exec
       dsimp only
       rcases run_lr (sr_endLoop hP hl) hw with ⟨a,V1,B1,W1,b,n,e1,e2,hx,hw1,hab,hn⟩ | ⟨v,V1,B1,W1,v',n,e1,e2,hx,hw1,hab,hn⟩ | ⟨h,V1,e1,hm⟩
       · rw [Sem.runT_eq,e1,e2 #[],Array.empty_append]
         obtain ⟨rfl,hcd⟩:=hab
         refine after_step (steps2_to hw1 ((hf.mono hx.le).withTodo ?_) (hc.mono hx.le)) hx hn _ _
         cases b with
         | none => exact hk.mono hx.le
         | some c => exact .cons (.code (hcd c rfl)) (hk.mono hx.le)
       · rw [Sem.runT_eq,e1,e2 #[],Array.empty_append]
         exact after_step (steps2_to hw1 ((hf.mono hx.le).raise (.cons _ _ hab .nil)) (hc.mono hx.le)) hx hn _ _
       · rw [Sem.runT_eq,e1]
         cases h <;> first | exact hm.elim | exact after_end ⟨_,_,_,rfl⟩
     | inRegion ops l hops =>
       cases l with
       | nil =>
         unfold stepG.exec
         exact steps2_to hw (hf.withTodo hk) hc
       | cons i rest =>
         have hy:yielded ops tmps'=yielded ops tmps:=by
           funext j
           unfold yielded
           cases ((ops[j]?).bind (·.dst)) with
           | none => rfl
           | some d =>
             rcases hf.tmps.get d with ⟨v,v',e1,e2,hv⟩ | ⟨e1,e2⟩
             · simp only [Option.bind_some,e1,e2]
               cases hv <;> rfl
             · simp only [Option.bind_some,e1,e2]
         have ho:=oper_lr H hw hf hc (base:=base) (base':=base') rfl rfl hops
         unfold stepG.exec
         dsimp only
         rw [hy]
         split
         · exact ho
         · exact steps2_to hw (hf.finish undefR) hc
     | @code c c' hcd =>
       cases c with
       | skip =>
         obtain rfl:c'=.skip:=hcd
         unfold stepG.exec
         exact steps2_to hw (hf.withTodo hk) hc
       | label l =>
         obtain rfl:c'=.label l:=hcd
         unfold stepG.exec
         exact steps2_to hw (hf.withTodo hk) hc
       | ret =>
         obtain rfl:c'=.ret:=hcd
         unfold stepG.exec
         exact leave_lr hw hf hc hb m m' (some .ret) fun c e => by cases e; rfl
       | seq a b =>
         obtain ⟨a',b',rfl,h1,h2⟩:=hcd
         unfold stepG.exec
         exact steps2_to hw (hf.withTodo (.cons (.code h1) (.cons (.code h2) hk))) hc
       | cond o a b =>
         obtain ⟨a',b',rfl,h0,h1,h2⟩:=hcd
         have hv:=hf.evR hw.glob H.hG o h0
         unfold stepG.exec
         dsimp only
         generalize Frame.eval _ o=v at hv ⊢
         generalize Frame.eval _ o=v' at hv ⊢
         cases hv <;> first
           | exact ofEnded
           | skip
         rename_i q
         cases q
         · exact steps2_to hw (hf.withTodo (.cons (.code h2) hk)) hc
         · exact steps2_to hw (hf.withTodo (.cons (.code h1) hk)) hc
       | block i a =>
         obtain ⟨a',rfl,h1⟩:=hcd
         unfold stepG.exec
         exact steps2_to hw (hf.withTodo (.cons (.code h1) (.cons (.inBlock i) hk))) hc
       | loop a =>
         obtain ⟨a',rfl,h1⟩:=hcd
         unfold stepG.exec
         exact steps2_to hw (hf.withTodo (.cons (.code h1) (.cons (.inLoop h1) hk))) hc
       | scope a =>
         obtain ⟨a',rfl,h1⟩:=hcd
         unfold stepG.exec
         exact steps2_to hw (hf.withTodo (.cons (.code h1) (.cons (.inScope h1) hk))) hc
       | exit i =>
         obtain rfl:c'=.exit i:=hcd
         unfold stepG.exec
         dsimp only
         rcases exitTo_lr i hk with ⟨e1,e2⟩ | ⟨q,q',e1,e2,hq⟩
         · rw [e1,e2]
           exact leave_lr hw hf hc hb m m' (some (.exit i)) fun c e => by cases e; rfl
         · rw [e1,e2]
           exact steps2_to hw (hf.withTodo hq) hc
       | goto l => exact hcd.elim
       | refuse why =>
         unfold stepG.exec
         exact ofEnded
       | region id ops d =>
         obtain ⟨rfl,hcd⟩:=hcd
         unfold stepG.exec
         dsimp only
         cases d with
         | false => exact steps2_to hw (hf.withTodo (.cons (.inRegion ops _ hcd) hk)) hc
         | true =>
           have hfo:P'.follows .mixedOrders=P.follows .mixedOrders:=by rw [hP.tab]
           obtain rfl:fn'=fn:=hf.fn
           rw [hfo]
           rcases run_lr (SR.choose (X:=X) (P:=P) (P':=P') (B:=B) (.order fn' id)) hw with ⟨a,V1,B1,W1,b,n,e1,e2,hx,hw1,hab,hn⟩ | ⟨v,V1,B1,W1,v',n,e1,e2,hx,hw1,hab,hn⟩ | ⟨h,V1,e1,hm⟩
           · have e3:(Go.choose (.order fn' id)).run P' W=.ok b W1:=by
               have:=e2 #[]
               rw [Sem.runT_eq] at this
               exact congrArg Prod.fst this
             rw [e1,e3]
             obtain rfl:b=a:=hab
             have:=steps2_to (P:=P) (P':=P') (base:=base) (base':=base') hw1 ((hf.mono hx.le).withTodo (.cons (.inRegion ops (Region.schedule (P.follows .mixedOrders) ops b) hcd) (hk.mono hx.le))) (hc.mono hx.le)
             refine ⟨?_,.inl ⟨_,_,_,_,rfl⟩⟩
             intro fr1 csx V2 e0 he
             obtain ⟨c1,c1',fr1',B',W2,m0,h3,h4,h5,h6,h7,h8⟩:=this.1 _ _ _ _ he
             exact ⟨c1,c1',fr1',B',W2,m0,h3,h4,hx.trans h5,h6,h7,h8⟩
           · rw [e1]; exact ofEnded
           · rw [e1]; exact ofEnded
       | rangeFunc f ps a b =>
         obtain ⟨a',b',rfl,h0,h1,h2⟩:=hcd
         obtain rfl:fn'=fn:=hf.fn
         unfold stepG.exec
         dsimp only
         have hev:=hf.evR hw.glob H.hG f h0
         rcases run_lr (sr_enterLoop (P:=P) (P':=P') fn' hf.tmps ps h1 h2 hf.roundOf) hw with ⟨x,V1,B1,W1,y,n,e1,e2,hx,hw1,hab,hn⟩ | ⟨v,V1,B1,W1,v',n,e1,e2,hx,hw1,hab,hn⟩ | ⟨h,V1,e1,hm⟩
         · dsimp only at e1 e2
           rw [Sem.runT_eq,e1,e2 #[],Array.empty_append]
           obtain ⟨l,mk⟩:=x
           obtain ⟨l',mk'⟩:=y
           obtain ⟨hl,hmk⟩:=hab
           dsimp only at hl hmk ⊢
           have hf1:=hf.mono hx.le
           have hf2:FrR X B1 ⟨fn',tmps,.inRangeFunc l :: _,mk ++ defers,mode,kind,ro⟩ ⟨fn',tmps',.inRangeFunc l' :: _,mk' ++ defers',mode',kind',ro'⟩:=⟨rfl,hf1.tmps,.cons (.inRangeFunc hl) (hk.mono hx.le),hmk.append hf1.defers,hf1.mode,hf1.kind,hf1.roundOf⟩
           refine after_step (apply_lr H.hF hf2 (hc.mono hx.le) ?_ hw1 base base') hx hn _ _
           have hev1:=hev.mono hx.le
           refine SR.bind (R:=fun B' d d' => DfR X B' d d') ?_ fun B2 l2 d d' hd => sr_invoke H.hF H.hM hd.1 hd.2
           have hone:AR X B1 #[Value.func (.yield l) #[] #[]] #[Value.func (.yield l') #[] #[]]:=AR.one (.func (.yield _ _ hl) rfl (fun i v v' (a:(#[]:Array Value)[i]?=some v) _ => by simp at a) rfl (fun i v v' (a:(#[]:Array Value)[i]?=some v) _ => by simp at a))
           refine sr_ofValue ?_ ?_
           · cases f <;> exact hev1
           · simpa [Frame.eval] using hone
         · dsimp only at e1
           rw [Sem.runT_eq,e1]
           exact after_end ⟨_,_,_,rfl⟩
         · dsimp only at e1
           rw [Sem.runT_eq,e1]
           exact after_end ⟨_,_,_,rfl⟩
theorem callDeferred_lr {V W:World} (hw:WR X B V W) {base base':List Frame} {fr fr':Frame} {cs cs':List Frame} (hf:FrR X B fr fr') (hc:CsR X B cs cs') {d d':Deferred} (hd:DfR X B d d') (hdn:X.Dn) :
   Steps2 X P P' B V W base base' (callDeferred P fr (cs ++ base) none d V) (callDeferred P' fr' (cs' ++ base') none d' W):=by
 unfold callDeferred
 have hnil:(match d'.target with | .nil => true | _ => false)=(match d.target with | .nil => true | _ => false):=by
   have:=hd.1
   generalize d.target=t at this ⊢
   generalize d'.target=t' at this ⊢
   cases this <;> rfl
 have hmo:(match fr'.mode with | .panicking _ => true | _ => false)=(match fr.mode with | .panicking _ => true | _ => false):=by
   have:=hf.mode
   generalize fr.mode=t at this ⊢
   generalize fr'.mode=t' at this ⊢
   cases this <;> rfl
 generalize hq:((match d.target with | .nil => true | _ => false) && (match fr.mode with | .panicking _ => true | _ => false))=q
 generalize hq':((match d'.target with | .nil => true | _ => false) && (match fr'.mode with | .panicking _ => true | _ => false))=q'
 obtain rfl:q'=q:=by rw [← hq',← hq,hnil,hmo]
 cases q' with
 | true => exact ofEnded
 | false =>
   rw [if_neg (by simp),if_neg (by simp)]
   rcases run_lr (sr_invoke H.hF H.hM hd.1 hd.2) hw with ⟨a,V1,B1,W1,b,n,e1,e2,hx,hw1,hab,hn⟩ | ⟨v,V1,B1,W1,v',n,e1,e2,hx,hw1,hab,hn⟩ | ⟨h,V1,e1,hm⟩
   · rw [Sem.runT_eq,e1,e2 #[],Array.empty_append]
     have hf1:=hf.mono hx.le
     have hc1:=hc.mono hx.le
     cases hab with
     | value _ => exact after_step (steps2_to hw1 hf1 hc1) hx hn _ _
     | skip => exact after_step (steps2_to hw1 hf1 hc1) hx hn _ _
     | defer _ _ => exact after_step (steps2_to hw1 hf1 hc1) hx hn _ _
     | enter f hcf har hp =>
       refine after_step ⟨?_,.inl ⟨_,_,_,_,rfl⟩⟩ hx hn _ _
       rintro fr1 csx V2 es he
       cases he
       exact ⟨fr :: cs,fr' :: cs',_,B1,W1,#[],rfl,rfl,Ext.refl ..,hw1,EvsK.nil,enter_lr H.hF hcf har hp _ (fun _ => ⟨.inr hdn,by simp⟩) (.cons hf1 hc1)⟩
     | @round l l' f p p' a b a' b' hl hp ha hb =>
       have hfr:FrR X B1 (Frame.round l f p a b .deferred) (Frame.round l' f p' a' b' .deferred):=⟨rfl,hp,.cons (.code ha) (.cons .beginRound (.cons (.code hb) .nil)),.nil,.run,rfl,.some hl⟩
       exact after_step (steps2_to (cs:=fr :: cs) (cs':=fr' :: cs') hw1 hfr (.cons hf1 hc1)) hx hn _ _
   · rw [Sem.runT_eq,e1,e2 #[],Array.empty_append]
     exact after_step (steps2_to hw1 ((hf.mono hx.le).raise (.cons _ _ hab .nil)) (hc.mono hx.le)) hx hn _ _
   · rw [Sem.runT_eq,e1]
     cases h with
     | unsupported u => exact after_end ⟨_,_,_,rfl⟩
     | exit c => exact after_end ⟨_,_,_,rfl⟩
     | stuck m => exact after_end ⟨_,_,_,rfl⟩
     | _ => exact hm.elim
theorem unwind_lr {V W:World} (hw:WR X B V W) {base base':List Frame} {fr fr':Frame} {cs cs':List Frame} (hf:FrR X B fr fr') (hcs:CsR X B cs cs') (hb:cs=[] → fr.defers ≠ []) (m m':Bool) :
   Steps2 X P P' B V W base base' (unwind P m fr (cs ++ base) none V) (unwind P' m' fr' (cs' ++ base') none W):=by
 have hP:=H.hF.toPRel
 have hd:=hf.defers
 unfold unwind
 cases h1:fr.defers with
 | cons d ds =>
   rw [h1] at hd
   cases h2:fr'.defers with
   | nil => rw [h2] at hd; cases hd
   | cons d' ds' =>
     rw [h2] at hd
     cases hd with
     | cons hq hdd hds =>
     obtain ⟨t,p⟩:=d
     obtain ⟨t',p'⟩:=d'
     have hcd:=fun hdn => callDeferred_lr H hw (base:=base) (base':=base') (fr:={ fr with defers:=ds }) (fr':={ fr' with defers:=ds' }) ⟨hf.fn,hf.tmps,hf.todo,hds,hf.mode,hf.kind,hf.roundOf⟩ hcs hdd hdn
     obtain ⟨ht,hp⟩:=hdd
     dsimp only at ht hp
     cases ht with
     | fn _ _ => exact hcd (hq.resolve_right fun ⟨_,h⟩ => by cases h)
     | nil => exact hcd (hq.resolve_right fun ⟨_,h⟩ => by cases h)
     | builtin _ _ _ _ _ => exact hcd (hq.resolve_right fun ⟨_,h⟩ => by cases h)
     | collected hr =>
       dsimp only
       rcases run_lr (sr_takeDeferred (P:=P) (P':=P') hr) hw with ⟨a,V1,B1,W1,b,n,e1,e2,hx,hw1,hab,hn⟩ | ⟨v,V1,B1,W1,v',n,e1,e2,hx,hw1,hab,hn⟩ | ⟨h,V1,e1,hm⟩
       · rw [Sem.runT_eq,e1,e2 #[],Array.empty_append]
         have hf1:=hf.mono hx.le
         exact after_step (steps2_to (fr:={ fr with defers:=a ++ ds }) (fr':={ fr' with defers:=b ++ ds' }) (cs:=cs) (cs':=cs') hw1 ⟨hf1.fn,hf1.tmps,hf1.todo,hab.append (hds.mono hx.le),hf1.mode,hf1.kind,hf1.roundOf⟩ (hcs.mono hx.le)) hx hn _ _
       · rw [Sem.runT_eq,e1]
         exact after_end ⟨_,_,_,rfl⟩
       · rw [Sem.runT_eq,e1]
         exact after_end ⟨_,_,_,rfl⟩
 | nil =>
   rw [h1] at hd
   cases h2:fr'.defers with
   | cons _ _ => rw [h2] at hd; cases hd
   | nil =>
     cases hcs with
     | nil => exact absurd h1 (hb rfl)
     | @cons c c' cs cs' hcc hc =>
     dsimp only
     have hm:=hf.mode
     cases h3:fr.mode with
     | run => exact ofEnded
     | panicking chain =>
       rw [h3] at hm
       cases h4:fr'.mode <;> rw [h4] at hm <;> cases hm
       rename_i chain' hch
       dsimp only
       have hcat:fr'.catches P'=fr.catches P:=by
         unfold Frame.catches
         rw [hf.fn]
         have ht:=hf.todo
         have hfs:=H.hF.funcs fr.fn
         rcases hfs with ⟨e1,e2⟩ | ⟨_,_,e1,e2,_⟩
         · rw [e1,e2]
           generalize fr.todo=t at ht
           generalize fr'.todo=t' at ht
           cases ht with
           | nil => rfl
           | cons hi _ => cases hi <;> rfl
         · rw [e1,e2]
       rw [hcat]
       split
       · exact ofEnded
       · exact steps2_to hw (hcc.raise hch) hc
     | returning =>
       rw [h3] at hm
       cases h4:fr'.mode <;> rw [h4] at hm <;> cases hm
       dsimp only
       rw [hf.fn]
       rcases H.hF.funcs fr.fn with ⟨e1,e2⟩ | ⟨fn,fn',e1,e2,_,hres,_,_⟩
       · rw [e1,e2]
         exact doReturn_lr hw hf hcc hc (hf.tmps.getD 0 undefR) m m'
       · rw [e1,e2]
         dsimp only
         rcases run_lr (sr_results hP hres hf.tmps) hw with ⟨a,V1,B1,W1,b,n,e1,e2,hx,hw1,hab,hn⟩ | ⟨v,V1,B1,W1,v',n,e1,e2,hx,hw1,hab,hn⟩ | ⟨h,V1,e1,hm⟩
         · rw [Sem.runT_eq,e1,e2 #[],Array.empty_append]
           exact after_step (doReturn_lr hw1 (hf.mono hx.le) (hcc.mono hx.le) (hc.mono hx.le) hab m m') hx hn _ _
         · rw [Sem.runT_eq,e1]
           exact after_end ⟨_,_,_,rfl⟩
         · rw [Sem.runT_eq,e1]
           cases h <;> first | exact hm.elim | exact after_end ⟨_,_,_,rfl⟩
theorem step_lr {V W:World} (hw:WR X B V W) {base base':List Frame} {fr fr':Frame} {cs cs':List Frame} (hf:FrR X B fr fr') (hc:CsR X B cs cs') (hb:cs=[] → fr.roundOf=none ∧ (fr.mode=.run ∨ fr.defers ≠ [])) (m m':Bool) :
   Steps2 X P P' B V W base base' (stepG P m (G fr (cs ++ base)) V) (stepG P' m' (G fr' (cs' ++ base')) W):=by
 by_cases hr:fr.mode=.run
 · rw [stepG_run hr,stepG_run (hf.place.2 hr)]
   exact exec_lr H hw hf hc (fun e => (hb e).1) m m'
 · rw [stepG_unwind hr,stepG_unwind fun e => hr (hf.place.1 e)]
   exact unwind_lr H hw hf hc (fun e => (hb e).2.resolve_left hr) m m'
end
end Go.Proofs.YthhfljldbfgpcaaGreatDoor.Lr
end
