/- Merged texts: LrU, Bar, BarL. -/
import Derived.Test.YthhfljldbfgpcaaGreatDoorT30
import Derived.Calls
set_option linter.all false
section
namespace Go.Proofs.YthhfljldbfgpcaaGreatDoor.Lr
open Go.Conc Go.Proofs.YthhfljldbfgpcaaGreatDoor.Tl
def botR (fr:Frame):List Frame → Option Nat
 | [] => fr.roundOf
 | c :: cs => botR c cs
theorem botR_of {fr fr1:Frame} (h:fr1.roundOf=fr.roundOf) (cs:List Frame):botR fr1 cs=botR fr cs:=by
 cases cs with
 | nil => exact h
 | cons c cs => rfl
theorem finish_round (fr:Frame) (v:Value):(fr.finish v).roundOf=fr.roundOf:=by
 unfold Frame.finish
 split <;> rfl
theorem raise_round (fr:Frame) (l:List PanicEntry):(fr.raise l).roundOf=fr.roundOf:=by
 unfold Frame.raise
 split <;> rfl
def Bt (base:List Frame) (x:Option Nat) (r:GStep):Prop:=∀ fr cs W1 es,r=.go (G fr (cs ++ base)) W1 es → botR fr cs=x
section
variable {X:Cx} {P P':Program} {B:Lk} {base:List Frame} {x:Option Nat}
theorem bt_go {w:World} {fr:Frame} {cs:List Frame} {es:Array Event} (h:botR fr cs=x):Bt base x (.go (G fr (cs ++ base)) w es):=by
 intro fr1 cs1 W1 e h1
 injection h1 with h1 _ _
 injection h1 with h2 h3 _ _
 obtain rfl:=h2
 obtain rfl:=List.append_cancel_right h3
 exact h
theorem bt_end {w1:World} {o:Outcome} {es:Array Event}:Bt base x (.ended o w1 es):=fun _ _ _ _ h => by cases h
theorem bt_after {es:Array Event} {r1:GStep} (h:Bt base x r1):Bt base x (GStep.after es r1):=by
 intro fr cs W1 e he
 obtain ⟨es2,h1,rfl⟩:=after_go he
 exact h _ _ _ _ h1
theorem bt_apply {fr fr':Frame} (hf:FrR X B fr fr') {cs:List Frame} {s s':Sem Next} (hs:SR X P P' (NxR X) B s s') {V W:World} (hw:WR X B V W) :
   Bt base (botR fr cs) (stepG.apply P true fr (cs ++ base) none s V):=by
 rcases tl_run (τ:=V.tape) (a:=0) (b:=0) (lim:=0) hs hw ⟨Nat.zero_le _,fun n q h1 h2 => by omega⟩ with ⟨v,V1,es,B1,d,e1,hm,hA1,e2,hl,hr,_⟩ | ⟨v,V1,es,e1,hm,e2⟩ | ⟨h,V1,es,e1,hn⟩
 · have hp:Plain v:=by cases hr <;> trivial
   rw [apply_ok' e1 hp hf.todo.kind.1]
   refine bt_after ?_
   cases hr with
   | value _ => exact bt_go (botR_of (finish_round _ _) cs)
   | skip => exact bt_go (botR_of (finish_round _ _) cs)
   | enter f hcf hp => exact bt_go (cs:=fr :: cs) rfl
   | round f hl hp ha hb => exact bt_go (cs:=fr :: cs) rfl
   | defer hd => exact bt_go (botR_of (by rw [finish_round]) cs)
 · rw [apply_panic' e1]
   exact bt_after (bt_go (botR_of (raise_round _ _) cs))
 · obtain ⟨o,w1,es1,h⟩:=apply_mute (fr:=fr) (cs:=cs ++ base) e1 hn
   rw [h]
   exact bt_end
theorem bt_doReturn {fr c:Frame} {cs:List Frame} {v:Value} (m:Bool) (w:World):Bt base (botR fr (c :: cs)) (doReturn P m fr (c :: cs ++ base) none v w):=by
 unfold doReturn
 dsimp only [List.cons_append]
 cases fr.kind with
 | normal => exact bt_go (botR_of (finish_round _ _) cs)
 | wrapped => exact bt_go (botR_of (finish_round _ _) cs)
 | early => exact bt_go rfl
 | _ =>
   refine bt_go (botR_of ?_ cs)
   split
   · split <;> rfl
   · rfl
theorem bt_leave {V W:World} (hw:WR X B V W) {fr fr':Frame} {cs cs':List Frame} (hf:FrR X B fr fr') (hc:CsR X B cs cs') (hb:cs=[] → fr.roundOf=none) (m:Bool) (j:Option Code) (hj:∀ c,j=some c → CdR X c c) :
   Bt base (botR fr cs)
     (match fr.roundOf with
       | none => if (match (generalizing:=false) j with | none => true | some .ret => true | _ => false)=true then GStep.go (G { fr with mode:=.returning } (cs ++ base)) V else .ended (.stuck "exit, goto: no such block or label" (fr.pos P)) V
       | some l => match (Instr.endRound l j).runT P V #[] with
         | (r,es) => GStep.after (seen P fr.fn es) (match r with
           | .ok v w => doReturn P m fr (cs ++ base) none v w
           | .halt _ w => .ended (.stuck "range over a function: no such loop" (fr.pos P)) w)):=by
 cases hro:fr.roundOf with
 | none =>
   dsimp only
   generalize (match (generalizing:=false) j with | none => true | some .ret => true | _ => false:Bool)=q
   cases q
   · rw [if_neg (by simp)]; exact bt_end
   · rw [if_pos rfl]
     exact bt_go (botR_of (by first | rfl | exact hro.symm) cs)
 | some l =>
   dsimp only
   cases hc with
   | nil => rw [hb rfl] at hro; cases hro
   | cons hcc hc =>
     refine bt_after ?_
     generalize (Instr.endRound l j).runT P V #[]=q
     obtain ⟨r,es⟩:=q
     cases r with
     | ok v w => exact bt_doReturn m w
     | halt h w => exact bt_end
variable (H:Whole X P P')
include H
theorem bt_oper {V W:World} (hw:WR X B V W) {fr fr':Frame} (hf:FrR X B fr fr') {cs:List Frame} {ops:Array Oper} {i:Nat} {rest:List Nat} {k:List Item}
   (ht:fr.todo=.inRegion ops (i :: rest) :: k) (hops:∀ o ∈ ops,X.K o) :
   Bt base (botR fr cs) (stepG.oper P true fr (cs ++ base) none V):=by
 unfold stepG.oper Frame.oper?
 rw [ht]
 dsimp only
 cases ho:ops[i]? with
 | none => exact bt_end
 | some o =>
   dsimp only
   have hok:=H.hK o (hops o (Array.mem_of_getElem? ho))
   have hev:=hf.evR hw.glob H.hG
   cases hro:fr.roundOf with
   | none => exact bt_apply hf (good H.hF H.hM o hok hev fun f => ⟨rfl,rfl⟩) hw
   | some l =>
     cases hop:o.op with
     | defer c =>
       have:=hok.1
       rw [hop] at this
       exact this.elim
     | _ => exact bt_apply hf (good H.hF H.hM o hok hev fun f => ⟨rfl,rfl⟩) hw
theorem bt_exec {V W:World} (hw:WR X B V W) {fr fr':Frame} {cs cs':List Frame} (hf:FrR X B fr fr') (hc:CsR X B cs cs') (hb:cs=[] → fr.roundOf=none) (m:Bool) :
   Bt base (botR fr cs) (stepG.exec P m true fr (cs ++ base) none V):=by
 have hP:=H.hF.toPRel
 obtain ⟨fn,tmps,todo,defers,mode,kind,ro⟩:=fr
 obtain ⟨fn',tmps',todo',defers',mode',kind',ro'⟩:=fr'
 have ht:=hf.todo
 dsimp only at ht hb
 have key:∀ (td:List Item) (df:List Deferred),botR ⟨fn,tmps,td,df,mode,kind,ro⟩ cs=botR ⟨fn,tmps,todo,defers,mode,kind,ro⟩ cs:=fun td df => botR_of (by first | rfl | exact hro.symm) cs
 cases ht with
 | nil => exact bt_leave hw hf hc hb m none fun c e => by cases e
 | cons hi hk =>
     cases hi with
     | inBlock i => unfold stepG.exec; exact bt_go (key _ _)
     | inScope hcd => unfold stepG.exec; exact bt_go (key _ _)
     | inLoop hcd => unfold stepG.exec; exact bt_go (key _ _)
     | inRangeFunc hl => unfold stepG.exec; exact bt_end
     | beginRound =>
       unfold stepG.exec
       have hr:=hf.roundOf
       dsimp only
       dsimp only at hr
       refine bt_apply hf (P':=P') (s':=(do ro'.elim (stuck "beginRound: no round") Instr.beginRound; pure .skip)) ?_ hw
       cases hr with
       | none => exact SR.stuck_bind
       | some hl => exact SR.bind (sr_beginRound hP hl) fun _ _ _ _ _ => SR.pure .skip
     | endRangeFunc hl =>
       rename_i l l'
       unfold stepG.exec
       dsimp only
       refine bt_after ?_
       generalize (Instr.endLoop l).runT P V #[]=q
       obtain ⟨r,es⟩:=q
       cases r with
       | ok v w => exact bt_go (key _ _)
       | halt h w =>
         cases h <;> first
           | exact bt_end
           | exact bt_go (botR_of (raise_round _ _) cs)
     | inRegion ops l hops =>
       cases l with
       | nil => unfold stepG.exec; exact bt_go (key _ _)
       | cons i rest =>
         have ho:=bt_oper H hw hf (cs:=cs) (base:=base) rfl hops
         unfold stepG.exec
         dsimp only
         split
         · exact ho
         · exact bt_go (botR_of (finish_round _ _) cs)
     | @code c c' hcd =>
       cases c with
       | skip => unfold stepG.exec; exact bt_go (key _ _)
       | label l => unfold stepG.exec; exact bt_go (key _ _)
       | ret =>
         unfold stepG.exec
         exact bt_leave hw hf hc hb m (some .ret) fun c e => by cases e; rfl
       | seq a b => unfold stepG.exec; exact bt_go (key _ _)
       | cond o a b =>
         unfold stepG.exec
         dsimp only
         generalize Frame.eval _ o=v
         cases v <;> first
           | exact bt_end
           | exact bt_go (key _ _)
       | block i a => unfold stepG.exec; exact bt_go (key _ _)
       | loop a => unfold stepG.exec; exact bt_go (key _ _)
       | scope a => unfold stepG.exec; exact bt_go (key _ _)
       | exit i =>
         unfold stepG.exec
         dsimp only
         rcases exitTo_lr i hk with ⟨e1,e2⟩ | ⟨q,q',e1,e2,hq⟩
         · rw [e1]
           exact bt_leave hw hf hc hb m (some (.exit i)) fun c e => by cases e; rfl
         · rw [e1]
           exact bt_go (key _ _)
       | goto l => exact hcd.elim
       | refuse why => unfold stepG.exec; exact bt_end
       | region id ops d =>
         unfold stepG.exec
         dsimp only
         cases d with
         | false => exact bt_go (key _ _)
         | true =>
           generalize (Go.choose (.order fn id)).run P V=r
           cases r with
           | ok v w => exact bt_go (key _ _)
           | halt h w => exact bt_end
       | rangeFunc f ps aa bb =>
         obtain ⟨aa',bb',rfl,h00,h01,h02⟩:=hcd
         obtain rfl:fn'=fn:=hf.fn
         unfold stepG.exec
         dsimp only
         have hev:=hf.evR hw.glob H.hG f h00
         rcases tl_run (τ:=V.tape) (a:=0) (b:=0) (lim:=0) (sr_enterLoop (P:=P) (P':=P') fn' hf.tmps ps h01 h02 hf.roundOf) hw ⟨Nat.zero_le _,fun n q h1 h2 => by omega⟩ with ⟨x,V1,es,B1,y,e1,hm,hA1,e2,hle,hab,W1,hw1⟩ | ⟨v,V1,es,e1,hm,e2⟩ | ⟨h,V1,es,e1,hn⟩
         · dsimp only at e1 e2
           rw [e1]
           obtain ⟨l,mk⟩:=x
           obtain ⟨l',mk'⟩:=y
           obtain ⟨hl,hmk⟩:=hab
           dsimp only at hl hmk ⊢
           have hf1:=hf.mono hle
           have hf2:FrR X B1 ⟨fn',tmps,.inRangeFunc l :: _,mk ++ defers,mode,kind,ro⟩ ⟨fn',tmps',.inRangeFunc l' :: _,mk' ++ defers',mode',kind',ro'⟩:=⟨rfl,hf1.tmps,.cons (.inRangeFunc hl) (hk.mono hle),hmk.append hf1.defers,hf1.mode,hf1.kind,hf1.roundOf⟩
           have hev1:=hev.mono hle
           have hone:AR X B1 #[Value.func (.yield l) #[] #[]] #[Value.func (.yield l') #[] #[]]:=AR.one (.func (.yield _ _ hl) rfl (fun i v v' (a:(#[]:Array Value)[i]?=some v) _ => by simp at a) rfl (fun i v v' (a:(#[]:Array Value)[i]?=some v) _ => by simp at a))
           refine bt_after ?_
           have hba:=bt_apply (base:=base) hf2 (P:=P) (P':=P') (cs:=cs) (s:=(do let d ← resolve (Frame.eval ⟨fn',tmps,[],mk ++ defers,mode,kind,ro⟩ f |> fun _ => (⟨fn',tmps,[],mk ++ defers,mode,kind,ro⟩:Frame).eval) { callee:=.value f,args:=#[.const (.func (.yield l) #[] #[])],argTypes:=#[] } 0; invoke d.target d.args)) (s':=(do let d ← resolve (Frame.eval ⟨fn',tmps',[],mk' ++ defers',mode',kind',ro'⟩) { callee:=.value f,args:=#[.const (.func (.yield l') #[] #[])],argTypes:=#[] } 0; invoke d.target d.args)) ?_ hw1
           · rw [key] at hba
             exact hba
           · refine SR.bind (R:=fun B' d d' => DfR X B' d d') ?_ fun B2 l2 d d' hd => sr_invoke H.hF H.hM hd.1 hd.2
             refine sr_ofValue ?_ ?_
             · cases f <;> exact hev1
             · simpa [Frame.eval] using hone
         · dsimp only at e1
           rw [e1]
           exact bt_after bt_end
         · dsimp only at e1
           rw [e1]
           exact bt_after bt_end
theorem bt_callDeferred {V W:World} (hw:WR X B V W) {cs:List Frame} {fr:Frame} {d d':Deferred} (hd:DfR X B d d') :
   Bt base (botR fr cs) (callDeferred P fr (cs ++ base) none d V):=by
 unfold callDeferred
 generalize ((match d.target with | .nil => true | _ => false) && (match fr.mode with | .panicking _ => true | _ => false))=q
 cases q with
 | true => exact bt_end
 | false =>
   rw [if_neg (by simp)]
   rcases tl_run (τ:=V.tape) (a:=0) (b:=0) (lim:=0) (sr_invoke H.hF H.hM hd.1 hd.2) hw ⟨Nat.zero_le _,fun n q h1 h2 => by omega⟩ with ⟨v,V1,es,B1,d,e1,hm,hA1,e2,hle,hab,_⟩ | ⟨v,V1,es,e1,hm,e2⟩ | ⟨h,V1,es,e1,hn⟩
   · rw [e1]
     refine bt_after ?_
     cases hab with
     | enter f hcf hp => exact bt_go (cs:=fr :: cs) rfl
     | round f hl hp ha hb => exact bt_go (cs:=fr :: cs) rfl
     | _ => exact bt_go rfl
   · rw [e1]
     exact bt_after (bt_go (botR_of (raise_round _ _) cs))
   · rw [e1]
     cases h with
     | unsupported u => exact bt_after bt_end
     | exit c => exact bt_after bt_end
     | stuck m => exact bt_after bt_end
     | _ => exact hn.elim
theorem bt_unwind {V W:World} (hw:WR X B V W) {fr fr':Frame} {cs:List Frame} (hf:FrR X B fr fr') (hb:cs=[] → fr.defers ≠ []) (m:Bool) :
   Bt base (botR fr cs) (unwind P m fr (cs ++ base) none V):=by
 have hP:=H.hF.toPRel
 have hd:=hf.defers
 unfold unwind
 cases h1:fr.defers with
 | cons d ds =>
   rw [h1] at hd
   cases h2:fr'.defers with
   | nil => rw [h2] at hd; cases hd
   | cons d' ds' =>
     rw [h2] at hd
     cases hd with
     | cons hq hdd hds =>
     obtain ⟨t,p⟩:=d
     obtain ⟨t',p'⟩:=d'
     have hcd:=bt_callDeferred H hw (cs:=cs) (base:=base) (fr:={ fr with defers:=ds }) hdd
     rw [show botR { fr with defers:=ds } cs=botR fr cs from botR_of (by first | rfl | exact hro.symm) cs] at hcd
     obtain ⟨ht,hp⟩:=hdd
     dsimp only at ht hp
     cases ht with
     | fn _ _ => exact hcd
     | nil => exact hcd
     | builtin _ _ _ _ _ => exact hcd
     | collected hr =>
       dsimp only
       refine bt_after ?_
       generalize Sem.runT P (Instr.takeDeferred _) V #[]=q
       obtain ⟨r,es⟩:=q
       cases r with
       | ok v w => exact bt_go (botR_of (by first | rfl | exact hro.symm) cs)
       | halt h w => exact bt_end
 | nil =>
   cases cs with
   | nil => exact absurd h1 (hb rfl)
   | cons c cs =>
   dsimp only [List.cons_append]
   cases h3:fr.mode with
   | run => exact bt_end
   | panicking chain =>
     dsimp only
     split
     · exact bt_end
     · exact bt_go (botR_of (raise_round _ _) cs)
   | returning =>
     dsimp only
     cases h4:P.funcs[fr.fn]? with
     | none => exact bt_doReturn m V
     | some fn =>
       dsimp only
       refine bt_after ?_
       generalize (results fn fr.tmps).runT P V #[]=q
       obtain ⟨r,es⟩:=q
       cases r with
       | ok v w => exact bt_doReturn m w
       | halt h w => cases h <;> exact bt_end
theorem step_bot {V W:World} (hw:WR X B V W) {fr fr':Frame} {cs cs':List Frame} (hf:FrR X B fr fr') (hc:CsR X B cs cs') (hb:cs=[] → fr.roundOf=none ∧ (fr.mode=.run ∨ fr.defers ≠ [])) (m:Bool) :
   Bt base (botR fr cs) (stepG P m (G fr (cs ++ base)) V):=by
 by_cases hr:fr.mode=.run
 · rw [stepG_run hr]
   exact bt_exec H hw hf hc (fun e => (hb e).1) m
 · rw [stepG_unwind hr]
   exact bt_unwind H hw hf (fun e => (hb e).2.resolve_left hr) m
end
end Go.Proofs.YthhfljldbfgpcaaGreatDoor.Lr
end

section
namespace Go.Proofs.YthhfljldbfgpcaaGreatDoor.Bar
open Go.Conc Go.Proofs.YthhfljldbfgpcaaGreatDoor.Tl Go.Proofs.YthhfljldbfgpcaaGreatDoor.Lr
structure St where
 fr:Frame
 cs:List Frame
 V:World
def St.at (x:St) (τ:Tape) (d:Nat):St:={ x with V:={ x.V with tape:=τ,drawn:=d } }
def wall (P:Program):Frame:={ fn:=P.funcs.size,tmps:=#[],todo:=[.code (.refuse "")],defers:=[⟨.nil,#[]⟩],mode:=.run,kind:=.normal }
def sg (P:Program) (x:St):GStep:=stepG P true (G x.fr (x.cs ++ [wall P])) x.V
def Go1 (P:Program) (x x':St):Prop:=∃ es,sg P x=.go (G x'.fr (x'.cs ++ [wall P])) x'.V es
def Pop (x:St):Prop:=x.cs=[] ∧ x.fr.mode ≠ .run ∧ x.fr.defers=[]
def Fin (P:Program) (Q:Value → World → Prop) (x:St):Prop:=x.cs=[] ∧ ∃ v,x.fr.leaving P x.V (.returned v) ∧ Q v x.V
inductive Way (P:Program) (F:St → Prop):St → Prop
 | fin {x:St}:F x → Way P F x
 | go {x:St} (g:Tape → Nat → St):(∀ τ d,Go1 P (x.at τ d) (g τ d)) → (∀ τ d,Way P F (g τ d)) → Way P F x
inductive Rch (P:Program) (F:St → Prop):St → Prop
 | fin {x:St}:F x → Rch P F x
 | step {x x':St}:Go1 P x x' → Rch P F x' → Rch P F x
structure Keeps (P:Program) (F J:St → Prop):Prop where
 tape:∀ x τ d,J x → J (x.at τ d)
 step:∀ x,J x → ¬ Pop x → (∃ x',Go1 P x x' ∧ J x') ∨ ∃ o w es,sg P x=.ended o w es
 loc:∀ x,J x → ¬ Pop x → ∀ τ a b lim,Agrees τ a b lim x.V → Tl1 τ a b lim x.V (sg P x) (sg P { x with V:=sft τ a b x.V })
 fin:∀ x τ d,J x → F x → F (x.at τ d)
section
variable {P:Program} {Q:Value → World → Prop} {F J:St → Prop}
theorem Go1.inj {x y z:St} (h:Go1 P x y) (k:Go1 P x z):y=z:=by
 obtain ⟨es,h⟩:=h
 obtain ⟨es',k⟩:=k
 rw [h] at k
 injection k with k1 k2 _
 injection k1 with k3 k4 _ _
 have k5:=List.append_cancel_right k4
 obtain ⟨a,b,c⟩:=y
 obtain ⟨a',b',c'⟩:=z
 dsimp only at k2 k3 k5
 subst k2 k3 k5
 rfl
theorem Fin.pop {x:St} (h:Fin P Q x):Pop x:=by
 obtain ⟨h1,v,⟨h2,h3,_⟩,_⟩:=h
 exact ⟨h1,by rw [h2]; simp,h3⟩
theorem sg_pop {x:St} (h:Pop x):sg P x=unwind P true x.fr [wall P] none x.V:=by
 unfold sg
 rw [h.1]
 exact stepG_unwind h.2.1
theorem pop_go {x:St} (h:Pop x) {fr:Frame} {cs:List Frame} {w:World} {es:Array Event} (k:sg P x=.go (G fr cs) w es):cs=[]:=by
 rw [sg_pop h] at k
 unfold unwind at k
 rw [h.2.2] at k
 dsimp only at k
 have ret:∀ (v:Value) (w1:World) (es1:Array Event),doReturn P true x.fr [wall P] none v w1=.go (G fr cs) w es1 → cs=[]:=by
   intro v w1 es1 e
   unfold doReturn at e
   dsimp only at e
   cases hk:x.fr.kind <;> rw [hk] at e <;> (injection e with e1; injection e1 with _ e2; exact e2.symm)
 split at k
 · cases k
 · split at k
   · cases k
   · injection k with e1; injection e1 with _ e2; exact e2.symm
 · split at k
   · exact ret _ _ _ k
   · obtain ⟨es2,k,_⟩:=after_go k
     split at k
     · exact ret _ _ _ k
     · cases k
     · cases k
theorem Go1.not_pop {x x':St} (h:Go1 P x x'):¬ Pop x:=fun hp => by
 obtain ⟨es,h⟩:=h
 have:=pop_go hp h
 simp at this
theorem rch_tape (K:Keeps P F J) {x:St} (h:Rch P F x):J x → ∀ (τ:Tape) (a b:Nat),a ≤ x.V.drawn → (∀ n q,x.V.drawn ≤ n → τ (n - a + b) q=x.V.tape n q) → Rch P F { x with V:=sft τ a b x.V }:=by
 induction h with
 | @fin x h =>
   intro hj τ a b _ _
   exact .fin (K.fin x τ (x.V.drawn - a + b) hj h)
 | @step x x' h _ ih =>
   intro hj τ a b ha hA
   have hp:=h.not_pop
   have hj':J x':=by
     rcases K.step x hj hp with ⟨y,g,hy⟩ | ⟨o,w,es,e⟩
     · exact (h.inj g) ▸ hy
     · obtain ⟨es',h⟩:=h
       rw [e] at h
       cases h
   obtain ⟨es,h⟩:=h
   obtain ⟨⟨g1,g2⟩,g3⟩:=K.loc x hj hp τ a b x'.V.drawn ⟨ha,fun n q h1 _ => hA n q h1⟩ _ _ _ _ h
   exact .step (x':={ x' with V:=sft τ a b x'.V }) ⟨es,g3 (Nat.le_refl _)⟩ (ih hj' τ a b (Nat.le_trans ha g1) fun n q h1 => by rw [g2]; exact hA n q (Nat.le_trans g1 h1))
def C (P:Program) (F:St → Prop) (x:St):Prop:=∀ τ d,Rch P F (x.at τ d)
theorem inherit (K:Keeps P F J) {x:St} (hj:J x) (hc:C P F x) (hn:¬ F x) (τ:Tape) (d:Nat):∃ x',Go1 P (x.at τ d) x' ∧ J x' ∧ C P F x':=by
 have nofin:∀ τ d,¬ F (x.at τ d):=fun τ d h => hn (by have:=K.fin _ x.V.tape x.V.drawn (K.tape x τ d hj) h; exact this)
 have hj1:=K.tape x τ d hj
 have h1:=hc τ d
 generalize hx1:x.at τ d=x1 at h1 hj1
 cases h1 with
 | fin h => exact absurd (hx1 ▸ h) (nofin τ d)
 | @step _ x' h hr =>
   have hp:=h.not_pop
   have hj':J x':=by
     rcases K.step x1 hj1 hp with ⟨y,g,hy⟩ | ⟨o,w,es,e⟩
     · exact (h.inj g) ▸ hy
     · obtain ⟨es',h⟩:=h
       rw [e] at h
       cases h
   refine ⟨x',h,hj',fun τ' d' => ?_⟩
   let T:Tape:=fun k q => if k < x'.V.drawn then τ k q else τ' (k - x'.V.drawn + d') q
   have hd1:x1.V.drawn=d:=by rw [← hx1]; rfl
   have ht1:x1.V.tape=τ:=by rw [← hx1]; rfl
   obtain ⟨es,h0⟩:=h
   obtain ⟨⟨g1,g2⟩,g3⟩:=K.loc x1 hj1 hp T d d x'.V.drawn ⟨Nat.le_of_eq hd1.symm,fun n q h1 h2 => by
     rw [ht1]
     have e:n - d + d=n:=by omega
     show (if n - d + d < x'.V.drawn then τ (n - d + d) q else _)=_
     rw [e,if_pos h2]⟩ _ _ _ _ h0
   have hgo:Go1 P (x.at T d) { x' with V:=sft T d d x'.V }:=by
     refine ⟨es,?_⟩
     rw [← g3 (Nat.le_refl _)]
     have:x.at T d={ x1 with V:=sft T d d x1.V }:=by
       rw [← hx1]
       simp [St.at,sft]
     rw [this]
   have h2:=hc T d
   generalize hx2:x.at T d=x2 at h2 hgo
   cases h2 with
   | fin h => exact absurd (hx2 ▸ h) (nofin T d)
   | @step _ y hy hr2 =>
     have e:=hgo.inj hy
     subst e
     have hj2:J { x' with V:=sft T d d x'.V }:=K.tape x' T (x'.V.drawn - d + d) hj'
     have:=rch_tape K hr2 hj2 τ' x'.V.drawn d' (by show x'.V.drawn ≤ x'.V.drawn - d + d; omega) (fun n q h => by
       have h:x'.V.drawn - d + d ≤ n:=h
       show τ' (n - x'.V.drawn + d') q=if n < x'.V.drawn then τ n q else τ' (n - x'.V.drawn + d') q
       rw [if_neg (by omega)])
     have e3:x'.V.drawn - d + d - x'.V.drawn + d'=d':=by omega
     have e2:({ x' with V:=sft τ' x'.V.drawn d' (sft T d d x'.V) }:St)=x'.at τ' d':=by
       simp only [sft,St.at,e3]
     exact e2 ▸ this
theorem bar (K:Keeps P F J) {x:St} (hj:J x) (hc:C P F x):Way P F x:=by
 apply Classical.byContradiction
 intro hw
 have next:∀ y:{y:St // J y ∧ C P F y ∧ ¬ Way P F y},∃ (r:Tape × Nat × {y:St // J y ∧ C P F y ∧ ¬ Way P F y}),Go1 P (y.1.at r.1 r.2.1) r.2.2.1:=by
   rintro ⟨y,hj,hc,hw⟩
   have hnf:¬ F y:=fun h => hw (.fin h)
   apply Classical.byContradiction
   intro hcon
   have:∀ τ d,∃ x',Go1 P (y.at τ d) x' ∧ Way P F x':=by
     intro τ d
     obtain ⟨x',g,j,c⟩:=inherit K hj hc hnf τ d
     exact ⟨x',g,Classical.byContradiction fun hw' => hcon ⟨(τ,d,⟨x',j,c,hw'⟩),g⟩⟩
   exact hw (.go (fun τ d => (this τ d).choose) (fun τ d => (this τ d).choose_spec.1) (fun τ d => (this τ d).choose_spec.2))
 let f:{y:St // J y ∧ C P F y ∧ ¬ Way P F y} → Tape × Nat × {y:St // J y ∧ C P F y ∧ ¬ Way P F y}:=fun y => (next y).choose
 have hf:∀ y,Go1 P (y.1.at (f y).1 (f y).2.1) (f y).2.2.1:=fun y => (next y).choose_spec
 let seq:Nat → {y:St // J y ∧ C P F y ∧ ¬ Way P F y}:=fun n => Nat.rec ⟨x,hj,hc,hw⟩ (fun _ y => (f y).2.2) n
 let t:Nat → Tape:=fun n => (f (seq n)).1
 let d:Nat → Nat:=fun n => (f (seq n)).2.1
 have hgo:∀ n,Go1 P ((seq n).1.at (t n) (d n)) (seq (n + 1)).1:=fun n => hf (seq n)
 let k:Nat → Nat:=fun n => Nat.rec 0 (fun n k => k + ((seq (n + 1)).1.V.drawn - d n)) n
 have hk:∀ n,k (n + 1)=k n + ((seq (n + 1)).1.V.drawn - d n):=fun n => rfl
 have hmono:∀ n m,n ≤ m → k n ≤ k m:=by
   intro n m h
   induction h with
   | refl => exact Nat.le_refl _
   | step _ ih => exact Nat.le_trans ih (by rw [hk]; omega)
 have huniq:∀ n m i,k n ≤ i → i < k (n + 1) → k m ≤ i → i < k (m + 1) → n=m:=by
   intro n m i h1 h2 h3 h4
   rcases Nat.lt_trichotomy n m with h | h | h
   · have:=hmono (n + 1) m h
     omega
   · exact h
   · have:=hmono (m + 1) n h
     omega
 let T:Tape:=fun i q => open Classical in if h:∃ n,k n ≤ i ∧ i < k (n + 1) then t h.choose (d h.choose + (i - k h.choose)) q else 0
 have hT:∀ n i q,k n ≤ i → i < k (n + 1) → T i q=t n (d n + (i - k n)) q:=by
   intro n i q h1 h2
   have h:∃ n,k n ≤ i ∧ i < k (n + 1):=⟨n,h1,h2⟩
   have e:h.choose=n:=huniq _ _ i h.choose_spec.1 h.choose_spec.2 h1 h2
   show (open Classical in if h:∃ n,k n ≤ i ∧ i < k (n + 1) then t h.choose (d h.choose + (i - k h.choose)) q else 0)=_
   rw [dif_pos h,e]
 have main:∀ z,Rch P F z → ∀ n,z=(seq n).1.at T (k n) → False:=by
   intro z h
   induction h with
   | @fin z h =>
     intro n e
     subst e
     refine (seq n).2.2.2 (.fin ?_)
     have:=K.fin _ (seq n).1.V.tape (seq n).1.V.drawn (K.tape _ T (k n) (seq n).2.1) h
     exact this
   | @step z z' h _ ih =>
     intro n e
     subst e
     have hg:=hgo n
     have hp:=hg.not_pop
     have hj0:=K.tape _ (t n) (d n) (seq n).2.1
     obtain ⟨es,hg⟩:=hg
     have hA:Agrees T (d n) (k n) (seq (n + 1)).1.V.drawn ((seq n).1.at (t n) (d n)).V:=by
       refine ⟨Nat.le_refl _,fun m q h1 h2 => ?_⟩
       have h1:d n ≤ m:=h1
       show T (m - d n + k n) q=t n m q
       rw [hT n _ q (by omega) (by rw [hk]; omega)]
       congr 1
       omega
     obtain ⟨⟨g1,g2⟩,g3⟩:=K.loc _ hj0 hp T (d n) (k n) _ hA _ _ _ _ hg
     have g1:d n ≤ (seq (n + 1)).1.V.drawn:=g1
     have e1:({ (seq n).1.at (t n) (d n) with V:=sft T (d n) (k n) ((seq n).1.at (t n) (d n)).V }:St)=(seq n).1.at T (k n):=by
       simp [St.at,sft]
     have g4:=g3 (Nat.le_refl _)
     rw [e1] at g4
     have e2:z'=(seq (n + 1)).1.at T (k (n + 1)):=by
       refine h.inj ⟨es,?_⟩
       rw [g4]
       have e3:(seq (n + 1)).1.V.drawn - d n + k n=k (n + 1):=by
         rw [hk]; omega
       simp only [St.at,sft,e3]
     exact ih (n + 1) e2
 exact main _ (hc T 0) 0 rfl
theorem wall_run (w:World):∃ o w1,step P (lone (wall P) [] w)=.ended o w1:=⟨_,_,step_lone_ended (o:=_) (w':=w) (by rfl)⟩
theorem wall_raise (chain:List PanicEntry) (w:World):∃ o w1,step P (lone ((wall P).raise chain) [] w)=.ended o w1:=⟨_,_,step_lone_ended (o:=_) (w':=w) (by rfl)⟩
theorem pop_ends {x:St} (h:Pop x):(∃ o w,step P (lone x.fr [wall P] x.V)=.ended o w) ∨ ∃ fr w o w1,step P (lone x.fr [wall P] x.V)=.next (lone fr [] w) ∧ step P (lone fr [] w)=.ended o w1:=by
 have e:=sg_pop (P:=P) h
 unfold sg at e
 rw [h.1] at e
 have e:stepG P true { frame:=x.fr,callers:=[wall P],status:=.running,dying:=none } x.V=unwind P true x.fr [wall P] none x.V:=e
 have ended:∀ {o:Outcome} {w:World} {es:Array Event},unwind P true x.fr [wall P] none x.V=.ended o w es → ∃ o w,step P (lone x.fr [wall P] x.V)=.ended o w:=fun {o w es} k =>
   ⟨o,w,step_lone_ended (by rw [e,k]; rfl)⟩
 have gone:∀ {fr:Frame} {w:World} {es:Array Event},unwind P true x.fr [wall P] none x.V=.go (G fr []) w es → step P (lone x.fr [wall P] x.V)=.next (lone fr [] w):=fun {fr w es} k =>
   step_lone_go (by rw [e,k]; rfl)
 have ret:∀ (v:Value) (w1:World),∃ fr o w2,doReturn P true x.fr [wall P] none v w1=.go (G fr []) w1 ∧ step P (lone fr [] w1)=.ended o w2:=by
   intro v w1
   unfold doReturn
   dsimp only
   obtain ⟨o,w2,h2⟩:=wall_run (P:=P) w1
   cases hk:x.fr.kind <;> exact ⟨wall P,o,w2,rfl,h2⟩
 generalize hu:unwind P true x.fr [wall P] none x.V=r at ended gone
 unfold unwind at hu
 rw [h.2.2] at hu
 dsimp only at hu
 split at hu
 · exact absurd ‹_› h.2.1
 · split at hu
   · exact .inl (ended hu.symm)
   · rename_i chain _ _
     obtain ⟨o,w2,h2⟩:=wall_raise (P:=P) chain x.V
     exact .inr ⟨_,_,o,w2,gone hu.symm,h2⟩
 · split at hu
   · obtain ⟨fr,o,w2,h2,h3⟩:=ret (x.fr.tmps.getD 0 undef) x.V
     rw [h2] at hu
     exact .inr ⟨_,_,o,w2,gone hu.symm,h3⟩
   · split at hu
     · rename_i v w1 _
       obtain ⟨fr,o,w2,h2,h3⟩:=ret v w1
       rw [h2] at hu
       exact .inr ⟨_,_,o,w2,gone hu.symm,h3⟩
     · exact .inl (ended hu.symm)
     · exact .inl (ended hu.symm)
theorem steps_rch (K:Keeps P F J) {z:St} (hf:F z):∀ (n:Nat) (x:St),J x → runN P n (lone x.fr (x.cs ++ [wall P]) x.V)=.next (lone z.fr (z.cs ++ [wall P]) z.V) → Rch P F x:=by
 intro n
 induction n with
 | zero =>
   intro x _ h
   simp only [runN] at h
   injection h with h
   injection h with h1 h2 _
   have h2:(#[{ frame:=x.fr,callers:=x.cs ++ [wall P],status:=.running,dying:=none }]:Array Goroutine)=#[{ frame:=z.fr,callers:=z.cs ++ [wall P],status:=.running,dying:=none }]:=h2
   simp only [Array.mk.injEq,List.cons.injEq,Goroutine.mk.injEq,and_true] at h2
   obtain ⟨a,b,c⟩:=x
   obtain ⟨a',b',c'⟩:=z
   dsimp only at h1 h2
   obtain ⟨rfl,h3⟩:=h2
   subst h1
   have h3:=List.append_cancel_right h3
   subst h3
   exact .fin hf
 | succ n ih =>
   intro x hj h
   simp only [runN] at h
   by_cases hp:Pop x
   · rw [hp.1] at h
     rcases pop_ends (P:=P) hp with ⟨o,w,e⟩ | ⟨fr1,w,o,w1,e1,e2⟩
     · rw [List.nil_append,e] at h
       cases h
     · rw [List.nil_append,e1] at h
       dsimp only at h
       cases n with
       | zero =>
         simp only [runN] at h
         injection h with h
         injection h with _ h2 _
         have h2:(#[{ frame:=fr1,callers:=[],status:=.running,dying:=none }]:Array Goroutine)=#[{ frame:=z.fr,callers:=z.cs ++ [wall P],status:=.running,dying:=none }]:=h2
         simp at h2
       | succ n =>
         simp only [runN,e2] at h
         cases h
   · rcases K.step x hj hp with ⟨x',⟨es,g⟩,hj'⟩ | ⟨o,w,es,e⟩
     · have:step P (lone x.fr (x.cs ++ [wall P]) x.V)=.next (lone x'.fr (x'.cs ++ [wall P]) x'.V):=step_lone_go (by
         have g:stepG P true { frame:=x.fr,callers:=x.cs ++ [wall P],status:=.running,dying:=none } x.V=_:=g
         rw [g]; rfl)
       rw [this] at h
       exact .step ⟨es,g⟩ (ih x' hj' h)
     · have:step P (lone x.fr (x.cs ++ [wall P]) x.V)=.ended o w:=step_lone_ended (by
         have e:stepG P true { frame:=x.fr,callers:=x.cs ++ [wall P],status:=.running,dying:=none } x.V=_:=e
         rw [e]; rfl)
       rw [this] at h
       cases h
def only (Q:Value → World → Prop):Ending → World → Prop
 | .returned v,w => Q v w
 | _,_ => False
end
end Go.Proofs.YthhfljldbfgpcaaGreatDoor.Bar
end

section
namespace Go.Proofs.YthhfljldbfgpcaaGreatDoor.Bar
open Go.Conc Go.Proofs.YthhfljldbfgpcaaGreatDoor.Tl Go.Proofs.YthhfljldbfgpcaaGreatDoor.Lr
theorem wr_at {X:Cx} {B:Lk} {V W:World} (h:WR X B V W) (τ:Tape) (d:Nat):WR X B { V with tape:=τ,drawn:=d } { W with tape:=τ,drawn:=d } :=
 ⟨rfl,rfl,h.os,h.output,h.fn,h.inj,h.glob,h.live,h.froz,h.dead,h.dlt,h.flt,h.low,h.nV,h.nW⟩
def JL (X:Cx) (x:St):Prop:=∃ B W fr' cs',WR X B x.V W ∧ FrR X B x.fr fr' ∧ CsR X B x.cs cs' ∧ botR x.fr x.cs=none
theorem hb_of {x:St} (hp:¬ Pop x) (hb:botR x.fr x.cs=none):x.cs=[] → x.fr.roundOf=none ∧ (x.fr.mode=.run ∨ x.fr.defers ≠ []):=by
 intro e
 rw [e] at hb
 refine ⟨hb,?_⟩
 by_cases h:x.fr.mode=.run
 · exact .inl h
 · exact .inr fun h2 => hp ⟨e,h,h2⟩
section
variable {X:Cx} {P P':Program} {Q:Value → World → Prop} (H:Whole X P P')
include H
theorem results_lr {V W:World} {B:Lk} (hw:WR X B V W) {fr fr':Frame} (hf:FrR X B fr fr') {fn:Func} (hfn:P.funcs[fr.fn]?=some fn) {v:Value} (hv:(results fn fr.tmps).run P V=.ok v V) :
   (∀ τ d,(results fn fr.tmps).run P { V with tape:=τ,drawn:=d }=.ok v { V with tape:=τ,drawn:=d }):=by
 intro τ d
 obtain ⟨fn',h5,hres⟩:∃ fn',P'.funcs[fr.fn]?=some fn' ∧ fn'.results=fn.results:=by
   rcases H.hF.funcs fr.fn with ⟨e1,e2⟩ | ⟨f1,f2,e1,e2,hn,hr,_⟩
   · rw [hfn] at e1; cases e1
   · rw [hfn] at e1; cases e1; exact ⟨f2,e2,hr⟩
 rcases tl_run (τ:=τ) (a:=V.drawn) (b:=d) (lim:=V.drawn) (sr_results H.hF.toPRel hres hf.tmps) hw ⟨Nat.le_refl _,fun n q h1 h2 => by omega⟩ with ⟨v1,V1,es,B1,d1,e1,hm,hA1,e2,_⟩ | ⟨v1,V1,es,e1,hm,e2⟩ | ⟨h,V1,es,e1,hn⟩
 · rw [Sem.runT_eq,hv] at e1
   injection e1 with e1 _
   injection e1 with e1 e3
   subst e1 e3
   have:=e2 (Nat.le_refl _)
   rw [Sem.runT_eq] at this
   have:=congrArg Prod.fst this
   dsimp only at this
   simp only [sft,Nat.sub_self,Nat.zero_add] at this
   exact this
 · rw [Sem.runT_eq,hv] at e1
   injection e1 with e1 _
   cases e1
 · rw [Sem.runT_eq,hv] at e1
   injection e1 with e1 _
   cases e1
theorem keeps_lr {F:St → Prop} (hT:∀ f,¬ X.T f) (hF:∀ x τ d,JL X x → F x → F (x.at τ d)):Keeps P F (JL X) where
 tape x τ d:=fun ⟨B,W,fr',cs',h1,h2,h3,h4⟩ => ⟨B,{ W with tape:=τ,drawn:=d },fr',cs',wr_at h1 τ d,h2,h3,h4⟩
 step x:=by
   rintro ⟨B,W,fr',cs',hw,hf,hc,hbot⟩ hp
   have hb:=hb_of hp hbot
   obtain ⟨h1,h2⟩:=step_lr H hw (base:=[wall P]) (base':=[]) hf hc hb true true
   rcases h2 with ⟨fr1,cs1,V1,es,e⟩ | h2
   · obtain ⟨c1,c1',fr1',B',W1,n,rfl,e2,hx,hw1,hn,hst⟩:=h1 _ _ _ _ e
     have hbt:=step_bot H hw (base:=[wall P]) hf hc hb true _ _ _ _ e
     refine .inl ⟨⟨fr1,c1,V1⟩,⟨es,e⟩,?_⟩
     rcases hst with ⟨g1,g2⟩ | ⟨f,p,p',k,ht,_⟩
     · exact ⟨B',W1,fr1',c1',hw1,g1,g2,hbt.trans hbot⟩
     · exact absurd ht.1 (hT f)
   · exact .inr h2
 loc x:=by
   rintro ⟨B,W,fr',cs',hw,hf,hc,hbot⟩ hp τ a b lim hA
   exact step_tl H hw hA (base:=[wall P]) hf hc (hb_of hp hbot) true
 fin:=hF
theorem fin_blind (hQ:∀ v w τ d,Q v w → Q v { w with tape:=τ,drawn:=d }):∀ x τ d,JL X x → Fin P Q x → Fin P Q (x.at τ d):=by
 intro x τ d
 rintro ⟨B,W,fr',cs',hw,hf,hc,hbot⟩ ⟨h1,v,⟨h2,h3,h4,fn,h5,h6⟩,h7⟩
 exact ⟨h1,v,⟨h2,h3,h4,fn,h5,results_lr H hw hf h5 h6 τ d⟩,hQ _ _ _ _ h7⟩
end
end Go.Proofs.YthhfljldbfgpcaaGreatDoor.Bar
end
