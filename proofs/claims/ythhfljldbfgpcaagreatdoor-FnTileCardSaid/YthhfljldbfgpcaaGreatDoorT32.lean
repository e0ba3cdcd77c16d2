/- Merged texts: Co, Ok, OkX, Zer. -/
import Derived.Test.YthhfljldbfgpcaaGreatDoorT31
set_option linter.all false
section
namespace Go.Proofs.YthhfljldbfgpcaaGreatDoor.Co
open Go.Conc Go.Proofs.YthhfljldbfgpcaaGreatDoor.Tl Go.Proofs.YthhfljldbfgpcaaGreatDoor.Lr Go.Proofs.YthhfljldbfgpcaaGreatDoor.Bar
def Hot (X:Cx) (B:Lk) (b':Nat):Prop:=∃ b,B b b' ∧ ¬ X.D b ∧ ¬ X.F b
def Ice (X:Cx) (B:Lk) (b':Nat):Prop:=∃ b,B b b' ∧ ¬ X.D b ∧ X.F b
def Rely (L R:Nat → Prop) (W W2:World):Prop:=W.heap.size ≤ W2.heap.size ∧ (∀ b,L b ∨ R b → W2.heap[b]?=W.heap[b]?) ∧ W2.os=W.os ∧ W2.output=W.output
def EvC (L R:Nat → Prop) (e:Event):Prop :=
 match e.loc with
 | .cell a => e.sync=false ∧ (L a.block ∨ (R a.block ∧ e.write=false))
 | .obj r => L r
 | .mark m => m=.noRoom
 | _ => False
structure Did (L R:Nat → Prop) (W:World) (L1:Nat → Prop) (W1:World) (n:Array Event):Prop where
 old:∀ b,L b → L1 b
 new:∀ b,L1 b → L b ∨ W.heap.size ≤ b
 lt:∀ b,L1 b → b < W1.heap.size
 size:W.heap.size ≤ W1.heap.size
 kept:∀ b,b < W.heap.size → ¬ L b → W1.heap[b]?=W.heap[b]?
 tape:W1.tape=W.tape
 os:W1.os=W.os ∧ W1.output=W.output
 evs:∀ e ∈ n,EvC L1 R e
inductive Co (P:Program) (m:Bool) (base:List Frame) (R:Nat → Prop) (Post:(Nat → Prop) → Frame → List Frame → World → Prop):(Nat → Prop) → Frame → List Frame → World → Prop
 | stop {L:Nat → Prop} {fr:Frame} {cs:List Frame} {W:World}:Post L fr cs W → Co P m base R Post L fr cs W
 | go {L:Nat → Prop} {fr:Frame} {cs:List Frame} {W:World} (f1:World → Frame) (c1:World → List Frame) (w1:World → World) (n1:World → Array Event) (L1:World → Nat → Prop) :
     (∀ W2,Rely L R W W2 → stepG P m (G fr (cs ++ base)) W2=.go (G (f1 W2) (c1 W2 ++ base)) (w1 W2) (n1 W2) ∧ Did L R W2 (L1 W2) (w1 W2) (n1 W2)) →
     (∀ W2,Rely L R W W2 → Co P m base R Post (L1 W2) (f1 W2) (c1 W2) (w1 W2)) → Co P m base R Post L fr cs W
section
variable {X:Cx} {P P':Program}
theorem wr_rely {B:Lk} {V W W2:World} (h:WR X B V W) (k:Rely (Hot X B) (Ice X B) W W2):WR X B { V with tape:=W2.tape,drawn:=W2.drawn } W2 where
 tape:=rfl
 drawn:=rfl
 os:=k.2.2.1.trans h.os
 output:=k.2.2.2.trans h.output
 fn:=h.fn
 inj:=h.inj
 glob:=h.glob
 live b b' x d f:=by
   obtain ⟨o,o',h1,h2,h3⟩:=h.live b b' x d f
   exact ⟨o,o',h1,(k.2.1 b' (.inl ⟨b,x,d,f⟩)).trans h2,h3⟩
 froz b b' x d f:=by
   obtain ⟨c,c',t,t',g,h1,h2,h3⟩:=h.froz b b' x d f
   exact ⟨c,c',t,t',g,h1,(k.2.1 b' (.inr ⟨b,x,d,f⟩)).trans h2,h3⟩
 dead b b' x d:=by
   obtain ⟨h1,h2⟩:=h.dead b b' x d
   exact ⟨h1,Nat.lt_of_lt_of_le h2 k.1⟩
 dlt:=h.dlt
 flt:=h.flt
 low:=h.low
 nV:=h.nV
 nW:=Nat.le_trans h.nW k.1
theorem ice_same {B B1:Lk} {V W V1 W1:World} (hw:WR X B V W) (hx:Ext X B V W B1 V1 W1):Ice X B1=Ice X B:=by
 funext b'
 apply propext
 constructor
 · rintro ⟨b,h1,h2,h3⟩
   rcases hx.new b b' h1 with h | ⟨h,_⟩
   · exact ⟨b,h,h2,h3⟩
   · have:=hw.flt b h3
     omega
 · rintro ⟨b,h1,h2,h3⟩
   exact ⟨b,hx.le _ _ h1,h2,h3⟩
theorem did_of {B B1:Lk} {V W V1 W1:World} {n:Array Event} (hw:WR X B V W) (hw1:WR X B1 V1 W1) (hx:Ext X B V W B1 V1 W1) (hn:EvsK X B1 n):Did (Hot X B) (Ice X B) W (Hot X B1) W1 n where
 old b:=fun ⟨a,h1,h2,h3⟩ => ⟨a,hx.le _ _ h1,h2,h3⟩
 new b:=fun ⟨a,h1,h2,h3⟩ => by
   rcases hx.new a b h1 with h | ⟨_,h⟩
   · exact .inl ⟨a,h,h2,h3⟩
   · exact .inr h
 lt b:=fun ⟨a,h1,_⟩ => hw1.ltW h1
 size:=hx.sizeW
 kept b hb hl:=hx.kept b hb fun a ha => by
   by_cases h1:X.D a
   · exact .inl h1
   · by_cases h2:X.F a
     · exact .inr h2
     · exact absurd ⟨a,ha,h1,h2⟩ hl
 tape:=hx.tape
 os:=⟨by rw [hw1.os,hx.osV.1,hw.os],by rw [hw1.output,hx.osV.2,hw.output]⟩
 evs e he:=by
   obtain ⟨h1,h2⟩:=hn e he
   rw [← ice_same hw hx]
   unfold EvOk at h1
   unfold EvC
   split at h1
   · rename_i a ha
     rw [ha]
     obtain ⟨⟨b,g1,g2,g3⟩,g4⟩:=h1
     refine ⟨g4,?_⟩
     by_cases hf:X.F b
     · refine .inr ⟨⟨b,g1,g2,hf⟩,?_⟩
       by_cases hq:e.write=true
       · exact absurd hf (g3 hq)
       · simpa using hq
     · exact .inl ⟨b,g1,g2,hf⟩
   · rename_i r hr
     rw [hr]
     exact h1
   · rename_i mk hm
     rw [hm]
     rcases h1 with h | ⟨f,h⟩
     · exact h
     · exact absurd (by rw [hm,h]) (h2 f)
   · exact h1.elim
def Gr (n m:Nat) (B0 B:Lk):Prop:=Le B0 B ∧ ∀ b b',B b b' → B0 b b' ∨ (n ≤ b ∧ m ≤ b')
theorem Gr.refl (n m:Nat) (B:Lk):Gr n m B B:=⟨Le.refl _,fun _ _ h => .inl h⟩
theorem Gr.ext {n m:Nat} {B0 B B1:Lk} {V W V1 W1:World} (h:Gr n m B0 B) (hn:n ≤ V.heap.size) (hm:m ≤ W.heap.size) (k:Ext X B V W B1 V1 W1):Gr n m B0 B1 :=
 ⟨h.1.trans k.le,fun b b' x => by
   rcases k.new b b' x with y | ⟨y1,y2⟩
   · exact h.2 b b' y
   · exact .inr ⟨Nat.le_trans hn y1,Nat.le_trans hm y2⟩⟩
def PostR (X:Cx) (n m:Nat) (B0:Lk) (F:St → Prop) (L:Nat → Prop) (fr':Frame) (cs':List Frame) (W:World):Prop :=
 ∃ B x τ d,Gr n m B0 B ∧ F x ∧ WR X B (x.at τ d).V W ∧ FrR X B x.fr fr' ∧ CsR X B x.cs cs' ∧ L=Hot X B ∧ n ≤ x.V.heap.size ∧ m ≤ W.heap.size
theorem co_of_way (H:Whole X P P') (hT:∀ f,¬ X.T f) {F:St → Prop} {m:Bool} {base:List Frame} {n0 m0:Nat} {B0:Lk} {R:Nat → Prop} {x:St} (h:Bar.Way P F x) :
   ∀ {B:Lk} {W:World} {fr':Frame} {cs':List Frame} {τ:Tape} {d:Nat},WR X B (x.at τ d).V W → FrR X B x.fr fr' → CsR X B x.cs cs' → botR x.fr x.cs=none → Gr n0 m0 B0 B → n0 ≤ x.V.heap.size → m0 ≤ W.heap.size → Ice X B=R →
     Co P' m base R (PostR X n0 m0 B0 F) (Hot X B) fr' cs' W:=by
 induction h with
 | @fin x h =>
   intro B W fr' cs' τ d hw hf hc hb hle hn0 hm0 hR
   exact .stop ⟨B,x,τ,d,hle,h,hw,hf,hc,rfl,hn0,hm0⟩
 | @go x g hg _ ih =>
   intro B W fr' cs' τ d hw hf hc hb hle hn0 hm0 hR
   have key:∀ W2,Rely (Hot X B) R W W2 → ∃ fr1 cs1 W1 n L1,stepG P' m (G fr' (cs' ++ base)) W2=.go (G fr1 (cs1 ++ base)) W1 n ∧ Did (Hot X B) R W2 L1 W1 n ∧ Co P' m base R (PostR X n0 m0 B0 F) L1 fr1 cs1 W1:=by
     intro W2 hr
     rw [← hR] at hr
     have hw2:=wr_rely hw hr
     have hgo:=hg W2.tape W2.drawn
     have hp:=hgo.not_pop
     obtain ⟨es,hgo⟩:=hgo
     have hw3:WR X B (x.at W2.tape W2.drawn).V W2:=hw2
     obtain ⟨c1,c1',fr1',B',W1,n,e1,e2,hx,hw1,hn,hst⟩:=(step_lr H hw3 (base:=[wall P]) (base':=base) hf hc (hb_of hp hb) true m).1 _ _ _ _ hgo
     obtain rfl:=List.append_cancel_right e1
     have hbt:=step_bot H hw3 (base:=[wall P]) hf hc (hb_of hp hb) true _ _ _ _ hgo
     rcases hst with ⟨g1,g2⟩ | ⟨f,p,p',k,ht,_⟩
     · refine ⟨fr1',c1',W1,n,Hot X B',e2,hR ▸ did_of hw3 hw1 hx hn,?_⟩
       exact @ih W2.tape W2.drawn _ _ _ _ (g W2.tape W2.drawn).V.tape (g W2.tape W2.drawn).V.drawn hw1 g1 g2 (hbt.trans hb) (hle.ext (V:=(x.at W2.tape W2.drawn).V) hn0 (Nat.le_trans hm0 hr.1) hx) (Nat.le_trans hn0 hx.sizeV) (Nat.le_trans (Nat.le_trans hm0 hr.1) hx.sizeW) ((ice_same hw3 hx).trans hR)
     · exact absurd ht.1 (hT f)
   have key2:∀ W2,∃ r:Frame × List Frame × World × Array Event × (Nat → Prop),Rely (Hot X B) R W W2 → stepG P' m (G fr' (cs' ++ base)) W2=.go (G r.1 (r.2.1 ++ base)) r.2.2.1 r.2.2.2.1 ∧ Did (Hot X B) R W2 r.2.2.2.2 r.2.2.1 r.2.2.2.1 ∧ Co P' m base R (PostR X n0 m0 B0 F) r.2.2.2.2 r.1 r.2.1 r.2.2.1:=by
     intro W2
     by_cases hr:Rely (Hot X B) R W W2
     · obtain ⟨fr1,cs1,W1,n,L1,h1,h2,h3⟩:=key W2 hr
       exact ⟨(fr1,cs1,W1,n,L1),fun _ => ⟨h1,h2,h3⟩⟩
     · exact ⟨(fr',cs',W,#[],fun _ => False),fun h => absurd h hr⟩
   exact .go (fun W2 => (key2 W2).choose.1) (fun W2 => (key2 W2).choose.2.1) (fun W2 => (key2 W2).choose.2.2.1) (fun W2 => (key2 W2).choose.2.2.2.1) (fun W2 => (key2 W2).choose.2.2.2.2)
     (fun W2 hr => ⟨((key2 W2).choose_spec hr).1,((key2 W2).choose_spec hr).2.1⟩) (fun W2 hr => ((key2 W2).choose_spec hr).2.2)
theorem ret_of_post (H:Whole X P P') {Q:Value → World → Prop} (hQ:∀ v w τ d,Q v w → Q v { w with tape:=τ,drawn:=d }) {m:Bool} {n0 m0:Nat} {B0:Lk} {L R:Nat → Prop} {fr':Frame} {cs':List Frame} {W:World}
   (h:PostR X n0 m0 B0 (Fin P Q) L fr' cs' W) (hR:∀ B,Gr n0 m0 B0 B → L=Hot X B → Ice X B=R):cs'=[] ∧ ∀ W2,Rely L R W W2 → ∃ v' W1 n L1,Did L R W2 L1 W1 n ∧ (∀ c bs,stepG P' m (G fr' (c :: bs)) W2=.go (G (c.finish v') bs) W1 n) ∧
     ∃ B V v,Gr n0 m0 B0 B ∧ Q v V ∧ VR X B v v' ∧ WR X B V W1 ∧ L1=Hot X B:=by
 obtain ⟨B,x,τ,d,hle,h,hw,hf,hc,rfl,hn0,hm0⟩:=h
 have hR:=hR B hle rfl
 obtain ⟨h1,v,⟨g1,g2,g3,fn,g4,g5⟩,hq⟩:=h
 have hcs:cs'=[]:=by rw [h1] at hc; cases hc; rfl
 subst hcs
 refine ⟨rfl,fun W2 hr => ?_⟩
 rw [← hR] at hr ⊢
 have hw2:=wr_rely hw hr
 have hm':fr'.mode=.returning:=by
   have:=hf.mode
   rw [g1] at this
   generalize fr'.mode=q at this
   cases this
   rfl
 have hd':fr'.defers=[]:=by
   have:=hf.defers
   rw [g2] at this
   generalize fr'.defers=q at this
   cases this
   rfl
 have hk':fr'.kind=.normal:=hf.kind.trans g3
 obtain ⟨fn',e5,hres⟩:∃ fn',P'.funcs[x.fr.fn]?=some fn' ∧ fn'.results=fn.results:=by
   rcases H.hF.funcs x.fr.fn with ⟨e1,e2⟩ | ⟨f1,f2,e1,e2,hn,hr,_⟩
   · rw [g4] at e1; cases e1
   · rw [g4] at e1; cases e1; exact ⟨f2,e2,hr⟩
 have g6:=results_lr H hw (fr':=fr') hf g4 (fr:=x.fr) (V:=(x.at τ d).V) (v:=v) (by
   have:=results_lr H (wr_at (τ:=x.V.tape) (d:=x.V.drawn) hw) hf g4 g5 τ d
   exact this) W2.tape W2.drawn
 have g6:(results fn x.fr.tmps).run P { x.V with tape:=W2.tape,drawn:=W2.drawn }=.ok v { x.V with tape:=W2.tape,drawn:=W2.drawn }:=g6
 rcases run_lr (sr_results H.hF.toPRel hres hf.tmps) hw2 with ⟨a,V1,B1,W1,b,n,e1,e2,hx,hw1,hab,hn⟩ | ⟨v,V1,B1,W1,v',n,e1,e2,hx,hw1,hab,hn⟩ | ⟨h,V1,e1,hm⟩
 · have e1:(results fn x.fr.tmps).run P { x.V with tape:=W2.tape,drawn:=W2.drawn }=.ok a V1:=e1
   rw [g6] at e1
   injection e1 with e1 e3
   subst e1 e3
   refine ⟨b,W1,seen P' fr'.fn n,Hot X B1,did_of hw2 hw1 hx (hn.seen _),fun c bs => ?_,B1,_,v,hle.ext (V:=(x.at W2.tape W2.drawn).V) hn0 (Nat.le_trans hm0 hr.1) hx,hQ _ _ W2.tape W2.drawn hq,hab,hw1,rfl⟩
   rw [stepG_unwind (by rw [hm']; simp)]
   unfold unwind
   rw [hd',hm',hf.fn,e5]
   dsimp only
   rw [e2 #[],Array.empty_append]
   dsimp only
   unfold doReturn
   rw [hk']
   simp [GStep.after]
   rfl
 · have e1:(results fn x.fr.tmps).run P { x.V with tape:=W2.tape,drawn:=W2.drawn }=.halt (.panic v) V1:=e1
   rw [g6] at e1
   cases e1
 · have e1:(results fn x.fr.tmps).run P { x.V with tape:=W2.tape,drawn:=W2.drawn }=.halt h V1:=e1
   rw [g6] at e1
   cases e1
end
end Go.Proofs.YthhfljldbfgpcaaGreatDoor.Co
end

section
namespace Go.Proofs.YthhfljldbfgpcaaGreatDoor.Ok
open Go.Conc Go.Proofs.YthhfljldbfgpcaaGreatDoor.Lr
def flatV:Nat → Value → Bool
 | k + 1,.agg p => p.all (flatV k)
 | k + 1,.tuple p => p.all (flatV k)
 | _,.bool _ | _,.int _ _ | _,.float _ _ | _,.complex _ _ _ | _,.string _ | _,.pointer none | _,.slice none _ _ | _,.map none | _,.chan none | _,.nilFunc | _,.nilIface => true
 | _,_ => false
theorem flat_of {X:Cx}:∀ (k:Nat) (v:Value),flatV k v=true → Flat X v:=by
 have rows:∀ (k:Nat) (p:Array Value),(∀ v,flatV k v=true → Flat X v) → p.all (flatV k)=true → ∀ B (i:Nat) v v',p[i]?=some v → p[i]?=some v' → VR X B v v':=by
   intro k p ih h B i v v' h1 h2
   cases h1.symm.trans h2
   rw [Array.all_eq_true_iff_forall_mem] at h
   exact ih v (h v (Array.mem_of_getElem? h1)) B
 intro k
 induction k with
 | zero =>
   intro v h B
   cases v with
   | bool b => exact .bool b
   | int a b => exact .int a b
   | float a b => exact .float a b
   | complex a b c => exact .complex a b c
   | string s => exact .string s
   | pointer a => cases a <;> first | exact .pnil | simp [flatV] at h
   | slice a l c => cases a <;> first | exact .snil _ _ | simp [flatV] at h
   | map a => cases a <;> first | exact .mnil | simp [flatV] at h
   | chan a => cases a <;> first | exact .cnil | simp [flatV] at h
   | nilFunc => exact .nilFunc
   | nilIface => exact .nilIface
   | _ => simp [flatV] at h
 | succ k ih =>
   intro v h B
   cases v with
   | bool b => exact .bool b
   | int a b => exact .int a b
   | float a b => exact .float a b
   | complex a b c => exact .complex a b c
   | string s => exact .string s
   | pointer a => cases a <;> first | exact .pnil | simp [flatV] at h
   | slice a l c => cases a <;> first | exact .snil _ _ | simp [flatV] at h
   | map a => cases a <;> first | exact .mnil | simp [flatV] at h
   | chan a => cases a <;> first | exact .cnil | simp [flatV] at h
   | nilFunc => exact .nilFunc
   | nilIface => exact .nilIface
   | agg p => exact .agg rfl (rows k p ih (by simpa only [flatV] using h) B)
   | tuple p => exact .tuple rfl (rows k p ih (by simpa only [flatV] using h) B)
   | _ => simp [flatV] at h
def okOpd (cl gl:List Nat):Operand → Bool
 | .tmp _ => true
 | .const v => flatV 4 v
 | .global g => gl.contains g
 | .func f => cl.contains f
def noZero (P:Program) (t:TypeId):Bool:=match P.underlying t with
 | some (.struct fs) => fs.all fun f => match P.info? f.type with
   | some i => i.size != 0
   | none => true
 | _ => true
theorem noZero_of {P:Program} {t:TypeId} (h:noZero P t=true):NoZero P t:=by
 intro fs hf k f hk i hi
 unfold noZero at h
 rw [hf] at h
 have:=Array.all_eq_true_iff_forall_mem.1 h f (Array.mem_of_getElem? hk)
 rw [hi] at this
 simpa using this
def okInv (P:Program) (tl:List (Nat × Nat)) (cl:List Nat) (name:String):Bool :=
 P.types.all fun i => i.methods.all fun m => m.name != name || (m.path.isEmpty && ((match i.desc with
   | .pointer _ => true
   | _ => false) && (match m.func with
   | some (f,q) => q && (cl.contains f && tl.all fun x => x.1 != f)
   | none => false)))
def okAs (P:Program) (gl:List Nat):Bool:=gl.contains P.globals.size
def okKind (P:Program) (tl:List (Nat × Nat)) (cl gl:List Nat):Op → Bool
 | .move _ | .assign _ | .pick .. | .alloc _ | .box .. | .build .. | .buildSlice .. | .load .. | .store .. | .nilCheck _ | .unOp .. | .makeChan .. | .makeSlice .. | .slice .. | .field .. | .indexAddr .. | .index .. | .extract ..
 | .makeInterface .. => true
 | .fieldAddr t _ _ => noZero P t
 | .binOp op t _ _ _ => match op with
   | .eql | .neq => SimT P 20 t
   | _ => true
 | .convert s d _ => ConvT P s d
 | .makeFunc fn _ _ => match fn with
   | .func f => cl.contains f
   | .method n => okInv P tl cl n
   | .methodOf _ n => okInv P tl cl n
   | _ => false
 | .typeAssert .. => okAs P gl
 | .call c => match c.callee with
   | .builtin b => BiOk b
   | .invoke _ n => okInv P tl cl n
   | .value _ => true
 | _ => false
def okT (tl:List (Nat × Nat)) (cl gl:List Nat):Op → Bool
 | .call c => match c.callee with
   | .value (.func f) => tl.contains (f,c.args.size) && c.args.all (okOpd cl gl)
   | _ => false
 | _ => false
def okOperT (P:Program) (tl:List (Nat × Nat)) (cl gl:List Nat) (o:Oper):Bool:=okKind P tl cl gl o.op && (o.op.operands.all (okOpd cl gl) || okT tl cl gl o.op)
abbrev okOper (P:Program) (cl gl:List Nat) (o:Oper):Bool:=okOperT P [] cl gl o
def noBody:String := "unsupported: a function without a Go body is entered"
def okCT (P:Program) (tl:List (Nat × Nat)) (cl gl:List Nat):Code → Bool
 | .refuse w => w == noBody
 | .region _ ops _ => ops.all (okOperT P tl cl gl)
 | .seq a b => okCT P tl cl gl a && okCT P tl cl gl b
 | .cond c a b => okOpd cl gl c && (okCT P tl cl gl a && okCT P tl cl gl b)
 | .rangeFunc f _ a b => okOpd cl gl f && (okCT P tl cl gl a && okCT P tl cl gl b)
 | .block _ c | .loop c | .scope c => okCT P tl cl gl c
 | .goto _ => false
 | .skip | .ret | .exit _ | .label _ => true
abbrev okC (P:Program) (cl gl:List Nat) (c:Code):Bool:=okCT P [] cl gl c
section
variable {X:Cx} {P:Program} {tl:List (Nat × Nat)} {cl gl:List Nat}
theorem opd_of (hc:∀ f ∈ cl,X.C f ∧ ¬ X.T f) (hg:∀ g ∈ gl,X.G g) {o:Operand} (h:okOpd cl gl o=true):OpdOk X o:=by
 cases o with
 | tmp t => trivial
 | const v => exact flat_of 4 v h
 | global g => exact hg g (by simpa [okOpd] using h)
 | func f => exact hc f (by simpa [okOpd] using h)
theorem kind_of (hc:∀ f ∈ cl,X.C f ∧ ¬ X.T f) (hm:∀ n,okInv P tl cl n=true → X.M n) (ha:okAs P gl=true → X.As) {o:Op} (h:okKind P tl cl gl o=true):KindOk X P o:=by
 cases o with
 | binOp op t x y u =>
   intro e
   refine ⟨20,?_⟩
   rcases e with rfl | rfl <;> exact h
 | convert s d x => exact h
 | fieldAddr t a f => exact noZero_of h
 | makeFunc fn a b =>
   cases fn with
   | func f => exact hc f (by simpa [okKind] using h)
   | method n => exact hm n h
   | methodOf t n => exact hm n h
   | _ => simp [okKind] at h
 | typeAssert x t a q => exact ha h
 | call c =>
   obtain ⟨callee,args,ts⟩:=c
   cases callee with
   | builtin b => exact h
   | invoke a b => exact hm b h
   | value f => trivial
 | _ => first | trivial | simp [okKind] at h
theorem oper_of (hc:∀ f ∈ cl,X.C f ∧ ¬ X.T f) (hm:∀ n,okInv P tl cl n=true → X.M n) (ha:okAs P gl=true → X.As) (hg:∀ g ∈ gl,X.G g) (ht:∀ f n,(f,n) ∈ tl → X.C f ∧ X.Ar f n) {o:Oper} (h:okOperT P tl cl gl o=true):OpOk X P o:=by
 simp only [okOperT,Bool.and_eq_true,Bool.or_eq_true] at h
 refine ⟨kind_of hc hm ha h.1,h.2.imp (fun this x hx => ?_) fun h => ?_⟩
 · rw [Array.all_eq_true_iff_forall_mem] at this
   exact opd_of hc hg (this x hx)
 · generalize o.op=p at h
   cases p with
   | call c =>
     obtain ⟨callee,args,ts⟩:=c
     cases callee with
     | value x =>
       cases x with
       | func f =>
         simp only [okT,Bool.and_eq_true] at h
         obtain ⟨h1,h2⟩:=h
         rw [Array.all_eq_true_iff_forall_mem] at h2
         have h1:=ht f args.size (by simpa using h1)
         exact ⟨h1.1,h1.2,fun x hx => opd_of hc hg (h2 x hx)⟩
       | _ => simp [okT] at h
     | _ => simp [okT] at h
   | _ => simp [okT] at h
theorem code_of (hc:∀ f ∈ cl,X.C f ∧ ¬ X.T f) (hg:∀ g ∈ gl,X.G g) (hK:∀ o,okOperT P tl cl gl o=true → X.K o):∀ (c:Code),okCT P tl cl gl c=true → CdR X c c
 | .refuse w,h => .inl (by simpa [okCT,noBody] using h)
 | .region _ ops _,h => ⟨rfl,fun o ho => hK o (by
     have h:ops.all (okOperT P tl cl gl)=true:=h
     rw [Array.all_eq_true_iff_forall_mem] at h
     exact h o ho)⟩
 | .seq a b,h => by
   simp only [okCT,Bool.and_eq_true] at h
   exact ⟨a,b,rfl,code_of hc hg hK a h.1,code_of hc hg hK b h.2⟩
 | .cond c a b,h => by
   simp only [okCT,Bool.and_eq_true] at h
   exact ⟨a,b,rfl,opd_of hc hg h.1,code_of hc hg hK a h.2.1,code_of hc hg hK b h.2.2⟩
 | .rangeFunc f p a b,h => by
   simp only [okCT,Bool.and_eq_true] at h
   exact ⟨a,b,rfl,opd_of hc hg h.1,code_of hc hg hK a h.2.1,code_of hc hg hK b h.2.2⟩
 | .block _ c,h => ⟨c,rfl,code_of hc hg hK c h⟩
 | .loop c,h => ⟨c,rfl,code_of hc hg hK c h⟩
 | .scope c,h => ⟨c,rfl,code_of hc hg hK c h⟩
 | .goto _,h => by simp [okCT] at h
 | .skip,_ => rfl
 | .ret,_ => rfl
 | .exit _,_ => rfl
 | .label _,_ => rfl
end
end Go.Proofs.YthhfljldbfgpcaaGreatDoor.Ok
end

section
namespace Go.Proofs.YthhfljldbfgpcaaGreatDoor.Ok
open Go.Conc Go.Proofs.YthhfljldbfgpcaaGreatDoor.Lr
section
variable {X:Cx} {P P':Program} {B:Lk}
theorem ar_one {v:Value} {p':Array Value} (h:AR X B #[v] p'):∃ v',p'=#[v'] ∧ VR X B v v':=by
 obtain ⟨h1,h2⟩:=h
 obtain ⟨l⟩:=p'
 match l,h1 with
 | [v'],_ => exact ⟨v',rfl,h2 0 v v' (by simp) (by simp)⟩
theorem sr_extern {f:FuncId} {fn:Func} (hf:P.funcs[f]?=some fn) (hf':P'.funcs[f]?=some fn) (hname:(fn.name == "runtime.NumGoroutine")=false) (hb:fn.body.isNone=true) (hn:Extern.findNext fn=none)
   {e:Array Value → Sem Value} (he:Extern.find fn=some e) (hS:∀ B p p',AR X B p p' → SR X P P' (VRel X) B (e p) (e p')) {p p':Array Value} (h:AR X B p p'):SR X P P' (NxR X) B (callFunc f p) (callFunc f p'):=by
 unfold callFunc
 refine SR.bind SR.program ?_
 rintro B1 l1 q q' ⟨rfl,rfl⟩
 rw [hf,hf']
 dsimp only
 simp only [hname,hb,Bool.false_eq_true,if_false,if_true]
 refine SR.bind (SR.mark (.inr ⟨f,rfl⟩)) fun B2 l2 _ _ _ => ?_
 simp only [hn,he]
 exact SR.bind (hS B2 _ _ ((h.mono l1).mono l2)) fun B3 l3 v v' hv => SR.pure (.value hv)
theorem float_row {α:Type} {R:Lk → α → α → Prop} {p:Array Value} (F:Array Value → Sem α) {s':Sem α} (hs:(∀ x,p ≠ #[.float .f64 x]) → ∃ why,F p=Go.stuck why) (h:∀ x,p=#[.float .f64 x] → SR X P P' R B (F p) s'):SR X P P' R B (F p) s':=by
 by_cases hp:∃ x,p=#[.float .f64 x]
 · obtain ⟨x,hx⟩:=hp
   exact h x hx
 · obtain ⟨why,e⟩:=hs fun x hx => hp ⟨x,hx⟩
   rw [e]
   exact SR.stuck
theorem sr_toIntegral (name:String) (way:Ieee.Toward):∀ B p p',AR X B p p' → SR X P P' (VRel X) B (Extern.MathFloor.toIntegral name way p) (Extern.MathFloor.toIntegral name way p'):=by
 intro B p p' h
 refine float_row (Extern.MathFloor.toIntegral name way) (fun hn => ?_) (fun x hx => ?_)
 · unfold Extern.MathFloor.toIntegral
   obtain ⟨l⟩:=p
   match l with
   | [] => exact ⟨_,rfl⟩
   | v :: w :: r => exact ⟨_,rfl⟩
   | [v] =>
     cases v <;> first
       | exact ⟨_,rfl⟩
       | skip
     rename_i k x
     cases k <;> first
       | exact absurd rfl (hn _)
       | exact ⟨_,rfl⟩
 · subst hx
   obtain ⟨v',rfl,hv⟩:=ar_one h
   cases hv
   have e:Extern.MathFloor.toIntegral name way #[.float .f64 x]=(match FloatKind.f64.decode x with
     | .nan s t =>
       if FloatKind.f64.format.quiet t=t then (Pure.pure (Value.float .f64 x):Sem Value) else do
       let kept ← choose (.extern "math.Floor,Ceil,Trunc,RoundToEven.signallingNaN kept" 2)
       Pure.pure (Value.float .f64 (if kept == 1 then x else FloatKind.f64.encode (.nan s (FloatKind.f64.format.quiet t))))
     | d => Pure.pure (Value.float .f64 (FloatKind.f64.encode (d.integral way)))):=rfl
   rw [e]
   generalize FloatKind.f64.decode x=d
   cases d with
   | nan s t =>
     refine SR.ite (fun _ => SR.pure (.float _ _)) (fun _ => ?_)
     refine SR.bind (SR.choose _) ?_
     rintro B1 l1 k _ rfl
     exact SR.pure (.float _ _)
   | _ => exact SR.pure (.float _ _)
theorem sr_bits:∀ B p p',AR X B p p' → SR X P P' (VRel X) B (Extern.MathFloatBits.float64bits p) (Extern.MathFloatBits.float64bits p'):=by
 intro B p p' h
 refine float_row Extern.MathFloatBits.float64bits (fun hn => ?_) (fun x hx => ?_)
 · unfold Extern.MathFloatBits.float64bits
   obtain ⟨l⟩:=p
   match l with
   | [] => exact ⟨_,rfl⟩
   | v :: w :: r => exact ⟨_,rfl⟩
   | [v] =>
     cases v <;> first
       | exact ⟨_,rfl⟩
       | skip
     rename_i k x
     cases k <;> first
       | exact absurd rfl (hn _)
       | exact ⟨_,rfl⟩
 · subst hx
   obtain ⟨v',rfl,hv⟩:=ar_one h
   cases hv
   exact SR.pure (.int _ _)
theorem sr_frombits:∀ B p p',AR X B p p' → SR X P P' (VRel X) B (Extern.MathFloatBits.float64frombits p) (Extern.MathFloatBits.float64frombits p'):=by
 intro B p p' h
 by_cases hp:∃ x,p=#[.int .u64 x]
 · obtain ⟨x,rfl⟩:=hp
   obtain ⟨v',rfl,hv⟩:=ar_one h
   cases hv
   exact SR.pure (.float _ _)
 · have:∃ why,Extern.MathFloatBits.float64frombits p=Go.stuck why:=by
     unfold Extern.MathFloatBits.float64frombits
     obtain ⟨l⟩:=p
     match l with
     | [] => exact ⟨_,rfl⟩
     | v :: w :: r => exact ⟨_,rfl⟩
     | [v] =>
       cases v <;> first
         | exact ⟨_,rfl⟩
         | skip
       rename_i k x
       cases k <;> first
         | exact absurd ⟨_,rfl⟩ hp
         | exact ⟨_,rfl⟩
   obtain ⟨why,e⟩:=this
   rw [e]
   exact SR.stuck
end
end Go.Proofs.YthhfljldbfgpcaaGreatDoor.Ok
end

section
namespace Go.Proofs.YthhfljldbfgpcaaGreatDoor.Ok
open Go.Conc Go.Proofs.YthhfljldbfgpcaaGreatDoor.Lr
theorem forIn_opt {ι σ:Type} {I:σ → Prop} {f:ι → σ → Option (ForInStep σ)} (hf:∀ x s,I s → ∀ r,f x s=some r → I (match r with | .yield s => s | .done s => s)) :
   ∀ (l:List ι) (s r:σ),I s → forIn l s f=some r → I r:=by
 intro l
 induction l with
 | nil =>
   intro s r hs h
   simp only [List.forIn_nil,pure] at h
   cases h
   exact hs
 | cons x l ih =>
   intro s r hs h
   simp only [List.forIn_cons,bind,Option.bind] at h
   cases hx:f x s with
   | none => rw [hx] at h; cases h
   | some q =>
     rw [hx] at h
     have:=hf x s hs q hx
     cases q with
     | done s' => simp only [pure] at h; cases h; exact this
     | yield s' => exact ih s' r this h
def FlatI (X:Cx) (i:TypeInfo):Prop:=∀ v,i.zero=some v → Flat X v
theorem flat_agg {X:Cx} {p:Array Value} (h:∀ v ∈ p,Flat X v):Flat X (.agg p):=fun B => .agg rfl fun i v v' h1 h2 => by
 cases h1.symm.trans h2
 exact h v (Array.mem_of_getElem? h1) B
theorem flat_cells {X:Cx} {v:Value} (h:Flat X v):∀ w ∈ v.cells,Flat X w:=by
 intro w hw B
 have:=(h B).cells
 obtain ⟨i,hi,e⟩:=Array.mem_iff_getElem.1 hw
 exact this.2 i w w (by rw [Array.getElem?_eq_getElem hi,e]) (by rw [Array.getElem?_eq_getElem hi,e])
theorem struct_flat {X:Cx} {info:TypeId → Option TypeInfo} (hi:∀ t i,info t=some i → FlatI X i) {fs:Array Field} {i:TypeInfo} (h:Made.reckonStruct info fs=some i):FlatI X i:=by
 unfold Made.reckonStruct at h
 obtain ⟨s,h1,h2⟩:=Option.bind_eq_some_iff.1 h
 rw [← Array.forIn_toList] at h1
 have hI:=forIn_opt (I:=fun s => ∀ cs,s.2.2.2.2.2.2.2.1=some cs → ∀ v ∈ cs,Flat X v) (fun f s hs r h => by
   simp only [bind,Option.bind,pure] at h
   repeat' (first | split at h | dsimp only at h)
   all_goals first
     | (cases h; done)
     | (injection h with h
        subst h
        intro cs hc v hv
        dsimp only at hc
        first
          | (cases hc; done)
          | (injection hc with hc
             subst hc
             rcases Array.mem_append.1 hv with h | h
             · exact hs _ (by assumption) v h
             · exact flat_cells (hi _ _ (by assumption) _ (by assumption)) v h))) fs.toList _ s (fun cs h v hv => by
   dsimp only at h
   injection h with h
   subst h
   simp at hv) h1
 dsimp only at h2
 intro v hv
 split at h2 <;>
 · injection h2 with h2
   subst h2
   obtain ⟨cs,hc,rfl⟩:=Option.map_eq_some_iff.1 hv
   exact flat_agg (hI cs hc)
theorem reckon_flat {X:Cx} {info:TypeId → Option TypeInfo} (hi:∀ t i,info t=some i → FlatI X i) {d:TypeDesc} {i:TypeInfo} (h:Made.reckon info d=some i):FlatI X i:=by
 have fl:∀ v,flatV 4 v=true → Flat X v:=flat_of 4
 intro v hv
 unfold Made.reckon at h
 cases d with
 | struct fs => exact struct_flat hi h v hv
 | array n e =>
   simp only [bind,Option.bind,pure] at h
   cases he:info e with
   | none => rw [he] at h; cases h
   | some j =>
     rw [he] at h
     dsimp only at h
     split at h
     · cases h
     · injection h with h
       subst h
       dsimp only at hv
       split at hv
       · cases hv
       · split at hv
         · injection hv with hv
           subst hv
           exact flat_agg fun w hw => by simp at hw
         · obtain ⟨z,hz,rfl⟩:=Option.map_eq_some_iff.1 hv
           refine flat_agg fun w hw => ?_
           rw [Array.mem_flatten] at hw
           obtain ⟨r,hr,hw⟩:=hw
           rw [Array.mem_replicate] at hr
           obtain ⟨_,rfl⟩:=hr
           exact flat_cells (hi e j he z hz) w hw
 | _ =>
   simp only [bind,Option.bind,pure] at h
   repeat' (first | split at h | dsimp only at h)
   all_goals first
     | (cases h; done)
     | (injection h with h
        subst h
        simp only [Made.word,Option.some.injEq] at hv
        subst hv
        exact fl _ rfl)
theorem infoAt_flat {X:Cx} {T:Tables} (ht:∀ i ∈ T.types,FlatI X i):∀ (k:Nat) t i,Made.infoAt T k t=some i → FlatI X i:=by
 intro k
 induction k with
 | zero => intro t i h; cases h
 | succ k ih =>
   intro t i h
   unfold Made.infoAt at h
   split at h
   · exact ht i (Array.mem_of_getElem? h)
   · obtain ⟨d,_,h⟩:=Option.bind_eq_some_iff.1 h
     exact reckon_flat (fun t i h => ih t i h) h
theorem info_flat {X:Cx} {T:Tables} (ht:∀ i ∈ T.types,FlatI X i) (t:TypeId) (i:TypeInfo) (h:T.info? t=some i):FlatI X i:=by
 unfold Tables.info? at h
 split at h
 · exact ht i (Array.mem_of_getElem? h)
 · exact infoAt_flat ht _ t i h
end Go.Proofs.YthhfljldbfgpcaaGreatDoor.Ok
end
