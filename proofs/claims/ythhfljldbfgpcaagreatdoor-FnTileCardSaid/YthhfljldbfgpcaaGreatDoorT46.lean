/- Merged texts: SiD, SiC, MaQ, MaR. -/
import Derived.Test.YthhfljldbfgpcaaGreatDoorT45
import Derived.Test.YthhfljldbfgpcaaGreatDoorT33
import Derived.Conc.Own3
import Derived.Test.YthhfljldbfgpcaaGreatDoorT43
set_option linter.all false
section
namespace Go.Proofs.YthhfljldbfgpcaaGreatDoor
open Go.Conc Go.Proofs.YthhfljldbfgpcaaGreatDoor.Bar Go.Proofs.YthhfljldbfgpcaaGreatDoor.Co
theorem mulI {P:Program} {a:Act} {o:Oper} {i:Nat} {t t':TypeId} (hop:o.op=.binOp .mul t (.tmp i) (.const (.int .i64 0)) t') :
   (∃ n,a.eval (.tmp i)=.int .i64 n ∧ ∃ v,∀ w,(execOp a.eval o).run P w=.ok (.value v) w) ∨ ∀ w,∃ s,(execOp a.eval o).run P w=.halt s w ∧ ((∃ m,s=.stuck m) ∨ s=.unsupported .addressObserved):=by
 have ec:a.eval (.const (.int .i64 0))=.int .i64 0:=rfl
 rcases mul_int (P:=P) (t:=t) (a.eval (.tmp i)) with ⟨n,h⟩ | h
 · refine .inl ⟨n,h,?_⟩
   unfold execOp
   simp only [hop]
   rw [ec,h]
   simp [eqGuard,binOp,Op.intArith]
 · refine .inr fun w => ?_
   obtain ⟨s,h1,h2⟩:=h w
   refine ⟨s,?_,h2⟩
   unfold execOp
   simp only [hop]
   rw [ec]
   simp [eqGuard,h1]
theorem realC {P:Program} {a:Act} {o:Oper} {i:Nat} {ts:Array TypeId} (hop:o.op=.call { callee:=.builtin .real,args:=#[.tmp i],argTypes:=ts }) :
   (∃ k x y,a.eval (.tmp i)=.complex k x y ∧ ∀ w,(execOp a.eval o).run P w=.ok (.value (.float k x)) w) ∨ ∀ w,∃ s,(execOp a.eval o).run P w=.halt s w ∧ ((∃ m,s=.stuck m) ∨ s=.unsupported .addressObserved):=by
 have yes:∀ (k:FloatKind) (x y:Nat) (t:TypeId),Builtin.real_ ts t #[.complex k x y]=pure (.float k x):=fun _ _ _ _ => rfl
 have no:∀ (v:Value) (t:TypeId),(∀ k x y,v ≠ .complex k x y) → ∃ m,Builtin.real_ ts t #[v]=stuck m:=fun v t h => by
   cases v <;> first
     | exact absurd rfl (h _ _ _)
     | exact ⟨_,rfl⟩
 have key:∀ w,(execOp a.eval o).run P w=(do pure (Next.value (← Builtin.real_ ts o.type #[a.eval (.tmp i)]))).run P w:=fun w => by
   unfold execOp
   simp only [hop]
   simp only [resolve,invoke,builtin,List.map_toArray,List.map_cons,List.map_nil,pure_bind]
 by_cases h:∃ k x y,a.eval (.tmp i)=.complex k x y
 · obtain ⟨k,x,y,h⟩:=h
   exact .inl ⟨k,x,y,h,fun w => by rw [key,h,yes]; simp⟩
 · obtain ⟨m,hm⟩:=no (a.eval (.tmp i)) o.type fun k x y e => h ⟨k,x,y,e⟩
   exact .inr fun w => ⟨.stuck m,by rw [key,hm]; simp,.inl ⟨_,rfl⟩⟩
theorem lssF {P:Program} {a:Act} {o:Oper} {i:Nat} {t t':TypeId} (hop:o.op=.binOp .lss t (.tmp i) (.const (.float .f32 0)) t') {k:FloatKind} {x:Nat} (hv:a.eval (.tmp i)=.float k x) :
   (k=.f32 ∧ ∃ v,∀ w,(execOp a.eval o).run P w=.ok (.value v) w) ∨ ∀ w,∃ s,(execOp a.eval o).run P w=.halt s w ∧ ((∃ m,s=.stuck m) ∨ s=.unsupported .addressObserved):=by
 have ec:a.eval (.const (.float .f32 0))=.float .f32 0:=rfl
 unfold execOp
 simp only [hop]
 rw [ec,hv]
 cases k with
 | f32 => exact .inl ⟨rfl,by simp [eqGuard,binOp,Op.floatCmp]⟩
 | f64 => exact .inr fun w => by simp [eqGuard,binOp]
theorem way_no {P:Program} {F:St → Prop} (hF:∀ x,F x → Pop x) {b:Frame} {a:Act} {ops:Array Oper} {i:Nat} {rest:List Nat} {k:List Item} {cs:List Frame} {V:World} {o:Oper} (ho:ops[i]?=some o) (hg:o.guard=none) (hk:b.kind ≠ .early)
   (hr:∀ w,∃ s,(execOp a.eval o).run P w=.halt s w ∧ ((∃ m,s=.stuck m) ∨ s=.unsupported .addressObserved)) (h:Bar.Way P F ⟨b.at a (.inRegion ops (i :: rest) :: k),cs,V⟩):False:=by
 have h1:=(way_oper hF ho hg hk (v:=undef) (.inr hr) h).1 V
 obtain ⟨s,h2,_⟩:=hr V
 rw [h1] at h2
 cases h2
noncomputable def vB:Code:=Vp.fT.body.getD .skip
noncomputable def vK:Code:=match vB with | .seq _ k => k | _ => .skip
theorem vB_is:vB=.seq (.region 90 Vp.guards false) vK:=by
 unfold vK vB
 rw [Vp.bodyT]
 cases h:Tryz.f6.body with
 | none => have:Tryz.f6.body.isNone=false:=by kernel_rfl
           rw [h] at this; cases this
 | some c => rfl
theorem vB_body:Vp.fT.body=some vB:=by
 unfold vB
 cases h:Vp.fT.body with
 | none =>
   rw [Vp.bodyT] at h
   have:Tryz.f6.body.isNone=false:=by kernel_rfl
   cases h':Tryz.f6.body with
   | none => rw [h'] at this; cases this
   | some c => rw [h'] at h; cases h
 | some c => rfl
def bV:Frame:={ fn:=5,tmps:=#[],todo:=[],defers:=[],mode:=.run,kind:=.normal }
theorem enter_v (p:Array Value):Frame.enter Vp.prog 5 p .normal=bV.at ⟨p ++ Array.replicate (81 - p.size) undef,[]⟩ [.code vB]:=by
 unfold Frame.enter
 rw [Vp.funcT]
 dsimp only [Option.map_some,Option.getD_some,Option.bind_some]
 rw [Vp.ntmpsT,vB_body]
 rfl
theorem shape_of {F:St → Prop} (hF:∀ x,F x → Pop x) {p:Array Value} (hs:p.size=4) {cs:List Frame} {V:World} (h:Bar.Way Vp.prog F ⟨Frame.enter Vp.prog 5 p .normal,cs,V⟩) :
   ∃ (x y:Nat) (a b m:Int),p=#[.complex .f32 x y,.int .i64 a,.int .i64 b,.int .i64 m]:=by
 rw [enter_v,vB_is] at h
 have h:=way_ctl hF rfl stepG_seq h
 have h:=way_ctl hF rfl stepG_region h
 have hr:List.range Vp.guards.size=[0,1,2,3,4]:=rfl
 rw [hr] at h
 generalize hT:p ++ Array.replicate (81 - p.size) undef=T at h
 have hTs:T.size=81:=by rw [← hT]; simp; omega
 have hTk:∀ k,k < 4 → T[k]?=p[k]?:=fun k hk => by rw [← hT,Array.getElem?_append_left (by omega)]
 clear hT
 have hk:bV.kind ≠ .early:=by simp [bV]
 have ev:∀ (A:Act) (j:Nat),A.eval (.tmp j)=A.tmps.getD j undef:=fun A j => rfl
 obtain ⟨p0,e0⟩:∃ v,p[0]?=some v:=⟨_,Array.getElem?_eq_getElem (by omega)⟩
 obtain ⟨p1,e1⟩:∃ v,p[1]?=some v:=⟨_,Array.getElem?_eq_getElem (by omega)⟩
 obtain ⟨p2,e2⟩:∃ v,p[2]?=some v:=⟨_,Array.getElem?_eq_getElem (by omega)⟩
 obtain ⟨p3,e3⟩:∃ v,p[3]?=some v:=⟨_,Array.getElem?_eq_getElem (by omega)⟩
 have hp:p=#[p0,p1,p2,p3]:=by
   apply Array.ext_getElem?
   intro i
   match i with
   | 0 => exact e0
   | 1 => exact e1
   | 2 => exact e2
   | 3 => exact e3
   | i + 4 => rw [Array.getElem?_eq_none (by omega)]; rfl
 have gt:∀ (A:Act) (j:Nat) (v:Value),A.tmps[j]?=some v → A.eval (.tmp j)=v:=fun A j v hv => by rw [ev,Array.getD_eq_getD_getElem?,hv]; rfl
 
 rcases realC (P:=Vp.prog) (a:=⟨T,[]⟩) (o:=Vp.guards[0]) (i:=0) rfl with ⟨k,x,y,v0,r0⟩ | r0
 case inr => exact (way_no hF (ops:=Vp.guards) (i:=0) rfl rfl hk r0 h).elim
 have h:=(way_oper hF (ops:=Vp.guards) (i:=0) rfl rfl hk (.inl r0) h).2
 have z0:p0=.complex k x y:=by rw [← v0]; exact (gt _ _ _ ((hTk 0 (by decide)).trans e0)).symm
 have hd0:Vp.guards[0].dst=some 76:=rfl
 rw [hd0] at h
 
 have s1:(⟨T,[]⟩:Act).put (some 76) (.float k x)=⟨T.setIfInBounds 76 (.float k x),[]⟩:=rfl
 rw [s1] at h
 rcases lssF (P:=Vp.prog) (a:=⟨T.setIfInBounds 76 (.float k x),[]⟩) (o:=Vp.guards[1]) (i:=76) rfl (gt _ 76 (.float k x) (Array.getElem?_setIfInBounds_self_of_lt (by omega))) with ⟨rfl,v1,r1⟩ | r1
 case inr => exact (way_no hF (ops:=Vp.guards) (i:=1) rfl rfl hk r1 h).elim
 have h:=(way_oper hF (ops:=Vp.guards) (i:=1) rfl rfl hk (.inl r1) h).2
 have hd1:Vp.guards[1].dst=some 80:=rfl
 rw [hd1] at h
 have s2:(⟨T.setIfInBounds 76 (.float .f32 x),[]⟩:Act).put (some 80) v1=⟨(T.setIfInBounds 76 (.float .f32 x)).setIfInBounds 80 v1,[]⟩:=rfl
 rw [s2] at h
 generalize hU:(T.setIfInBounds 76 (.float .f32 x)).setIfInBounds 80 v1=U at h
 have hUk:∀ j,j < 4 → U[j]?=T[j]?:=fun j hj => by rw [← hU,Array.getElem?_setIfInBounds_ne (by omega),Array.getElem?_setIfInBounds_ne (by omega)]
 clear hU
 
 rcases mulI (P:=Vp.prog) (a:=⟨U,[]⟩) (o:=Vp.guards[2]) (i:=1) rfl with ⟨a,va,u2,r2⟩ | r2
 case inr => exact (way_no hF (ops:=Vp.guards) (i:=2) rfl rfl hk r2 h).elim
 have h:=(way_oper hF (ops:=Vp.guards) (i:=2) rfl rfl hk (.inl r2) h).2
 have hd2:Vp.guards[2].dst=some 77:=rfl
 rw [hd2] at h
 have s3:(⟨U,[]⟩:Act).put (some 77) u2=⟨U.setIfInBounds 77 u2,[]⟩:=rfl
 rw [s3] at h
 rcases mulI (P:=Vp.prog) (a:=⟨U.setIfInBounds 77 u2,[]⟩) (o:=Vp.guards[3]) (i:=2) rfl with ⟨b,vb,u3,r3⟩ | r3
 case inr => exact (way_no hF (ops:=Vp.guards) (i:=3) rfl rfl hk r3 h).elim
 have h:=(way_oper hF (ops:=Vp.guards) (i:=3) rfl rfl hk (.inl r3) h).2
 have hd3:Vp.guards[3].dst=some 78:=rfl
 rw [hd3] at h
 have s4:(⟨U.setIfInBounds 77 u2,[]⟩:Act).put (some 78) u3=⟨(U.setIfInBounds 77 u2).setIfInBounds 78 u3,[]⟩:=rfl
 rw [s4] at h
 rcases mulI (P:=Vp.prog) (a:=⟨(U.setIfInBounds 77 u2).setIfInBounds 78 u3,[]⟩) (o:=Vp.guards[4]) (i:=3) rfl with ⟨m,vm,u4,r4⟩ | r4
 case inr => exact (way_no hF (ops:=Vp.guards) (i:=4) rfl rfl hk r4 h).elim
 have z1:p1=.int .i64 a:=by rw [← va]; exact (gt _ _ _ ((hUk 1 (by decide)).trans ((hTk 1 (by decide)).trans e1))).symm
 have z2:p2=.int .i64 b:=by rw [← vb]; exact (gt _ _ _ ((Array.getElem?_setIfInBounds_ne (by decide)).trans ((hUk 2 (by decide)).trans ((hTk 2 (by decide)).trans e2)))).symm
 have z3:p3=.int .i64 m:=by rw [← vm]; exact (gt _ _ _ ((Array.getElem?_setIfInBounds_ne (by decide)).trans ((Array.getElem?_setIfInBounds_ne (by decide)).trans ((hUk 3 (by decide)).trans ((hTk 3 (by decide)).trans e3))))).symm
 exact ⟨x,y,a,b,m,by rw [hp,z0,z1,z2,z3]⟩
end Go.Proofs.YthhfljldbfgpcaaGreatDoor
end

section
namespace Go.Proofs.YthhfljldbfgpcaaGreatDoor.Co
open Go.Conc Go.Proofs.YthhfljldbfgpcaaGreatDoor.Tl Go.Proofs.YthhfljldbfgpcaaGreatDoor.Lr Go.Proofs.YthhfljldbfgpcaaGreatDoor.Bar
open Go.ConcN (sumTo)
def Ends (P:Program) (Post:Value → World → Prop) (gs:Array Goroutine) (w:World) (sl:Option (Nat × Nat)) (t:Trace):Prop :=
 ∃ N last o w' t',runNT P (N + 1) (crowd gs w sl) t=(.ended o w',t') ∧ runN P N (crowd gs w sl)=.next last ∧ step P last=.ended o w' ∧ Conc.Good P Post last o w' t'
theorem Ends.ran {P:Program} {Post:Value → World → Prop} {gs gs':Array Goroutine} {w w':World} {sl sl':Option (Nat × Nat)} {t t':Trace} (h:Ran P gs w sl t gs' w' sl' t') (k:Ends P Post gs' w' sl' t'):Ends P Post gs w sl t:=by
 obtain ⟨M,h⟩:=h
 obtain ⟨N,last,o,w1,t1,h1,h2,h3,h4⟩:=k
 refine ⟨M + N,last,o,w1,t1,by rw [Nat.add_assoc,runNT_add,h]; exact h1,?_,h3,h4⟩
 have e:runNT P (M + N) (crowd gs w sl) t=runNT P N (crowd gs' w' sl') t':=by rw [runNT_add,h]
 rw [← runNT_fst _ _ _ t,e,runNT_fst]
 exact h2
structure Kept (X:Cx) (m0:Nat) (w0:World) (B:Lk) (w:World):Prop where
 low:∀ x y,B x y → ¬ X.F x → m0 ≤ y
 size:m0 ≤ w.heap.size
 old:∀ x,x < m0 → w.heap[x]?=w0.heap[x]?
 tape:w.tape=w0.tape
 os:w.os=w0.os ∧ w.output=w0.output
theorem Kept.at {X:Cx} {m0:Nat} {w0 w:World} {B:Lk} (h:Kept X m0 w0 B w) (d:Nat):Kept X m0 w0 B (w.at d):=⟨h.low,h.size,h.old,h.tape,h.os⟩
theorem Kept.step {X:Cx} {m0:Nat} {w0 w V V1 W1:World} {B B':Lk} {n:Array Event} (h:Kept X m0 w0 B w) (hx:Ext X B V w B' V1 W1) (hd:Did (Hot X B) (Ice X B) w (Hot X B') W1 n):Kept X m0 w0 B' W1 where
 low x y k hf:=(hx.new x y k).elim (fun z => h.low x y z hf) fun z => Nat.le_trans h.size z.2
 size:=Nat.le_trans h.size hd.size
 old x k:=(hd.kept x (Nat.lt_of_lt_of_le k h.size) fun ⟨a,h1,_,hf⟩ => Nat.not_le.2 k (h.low a x h1 hf)).trans (h.old x k)
 tape:=hd.tape.trans h.tape
 os:=⟨hd.os.1.trans h.os.1,hd.os.2.trans h.os.2⟩
def Sim (X:Cx) (P':Program) (m0:Nat) (w0:World) (Post:Value → World → Prop) (x:St):Prop :=
 ∀ (B:Lk) (τ:Tape) (d:Nat) (gs:Array Goroutine) (w:World) (sl:Option (Nat × Nat)) (t:Trace) (q:Nat → Nat) (fr':Frame) (cs':List Frame),WR X B (x.at τ d).V w → FrR X B x.fr fr' → CsR X B x.cs cs' → botR x.fr x.cs=none → Kept X m0 w0 B w →
   gs[0]?=some (G fr' cs') → Leavers P' t gs q → Past (fun _ => False) w.heap.size t → Ends P' Post gs w sl t
def Parts (X:Cx) (P P':Program) (F:St → Prop) (m0:Nat) (w0:World) (Post:Value → World → Prop):Prop :=
 ∀ (f:FuncId) (p p':Array Value) (c:Frame) (cs:List Frame) (V:World) (B:Lk) (gs:Array Goroutine) (w:World) (sl:Option (Nat × Nat)) (t:Trace) (q:Nat → Nat) (cs':List Frame),X.T f ∧ X.Ar f p.size → Bar.Way P F ⟨Frame.enter P f p .normal,c :: cs,V⟩ → (∀ y,Bar.Sub P ⟨Frame.enter P f p .normal,c :: cs,V⟩ y → Sim X P' m0 w0 Post y) →
   botR (Frame.enter P f p .normal) (c :: cs)=none → Kept X m0 w0 B w → WR X B V w → AR X B p p' → CsR X B (c :: cs) cs' → gs[0]?=some (G (Frame.enter P' f p' .normal) cs') → Leavers P' t gs q → Past (fun _ => False) w.heap.size t → Ends P' Post gs w sl t
section
variable {X:Cx} {P P':Program} {F:St → Prop} {m0:Nat} {w0:World} {Post:Value → World → Prop}
theorem sim_step (H:Whole X P P') (hDn:¬ X.Dn) (hpart:Parts X P P' F m0 w0 Post) (x:St) (g:Tape → Nat → St) (hg:∀ τ d,Go1 P (x.at τ d) (g τ d)) (hway:∀ τ d,Bar.Way P F (g τ d)) (ih:∀ τ d y,Bar.Sub P (g τ d) y → Sim X P' m0 w0 Post y):Sim X P' m0 w0 Post x:=by
 intro B τ d gs w sl t q fr' cs' hw hf hc hb hkp h0 hL hP
 obtain ⟨N5,gs5,d5,sl5,t5,q5,j1,j2,j3,j4,j5,_,d6,sl6,j6⟩:=picked0 (P:=P') (sumTo gs.size q) gs w sl t q rfl h0 hL hP
 have hw3:WR X B (x.at w.tape d6).V (w.at d6):=wr_at hw w.tape d6
 have hgo:=hg w.tape d6
 have hp:=hgo.not_pop
 have hd1:=ih w.tape d6
 have hd2:=hway w.tape d6
 generalize g w.tape d6=z at hgo hd1 hd2
 obtain ⟨es,hgo⟩:=hgo
 obtain ⟨c1,c1',fr1',B',W1,n,e1,e2,hx,hw1,hn,hst⟩:=(step_lr H hw3 (base:=[wall P]) (base':=[]) hf hc (hb_of hp hb) true true).1 _ _ _ _ hgo
 obtain rfl:=List.append_cancel_right e1
 have hbt:=(step_bot H hw3 (base:=[wall P]) hf hc (hb_of hp hb) true _ _ _ _ hgo).trans hb
 rw [List.append_nil,List.append_nil] at e2
 have hdid:=did_of hw3 hw1 hx hn
 have hkp1:=(hkp.at d6).step hx hdid
 obtain ⟨gs7,ops,i1,i2,i3,i4,i5⟩:=main_step (sl:=sl6) (w:=w.at d6) j3 e2 hdid (fun b ⟨a,h1,_⟩ => hw3.ltW h1) j4 j5
 refine Ends.ran (Ran.trans ⟨N5,j1⟩ (Ran.head (by rw [j6]; exact i1) .refl)) ?_
 rcases hst with ⟨g1,g2⟩ | ⟨f,p,p',k,ht,⟨hk,hne⟩,ef,ef',hpp,hcc⟩
 · exact hd1 z (.refl z) B' z.V.tape z.V.drawn gs7 W1 sl6 _ q5 fr1' c1' hw1 g1 g2 hbt hkp1 i3 i4 i5
 · obtain rfl:=hk.resolve_right hDn
   obtain ⟨zf,zc,zV⟩:=z
   dsimp only at ef hne hcc hw1 hbt hd1 hd2
   subst ef ef'
   cases zc with
   | nil => exact absurd rfl hne
   | cons c0 cs0 => exact hpart f p p' c0 cs0 zV B' gs7 W1 sl6 _ q5 c1' ht hd2 hd1 hbt hkp1 hw1 hpp hcc i3 i4 i5
theorem sim_fin (H:Whole X P P') {Q:Value → World → Prop} (hQ:∀ v w τ d,Q v w → Q v { w with tape:=τ,drawn:=d }) (hpost:∀ B V v v' W,Q v V → VR X B v v' → WR X B V W → Kept X m0 w0 B W → Post v' W) {x:St} (hx:Fin P Q x) (hm:P'.inits.idxOf? x.fr.fn=none):Sim X P' m0 w0 Post x:=by
 intro B τ d gs w sl t q fr' cs' hw hf hc hb hkp h0 hL hP
 obtain ⟨h1,v,⟨g1,g2,g3,fn,g4,g5⟩,hq⟩:=hx
 obtain rfl:cs'=[]:=by rw [h1] at hc; cases hc; rfl
 have hm':fr'.mode=.returning:=by
   have:=hf.mode
   rw [g1] at this
   generalize fr'.mode=q at this
   cases this
   rfl
 have hd':fr'.defers=[]:=by
   have:=hf.defers
   rw [g2] at this
   generalize fr'.defers=q at this
   cases this
   rfl
 have hk':fr'.kind=.normal:=hf.kind.trans g3
 obtain ⟨fn',e5,hres⟩:∃ fn',P'.funcs[x.fr.fn]?=some fn' ∧ fn'.results=fn.results:=by
   rcases H.hF.funcs x.fr.fn with ⟨e1,e2⟩ | ⟨f1,f2,e1,e2,hn,hr,_⟩
   · rw [g4] at e1; cases e1
   · rw [g4] at e1; cases e1; exact ⟨f2,e2,hr⟩
 refine beside_ends (Shun:=fun _ => False) (B:=w.heap.size) (D:=fun _ _ _ => False) (n:=0) (fun _ _ _ h => h.elim) h0 hL hP ?_
 rintro w2 ⟨d2,rfl⟩
 have hw2:WR X B (x.at w.tape d2).V (w.at d2):=wr_at hw w.tape d2
 have g6:=results_lr H hw (fr':=fr') hf g4 (fr:=x.fr) (V:=(x.at τ d).V) (v:=v) (by
   have:=results_lr H (wr_at (τ:=x.V.tape) (d:=x.V.drawn) hw) hf g4 g5 τ d
   exact this) w.tape d2
 have g6:(results fn x.fr.tmps).run P (x.at w.tape d2).V=.ok v (x.at w.tape d2).V:=g6
 rcases run_lr (sr_results H.hF.toPRel hres hf.tmps) hw2 with ⟨a,V1,B1,W1,b,n,e1,e2,hx,hw1,hab,hn⟩ | ⟨v,V1,B1,W1,v',n,e1,e2,hx,hw1,hab,hn⟩ | ⟨h,V1,e1,hm⟩
 · rw [g6] at e1
   injection e1 with e1 e3
   subst e1 e3
   have hW:W1=w.at d2:=by
     have:=e2 #[]
     rw [Sem.runT_eq] at this
     exact Ro.results fn' fr'.tmps (w.at d2) b W1 (congrArg Prod.fst this)
   subst hW
   have hdid:=did_of hw2 hw1 hx (hn.seen (P':=P') fr'.fn)
   refine ⟨rfl,b,seen P' fr'.fn n,?_,fun e he => evC_evL (hdid.evs e he) hdid.lt fun z ⟨y,hy,_⟩ => hw2.ltW hy,hpost _ _ _ _ _ (hQ _ _ w.tape d2 hq) hab hw1 ((hkp.at d2).step hx hdid)⟩
   rw [stepG_unwind (by rw [hm']; simp)]
   unfold unwind
   rw [hd',hm',hf.fn,e5]
   dsimp only
   rw [e2 #[],Array.empty_append]
   dsimp only
   unfold doReturn
   rw [hk']
   rw [← hf.fn] at hm
   simp [GStep.after,hm]
 · rw [g6] at e1; cases e1
 · rw [g6] at e1; cases e1
theorem sim (H:Whole X P P') (hDn:¬ X.Dn) {Q:Value → World → Prop} (hpart:Parts X P P' F m0 w0 Post) (hQ:∀ v w τ d,Q v w → Q v { w with tape:=τ,drawn:=d }) (hF:∀ x,F x → Fin P Q x ∧ P'.inits.idxOf? x.fr.fn=none) (hpost:∀ B V v v' W,Q v V → VR X B v v' → WR X B V W → Kept X m0 w0 B W → Post v' W) {x:St} (h:Bar.Way P F x):Sim X P' m0 w0 Post x :=
 way_sub (fun x h => Fin.pop (hF x h).1) (fun x h => sim_fin H hQ hpost (hF x h).1 (hF x h).2) (fun x g hg hw ih => sim_step H hDn hpart x g hg hw ih) h x (.refl x)
theorem way_of {XV:Cx} {PV:Program} (HV:Whole XV PV PV) (hT:∀ f,¬ XV.T f) {Q:Value → World → Prop} (hQ:∀ v w τ d,Q v w → Q v { w with tape:=τ,drawn:=d }) {f:FuncId} {args:Array Value} {V:World} (hj:JL XV ⟨Frame.enter PV f args .normal,[],V⟩)
   (h:∀ τ d,Calls PV f args { V with tape:=τ,drawn:=d } (only Q)):Bar.Way PV (fun x => Fin PV Q x ∧ x.fr.fn=f) ⟨Frame.enter PV f args .normal,[],V⟩:=by
 have K:Keeps PV (fun x => Fin PV Q x ∧ x.fr.fn=f) (JL XV):=keeps_lr HV hT fun x τ d hj hx => ⟨fin_blind HV hQ x τ d hj hx.1,hx.2⟩
 refine bar K hj fun τ d => ?_
 obtain ⟨e,w',fr,hr,hs,hf,hl⟩:=h τ d [wall PV]
 cases e with
 | returned v =>
   obtain ⟨n,hs⟩:=hs
   exact steps_rch K (z:=⟨fr,[],w'⟩) ⟨⟨rfl,v,hl,hr⟩,hf⟩ n _ (K.tape _ τ d hj) hs
 | panicked chain => exact hr.elim
 | outgrown => exact hr.elim
end
end Go.Proofs.YthhfljldbfgpcaaGreatDoor.Co
end

section
namespace Go.Proofs.YthhfljldbfgpcaaGreatDoor
open Go.ConcN (sumTo)
open Go.RowKit Go.Conc Go.Proofs.YthhfljldbfgpcaaGreatDoor.Co Go.Proofs.YthhfljldbfgpcaaGreatDoor.Ok Go.Proofs.YthhfljldbfgpcaaGreatDoor.Lr Go.Proofs.YthhfljldbfgpcaaGreatDoor.Tl Go.Proofs.YthhfljldbfgpcaaGreatDoor.Bar
theorem rowsOf_len {α:Type} (n:Nat) (f:Nat → Nat → α):∀ i,(rowsOf n f i).length=i * n
 | 0 => by simp [rowsOf]
 | i + 1 => by rw [rowsOf_succ,List.length_append,rowsOf_len n f i,List.length_map,List.length_range,Nat.succ_mul]
theorem tileQ_blind {cx cy d n:Nat} {good:Bool} {xs:List Nat} {ys:List Int} (v:Value) (V:World) (τ:Tape) (k:Nat) (h:TileQ cx cy d n good xs ys v V):TileQ cx cy d n good xs ys v { V with tape:=τ,drawn:=k }:=h
theorem zRowR {X:Cx} {B:Lk}:VR X B zRow zRow:=.agg rfl fun i v v' h1 h2 => by
 rw [h1] at h2
 cases h2
 match i with
 | 0 => cases h1; exact .snil _ _
 | 1 => cases h1; exact .snil _ _
 | i + 2 => cases h1
theorem tile_good {cx cy d n:Nat} {most:Int} {px py:Nat → Nat → Nat} {bx:Nat → Nat → Value} {st:Nat → Nat → Int} {sm:Nat → Nat → Nat} {ex ey:Nat} (C:CellOK cx cy d n most px py bx st sm) (hn:n ≤ 8) (hn0:0 < n)
   (h:∀ W,Calls Vp.prog 19 #[.complex .f32 cx cy,.int .i64 d,.int .i64 n] W fun e w' => e=.returned (.bool true) ∧ W=w') (hp:∀ W,Calls Vp.prog 20 #[.complex .f32 cx cy,.int .i64 d,.int .i64 n,.int .i64 n] W fun e w' => e=.returned (.complex .f32 ex ey) ∧ W=w')
   (hf1:(FloatKind.f32.format.order ex 1090519040 == some .gt)=false) (hf2:(FloatKind.f32.format.order ey 1090519040 == some .gt)=false) {c0:Frame} {bs:List Frame} {gs:Array Goroutine} {w:World} {sl:Option (Nat × Nat)} {t:Trace} {q:Nat → Nat}
   (hN:Vp.prog.globals.size ≤ w.heap.size) (h0:gs[0]?=some (G (Frame.enter Tryz.prog 5 (tArgs cx cy d n most) .normal) (c0 :: bs))) (hL:Leavers Tryz.prog t gs q) (hP:Past (fun _ => False) w.heap.size t) :
   ∃ gs' w' sl' t' q' v',Ran Tryz.prog gs w sl t gs' w' sl' t' ∧ gs'.size=gs.size + 1 ∧ gs'[0]?=some (G (c0.finish v') bs) ∧ Leavers Tryz.prog t' gs' q' ∧ Past (fun _ => False) w'.heap.size t' ∧ w.heap.size ≤ w'.heap.size ∧ (∀ x,x < w.heap.size → w'.heap[x]?=w.heap[x]?) ∧
     w'.tape=w.tape ∧ w'.os=w.os ∧ w'.output=w.output ∧ TileW cx cy d n (rowsOf n sm n) (rowsOf n st n) w.heap.size v' w':=by
 obtain ⟨gs1,w1,sl1,t1,q1,B,V,ww,b',a,a',e',c,L,rb,ob,gS,gM,r1,z1,g1,g2,sit,hLe,hMS,y1,y2,y3,y4,y5,hTX⟩:=phase_start (most:=most) hn h hp hf1 hf2 (sl:=sl) hN h0 hL hP
 
 have hA:Co Tryz.prog true (c0 :: bs) (Ice (Xs w.heap.size fun _ => False) B) (fun L fr cs W => Stops Tryz.prog true (c0 :: bs) c (.recv zRow) fr cs ∧ RecvP w.heap.size c w.heap.size cx cy d n 0 [] [] (Ice (Xs w.heap.size fun _ => False) B) L fr cs W) (Hot (Xs w.heap.size fun _ => False) B) (b'.at a' (.inRegion ops10 [] :: [.code e'])) [] w1:=by
   refine Co.regionEnd (WH.hot ⟨V,rfl,hMS.wr⟩) fun W2 hr => ?_
   exact stretchM (ww:=ww) (rb:=rb) (ob:=ob) (gS:=gS) (gM:=gM) (hMS.rely hr) (Nat.le_trans sit.kept.1 hr.1) fun τ k => hm_first y1 y2 y3 y4 y5 (tx_blind hTX τ k)
 rw [ice_none,← hLe] at hA
 have hc1:c < w1.heap.size:=by obtain ⟨s,tm,hc⟩:=sit.chan; exact (Array.getElem?_eq_some_iff.1 hc).1
 have hS:=send_born (most:=most) C hn hn0 (c:=c) hc1 (Nat.le_trans hN sit.kept.1)
 have hb0:Both w.heap.size c w.heap.size gs.size cx cy d n st sm w (c0 :: bs) 0 n gs1 w1 t1 q1 L (fun _ => False) (fun _ => False) _ _ [] [] w1 w1 :=
   ⟨by rw [Nat.zero_mul]; exact hA,hS,sit,g1,g2,rely_refl _ _ _,rely_refl _ _ _⟩
 obtain ⟨gs2,w2,sl2,t2,q2,La2,Lb2,R2,fra2,frb2,csa2,csb2,Wa2,Wb2,r2,z2,hb⟩:=rows_loop hn hN n 0 (by omega) (sl:=sl1) hb0
 
 have hS2:=hb.S
 unfold SendS at hS2
 obtain ⟨gs3,w3,sl3,t3,q3,La3,fr3,cs3,W3,r3,z3,g3,hK,hr3,hL3,hP3,hlow3,hdis3,hR3,hkept3⟩:=finish (K:=fun L fr cs W => RecvP w.heap.size c w.heap.size cx cy d n (n * n) (rowsOf n sm n) (rowsOf n st n) R2 L fr cs W) hb.A hS2 (sl:=sl2) hb.sit hb.ga hb.gb hb.ra hb.rb
 obtain ⟨F,B3,V3,ww3,a3,a3',b3',k3',rb3,ob3,gS3,gM3,rfl,rfl,hMS3,hMA3,hTX3,rfl,rfl⟩:=hK
 have hMS4:=hMS3.rely hr3
 have hCo:=after_recv (base:=c0 :: bs) (Post:=PostR (Xs w.heap.size F) V3.heap.size w3.heap.size B3 (Fin Vp.prog (TileQ cx cy d n true (rowsOf n sm n) (rowsOf n st n)))) (vV:=zRow) (vW:=zRow) (y:=false) hMS4 hMA3.size zRowR fun τ k W2 hsz hM =>
   (last_ret (cx:=cx) (cy:=cy) (d:=d) (n:=n) (good:=true) (xs:=rowsOf n sm n) (ys:=rowsOf n st n) hM.wr hM.fr fun τ' k' => ⟨{ ww3 with tape:=τ',drawn:=k' },hm_last hMA3.puts (by
     rw [put_get (by decide)]
     exact Array.getElem?_setIfInBounds_self_of_lt (by rw [hMA3.size]; decide)) (Array.getElem?_setIfInBounds_self_of_lt (by rw [put_size,hMA3.size]; decide)) (tx_blind hTX3 τ' k')⟩).mono fun _ _ _ _ x => postR_weaken x hsz
 obtain ⟨N4,gs4,fr4,cs4,w4,W4,sl4,t4,q4,L4,k1,k2,k3,k4,k5,k6,k7,k8,_,_⟩:=co_beside2 hCo gs3 w3 sl3 t3 q3 g3 (rely_refl _ _ _) (fun x hx => (hR3 x hx).2) hL3 hP3
 
 obtain ⟨rfl,hret⟩:=ret_of_post (m:=true) (whole_s w.heap.size F) (Q:=TileQ cx cy d n true (rowsOf n sm n) (rowsOf n st n)) tileQ_blind k4 (R:=Ice (Xs w.heap.size F) B3) fun B1 hg _ => ice_gr hMS4.wr hg
 obtain ⟨N5,gs5,d5,sl5,t5,q5,j1,j2,j3,j4,j5,_,d6,sl6,j6⟩:=picked0 (P:=Tryz.prog) (sumTo gs4.size q4) gs4 w4 sl4 t4 q4 rfl k3 k6 k7
 obtain ⟨v',W6,n6,L6,hdid,hst,B6,V6,v6,hg6,hq6,hv6,hw6,rfl⟩:=hret (w4.at d6) (rely_at k5 d6)
 obtain ⟨gs7,ops,i1,i2,i3,i4,i5⟩:=main_step (sl:=sl6) (w:=w4.at d6) j3 (hst c0 bs) hdid (fun x hx => Nat.lt_of_lt_of_le (hR3 x hx).2 k8.size) j4 j5
 have hrun:Ran Tryz.prog gs w sl t gs7 W6 sl6 (t5 ++ ops):=(r1.trans (r2.trans (r3.trans (Ran.trans ⟨N4,k1⟩ ⟨N5,j1⟩)))).trans (Ran.head (by rw [j6]; exact i1) .refl)
 have hL4:∀ x,L4 x → w.heap.size ≤ x:=fun x hx => by
   rcases k8.new x hx with y | y
   · exact hlow3 x (.inl y)
   · exact Nat.le_trans hkept3.1 y
 refine ⟨gs7,W6,sl6,t5 ++ ops,q5,v',hrun,by rw [i2,j2,k2,z3,z2,z1],i3,i4,i5,Nat.le_trans hkept3.1 (Nat.le_trans k8.size hdid.size),fun x hx => ?_,?_,?_,?_,tileW_of hq6 hv6 hw6 (fun x y hxy => ?_) ?_ ?_⟩
 · rw [hdid.kept x (Nat.lt_of_lt_of_le hx (Nat.le_trans hkept3.1 k8.size)) fun hl => Nat.not_le.2 hx (hL4 x hl)]
   refine (k8.kept x (Nat.lt_of_lt_of_le hx hkept3.1) fun hl => Nat.not_le.2 hx (hlow3 x (.inl hl))).trans (hkept3.2.1 x hx)
 · exact hdid.tape.trans (k8.tape.trans hkept3.2.2.1)
 · exact hdid.os.1.trans (k8.os.1.trans hkept3.2.2.2.1)
 · exact hdid.os.2.trans (k8.os.2.trans hkept3.2.2.2.2)
 · rcases hg6.2 x y hxy with z | ⟨_,z⟩
   · exact hMS4.low x y z
   · exact Nat.le_trans hkept3.1 z
 · rw [rowsOf_len]; exact Nat.mul_pos hn0 hn0
 · rw [rowsOf_len]; exact Nat.mul_pos hn0 hn0
end Go.Proofs.YthhfljldbfgpcaaGreatDoor
end

section
namespace Go.Proofs.YthhfljldbfgpcaaGreatDoor
open Go.ConcN (sumTo)
open Go.RowKit Go.Conc Go.Proofs.YthhfljldbfgpcaaGreatDoor.Co Go.Proofs.YthhfljldbfgpcaaGreatDoor.Ok Go.Proofs.YthhfljldbfgpcaaGreatDoor.Lr Go.Proofs.YthhfljldbfgpcaaGreatDoor.Tl Go.Proofs.YthhfljldbfgpcaaGreatDoor.Bar
theorem eq_flat {X:Cx} {B:Lk}:∀ (k:Nat) (v v':Value),flatV k v=true → VR X B v v' → v'=v:=by
 have rows:∀ (k:Nat) (p p':Array Value),(∀ v v',flatV k v=true → VR X B v v' → v'=v) → p.all (flatV k)=true → p.size=p'.size → (∀ (i:Nat) v v',p[i]?=some v → p'[i]?=some v' → VR X B v v') → p'=p:=by
   intro k p p' ih h hs hi
   rw [Array.all_eq_true_iff_forall_mem] at h
   apply Array.ext_getElem?
   intro i
   cases h1:p[i]? with
   | none =>
     rw [Array.getElem?_eq_none_iff] at h1 ⊢
     omega
   | some v =>
     have hlt:i < p'.size:=by rw [← hs]; exact (Array.getElem?_eq_some_iff.1 h1).1
     have h2:=Array.getElem?_eq_getElem hlt
     rw [h2,ih v _ (h v (Array.mem_of_getElem? h1)) (hi i v _ h1 h2)]
 intro k
 induction k with
 | zero => intro v v' h hv; cases hv <;> first | rfl | (simp [flatV] at h)
 | succ k ih =>
   intro v v' h hv
   cases hv with
   | agg hs hi => rw [rows k _ _ ih (by simpa only [flatV] using h) hs hi]
   | tuple hs hi => rw [rows k _ _ ih (by simpa only [flatV] using h) hs hi]
   | _ => first | rfl | (simp [flatV] at h)
theorem tile_bad {cx cy:Nat} {deep size most:Int} (hh:∀ a:Act,a.tmps.size=71 → a.tmps[0]?=some (.complex .f32 cx cy) → a.tmps[1]?=some (.int .i64 deep) → a.tmps[2]?=some (.int .i64 size) → a.tmps[3]?=some (.int .i64 most) → a.defers=[] → ∀ w,HW Vp.prog [.code (cut [9,10,12] mBody)] (HRet 0 0 0 0 false [] [] w) a w)
   {c0:Frame} {bs:List Frame} {gs:Array Goroutine} {w:World} {sl:Option (Nat × Nat)} {t:Trace} {q:Nat → Nat}
   (hN:Vp.prog.globals.size ≤ w.heap.size) (h0:gs[0]?=some (G (Frame.enter Tryz.prog 5 #[.complex .f32 cx cy,.int .i64 deep,.int .i64 size,.int .i64 most] .normal) (c0 :: bs))) (hL:Leavers Tryz.prog t gs q) (hP:Past (fun _ => False) w.heap.size t) :
   ∃ gs' w' sl' t' q' ,Ran Tryz.prog gs w sl t gs' w' sl' t' ∧ gs'.size=gs.size ∧ gs'[0]?=some (G (c0.finish (.tuple #[.agg (tileC 0 0 0 0 (.slice none 0 0) (.slice none 0 0)),.bool false])) bs) ∧ Leavers Tryz.prog t' gs' q' ∧ Past (fun _ => False) w'.heap.size t' ∧ w.heap.size ≤ w'.heap.size ∧ (∀ x,x < w.heap.size → w'.heap[x]?=w.heap[x]?) ∧
     w'.tape=w.tape ∧ w'.os=w.os ∧ w'.output=w.output:=by
 rw [enter_tile] at h0
 generalize hT:(#[.complex .f32 cx cy,.int .i64 deep,.int .i64 size,.int .i64 most]:Array Value) ++ Array.replicate (71 - (#[.complex .f32 cx cy,.int .i64 deep,.int .i64 size,.int .i64 most]:Array Value).size) undef=T at h0
 have hTs:T.size=71:=by rw [← hT]; simp
 have hT0:T[0]?=some (.complex .f32 cx cy):=by rw [← hT]; exact app_get rfl _
 have hT1:T[1]?=some (.int .i64 deep):=by rw [← hT]; exact app_get rfl _
 have hT2:T[2]?=some (.int .i64 size):=by rw [← hT]; exact app_get rfl _
 have hT3:T[3]?=some (.int .i64 most):=by rw [← hT]; exact app_get rfl _
 have hTR:AR (Xs w.heap.size fun _ => False) (fun _ _ => False) T T:=by
   rw [← hT]
   refine AR.append ⟨rfl,fun i v v' h1 h2 => ?_⟩ (AR.replicate _ undefR)
   rw [h1] at h2
   cases h2
   match i with
   | 0 => cases h1; exact .complex _ _ _
   | 1 => cases h1; exact .int _ _
   | 2 => cases h1; exact .int _ _
   | 3 => cases h1; exact .int _ _
   | i + 4 => cases h1
 have hhot:Hot (Xs w.heap.size fun _ => False) (fun _ _ => False)=fun _ => False:=by
   funext x; apply propext; exact ⟨fun ⟨b,h1,_⟩ => h1,fun h => h.elim⟩
 have hCo:=last_ret (base:=c0 :: bs) (cx:=0) (cy:=0) (d:=0) (n:=0) (good:=false) (xs:=[]) (ys:=[]) (start_wr hN) (a:=⟨T,[]⟩) (s:=[.code (cut [9,10,12] mBody)]) (fr:=bM.at ⟨T,[]⟩ [.code mBody])
   (fr_build hTR .nil (.cons (.code (cutM_is _ _)) .nil) rfl rfl) fun τ k => ⟨_,hh ⟨T,[]⟩ hTs hT0 hT1 hT2 hT3 rfl { V0 w with tape:=τ,drawn:=k }⟩
 rw [hhot,ice_none] at hCo
 obtain ⟨N4,gs4,fr4,cs4,w4,W4,sl4,t4,q4,L4,k1,k2,k3,k4,k5,k6,k7,k8,_,_⟩:=co_beside2 hCo gs w sl t q h0 (rely_refl _ _ _) (fun x hx => hx.elim) hL hP
 obtain ⟨rfl,hret⟩:=ret_of_post (m:=true) (whole_s w.heap.size fun _ => False) (Q:=TileQ 0 0 0 0 false [] []) tileQ_blind k4 (R:=fun _ => False) fun B1 hg _ => ice_none
 obtain ⟨N5,gs5,d5,sl5,t5,q5,j1,j2,j3,j4,j5,_,d6,sl6,j6⟩:=picked0 (P:=Tryz.prog) (sumTo gs4.size q4) gs4 w4 sl4 t4 q4 rfl k3 k6 k7
 obtain ⟨v',W6,n6,L6,hdid,hst,B6,V6,v6,hg6,hq6,hv6,hw6,rfl⟩:=hret (w4.at d6) (rely_at k5 d6)
 obtain ⟨gs7,ops,i1,i2,i3,i4,i5⟩:=main_step (sl:=sl6) (w:=w4.at d6) j3 (hst c0 bs) hdid (fun x hx => hx.elim) j4 j5
 have hrun:Ran Tryz.prog gs w sl t gs7 W6 sl6 (t5 ++ ops):=(Ran.trans ⟨N4,k1⟩ ⟨N5,j1⟩).trans (Ran.head (by rw [j6]; exact i1) .refl)
 have hL4:∀ x,L4 x → w.heap.size ≤ x:=fun x hx => (k8.new x hx).resolve_left id
 unfold TileQ at hq6
 rw [if_neg (by simp)] at hq6
 subst hq6
 have:=eq_flat 3 _ _ (by simp [flatV,tileC]) hv6
 subst this
 exact ⟨gs7,W6,sl6,t5 ++ ops,q5,hrun,by rw [i2,j2,k2],i3,i4,i5,Nat.le_trans k8.size hdid.size,fun x hx => by
   rw [hdid.kept x (Nat.lt_of_lt_of_le hx k8.size) fun hl => Nat.not_le.2 hx (hL4 x hl)]
   exact k8.kept x hx fun hl => hl,hdid.tape.trans k8.tape,hdid.os.1.trans k8.os.1,hdid.os.2.trans k8.os.2⟩
end Go.Proofs.YthhfljldbfgpcaaGreatDoor
end
