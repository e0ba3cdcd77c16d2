/- Merged texts: Mr, Wh, WhP, Cut, PhC. -/
import Derived.Test.YthhfljldbfgpcaaGreatDoorT32
import Derived.Test.YthhfljldbfgpcaaGreatDoorT3
import Derived.ProofKit
set_option linter.all false
section
namespace Go.Proofs.YthhfljldbfgpcaaGreatDoor.Ok
open Go.Conc Go.Proofs.YthhfljldbfgpcaaGreatDoor.Lr
theorem made_none {info:TypeId → Option TypeInfo} {d:TypeDesc} {i:TypeInfo} (h:Made.reckon info d=some i):i.methods=#[]:=by
 unfold Made.reckon at h
 cases d with
 | struct fs =>
   have h:Made.reckonStruct info fs=some i:=h
   unfold Made.reckonStruct at h
   obtain ⟨s,_,h2⟩:=Option.bind_eq_some_iff.1 h
   dsimp only at h2
   split at h2 <;>
   · injection h2 with h2
     subst h2
     rfl
 | _ =>
   simp only [bind,Option.bind,pure] at h
   repeat' (first | split at h | dsimp only at h)
   all_goals first
     | (cases h; done)
     | (injection h with h
        subst h
        rfl)
theorem infoAt_none {T:Tables} {p:TypeInfo → Prop} (ht:∀ i ∈ T.types,p i) (h0:∀ i:TypeInfo,i.methods=#[] → p i):∀ (k:Nat) t i,Made.infoAt T k t=some i → p i:=by
 intro k
 cases k with
 | zero => intro t i h; cases h
 | succ k =>
   intro t i h
   unfold Made.infoAt at h
   split at h
   · exact ht i (Array.mem_of_getElem? h)
   · obtain ⟨d,_,h⟩:=Option.bind_eq_some_iff.1 h
     exact h0 i (made_none h)
theorem info_all {T:Tables} {p:TypeInfo → Prop} (ht:∀ i ∈ T.types,p i) (h0:∀ i:TypeInfo,i.methods=#[] → p i) (t:TypeId) (i:TypeInfo) (h:T.info? t=some i):p i:=by
 unfold Tables.info? at h
 split at h
 · exact ht i (Array.mem_of_getElem? h)
 · exact infoAt_none ht h0 _ t i h
def RowGood (tl:List (Nat × Nat)) (cl:List Nat) (name:String) (i:TypeInfo):Prop :=
 ∀ m,i.methods.find? (·.name == name)=some m → m.path=#[] ∧ (∃ e,i.desc=.pointer e) ∧ ∃ f,m.func=some (f,true) ∧ f ∈ cl ∧ ∀ n,(f,n) ∉ tl
theorem row_of {P:Program} {tl:List (Nat × Nat)} {cl:List Nat} {name:String} (h:okInv P tl cl name=true) (t:TypeId) (i:TypeInfo) (hi:P.info? t=some i):RowGood tl cl name i:=by
 refine info_all (T:=P.toTables) (p:=RowGood tl cl name) (fun i hi m hm => ?_) (fun i hi m hm => by rw [hi] at hm; simp at hm) t i hi
 have h1:=Array.all_eq_true_iff_forall_mem.1 (Array.all_eq_true_iff_forall_mem.1 h i hi) m (Array.mem_of_find?_eq_some hm)
 have h2:=Array.find?_some hm
 simp only [bne,h2,Bool.not_true,Bool.false_or,Bool.and_eq_true] at h1
 obtain ⟨h3,h4,h5⟩:=h1
 refine ⟨Array.isEmpty_iff.1 h3,?_,?_⟩
 · split at h4
   · exact ⟨_,by assumption⟩
   · cases h4
 · split at h5
   · rename_i f q hf
     simp only [Bool.and_eq_true] at h5
     obtain ⟨rfl,h6,h7⟩:=h5
     refine ⟨f,hf,by simpa using h6,fun n hn => ?_⟩
     have:=List.all_eq_true.1 h7 _ hn
     simp at this
   · cases h5
section
variable {X:Cx} {P P':Program} {B:Lk} (hP:PRel X P P')
include hP
theorem SR.assertPanic {α β:Type} {R:Lk → α → β → Prop} (hg:X.G X.N) (hd:¬ X.D X.N) (hl:X.L X.N=0) (i c:Option TypeId) (a:TypeId) (m:String) :
   SR X P P' R B (runtimePanic (.typeAssertion i c a m):Sem α) (runtimePanic (.typeAssertion i c a m):Sem β):=by
 intro V W hw
 have hb:=hw.glob _ hg
 revert V W
 show ∀ V W,WR X B V W → _
 intro V W hw
 refine (?_:SR X P P' R B _ _) V W hw
 unfold Go.runtimePanic
 refine SR.bind SR.program ?_
 rintro B' hl' p p' ⟨rfl,rfl⟩
 have hrt:p'.rt=p.rt:=by rw [hP.tab]
 have hgs:p'.globals.size=p.globals.size:=by rw [hP.tab]
 dsimp only
 rw [hrt]
 have hh:∀ (B2:Lk),Le B' B2 → ∀ t:TypeId,VR X B2 (typeHandle p t) (typeHandle p' t):=fun B2 h2 t => by
   unfold typeHandle
   rw [hgs]
   refine .ptr ⟨⟨h2 _ _ (hl' _ _ ?_),?_⟩,⟨rfl,?_⟩,rfl⟩
   · rw [← hP.nG]; exact hb
   · show ¬ X.D p.globals.size
     rw [← hP.nG]; exact hd
   · show X.L p.globals.size ≤ t
     rw [← hP.nG,hl]; exact Nat.zero_le _
 have ho:∀ (B2:Lk),Le B' B2 → ∀ t:Option TypeId,VR X B2 (match t with | some t => typeHandle p t | none => .pointer none) (match t with | some t => typeHandle p' t | none => .pointer none):=fun B2 h2 t => by
   cases t with
   | none => exact .pnil
   | some t => exact hh B2 h2 t
 refine SR.bind (SR.elemOf hP _) ?_
 rintro B2 hl2 n n' rfl
 refine SR.bind (SR.newVar n' (AR.agg (AR.push (AR.push (AR.push (AR.one (ho B2 hl2 i)) (ho B2 hl2 c)) (ho B2 hl2 (some a))) (.string _)))) fun B3 hl3 r r' hr => SR.panic (.iface _ (.ptr hr))
theorem SR.typeAssert (hg:X.G X.N) (hd:¬ X.D X.N) (hl:X.L X.N=0) (t a:TypeId) {v v':Value} (q:Bool) (h:VR X B v v'):SR X P P' (VRel X) B (Instr.typeAssert v t a q) (Instr.typeAssert v' t a q):=by
 have hold:∀ (B:Lk) {v v':Value},VR X B v v' → SR X P P' (VRel X) B (Pure.pure (if q then .tuple #[v,.bool true] else v)) (Pure.pure (if q then .tuple #[v',.bool true] else v')):=fun B v v' h => SR.pure (by
   cases q
   · exact h
   · exact AR.tuple (AR.push (AR.one h) (.bool _)))
 have fail:∀ (B:Lk) (i c:Option TypeId) (m:String),SR X P P' (VRel X) B (if q then do Pure.pure (.tuple #[← zeroValue a,.bool false]) else runtimePanic (.typeAssertion i c a m)) (if q then do Pure.pure (.tuple #[← zeroValue a,.bool false]) else runtimePanic (.typeAssertion i c a m)):=fun B i c m => by
   cases q
   · exact SR.assertPanic hP hg hd hl i c a m
   · exact SR.bind (SR.zeroValue hP a) fun B1 l1 w w' hw => SR.pure (AR.tuple (AR.push (AR.one hw) (.bool _)))
 unfold Instr.typeAssert
 dsimp only
 refine SR.bind (SR.underlying hP a) ?_
 rintro B1 l1 _ d ⟨rfl,_⟩
 have h:=h.mono l1
 cases d with
 | interface want =>
   cases h with
   | nilIface => exact fail _ _ _ _
   | iface t hv =>
     dsimp only
     refine SR.bind (SR.typeInfo hP t) ?_
     rintro B2 l2 _ i ⟨rfl,_⟩
     cases Instr.missingMethod want i.methods with
     | none => exact hold _ (.iface t (hv.mono l2))
     | some m => exact fail _ _ _ _
   | _ => exact SR.stuck
 | _ =>
   cases h with
   | nilIface => exact fail _ _ _ _
   | iface t hv => exact SR.ite (fun _ => hold _ hv) (fun _ => fail _ _ _ _)
   | _ => exact SR.stuck
theorem mrel_of {tl:List (Nat × Nat)} {cl:List Nat} (hM:∀ n,X.M n → okInv P tl cl n=true) (hc:∀ f ∈ cl,(∀ n,(f,n) ∉ tl) → X.C f ∧ ¬ X.T f) (hG:∀ g,X.G g → ¬ X.D g ∧ X.L g=0):MRel X P P' where
 method name m n t B v v' h:=by
   cases n with
   | zero => exact SR.unsupported
   | succ n =>
     unfold Go.method
     refine SR.bind (SR.typeInfo hP t) ?_
     rintro B1 l1 _ i ⟨rfl,hi⟩
     have hrow:=row_of (hM name m) t i hi
     cases hf:i.methods.find? (·.name == name) with
     | none => exact SR.stuck
     | some r =>
       obtain ⟨h1,⟨e,h2⟩,f,h3,h4,h5⟩:=hrow r hf
       dsimp only
       rw [h1,h3]
       have hu:P.underlying t=some (.pointer e):=by
         unfold Program.underlying
         rw [hi]
         obtain ⟨d⟩:=i
         obtain rfl:d=.pointer e:=h2
         rfl
       unfold follow
       refine SR.bind (SR.pure (R:=fun _ (a b:TypeId × Place) => a=(t,.val v) ∧ b=(t,.val v')) ⟨rfl,rfl⟩) ?_
       rintro B2 l2 _ _ ⟨rfl,rfl⟩
       dsimp only
       unfold receiverAt
       refine SR.bind (R:=fun B x x' => VR X B x x') ?_ fun B3 l3 x x' hx => SR.pure ⟨⟨rfl,hc f h4 h5⟩,hx⟩
       refine SR.bind (SR.underlying hP t) ?_
       rintro B3 l3 _ d ⟨rfl,hd⟩
       rw [hu] at hd
       cases hd
       exact SR.pure (((h.mono l1).mono l2).mono l3)
 nilAhead name m n t B v v' h:=by
   cases n with
   | zero => exact SR.pure rfl
   | succ n =>
     unfold Go.nilAhead
     refine SR.bind (SR.typeInfo hP t) ?_
     rintro B1 l1 _ i ⟨rfl,hi⟩
     have hrow:=row_of (hM name m) t i hi
     cases hf:i.methods.find? (·.name == name) with
     | none => exact SR.stuck
     | some r =>
       obtain ⟨h1,_,f,h3,_,_⟩:=hrow r hf
       dsimp only
       rw [h1,h3]
       unfold followBlind
       refine SR.bind (SR.pure (R:=fun _ (a b:Except (Option Bool) (TypeId × Option Value)) => a=.ok (t,some v) ∧ b=.ok (t,some v')) ⟨rfl,rfl⟩) ?_
       rintro B2 l2 _ _ ⟨rfl,rfl⟩
       exact SR.pure rfl
 typeAssert ha t a B v v' q h:=SR.typeAssert hP (X.asG ha) (hG _ (X.asG ha)).1 (hG _ (X.asG ha)).2 t a q h
end
end Go.Proofs.YthhfljldbfgpcaaGreatDoor.Ok
end

section
namespace Go.Proofs.YthhfljldbfgpcaaGreatDoor.Ok
open Go.Conc Go.Proofs.YthhfljldbfgpcaaGreatDoor.Lr
def mvP (P:Program) (t:TypeId) (n l:Nat):Prop:=∀ off (m:Int) off',l ≤ off → 0 ≤ m → cellAtBytes P P.depth t (n / P.cellsOf t) off m=some off' → l ≤ off'
def cxL (P:Program) (tl:List (Nat × Nat)) (cl gl:List Nat) (Q:String → Code → Prop) (D F:Nat → Prop) (Dn:Prop) (L:Nat → Nat) (lf:∀ b,L b ≠ 0 → F b):Cx where
 C f:=f ∈ cl ∨ ∃ n,(f,n) ∈ tl
 M n:=okInv P tl cl n=true
 As:=okAs P gl=true
 T f:=∃ n,(f,n) ∈ tl
 K o:=okOperT P tl cl gl o=true
 D:=D
 F:=F
 G g:=g ∈ gl
 N:=P.globals.size
 R:=Q
 Dn:=Dn
 L:=L
 Mv:=mvP P
 Z t:=P.info? t=none
 lf:=lf
 Ar f n:=(f,n) ∈ tl
 asG h:=by simpa [okAs] using h
def cx (P:Program) (cl gl:List Nat) (Q:String → Code → Prop) (D F:Nat → Prop) (Dn:Prop:=True):Cx:=cxL P [] cl gl Q D F Dn (fun _ => 0) fun _ h => absurd rfl h
theorem cx_noT {P:Program} {cl gl:List Nat} {Q:String → Code → Prop} {D F:Nat → Prop} {Dn:Prop}:∀ f,¬ (cx P cl gl Q D F Dn).T f:=fun _ ⟨_,h⟩ => by cases h
theorem cx_in {P:Program} {cl gl:List Nat} {Q:String → Code → Prop} {D F:Nat → Prop} {Dn:Prop}:∀ f ∈ cl,(cx P cl gl Q D F Dn).C f ∧ ¬ (cx P cl gl Q D F Dn).T f:=fun f h => ⟨.inl h,cx_noT f⟩
def ExtOk (e:Array Value → Sem Value):Prop:=(∃ n w,e=Extern.MathFloor.toIntegral n w) ∨ e=Extern.MathFloatBits.float64bits ∨ e=Extern.MathFloatBits.float64frombits
def FnOk (P:Program) (tl:List (Nat × Nat)) (cl gl:List Nat) (f:Nat):Prop :=
 ∃ fn,P.funcs[f]?=some fn ∧ (fn.name == "runtime.NumGoroutine")=false ∧ ((∃ c,fn.body=some c ∧ okCT P tl cl gl c=true) ∨ (fn.body.isNone=true ∧ Extern.findNext fn=none ∧ ∃ e,Extern.find fn=some e ∧ ExtOk e))
def zerosOk (P:Program):Bool:=P.types.all (fun i => match i.zero with | none => true | some v => flatV 8 v)
theorem zeros_flat {X:Cx} {P:Program} (h:zerosOk P=true) (t:TypeId) (i:TypeInfo) (v:Value) (h1:P.info? t=some i) (h2:i.zero=some v):Flat X v:=by
 refine info_flat (T:=P.toTables) (fun i hi v hv => ?_) t i h1 v h2
 unfold zerosOk at h
 rw [Array.all_eq_true_iff_forall_mem] at h
 have:=h i hi
 rw [hv] at this
 exact flat_of 8 v this
section
variable {P P':Program} {tl:List (Nat × Nat)} {cl gl:List Nat} {Q:String → Code → Prop} {D F:Nat → Prop} {Dn:Prop} {L:Nat → Nat} {lf:∀ b,L b ≠ 0 → F b}
theorem extOk_sr {X:Cx} {P P':Program} {e:Array Value → Sem Value} (h:ExtOk e):∀ B p p',AR X B p p' → SR X P P' (VRel X) B (e p) (e p'):=by
 rcases h with ⟨n,w,rfl⟩ | rfl | rfl
 · exact sr_toIntegral n w
 · exact sr_bits
 · exact sr_frombits
def cutN (ids:List Nat):Code → Code
 | .region id ops d => if ids.contains id then .refuse noBody else .region id ops d
 | .seq a b => .seq (cutN ids a) (cutN ids b)
 | .cond c a b => .cond c (cutN ids a) (cutN ids b)
 | .rangeFunc f p a b => .rangeFunc f p (cutN ids a) (cutN ids b)
 | .block i c => .block i (cutN ids c)
 | .loop c => .loop (cutN ids c)
 | .scope c => .scope (cutN ids c)
 | .refuse w => .refuse w
 | .goto l => .goto l
 | .skip => .skip
 | .ret => .ret
 | .exit i => .exit i
 | .label l => .label l
theorem codeN_of {X:Cx} (hc:∀ f ∈ cl,X.C f ∧ ¬ X.T f) (hg:∀ g ∈ gl,X.G g) (hK:∀ o,okOperT P tl cl gl o=true → X.K o) (ids:List Nat):∀ (c:Code),okCT P tl cl gl (cutN ids c)=true → CdR X (cutN ids c) c
 | .refuse w,h => by
   unfold cutN at h ⊢
   exact .inl (by simpa [okCT,noBody] using h)
 | .region id ops d,h => by
   unfold cutN at h ⊢
   by_cases hn:ids.contains id=true
   · rw [if_pos hn]
     exact .inl rfl
   · rw [if_neg hn] at h ⊢
     exact code_of hc hg hK (.region id ops d) h
 | .seq a b,h => by
   simp only [cutN,okCT,Bool.and_eq_true] at h
   exact ⟨a,b,rfl,codeN_of hc hg hK ids a h.1,codeN_of hc hg hK ids b h.2⟩
 | .cond c a b,h => by
   simp only [cutN,okCT,Bool.and_eq_true] at h
   exact ⟨a,b,rfl,opd_of hc hg h.1,codeN_of hc hg hK ids a h.2.1,codeN_of hc hg hK ids b h.2.2⟩
 | .rangeFunc f p a b,h => by
   simp only [cutN,okCT,Bool.and_eq_true] at h
   exact ⟨a,b,rfl,opd_of hc hg h.1,codeN_of hc hg hK ids a h.2.1,codeN_of hc hg hK ids b h.2.2⟩
 | .block _ c,h => ⟨c,rfl,codeN_of hc hg hK ids c h⟩
 | .loop c,h => ⟨c,rfl,codeN_of hc hg hK ids c h⟩
 | .scope c,h => ⟨c,rfl,codeN_of hc hg hK ids c h⟩
 | .goto _,h => by simp [cutN,okCT] at h
 | .skip,_ => rfl
 | .ret,_ => rfl
 | .exit _,_ => rfl
 | .label _,_ => rfl
def Cutd (P P':Program) (f:Nat):Prop:=∃ (fn fn':Func) (c:Code) (ids:List Nat),P'.funcs[f]?=some fn' ∧ P.funcs[f]?=some fn ∧ fn.name=fn'.name ∧ fn.results=fn'.results ∧ fn.ntmps=fn'.ntmps ∧ fn'.body=some c ∧ fn.body=some (cutN ids c)
theorem whole_ofC (hz:zerosOk P=true) (htab:P'.toTables=P.toTables) (hsz:P'.funcs.size=P.funcs.size) (hcl:∀ f ∈ cl,FnOk P tl cl gl f ∧ (∀ n,(f,n) ∉ tl) ∧ (P'.funcs[f]?=P.funcs[f]? ∨ Cutd P P' f))
   (hT:∀ f:Nat,(∃ n,(f,n) ∈ tl) → ∃ fn fn':Func,P.funcs[f]?=some fn ∧ P'.funcs[f]?=some fn' ∧ fn'.name=fn.name ∧ fn'.results=fn.results ∧ (fn.name == "runtime.NumGoroutine")=false ∧ fn.body.isNone=false ∧ fn'.body.isNone=false)
   (hall:∀ f:Nat,P'.funcs[f]?=P.funcs[f]? ∨ ∃ fn fn':Func,P.funcs[f]?=some fn ∧ P'.funcs[f]?=some fn' ∧ fn'.name=fn.name ∧ fn'.results=fn.results) (hD:∀ g ∈ gl,¬ D g ∧ L g=0):Whole (cxL P tl cl gl Q D F Dn L lf) P P':=by
 have hF:FRel (cxL P tl cl gl Q D F Dn L lf) P P':={
   tab:=htab
   nG:=rfl
   zero:=zeros_flat hz
   mono:=fun t n l h => h
   zed:=fun t h => h
   size:=hsz
   funcs:=fun f => by
     by_cases hf:f ∈ cl ∨ ∃ n,(f,n) ∈ tl
     · by_cases ht:∃ n,(f,n) ∈ tl
       · obtain ⟨fn,fn',h1,h2,h3,h4,h5,h6,h7⟩:=hT f ht
         exact .inr ⟨fn,fn',h1,h2,h3,h4,fun _ h => absurd ht h,fun _ => ⟨fun e => by rw [e] at h5; simp at h5,.inl ⟨h6,h7,fun h => absurd ht h⟩⟩⟩
       · obtain ⟨⟨fn,h1,h2,h3⟩,_,hs⟩:=hcl f (hf.resolve_right ht)
         rcases hs with hs | ⟨fn0,fn',c',ids,g1,g2,g3,g4,g5,g6,g7⟩
         · refine .inr ⟨fn,fn,h1,hs.trans h1,rfl,rfl,fun _ _ => rfl,fun _ => ⟨fun e => by rw [e] at h2; simp at h2,?_⟩⟩
           rcases h3 with ⟨c,h4,h5⟩ | ⟨h4,h5,e,h6,h7⟩
           · exact .inl ⟨by rw [h4]; rfl,by rw [h4]; rfl,fun _ => ⟨c,c,h4,h4,code_of (X:=cxL P tl cl gl Q D F Dn L lf) (tl:=tl) (cl:=cl) (gl:=gl) (fun f h => ⟨.inl h,fun ⟨n,hn⟩ => (hcl f h).2.1 n hn⟩) (fun g h => h) (fun o h => h) c h5⟩⟩
           · exact .inr ⟨h4,rfl,fun B p p' hp => sr_extern h1 (hs.trans h1) h2 h4 h5 h6 (extOk_sr h7) hp⟩
         · obtain rfl:fn=fn0:=Option.some.inj (h1.symm.trans g2)
           refine .inr ⟨fn,fn',h1,g1,g3.symm,g4.symm,fun _ _ => g5.symm,fun _ => ⟨fun e => by rw [e] at h2; simp at h2,?_⟩⟩
           rcases h3 with ⟨c,h4,h5⟩ | ⟨h4,_⟩
           · obtain rfl:c=cutN ids c':=Option.some.inj (h4.symm.trans g7)
             exact .inl ⟨by rw [h4]; rfl,by rw [g6]; rfl,fun _ => ⟨_,c',h4,g6,codeN_of (X:=cxL P tl cl gl Q D F Dn L lf) (P:=P) (tl:=tl) (cl:=cl) (gl:=gl) (fun f h => ⟨.inl h,fun ⟨n,hn⟩ => (hcl f h).2.1 n hn⟩) (fun g h => h) (fun o h => h) ids c' h5⟩⟩
           · rw [g7] at h4
             cases h4
     · rcases hall f with hs | ⟨fn,fn',h1,h2,h3,h4⟩
       · cases h:P.funcs[f]? with
         | none => exact .inl ⟨rfl,hs.trans h⟩
         | some fn => exact .inr ⟨fn,fn,rfl,hs.trans h,rfl,rfl,fun hc => absurd hc hf,fun hc => absurd hc hf⟩
       · exact .inr ⟨fn,fn',h1,h2,h3,h4,fun hc => absurd hc hf,fun hc => absurd hc hf⟩ }
 exact {
   hF:=hF
   hM:=mrel_of hF.toPRel (fun n h => h) (fun f h hn => ⟨.inl h,fun ⟨n,e⟩ => hn n e⟩) (fun g h => hD g h)
   hK:=fun o h => oper_of (X:=cxL P tl cl gl Q D F Dn L lf) (tl:=tl) (cl:=cl) (gl:=gl) (fun f h => ⟨.inl h,fun ⟨n,hn⟩ => (hcl f h).2.1 n hn⟩) (fun n h => h) (fun h => h) (fun g h => h) (fun f n h => ⟨.inr ⟨n,h⟩,h⟩) h
   hG:=fun g h => hD g h }
theorem whole_ofL (hz:zerosOk P=true) (htab:P'.toTables=P.toTables) (hsz:P'.funcs.size=P.funcs.size) (hcl:∀ f ∈ cl,FnOk P tl cl gl f ∧ (∀ n,(f,n) ∉ tl) ∧ P'.funcs[f]?=P.funcs[f]?)
   (hT:∀ f:Nat,(∃ n,(f,n) ∈ tl) → ∃ fn fn':Func,P.funcs[f]?=some fn ∧ P'.funcs[f]?=some fn' ∧ fn'.name=fn.name ∧ fn'.results=fn.results ∧ (fn.name == "runtime.NumGoroutine")=false ∧ fn.body.isNone=false ∧ fn'.body.isNone=false)
   (hall:∀ f:Nat,P'.funcs[f]?=P.funcs[f]? ∨ ∃ fn fn':Func,P.funcs[f]?=some fn ∧ P'.funcs[f]?=some fn' ∧ fn'.name=fn.name ∧ fn'.results=fn.results) (hD:∀ g ∈ gl,¬ D g ∧ L g=0):Whole (cxL P tl cl gl Q D F Dn L lf) P P' :=
 whole_ofC hz htab hsz (fun f h => ⟨(hcl f h).1,(hcl f h).2.1,.inl (hcl f h).2.2⟩) hT hall hD
theorem whole_of (hz:zerosOk P=true) (htab:P'.toTables=P.toTables) (hsz:P'.funcs.size=P.funcs.size) (hcl:∀ f ∈ cl,FnOk P [] cl gl f ∧ P'.funcs[f]?=P.funcs[f]?)
   (hall:∀ f:Nat,P'.funcs[f]?=P.funcs[f]? ∨ ∃ fn fn':Func,P.funcs[f]?=some fn ∧ P'.funcs[f]?=some fn' ∧ fn'.name=fn.name ∧ fn'.results=fn.results) (hD:∀ g ∈ gl,¬ D g):Whole (cx P cl gl Q D F Dn) P P' :=
 whole_ofL hz htab hsz (fun f h => ⟨(hcl f h).1,(fun n hn => by cases hn),(hcl f h).2⟩) (fun f ⟨n,hn⟩ => by cases hn) hall fun g hg => ⟨hD g hg,rfl⟩
end
def chk (P:Program) (tl:List (Nat × Nat)) (cl gl:List Nat) (f:Nat):Bool:=match P.funcs[f]? with
 | some fn => !(fn.name == "runtime.NumGoroutine") && (match fn.body with
   | some c => okCT P tl cl gl c
   | none => false)
 | none => false
theorem fnOk_of {P:Program} {tl:List (Nat × Nat)} {cl gl:List Nat} {f:Nat} (h:chk P tl cl gl f=true):FnOk P tl cl gl f:=by
 unfold chk at h
 split at h
 · rename_i fn hf
   simp only [Bool.and_eq_true,Bool.not_eq_true'] at h
   split at h
   · rename_i c hc
     exact ⟨fn,hf,h.1,.inl ⟨c,hc,h.2⟩⟩
   · simp at h
 · cases h
theorem ext_ok {P:Program} {tl:List (Nat × Nat)} {cl gl:List Nat} {f:Nat} {fn:Func} {e:Array Value → Sem Value} (h1:P.funcs[f]?=some fn) (h2:(fn.name == "runtime.NumGoroutine")=false) (h3:fn.body.isNone=true) (h4:Extern.findNext fn=none) (h5:Extern.find fn=some e) (h6:ExtOk e):FnOk P tl cl gl f :=
 ⟨fn,h1,h2,.inr ⟨h3,h4,e,h5,h6⟩⟩
end Go.Proofs.YthhfljldbfgpcaaGreatDoor.Ok
end

section
namespace Go.Proofs.YthhfljldbfgpcaaGreatDoor.Ok
open Go.Conc Go.Proofs.YthhfljldbfgpcaaGreatDoor.Lr
theorem zeros:zerosOk Vp.prog=true:=by kernel_rfl
def phs:List Nat:=[19,20,48,49,41,50,12,77,72,73,74,36,37,100,101,91,92,93,94,95,96,66,97,98,67,68,34,69,29,30,109,40,70,106,107,108,88,89,90,10,62,112,113,71,111,105,87,63,114,115]
def ext:List Nat:=[100,87,63,114]
theorem ext0 (tl:List (Nat × Nat)) (cl gl:List Nat):FnOk Vp.prog tl cl gl 100:=ext_ok (fn:=Tryz.f100) (by kernel_rfl) (by kernel_rfl) (by kernel_rfl) (by kernel_rfl) (e:=Extern.MathFloor.toIntegral "math.archFloor" .down) (by kernel_rfl) (.inl ⟨_,_,rfl⟩)
theorem ext1 (tl:List (Nat × Nat)) (cl gl:List Nat):FnOk Vp.prog tl cl gl 87:=ext_ok (fn:=Tryz.f87) (by kernel_rfl) (by kernel_rfl) (by kernel_rfl) (by kernel_rfl) (e:=Extern.MathFloatBits.float64frombits) (by kernel_rfl) (.inr (.inr rfl))
theorem ext2 (tl:List (Nat × Nat)) (cl gl:List Nat):FnOk Vp.prog tl cl gl 63:=ext_ok (fn:=Tryz.f63) (by kernel_rfl) (by kernel_rfl) (by kernel_rfl) (by kernel_rfl) (e:=Extern.MathFloatBits.float64bits) (by kernel_rfl) (.inr (.inl rfl))
theorem ext3 (tl:List (Nat × Nat)) (cl gl:List Nat):FnOk Vp.prog tl cl gl 114:=ext_ok (fn:=Tryz.f114) (by kernel_rfl) (by kernel_rfl) (by kernel_rfl) (by kernel_rfl) (e:=Extern.MathFloor.toIntegral "math.archTrunc" .zero) (by kernel_rfl) (.inl ⟨_,_,rfl⟩)
theorem all_ok {tl:List (Nat × Nat)} {cl gl:List Nat} (h:(cl.filter fun f => !(ext.contains f)).all (chk Vp.prog tl cl gl)=true):∀ f ∈ cl,FnOk Vp.prog tl cl gl f:=by
 intro f hf
 by_cases hx:ext.contains f=true
 · have hx:f ∈ ext:=by simpa using hx
   simp only [ext,List.mem_cons,List.not_mem_nil,or_false] at hx
   rcases hx with rfl | rfl | rfl | rfl
   · exact ext0 _ _ _
   · exact ext1 _ _ _
   · exact ext2 _ _ _
   · exact ext3 _ _ _
 · refine fnOk_of ?_
   rw [List.all_eq_true] at h
   exact h f (List.mem_filter.2 ⟨hf,by simpa using hx⟩)
set_option maxRecDepth 100000 in
theorem chks:(phs.filter fun f => !(ext.contains f)).all (chk Vp.prog [] phs [])=true:=by kernel_rfl
theorem tm_same:∀ f:Nat,Tryz.prog.funcs[f]?=Vp.prog.funcs[f]? ∨ ∃ fn fn':Func,Vp.prog.funcs[f]?=some fn ∧ Tryz.prog.funcs[f]?=some fn' ∧ fn'.name=fn.name ∧ fn'.results=fn.results:=by
 intro f
 by_cases h:f=5
 · subst h
   exact .inr ⟨Vp.fT,Tryz.f5,Vp.funcT,Tryz.func5,by kernel_rfl,by kernel_rfl⟩
 · exact .inl (Vp.same h).symm
theorem whole (Q:String → Code → Prop) (D F:Nat → Prop):Whole (cx Vp.prog phs [] Q D F) Vp.prog Tryz.prog :=
 whole_of zeros Vp.tab.symm Vp.size.symm (fun f hf => by
   have ht:f ≠ 5:=fun e => by subst e; revert hf; decide
   exact ⟨all_ok chks f hf,(Vp.same ht).symm⟩) tm_same (fun g h => by cases h)
end Go.Proofs.YthhfljldbfgpcaaGreatDoor.Ok
end

section
namespace Go.Proofs.YthhfljldbfgpcaaGreatDoor.Ok
open Go.Conc Go.Proofs.YthhfljldbfgpcaaGreatDoor.Lr
def tagOf:Nat → String
 | 0 => "0"
 | 9 => "9"
 | 10 => "10"
 | 12 => "12"
 | 13 => "13"
 | _ => ""
def cut (ids:List Nat):Code → Code
 | .region id ops d => if ids.contains id then .refuse (tagOf id) else .region id ops d
 | .seq a b => .seq (cut ids a) (cut ids b)
 | .cond c a b => .cond c (cut ids a) (cut ids b)
 | .rangeFunc f p a b => .rangeFunc f p (cut ids a) (cut ids b)
 | .block i c => .block i (cut ids c)
 | .loop c => .loop (cut ids c)
 | .scope c => .scope (cut ids c)
 | .refuse w => .refuse w
 | .goto l => .goto l
 | .skip => .skip
 | .ret => .ret
 | .exit i => .exit i
 | .label l => .label l
def regs:Code → List (Nat × Array Oper × Bool)
 | .region id ops d => [(id,ops,d)]
 | .seq a b => regs a ++ regs b
 | .cond _ a b => regs a ++ regs b
 | .rangeFunc _ _ a b => regs a ++ regs b
 | .block _ c => regs c
 | .loop c => regs c
 | .scope c => regs c
 | _ => []
def okCut (P:Program) (cl gl ids:List Nat):Code → Bool
 | .region id ops d => ids.contains id || okC P cl gl (.region id ops d)
 | .seq a b => okCut P cl gl ids a && okCut P cl gl ids b
 | .cond c a b => okOpd cl gl c && (okCut P cl gl ids a && okCut P cl gl ids b)
 | .rangeFunc f _ a b => okOpd cl gl f && (okCut P cl gl ids a && okCut P cl gl ids b)
 | .block _ c | .loop c | .scope c => okCut P cl gl ids c
 | .goto _ | .refuse _ => false
 | .skip | .ret | .exit _ | .label _ => true
theorem cut_of {X:Cx} {P:Program} {cl gl:List Nat} (hc:∀ f ∈ cl,X.C f ∧ ¬ X.T f) (hg:∀ g ∈ gl,X.G g) (hK:∀ o,okOper P cl gl o=true → X.K o) (ids:List Nat):∀ (c:Code),(∀ r ∈ regs c,ids.contains r.1=true → X.R (tagOf r.1) (.region r.1 r.2.1 r.2.2)) → okCut P cl gl ids c=true → CdR X (cut ids c) c
 | .refuse _,_,h => by simp [okCut] at h
 | .region id ops d,hR,h => by
   unfold cut
   unfold okCut at h
   by_cases hn:ids.contains id=true
   · rw [if_pos hn]
     exact .inr (hR (id,ops,d) (by simp [regs]) hn)
   · rw [if_neg hn]
     rw [Bool.or_eq_true] at h
     exact code_of hc hg hK (.region id ops d) (h.resolve_left hn)
 | .seq a b,hR,h => by
   simp only [okCut,Bool.and_eq_true] at h
   exact ⟨a,b,rfl,cut_of hc hg hK ids a (fun r x => hR r (by simp [regs,x])) h.1,cut_of hc hg hK ids b (fun r x => hR r (by simp [regs,x])) h.2⟩
 | .cond c a b,hR,h => by
   simp only [okCut,Bool.and_eq_true] at h
   exact ⟨a,b,rfl,opd_of hc hg h.1,cut_of hc hg hK ids a (fun r x => hR r (by simp [regs,x])) h.2.1,cut_of hc hg hK ids b (fun r x => hR r (by simp [regs,x])) h.2.2⟩
 | .rangeFunc f p a b,hR,h => by
   simp only [okCut,Bool.and_eq_true] at h
   exact ⟨a,b,rfl,opd_of hc hg h.1,cut_of hc hg hK ids a (fun r x => hR r (by simp [regs,x])) h.2.1,cut_of hc hg hK ids b (fun r x => hR r (by simp [regs,x])) h.2.2⟩
 | .block _ c,hR,h => ⟨c,rfl,cut_of hc hg hK ids c (fun r x => hR r x) h⟩
 | .loop c,hR,h => ⟨c,rfl,cut_of hc hg hK ids c (fun r x => hR r x) h⟩
 | .scope c,hR,h => ⟨c,rfl,cut_of hc hg hK ids c (fun r x => hR r x) h⟩
 | .goto _,_,h => by simp [okCut] at h
 | .skip,_,_ => rfl
 | .ret,_,_ => rfl
 | .exit _,_,_ => rfl
 | .label _,_,_ => rfl
end Go.Proofs.YthhfljldbfgpcaaGreatDoor.Ok
end

section
namespace Go.Proofs.YthhfljldbfgpcaaGreatDoor.Ok
open Go.Conc Go.Proofs.YthhfljldbfgpcaaGreatDoor.Lr
def bodyOf (P:Program) (f:Nat):Code:=((P.funcs[f]?).bind (·.body)).getD .skip
def cuts:List (Nat × List Nat):=[(21,[0,13]),(5,[9,10,12])]
def Cuts (P:Program) (why:String) (d:Code):Prop:=∃ k ∈ cuts,∃ r ∈ regs (bodyOf P k.1),k.2.contains r.1=true ∧ why=tagOf r.1 ∧ d=.region r.1 r.2.1 r.2.2
theorem cut_cx {P P':Program} {cl:List Nat} {D F:Nat → Prop} (ids:List Nat) (f:Nat) (hk:(f,ids) ∈ cuts) (c:Code) (hc:bodyOf P f=c) (h:okCut P' cl [] ids c=true):CdR (cx P' cl [] (Cuts P) D F) (cut ids c) c:=by
 subst hc
 exact cut_of (X:=cx P' cl [] (Cuts P) D F) (cl:=cl) (gl:=[]) cx_in (fun g h => by cases h) (fun o h => h) ids (bodyOf P f) (fun r hr hi => ⟨(f,ids),hk,r,hr,hi,rfl,rfl⟩) h
set_option maxRecDepth 100000 in
theorem cutS_ok:okCut Vp.prog phs [] [0,13] (bodyOf Tryz.prog 21)=true:=by kernel_rfl
set_option maxRecDepth 100000 in
theorem cutM_ok:okCut Vp.prog phs [] [9,10,12] (bodyOf Tryz.prog 5)=true:=by kernel_rfl
end Go.Proofs.YthhfljldbfgpcaaGreatDoor.Ok
end
