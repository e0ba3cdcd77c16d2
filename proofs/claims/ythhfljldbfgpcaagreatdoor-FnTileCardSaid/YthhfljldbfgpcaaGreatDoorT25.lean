/- Merged texts: LrE, LrF. -/
import Derived.Test.YthhfljldbfgpcaaGreatDoorT24
set_option linter.all false
section
namespace Go.Proofs.YthhfljldbfgpcaaGreatDoor.Lr
theorem AR.fun {X:Cx} {B:Lk} {p p':Array Value} (k:AR X B p p') (n:Nat):AR X B ((Array.range n).map (fun i => p[i % p.size]!)) ((Array.range n).map (fun i => p'[i % p'.size]!)):=by
 refine AR.map _ fun i _ => ?_
 rw [← k.1,Array.getElem!_eq_getD,Array.getElem!_eq_getD]
 exact k.getD _ (.bool _)
inductive OptR (X:Cx) (B:Lk):Option Addr → Option Addr → Prop
 | none:OptR X B none none
 | some {a a':Addr}:AdR X B a a' → OptR X B (some a) (some a')
section
variable {X:Cx} {P P':Program} {B:Lk} (hP:PRel X P P')
include hP
theorem sr_pan {α β γ δ:Type} {R:Lk → γ → δ → Prop} {f:α → Sem γ} {f':β → Sem δ} (m:String):SR X P P' R B ((Go.runtimePanic (.error m):Sem α) >>= f) ((Go.runtimePanic (.error m):Sem β) >>= f') :=
 SR.bind (R:=fun _ _ _ => False) (SR.runtimePanic hP (e:=.error _) trivial) fun _ _ _ _ h => h.elim
theorem sr_buildSlice (t:TypeId) (len:Nat) {ps ps':Array (Nat × Value)} (h:PsR X B ps.toList ps'.toList):SR X P P' (VRel X) B (Instr.buildSlice t len ps) (Instr.buildSlice t len ps'):=by
 unfold Instr.buildSlice
 refine SR.bind (SR.underlying hP t) ?_
 rintro B1 l1 d d' ⟨rfl,_⟩
 cases d' <;> dsimp only <;> first
   | exact SR.stuck
   | skip
 case slice elem _ =>
   refine SR.bind (R:=Same) (SR.sizeOf hP elem) ?_
   rintro B2 l2 _ size rfl
   have fin:∀ (B3:Lk) (_:Le B2 B3) (z z':Array Value),ARel X B3 z z' → SR X P P' (VRel X) B3
       (match Instr.fill (fun i => some (i * size,size)) ((Array.range (len * size)).map (fun x => z[x % z.size]!)) ps.toList with
         | some cells => Go.newRow elem cells >>= fun a => Pure.pure (Value.slice (some a) len len)
         | _ => Go.stuck "buildSlice: a part of the wrong size")
       (match Instr.fill (fun i => some (i * size,size)) ((Array.range (len * size)).map (fun x => z'[x % z'.size]!)) ps'.toList with
         | some cells => Go.newRow elem cells >>= fun a => Pure.pure (Value.slice (some a) len len)
         | _ => Go.stuck "buildSlice: a part of the wrong size"):=by
     intro B3 l3 z z' hz
     rcases fillR (fun i => some (i * size,size)) (h.mono (l1.trans (l2.trans l3))) (hz.fun (len * size)) with ⟨e1,e2⟩ | ⟨d,d',e1,e2,e3⟩
     · rw [e1,e2]; exact SR.stuck
     · rw [e1,e2]; exact SR.bind (SR.newRow elem e3) fun B4 _ a a' ha => SR.pure (.slice _ _ ha)
   refine SR.ite (fun _ => SR.unsupported_bind) (fun _ => ?_)
   refine SR.ite (fun _ => ?_) (fun _ => ?_)
   · exact SR.bind (R:=ARel X) (SR.pure AR.nil) fun B3 l3 z z' hz => fin B3 l3 z z' hz
   · refine SR.bind (SR.zeroValue hP elem) fun B3 l3 v v' hv => ?_
     exact SR.bind (R:=ARel X) (SR.pure hv.cells) fun B4 l4 z z' hz => fin B4 (l3.trans l4) z z' hz
theorem sr_makeSlice (t:TypeId) {len len' cap cap':Value} (hl:VR X B len len') (hc:VR X B cap cap'):SR X P P' (VRel X) B (Instr.makeSlice t len cap) (Instr.makeSlice t len' cap'):=by
 unfold Instr.makeSlice
 refine SR.bind (SR.underlying hP t) ?_
 rintro B1 l1 d d' ⟨rfl,_⟩
 cases d' <;> dsimp only <;> first
   | exact SR.stuck
   | skip
 case slice elem _ =>
   refine SR.bind (SR.asInt (hl.mono l1)) ?_
   rintro B2 l2 _ len rfl
   refine SR.bind (SR.asInt ((hc.mono l1).mono l2)) ?_
   rintro B3 l3 _ cap rfl
   refine SR.bind (SR.typeInfo hP elem) ?_
   rintro B4 l4 _ i ⟨rfl,_⟩

   refine SR.ite (fun _ => SR.ite (fun _ => sr_pan hP _) (fun _ => SR.ite (fun _ => sr_pan hP _) (fun _ => SR.bindS (SR.choose _) fun _ _ => sr_pan hP _))) (fun _ => ?_)
   refine SR.bind (SR.askRoom _) fun B5 _ _ _ _ => ?_
   refine SR.bind (SR.sizeOf hP elem) ?_
   rintro B6 _ _ s rfl
   refine SR.ite (fun _ => ?_) (fun _ => ?_)
   · exact SR.bind (R:=ARel X) (SR.pure AR.nil) fun B7 _ z z' hz => SR.bind (SR.newRow elem (AR.fun hz _)) fun B8 _ a a' ha => SR.pure (.slice _ _ ha)
   · exact SR.bind (SR.zeroValue hP elem) fun B7 _ v v' hv => SR.bind (R:=ARel X) (SR.pure hv.cells) fun B7 _ z z' hz => SR.bind (SR.newRow elem (AR.fun hz _)) fun B8 _ a a' ha => SR.pure (.slice _ _ ha)
theorem sr_makeChan (t:TypeId) {v v':Value} (h:VR X B v v'):SR X P P' (VRel X) B (Instr.makeChan t v) (Instr.makeChan t v'):=by
 unfold Instr.makeChan
 refine SR.bind (SR.asInt h) ?_
 rintro B2 l2 _ n rfl
 refine SR.bind (SR.underlying hP t) ?_
 rintro B1 l1 d d' ⟨rfl,_⟩
 cases d' <;> dsimp only <;> first
   | exact SR.stuck
   | skip
 refine SR.bind (SR.typeInfo hP _) ?_
 rintro B4 l4 _ i ⟨rfl,_⟩
 refine SR.ite (fun _ => SR.bind (R:=fun _ _ _ => False) (SR.runtimePanic hP (e:=.plain _) trivial) fun _ _ _ _ h => h.elim) (fun _ => ?_)
 exact SR.bind (SR.newObj (.chan _ _ _ _ _ AR.nil)) fun B5 _ r r' hr => SR.pure (.chan hr.1)
omit hP in
theorem sr_noView {a a':Addr} (h:AdR X B a a'):SR X P P' Triv B (noView a) (noView a'):=by
 unfold noView
 have hv:SR X P P' (fun _ x x' => x=none ∧ x'=none) B (viewAt a.block) (viewAt a'.block):=by
   unfold viewAt
   refine SR.bind (SR.shape h.1.1 h.1.2) ?_
   intro B1 l1 s s' hs
   rw [hs.some]
   refine SR.ite (fun _ => SR.pure ⟨rfl,rfl⟩) (fun _ => ?_)
   refine SR.bind (SR.getObj (l1 _ _ h.1.1)) fun B2 _ o o' ho => ?_
   cases ho <;> exact SR.pure ⟨rfl,rfl⟩
 refine SR.bind hv ?_
 rintro B1 l1 _ _ ⟨rfl,rfl⟩
 exact SR.pure trivial
omit hP in
theorem sr_spot {a a':Addr} (h:AdR X B a a'):a'.spot=a.spot:=h.2.2
theorem PRel.depth:P'.depth=P.depth:=by unfold Program.depth; rw [hP.tab]
theorem PRel.cellsOf (t:TypeId):P'.cellsOf t=P.cellsOf t:=by unfold Program.cellsOf; rw [hP.tab]
theorem PRel.bytesOf (t:TypeId):P'.bytesOf t=P.bytesOf t:=by unfold Program.bytesOf; rw [hP.tab]
theorem PRel.byteOfCell:∀ (d:Nat) (t:TypeId) (off:Nat),byteOfCell P' d t off=byteOfCell P d t off
 | 0,_,_ => rfl
 | d + 1,t,off => by
   unfold Go.byteOfCell
   rw [hP.underlying]
   simp only [hP.cellsOf,hP.bytesOf,PRel.byteOfCell d]
theorem sr_byteOf {a a':Addr} (h:AdR X B a a') (hz:X.L a.block=0 ∨ a.block < X.N):SR X P P' Same B (byteOf a) (byteOf a'):=by
 unfold byteOf
 rw [sr_spot h]
 cases a.spot with
 | some s => exact SR.pure rfl
 | none =>
   dsimp only
   refine SR.bind SR.program ?_
   rintro B1 l1 p p' ⟨rfl,rfl⟩
   refine SR.bind (sr_noView (h.mono l1)) fun B2 l2 _ _ _ => ?_
   refine SR.bind (SR.shape (l2 _ _ (l1 _ _ h.1.1)) h.1.2) ?_
   rintro B3 l3 s s' (⟨rfl,rfl⟩ | ⟨e,e',n,m,rfl,rfl,_,ht⟩)
   · exact SR.stuck
   · obtain rfl:e'=e:=by
       rcases ht with ⟨h1,h2,_⟩ | ⟨_,h1,_⟩
       · rcases hz with hz | hz
         · exact absurd hz h1
         · exact absurd hz (Nat.not_lt.2 h2)
       · exact h1
     dsimp only
     rw [hP.cellsOf,h.2.1.1,hP.bytesOf,hP.byteOfCell,hP.depth]
     refine SR.ite (fun _ => SR.pure rfl) (fun _ => ?_)
     cases byteOfCell p p.depth e' (a.off % p.cellsOf e') with
     | none => exact SR.stuck
     | some b => exact SR.pure rfl
def NoZero (P:Program) (t:TypeId):Prop:=∀ fs,P.underlying t=some (.struct fs) → ∀ (k:Nat) f,fs[k]?=some f → ∀ i,P.info? f.type=some i → i.size ≠ 0
theorem sr_fieldPlace {a a':Addr} (h:AdR X B a a') (f:Field) (hz:∀ i,P.info? f.type=some i → i.size ≠ 0):SR X P P' (fun B' x x' => AdR X B' x x') B (fieldPlace a f) (fieldPlace a' f):=by
 unfold fieldPlace
 refine SR.bind (SR.sizeI hP _) ?_
 rintro B1 l1 _ n ⟨rfl,i,hi,rfl⟩
 exact SR.ite (fun e => absurd (by simpa using e) (hz i hi)) (fun _ => SR.pure ((h.mono l1).add _))
theorem sr_fieldAt (s:TypeId) (hz:NoZero P s) {v v':Value} (h:VR X B v v') (f:Nat):SR X P P' (VRel X) B (Instr.fieldAt s v f) (Instr.fieldAt s v' f):=by
 unfold Instr.fieldAt
 refine SR.bind (SR.underlying hP s) ?_
 rintro B1 l1 d d' ⟨rfl,hd⟩
 cases d' <;> dsimp only <;> first
   | exact SR.stuck
   | skip
 case struct fields =>
   cases hf:fields[f]? with
   | none => exact SR.stuck
   | some fd => exact SR.bind (SR.sureAddr (h.mono l1)) fun B2 l2 a a' ha => SR.bind (sr_fieldPlace hP ha fd (hz _ hd f fd hf)) fun B3 _ x x' hx => SR.pure (.ptr hx)
theorem sr_field (t:TypeId) {v v':Value} (h:VR X B v v') (f:Nat):SR X P P' (VRel X) B (Instr.field t v f) (Instr.field t v' f):=by
 unfold Instr.field
 refine SR.bind (SR.underlying hP t) ?_
 rintro B1 l1 d d' ⟨rfl,_⟩
 cases d' <;> dsimp only <;> first
   | exact SR.stuck
   | skip
 case struct fields _ =>
   cases fields[f]? with
   | none => exact SR.stuck
   | some fd => exact SR.bind (SR.asAgg (h.mono l1)) fun B2 l2 a a' ha => SR.part hP _ ha _
theorem sr_indexAt (t:TypeId) {v v' i i':Value} (h:VR X B v v') (hi:VR X B i i'):SR X P P' (VRel X) B (Instr.indexAt t v i) (Instr.indexAt t v' i'):=by
 unfold Instr.indexAt
 refine SR.bind (SR.asIntOf hi) ?_
 rintro B1 l1 _ ⟨k,i⟩ rfl
 dsimp only
 refine SR.bind (SR.underlying hP t) ?_
 rintro B2 l2 d d' ⟨rfl,_⟩
 have ors:(∃ len elem,d'=.array len elem) ∨ (∃ elem,d'=.slice elem) ∨ ((∀ len elem,d' ≠ .array len elem) ∧ ∀ elem,d' ≠ .slice elem):=by
   cases d' <;> first
     | exact .inl ⟨_,_,rfl⟩
     | exact .inr (.inl ⟨_,rfl⟩)
     | exact .inr (.inr ⟨fun _ _ e => (by cases e),fun _ e => (by cases e)⟩)
 rcases ors with ⟨len,elem,rfl⟩ | ⟨elem,rfl⟩ | ⟨n1,n2⟩
 · dsimp only
   refine SR.bind (SR.sureAddr ((h.mono l1).mono l2)) fun B3 l3 a a' ha => ?_
   refine SR.bind (R:=fun B x x' => x'.2=x.2 ∧ OptR X B x.1 x'.1) (SR.pure ⟨rfl,.some ha⟩) ?_
   rintro B4 l4 ⟨b,n,e⟩ ⟨b',_,_⟩ ⟨h1,h2⟩
   cases h1
   dsimp only at h2 ⊢
   refine SR.bind (SR.underlying hP t) ?_
   rintro B5 l5 d d' ⟨rfl,_⟩
   cases h2 with
   | none => exact SR.boundsPanic hP _ _ _ _
   | some ha =>
     exact SR.ite (fun _ => SR.bind (SR.sizeOf hP _) fun B6 l6 n n' e => by rw [show n'=n from e]; exact SR.pure (.ptr (((ha.mono l5).mono l6).add _))) (fun _ => SR.ite (fun _ => SR.unsupported) fun _ => SR.boundsPanic hP _ _ _ _)
 · have hv:=(h.mono l1).mono l2
   have tail:∀ B3 (a a':Option Addr) (len:Nat),OptR X B3 a a' → OptR X B3 a a':=fun _ _ _ _ x => x
   have ors:(∃ a a' len cap,v=.slice a len cap ∧ v'=.slice a' len cap ∧ OptR X B2 a a') ∨ ((∀ a len cap,v ≠ .slice a len cap)):=by
     cases hv <;> first
       | exact .inl ⟨_,_,_,_,rfl,rfl,.none⟩
       | exact .inl ⟨_,_,_,_,rfl,rfl,.some (by assumption)⟩
       | exact .inr fun _ _ _ e => (by cases e)
   rcases ors with ⟨a,a',len,cap,rfl,rfl,ho⟩ | hn
   · dsimp only
     refine SR.bind (R:=fun B x x' => x'.2=x.2 ∧ OptR X B x.1 x'.1) (SR.pure ⟨rfl,ho⟩) ?_
     rintro B4 l4 ⟨b,n,e⟩ ⟨b',_,_⟩ ⟨h1,h2⟩
     cases h1
     dsimp only at h2 ⊢
     refine SR.bind (SR.underlying hP t) ?_
     rintro B5 l5 d d' ⟨rfl,_⟩
     cases h2 with
     | none => exact SR.boundsPanic hP _ _ _ _
     | some ha =>
       exact SR.ite (fun _ => SR.bind (SR.sizeOf hP _) fun B6 l6 n n' e => by rw [show n'=n from e]; exact SR.pure (.ptr (((ha.mono l5).mono l6).add _))) (fun _ => SR.ite (fun _ => SR.unsupported) fun _ => SR.boundsPanic hP _ _ _ _)
   · cases v <;> first | exact SR.stuck_bind | exact absurd rfl (hn _ _ _)
 · cases d' <;> first | exact absurd rfl (n1 _ _) | exact absurd rfl (n2 _) | exact SR.stuck_bind
theorem sr_index (t:TypeId) {v v' i i':Value} (h:VR X B v v') (hi:VR X B i i'):SR X P P' (VRel X) B (Instr.index t v i) (Instr.index t v' i'):=by
 unfold Instr.index
 refine SR.bind (SR.asIntOf hi) ?_
 rintro B1 l1 _ ⟨k,i⟩ rfl
 dsimp only
 refine SR.bind (SR.underlying hP t) ?_
 rintro B2 l2 d d' ⟨rfl,_⟩
 have hv:=(h.mono l1).mono l2
 cases d' <;> cases hv <;> first
   | exact SR.stuck
   | (refine SR.ite (fun _ => SR.bind (SR.sizeOf hP _) fun B6 l6 n n' e => ?_) (fun _ => SR.boundsPanic hP _ _ _ _)
      rw [show n'=n from e]
      exact SR.part hP _ (AR.mono l6 ⟨by assumption,by assumption⟩) _)
   | (dsimp only; split <;> first | exact SR.pure (.int _ _) | exact SR.boundsPanic hP _ _ _ _)
theorem sr_sliceBound {v v':Value} (h:VR X B v v') (y:Nat) (c:BoundsCode):SR X P P' Same B (Instr.sliceBound v y c) (Instr.sliceBound v' y c):=by
 unfold Instr.sliceBound
 refine SR.bind (SR.asIntOf h) ?_
 rintro B1 l1 _ ⟨k,i⟩ rfl
 exact SR.ite (fun _ => SR.pure rfl) (fun _ => SR.boundsPanic hP _ _ _ _)
inductive OvR (X:Cx) (B:Lk):Option Value → Option Value → Prop
 | none:OvR X B none none
 | some {v v':Value}:VR X B v v' → OvR X B (some v) (some v')
omit hP in
theorem OvR.mono {B':Lk} (h:Le B B') {v v':Option Value} (k:OvR X B v v'):OvR X B' v v':=by
 cases k with
 | none => exact .none
 | some a => exact .some (a.mono h)
theorem sr_sliceBounds (b:Bool) (len cap:Nat) {lo lo' hi hi' mx mx':Option Value} (hlo:OvR X B lo lo') (hhi:OvR X B hi hi') (hmx:OvR X B mx mx') :
   SR X P P' Same B (Instr.sliceBounds b len cap lo hi mx) (Instr.sliceBounds b len cap lo' hi' mx'):=by
 have low:∀ {B1:Lk} (_:Le B B1) (m h:Nat) (isM:Bool),SR X P P' Same B1
     (match (generalizing:=false) lo with | some v => Instr.sliceBound v h (if isM then .slice3C else .sliceB) >>= fun l => Pure.pure (l,h,m) | none => (Pure.pure 0:Sem Nat) >>= fun l => Pure.pure (l,h,m))
     (match (generalizing:=false) lo' with | some v => Instr.sliceBound v h (if isM then .slice3C else .sliceB) >>= fun l => Pure.pure (l,h,m) | none => (Pure.pure 0:Sem Nat) >>= fun l => Pure.pure (l,h,m)):=by
   intro B1 l1 m h isM
   cases hlo with
   | none => exact SR.bindS (SR.pure rfl) fun _ _ => SR.pure rfl
   | some k => exact SR.bind (sr_sliceBound hP (k.mono l1) _ _) fun B2 _ a a' e => by rw [show a'=a from e]; exact SR.pure rfl
 unfold Instr.sliceBounds
 cases hmx with
 | none =>
   dsimp only
   refine SR.bind (R:=Same) (SR.pure rfl) ?_
   rintro B1 l1 _ m rfl
   cases hhi with
   | none =>
     dsimp only
     refine SR.bind (R:=Same) (SR.pure rfl) ?_
     rintro B2 l2 _ h rfl
     exact low (l1.trans l2) m h false
   | some k =>
     dsimp only
     refine SR.bind (sr_sliceBound hP (k.mono l1) _ _) ?_
     rintro B2 l2 _ h rfl
     exact low (l1.trans l2) m h false
 | some k =>
   dsimp only
   refine SR.bind (sr_sliceBound hP k _ _) ?_
   rintro B1 l1 _ m rfl
   cases hhi with
   | none => exact SR.stuck_bind
   | some k2 =>
     dsimp only
     refine SR.bind (sr_sliceBound hP (k2.mono l1) _ _) ?_
     rintro B2 l2 _ h rfl
     exact low (l1.trans l2) m h true
theorem sr_slice (t:TypeId) {v v':Value} (h:VR X B v v') {lo lo' hi hi' mx mx':Option Value} (hlo:OvR X B lo lo') (hhi:OvR X B hi hi') (hmx:OvR X B mx mx') :
   SR X P P' (VRel X) B (Instr.slice t v lo hi mx) (Instr.slice t v' lo' hi' mx'):=by
 unfold Instr.slice
 refine SR.bind (SR.underlying hP t) ?_
 rintro B1 l1 d d' ⟨rfl,_⟩
 have hv:=h.mono l1
 have hm:mx'.isSome=mx.isSome:=by cases hmx <;> rfl
 cases d'
 case string =>
   cases hv <;> first
     | exact SR.stuck
     | (dsimp only
        rw [hm]
        refine SR.ite (fun _ => SR.stuck_bind) (fun _ => SR.bind (sr_sliceBounds hP _ _ _ (hlo.mono l1) (hhi.mono l1) .none) fun B2 l2 a a' e => ?_)
        rw [show a'=a from e]
        exact SR.pure (.string _))
 case slice elem _ =>
   cases hv <;> first
     | exact SR.stuck
     | (dsimp only
        refine SR.bind (sr_sliceBounds hP _ _ _ (hlo.mono l1) (hhi.mono l1) (hmx.mono l1)) fun B2 l2 a a' e => ?_
        rw [show a'=a from e]
        refine SR.bind (SR.sizeOf hP _) ?_
        rintro B3 l3 _ n rfl
        refine SR.pure ?_
        split
        · first | exact .snil _ _ | exact .slice _ _ (AdR.mono l3 (AdR.mono l2 (by assumption)))
        · first | exact .snil _ _ | exact .slice _ _ (AdR.add (AdR.mono l3 (AdR.mono l2 (by assumption))) _))
 case pointer arr _ =>
   dsimp only
   refine SR.bind (SR.asAddr hP hv) fun B2 l2 a a' ha => ?_
   refine SR.bind (SR.underlying hP arr) ?_
   rintro B3 l3 d d' ⟨rfl,_⟩
   cases d' <;> first
     | exact SR.stuck
     | (dsimp only
        refine SR.bind (sr_sliceBounds hP _ _ _ (((hlo.mono l1).mono l2).mono l3) (((hhi.mono l1).mono l2).mono l3) (((hmx.mono l1).mono l2).mono l3)) fun B4 l4 a a' e => ?_
        rw [show a'=a from e]
        refine SR.bind (SR.sizeOf hP _) ?_
        rintro B5 l5 _ n rfl
        refine SR.pure ?_
        split
        · exact .slice _ _ (AdR.mono l5 (AdR.mono l4 (AdR.mono l3 ha)))
        · exact .slice _ _ (AdR.add (AdR.mono l5 (AdR.mono l4 (AdR.mono l3 ha))) _))
 all_goals exact SR.stuck
theorem sr_sliceAt (t:TypeId) {v v':Value} (h:VR X B v v') {lo lo' hi hi' mx mx':Option Value} (hlo:OvR X B lo lo') (hhi:OvR X B hi hi') (hmx:OvR X B mx mx') :
   SR X P P' (VRel X) B (Instr.sliceAt t v lo hi mx) (Instr.sliceAt t v' lo' hi' mx'):=by
 unfold Instr.sliceAt
 refine SR.bind (SR.underlying hP t) ?_
 rintro B1 l1 d d' ⟨rfl,_⟩
 cases d' <;> first
   | exact sr_slice hP t (h.mono l1) (hlo.mono l1) (hhi.mono l1) (hmx.mono l1)
   | (dsimp only
      refine SR.bind (SR.sureAddr (h.mono l1)) fun B2 l2 a a' ha => ?_
      refine SR.bind (sr_sliceBounds hP _ _ _ ((hlo.mono l1).mono l2) ((hhi.mono l1).mono l2) ((hmx.mono l1).mono l2)) fun B4 l4 x x' e => ?_
      rw [show x'=x from e]
      refine SR.bind (SR.sizeOf hP _) ?_
      rintro B5 l5 _ n rfl
      refine SR.pure ?_
      split
      · exact .slice _ _ (AdR.mono l5 (AdR.mono l4 ha))
      · exact .slice _ _ (AdR.add (AdR.mono l5 (AdR.mono l4 ha)) _))
omit hP in
theorem sr_extract {v v':Value} (h:VR X B v v') (i:Nat):SR X P P' (VRel X) B (Instr.extract v i) (Instr.extract v' i):=by
 cases h <;> first
   | exact SR.stuck
   | skip
 rename_i p p' h1 h2
 unfold Instr.extract
 dsimp only
 rcases AR.get (X:=X) (B:=B) (p:=p) (p':=p') ⟨h1,h2⟩ i with ⟨v,v',e1,e2,e3⟩ | ⟨e1,e2⟩
 · rw [e1,e2]; exact SR.pure e3
 · rw [e1,e2]; exact SR.stuck
end
end Go.Proofs.YthhfljldbfgpcaaGreatDoor.Lr
end

section
namespace Go.Proofs.YthhfljldbfgpcaaGreatDoor.Lr
section
variable {X:Cx} {P P':Program} {B:Lk} (hP:PRel X P P')
theorem sr_lenOf {v v':Value} (h:VR X B v v'):SR X P P' Same B (Builtin.lenOf v) (Builtin.lenOf v'):=by
 cases h <;> first | exact SR.pure rfl | exact SR.stuck
theorem sr_firstCells (size n:Nat) {v v':Value} (h:VR X B v v'):SR X P P' (ARel X) B (Builtin.firstCells size n v) (Builtin.firstCells size n v'):=by
 cases h <;> first
   | exact SR.stuck
   | exact SR.pure AR.nil
   | exact SR.loadCells (by assumption) _
   | skip
 rename_i s
 refine SR.pure ?_
 refine ⟨rfl,fun i a b ha hb => ?_⟩
 cases ha.symm.trans hb
 rw [Array.getElem?_map,Option.map_eq_some_iff] at ha
 obtain ⟨x,_,rfl⟩:=ha
 exact .int _ _
def Doom (P:Program) {α:Type} (s:Sem α):Prop:=∀ V,∃ h V',s.run P V=.halt h V' ∧ Mute h
theorem sr_doom {α β:Type} {R:Lk → α → β → Prop} {s:Sem α} {s':Sem β} (h:Doom P s):SR X P P' R B s s':=by
 intro V W _
 obtain ⟨e,V',h1,h2⟩:=h V
 refine ⟨.inl ⟨e,V',h1,h2⟩,?_⟩
 rw [h1]
 exact resR_halt h2
theorem doom_mayShare {α:Type} (size n m:Nat) (b:Option Addr) (x:Value) (u:Unsupported) (hu:Mute (.unsupported u)):Doom P (Builtin.mayShare size n m b x >>= fun q => if (!q)=true then (Go.mark .noRoom >>= fun _ => (Go.unsupported u:Sem α)) else Go.unsupported u):=by
 have hc:∀ (a:Addr) (k:Nat) (V:World),∃ q,(Builtin.holdsCells a k).run P V=.ok q V:=by
   intro a k V
   unfold Builtin.holdsCells
   rw [run_bind']
   simp only [Go.shape,Sem.run]
   cases V.shape? a.block with
   | none => exact ⟨_,rfl⟩
   | some y => exact ⟨_,rfl⟩
 have hm:∀ V,∃ q,(Builtin.mayShare size n m b x).run P V=.ok q V:=by
   intro V
   have hx:∃ q,(match (generalizing:=false) x with
     | .slice (some c) _ _ => Builtin.holdsCells c (m * size) >>= fun w => Pure.pure (!w || b.any (·.block == c.block))
     | _ => Pure.pure false:Sem Bool).run P V=.ok q V:=by
     split
     · rw [run_bind']
       obtain ⟨q,hq⟩:=hc (by assumption) (m * size) V
       rw [hq]
       exact ⟨_,rfl⟩
     · exact ⟨_,rfl⟩
   unfold Builtin.mayShare
   cases b with
   | none =>
     rw [run_bind']
     exact hx
   | some a =>
     dsimp only
     rw [run_bind']
     obtain ⟨q,hq⟩:=hc a (n * size) V
     rw [hq]
     dsimp only
     rw [run_bind',show (Go.frozen (a.add (n / 2 * size))).run P V=.ok (V.frozen? (a.add (n / 2 * size))) V from rfl]
     dsimp only
     rw [run_bind',show (Pure.pure (q && !V.frozen? (a.add (n / 2 * size))):Sem Bool).run P V=.ok (q && !V.frozen? (a.add (n / 2 * size))) V from rfl]
     dsimp only
     split
     · exact ⟨_,rfl⟩
     · exact hx
 intro V
 obtain ⟨q,hq⟩:=hm V
 rw [run_bind',hq]
 cases q
 · exact ⟨_,_,rfl,hu⟩
 · exact ⟨_,_,rfl,hu⟩
theorem sr_zeroCells {z z':Array Value} (h:AR X B z z') (n:Nat):AR X B (Builtin.zeroCells z n) (Builtin.zeroCells z' n):=by
 unfold Builtin.zeroCells
 rw [← h.1]
 refine AR.map _ fun i _ => ?_
 rw [Array.getElem!_eq_getD,Array.getElem!_eq_getD]
 exact h.getD _ (.bool _)
include hP
theorem sr_appended (elem:TypeId) (size n:Nat) (zeros:Bool) {x x':Value} (hx:VR X B x x'):SR X P P' (ARel X) B
   (if (!zeros)=true then Builtin.firstCells size n x else if n * size=0 then Pure.pure #[] else Go.zeroValue elem >>= fun z => Pure.pure (Builtin.zeroCells z.cells n))
   (if (!zeros)=true then Builtin.firstCells size n x' else if n * size=0 then Pure.pure #[] else Go.zeroValue elem >>= fun z => Pure.pure (Builtin.zeroCells z.cells n)):=by
 refine SR.ite (fun _ => sr_firstCells _ _ hx) (fun _ => SR.ite (fun _ => SR.pure AR.nil) (fun _ => SR.bind (SR.zeroValue hP elem) fun _ _ z z' hz => SR.pure (sr_zeroCells hz.cells _)))
theorem sr_append (ts:Array TypeId) (t:TypeId) {args args':Array Value} (h:AR X B args args'):SR X P P' (VRel X) B (Builtin.append_ ts t args) (Builtin.append_ ts t args'):=by
 unfold Builtin.append_
 cases ts[0]? with
 | none => exact SR.stuck
 | some sType =>
 rcases h.get 0 with ⟨s,s',e1,e2,hs⟩ | ⟨e1,e2⟩
 case inr => rw [e1,e2]; exact SR.stuck
 rcases h.get 1 with ⟨x,x',g1,g2,hx⟩ | ⟨g1,g2⟩
 case inr => rw [e1,e2,g1,g2]; exact SR.stuck
 rw [e1,e2,g1,g2]
 dsimp only
 refine SR.bind (SR.underlying hP sType) ?_
 rintro B1 l1 d d' ⟨rfl,_⟩
 cases d' <;> first
   | exact SR.stuck
   | skip
 rename_i elem _
 have ors:(∃ a a' sLen sCap,s=.slice a sLen sCap ∧ s'=.slice a' sLen sCap ∧ OptR X B a a') ∨ ((∀ a len cap,s ≠ .slice a len cap)):=by
   cases hs <;> first
     | exact .inl ⟨_,_,_,_,rfl,rfl,.none⟩
     | exact .inl ⟨_,_,_,_,rfl,rfl,.some (by assumption)⟩
     | exact .inr fun _ _ _ e => (by cases e)
 rcases ors with ⟨b,b',sLen,sCap,rfl,rfl,hb⟩ | hn
 case inr => cases s <;> first | exact SR.stuck | exact absurd rfl (hn _ _ _)
 have hs0:=hs
 dsimp only
 refine SR.bind (SR.sizeOf hP elem) ?_
 rintro B2 l2 _ size rfl
 cases ts[1]? with
 | none =>
   dsimp only
   refine SR.bind (R:=Same) (SR.pure rfl) ?_
   rintro B3 l3 _ zeros rfl
   have app:∀ {B4:Lk} (m:Nat) (q:Bool) (_:Le B B4),SR X P P' (ARel X) B4
       (if (!q)=true then Builtin.firstCells size m x else if m * size=0 then Pure.pure #[] else Go.zeroValue elem >>= fun z => Pure.pure (Builtin.zeroCells z.cells m))
       (if (!q)=true then Builtin.firstCells size m x' else if m * size=0 then Pure.pure #[] else Go.zeroValue elem >>= fun z => Pure.pure (Builtin.zeroCells z.cells m)):=fun m q l => sr_appended hP elem size m q (hx.mono l)
   refine SR.ite (fun _ => ?_) (fun _ => ?_)
   · refine SR.bind (SR.asInt (hx.mono (l1.trans (l2.trans l3)))) ?_
     rintro B4 l4 _ k rfl
     refine SR.ite (fun _ => sr_pan hP _) (fun _ => ?_)
     refine SR.bind (SR.typeInfo hP elem) ?_
     rintro B4' l4' _ i0 ⟨rfl,_⟩
     refine SR.ite (fun _ => SR.bindS (SR.choose _) fun _ _ => sr_pan hP _) (fun _ => ?_)
     refine SR.bind (R:=Same) (SR.pure rfl) ?_
     rintro B4'' l4'' _ n rfl
     refine SR.ite (fun _ => ?_) (fun _ => ?_)
     · refine SR.bind (app _ _ (l1.trans (l2.trans (l3.trans (l4.trans (l4'.trans l4'')))))) fun B5 l5 w w' hw => ?_
       cases hb with
       | none => exact SR.pure (.snil _ _)
       | some ha =>
         exact SR.bind (SR.storeCells 0 (((ha.mono (l1.trans (l2.trans (l3.trans (l4.trans (l4'.trans l4'')))))).mono l5).add _) (AR.toList hw)) fun B6 l6 _ _ _ => SR.pure (.slice _ _ (((ha.mono (l1.trans (l2.trans (l3.trans (l4.trans (l4'.trans l4'')))))).mono l5).mono l6))
     · refine SR.bind (SR.typeInfo hP elem) ?_
       rintro B5 l5 _ i ⟨rfl,_⟩
       refine SR.ite (fun _ => sr_pan hP _) (fun _ => ?_)
       refine SR.bind (SR.typeInfo hP elem) ?_
       rintro B6 l6 _ i2 ⟨rfl,_⟩
       refine SR.ite (fun _ => SR.bind (R:=fun _ _ _ => False) (SR.ite (fun _ => SR.runtimePanic hP (e:=.error _) trivial) (fun _ => sr_doom (doom_mayShare _ _ _ _ _ _ trivial))) fun _ _ _ _ h => h.elim) (fun _ => ?_)
       refine SR.bind (SR.choose _) ?_
       rintro B7 l7 _ newCap rfl
       refine SR.bind (SR.typeInfo hP elem) ?_
       rintro B8 l8 _ i3 ⟨rfl,_⟩
       refine SR.bind (SR.askRoom _) fun B9 l9 _ _ _ => ?_
       have lx:=l5.trans (l6.trans (l7.trans (l8.trans l9)))
       refine SR.bind (sr_firstCells _ _ ((hs0.mono (l1.trans (l2.trans (l3.trans (l4.trans (l4'.trans l4'')))))).mono lx)) fun B10 l10 old old' hold => ?_
       refine SR.bind (app _ _ (Le.trans (l1.trans (l2.trans (l3.trans (l4.trans (l4'.trans l4''))))) (lx.trans l10))) fun B11 l11 nw nw' hnw => ?_
       refine SR.bind (SR.zeroValue hP elem) fun B12 l12 z z' hz => ?_
       refine SR.bind (SR.newRow elem (AR.append (AR.append ((hold.mono l11).mono l12) (hnw.mono l12)) (sr_zeroCells hz.cells _))) fun B13 l13 a a' ha => SR.pure (.slice _ _ ha)
   · refine SR.bind (sr_lenOf (hx.mono (l1.trans (l2.trans l3)))) ?_
     rintro B4 l4 _ n rfl
     refine SR.ite (fun _ => ?_) (fun _ => ?_)
     · refine SR.bind (app _ _ (l1.trans (l2.trans (l3.trans l4)))) fun B5 l5 w w' hw => ?_
       cases hb with
       | none => exact SR.pure (.snil _ _)
       | some ha =>
         exact SR.bind (SR.storeCells 0 (((ha.mono (l1.trans (l2.trans (l3.trans l4)))).mono l5).add _) (AR.toList hw)) fun B6 l6 _ _ _ => SR.pure (.slice _ _ (((ha.mono (l1.trans (l2.trans (l3.trans l4)))).mono l5).mono l6))
     · refine SR.bind (SR.typeInfo hP elem) ?_
       rintro B5 l5 _ i ⟨rfl,_⟩
       refine SR.ite (fun _ => sr_pan hP _) (fun _ => ?_)
       refine SR.bind (SR.typeInfo hP elem) ?_
       rintro B6 l6 _ i2 ⟨rfl,_⟩
       refine SR.ite (fun _ => SR.bind (R:=fun _ _ _ => False) (SR.ite (fun _ => SR.runtimePanic hP (e:=.error _) trivial) (fun _ => sr_doom (doom_mayShare _ _ _ _ _ _ trivial))) fun _ _ _ _ h => h.elim) (fun _ => ?_)
       refine SR.bind (SR.choose _) ?_
       rintro B7 l7 _ newCap rfl
       refine SR.bind (SR.typeInfo hP elem) ?_
       rintro B8 l8 _ i3 ⟨rfl,_⟩
       refine SR.bind (SR.askRoom _) fun B9 l9 _ _ _ => ?_
       have lx:=l5.trans (l6.trans (l7.trans (l8.trans l9)))
       refine SR.bind (sr_firstCells _ _ ((hs0.mono (l1.trans (l2.trans (l3.trans l4)))).mono lx)) fun B10 l10 old old' hold => ?_
       refine SR.bind (app _ _ (Le.trans (l1.trans (l2.trans (l3.trans l4))) (lx.trans l10))) fun B11 l11 nw nw' hnw => ?_
       refine SR.bind (SR.zeroValue hP elem) fun B12 l12 z z' hz => ?_
       refine SR.bind (SR.newRow elem (AR.append (AR.append ((hold.mono l11).mono l12) (hnw.mono l12)) (sr_zeroCells hz.cells _))) fun B13 l13 a a' ha => SR.pure (.slice _ _ ha)
 | some xType =>
   dsimp only
   refine SR.bind (SR.underlying hP xType) ?_
   rintro B2' l2' d d' ⟨rfl,_⟩
   refine SR.bind (R:=Same) (SR.pure rfl) ?_
   rintro B3 l3' _ zeros rfl
   have l3:=l2'.trans l3'
   have app:∀ {B4:Lk} (m:Nat) (q:Bool) (_:Le B B4),SR X P P' (ARel X) B4
       (if (!q)=true then Builtin.firstCells size m x else if m * size=0 then Pure.pure #[] else Go.zeroValue elem >>= fun z => Pure.pure (Builtin.zeroCells z.cells m))
       (if (!q)=true then Builtin.firstCells size m x' else if m * size=0 then Pure.pure #[] else Go.zeroValue elem >>= fun z => Pure.pure (Builtin.zeroCells z.cells m)):=fun m q l => sr_appended hP elem size m q (hx.mono l)
   refine SR.ite (fun _ => ?_) (fun _ => ?_)
   · refine SR.bind (SR.asInt (hx.mono (l1.trans (l2.trans l3)))) ?_
     rintro B4 l4 _ k rfl
     refine SR.ite (fun _ => sr_pan hP _) (fun _ => ?_)
     refine SR.bind (SR.typeInfo hP elem) ?_
     rintro B4' l4' _ i0 ⟨rfl,_⟩
     refine SR.ite (fun _ => SR.bindS (SR.choose _) fun _ _ => sr_pan hP _) (fun _ => ?_)
     refine SR.bind (R:=Same) (SR.pure rfl) ?_
     rintro B4'' l4'' _ n rfl
     refine SR.ite (fun _ => ?_) (fun _ => ?_)
     · refine SR.bind (app _ _ (l1.trans (l2.trans (l3.trans (l4.trans (l4'.trans l4'')))))) fun B5 l5 w w' hw => ?_
       cases hb with
       | none => exact SR.pure (.snil _ _)
       | some ha =>
         exact SR.bind (SR.storeCells 0 (((ha.mono (l1.trans (l2.trans (l3.trans (l4.trans (l4'.trans l4'')))))).mono l5).add _) (AR.toList hw)) fun B6 l6 _ _ _ => SR.pure (.slice _ _ (((ha.mono (l1.trans (l2.trans (l3.trans (l4.trans (l4'.trans l4'')))))).mono l5).mono l6))
     · refine SR.bind (SR.typeInfo hP elem) ?_
       rintro B5 l5 _ i ⟨rfl,_⟩
       refine SR.ite (fun _ => sr_pan hP _) (fun _ => ?_)
       refine SR.bind (SR.typeInfo hP elem) ?_
       rintro B6 l6 _ i2 ⟨rfl,_⟩
       refine SR.ite (fun _ => SR.bind (R:=fun _ _ _ => False) (SR.ite (fun _ => SR.runtimePanic hP (e:=.error _) trivial) (fun _ => sr_doom (doom_mayShare _ _ _ _ _ _ trivial))) fun _ _ _ _ h => h.elim) (fun _ => ?_)
       refine SR.bind (SR.choose _) ?_
       rintro B7 l7 _ newCap rfl
       refine SR.bind (SR.typeInfo hP elem) ?_
       rintro B8 l8 _ i3 ⟨rfl,_⟩
       refine SR.bind (SR.askRoom _) fun B9 l9 _ _ _ => ?_
       have lx:=l5.trans (l6.trans (l7.trans (l8.trans l9)))
       refine SR.bind (sr_firstCells _ _ ((hs0.mono (l1.trans (l2.trans (l3.trans (l4.trans (l4'.trans l4'')))))).mono lx)) fun B10 l10 old old' hold => ?_
       refine SR.bind (app _ _ (Le.trans (l1.trans (l2.trans (l3.trans (l4.trans (l4'.trans l4''))))) (lx.trans l10))) fun B11 l11 nw nw' hnw => ?_
       refine SR.bind (SR.zeroValue hP elem) fun B12 l12 z z' hz => ?_
       refine SR.bind (SR.newRow elem (AR.append (AR.append ((hold.mono l11).mono l12) (hnw.mono l12)) (sr_zeroCells hz.cells _))) fun B13 l13 a a' ha => SR.pure (.slice _ _ ha)
   · refine SR.bind (sr_lenOf (hx.mono (l1.trans (l2.trans l3)))) ?_
     rintro B4 l4 _ n rfl
     refine SR.ite (fun _ => ?_) (fun _ => ?_)
     · refine SR.bind (app _ _ (l1.trans (l2.trans (l3.trans l4)))) fun B5 l5 w w' hw => ?_
       cases hb with
       | none => exact SR.pure (.snil _ _)
       | some ha =>
         exact SR.bind (SR.storeCells 0 (((ha.mono (l1.trans (l2.trans (l3.trans l4)))).mono l5).add _) (AR.toList hw)) fun B6 l6 _ _ _ => SR.pure (.slice _ _ (((ha.mono (l1.trans (l2.trans (l3.trans l4)))).mono l5).mono l6))
     · refine SR.bind (SR.typeInfo hP elem) ?_
       rintro B5 l5 _ i ⟨rfl,_⟩
       refine SR.ite (fun _ => sr_pan hP _) (fun _ => ?_)
       refine SR.bind (SR.typeInfo hP elem) ?_
       rintro B6 l6 _ i2 ⟨rfl,_⟩
       refine SR.ite (fun _ => SR.bind (R:=fun _ _ _ => False) (SR.ite (fun _ => SR.runtimePanic hP (e:=.error _) trivial) (fun _ => sr_doom (doom_mayShare _ _ _ _ _ _ trivial))) fun _ _ _ _ h => h.elim) (fun _ => ?_)
       refine SR.bind (SR.choose _) ?_
       rintro B7 l7 _ newCap rfl
       refine SR.bind (SR.typeInfo hP elem) ?_
       rintro B8 l8 _ i3 ⟨rfl,_⟩
       refine SR.bind (SR.askRoom _) fun B9 l9 _ _ _ => ?_
       have lx:=l5.trans (l6.trans (l7.trans (l8.trans l9)))
       refine SR.bind (sr_firstCells _ _ ((hs0.mono (l1.trans (l2.trans (l3.trans l4)))).mono lx)) fun B10 l10 old old' hold => ?_
       refine SR.bind (app _ _ (Le.trans (l1.trans (l2.trans (l3.trans l4))) (lx.trans l10))) fun B11 l11 nw nw' hnw => ?_
       refine SR.bind (SR.zeroValue hP elem) fun B12 l12 z z' hz => ?_
       refine SR.bind (SR.newRow elem (AR.append (AR.append ((hold.mono l11).mono l12) (hnw.mono l12)) (sr_zeroCells hz.cells _))) fun B13 l13 a a' ha => SR.pure (.slice _ _ ha)
end
end Go.Proofs.YthhfljldbfgpcaaGreatDoor.Lr
end
