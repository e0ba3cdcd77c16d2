/- Merged texts: LrC, LrD. -/
import Derived.Test.YthhfljldbfgpcaaGreatDoorT23
import Derived.Laws.Sem
set_option linter.all false
section
namespace Go.Proofs.YthhfljldbfgpcaaGreatDoor.Lr
structure PRel (X:Cx) (P P':Program):Prop where
 tab:P'.toTables=P.toTables
 nG:X.N=P.globals.size
 zero:∀ (t:TypeId) (i:TypeInfo) v,P.info? t=some i → i.zero=some v → Flat X v
 mono:∀ t n l,X.Mv t n l → ∀ off (m:Int) off',l ≤ off → 0 ≤ m → cellAtBytes P P.depth t (n / P.cellsOf t) off m=some off' → l ≤ off'
 zed:∀ t,X.Z t → P.info? t=none
def VRel (X:Cx) (B:Lk) (v v':Value):Prop:=VR X B v v'
def ARel (X:Cx) (B:Lk) (v v':Array Value):Prop:=AR X B v v'
def Triv {α β:Type} (_:Lk) (_:α) (_:β):Prop:=True
section
variable {X:Cx} {P P':Program} {B:Lk} (hP:PRel X P P')
include hP
theorem PRel.underlying (t:TypeId):P'.underlying t=P.underlying t:=by unfold Program.underlying; rw [hP.tab]
theorem PRel.info (t:TypeId):P'.info? t=P.info? t:=by rw [hP.tab]
theorem SR.underlying (t:TypeId):SR X P P' (fun _ d d' => d'=d ∧ P.underlying t=some d) B (underlying t) (underlying t):=by
 unfold Go.underlying
 refine SR.bind SR.program ?_
 rintro B' hl p p' ⟨rfl,rfl⟩
 rw [hP.underlying]
 cases h:p.underlying t with
 | none => exact SR.stuck
 | some d => exact SR.pure ⟨rfl,rfl⟩
theorem SR.typeInfo (t:TypeId):SR X P P' (fun _ d d' => d'=d ∧ P.info? t=some d) B (typeInfo t) (typeInfo t):=by
 unfold Go.typeInfo
 refine SR.bind SR.program ?_
 rintro B' hl p p' ⟨rfl,rfl⟩
 rw [hP.info]
 cases h:p.info? t with
 | none => exact SR.stuck
 | some d => exact SR.pure ⟨rfl,rfl⟩
theorem SR.sizeOf (t:TypeId):SR X P P' Same B (sizeOf t) (sizeOf t):=by
 unfold Go.sizeOf
 refine SR.bind (SR.typeInfo hP t) ?_
 rintro B' hl d d' ⟨rfl,_⟩
 exact SR.pure rfl
theorem SR.sizeI (t:TypeId):SR X P P' (fun _ n n' => n'=n ∧ ∃ i,P.info? t=some i ∧ n=i.size) B (Go.sizeOf t) (Go.sizeOf t):=by
 unfold Go.sizeOf
 refine SR.bind (SR.typeInfo hP t) ?_
 rintro B' hl d d' ⟨rfl,h⟩
 exact SR.pure ⟨rfl,_,h,rfl⟩
theorem SR.isAgg (t:TypeId):SR X P P' Same B (isAgg t) (isAgg t):=by
 unfold Go.isAgg
 refine SR.bind (SR.underlying hP t) ?_
 rintro B' hl d d' ⟨rfl,_⟩
 cases d' <;> exact SR.pure rfl
theorem SR.zeroValue (t:TypeId):SR X P P' (VRel X) B (zeroValue t) (zeroValue t):=by
 unfold Go.zeroValue
 refine SR.bind (SR.typeInfo hP t) ?_
 rintro B' hl d d' ⟨rfl,hd⟩
 cases h:d'.zero with
 | none => exact SR.unsupported
 | some v => exact SR.pure (hP.zero t d' v hd h B')
omit hP in
theorem SR.loadCellsFrom {a a':Addr}:∀ (n i:Nat) {B:Lk} {acc acc':Array Value},AdR X B a a' → AR X B acc acc' → SR X P P' (ARel X) B (loadCellsFrom a i n acc) (loadCellsFrom a' i n acc')
 | 0,_,_,_,_,_,hc => SR.pure hc
 | n + 1,i,_,_,_,ha,hc => by
   unfold Go.loadCellsFrom
   refine SR.bind (SR.load (ha.add i)) ?_
   intro B' hl v v' hv
   exact SR.loadCellsFrom n (i + 1) (ha.mono hl) ((hc.mono hl).push hv)
omit hP in
theorem SR.loadCells {a a':Addr} (ha:AdR X B a a') (n:Nat):SR X P P' (ARel X) B (loadCells a n) (loadCells a' n):=SR.loadCellsFrom n 0 ha AR.nil
omit hP in
theorem SR.storeCells {a a':Addr}:∀ {l l':List Value} {B:Lk} (i:Nat),AdR X B a a' → LR X B l l' → SR X P P' Triv B (storeCells a l i) (storeCells a' l' i)
 | [],[],_,_,_,_ => SR.pure trivial
 | v :: l,v' :: l',_,i,ha,.cons h1 h2 => by
   unfold Go.storeCells
   refine SR.bind (SR.store (ha.add i) h1) ?_
   intro B' hl _ _ _
   exact SR.storeCells (i + 1) (ha.mono hl) (h2.mono hl)
theorem SR.loadVar {a a':Addr} (ha:AdR X B a a') (t:TypeId):SR X P P' (VRel X) B (loadVar t a) (loadVar t a'):=by
 unfold Go.loadVar
 refine SR.bind (SR.isAgg hP t) ?_
 rintro B' hl b b' rfl
 refine SR.ite (fun _ => ?_) (fun _ => SR.load (ha.mono hl))
 refine SR.bind (SR.sizeOf hP t) ?_
 rintro B'' hl' n n' rfl
 exact SR.map (SR.loadCells ((ha.mono hl).mono hl') n') fun _ _ c c' hc => hc.agg
theorem SR.storeVar {a a':Addr} (ha:AdR X B a a') (t:TypeId) {v v':Value} (hv:VR X B v v'):SR X P P' Triv B (storeVar t a v) (storeVar t a' v'):=by
 unfold Go.storeVar
 refine SR.bind (SR.sizeOf hP t) ?_
 rintro B' hl n n' rfl
 rw [hv.cells.1]
 refine SR.ite (fun _ => ?_) (fun _ => SR.storeCells 0 (ha.mono hl) (hv.mono hl).cells.toList)
 exact SR.stuck_bind
omit hP in
theorem SR.newRow (t:TypeId) {c c':Array Value} (h:AR X B c c'):SR X P P' (fun B' a a' => AdR X B' a a') B (newRow t c) (newRow t c'):=by
 unfold Go.newRow
 exact SR.bind (SR.newObj (.cells t (0,0) h)) fun B' hl r r' hr => SR.pure ⟨⟨hr.1,hr.2.1⟩,⟨rfl,Nat.le_of_eq hr.2.2⟩,rfl⟩
omit hP in
theorem SR.newVar (t:TypeId) {v v':Value} (h:VR X B v v'):SR X P P' (fun B' a a' => AdR X B' a a') B (newVar t v) (newVar t v'):=SR.newRow t h.cells
theorem SR.elemOf (t:TypeId):SR X P P' Same B (elemOf t) (elemOf t):=by
 unfold Go.elemOf
 refine SR.bind (SR.underlying hP t) ?_
 rintro B' hl d d' ⟨rfl,_⟩
 cases d' <;> first | exact SR.pure rfl | exact SR.stuck
theorem SR.part (t:TypeId) {c c':Array Value} (h:AR X B c c') (off:Nat):SR X P P' (VRel X) B (part t c off) (part t c' off):=by
 unfold Go.part
 refine SR.bind (SR.isAgg hP t) ?_
 rintro B' hl b b' rfl
 refine SR.ite (fun _ => ?_) (fun _ => ?_)
 · refine SR.bind (SR.sizeOf hP t) ?_
   rintro B'' hl' n n' rfl
   exact SR.pure (((h.mono hl).mono hl').extract _ _).agg
 · rcases h.get off with ⟨v,v',h1,h2,h3⟩ | ⟨h1,h2⟩
   · rw [h1,h2]; exact SR.pure (h3.mono hl)
   · rw [h1,h2]; exact SR.stuck
omit hP in
theorem SR.askRoom (n:Nat):SR X P P' Triv B (askRoom n) (askRoom n):=by
 unfold Go.askRoom
 exact SR.ite (fun _ => SR.mark (.inl rfl)) (fun _ => SR.pure trivial)
omit hP in
theorem SR.asIntOf {v v':Value} (h:VR X B v v'):SR X P P' Same B (asIntOf v) (asIntOf v'):=by
 cases h <;> first | exact SR.pure rfl | exact SR.unsupported | exact SR.stuck
omit hP in
theorem SR.asInt {v v':Value} (h:VR X B v v'):SR X P P' Same B (asInt v) (asInt v'):=by
 unfold Go.asInt
 exact SR.bind (SR.asIntOf h) fun _ _ a b e => SR.pure (by rw [show b=a from e]; rfl)
omit hP in
theorem SR.asBool {v v':Value} (h:VR X B v v'):SR X P P' Same B (asBool v) (asBool v'):=by
 cases h <;> first | exact SR.pure rfl | exact SR.stuck
omit hP in
theorem SR.asAgg {v v':Value} (h:VR X B v v'):SR X P P' (ARel X) B (asAgg v) (asAgg v'):=by
 cases h <;> first | exact SR.pure ⟨by assumption,by assumption⟩ | exact SR.stuck
def PlainErr:RuntimeError → Prop
 | .typeAssertion .. | .unhashable _ => False
 | _ => True
theorem SR.runtimePanic {α β:Type} {R:Lk → α → β → Prop} {e:RuntimeError} (he:PlainErr e):SR X P P' R B (runtimePanic e:Sem α) (runtimePanic e:Sem β):=by
 unfold Go.runtimePanic
 refine SR.bind SR.program ?_
 rintro B' hl p p' ⟨rfl,rfl⟩
 have hrt:p'.rt=p.rt:=by rw [hP.tab]
 dsimp only
 rw [hrt]
 cases e with
 | bounds x y s c => exact SR.panic (.iface _ (AR.agg (AR.push (AR.push (AR.push (AR.one (.int _ _)) (.int _ _)) (.bool _)) (.int _ _))))
 | error m => exact SR.panic (.iface _ (.string _))
 | plain m => exact SR.panic (.iface _ (.string _))
 | nilDeref => exact SR.panic (.iface _ (.string _))
 | typeAssertion i c a m => exact he.elim
 | panicNil =>
   refine SR.bind (SR.elemOf hP _) ?_
   rintro B2 hl2 n n' rfl
   exact SR.bind (SR.newVar n' AR.nil.agg) fun B3 hl3 a a' ha => SR.panic (.iface _ (.ptr ha))
 | unhashable t => exact he.elim
theorem SR.boundsPanic {α β:Type} {R:Lk → α → β → Prop} (k:IntKind) (x y:Int) (c:BoundsCode):SR X P P' R B (boundsPanic k x y c:Sem α) (boundsPanic k x y c:Sem β):=by
 unfold Go.boundsPanic
 dsimp only
 have hr:∀ B' (b b':Bool),Same B' b b' → SR X P P' R B' (Go.runtimePanic (.bounds (IntKind.i64.wrap x) y b c):Sem α) (Go.runtimePanic (.bounds (IntKind.i64.wrap x) y b' c):Sem β):=by
   rintro B' b b' rfl
   exact SR.runtimePanic hP (e:=.bounds _ _ _ _) trivial
 refine SR.ite (fun _ => SR.bind (R:=Same) (SR.map (SR.choose _) fun _ _ a b e => by rw [show b=a from e]; rfl) fun B' _ b b' e => hr B' b b' e) (fun _ => SR.bind (R:=Same) (SR.pure rfl) fun B' _ b b' e => hr B' b b' e)
theorem SR.asAddr {v v':Value} (h:VR X B v v'):SR X P P' (fun B' a a' => AdR X B' a a') B (asAddr v) (asAddr v'):=by
 cases h with
 | ptr a => exact SR.pure a
 | pnil => exact SR.runtimePanic hP (e:=.nilDeref) trivial
 | _ => exact SR.stuck
omit hP in
theorem SR.sureAddr {v v':Value} (h:VR X B v v'):SR X P P' (fun B' a a' => AdR X B' a a') B (Instr.sureAddr v) (Instr.sureAddr v'):=by
 cases h with
 | ptr a => exact SR.pure a
 | _ => exact SR.stuck
end
end Go.Proofs.YthhfljldbfgpcaaGreatDoor.Lr
end

section
namespace Go.Proofs.YthhfljldbfgpcaaGreatDoor.Lr
section
variable {X:Cx} {P P':Program} {B:Lk}
theorem SR.mapMList {ι α:Type} {f:ι → Sem α}:∀ (l:List ι) {B:Lk},(∀ x ∈ l,∀ B',SR X P P' Same B' (f x) (f x)) → SR X P P' Same B (l.mapM f) (l.mapM f)
 | [],_,_ => by simp only [List.mapM_nil]; exact SR.pure rfl
 | x :: l,B,h => by
   simp only [List.mapM_cons]
   refine SR.bind (h x (by simp) B) ?_
   rintro B1 h1 a b rfl
   refine SR.bind (SR.mapMList l fun y hy => h y (by simp [hy])) ?_
   rintro B2 h2 us vs rfl
   exact SR.pure rfl
theorem SR.mapMArr {ι α:Type} {f:ι → Sem α} (l:Array ι) (h:∀ x ∈ l,∀ B',SR X P P' Same B' (f x) (f x)):SR X P P' Same B (l.mapM f) (l.mapM f):=by
 rw [Array.mapM_eq_mapM_toList]
 exact SR.map (SR.mapMList l.toList fun x hx => h x (by simpa using hx)) fun B' hl a b e => by rw [show b=a from e]; rfl
theorem SR.intArith (op:BinOp) (k:IntKind) (x y:Int):SR X P P' (VRel X) B (Op.intArith op k x y) (Op.intArith op k x y):=by
 unfold Op.intArith
 cases op <;> first | exact SR.pure (.int _ _) | exact SR.stuck
theorem SR.intBits (op:BinOp) (k:IntKind) (x y:Int):SR X P P' (VRel X) B (Op.intBits op k x y) (Op.intBits op k x y):=by
 unfold Op.intBits
 cases op <;> first | exact SR.pure (.int _ _) | exact SR.stuck
theorem SR.intCmp (op:BinOp) (x y:Int):SR X P P' (VRel X) B (Op.intCmp op x y) (Op.intCmp op x y):=by
 unfold Op.intCmp
 cases op <;> first | exact SR.pure (.bool _) | exact SR.stuck
theorem SR.floatArith (op:BinOp) (k:FloatKind) (x y:Nat):SR X P P' (fun _ v v' => v'=v ∧ ∃ r,v=.float k r) B (Op.floatArith op k x y) (Op.floatArith op k x y):=by
 unfold Op.floatArith
 have jp:∀ B' (r r':Option Nat),Same B' r r' → SR X P P' (fun _ v v' => v'=v ∧ ∃ r,v=.float k r) B'
     (match r with | some r => Pure.pure (Value.float k r) | none => (Go.choose (.nanBits k x y) >>= fun n => Pure.pure (Value.float k n)))
     (match r' with | some r => Pure.pure (Value.float k r) | none => (Go.choose (.nanBits k x y) >>= fun n => Pure.pure (Value.float k n))):=by
   rintro B' r r' rfl
   cases r' with
   | some r => exact SR.pure ⟨rfl,r,rfl⟩
   | none => exact SR.bind (SR.choose _) fun B'' _ a b e => by rw [show b=a from e]; exact SR.pure ⟨rfl,a,rfl⟩
 cases op <;> dsimp only <;> first
   | exact SR.stuck_bind
   | exact SR.bind (R:=Same) (SR.pure rfl) fun B' _ r r' e => jp B' r r' e
theorem SR.floatCmp (op:BinOp) (k:FloatKind) (x y:Nat):SR X P P' (fun _ v v' => v'=v ∧ ∃ r,v=.bool r) B (Op.floatCmp op k x y) (Op.floatCmp op k x y):=by
 unfold Op.floatCmp
 cases op <;> first | exact SR.pure ⟨rfl,_,rfl⟩ | exact SR.stuck
theorem SR.floatToFloat (s:FloatKind) (b:Nat) (d:FloatKind):SR X P P' (fun _ v v' => v'=v ∧ ∃ r,v=.float d r) B (Conv.floatToFloat s b d) (Conv.floatToFloat s b d):=by
 unfold Conv.floatToFloat
 refine SR.ite (fun h => SR.pure ⟨rfl,_,rfl⟩) (fun _ => ?_)
 cases s.decode b with
 | nan a c => exact SR.map (SR.choose _) fun B'' _ a b e => by rw [show b=a from e]; exact ⟨rfl,a,rfl⟩
 | infinity s => exact SR.pure ⟨rfl,_,rfl⟩
 | number s m e =>
   refine SR.ite (fun _ => ?_) (fun _ => SR.pure ⟨rfl,_,rfl⟩)
   exact SR.map (SR.choose _) fun B'' _ a b e => by rw [show b=a from e]; exact ⟨rfl,a,rfl⟩
theorem SR.floatToInt (s:FloatKind) (b:Nat) (d:IntKind):SR X P P' (VRel X) B (Conv.floatToInt s b d) (Conv.floatToInt s b d):=by
 unfold Conv.floatToInt
 have any:∀ B,SR X P P' (VRel X) B (Go.choose (.floatToInt s b d) >>= fun n => Pure.pure (Value.int d (d.wrap n))) (Go.choose (.floatToInt s b d) >>= fun n => Pure.pure (Value.int d (d.wrap n))):=fun B => SR.bind (SR.choose _) fun B'' _ a b e => by
   rw [show b=a from e]; exact SR.pure (.int _ _)
 dsimp only
 split
 · exact SR.ite (fun _ => SR.pure (.int _ _)) (fun _ => any B)
 · exact any B
theorem SR.carith (op:BinOp) (k:FloatKind) (x y:Nat):SR X P P' Same B (Op.Complex.arith op k x y) (Op.Complex.arith op k x y):=by
 unfold Op.Complex.arith
 refine SR.bind (SR.floatArith op k x y) ?_
 rintro B' hl v v' ⟨rfl,r,rfl⟩
 exact SR.pure rfl
theorem SR.ccmp (op:BinOp) (k:FloatKind) (x y:Nat):SR X P P' Same B (Op.Complex.cmp op k x y) (Op.Complex.cmp op k x y):=by
 unfold Op.Complex.cmp
 refine SR.bind (SR.floatCmp op k x y) ?_
 rintro B' hl v v' ⟨rfl,r,rfl⟩
 exact SR.pure rfl
theorem SR.cconv (s:FloatKind) (x:Nat) (d:FloatKind):SR X P P' Same B (Op.Complex.conv s x d) (Op.Complex.conv s x d):=by
 unfold Op.Complex.conv
 refine SR.ite (fun _ => SR.pure rfl) (fun _ => ?_)
 refine SR.bind (SR.floatToFloat s x d) ?_
 rintro B' hl v v' ⟨rfl,r,rfl⟩
 exact SR.pure rfl
theorem SR.bindS {α β:Type} {s:Sem α} {f:α → Sem β} {R:Lk → β → β → Prop} (h:SR X P P' Same B s s) (hf:∀ B' a,SR X P P' R B' (f a) (f a)):SR X P P' R B (s >>= f) (s >>= f) :=
 SR.bind h fun B' _ a b e => by rw [show b=a from e]; exact hf B' a
theorem SR.product (a b c d:Nat):SR X P P' Same B (Op.Complex.product a b c d) (Op.Complex.product a b c d):=by
 unfold Op.Complex.product Op.Complex.sub Op.Complex.mul Op.Complex.add
 repeat' (first | exact SR.pure rfl | refine SR.bindS (SR.carith _ _ _ _) fun _ _ => ?_)
theorem SR.complexOp (op:BinOp) (hq:op ≠ .quo) (k:FloatKind) (a b c d:Nat):SR X P P' (VRel X) B (Op.complexOp op k a b c d) (Op.complexOp op k a b c d):=by
 unfold Op.complexOp
 cases op <;> dsimp only <;> repeat' (first
   | exact absurd rfl hq
   | exact SR.stuck
   | exact SR.pure (.complex _ _ _)
   | exact SR.pure (.bool _)
   | refine SR.bindS (SR.carith _ _ _ _) fun _ _ => ?_
   | refine SR.bindS (SR.ccmp _ _ _ _) fun _ _ => ?_
   | refine SR.bindS (SR.cconv _ _ _) fun _ _ => ?_
   | refine SR.bindS (SR.product _ _ _ _) fun _ _ => ?_
   | refine SR.ite (fun _ => ?_) (fun _ => ?_)
   | refine SR.map (R:=Same) ?_ (fun _ _ a b e => by rw [show b=a from e]; exact .bool _))
theorem SR.stringOp (op:BinOp) (x y:ByteArray):SR X P P' (fun _ v v' => v'=v ∧ Flat X v) B (Op.stringOp op x y) (Op.stringOp op x y):=by
 unfold Op.stringOp
 cases op <;> dsimp only <;> first
   | exact SR.pure ⟨rfl,fun _ => .bool _⟩
   | exact SR.stuck
   | exact SR.ite (fun _ => SR.unsupported) (fun _ => SR.pure ⟨rfl,fun _ => .string _⟩)
end
section
variable {X:Cx} {P P':Program} {B:Lk} (hP:PRel X P P')
include hP
theorem SR.intDiv (op:BinOp) (k:IntKind) (x y:Int):SR X P P' (VRel X) B (Op.intDiv op k x y) (Op.intDiv op k x y):=by
 unfold Op.intDiv
 refine SR.ite (fun _ => SR.runtimePanic hP (e:=.error _) trivial) (fun _ => ?_)
 cases op <;> first | exact SR.pure (.int _ _) | exact SR.stuck
theorem SR.shift (op:BinOp) (k:IntKind) (x:Int) (yk:IntKind) (y:Int):SR X P P' (VRel X) B (Op.shift op k x yk y) (Op.shift op k x yk y):=by
 unfold Op.shift
 refine SR.ite (fun _ => SR.runtimePanic hP (e:=.error _) trivial) (fun _ => ?_)
 cases op <;> first | exact SR.pure (.int _ _) | exact SR.stuck
omit hP in
theorem SR.unary (op:UnOp) {x x':Value} (h:VR X B x x'):SR X P P' (VRel X) B (Op.unary op x) (Op.unary op x'):=by
 unfold Op.unary
 cases op <;> cases h <;> first
   | exact SR.stuck
   | exact SR.unsupported
   | exact SR.pure (.float _ _)
   | exact SR.pure (.complex _ _ _)
   | exact SR.pure (.bool _)
   | exact SR.intArith _ _ _ _
   | exact SR.intBits _ _ _ _
theorem SR.alloc (t:TypeId):SR X P P' (VRel X) B (Instr.alloc t true (.tuple #[])) (Instr.alloc t true (.tuple #[])):=by
 unfold Instr.alloc
 refine SR.bind (SR.zeroValue hP t) fun B' _ v v' hv => ?_
 exact SR.bind (SR.newVar t hv) fun B'' _ a a' ha => SR.pure (.ptr ha)
omit hP in
theorem SR.box (t:TypeId) {v v':Value} (h:VR X B v v'):SR X P P' (VRel X) B (Instr.box t v) (Instr.box t v'):=by
 unfold Instr.box
 exact SR.bind (SR.newVar t h) fun B'' _ a a' ha => SR.pure (.ptr ha)
inductive PsR (X:Cx) (B:Lk):List (Nat × Value) → List (Nat × Value) → Prop
 | nil:PsR X B [] []
 | cons (i:Nat) {v v':Value} {l l':List (Nat × Value)}:VR X B v v' → PsR X B l l' → PsR X B ((i,v) :: l) ((i,v') :: l')
omit hP in
theorem PsR.mono {B':Lk} (h:Le B B') {l l':List (Nat × Value)} (k:PsR X B l l'):PsR X B' l l':=by
 induction k with
 | nil => exact .nil
 | cons i a _ ih => exact .cons i (a.mono h) ih
omit hP in
theorem PsR.of (ps:List (Nat × Operand)) {f g:Operand → Value} (h:∀ x ∈ ps,VR X B (f x.2) (g x.2)):PsR X B (ps.map fun x => (x.1,f x.2)) (ps.map fun x => (x.1,g x.2)):=by
 induction ps with
 | nil => exact .nil
 | cons x l ih => exact .cons x.1 (h x (by simp)) (ih fun y hy => h y (by simp [hy]))
omit hP in
theorem foldl_set:∀ {l l':List Value} (off k:Nat) {c c':Array Value},LR X B l l' → AR X B c c' →
   AR X B ((l.zipIdx k).foldl (fun cs (x:Value × Nat) => cs.setIfInBounds (off + x.2) x.1) c) ((l'.zipIdx k).foldl (fun cs (x:Value × Nat) => cs.setIfInBounds (off + x.2) x.1) c')
 | [],[],_,_,_,_,_,hc => hc
 | v :: l,v' :: l',off,k,_,_,.cons h1 h2,hc => by
   simp only [List.zipIdx_cons,List.foldl_cons]
   exact foldl_set off (k + 1) h2 (hc.set _ h1)
omit hP in
theorem fillR (place:Nat → Option (Nat × Nat)):∀ {ps ps':List (Nat × Value)} {c c':Array Value},PsR X B ps ps' → AR X B c c' →
   (Instr.fill place c ps=none ∧ Instr.fill place c' ps'=none) ∨ ∃ d d',Instr.fill place c ps=some d ∧ Instr.fill place c' ps'=some d' ∧ AR X B d d'
 | [],[],c,c',_,hc => .inr ⟨c,c',rfl,rfl,hc⟩
 | (i,v) :: l,(_,v') :: l',c,c',.cons _ h1 h2,hc => by
   unfold Instr.fill
   cases hp:place i with
   | none => exact .inl ⟨rfl,rfl⟩
   | some q =>
     obtain ⟨off,size⟩:=q
     have hs:=h1.cells.1
     dsimp only
     rw [← hs,← hc.1]
     split
     · exact .inl ⟨rfl,rfl⟩
     · refine fillR place h2 ?_
       rw [← Array.foldl_toList,← Array.foldl_toList,Array.toList_zipIdx,Array.toList_zipIdx]
       exact foldl_set off 0 h1.cells.toList hc
theorem SR.build (t:TypeId) {ps ps':Array (Nat × Value)} (h:PsR X B ps.toList ps'.toList):SR X P P' (VRel X) B (Instr.build t ps) (Instr.build t ps'):=by
 unfold Instr.build
 refine SR.bind (SR.zeroValue hP t) fun B1 l1 z z' hz => ?_
 refine SR.bind (SR.underlying hP t) ?_
 rintro B2 l2 d d' ⟨rfl,_⟩
 have fin:∀ (B3:Lk) (_:Le B2 B3) (place:Nat → Option (Nat × Nat)) (why:String),SR X P P' (VRel X) B3
     (match Instr.fill place z.cells ps.toList with | some cells => Pure.pure (Value.agg cells) | _ => Go.stuck why)
     (match Instr.fill place z'.cells ps'.toList with | some cells => Pure.pure (Value.agg cells) | _ => Go.stuck why):=by
   intro B3 l3 place why
   rcases fillR place (h.mono (l1.trans (l2.trans l3))) ((hz.mono l2).mono l3).cells with ⟨e1,e2⟩ | ⟨d,d',e1,e2,e3⟩
   · rw [e1,e2]; exact SR.stuck
   · rw [e1,e2]; exact SR.pure e3.agg
 cases d' <;> dsimp only <;> first
   | exact SR.stuck
   | skip
 case struct fields _ =>
   refine SR.bind (R:=Same) (SR.mapMArr fields fun (f:Field) _ B' => SR.bindS (SR.sizeOf hP f.type) fun _ _ => SR.pure rfl) ?_
   rintro B3 l3 places _ rfl
   exact fin B3 l3 _ _
 case array _ elem _ =>
   refine SR.bind (R:=Same) (SR.sizeOf hP elem) ?_
   rintro B3 l3 size _ rfl
   exact fin B3 l3 _ _
end
end Go.Proofs.YthhfljldbfgpcaaGreatDoor.Lr
end
