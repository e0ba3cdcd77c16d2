import Derived.Test.YtjaehldnlamgkaaGreatDoorXe2
import Derived.Test.YtjaehldnlamgkaaGreatDoorXe0
set_option linter.all false
set_option maxHeartbeats 16000000
set_option maxRecDepth 100000
namespace Go.Proofs.YtjaehldnlamgkaaGreatDoor
namespace Lr
theorem AR.fun {X:Cx}{B:Lk}{p p':Array Value}(k:AR X B p p')(n:Nat):AR X B ((Array.range n).map (fun i=>p[i % p.size]!)) ((Array.range n).map (fun i=>p'[i % p'.size]!)):=by
 refine AR.map _ fun i _=>?_
 rw[<-k.1,Aqq,Aqq]
 exact k.getD _ (.bool _)
inductive Rg (X:Cx)(B:Lk):Option Addr->Option Addr->Prop
 | none:Rg X B none none
 | some {a a':Addr}:Ce X B a a'->Rg X B (some a) (some a')
section
variable {X : Cx} {P P' : Program} {B : Lk} (hP : PRel X P P')
include hP
theorem Fx {α β γ δ:Type}{R:Lk->γ->δ->Prop}{f:α->Sem γ}{f':β->Sem δ}(m:String):SR X P P' R B ((Go.runtimePanic (.error m):Sem α) >>= f) ((Go.runtimePanic (.error m):Sem β) >>= f') :=
 SR.bind (R:=fun _ _ _=>False) (SR.runtimePanic hP (e:=.error _) trivial) fun _ _ _ _ h=>h.elim
theorem V8 (t:TypeId)(len:Nat){ps ps':Array (Nat×Value)}(h:PsR X B ps.toList ps'.toList):SR X P P' (Ac X) B (Instr.buildSlice t len ps) (Instr.buildSlice t len ps'):=by
 unfold Instr.buildSlice
 refine SR.bind (SR.underlying hP t) ?_
 rintro B1 l1 d d' ⟨rfl,_⟩
 cases d'<;>dsimp only<;>first
  | exact SR.stuck
  | skip
 case slice elem _ =>
  refine SR.bind (R:=Same) (SR.sizeOf hP elem) ?_
  rintro B2 l2 _ size rfl
  have fin:∀(B3:Lk) (_:Le B2 B3) (z z':Array Value),Oa X B3 z z'->SR X P P' (Ac X) B3
   (match Instr.fill (fun i=>some (i*size,size)) ((Array.range (len*size)).map (fun x=>z[x % z.size]!)) ps.toList with
    | some cells=>Go.newRow elem cells >>= fun a=>Pure.pure (Value.slice (some a) len len)
    | _=>Go.stuck "buildSlice: a part of the wrong size")
   (match Instr.fill (fun i=>some (i*size,size)) ((Array.range (len*size)).map (fun x=>z'[x % z'.size]!)) ps'.toList with
    | some cells=>Go.newRow elem cells >>= fun a=>Pure.pure (Value.slice (some a) len len)
    | _=>Go.stuck "buildSlice: a part of the wrong size") := by
   intro B3 l3 z z' hz
   rcases Aao (fun i=>some (i*size,size)) (h.mono (l1.trans (l2.trans l3))) (hz.fun (len*size))with⟨e1,e2⟩ |⟨d,d',e1,e2,e3⟩
   ·rw[e1,e2];exact SR.stuck
   ·rw[e1,e2];exact SR.bind (SR.newRow elem e3) fun B4 _ a a' ha=>SR.pure (.slice _ _ ha)
  refine SR.ite (fun _=>SR.A9) (fun _=>?_)
  refine SR.ite (fun _=>?_) (fun _=>?_)
  ·exact SR.bind (R:=Oa X) (SR.pure AR.nil) fun B3 l3 z z' hz=>fin B3 l3 z z' hz
  ·refine SR.bind (SR.zeroValue hP elem) fun B3 l3 v v' hv=>?_
   exact SR.bind (R:=Oa X) (SR.pure hv.cells) fun B4 l4 z z' hz=>fin B4 (l3.trans l4) z z' hz
theorem Z2 (t:TypeId){len len' cap cap':Value}(hl:VR X B len len')(hc:VR X B cap cap'):SR X P P' (Ac X) B (Instr.makeSlice t len cap) (Instr.makeSlice t len' cap'):=by
 unfold Instr.makeSlice
 refine SR.bind (SR.underlying hP t) ?_
 rintro B1 l1 d d' ⟨rfl,_⟩
 cases d'<;>dsimp only<;>first
  | exact SR.stuck
  | skip
 case slice elem _ =>
  refine SR.bind (SR.asInt (hl.mono l1)) ?_
  rintro B2 l2 _ len rfl
  refine SR.bind (SR.asInt ((hc.mono l1).mono l2)) ?_
  rintro B3 l3 _ cap rfl
  refine SR.bind (SR.typeInfo hP elem) ?_
  rintro B4 l4 _ i ⟨rfl,_⟩
  refine SR.ite (fun _=>SR.ite (fun _=>Fx hP _) (fun _=>SR.ite (fun _=>Fx hP _) (fun _=>SR.Dl (SR.choose _) fun _ _=>Fx hP _))) (fun _=>?_)
  refine SR.bind (SR.askRoom _) fun B5 _ _ _ _=>?_
  refine SR.bind (SR.sizeOf hP elem) ?_
  rintro B6 _ _ s rfl
  refine SR.ite (fun _=>?_) (fun _=>?_)
  ·exact SR.bind (R:=Oa X) (SR.pure AR.nil) fun B7 _ z z' hz=>SR.bind (SR.newRow elem (AR.fun hz _)) fun B8 _ a a' ha=>SR.pure (.slice _ _ ha)
  ·exact SR.bind (SR.zeroValue hP elem) fun B7 _ v v' hv=>SR.bind (R:=Oa X) (SR.pure hv.cells) fun B7 _ z z' hz=>SR.bind (SR.newRow elem (AR.fun hz _)) fun B8 _ a a' ha=>SR.pure (.slice _ _ ha)
theorem A2f (t:TypeId){v v':Value}(h:VR X B v v'):SR X P P' (Ac X) B (Instr.makeChan t v) (Instr.makeChan t v'):=by
 unfold Instr.makeChan
 refine SR.bind (SR.asInt h) ?_
 rintro B2 l2 _ n rfl
 refine SR.bind (SR.underlying hP t) ?_
 rintro B1 l1 d d' ⟨rfl,_⟩
 cases d'<;>dsimp only<;>first
  | exact SR.stuck
  | skip
 refine SR.bind (SR.typeInfo hP _) ?_
 rintro B4 l4 _ i ⟨rfl,_⟩
 refine SR.ite (fun _=>SR.bind (R:=fun _ _ _=>False) (SR.runtimePanic hP (e:=.plain _) trivial) fun _ _ _ _ h=>h.elim) (fun _=>?_)
 exact SR.bind (SR.newObj (.chan _ _ _ _ _ AR.nil)) fun B5 _ r r' hr=>SR.pure (.chan hr.1)
def VwR (X:Cx)(B:Lk)(x x':Option (Addr×TypeId)):Prop:=(x=none/\x'=none)\/∃a a' u,x=some (a,u)/\x'=some (a',u)/\Ce X B a a'/\X.Ex
omit hP in
theorem Kx {a a':Addr}(h:Ce X B a a'):SR X P P' (VwR X) B (viewAt a.block) (viewAt a'.block):=by
 unfold viewAt
 refine SR.bind (SR.shape h.1.1 h.1.2) ?_
 intro B1 l1 s s' hs;rw[hs.some]
 refine SR.ite (fun _=>SR.pure (.inl ⟨rfl,rfl⟩)) (fun _=>?_)
 refine SR.bind (SR.getObj (l1 _ _ h.1.1)) fun B2 _ o o' ho=>?_
 cases ho<;>first
  | exact SR.pure (.inl ⟨rfl,rfl⟩)
  | exact SR.pure (.inr ⟨_,_,_,rfl,rfl,by assumption,by assumption⟩)
omit hP in
theorem P5 {a a':Addr}(h:Ce X B a a'):SR X P P' Ql B (noView a) (noView a'):=by
 unfold noView
 refine SR.bind (Kx h) ?_
 rintro B1 l1 x x' (⟨rfl,rfl⟩ |⟨b,b',u,rfl,rfl,_⟩)
 ·exact SR.pure trivial
 ·exact SR.unsupported
omit hP in
theorem Af4 {a a':Addr}(h:Ce X B a a'):a'.spot=a.spot:=h.2.2
theorem PRel.depth:P'.depth=P.depth:=by unfold Program.depth;rw[hP.Gb]
theorem PRel.cellsOf (t:TypeId):P'.cellsOf t=P.cellsOf t:=by unfold Program.cellsOf;rw[hP.Gb]
theorem PRel.bytesOf (t:TypeId):P'.bytesOf t=P.bytesOf t:=by unfold Program.bytesOf;rw[hP.Gb]
theorem PRel.byteOfCell:∀(d:Nat) (t:TypeId) (off:Nat),byteOfCell P' d t off=byteOfCell P d t off
 | 0,_,_=>rfl
 | d+1,t,off=>by
   unfold Go.byteOfCell;rw[hP.underlying];simp only[hP.cellsOf,hP.bytesOf,PRel.byteOfCell d]
theorem I8 {a a':Addr}(h:Ce X B a a')(hz:X.L a.block=0\/a.block<X.N):SR X P P' Same B (byteOf a) (byteOf a'):=by
 unfold byteOf;rw[Af4 h]
 cases a.spot with
 | some s=>exact SR.pure rfl
 | none =>
   dsimp only
   refine SR.bind SR.program ?_
   rintro B1 l1 p p' ⟨rfl,rfl⟩
   refine SR.bind (P5 (h.mono l1)) fun B2 l2 _ _ _=>?_
   refine SR.bind (SR.shape (l2 _ _ (l1 _ _ h.1.1)) h.1.2) ?_
   rintro B3 l3 s s' (⟨rfl,rfl⟩ |⟨e,e',n,m,rfl,rfl,_,ht⟩)
   ·exact SR.stuck
   ·obtain rfl:e'=e:=by
     rcases ht with⟨h1,h2,_⟩ |⟨_,h1,_⟩
     ·rcases hz with hz|hz
      ·exact absurd hz h1
      ·exact absurd hz (Nat.not_lt.2 h2)
     ·exact h1
    dsimp only;rw[hP.cellsOf,h.2.1.1,hP.bytesOf,hP.byteOfCell,hP.depth]
    refine SR.ite (fun _=>SR.pure rfl) (fun _=>?_)
    cases byteOfCell p p.depth e' (a.off % p.cellsOf e')with
    | none=>exact SR.stuck
    | some b=>exact SR.pure rfl
def A3c (P:Program)(t:TypeId):Prop:=∀fs,P.underlying t=some (.struct fs)->∀(k:Nat) f,fs[k]?=some f->∀i,P.info? f.type=some i->i.size≠0
theorem Va {a a':Addr}(h:Ce X B a a')(f:Field)(hz:∀i,P.info? f.type=some i->i.size≠0):SR X P P' (fun B' x x'=>Ce X B' x x') B (fieldPlace a f) (fieldPlace a' f):=by
 unfold fieldPlace
 refine SR.bind (SR.Akt hP _) ?_
 rintro B1 l1 _ n ⟨rfl,i,hi,rfl⟩
 exact SR.ite (fun e=>absurd (by simpa using e) (hz i hi)) (fun _=>SR.pure ((h.mono l1).add _))
theorem A56 (s:TypeId)(hz:A3c P s){v v':Value}(h:VR X B v v')(f:Nat):SR X P P' (Ac X) B (Instr.fieldAt s v f) (Instr.fieldAt s v' f):=by
 unfold Instr.fieldAt
 refine SR.bind (SR.underlying hP s) ?_
 rintro B1 l1 d d' ⟨rfl,hd⟩
 cases d'<;>dsimp only<;>first
  | exact SR.stuck
  | skip
 case struct fields =>
  cases hf:fields[f]? with
  | none=>exact SR.stuck
  | some fd=>exact SR.bind (SR.sureAddr (h.mono l1)) fun B2 l2 a a' ha=>SR.bind (Va hP ha fd (hz _ hd f fd hf)) fun B3 _ x x' hx=>SR.pure (.ptr hx)
theorem Acg (t:TypeId){v v':Value}(h:VR X B v v')(f:Nat):SR X P P' (Ac X) B (Instr.field t v f) (Instr.field t v' f):=by
 unfold Instr.field
 refine SR.bind (SR.underlying hP t) ?_
 rintro B1 l1 d d' ⟨rfl,_⟩
 cases d'<;>dsimp only<;>first
  | exact SR.stuck
  | skip
 case struct fields _ =>
  cases fields[f]? with
  | none=>exact SR.stuck
  | some fd=>exact SR.bind (SR.asAgg (h.mono l1)) fun B2 l2 a a' ha=>SR.part hP _ ha _
theorem A57 (t:TypeId){v v' i i':Value}(h:VR X B v v')(hi:VR X B i i'):SR X P P' (Ac X) B (Instr.indexAt t v i) (Instr.indexAt t v' i'):=by
 unfold Instr.indexAt
 refine SR.bind (SR.asIntOf hi) ?_
 rintro B1 l1 _ ⟨k,i⟩ rfl;dsimp only
 refine SR.bind (SR.underlying hP t) ?_
 rintro B2 l2 d d' ⟨rfl,_⟩
 have ors:(∃len elem,d'=.array len elem) \/(∃elem,d'=.slice elem) \/((∀len elem,d'≠.array len elem)/\∀elem,d'≠.slice elem):=by
  cases d'<;>first
   | exact .inl ⟨_,_,rfl⟩
   | exact .inr (.inl ⟨_,rfl⟩)
   | exact .inr (.inr ⟨fun _ _ e=>(by cases e),fun _ e=>(by cases e)⟩)
 rcases ors with⟨len,elem,rfl⟩ |⟨elem,rfl⟩ |⟨n1,n2⟩
 ·dsimp only
  refine SR.bind (SR.sureAddr ((h.mono l1).mono l2)) fun B3 l3 a a' ha=>?_
  refine SR.bind (R:=fun B x x'=>x'.2=x.2/\Rg X B x.1 x'.1) (SR.pure ⟨rfl,.some ha⟩) ?_
  rintro B4 l4 ⟨b,n,e⟩ ⟨b',_,_⟩ ⟨h1,h2⟩
  cases h1
  dsimp only at h2 ⊢
  refine SR.bind (SR.underlying hP t) ?_
  rintro B5 l5 d d' ⟨rfl,_⟩
  cases h2 with
  | none=>exact SR.boundsPanic hP _ _ _ _
  | some ha =>
    exact SR.ite (fun _=>SR.bind (SR.sizeOf hP _) fun B6 l6 n n' e=>by rw[show n'=n from e];exact SR.pure (.ptr (((ha.mono l5).mono l6).add _))) (fun _=>SR.ite (fun _=>SR.unsupported) fun _=>SR.boundsPanic hP _ _ _ _)
 ·have hv:=(h.mono l1).mono l2;have tail:∀B3 (a a':Option Addr) (len:Nat),Rg X B3 a a'->Rg X B3 a a':=fun _ _ _ _ x=>x
  have ors:(∃a a' len cap,v=.slice a len cap/\v'=.slice a' len cap/\Rg X B2 a a') \/((∀a len cap,v≠.slice a len cap)):=by
   cases hv<;>first
    | exact .inl ⟨_,_,_,_,rfl,rfl,.none⟩
    | exact .inl ⟨_,_,_,_,rfl,rfl,.some (by assumption)⟩
    | exact .inr fun _ _ _ e=>(by cases e)
  rcases ors with⟨a,a',len,cap,rfl,rfl,ho⟩|hn
  ·dsimp only
   refine SR.bind (R:=fun B x x'=>x'.2=x.2/\Rg X B x.1 x'.1) (SR.pure ⟨rfl,ho⟩) ?_
   rintro B4 l4 ⟨b,n,e⟩ ⟨b',_,_⟩ ⟨h1,h2⟩
   cases h1
   dsimp only at h2 ⊢
   refine SR.bind (SR.underlying hP t) ?_
   rintro B5 l5 d d' ⟨rfl,_⟩
   cases h2 with
   | none=>exact SR.boundsPanic hP _ _ _ _
   | some ha =>
     exact SR.ite (fun _=>SR.bind (SR.sizeOf hP _) fun B6 l6 n n' e=>by rw[show n'=n from e];exact SR.pure (.ptr (((ha.mono l5).mono l6).add _))) (fun _=>SR.ite (fun _=>SR.unsupported) fun _=>SR.boundsPanic hP _ _ _ _)
  ·cases v<;>first|exact SR.C7|exact absurd rfl (hn _ _ _)
 ·cases d'<;>first|exact absurd rfl (n1 _ _)|exact absurd rfl (n2 _)|exact SR.C7
theorem Ach (t:TypeId){v v' i i':Value}(h:VR X B v v')(hi:VR X B i i'):SR X P P' (Ac X) B (Instr.index t v i) (Instr.index t v' i'):=by
 unfold Instr.index
 refine SR.bind (SR.asIntOf hi) ?_
 rintro B1 l1 _ ⟨k,i⟩ rfl;dsimp only
 refine SR.bind (SR.underlying hP t) ?_
 rintro B2 l2 d d' ⟨rfl,_⟩;have hv:=(h.mono l1).mono l2
 cases d'<;>cases hv<;>first
  | exact SR.stuck
  |(refine SR.ite (fun _=>SR.bind (SR.sizeOf hP _) fun B6 l6 n n' e=>?_) (fun _=>SR.boundsPanic hP _ _ _ _)
    rw[show n'=n from e]
    exact SR.part hP _ (AR.mono l6 ⟨by assumption,by assumption⟩) _)
  |(dsimp only;split<;>first|exact SR.pure (.int _ _)|exact SR.boundsPanic hP _ _ _ _)
theorem Fh {v v':Value}(h:VR X B v v')(y:Nat)(c:BoundsCode):SR X P P' Same B (Instr.sliceBound v y c) (Instr.sliceBound v' y c):=by
 unfold Instr.sliceBound
 refine SR.bind (SR.asIntOf h) ?_
 rintro B1 l1 _ ⟨k,i⟩ rfl
 exact SR.ite (fun _=>SR.pure rfl) (fun _=>SR.boundsPanic hP _ _ _ _)
inductive OvR (X:Cx)(B:Lk):Option Value->Option Value->Prop
 | none:OvR X B none none
 | some {v v':Value}:VR X B v v'->OvR X B (some v) (some v')
omit hP in
theorem OvR.mono {B':Lk}(h:Le B B'){v v':Option Value}(k:OvR X B v v'):OvR X B' v v':=by
 cases k with
 | none=>exact .none
 | some a=>exact .some (a.mono h)
theorem Es (b:Bool)(len cap:Nat){lo lo' hi hi' mx mx':Option Value}(hlo:OvR X B lo lo')(hhi:OvR X B hi hi')(hmx:OvR X B mx mx') :
 SR X P P' Same B (Instr.sliceBounds b len cap lo hi mx) (Instr.sliceBounds b len cap lo' hi' mx'):=by
 have low:∀{B1:Lk} (_:Le B B1) (m h:Nat) (isM:Bool),SR X P P' Same B1
  (match (generalizing:=false) lo with|some v=>Instr.sliceBound v h (if isM then .slice3C else .sliceB) >>= fun l=>Pure.pure (l,h,m)|none=>(Pure.pure 0:Sem Nat) >>= fun l=>Pure.pure (l,h,m))
  (match (generalizing:=false) lo' with|some v=>Instr.sliceBound v h (if isM then .slice3C else .sliceB) >>= fun l=>Pure.pure (l,h,m)|none=>(Pure.pure 0:Sem Nat) >>= fun l=>Pure.pure (l,h,m)):=by
  intro B1 l1 m h isM
  cases hlo with
  | none=>exact SR.Dl (SR.pure rfl) fun _ _=>SR.pure rfl
  | some k=>exact SR.bind (Fh hP (k.mono l1) _ _) fun B2 _ a a' e=>by rw[show a'=a from e];exact SR.pure rfl
 unfold Instr.sliceBounds
 cases hmx with
 | none =>
   dsimp only
   refine SR.bind (R:=Same) (SR.pure rfl) ?_
   rintro B1 l1 _ m rfl
   cases hhi with
   | none =>
     dsimp only
     refine SR.bind (R:=Same) (SR.pure rfl) ?_
     rintro B2 l2 _ h rfl
     exact low (l1.trans l2) m h false
   | some k =>
     dsimp only
     refine SR.bind (Fh hP (k.mono l1) _ _) ?_
     rintro B2 l2 _ h rfl
     exact low (l1.trans l2) m h false
 | some k =>
   dsimp only
   refine SR.bind (Fh hP k _ _) ?_
   rintro B1 l1 _ m rfl
   cases hhi with
   | none=>exact SR.C7
   | some k2 =>
     dsimp only
     refine SR.bind (Fh hP (k2.mono l1) _ _) ?_
     rintro B2 l2 _ h rfl
     exact low (l1.trans l2) m h true
theorem Acn (t:TypeId){v v':Value}(h:VR X B v v'){lo lo' hi hi' mx mx':Option Value}(hlo:OvR X B lo lo')(hhi:OvR X B hi hi')(hmx:OvR X B mx mx') :
 SR X P P' (Ac X) B (Instr.slice t v lo hi mx) (Instr.slice t v' lo' hi' mx'):=by
 unfold Instr.slice
 refine SR.bind (SR.underlying hP t) ?_
 rintro B1 l1 d d' ⟨rfl,_⟩;have hv:=h.mono l1;have hm:mx'.isSome=mx.isSome:=by cases hmx<;>rfl
 cases d'
 case string =>
  cases hv<;>first
   | exact SR.stuck
   |(dsimp only
     rw[hm]
     refine SR.ite (fun _=>SR.C7) (fun _=>SR.bind (Es hP _ _ _ (hlo.mono l1) (hhi.mono l1) .none) fun B2 l2 a a' e=>?_)
     rw[show a'=a from e]
     exact SR.pure (.string _))
 case slice elem _ =>
  cases hv<;>first
   | exact SR.stuck
   |(dsimp only
     refine SR.bind (Es hP _ _ _ (hlo.mono l1) (hhi.mono l1) (hmx.mono l1)) fun B2 l2 a a' e=>?_
     rw[show a'=a from e]
     refine SR.bind (SR.sizeOf hP _) ?_
     rintro B3 l3 _ n rfl
     refine SR.pure ?_
     split
     ·first|exact .Iu _ _|exact .slice _ _ (Ce.mono l3 (Ce.mono l2 (by assumption)))
     ·first|exact .Iu _ _|exact .slice _ _ (Ce.add (Ce.mono l3 (Ce.mono l2 (by assumption))) _))
 case pointer arr _ =>
  dsimp only
  refine SR.bind (SR.asAddr hP hv) fun B2 l2 a a' ha=>?_
  refine SR.bind (SR.underlying hP arr) ?_
  rintro B3 l3 d d' ⟨rfl,_⟩
  cases d'<;>first
   | exact SR.stuck
   |(dsimp only
     refine SR.bind (Es hP _ _ _ (((hlo.mono l1).mono l2).mono l3) (((hhi.mono l1).mono l2).mono l3) (((hmx.mono l1).mono l2).mono l3)) fun B4 l4 a a' e=>?_
     rw[show a'=a from e]
     refine SR.bind (SR.sizeOf hP _) ?_
     rintro B5 l5 _ n rfl
     refine SR.pure ?_
     split
     ·exact .slice _ _ (Ce.mono l5 (Ce.mono l4 (Ce.mono l3 ha)))
     ·exact .slice _ _ (Ce.add (Ce.mono l5 (Ce.mono l4 (Ce.mono l3 ha))) _))
 all_goals exact SR.stuck
theorem A58 (t:TypeId){v v':Value}(h:VR X B v v'){lo lo' hi hi' mx mx':Option Value}(hlo:OvR X B lo lo')(hhi:OvR X B hi hi')(hmx:OvR X B mx mx') :
 SR X P P' (Ac X) B (Instr.sliceAt t v lo hi mx) (Instr.sliceAt t v' lo' hi' mx'):=by
 unfold Instr.sliceAt
 refine SR.bind (SR.underlying hP t) ?_
 rintro B1 l1 d d' ⟨rfl,_⟩
 cases d'<;>first
  | exact Acn hP t (h.mono l1) (hlo.mono l1) (hhi.mono l1) (hmx.mono l1)
  |(dsimp only
    refine SR.bind (SR.sureAddr (h.mono l1)) fun B2 l2 a a' ha=>?_
    refine SR.bind (Es hP _ _ _ ((hlo.mono l1).mono l2) ((hhi.mono l1).mono l2) ((hmx.mono l1).mono l2)) fun B4 l4 x x' e=>?_
    rw[show x'=x from e]
    refine SR.bind (SR.sizeOf hP _) ?_
    rintro B5 l5 _ n rfl
    refine SR.pure ?_
    split
    ·exact .slice _ _ (Ce.mono l5 (Ce.mono l4 ha))
    ·exact .slice _ _ (Ce.add (Ce.mono l5 (Ce.mono l4 ha)) _))
omit hP in
theorem A55 {v v':Value}(h:VR X B v v')(i:Nat):SR X P P' (Ac X) B (Instr.extract v i) (Instr.extract v' i):=by
 cases h<;>first
  | exact SR.stuck
  | skip
 rename_i p p' h1 h2
 unfold Instr.extract;dsimp only
 rcases AR.get (X:=X) (B:=B) (p:=p) (p':=p') ⟨h1,h2⟩ i with⟨v,v',e1,e2,e3⟩ |⟨e1,e2⟩
 ·rw[e1,e2];exact SR.pure e3
 ·rw[e1,e2];exact SR.stuck
end
end Lr
namespace Lr
section
variable {X : Cx} {P P' : Program} {B : Lk} (hP : PRel X P P')
theorem U3 {v v':Value}(h:VR X B v v'):SR X P P' Same B (Builtin.lenOf v) (Builtin.lenOf v'):=by
 cases h<;>first|exact SR.pure rfl|exact SR.stuck
include hP in
theorem Dh (size n:Nat){v v':Value}(h:VR X B v v'):SR X P P' (Oa X) B (Builtin.firstCells size n v) (Builtin.firstCells size n v'):=by
 cases h<;>first
  | exact SR.stuck
  | exact SR.pure AR.nil
  | exact SR.loadCells hP (by assumption) _
  | skip
 rename_i s
 refine SR.pure ?_
 refine⟨rfl,fun i a b ha hb=>?_⟩
 cases ha.symm.trans hb
 rw[Amv,Ami]at ha;obtain⟨x,_,rfl⟩:=ha
 exact .int _ _
def Aj5 (P:Program){α:Type}(s:Sem α):Prop:=∀V,∃h V',s.run P V=.halt h V'/\Jo h
theorem Ra {α β:Type}{R:Lk->α->β->Prop}{s:Sem α}{s':Sem β}(h:Aj5 P s):SR X P P' R B s s':=by
 intro V W _;obtain⟨e,V',h1,h2⟩:=h V
 refine⟨.inl ⟨e,V',h1,h2⟩,?_⟩
 rw[h1]
 exact Ag h2
theorem Ff {α:Type}(size n m:Nat)(b:Option Addr)(x:Value)(u:Unsupported)(hu:Jo (.unsupported u)):Aj5 P (Builtin.mayShare size n m b x >>= fun q=>if(!q)=true then(Go.mark .noRoom >>= fun _=>(Go.unsupported u:Sem α))else Go.unsupported u):=by
 have hc:∀(a:Addr) (k:Nat) (V:World),∃q,(Builtin.holdsCells a k).run P V=.ok q V:=by
  intro a k V;unfold Builtin.holdsCells;rw[run_bind'];simp only[Go.shape,Sem.run]
  cases V.shape? a.block with
  | none=>exact⟨_,rfl⟩
  | some y=>exact⟨_,rfl⟩
 have hm:∀V,∃q,(Builtin.mayShare size n m b x).run P V=.ok q V:=by
  intro V
  have hx:∃q,(match (generalizing:=false) x with
   | .slice (some c) _ _=>Builtin.holdsCells c (m*size) >>= fun w=>Pure.pure (!w || b.any (·.block == c.block))
   | _=>Pure.pure false:Sem Bool).run P V=.ok q V:=by
   split
   ·rw[run_bind'];obtain⟨q,hq⟩:=hc (by assumption) (m*size) V
    rw[hq]
    exact⟨_,rfl⟩
   ·exact⟨_,rfl⟩
  unfold Builtin.mayShare
  cases b with
  | none =>
    rw[run_bind']
    exact hx
  | some a =>
    dsimp only;rw[run_bind'];obtain⟨q,hq⟩:=hc a (n*size) V;rw[hq];dsimp only;rw[run_bind',show(Go.frozen (a.add (n / 2*size))).run P V=.ok (V.frozen? (a.add (n / 2*size))) V from rfl];dsimp only;rw[run_bind',show(Pure.pure (q && !V.frozen? (a.add (n / 2*size))):Sem Bool).run P V=.ok (q && !V.frozen? (a.add (n / 2*size))) V from rfl];dsimp only
    split
    ·exact⟨_,rfl⟩
    ·exact hx
 intro V;obtain⟨q,hq⟩:=hm V;rw[run_bind',hq]
 cases q
 ·exact⟨_,_,rfl,hu⟩
 ·exact⟨_,_,rfl,hu⟩
theorem Eu {z z':Array Value}(h:AR X B z z')(n:Nat):AR X B (Builtin.zeroCells z n) (Builtin.zeroCells z' n):=by
 unfold Builtin.zeroCells;rw[<-h.1]
 refine AR.map _ fun i _=>?_
 rw[Aqq,Aqq]
 exact h.getD _ (.bool _)
include hP
theorem Qa (elem:TypeId)(size n:Nat)(O8:Bool){x x':Value}(hx:VR X B x x'):SR X P P' (Oa X) B
 (if(!O8)=true then Builtin.firstCells size n x else if n*size=0 then Pure.pure #[]else Go.zeroValue elem >>= fun z=>Pure.pure (Builtin.zeroCells z.cells n))
 (if(!O8)=true then Builtin.firstCells size n x' else if n*size=0 then Pure.pure #[]else Go.zeroValue elem >>= fun z=>Pure.pure (Builtin.zeroCells z.cells n)):=by
 refine SR.ite (fun _=>Dh hP _ _ hx) (fun _=>SR.ite (fun _=>SR.pure AR.nil) (fun _=>SR.bind (SR.zeroValue hP elem) fun _ _ z z' hz=>SR.pure (Eu hz.cells _)))
theorem A8w (ts:Array TypeId)(t:TypeId){args args':Array Value}(h:AR X B args args'):SR X P P' (Ac X) B (Builtin.append_ ts t args) (Builtin.append_ ts t args'):=by
 unfold Builtin.append_
 cases ts[0]? with
 | none=>exact SR.stuck
 | some sType =>
 rcases h.get 0 with⟨s,s',e1,e2,hs⟩ |⟨e1,e2⟩
 case inr=>rw[e1,e2];exact SR.stuck
 rcases h.get 1 with⟨x,x',g1,g2,hx⟩ |⟨g1,g2⟩
 case inr=>rw[e1,e2,g1,g2];exact SR.stuck
 rw[e1,e2,g1,g2];dsimp only
 refine SR.bind (SR.underlying hP sType) ?_
 rintro B1 l1 d d' ⟨rfl,_⟩
 cases d'<;>first
  | exact SR.stuck
  | skip
 rename_i elem _
 have ors:(∃a a' sLen sCap,s=.slice a sLen sCap/\s'=.slice a' sLen sCap/\Rg X B a a') \/((∀a len cap,s≠.slice a len cap)):=by
  cases hs<;>first
   | exact .inl ⟨_,_,_,_,rfl,rfl,.none⟩
   | exact .inl ⟨_,_,_,_,rfl,rfl,.some (by assumption)⟩
   | exact .inr fun _ _ _ e=>(by cases e)
 rcases ors with⟨b,b',sLen,sCap,rfl,rfl,hb⟩|hn
 case inr=>cases s<;>first|exact SR.stuck|exact absurd rfl (hn _ _ _)
 have hs0:=hs;dsimp only
 refine SR.bind (SR.sizeOf hP elem) ?_
 rintro B2 l2 _ size rfl
 cases ts[1]? with
 | none =>
   dsimp only
   refine SR.bind (R:=Same) (SR.pure rfl) ?_
   rintro B3 l3 _ O8 rfl
   have app:∀{B4:Lk} (m:Nat) (q:Bool) (_:Le B B4),SR X P P' (Oa X) B4
    (if(!q)=true then Builtin.firstCells size m x else if m*size=0 then Pure.pure #[]else Go.zeroValue elem >>= fun z=>Pure.pure (Builtin.zeroCells z.cells m))
    (if(!q)=true then Builtin.firstCells size m x' else if m*size=0 then Pure.pure #[]else Go.zeroValue elem >>= fun z=>Pure.pure (Builtin.zeroCells z.cells m)):=fun m q l=>Qa hP elem size m q (hx.mono l)
   refine SR.ite (fun _=>?_) (fun _=>?_)
   ·refine SR.bind (SR.asInt (hx.mono (l1.trans (l2.trans l3)))) ?_
    rintro B4 l4 _ k rfl
    refine SR.ite (fun _=>Fx hP _) (fun _=>?_)
    refine SR.bind (SR.typeInfo hP elem) ?_
    rintro B4' l4' _ i0 ⟨rfl,_⟩
    refine SR.ite (fun _=>SR.Dl (SR.choose _) fun _ _=>Fx hP _) (fun _=>?_)
    refine SR.bind (R:=Same) (SR.pure rfl) ?_
    rintro B4'' l4'' _ n rfl
    refine SR.ite (fun _=>?_) (fun _=>?_)
    ·refine SR.bind (app _ _ (l1.trans (l2.trans (l3.trans (l4.trans (l4'.trans l4'')))))) fun B5 l5 w w' hw=>?_
     cases hb with
     | none=>exact SR.pure (.Iu _ _)
     | some ha =>
       exact SR.bind (SR.storeCells hP 0 (((ha.mono (l1.trans (l2.trans (l3.trans (l4.trans (l4'.trans l4'')))))).mono l5).add _) (AR.toList hw)) fun B6 l6 _ _ _=>SR.pure (.slice _ _ (((ha.mono (l1.trans (l2.trans (l3.trans (l4.trans (l4'.trans l4'')))))).mono l5).mono l6))
    ·refine SR.bind (SR.typeInfo hP elem) ?_
     rintro B5 l5 _ i ⟨rfl,_⟩
     refine SR.ite (fun _=>Fx hP _) (fun _=>?_)
     refine SR.bind (SR.typeInfo hP elem) ?_
     rintro B6 l6 _ i2 ⟨rfl,_⟩
     refine SR.ite (fun _=>SR.bind (R:=fun _ _ _=>False) (SR.ite (fun _=>SR.runtimePanic hP (e:=.error _) trivial) (fun _=>Ra (Ff _ _ _ _ _ _ trivial))) fun _ _ _ _ h=>h.elim) (fun _=>?_)
     refine SR.bind (SR.choose _) ?_
     rintro B7 l7 _ newCap rfl
     refine SR.bind (SR.typeInfo hP elem) ?_
     rintro B8 l8 _ i3 ⟨rfl,_⟩
     refine SR.bind (SR.askRoom _) fun B9 l9 _ _ _=>?_
     have lx:=l5.trans (l6.trans (l7.trans (l8.trans l9)))
     refine SR.bind (Dh hP _ _ ((hs0.mono (l1.trans (l2.trans (l3.trans (l4.trans (l4'.trans l4'')))))).mono lx)) fun B10 l10 old old' hold=>?_
     refine SR.bind (app _ _ (Le.trans (l1.trans (l2.trans (l3.trans (l4.trans (l4'.trans l4''))))) (lx.trans l10))) fun B11 l11 nw nw' hnw=>?_
     refine SR.bind (SR.zeroValue hP elem) fun B12 l12 z z' hz=>?_
     refine SR.bind (SR.newRow elem (AR.append (AR.append ((hold.mono l11).mono l12) (hnw.mono l12)) (Eu hz.cells _))) fun B13 l13 a a' ha=>SR.pure (.slice _ _ ha)
   ·refine SR.bind (U3 (hx.mono (l1.trans (l2.trans l3)))) ?_
    rintro B4 l4 _ n rfl
    refine SR.ite (fun _=>?_) (fun _=>?_)
    ·refine SR.bind (app _ _ (l1.trans (l2.trans (l3.trans l4)))) fun B5 l5 w w' hw=>?_
     cases hb with
     | none=>exact SR.pure (.Iu _ _)
     | some ha =>
       exact SR.bind (SR.storeCells hP 0 (((ha.mono (l1.trans (l2.trans (l3.trans l4)))).mono l5).add _) (AR.toList hw)) fun B6 l6 _ _ _=>SR.pure (.slice _ _ (((ha.mono (l1.trans (l2.trans (l3.trans l4)))).mono l5).mono l6))
    ·refine SR.bind (SR.typeInfo hP elem) ?_
     rintro B5 l5 _ i ⟨rfl,_⟩
     refine SR.ite (fun _=>Fx hP _) (fun _=>?_)
     refine SR.bind (SR.typeInfo hP elem) ?_
     rintro B6 l6 _ i2 ⟨rfl,_⟩
     refine SR.ite (fun _=>SR.bind (R:=fun _ _ _=>False) (SR.ite (fun _=>SR.runtimePanic hP (e:=.error _) trivial) (fun _=>Ra (Ff _ _ _ _ _ _ trivial))) fun _ _ _ _ h=>h.elim) (fun _=>?_)
     refine SR.bind (SR.choose _) ?_
     rintro B7 l7 _ newCap rfl
     refine SR.bind (SR.typeInfo hP elem) ?_
     rintro B8 l8 _ i3 ⟨rfl,_⟩
     refine SR.bind (SR.askRoom _) fun B9 l9 _ _ _=>?_
     have lx:=l5.trans (l6.trans (l7.trans (l8.trans l9)))
     refine SR.bind (Dh hP _ _ ((hs0.mono (l1.trans (l2.trans (l3.trans l4)))).mono lx)) fun B10 l10 old old' hold=>?_
     refine SR.bind (app _ _ (Le.trans (l1.trans (l2.trans (l3.trans l4))) (lx.trans l10))) fun B11 l11 nw nw' hnw=>?_
     refine SR.bind (SR.zeroValue hP elem) fun B12 l12 z z' hz=>?_
     refine SR.bind (SR.newRow elem (AR.append (AR.append ((hold.mono l11).mono l12) (hnw.mono l12)) (Eu hz.cells _))) fun B13 l13 a a' ha=>SR.pure (.slice _ _ ha)
 | some xType =>
   dsimp only
   refine SR.bind (SR.underlying hP xType) ?_
   rintro B2' l2' d d' ⟨rfl,_⟩
   refine SR.bind (R:=Same) (SR.pure rfl) ?_
   rintro B3 l3' _ O8 rfl;have l3:=l2'.trans l3'
   have app:∀{B4:Lk} (m:Nat) (q:Bool) (_:Le B B4),SR X P P' (Oa X) B4
    (if(!q)=true then Builtin.firstCells size m x else if m*size=0 then Pure.pure #[]else Go.zeroValue elem >>= fun z=>Pure.pure (Builtin.zeroCells z.cells m))
    (if(!q)=true then Builtin.firstCells size m x' else if m*size=0 then Pure.pure #[]else Go.zeroValue elem >>= fun z=>Pure.pure (Builtin.zeroCells z.cells m)):=fun m q l=>Qa hP elem size m q (hx.mono l)
   refine SR.ite (fun _=>?_) (fun _=>?_)
   ·refine SR.bind (SR.asInt (hx.mono (l1.trans (l2.trans l3)))) ?_
    rintro B4 l4 _ k rfl
    refine SR.ite (fun _=>Fx hP _) (fun _=>?_)
    refine SR.bind (SR.typeInfo hP elem) ?_
    rintro B4' l4' _ i0 ⟨rfl,_⟩
    refine SR.ite (fun _=>SR.Dl (SR.choose _) fun _ _=>Fx hP _) (fun _=>?_)
    refine SR.bind (R:=Same) (SR.pure rfl) ?_
    rintro B4'' l4'' _ n rfl
    refine SR.ite (fun _=>?_) (fun _=>?_)
    ·refine SR.bind (app _ _ (l1.trans (l2.trans (l3.trans (l4.trans (l4'.trans l4'')))))) fun B5 l5 w w' hw=>?_
     cases hb with
     | none=>exact SR.pure (.Iu _ _)
     | some ha =>
       exact SR.bind (SR.storeCells hP 0 (((ha.mono (l1.trans (l2.trans (l3.trans (l4.trans (l4'.trans l4'')))))).mono l5).add _) (AR.toList hw)) fun B6 l6 _ _ _=>SR.pure (.slice _ _ (((ha.mono (l1.trans (l2.trans (l3.trans (l4.trans (l4'.trans l4'')))))).mono l5).mono l6))
    ·refine SR.bind (SR.typeInfo hP elem) ?_
     rintro B5 l5 _ i ⟨rfl,_⟩
     refine SR.ite (fun _=>Fx hP _) (fun _=>?_)
     refine SR.bind (SR.typeInfo hP elem) ?_
     rintro B6 l6 _ i2 ⟨rfl,_⟩
     refine SR.ite (fun _=>SR.bind (R:=fun _ _ _=>False) (SR.ite (fun _=>SR.runtimePanic hP (e:=.error _) trivial) (fun _=>Ra (Ff _ _ _ _ _ _ trivial))) fun _ _ _ _ h=>h.elim) (fun _=>?_)
     refine SR.bind (SR.choose _) ?_
     rintro B7 l7 _ newCap rfl
     refine SR.bind (SR.typeInfo hP elem) ?_
     rintro B8 l8 _ i3 ⟨rfl,_⟩
     refine SR.bind (SR.askRoom _) fun B9 l9 _ _ _=>?_
     have lx:=l5.trans (l6.trans (l7.trans (l8.trans l9)))
     refine SR.bind (Dh hP _ _ ((hs0.mono (l1.trans (l2.trans (l3.trans (l4.trans (l4'.trans l4'')))))).mono lx)) fun B10 l10 old old' hold=>?_
     refine SR.bind (app _ _ (Le.trans (l1.trans (l2.trans (l3.trans (l4.trans (l4'.trans l4''))))) (lx.trans l10))) fun B11 l11 nw nw' hnw=>?_
     refine SR.bind (SR.zeroValue hP elem) fun B12 l12 z z' hz=>?_
     refine SR.bind (SR.newRow elem (AR.append (AR.append ((hold.mono l11).mono l12) (hnw.mono l12)) (Eu hz.cells _))) fun B13 l13 a a' ha=>SR.pure (.slice _ _ ha)
   ·refine SR.bind (U3 (hx.mono (l1.trans (l2.trans l3)))) ?_
    rintro B4 l4 _ n rfl
    refine SR.ite (fun _=>?_) (fun _=>?_)
    ·refine SR.bind (app _ _ (l1.trans (l2.trans (l3.trans l4)))) fun B5 l5 w w' hw=>?_
     cases hb with
     | none=>exact SR.pure (.Iu _ _)
     | some ha =>
       exact SR.bind (SR.storeCells hP 0 (((ha.mono (l1.trans (l2.trans (l3.trans l4)))).mono l5).add _) (AR.toList hw)) fun B6 l6 _ _ _=>SR.pure (.slice _ _ (((ha.mono (l1.trans (l2.trans (l3.trans l4)))).mono l5).mono l6))
    ·refine SR.bind (SR.typeInfo hP elem) ?_
     rintro B5 l5 _ i ⟨rfl,_⟩
     refine SR.ite (fun _=>Fx hP _) (fun _=>?_)
     refine SR.bind (SR.typeInfo hP elem) ?_
     rintro B6 l6 _ i2 ⟨rfl,_⟩
     refine SR.ite (fun _=>SR.bind (R:=fun _ _ _=>False) (SR.ite (fun _=>SR.runtimePanic hP (e:=.error _) trivial) (fun _=>Ra (Ff _ _ _ _ _ _ trivial))) fun _ _ _ _ h=>h.elim) (fun _=>?_)
     refine SR.bind (SR.choose _) ?_
     rintro B7 l7 _ newCap rfl
     refine SR.bind (SR.typeInfo hP elem) ?_
     rintro B8 l8 _ i3 ⟨rfl,_⟩
     refine SR.bind (SR.askRoom _) fun B9 l9 _ _ _=>?_
     have lx:=l5.trans (l6.trans (l7.trans (l8.trans l9)))
     refine SR.bind (Dh hP _ _ ((hs0.mono (l1.trans (l2.trans (l3.trans l4)))).mono lx)) fun B10 l10 old old' hold=>?_
     refine SR.bind (app _ _ (Le.trans (l1.trans (l2.trans (l3.trans l4))) (lx.trans l10))) fun B11 l11 nw nw' hnw=>?_
     refine SR.bind (SR.zeroValue hP elem) fun B12 l12 z z' hz=>?_
     refine SR.bind (SR.newRow elem (AR.append (AR.append ((hold.mono l11).mono l12) (hnw.mono l12)) (Eu hz.cells _))) fun B13 l13 a a' ha=>SR.pure (.slice _ _ ha)
end
end Lr
namespace Lr
section
variable {X : Cx} {P P' : Program} {B : Lk} (hP : PRel X P P')
theorem P4 {f f':Value->Value->Sem Value}(hf:∀B v v' w w',VR X B v v'->VR X B w w'->SR X P P' (Ac X) B (f v w) (f' v' w')):∀{l l':List Value} {B:Lk} {v v':Value},LR X B l l'->VR X B v v' ->
 SR X P P' (Ac X) B (l.foldlM f v) (l'.foldlM f' v')
 | [],[],_,_,_,_,h=>SR.pure h
 | w :: l,w' :: l',B,v,v',.cons h1 h2,h=>by
   simp only[List.foldlM_cons]
   exact SR.bind (hf B v v' w w' h h1) fun B2 l2 a a' ha=>P4 hf (h2.mono l2) ha
theorem Af1 {v v' w w':Value}(h:VR X B v v')(k:VR X B w w'):SR X P P' (Ac X) B (Builtin.max2 v w) (Builtin.max2 v' w'):=by
 unfold Builtin.max2
 cases h<;>cases k<;>first
  | exact SR.stuck
  | exact SR.unsupported
  | exact SR.pure (.int _ _)
  |(dsimp only
    split<;>first
     | exact SR.pure (.float _ _)
     | exact SR.Dl (SR.choose _) fun _ _=>SR.pure (.float _ _))
  |(refine SR.bind (SR.stringOp _ _ _) ?_
    rintro B2 l2 a _ ⟨rfl,ha⟩
    refine SR.bind (SR.asBool (ha B2)) ?_
    rintro B3 l3 _ b rfl
    exact SR.pure (.string _))
theorem Af2 {v v' w w':Value}(h:VR X B v v')(k:VR X B w w'):SR X P P' (Ac X) B (Builtin.min2 v w) (Builtin.min2 v' w'):=by
 unfold Builtin.min2
 cases h<;>cases k<;>first
  | exact SR.stuck
  | exact SR.unsupported
  | exact SR.pure (.int _ _)
  |(dsimp only
    split<;>first
     | exact SR.pure (.float _ _)
     | exact SR.Dl (SR.choose _) fun _ _=>SR.pure (.float _ _))
  |(refine SR.bind (SR.stringOp _ _ _) ?_
    rintro B2 l2 a _ ⟨rfl,ha⟩
    refine SR.bind (SR.asBool (ha B2)) ?_
    rintro B3 l3 _ b rfl
    exact SR.pure (.string _))
theorem Ai6 (ts:Array TypeId)(t:TypeId){p p':Array Value}(h:AR X B p p'):SR X P P' (Ac X) B (Builtin.max_ ts t p) (Builtin.max_ ts t p'):=by
 unfold Builtin.max_;have:=h.toList;generalize p.toList=l at this;generalize p'.toList=l' at this
 cases this with
 | nil=>exact SR.stuck
 | cons h1 h2=>exact P4 (fun B v v' w w' a b=>Af1 a b) h2 h1
theorem Ai7 (ts:Array TypeId)(t:TypeId){p p':Array Value}(h:AR X B p p'):SR X P P' (Ac X) B (Builtin.min_ ts t p) (Builtin.min_ ts t p'):=by
 unfold Builtin.min_;have:=h.toList;generalize p.toList=l at this;generalize p'.toList=l' at this
 cases this with
 | nil=>exact SR.stuck
 | cons h1 h2=>exact P4 (fun B v v' w w' a b=>Af2 a b) h2 h1
theorem AR.ind {p p':Array Value}(h:AR X B p p'):∃l l',p=l.toArray/\p'=l'.toArray/\LR X B l l':=⟨p.toList,p'.toList,rfl,rfl,h.toList⟩
theorem Af3 (ts:Array TypeId)(t:TypeId){p p':Array Value}(h:AR X B p p'):SR X P P' (Ac X) B (Builtin.real_ ts t p) (Builtin.real_ ts t p'):=by
 obtain⟨l,l',rfl,rfl,hl⟩:=h.ind;unfold Builtin.real_
 cases hl with
 | nil=>exact SR.stuck
 | cons h1 h2=>cases h2 with
   | nil=>cases h1<;>first|exact SR.stuck|exact SR.pure (.float _ _)
   | cons _ _=>cases h1<;>exact SR.stuck
theorem Af0 (ts:Array TypeId)(t:TypeId){p p':Array Value}(h:AR X B p p'):SR X P P' (Ac X) B (Builtin.imag_ ts t p) (Builtin.imag_ ts t p'):=by
 obtain⟨l,l',rfl,rfl,hl⟩:=h.ind;unfold Builtin.imag_
 cases hl with
 | nil=>exact SR.stuck
 | cons h1 h2=>cases h2 with
   | nil=>cases h1<;>first|exact SR.stuck|exact SR.pure (.float _ _)
   | cons _ _=>cases h1<;>exact SR.stuck
theorem A53 (ts:Array TypeId)(t:TypeId){p p':Array Value}(h:AR X B p p'):SR X P P' (Ac X) B (Builtin.complex_ ts t p) (Builtin.complex_ ts t p'):=by
 obtain⟨l,l',rfl,rfl,hl⟩:=h.ind;unfold Builtin.complex_
 cases hl with
 | nil=>exact SR.stuck
 | cons h1 h2=>cases h2 with
   | nil=>cases h1<;>exact SR.stuck
   | cons h3 h4=>cases h4 with
     | nil=>cases h1<;>cases h3<;>first|exact SR.stuck|exact SR.ite (fun _=>SR.pure (.complex _ _ _)) (fun _=>SR.stuck)
     | cons _ _=>cases h1<;>cases h3<;>exact SR.stuck
include hP
theorem Acb (ts:Array TypeId)(t:TypeId){p p':Array Value}(h:AR X B p p'):SR X P P' (Ac X) B (Builtin.close_ ts t p) (Builtin.close_ ts t p'):=by
 obtain⟨l,l',rfl,rfl,hl⟩:=h.ind;unfold Builtin.close_
 cases hl with
 | nil=>exact SR.stuck
 | cons h1 h2=>cases h2 with
   | cons _ _=>cases h1<;>exact SR.stuck
   | nil =>
     cases h1<;>first
      | exact SR.stuck
      | exact SR.runtimePanic hP (e:=.plain _) trivial
      | skip
     rename_i r r' hr
     dsimp only
     refine SR.bind (SR.getObj hr) fun B2 l2 o o' ho=>?_
     cases ho<;>first
      | exact SR.stuck
      | skip
     refine SR.ite (fun _=>SR.bind (R:=fun _ _ _=>False) (SR.runtimePanic hP (e:=.plain _) trivial) fun _ _ _ _ h=>h.elim) (fun _=>?_)
     exact SR.bind (SR.setObj (l2 _ _ hr) (.chan _ _ _ _ _ (by assumption))) fun B3 l3 _ _ _=>SR.pure Du
theorem Ai5 (ts:Array TypeId)(t:TypeId){p p':Array Value}(h:AR X B p p'):SR X P P' (Ac X) B (Builtin.len_ ts t p) (Builtin.len_ ts t p'):=by
 unfold Builtin.len_
 cases ts[0]? with
 | none=>exact SR.stuck
 | some xt =>
 rcases h.get 0 with⟨s,s',e1,e2,hs⟩ |⟨e1,e2⟩
 case inr=>rw[e1,e2];exact SR.stuck
 rw[e1,e2];dsimp only
 refine SR.bind (SR.underlying hP xt) ?_
 rintro B1 l1 d d' ⟨rfl,_⟩;have hv:=hs.mono l1
 cases d'<;>cases hv<;>first
  | exact SR.stuck
  | exact SR.pure (.int _ _)
  |(dsimp only
    refine SR.bind (SR.underlying hP _) ?_
    rintro B2 l2 d d' ⟨rfl,_⟩
    cases d'<;>first|exact SR.stuck|exact SR.pure (.int _ _))
  |(dsimp only
    refine SR.bind (SR.getObj (by assumption)) fun B2 l2 o o' ho=>?_
    cases ho<;>first
     | exact SR.stuck
     |(rename_i ha;dsimp only;rw[ha.1];exact SR.pure (.int _ _)))
theorem Ai4 (ts:Array TypeId)(t:TypeId){p p':Array Value}(h:AR X B p p'):SR X P P' (Ac X) B (Builtin.cap_ ts t p) (Builtin.cap_ ts t p'):=by
 unfold Builtin.cap_
 cases ts[0]? with
 | none=>exact SR.stuck
 | some xt =>
 rcases h.get 0 with⟨s,s',e1,e2,hs⟩ |⟨e1,e2⟩
 case inr=>rw[e1,e2];exact SR.stuck
 rw[e1,e2];dsimp only
 refine SR.bind (SR.underlying hP xt) ?_
 rintro B1 l1 d d' ⟨rfl,_⟩;have hv:=hs.mono l1
 cases d'<;>cases hv<;>first
  | exact SR.stuck
  | exact SR.pure (.int _ _)
  |(dsimp only
    refine SR.bind (SR.underlying hP _) ?_
    rintro B2 l2 d d' ⟨rfl,_⟩
    cases d'<;>first|exact SR.stuck|exact SR.pure (.int _ _))
  |(dsimp only
    refine SR.bind (SR.getObj (by assumption)) fun B2 l2 o o' ho=>?_
    cases ho<;>first
     | exact SR.stuck
     | exact SR.pure (.int _ _))
omit hP in
theorem Qe {r r':Nat}(k:B r r')(d:¬X.D r):SR X P P' (fun B' x x'=>(x=none/\x'=none)\/∃a a' l,x=some (a,l)/\x'=some (a',l)/\Ce X B' a a') B (numberAt r) (numberAt r'):=by
 unfold numberAt
 refine SR.bind (SR.shape k d) ?_
 intro B1 l1 s s' hs;rw[hs.some]
 refine SR.ite (fun _=>SR.pure (.inl ⟨rfl,rfl⟩)) (fun _=>?_)
 refine SR.bind (SR.getObj (l1 _ _ k)) fun B2 l2 o o' ho=>?_
 cases ho<;>first
  | exact SR.pure (.inl ⟨rfl,rfl⟩)
  | exact SR.pure (.inr ⟨_,_,_,rfl,rfl,by assumption⟩)
omit hP in
theorem Bb {a a':Addr}(h:Ce X B a a'):SR X P P' (fun B' x x'=>x'.2=x.2/\Ce X B' x.1 x'.1) B (behindNumber a) (behindNumber a'):=by
 unfold behindNumber
 refine SR.bind (Qe h.1.1 h.1.2) ?_
 rintro B1 l1 x x' (⟨rfl,rfl⟩ |⟨b,b',l,rfl,rfl,hb⟩)
 ·exact SR.pure ⟨rfl,h.mono l1⟩
 ·exact SR.pure ⟨rfl,hb⟩
omit hP in
theorem A2a {a a':Addr}(h:Ce X B a a')(l:Bool):SR X P P' (Ac X) B (asNumber a l) (asNumber a' l):=by
 unfold asNumber
 exact SR.bind (SR.newObj (.number l h)) fun B1 _ r r' hr=>SR.pure (.ptr ⟨⟨hr.1,hr.2.1⟩,⟨rfl,Aof hr.2.2⟩,rfl⟩)
theorem PRel.cellOfByte:∀(d:Nat) (t:TypeId) (off:Nat),cellOfByte P' d t off=cellOfByte P d t off
 | 0,_,_=>rfl
 | d+1,t,off=>by
   unfold Go.cellOfByte;rw[hP.underlying];simp only[hP.cellsOf,hP.bytesOf,PRel.cellOfByte d]
omit hP in
theorem Of {p:Program}{d:Nat}{e:TypeId}{c c' off o:Nat}{n:Int}(hc:c<=c')(h:Go.cellAtBytes p d e c off n=some o):Go.cellAtBytes p d e c' off n=some o:=by
 unfold Go.cellAtBytes at h ⊢;dsimp only at h ⊢
 by_cases h0:p.cellsOf e=0\/p.bytesOf e=0
 ·rw[Amo (by simpa using h0)]at h;cases h
 ·rw[Amd (by simpa using h0)]at h ⊢
  cases hb:Go.byteOfCell p d e (off % p.cellsOf e)with
  | none=>rw[hb]at h;cases h
  | some here =>
    rw[hb]at h;simp only[Option.bind_eq_bind,Ao9]at h ⊢;have hle:c*p.bytesOf e<=c'*p.bytesOf e:=Am3 _ hc;generalize Int.ofNat (off / p.cellsOf e*p.bytesOf e+here)+n=th at h ⊢
    by_cases h1:th<0\/Int.ofNat (c*p.bytesOf e)<=th
    ·rw[Amo (by simpa using h1)]at h;cases h
    ·rw[Amd (by simpa using h1)]at h
     rw[Amd (by simp at h1 ⊢;omega)]
     exact h
theorem PRel.cellAtBytes (d:Nat)(e:TypeId)(c off:Nat)(n:Int):cellAtBytes P' d e c off n=cellAtBytes P d e c off n:=by
 unfold Go.cellAtBytes;simp only[hP.cellsOf,hP.bytesOf,hP.cellOfByte,hP.byteOfCell]
theorem Et (ts:Array TypeId)(t:TypeId){x x' y y':Value}(hx:VR X B x x')(hy:VR X B y y'):SR X P P' (Ac X) B (Builtin.unsafeAdd_ ts t #[x,y]) (Builtin.unsafeAdd_ ts t #[x',y']):=by
 unfold Builtin.unsafeAdd_
 have ors:(∃a a',x=.pointer a/\x'=.pointer a'/\Rg X B a a') \/(∀a,x≠.pointer a):=by
  cases hx<;>first
   | exact .inl ⟨_,_,rfl,rfl,.none⟩
   | exact .inl ⟨_,_,rfl,rfl,.some (by assumption)⟩
   | exact .inr fun _ e=>(by cases e)
 rcases ors with⟨a,a',rfl,rfl,ha⟩|hn
 case inr=>cases x<;>first|exact SR.stuck|exact absurd rfl (hn _)
 dsimp only
 refine SR.bind (SR.asInt hy) ?_
 rintro B1 l1 _ n rfl
 cases ha with
 | none =>
   refine SR.ite (fun _=>SR.unsupported) (fun _=>SR.ite (fun _=>SR.A9) (fun _=>SR.unsupported))
 | some ha =>
   have ha1:=ha.mono l1
   refine SR.ite (fun _=>?_) (fun _=>SR.ite (fun _=>SR.A9) (fun hneg=>?_))
   ·refine SR.bind (Kx ha1) ?_
    rintro B2 l2 _ _ (⟨rfl,rfl⟩ |⟨b,b',u,rfl,rfl,_⟩)
    ·exact SR.pure (.ptr (ha1.mono l2))
    ·exact SR.unsupported
   ·refine SR.bind (SR.shape ha1.1.1 ha1.1.2) ?_
    rintro B2 l2 s s' (⟨rfl,rfl⟩ |⟨e,e',c,c',rfl,rfl,hcc,ht⟩)
    ·exact SR.unsupported
    ·dsimp only
     refine SR.bind SR.program ?_
     rintro B3 l3 p p' ⟨rfl,rfl⟩
     rcases ht with⟨_,_,hz⟩ |⟨_,rfl,hm⟩
     ·have hno:∀(d:Nat) (c off:Nat) (n:Int),cellAtBytes p d e c off n=none:=fun d c off n=>by
       unfold Go.cellAtBytes Program.cellsOf;rw[hP.zed e hz]
       rfl
      rw[hno]
      exact SR.unsupported
     rw[hP.cellAtBytes,hP.depth,hP.cellsOf,ha.2.1.1]
     cases hx:cellAtBytes p p.depth _ (c / p.cellsOf _) _ n with
     | none=>exact SR.unsupported
     | some off =>
       rw[Of (Nat.div_le_div_right hcc) hx]
       refine SR.pure (.ptr ⟨((ha1.mono l2).mono l3).1,⟨rfl,?_⟩,ha.2.2⟩)
       rcases hm with hm|hm
       ·rw[hm];exact Amu _
       ·exact hP.mono _ _ _ hm _ _ _ ha.2.1.2 (by omega) hx
end
end Lr
namespace Lr
def Ly (P:Program):Nat->TypeId->Bool
 | 0,_=>false
 | k+1,t=>match P.underlying t with
   | some .bool|some (.int _)|some (.float _)|some (.complex _)|some .string=>true
   | some (.array _ e)=>Ly P k e
   | some (.struct fs)=>fs.all fun f=>Ly P k f.type
   | _=>false
section
variable {X : Cx} {P P' : Program} {B : Lk} (hP : PRel X P P')
theorem Ka {ι σ τ:Type}{R:Lk->σ->τ->Prop}(mono:∀B B' a b,Le B B'->R B a b->R B' a b){f:ι->σ->Sem (ForInStep σ)}{f':ι->τ->Sem (ForInStep τ)}:∀(l:List ι)
 (_:∀x∈l,∀B a b,R B a b->SR X P P' (fun B' r r'=>(∃a b,r=.done a/\r'=.done b/\R B' a b)\/∃a b,r=.yield a/\r'=.yield b/\R B' a b) B (f x a) (f' x b)) {B:Lk} {a:σ} {b:τ} (_:R B a b),
 SR X P P' R B (forIn l a f) (forIn l b f')
 | [],_,_,_,_,h=>by simp only[List.forIn_nil];exact SR.pure h
 | x :: l,hf,B,a,b,h=>by
   simp only[List.forIn_cons]
   refine SR.bind (hf x (by simp) B a b h) ?_
   rintro B1 l1 r r' (⟨c,d,rfl,rfl,hc⟩ |⟨c,d,rfl,rfl,hc⟩)
   ·exact SR.pure hc
   ·exact Ka mono l (fun y hy=>hf y (by simp[hy])) hc
theorem Ce.beq {B:Lk}(hfn:∀b b₁ b₂,B b b₁->B b b₂->b₁=b₂)(hinj:∀b₁ b₂ b',B b₁ b'->B b₂ b'->b₁=b₂){a a' b b':Addr}(h:Ce X B a a')(k:Ce X B b b') :
 (a'.block == b'.block)=(a.block == b.block) /\(a' == b')=(a == b):=by
 have e:a'.block=b'.block↔a.block=b.block:=⟨fun e=>hinj _ _ _ h.1.1 (e▸k.1.1),fun e=>hfn _ _ _ h.1.1 (e▸k.1.1)⟩
 obtain⟨ab,ao,az⟩:=a;obtain⟨bb,bo,bs⟩:=b;obtain⟨ab',ao',az'⟩:=a';obtain⟨bb',bo',bs'⟩:=b';obtain⟨_,⟨rfl,_⟩,rfl⟩:=h;obtain⟨_,⟨rfl,_⟩,rfl⟩:=k;dsimp only at e ⊢
 constructor
 ·rw[Aqa];simpa using e
 ·rw[Aqa];simp[e]
include hP in
theorem Acf (t:TypeId){B:Lk}{a a' b b':Addr}(ha:Ce X B a a')(hb:Ce X B b b'):SR X P P' Same B
 (behindNumber a >>= fun x=>behindNumber b >>= fun y=>match (x.1,y.1)with
  | (a,b)=>Go.program >>= fun p=>if(a.block == b.block && decide (a.block<p.globals.size))=true then byteOf a >>= fun m=>byteOf b >>= fun n=>Pure.pure (m == n)
    else Go.typeInfo t >>= fun i=>match i.desc with
     | .named "sync.copyChecker" _=>if(a == b)=true then Pure.pure true else Go.unsupported .addressObserved
     | _=>Go.unsupported .addressObserved)
 (behindNumber a' >>= fun x=>behindNumber b' >>= fun y=>match (x.1,y.1)with
  | (a,b)=>Go.program >>= fun p=>if(a.block == b.block && decide (a.block<p.globals.size))=true then byteOf a >>= fun m=>byteOf b >>= fun n=>Pure.pure (m == n)
    else Go.typeInfo t >>= fun i=>match i.desc with
     | .named "sync.copyChecker" _=>if(a == b)=true then Pure.pure true else Go.unsupported .addressObserved
     | _=>Go.unsupported .addressObserved):=by
 refine SR.bind (Bb ha) ?_
 rintro B1 l1 ⟨c,q⟩ ⟨c',q'⟩ ⟨_,hc⟩
 refine SR.bind (Bb (hb.mono l1)) ?_
 rintro B2 l2 ⟨d,r⟩ ⟨d',r'⟩ ⟨_,hd⟩;dsimp only at hc hd ⊢;have hc:=hc.mono l2
 refine SR.bind SR.program ?_
 rintro B3 l3 p p' ⟨rfl,rfl⟩
 refine SR.A67 fun hfn hinj hlow=>?_
 have hc:=hc.mono l3;have hd:=hd.mono l3;obtain⟨e1,e2⟩:=Ce.beq hfn hinj hc hd;rw[e1,show p'.globals=p.globals by rw[hP.Gb]]
 have hg:(decide (c'.block<p.globals.size))=decide (c.block<p.globals.size):=by
  rw[<-hP.nG]
  exact decide_eq_decide.2 (hlow _ _ hc.1.1).symm
 rw[hg]
 refine SR.ite (fun hcond=>?_) (fun _=>?_)
 ·have hcond:c.block=d.block/\c.block<p.globals.size:=by simpa using hcond
  have hcN:c.block<X.N:=by rw[hP.nG];exact hcond.2
  refine SR.bind (I8 hP hc (.inr hcN)) ?_
  rintro B4 l4 _ m rfl
  refine SR.bind (I8 hP (hd.mono l4) (.inr (by rw[<-hcond.1];exact hcN))) ?_
  rintro B5 l5 _ n rfl
  exact SR.pure rfl
 ·refine SR.bind (SR.typeInfo hP t) ?_
  rintro B4 l4 _ i ⟨rfl,_⟩;rw[e2]
  split
  ·exact SR.ite (fun _=>SR.pure rfl) (fun _=>SR.unsupported)
  ·exact SR.unsupported
def Rst (B:Lk)(B':Lk)(a b:Option Bool×Unit):Prop:=b=a/\Le B B'
include hP
theorem Ace (d:Nat)(t:TypeId){ik:IntKind}(ht:P.underlying t=some (.int ik)){x x' y y':Value}(hx:VR X B x x')(hy:VR X B y y'):SR X P P' Same B (Op.equalIn (d+1) t x y) (Op.equalIn (d+1) t x' y'):=by
 unfold Op.equalIn
 refine SR.bind (SR.underlying hP t) ?_
 rintro B1 l1 _ td ⟨rfl,hd⟩
 cases ht.symm.trans hd
 have hx:=hx.mono l1;have hy:=hy.mono l1
 cases hx<;>cases hy<;>first
  | exact SR.stuck
  | exact SR.unsupported
  | exact SR.ite (fun _=>SR.pure rfl) (fun _=>SR.stuck)
  |(rename_i n _ _ _
    match n with
    | 0=>first|exact SR.pure rfl|exact SR.unsupported
    | Int.ofNat (m+1)=>exact SR.unsupported
    | Int.negSucc m=>exact SR.unsupported)
  |(rename_i n
    match n with
    | 0=>first|exact SR.pure rfl|exact SR.unsupported
    | Int.ofNat (m+1)=>exact SR.unsupported
    | Int.negSucc m=>exact SR.unsupported)
  | exact Acf hP t (by assumption) (by assumption)
theorem Kw (d:Nat)(t:TypeId){td:TypeDesc}(ht:P.underlying t=some td)(hf:td=.bool \/(∃k,td=.float k) \/(∃k,td=.complex k)\/td=.string){x x' y y':Value}(hx:VR X B x x')(hy:VR X B y y') :
 SR X P P' Same B (Op.equalIn (d+1) t x y) (Op.equalIn (d+1) t x' y'):=by
 unfold Op.equalIn
 refine SR.bind (SR.underlying hP t) ?_
 rintro B1 l1 _ td2 ⟨rfl,hd⟩
 cases ht.symm.trans hd
 have hx:=hx.mono l1;have hy:=hy.mono l1
 rcases hf with rfl |⟨k,rfl⟩ |⟨k,rfl⟩|rfl<;>cases hx<;>cases hy<;>first
  | exact SR.stuck
  | exact SR.pure rfl
  | exact SR.ite (fun _=>SR.pure rfl) (fun _=>SR.stuck)
theorem PRel.alikeButTags:∀(n:Nat) (t u:TypeId),P'.alikeButTags n t u=P.alikeButTags n t u
 | 0,_,_=>rfl
 | n+1,t,u=>by
   unfold Program.alikeButTags;rw[hP.Gb];simp only[PRel.alikeButTags n]
theorem PRel.stoodInHeld (t:TypeId):P'.stoodInHeld t=P.stoodInHeld t:=by
 unfold Program.stoodInHeld Program.stoodInAs;rw[hP.underlying,show P'.depth=P.depth by unfold Program.depth;rw[hP.Gb],show P'.underlyingId=P.underlyingId by funext t;unfold Program.underlyingId;rw[hP.Gb],hP.Gb]
 simp only[hP.alikeButTags]
theorem U2:∀(k d:Nat) (t:TypeId) {B:Lk} {x x' y y':Value},Ly P k t=true->VR X B x x'->VR X B y y'->SR X P P' Same B (Op.equalIn d t x y) (Op.equalIn d t x' y'):=by
 intro k
 induction k with
 | zero=>intro d t B x x' y y' h;simp[Ly]at h
 | succ k ih =>
   intro d t B x x' y y' h hx hy
   cases d with
   | zero=>exact SR.unsupported
   | succ d =>
   unfold Ly at h
   cases hd:P.underlying t with
   | none=>rw[hd]at h;simp at h
   | some td =>
   rw[hd]at h
   cases td<;>simp only[Amk]at h
   case bool=>exact Kw hP d t hd (.inl rfl) hx hy
   case int ik=>exact Ace hP d t hd hx hy
   case float k=>exact Kw hP d t hd (.inr (.inl ⟨_,rfl⟩)) hx hy
   case complex k=>exact Kw hP d t hd (.inr (.inr (.inl ⟨_,rfl⟩))) hx hy
   case string=>exact Kw hP d t hd (.inr (.inr (.inr rfl))) hx hy
   case struct fs =>
    rw[Amr]at h;unfold Op.equalIn
    refine SR.bind (SR.underlying hP t) ?_
    rintro B1 l1 _ td2 ⟨rfl,hd2⟩
    cases hd.symm.trans hd2
    have hx:=hx.mono l1;have hy:=hy.mono l1
    cases hx<;>cases hy<;>first
     | exact SR.stuck
     | skip
    rename_i p p' h1 h2 q q' h3 h4
    have ha:AR X B1 p p':=⟨h1,h2⟩;have hb:AR X B1 q q':=⟨h3,h4⟩;dsimp only
    refine SR.bind SR.program ?_
    rintro B2 l2 _ _ ⟨rfl,rfl⟩;rw[hP.stoodInHeld]
    refine SR.ite (fun _=>SR.A9) (fun _=>?_)
    rw[<-Ap7,<-Ap7]
    refine SR.bind (R:=Rst B1) (Ka (fun B B' a b l (hr:Rst B1 B a b)=>⟨hr.1,hr.2.trans l⟩) _ ?_ (show Rst B1 B2 _ _ from⟨rfl,l2⟩)) ?_
    ·rintro f hf B3 a _ ⟨rfl,l3⟩;have hf:=h f (Array.mem_toList_iff.1 hf)
     refine SR.ite (fun _=>?_) (fun _=>SR.pure (.inr ⟨_,_,rfl,rfl,rfl,l3⟩))
     refine SR.bind (SR.part hP f.type (ha.mono l3) _) fun B4 l4 v v' hv=>?_
     refine SR.bind (SR.part hP f.type ((hb.mono l3).mono l4) _) fun B5 l5 w w' hw=>?_
     refine SR.bind (ih d f.type hf (hv.mono l5) hw) ?_
     rintro B6 l6 _ r rfl;have lx:=l3.trans (l4.trans (l5.trans l6))
     exact SR.ite (fun _=>SR.pure (.inl ⟨_,_,rfl,rfl,rfl,lx⟩)) (fun _=>SR.pure (.inr ⟨_,_,rfl,rfl,rfl,lx⟩))
    ·rintro B3 l3 ⟨a,u⟩ _ ⟨rfl,_⟩
     cases a<;>exact SR.pure rfl
   case array n e =>
    unfold Op.equalIn
    refine SR.bind (SR.underlying hP t) ?_
    rintro B1 l1 _ td2 ⟨rfl,hd2⟩
    cases hd.symm.trans hd2
    have hx:=hx.mono l1;have hy:=hy.mono l1
    cases hx<;>cases hy<;>first
     | exact SR.stuck
     | skip
    rename_i p p' h1 h2 q q' h3 h4
    have ha:AR X B1 p p':=⟨h1,h2⟩;have hb:AR X B1 q q':=⟨h3,h4⟩;dsimp only
    refine SR.bind (SR.sizeOf hP e) ?_
    rintro B2 l2 _ m rfl;rw[Apd,Apd]
    refine SR.bind (R:=Rst B1) (Ka (fun B B' a b l (hr:Rst B1 B a b)=>⟨hr.1,hr.2.trans l⟩) _ ?_ (show Rst B1 B2 _ _ from⟨rfl,l2⟩)) ?_
    ·rintro i _ B3 a _ ⟨rfl,l3⟩
     refine SR.bind (SR.part hP e (ha.mono l3) _) fun B4 l4 v v' hv=>?_
     refine SR.bind (SR.part hP e ((hb.mono l3).mono l4) _) fun B5 l5 w w' hw=>?_
     refine SR.bind (ih d e h (hv.mono l5) hw) ?_
     rintro B6 l6 _ r rfl;have lx:=l3.trans (l4.trans (l5.trans l6))
     exact SR.ite (fun _=>SR.pure (.inl ⟨_,_,rfl,rfl,rfl,lx⟩)) (fun _=>SR.pure (.inr ⟨_,_,rfl,rfl,rfl,lx⟩))
    ·rintro B3 l3 ⟨a,u⟩ _ ⟨rfl,_⟩
     cases a<;>exact SR.pure rfl
end
end Lr
end Go.Proofs.YtjaehldnlamgkaaGreatDoor
