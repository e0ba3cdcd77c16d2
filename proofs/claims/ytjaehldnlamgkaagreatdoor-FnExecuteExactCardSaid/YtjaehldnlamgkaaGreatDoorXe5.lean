import Derived.Test.YtjaehldnlamgkaaGreatDoorXe4
import Derived.Test.YtjaehldnlamgkaaGreatDoorXe0
set_option linter.all false
set_option maxHeartbeats 16000000
set_option maxRecDepth 100000
namespace Go.Proofs.YtjaehldnlamgkaaGreatDoor
namespace Lr
inductive Xf (X:Cx)(z:Prop)(B:Lk):Next->Next->Prop
 | value {v v':Value}:VR X B v v'->Xf X z B (.value v) (.value v')
 | skip:Xf X z B .skip .skip
 | enter (f:FuncId) {p p':Array Value}:X.C f ->(X.T f->z/\X.Ar f p.size)->AR X B p p'->Xf X z B (.enter f p) (.enter f p')
 | round {l l':Nat} (f:FuncId) {p p':Array Value} {a b a' b':Code}:B l l'->AR X B p p'->CdN X a a'->CdN X b b'->Xf X z B (.round l f p a b) (.round l' f p' a' b')
 | defer {d d':Deferred}:X.Dn->DfR X B d d'->Xf X z B (.defer d) (.defer d')
 | recover:z->X.Dn->Xf X z B .recover .recover
abbrev NxR (X:Cx):Lk->Next->Next->Prop:=Xf X True
structure A3a (X:Cx)(P P':Program):Prop extends PRel X P P' where
 size:P'.funcs.size=P.funcs.size
 A6h:P.follows .rangeFuncRecover=true
 funcs:∀f,(P.funcs[f]?=none/\P'.funcs[f]?=none)\/∃fn fn',P.funcs[f]?=some fn/\P'.funcs[f]?=some fn'/\fn'.name=fn.name/\fn'.results=fn.results /\(X.C f->¬X.T f->fn'.ntmps=fn.ntmps) /\
  (X.C f->fn.name ≠ "runtime.NumGoroutine" /\ ((fn.body.isNone=false/\fn'.body.isNone=false /\(¬X.T f->∃c c',fn.body=some c/\fn'.body=some c'/\CdR X c c')) \/(fn.body.isNone=true/\fn'.body=fn.body/\∀z B p p',AR X B p p'->SR X P P' (Xf X z) B (callFunc f p) (callFunc f p'))))
section
variable {X : Cx} {P P' : Program} {B : Lk} {z : Prop} (hF : A3a X P P')
theorem Ah {s s':Sem Value}(h:SR X P P' (Ac X) B s s'):SR X P P' (Xf X z) B (do pure (.value (<-s))) (do pure (.value (<-s'))):=SR.bind h fun _ _ _ _ hv=>SR.pure (.value hv)
theorem Aci {s s':Sem Unit}(h:SR X P P' Ql B s s'):SR X P P' (Xf X z) B (do s;pure .skip) (do s';pure .skip):=SR.bind h fun _ _ _ _ _=>SR.pure .skip
include hF
theorem K9 (f:FuncId)(hc:X.C f){p p':Array Value}(ha:X.T f->z/\X.Ar f p.size)(h:AR X B p p'):SR X P P' (Xf X z) B (callFunc f p) (callFunc f p'):=by
 rcases hF.funcs f with⟨e1,e2⟩ |⟨fn,fn',e1,e2,hn,_,_,hb⟩
 ·unfold callFunc
  refine SR.bind SR.program ?_
  rintro B1 l1 q q' ⟨rfl,rfl⟩;rw[e1,e2]
  exact SR.stuck
 obtain⟨hng,hb⟩:=hb hc
 rcases hb with⟨b1,b2,_⟩ |⟨_,_,hx⟩
 ·unfold callFunc
  refine SR.bind SR.program ?_
  rintro B1 l1 q q' ⟨rfl,rfl⟩;rw[e1,e2];dsimp only;rw[hn,b1,b2]
  refine SR.ite (fun x=>?_) (fun _=>?_)
  ·simp_all
  exact SR.pure (.enter f hc ha (h.mono l1))
 ·exact hx z B p p' h
omit hF in
theorem Acp {l l':Nat}(k:B l l'){p p':Array Value}(h:AR X B p p'):SR X P P' (Xf X z) B (Instr.yield l p) (Instr.yield l' p'):=by
 unfold Instr.yield Instr.getLoop;rw[bind_assoc,bind_assoc]
 refine SR.bind (SR.getObj k) fun B1 l1 o o' ho=>?_
 cases ho<;>first
  | exact SR.C7
  | skip
 rename_i r r' hr
 dsimp only;rw[pure_bind,pure_bind,hr.params,<-h.1,hr.fn]
 refine SR.ite (fun _=>SR.C7) (fun _=>SR.pure (.round _ (l1 _ _ k) ?_ hr.assign hr.body))
 have hz:∀(xs:List Tmp) (ys ys':List Value) (c c':Array Value),LR X B1 ys ys'->AR X B1 c c' ->
  AR X B1 ((xs.zip ys).foldl (fun tmps (x:Tmp×Value)=>tmps.setIfInBounds x.1 x.2) c) ((xs.zip ys').foldl (fun tmps (x:Tmp×Value)=>tmps.setIfInBounds x.1 x.2) c'):=by
  intro xs
  induction xs with
  | nil=>intro ys ys' c c' _ hc;simpa using hc
  | cons x xs ih =>
    intro ys ys' c c' hy hc
    cases hy with
    | nil=>simpa using hc
    | cons h1 h2 =>
      simp only[List.zip_cons_cons,List.foldl_cons]
      exact ih _ _ _ _ h2 (hc.set _ h1)
 rw[<-Aqf,<-Aqf,Array.toList_zip,Array.toList_zip]
 exact hz _ _ _ _ _ (h.mono l1).toList hr.tmps
theorem A51 (b:Builtin)(hb:A37 b=true)(ts:Array TypeId)(t:TypeId)(cs:Array Bool){p p':Array Value}(h:AR X B p p'):SR X P P' (Xf X z) B (builtin b ts t cs p) (builtin b ts t cs p'):=by
 unfold builtin
 cases b<;>simp only[A37,Amk]at hb<;>first
  | exact Ah (A8w hF.toPRel _ _ h)
  | exact Ah (Ai4 hF.toPRel _ _ h)
  | exact Ah (Acb hF.toPRel _ _ h)
  | exact Ah (A53 _ _ h)
  | exact Ah (Af0 _ _ h)
  | exact Ah (Ai5 hF.toPRel _ _ h)
  | exact Ah (Ai6 _ _ h)
  | exact Ah (Ai7 _ _ h)
  | exact Ah (Af3 _ _ h)
  | exact Ah (Aez hF.toPRel _ _ h)
omit hF in
theorem Mq {v v':Value}(h:VR X B v v'){p p':Array Value}(hp:AR X B p p'):SR X P P' (fun B' d d'=>DfR X B' d d') B (Deferred.ofValue v p) (Deferred.ofValue v' p'):=by
 cases h<;>first
  | exact SR.stuck
  | exact SR.pure ⟨.nil,hp⟩
  | skip
 rename_i f f' a a' q q' h1 h2 h3 h4 h5
 exact SR.pure ⟨.fn h1 ⟨h4,h5⟩,AR.append ⟨h2,h3⟩ hp⟩
end
end Lr
namespace Lr
structure Agh (X:Cx)(P P':Program):Prop where
 method:∀name,X.M name->∀(n:Nat) (t:TypeId) (B:Lk) (v v':Value),VR X B v v'->SR X P P' (fun B' (x x':FuncId×Value)=>(x'.1=x.1 /\((X.C x.1/\¬X.T x.1)\/∀z B p s',SR X P P' (Xf X z) B (callFunc x.1 p) s'))/\VR X B' x.2 x'.2) B (Go.method n t v name) (Go.method n t v' name)
 nilAhead:∀name,X.M name->∀(n:Nat) (t:TypeId) (B:Lk) (v v':Value),VR X B v v'->SR X P P' Same B (Go.nilAhead n t v name) (Go.nilAhead n t v' name)
 typeAssert:X.As->∀(t a:TypeId) (B:Lk) (v v':Value) (q:Bool),VR X B v v'->SR X P P' (Ac X) B (Instr.typeAssert v t a q) (Instr.typeAssert v' t a q)
def A38 (X:Cx)(c:Call):Prop :=
 match c.callee with
 | .builtin b=>A37 b=true
 | .invoke _ n=>X.M n
 | .value _=>True
def Ajd (c:Call):Prop:=c.callee=.builtin .unsafeSliceData\/c.callee=.builtin .unsafeString
def A9t (X:Cx)(P:Program):Op->Prop
 | .move _|.assign _|.pick ..|.alloc _|.box ..|.build ..|.buildSlice ..|.load ..|.store ..|.nilCheck _|.unOp ..|.makeChan ..|.makeSlice ..|.slice ..|.field ..|.indexAddr ..|.index ..|.extract ..
 | .makeInterface ..=>True
 | .fieldAddr t _ _=>A3c P t
 | .binOp op t _ y _=>(op=.eql\/op=.neq->∃k,Ly P k t=true) \/(y=.const .nilIface /\(op=.eql\/op=.neq)) \/(X.Ex /\(op=.eql\/op=.neq)/\∃e,P.underlying t=some (.pointer e))
 | .convert s d _=>A5k P s d=true \/(X.Ex/\A5l P s d=true)
 | .makeFunc fn _ _=>match fn with
   | .func f=>X.C f/\¬X.T f
   | .method n=>X.M n
   | .methodOf _ n=>X.M n
   | _=>False
 | .call c=>(A38 X c \/(X.Ex/\Ajd c)) \/(c.callee=.builtin .recover/\X.Dn)
 | .defer c=>A38 X c/\X.Dn
 | .typeAssert ..=>X.As
 | _=>False
def TOk (X:Cx):Op->Prop
 | .call c=>match c.callee with
   | .value (.func f)=>X.C f/\X.Ar f c.args.size/\∀x∈c.args,Hv X x
   | _=>False
 | _=>False
def Agi (X:Cx)(P:Program)(o:Oper):Prop:=A9t X P o.op /\((∀x∈o.op.operands,Hv X x)\/TOk X o.op)
def EvR (X:Cx)(B:Lk)(ev ev':Operand->Value):Prop:=∀x,Hv X x->VR X B (ev x) (ev' x)
section
variable {X : Cx} {P P' : Program} {B : Lk} {z : Prop} (hF : A3a X P P') (hM : Agh X P P')
theorem EvR.arr {ev ev':Operand->Value}(k:EvR X B ev ev')(l:Array Operand)(h:∀x∈l,Hv X x):AR X B (l.map ev) (l.map ev'):=AR.map l fun x hx=>k x (h x hx)
theorem EvR.opt {ev ev':Operand->Value}(k:EvR X B ev ev')(o:Option Operand)(h:∀x∈o.toArray,Hv X x):OvR X B (o.map ev) (o.map ev'):=by
 cases o with
 | none=>exact .none
 | some x=>exact .some (k x (h x (by simp)))
theorem EvR.parts {ev ev':Operand->Value}(k:EvR X B ev ev')(ps:Array (Nat×Operand))(h:∀x∈(ps.toList.map (·.2)).toArray,Hv X x) :
 PsR X B (ps.map fun x=>(x.1,ev x.2)).toList (ps.map fun x=>(x.1,ev' x.2)).toList:=by
 rw[Array.toList_map,Array.toList_map]
 refine PsR.of _ fun x hx=>k _ (h _ ?_)
 simp only[An4,Anp]
 exact⟨x,hx,rfl⟩
include hF hM
theorem Hr {v v':Value}(name:String)(m:X.M name)(h:VR X B v v'){p p':Array Value}(hp:AR X B p p'):SR X P P' (Xf X z) B (callMethod v name p) (callMethod v' name p'):=by
 unfold callMethod
 cases h<;>first
  | exact SR.stuck
  | exact SR.runtimePanic hF.toPRel (e:=.nilDeref) trivial
  | skip
 dsimp only
 refine SR.bind SR.program ?_
 rintro B1 l1 q q' ⟨rfl,rfl⟩;rw[show q'.types=q.types by rw[hF.Gb]]
 rename_i hv
 refine SR.bind (hM.method _ m _ _ _ _ _ (hv.mono l1)) ?_
 rintro B2 l2 ⟨f,r⟩ ⟨f',r'⟩ ⟨⟨e,hc⟩,hr⟩;obtain rfl:f'=f:=e
 rcases hc with⟨hc,ht⟩|hc
 ·exact K9 hF f' hc (fun h=>absurd h ht) (AR.append (AR.one hr) ((hp.mono l1).mono l2))
 ·exact hc _ _ _ _
theorem Fc {t t':Target}(h:TgR X B t t'){p p':Array Value}(hp:AR X B p p'):SR X P P' (Xf X z) B (invoke t p) (invoke t' p'):=by
 cases h with
 | nil=>exact SR.runtimePanic hF.toPRel (e:=.nilDeref) trivial
 | builtin b ts ty cs hb=>exact A51 hF b hb ts ty cs hp
 | collected _=>exact SR.stuck
 | fn hf hc =>
   cases hf with
   | func f c t=>exact K9 hF f c (fun h=>absurd h t) (AR.append hp hc)
   | yield l l' k=>exact Acp k hp
   | method n m =>
     unfold invoke
     rcases hp.get 0 with⟨v,v',e1,e2,hv⟩ |⟨e1,e2⟩
     ·dsimp only;rw[e1,e2,<-hp.1]
      exact Hr hF hM _ m hv (hp.extract _ _)
     ·dsimp only;rw[e1,e2]
      exact SR.stuck
   | methodOf ty n m =>
     unfold invoke
     rcases hp.get 0 with⟨v,v',e1,e2,hv⟩ |⟨e1,e2⟩
     ·dsimp only;rw[e1,e2,<-hp.1]
      refine SR.bind (SR.underlying hF.toPRel ty) ?_
      rintro B1 l1 _ d ⟨rfl,_⟩
      cases d<;>first
       | exact Hr hF hM _ m (.iface _ (hv.mono l1)) ((hp.mono l1).extract _ _)
       | exact Hr hF hM _ m (hv.mono l1) ((hp.mono l1).extract _ _)
     ·dsimp only;rw[e1,e2]
      exact SR.stuck
omit hF hM in
theorem U5 {ev ev':Operand->Value}(k:EvR X B ev ev')(c:Call)(hc:A38 X c)(ho:∀x∈c.operands,Hv X x)(t:TypeId) :
 SR X P P' (fun B' d d'=>DfR X B' d d') B (resolve ev c t) (resolve ev' c t):=by
 obtain⟨callee,args,argTypes⟩:=c;have ha:AR X B (args.map ev) (args.map ev'):=k.arr args fun x hx=>ho x (by simp[Call.operands,hx])
 unfold resolve
 cases callee with
 | builtin b=>exact SR.pure ⟨.builtin _ _ _ _ hc,ha⟩
 | invoke r n=>exact SR.pure ⟨.fn (.method n hc) AR.nil,AR.append (AR.one (k r (ho r (by simp[Call.operands])))) ha⟩
 | value f =>
   have hv:=k f (ho f (by simp[Call.operands]))
   dsimp only;generalize ev f=v at hv;generalize ev' f=v' at hv
   cases hv<;>first
    | exact SR.stuck
    | exact SR.pure ⟨.nil,ha⟩
    | skip
   rename_i f f' a a' q q' h1 h2 h3 h4 h5
   exact SR.pure ⟨.fn h1 ⟨h4,h5⟩,AR.append ⟨h2,h3⟩ ha⟩
theorem A2h {v v':Value}(h:VR X B v v')(ev ev':Operand->Value)(o:Oper)(x:Operand)(ho:o.op=.nilCheck x)(he:ev x=v)(he':ev' x=v'):SR X P P' (Xf X z) B (execOp ev o) (execOp ev' o):=by
 unfold execOp;rw[ho];dsimp only;rw[he,he']
 cases h<;>first
  | exact SR.runtimePanic hF.toPRel (e:=.nilDeref) trivial
  |(refine SR.pure (.value ?_);constructor<;>assumption)
  | skip
 rename_i f f' a a' q q' h1 h2 h3 h4 h5
 have hv:VR X B (.func f a q) (.func f' a' q'):=.func h1 h2 h3 h4 h5
 cases h1 with
 | method n m =>
   dsimp only
   rcases AR.get (X:=X) (B:=B) (p:=a) (p':=a') ⟨h2,h3⟩ 0 with⟨w,w',e1,e2,hw⟩ |⟨e1,e2⟩
   ·rw[e1,e2]
    cases hw<;>first
     | exact SR.pure (.value hv)
     | exact SR.runtimePanic hF.toPRel (e:=.nilDeref) trivial
     | skip
    rename_i hw
    dsimp only
    refine SR.bind SR.program ?_
    rintro B1 l1 q1 q2 ⟨rfl,rfl⟩;rw[show q2.types=q1.types by rw[hF.Gb]]
    refine SR.bind (hM.nilAhead _ m _ _ _ _ _ (hw.mono l1)) ?_
    rintro B2 l2 _ r rfl
    exact SR.ite (fun _=>SR.A9) (fun _=>SR.pure (.value ((hv.mono l1).mono l2)))
   ·rw[e1,e2]
    exact SR.pure (.value hv)
 | _=>exact SR.pure (.value hv)
omit hM in
theorem Ajz (o:Oper)(ho:TOk X o.op){ev ev':Operand->Value}(k:EvR X B ev ev')(hE:∀f,ev (.func f)=.func (.func f) #[] #[]/\ev' (.func f)=.func (.func f) #[] #[]):SR X P P' (NxR X) B (execOp ev o) (execOp ev' o):=by
 cases hop:o.op with
 | call c =>
   rw[hop]at ho;obtain⟨callee,args,ts⟩:=c
   cases callee with
   | value x =>
     cases x with
     | func f =>
       obtain⟨h1,h2,h3⟩:=ho;have ha:AR X B (args.map ev) (args.map ev'):=k.arr args h3;unfold execOp;rw[hop];dsimp only;unfold resolve;dsimp only;rw[(hE f).1,(hE f).2]
       refine SR.bind (R:=fun B' d d'=>d=(⟨.fn (.func f) #[],#[]++args.map ev⟩:Deferred)/\d'=(⟨.fn (.func f) #[],#[]++args.map ev'⟩:Deferred)) (SR.pure ⟨rfl,rfl⟩) ?_
       rintro B1 l1 _ _ ⟨rfl,rfl⟩
       exact K9 hF f h1 (fun _=>⟨trivial,by simpa using h2⟩) (AR.append (AR.append AR.nil (ha.mono l1)) AR.nil)
     | _=>exact ho.elim
   | _=>exact ho.elim
 | _=>rw[hop]at ho;exact ho.elim
theorem Ey (o:Oper)(ho:Agi X P o){ev ev':Operand->Value}(k:EvR X B ev ev')(hE:∀f,ev (.func f)=.func (.func f) #[] #[]/\ev' (.func f)=.func (.func f) #[] #[])(hN:ev (.const .nilIface)=.nilIface/\ev' (.const .nilIface)=.nilIface:=by exact⟨rfl,rfl⟩):SR X P P' (NxR X) B (execOp ev o) (execOp ev' o):=by
 obtain⟨hk,hx⟩:=ho
 rcases hx with hx|hx
 case inr=>exact Ajz hF o hx k hE
 have hP:=hF.toPRel
 cases hop:o.op with
 | move x =>
   rw[hop]at hk hx;have hx:=fun x h=>hx x h
   unfold execOp;rw[hop];dsimp only
   exact SR.pure (.value (k _ (hx _ (by simp[Op.operands]))))
 | assign x =>
   rw[hop]at hk hx;have hx:=fun x h=>hx x h
   unfold execOp;rw[hop];dsimp only
   exact SR.pure (.value (k _ (hx _ (by simp[Op.operands]))))
 | pick x a b =>
   rw[hop]at hk hx;have hx:=fun x h=>hx x h
   unfold execOp;rw[hop];dsimp only
   refine SR.bind (SR.asBool (k _ (hx _ (by simp[Op.operands])))) ?_
   rintro B1 l1 _ q rfl
   cases q
   ·exact SR.pure (.value ((k _ (hx _ (by simp[Op.operands]))).mono l1))
   ·exact SR.pure (.value ((k _ (hx _ (by simp[Op.operands]))).mono l1))
 | alloc t =>
   rw[hop]at hk hx;have hx:=fun x h=>hx x h
   unfold execOp;rw[hop];dsimp only
   exact Ah (SR.alloc hP t)
 | box t x =>
   rw[hop]at hk hx;have hx:=fun x h=>hx x h
   unfold execOp;rw[hop];dsimp only
   exact Ah (SR.box t (k _ (hx _ (by simp[Op.operands]))))
 | build t ps =>
   rw[hop]at hk hx;have hx:=fun x h=>hx x h
   unfold execOp;rw[hop];dsimp only
   exact Ah (SR.build hP t (k.parts ps fun x h=>hx x h))
 | buildSlice t n ps =>
   rw[hop]at hk hx;have hx:=fun x h=>hx x h
   unfold execOp;rw[hop];dsimp only
   exact Ah (V8 hP t n (k.parts ps fun x h=>hx x h))
 | load t a =>
   rw[hop]at hk hx;have hx:=fun x h=>hx x h
   unfold execOp;rw[hop];dsimp only
   refine Ah ?_
   unfold Instr.loadAt
   exact SR.bind (SR.sureAddr (k _ (hx _ (by simp[Op.operands])))) fun B1 l1 a a' ha=>SR.loadVar hP ha t
 | store t a v =>
   rw[hop]at hk hx;have hx:=fun x h=>hx x h
   unfold execOp;rw[hop];dsimp only
   refine Aci ?_
   unfold Instr.storeAt
   exact SR.bind (SR.sureAddr (k _ (hx _ (by simp[Op.operands])))) fun B1 l1 a a' ha=>SR.storeVar hP ha t ((k _ (hx _ (by simp[Op.operands]))).mono l1)
 | nilCheck x =>
   rw[hop]at hk hx
   exact A2h hF hM (k _ (hx _ (by simp[Op.operands]))) ev ev' o x hop rfl rfl
 | binOp op t x y t' =>
   rw[hop]at hk hx;have hx:=fun x h=>hx x h
   unfold execOp;rw[hop];dsimp only
   rcases hk with hk |⟨rfl,he⟩ |⟨hex,he,e,ht⟩
   case inr.inr =>
    exact Ah (SR.bind (A2d hP op t e ht x y (k _ (hx _ (by simp[Op.operands]))) (k _ (hx _ (by simp[Op.operands])))) fun B1 l1 _ _ _=>Ai8 hP hex op he t e ht ((k _ (hx _ (by simp[Op.operands]))).mono l1) ((k _ (hx _ (by simp[Op.operands]))).mono l1))
   case inr.inl =>
    rw[hN.1,hN.2];have hv:=k x (hx _ (by simp[Op.operands]))
    exact Ah (SR.bind (V9 op t x .nilIface hv) fun B1 l1 _ _ _=>Ack hP op he t (hv.mono l1))
   by_cases he:op=.eql\/op=.neq
   ·obtain⟨n,hn⟩:=hk he
    exact Ah (SR.bind (U1 hP op t n (fun _=>hn) x y (k _ (hx _ (by simp[Op.operands]))) (k _ (hx _ (by simp[Op.operands])))) fun B1 l1 _ _ _=>A2b hP op t n (fun _=>hn) ((k _ (hx _ (by simp[Op.operands]))).mono l1) ((k _ (hx _ (by simp[Op.operands]))).mono l1))
   ·exact Ah (SR.bind (U1 hP op t 0 (fun h=>absurd h he) x y (k _ (hx _ (by simp[Op.operands]))) (k _ (hx _ (by simp[Op.operands])))) fun B1 l1 _ _ _=>A2b hP op t 0 (fun h=>absurd h he) ((k _ (hx _ (by simp[Op.operands]))).mono l1) ((k _ (hx _ (by simp[Op.operands]))).mono l1))
 | unOp op t x =>
   rw[hop]at hk hx;have hx:=fun x h=>hx x h
   unfold execOp;rw[hop];dsimp only
   exact Ah (SR.unary op (k _ (hx _ (by simp[Op.operands]))))
 | convert s d x =>
   rw[hop]at hk hx;have hx:=fun x h=>hx x h
   unfold execOp;rw[hop];dsimp only
   exact Ah (hk.elim (fun hk=>A54 hP s d hk (k _ (hx _ (by simp[Op.operands])))) fun hk=>A2c hP hk.1 s d hk.2 (k _ (hx _ (by simp[Op.operands]))))
 | makeInterface t x =>
   rw[hop]at hk hx;have hx:=fun x h=>hx x h
   unfold execOp;rw[hop];dsimp only
   refine Ah ?_
   unfold Instr.makeInterface
   refine SR.bind (SR.underlying hP t) ?_
   rintro B1 l1 _ d ⟨rfl,_⟩
   cases d<;>first
    | exact SR.stuck
    | exact SR.pure (.iface _ ((k _ (hx _ (by simp[Op.operands]))).mono l1))
 | makeFunc fn first cap =>
   rw[hop]at hk hx;have hx:=fun x h=>hx x h
   unfold execOp;rw[hop];dsimp only
   refine Ah ?_
   have h1:=k.arr first fun x h=>hx x (by simp[Op.operands,h])
   have h2:=k.arr cap fun x h=>hx x (by simp[Op.operands,h])
   refine SR.pure (.func ?_ h1.1 h1.2 h2.1 h2.2)
   cases fn with
   | func f=>exact .func f hk.1 hk.2
   | method n=>exact .method n hk
   | methodOf t n=>exact .methodOf t n hk
   | via t p f q=>exact hk.elim
   | yield l=>exact hk.elim
 | makeChan t s =>
   rw[hop]at hk hx;have hx:=fun x h=>hx x h
   unfold execOp;rw[hop];dsimp only
   exact Ah (A2f hP t (k _ (hx _ (by simp[Op.operands]))))
 | makeSlice t l c =>
   rw[hop]at hk hx;have hx:=fun x h=>hx x h
   unfold execOp;rw[hop];dsimp only
   exact Ah (Z2 hP t (k _ (hx _ (by simp[Op.operands]))) (k _ (hx _ (by simp[Op.operands]))))
 | slice t x lo hi mx =>
   rw[hop]at hk hx;have hx:=fun x h=>hx x h
   unfold execOp;rw[hop];dsimp only
   exact Ah (A58 hP t (k _ (hx _ (by simp[Op.operands]))) (k.opt lo fun x h=>hx x (by simp[Op.operands,h])) (k.opt hi fun x h=>hx x (by simp[Op.operands,h])) (k.opt mx fun x h=>hx x (by simp[Op.operands,h])))
 | fieldAddr t x f =>
   rw[hop]at hk hx;have hx:=fun x h=>hx x h
   unfold execOp;rw[hop];dsimp only
   exact Ah (A56 hP t hk (k _ (hx _ (by simp[Op.operands]))) f)
 | field t x f =>
   rw[hop]at hk hx;have hx:=fun x h=>hx x h
   unfold execOp;rw[hop];dsimp only
   exact Ah (Acg hP t (k _ (hx _ (by simp[Op.operands]))) f)
 | indexAddr t x i =>
   rw[hop]at hk hx;have hx:=fun x h=>hx x h
   unfold execOp;rw[hop];dsimp only
   exact Ah (A57 hP t (k _ (hx _ (by simp[Op.operands]))) (k _ (hx _ (by simp[Op.operands]))))
 | index t x i =>
   rw[hop]at hk hx;have hx:=fun x h=>hx x h
   unfold execOp;rw[hop];dsimp only
   exact Ah (Ach hP t (k _ (hx _ (by simp[Op.operands]))) (k _ (hx _ (by simp[Op.operands]))))
 | extract x i =>
   rw[hop]at hk hx;have hx:=fun x h=>hx x h
   unfold execOp;rw[hop];dsimp only
   exact Ah (A55 (k _ (hx _ (by simp[Op.operands]))) i)
 | typeAssert x t a q =>
   rw[hop]at hk hx;have hx:=fun x h=>hx x h
   unfold execOp;rw[hop];dsimp only
   exact Ah (hM.typeAssert hk t a B _ _ q (k _ (hx _ (by simp[Op.operands]))))
 | panic x =>
   rw[hop]at hk
   exact hk.elim
 | call c =>
   rw[hop]at hk hx;have hx:=fun x h=>hx x h
   unfold execOp;rw[hop];dsimp only
   rcases hk with(hk |⟨hex,hk⟩) |⟨hk,hdn⟩
   ·refine SR.bind (U5 k c hk (fun x h=>hx x h) o.type) ?_
    intro B1 l1 d d' hd
    exact Fc hF hM hd.1 hd.2
   ·have ha:AR X B (c.args.map ev) (c.args.map ev'):=k.arr c.args fun x hx'=>hx x (by simp[Op.operands,Call.operands,hx'])
    unfold resolve
    rcases hk with hk|hk
    ·rw[hk]
     exact Ah (Z4 hP hex _ _ ha)
    ·rw[hk]
     exact Ah (Qr hP hex _ _ ha)
   ·unfold resolve;rw[hk]
    exact SR.pure (.recover trivial hdn)
 | go c =>
   rw[hop]at hk
   exact hk.elim
 | defer c =>
   rw[hop]at hk hx;have hx:=fun x h=>hx x h
   unfold execOp;rw[hop];dsimp only
   refine SR.bind (U5 k c hk.1 (fun x h=>hx x h) o.type) ?_
   intro B1 l1 d d' hd
   exact SR.pure (.defer hk.2 hd)
 | send c x =>
   rw[hop]at hk
   exact hk.elim
 | recv t c q =>
   rw[hop]at hk
   exact hk.elim
 | insert a b c d =>
   rw[hop]at hk
   exact hk.elim
 | ready g =>
   rw[hop]at hk
   exact hk.elim
 | waits g =>
   rw[hop]at hk
   exact hk.elim
 | sliceToArrayPointer t x =>
   rw[hop]at hk
   exact hk.elim
 | makeMap t r =>
   rw[hop]at hk
   exact hk.elim
 | lookup t x i q =>
   rw[hop]at hk
   exact hk.elim
 | mapUpdate t m k v =>
   rw[hop]at hk
   exact hk.elim
 | mapEntry t m k =>
   rw[hop]at hk
   exact hk.elim
 | entryStore t m s v =>
   rw[hop]at hk
   exact hk.elim
 | range t x =>
   rw[hop]at hk
   exact hk.elim
 | next i q =>
   rw[hop]at hk
   exact hk.elim
 | entry i =>
   rw[hop]at hk
   exact hk.elim
 | select cs b =>
   rw[hop]at hk
   exact hk.elim
end
end Lr
namespace Lr
open Go.Conc
inductive ItR (X:Cx)(K:Oper->Prop)(B:Lk):Item->Item->Prop
 | code {c c':Code}:Mw X K c c'->ItR X K B (.code c) (.code c')
 | inBlock (i:Nat):ItR X K B (.inBlock i) (.inBlock i)
 | inLoop {c c':Code}:Mw X K c c'->ItR X K B (.inLoop c) (.inLoop c')
 | inScope {c c':Code}:Mw X K c c'->ItR X K B (.inScope c) (.inScope c')
 | inRegion (ops:Array Oper) (l:List Nat):(∀o∈ops,K o)->ItR X K B (.inRegion ops l) (.inRegion ops l)
 | inRangeFunc {l l':Nat}:B l l'->ItR X K B (.inRangeFunc l) (.inRangeFunc l')
 | endRangeFunc {l l':Nat}:B l l'->ItR X K B (.endRangeFunc l) (.endRangeFunc l')
 | beginRound:ItR X K B .beginRound .beginRound
theorem ItR.mono {X:Cx}{K:Oper->Prop}{B B':Lk}(h:Le B B'){i i':Item}(k:ItR X K B i i'):ItR X K B' i i':=by
 cases k with
 | code a=>exact .code a
 | inBlock i=>exact .inBlock i
 | inLoop a=>exact .inLoop a
 | inScope a=>exact .inScope a
 | inRegion o l a=>exact .inRegion o l a
 | inRangeFunc a=>exact .inRangeFunc (h _ _ a)
 | endRangeFunc a=>exact .endRangeFunc (h _ _ a)
 | beginRound=>exact .beginRound
inductive Ri (X:Cx)(K:Oper->Prop)(B:Lk):List Item->List Item->Prop
 | nil:Ri X K B [] []
 | cons {i i':Item} {l l':List Item}:ItR X K B i i'->Ri X K B l l'->Ri X K B (i :: l) (i' :: l')
theorem Ri.mono {X:Cx}{K:Oper->Prop}{B B':Lk}(h:Le B B'){l l':List Item}(k:Ri X K B l l'):Ri X K B' l l':=by
 induction k with
 | nil=>exact .nil
 | cons a _ ih=>exact .cons (a.mono h) ih
inductive Zk (X:Cx)(B:Lk):List PanicEntry->List PanicEntry->Prop
 | nil:Zk X B [] []
 | cons {v v':Value} (r g:Bool) {l l':List PanicEntry}:VR X B v v'->Zk X B l l'->Zk X B (⟨v,r,g⟩ :: l) (⟨v',r,g⟩ :: l')
theorem Zk.mono {X:Cx}{B B':Lk}(h:Le B B'){l l':List PanicEntry}(k:Zk X B l l'):Zk X B' l l':=by
 induction k with
 | nil=>exact .nil
 | cons r g a _ ih=>exact .cons r g (a.mono h) ih
theorem Zk.append {X:Cx}{B:Lk}{l l' m m':List PanicEntry}(h:Zk X B l l')(k:Zk X B m m'):Zk X B (l++m) (l'++m'):=by
 induction h with
 | nil=>exact k
 | cons r g a _ ih=>exact .cons r g a ih
inductive MoR (X:Cx)(B:Lk):FrameMode->FrameMode->Prop
 | run:MoR X B .run .run
 | returning:MoR X B .returning .returning
 | panicking {l l':List PanicEntry}:Zk X B l l'->MoR X B (.panicking l) (.panicking l')
theorem MoR.mono {X:Cx}{B B':Lk}(h:Le B B'){l l':FrameMode}(k:MoR X B l l'):MoR X B' l l':=by
 cases k with
 | run=>exact .run
 | returning=>exact .returning
 | panicking a=>exact .panicking (a.mono h)
inductive OnR (B:Lk):Option Nat->Option Nat->Prop
 | none:OnR B none none
 | some {l l':Nat}:B l l'->OnR B (some l) (some l')
theorem OnR.mono {B B':Lk}(h:Le B B'){l l':Option Nat}(k:OnR B l l'):OnR B' l l':=by
 cases k with
 | none=>exact .none
 | some a=>exact .some (h _ _ a)
def Kr (X:Cx):Option Nat->Oper->Prop
 | none=>X.K
 | some _=>NoD X.K
theorem Kr.k {X:Cx}{r:Option Nat}{o:Oper}(h:Kr X r o):X.K o:=by
 cases r with
 | none=>exact h
 | some _=>exact h.1
structure Dj (X:Cx)(B:Lk)(fr fr':Frame):Prop where
 fn:fr'.fn=fr.fn
 tmps:AR X B fr.tmps fr'.tmps
 todo:Ri X (Kr X fr.roundOf) B fr.todo fr'.todo
 defers:Rf X B fr.defers fr'.defers
 mode:MoR X B fr.mode fr'.mode
 kind:fr'.kind=fr.kind
 roundOf:OnR B fr.roundOf fr'.roundOf
theorem Dj.mono {X:Cx}{B B':Lk}(h:Le B B'){fr fr':Frame}(k:Dj X B fr fr'):Dj X B' fr fr' :=
 ⟨k.fn,k.tmps.mono h,k.todo.mono h,k.defers.mono h,k.mode.mono h,k.kind,k.roundOf.mono h⟩
inductive J7 (X:Cx)(B:Lk):List Frame->List Frame->Prop
 | nil:J7 X B [] []
 | cons {fr fr':Frame} {l l':List Frame}:Dj X B fr fr'->J7 X B l l'->J7 X B (fr :: l) (fr' :: l')
theorem J7.mono {X:Cx}{B B':Lk}(h:Le B B'){l l':List Frame}(k:J7 X B l l'):J7 X B' l l':=by
 induction k with
 | nil=>exact .nil
 | cons a _ ih=>exact .cons (a.mono h) ih
def Cb (fr:Frame):List Frame->Option Nat×CallKind
 | []=>(fr.roundOf,fr.kind)
 | c :: cs=>Cb c cs
theorem Bu {fr fr1:Frame}(h:fr1.roundOf=fr.roundOf)(k:fr1.kind=fr.kind)(cs:List Frame):Cb fr1 cs=Cb fr cs:=by
 cases cs with
 | nil=>unfold Cb;rw[h,k]
 | cons c cs=>rfl
section
variable {X : Cx} {P P' : Program} {B : Lk}
def Bq (k:CallKind)(base:List Frame):Prop:=k=.normal\/k=.deferred/\∀c r,base=c :: r->∀v l,c.mode≠.panicking (⟨v,false,false⟩ :: l)
theorem Bq.nil {k:CallKind}{base:List Frame}(h:Bq k base):Bq k []:=h.imp id fun h=>⟨h.1,fun _ _ e=>by cases e⟩
theorem Ad0 {fr:Frame}{base:List Frame}(h:Bq fr.kind base):tryRecover fr base=none:=by
 unfold tryRecover
 rcases h with h |⟨h,g⟩
 ·rw[h]
 ·rw[h]
  cases base with
  | nil=>rfl
  | cons c r =>
    have g:=g c r rfl;dsimp only;generalize c.mode=m at g
    rcases m with _|_ |(_ |⟨⟨v,_|_,_|_⟩,l⟩)<;>first|rfl|exact absurd rfl (g _ _)
theorem Ht:∀{cs cs':List Frame} {fr fr':Frame},Dj X B fr fr'->J7 X B cs cs'->∀base base':List Frame,Bq (Cb fr cs).2 base->Bq (Cb fr cs).2 base' ->
 (tryRecover fr (cs++base)=none/\tryRecover fr' (cs'++base')=none)\/∃v v' c1 c1',tryRecover fr (cs++base)=some (v,c1++base)/\tryRecover fr' (cs'++base')=some (v',c1'++base')/\VR X B v v'/\J7 X B c1 c1'/\Cb fr c1=Cb fr cs
 | [],cs',fr,fr',hf,hc,base,base',hk,hk'=>by
   cases hc
   exact .inl ⟨Ad0 hk,Ad0 (by rw[hf.kind];exact hk')⟩
 | c :: cs,_,fr,fr',hf,.cons (fr':=c') (l':=cs') hcc hc,base,base',hk,hk'=>by
   have hkd:=hf.kind
   cases hq:fr.kind with
   | deferred =>
     rw[hq]at hkd
     have e1:tryRecover fr (c :: cs++base)=(match c.mode with
      | .panicking ({ v,recovered:=false,goexit:=false } :: older)=>some (v,{ c with mode:=.panicking ({ v,recovered:=true } :: older) } ::(cs++base))
      | _=>none):=by
      rw[An9];unfold tryRecover;rw[hq];rfl
     have e2:tryRecover fr' (c' :: cs'++base')=(match c'.mode with
      | .panicking ({ v,recovered:=false,goexit:=false } :: older)=>some (v,{ c' with mode:=.panicking ({ v,recovered:=true } :: older) } ::(cs'++base'))
      | _=>none):=by
      rw[An9];unfold tryRecover;rw[hkd];rfl
     rw[e1,e2];have hm:=hcc.mode;obtain⟨k1,k2,k3,k4,_,k6,k7⟩:=hcc;generalize hmo:c.mode=m at hm;generalize hmo':c'.mode=m' at hm
     cases hm with
     | run=>exact .inl ⟨rfl,rfl⟩
     | returning=>exact .inl ⟨rfl,rfl⟩
     | panicking h =>
       cases h with
       | nil=>exact .inl ⟨rfl,rfl⟩
       | @cons v v' r g l l' hv hl =>
         cases r<;>cases g<;>first
          | exact .inl ⟨rfl,rfl⟩
          | exact .inr ⟨v,v',{ c with mode:=.panicking ({ v,recovered:=true } :: l) } :: cs,{ c' with mode:=.panicking ({ v:=v',recovered:=true } :: l') } :: cs',rfl,rfl,hv,.cons ⟨k1,k2,k3,k4,.panicking (.cons _ _ hv hl),k6,k7⟩ hc,by
           show Cb _ cs=Cb c cs
           refine Bu ?_ ?_ cs<;>rfl⟩
   | wrapped =>
     rw[hq]at hkd;have ih:=Ht hcc hc base base' hk hk'
     have e1:tryRecover fr (c :: cs++base)=(tryRecover c (cs++base)).map fun x=>(x.1,c :: x.2):=by
      rw[An9];conv=>lhs;unfold tryRecover
      rw[hq]
     have e2:tryRecover fr' (c' :: cs'++base')=(tryRecover c' (cs'++base')).map fun x=>(x.1,c' :: x.2):=by
      rw[An9];conv=>lhs;unfold tryRecover
      rw[hkd]
     rw[e1,e2]
     rcases ih with⟨i1,i2⟩ |⟨v,v',c1,c1',i1,i2,i3,i4,i5⟩
     ·rw[i1,i2];exact .inl ⟨rfl,rfl⟩
     ·rw[i1,i2];exact .inr ⟨v,v',c :: c1,c' :: c1',rfl,rfl,i3,.cons hcc i4,i5⟩
   | _ =>
     rw[hq]at hkd
     refine .inl ⟨?_,?_⟩
     ·unfold tryRecover;rw[hq]
     ·unfold tryRecover;rw[hkd]
theorem Dj.evR {fr fr':Frame}(h:Dj X B fr fr')(hg:∀g,X.G g->B g g)(hd:∀g,X.G g->¬X.D g/\X.L g=0):EvR X B fr.eval fr'.eval:=by
 intro x hx
 cases x with
 | tmp t=>exact h.tmps.getD t Du
 | const v=>exact hx B
 | global g=>exact .ptr ⟨⟨hg g hx,(hd g hx).1⟩,⟨rfl,Aof (hd g hx).2⟩,rfl⟩
 | func f=>exact .func (.func f hx.1 hx.2) rfl (fun i v v' a _=>by simp at a) rfl (fun i v v' a _=>by simp at a)
theorem Dj.finish {fr fr':Frame}(h:Dj X B fr fr'){v v':Value}(hv:VR X B v v'):Dj X B (fr.finish v) (fr'.finish v'):=by
 obtain⟨fn,tmps,todo,defers,mode,kind,ro⟩:=fr;obtain⟨fn',tmps',todo',defers',mode',kind',ro'⟩:=fr';obtain⟨h1,h2,h3,h4,h5,h6,h7⟩:=h;dsimp only at h1 h2 h3 h4 h5 h6 h7;unfold Frame.finish
 cases h3 with
 | nil=>exact⟨h1,h2,.nil,h4,h5,h6,h7⟩
 | cons hi hl =>
   cases hi with
   | code a=>exact⟨h1,h2,.cons (.code a) hl,h4,h5,h6,h7⟩
   | inBlock i=>exact⟨h1,h2,.cons (.inBlock i) hl,h4,h5,h6,h7⟩
   | inLoop a=>exact⟨h1,h2,.cons (.inLoop a) hl,h4,h5,h6,h7⟩
   | inScope a=>exact⟨h1,h2,.cons (.inScope a) hl,h4,h5,h6,h7⟩
   | inRangeFunc a=>exact⟨h1,h2,.cons (.endRangeFunc a) hl,h4,h5,h6,h7⟩
   | endRangeFunc a=>exact⟨h1,h2,.cons (.endRangeFunc a) hl,h4,h5,h6,h7⟩
   | beginRound=>exact⟨h1,h2,hl,h4,h5,h6,h7⟩
   | inRegion o l a =>
     cases l with
     | nil=>exact⟨h1,h2,.cons (.inRegion o [] a) hl,h4,h5,h6,h7⟩
     | cons i rest =>
       dsimp only
       cases ((o[i]?).bind (·.dst))with
       | none=>exact⟨h1,h2,.cons (.inRegion o rest a) hl,h4,h5,h6,h7⟩
       | some d=>exact⟨h1,h2.set d hv,.cons (.inRegion o rest a) hl,h4,h5,h6,h7⟩
theorem Dj.raise {fr fr':Frame}(h:Dj X B fr fr'){l l':List PanicEntry}(hl:Zk X B l l'):Dj X B (fr.raise l) (fr'.raise l'):=by
 obtain⟨h1,h2,h3,h4,h5,h6,h7⟩:=h;unfold Frame.raise;generalize fr.mode=m at h5;generalize fr'.mode=m' at h5
 cases h5 with
 | run=>exact⟨h1,h2,h3,h4,.panicking hl,h6,h7⟩
 | returning=>exact⟨h1,h2,h3,h4,.panicking hl,h6,h7⟩
 | panicking k=>exact⟨h1,h2,h3,h4,.panicking (hl.append k),h6,h7⟩
theorem Dj.place {fr fr':Frame}(h:Dj X B fr fr'):fr'.mode=.run↔fr.mode=.run:=by
 have:=h.mode;generalize fr.mode=m at this;generalize fr'.mode=m' at this
 cases this<;>simp
def StR (X:Cx)(P P':Program)(B:Lk)(fr fr':Frame)(cs cs':List Frame):Prop :=
 (Dj X B fr fr'/\J7 X B cs cs')\/∃f p p' k,(X.T f/\X.Ar f p.size) /\(k=.normal/\cs≠[])/\fr=Frame.enter P f p k/\fr'=Frame.enter P' f p' k/\AR X B p p'/\J7 X B cs cs'
def A39 (X:Cx)(B:Lk)(n:Array Event):Prop:=∀e∈n,Zl X B e/\∀f,e.loc≠.mark (.extern f)
def Ee (X:Cx)(P P':Program)(B:Lk)(V W:World)(base base':List Frame)(r r':GStep):Prop :=
 (∀fr1 cs V1 es,r=.go (G fr1 cs) V1 es->∃c1 c1' fr1' B' W1 n,cs=c1++base/\r'=.go (G fr1' (c1'++base')) W1 n/\Ext X B V W B' V1 W1/\WR X B' V1 W1/\A39 X B' n/\StR X P P' B' fr1 fr1' c1 c1') /\
 ((∃fr1 cs V1 es,r=.go (G fr1 cs) V1 es)\/∃o w es,r=.ended o w es)
theorem Mr {V W:World}{base base':List Frame}{r r':GStep}(h:∃o w es,r=.ended o w es):Ee X P P' B V W base base' r r':=⟨fun fr1 cs V1 es e=>(by obtain⟨_,_,_,h⟩:=h;rw[h]at e;cases e),.inr h⟩
theorem Tq {P:Program}{fn:FuncId}{es:Array Event}:∀e∈seen P fn es,e∈es/\∀f,e.loc≠.mark (.extern f):=by
 have key:∀(l:List Event) (acc:Bool×Array Event) (S:List Event),(∀e∈acc.2,e∈S/\∀f,e.loc≠.mark (.extern f)) ->(∀e∈l,e∈S) ->
  ∀e∈(l.foldl (fun(x:Bool×Array Event) e=>match x with |(q,kept)=>match e.loc with|.mark (.extern f)=>((P.funcs[f]?).any (·.norace),kept)|_=>(q,if q && !e.sync then kept else kept.push e)) acc).2,e∈S/\∀f,e.loc≠.mark (.extern f):=by
  intro l
  induction l with
  | nil=>intro acc S h _;exact h
  | cons x l ih =>
    intro acc S h hl;simp only[List.foldl_cons]
    refine ih _ S ?_ fun e he=>hl e (by simp[he])
    obtain⟨q,kept⟩:=acc;dsimp only at h ⊢
    split
    ·exact h
    ·rename_i hx
     dsimp only
     split
     ·exact h
     ·intro e he
      rcases Aqg.1 he with he|rfl
      ·exact h e he
      ·exact⟨hl _ (by simp),fun f hf=>hx f hf⟩
 intro e he;unfold seen at he;dsimp only at he;rw[<-Aqf]at he;obtain⟨h1,h2⟩:=key es.toList _ es.toList (by intro e h;simp at h) (fun e h=>h) e he
 exact⟨by simpa using h1,h2⟩
theorem G2.seen {n:Array Event}(h:G2 X B n)(fn:FuncId):A39 X B (seen P' fn n):=fun e he=>⟨h e (Tq e he).1,(Tq e he).2⟩
theorem A39.nil:A39 X B #[]:=fun e h=>by simp at h
theorem A0g (hF:A3a X P P'){f:FuncId}(hc:X.C f){p p':Array Value}(ha:X.T f->X.Ar f p.size)(hp:AR X B p p')(k:CallKind){cs cs':List Frame}(hk:X.T f->k=.normal/\cs≠[])(hcs:J7 X B cs cs') :
 StR X P P' B (Frame.enter P f p k) (Frame.enter P' f p' k) cs cs':=by
 by_cases ht:X.T f
 ·exact .inr ⟨f,p,p',k,⟨ht,ha ht⟩,hk ht,rfl,rfl,hp,hcs⟩
 ·refine .inl ⟨?_,hcs⟩
  rcases hF.funcs f with⟨e1,e2⟩ |⟨fn,fn',e1,e2,hn,_,hnt,hb⟩
  ·unfold Frame.enter;rw[e1,e2]
   exact⟨rfl,by dsimp only;rw[<-hp.1];exact hp.append (AR.replicate _ Du),.cons (.code (.inl (by decide))) .nil,.nil,.run,rfl,.none⟩
  ·unfold Frame.enter;rw[e1,e2]
   refine⟨rfl,by dsimp only[Option.map_some,Option.getD_some];rw[<-hp.1,hnt hc ht];exact hp.append (AR.replicate _ Du),?_,.nil,.run,rfl,.none⟩
   dsimp only
   rcases(hb hc).2 with⟨b1,b2,h3⟩ |⟨b1,b2,_⟩
   ·obtain⟨c,c',e3,e4,e5⟩:=h3 ht;rw[show(Option.bind (some fn') fun x=>x.body)=some c' from e4,show(Option.bind (some fn) fun x=>x.body)=some c from e3]
    exact .cons (.code e5) .nil
   ·have e3:fn.body=none:=by simpa using b1
    rw[show(Option.bind (some fn') fun x=>x.body)=none from b2.trans e3,show(Option.bind (some fn) fun x=>x.body)=none from e3]
    exact .cons (.code (.inl (by decide))) .nil
end
end Lr
namespace Lr
open Go.Conc
section
variable {X : Cx} {P P' : Program} {B : Lk}
theorem Ri.kind {K:Oper->Prop}{l l':List Item}(h:Ri X K B l l'):(∀d r s k,l≠.call d true r s :: k)/\∀d r s k,l'≠.call d true r s :: k:=by
 cases h with
 | nil=>exact⟨fun _ _ _ _ e=>(by cases e),fun _ _ _ _ e=>(by cases e)⟩
 | cons hi _=>cases hi<;>exact⟨fun _ _ _ _ e=>(by cases e),fun _ _ _ _ e=>(by cases e)⟩
def Q1 (P:Program)(fr:Frame)(cs:List Frame)(w:World):Next->GStep
 | .value v=>.go (G (fr.finish v) cs) w
 | .skip=>.go (G (fr.finish undef) cs) w
 | .enter f args=>.go (G (Frame.enter P f args .normal) (fr :: cs)) w
 | .round l f tmps assign body=>.go (G (Frame.round l f tmps assign body .normal) (fr :: cs)) w
 | .defer d=>.go (G ({ fr with defers:=d :: fr.defers }.finish undef) cs) w
 | .recover=>match (match fr.roundOf with
  | some l=>if P.follows .rangeFuncRecover then tryRecover fr cs else tryRecoverLoop l cs
  | none=>tryRecover fr cs)with
   | some (v,cs)=>.go (G (fr.finish v) cs) w
   | none=>.go (G (fr.finish .nilIface) cs) w
 | _=>.ended (.stuck "" "") w
theorem Oo {P:Program}(h:P.follows .rangeFuncRecover=true){fr:Frame}{cs:List Frame}{w:World}:Q1 P fr cs w .recover=(match tryRecover fr cs with
 | some x=>.go (G (fr.finish x.1) x.2) w
 | none=>.go (G (fr.finish .nilIface) cs) w):=by
 unfold Q1
 cases fr.roundOf with
 | none=>dsimp only;cases tryRecover fr cs<;>rfl
 | some l=>dsimp only;rw[if_pos h];cases tryRecover fr cs<;>rfl
def Plain:Next->Prop
 | .value _|.skip|.enter ..|.round ..|.defer _|.recover=>True
 | _=>False
def Xe (es' es:Array Event):Prop:=∀e∈es',e∈es/\∀f,e.loc≠.mark (.extern f)
theorem Wi {P:Program}{fr:Frame}{es:Array Event}:Xe (seen P fr.fn (if fr.kind == .early then#[]else es)) es:=by
 intro e he;obtain⟨h1,h2⟩:=Tq e he
 refine⟨?_,h2⟩
 split at h1
 ·simp at h1
 ·exact h1
theorem D8 {P:Program}{fr:Frame}{cs:List Frame}{s:Sem Next}{w w':World}{n:Next}{es:Array Event}(h:s.runT P w #[]=(.ok n w',es))(hn:Plain n)
 (hk:∀d r s k,fr.todo≠.call d true r s :: k):∃es',Xe es' es/\stepG.apply P true fr cs none s w=GStep.after es' (Q1 P fr cs w' n):=by
 refine⟨_,Wi (P:=P) (fr:=fr),?_⟩
 unfold stepG.apply;rw[Amo rfl,h]
 cases n<;>first
  | exact hn.elim
  | rfl
  |(dsimp only[Q1,G]
    generalize seen P fr.fn _=E
    split
    ·exact absurd ‹_› (hk _ _ _ _)
    ·rfl)
theorem Pd {P:Program}{fr:Frame}{cs:List Frame}{s:Sem Next}{w w':World}{v:Value}{es:Array Event}(h:s.runT P w #[]=(.halt (.panic v) w',es)) :
 ∃es',Xe es' es/\stepG.apply P true fr cs none s w=GStep.after es' (.go (G (fr.raise [⟨v,false,false⟩]) cs) w'):=by
 refine⟨_,Wi (P:=P) (fr:=fr),?_⟩
 unfold stepG.apply;rw[Amo rfl,h]
 rfl
theorem Hy {es:Array Event}{s:GStep}{g:Goroutine}{w:World}{es1:Array Event}(h:GStep.after es s=.go g w es1):∃es2,s=.go g w es2/\es1=es++es2:=by
 cases s<;>simp only[GStep.after]at h<;>first|cases h|skip
 exact⟨_,rfl,rfl⟩
theorem M7 {P:Program}{fr:Frame}{cs:List Frame}{s:Sem Next}{w w':World}{x:Halt}{es:Array Event}(h:s.runT P w #[]=(.halt x w',es))(hn:Jo x) :
 ∃o w1 es1,stepG.apply P true fr cs none s w=.ended o w1 es1:=by
 unfold stepG.apply;rw[Amo rfl,h]
 cases x with
 | unsupported u =>
   cases u<;>first
    | exact hn.elim
    | exact⟨_,_,_,rfl⟩
 | exit c=>exact⟨_,_,_,rfl⟩
 | stuck m=>exact⟨_,_,_,rfl⟩
 | _=>exact hn.elim
theorem N8 (hF:A3a X P P'){fr fr':Frame}(hf:Dj X B fr fr'){cs cs':List Frame}(hc:J7 X B cs cs'){base base':List Frame}(hbk:Bq (Cb fr cs).2 base/\Bq (Cb fr cs).2 base'){s s':Sem Next}(hs:SR X P P' (NxR X) B s s'){V W:World}(hw:WR X B V W) :
 Ee X P P' B V W base base' (stepG.apply P true fr (cs++base) none s V) (stepG.apply P' true fr' (cs'++base') none s' W):=by
 have hs:=(hs V W hw).2;have hv:s.runT P V #[]=(s.run P V,s.events P V #[]):=Sem.runT_eq ..;generalize s.run P V=r at hs hv
 match r,hs with
 | .ok n V',⟨B',W',b,m,h1,h2,h3,h4,h5⟩ =>
   have h3:=h3 #[]
   have fin:∀{es es':Array Event} {a a':GStep},Xe es' m->stepG.apply P true fr (cs++base) none s V=GStep.after es a->stepG.apply P' true fr' (cs'++base') none s' W=GStep.after es' a' ->
    ((∃fr1 csx V1 e1,a=.go (G fr1 csx) V1 e1)/\∀fr1 csx V1 e1,a=.go (G fr1 csx) V1 e1->∃c1 c1' fr1',csx=c1++base/\V1=V'/\a'=.go (G fr1' (c1'++base')) W'/\StR X P P' B' fr1 fr1' c1 c1') ->
    Ee X P P' B V W base base' (stepG.apply P true fr (cs++base) none s V) (stepG.apply P' true fr' (cs'++base') none s' W):=by
    intro es es' a a' hk e1 e2 ⟨⟨fr0,cs0,V0,es0,h0⟩,h⟩
    refine⟨?_,.inl ⟨fr0,cs0,V0,es++es0,by rw[e1,h0];rfl⟩⟩
    intro fr1 csx V1 esx he;rw[e1]at he;obtain⟨es2,he,_⟩:=Hy he;obtain⟨c1,c1',fr1',rfl,rfl,rfl,hst⟩:=h _ _ _ _ he
    exact⟨c1,c1',fr1',B',W',es',rfl,by rw[e2];simp[GStep.after],h1,h2,fun e x=>⟨h5 e (hk e x).1,(hk e x).2⟩,hst⟩
   rw[Ang]at h3
   cases h4 with
   | value h =>
     obtain⟨_,_,e1⟩:=D8 (cs:=cs++base) hv (n:=.value _) trivial hf.todo.kind.1;obtain⟨_,k2,e2⟩:=D8 (cs:=cs'++base') h3 (n:=.value _) trivial hf.todo.kind.2
     refine fin k2 e1 e2 ⟨⟨_,_,_,_,rfl⟩,?_⟩
     rintro fr1 csx V1 e1 he
     cases he
     exact⟨cs,cs',_,rfl,rfl,rfl,.inl ⟨(hf.mono h1.le).finish h,hc.mono h1.le⟩⟩
   | skip =>
     obtain⟨_,_,e1⟩:=D8 (cs:=cs++base) hv (n:=.skip) trivial hf.todo.kind.1;obtain⟨_,k2,e2⟩:=D8 (cs:=cs'++base') h3 (n:=.skip) trivial hf.todo.kind.2
     refine fin k2 e1 e2 ⟨⟨_,_,_,_,rfl⟩,?_⟩
     rintro fr1 csx V1 e1 he
     cases he
     exact⟨cs,cs',_,rfl,rfl,rfl,.inl ⟨(hf.mono h1.le).finish Du,hc.mono h1.le⟩⟩
   | enter f hcf har hp =>
     obtain⟨_,_,e1⟩:=D8 (cs:=cs++base) hv (n:=.enter _ _) trivial hf.todo.kind.1;obtain⟨_,k2,e2⟩:=D8 (cs:=cs'++base') h3 (n:=.enter _ _) trivial hf.todo.kind.2
     refine fin k2 e1 e2 ⟨⟨_,_,_,_,rfl⟩,?_⟩
     rintro fr1 csx V1 e1 he
     cases he
     exact⟨fr :: cs,fr' :: cs',_,rfl,rfl,rfl,A0g hF hcf (fun h=>(har h).2) hp _ (fun _=>⟨rfl,by simp⟩) (.cons (hf.mono h1.le) (hc.mono h1.le))⟩
   | round f hl hp ha hb =>
     obtain⟨_,_,e1⟩:=D8 (cs:=cs++base) hv (n:=.round _ _ _ _ _) trivial hf.todo.kind.1;obtain⟨_,k2,e2⟩:=D8 (cs:=cs'++base') h3 (n:=.round _ _ _ _ _) trivial hf.todo.kind.2
     refine fin k2 e1 e2 ⟨⟨_,_,_,_,rfl⟩,?_⟩
     rintro fr1 csx V1 e1 he
     cases he
     exact⟨fr :: cs,fr' :: cs',_,rfl,rfl,rfl,.inl ⟨⟨rfl,hp,.cons (.code ha) (.cons .beginRound (.cons (.code hb) .nil)),.nil,.run,rfl,.some hl⟩,.cons (hf.mono h1.le) (hc.mono h1.le)⟩⟩
   | @defer d d' hq hd =>
     obtain⟨_,_,e1⟩:=D8 (cs:=cs++base) hv (n:=.defer _) trivial hf.todo.kind.1;obtain⟨_,k2,e2⟩:=D8 (cs:=cs'++base') h3 (n:=.defer _) trivial hf.todo.kind.2
     refine fin k2 e1 e2 ⟨⟨_,_,_,_,rfl⟩,?_⟩
     rintro fr1 csx V1 e1 he
     cases he
     have hf':=hf.mono h1.le
     exact⟨cs,cs',_,rfl,rfl,rfl,.inl ⟨Dj.finish (fr:={ fr with defers:=d :: fr.defers }) (fr':={ fr' with defers:=d' :: fr'.defers }) ⟨hf'.fn,hf'.tmps,hf'.todo,.cons (.inl hq) hd hf'.defers,hf'.mode,hf'.kind,hf'.roundOf⟩ Du,hc.mono h1.le⟩⟩
   | recover _ hq =>
     obtain⟨_,_,e1⟩:=D8 (cs:=cs++base) hv (n:=.recover) trivial hf.todo.kind.1;obtain⟨_,k2,e2⟩:=D8 (cs:=cs'++base') h3 (n:=.recover) trivial hf.todo.kind.2;rw[Oo hF.A6h]at e1;rw[Oo (by rw[hF.Gb];exact hF.A6h)]at e2
     rcases Ht hf hc base base' hbk.1 hbk.2 with⟨q1,q2⟩ |⟨v,v',c1,c1',q1,q2,q3,q4,_⟩
     ·rw[q1]at e1;rw[q2]at e2
      refine fin k2 e1 e2 ⟨⟨_,_,_,_,rfl⟩,?_⟩
      rintro fr1 csx V1 e1 he
      cases he
      exact⟨cs,cs',_,rfl,rfl,rfl,.inl ⟨(hf.mono h1.le).finish .nilIface,hc.mono h1.le⟩⟩
     ·rw[q1]at e1;rw[q2]at e2
      refine fin k2 e1 e2 ⟨⟨_,_,_,_,rfl⟩,?_⟩
      rintro fr1 csx V1 e1 he
      cases he
      exact⟨c1,c1',_,rfl,rfl,rfl,.inl ⟨(hf.mono h1.le).finish (q3.mono h1.le),q4.mono h1.le⟩⟩
 | .halt x V',k =>
   rcases F8 x with⟨v,rfl⟩|hp
   ·obtain⟨B',W',v',m,h1,h2,h3,h4,h5⟩:=k;have h3:=h3 #[];rw[Ang]at h3;obtain⟨_,_,e1⟩:=Pd (fr:=fr) (cs:=cs++base) hv;obtain⟨es',k2,e2⟩:=Pd (fr:=fr') (cs:=cs'++base') h3
    refine⟨?_,.inl ⟨_,_,_,_,by rw[e1];rfl⟩⟩
    intro fr1 csx V1 esx he;rw[e1]at he;obtain⟨es2,he,_⟩:=Hy he
    cases he
    exact⟨cs,cs',_,B',W',es',rfl,by rw[e2];simp[GStep.after],h1,h2,fun e x=>⟨h5 e (k2 e x).1,(k2 e x).2⟩,.inl ⟨(hf.mono h1.le).raise (.cons _ _ h4 .nil),hc.mono h1.le⟩⟩
   ·exact Mr (M7 hv (Gd hp k))
end
end Lr
end Go.Proofs.YtjaehldnlamgkaaGreatDoor
