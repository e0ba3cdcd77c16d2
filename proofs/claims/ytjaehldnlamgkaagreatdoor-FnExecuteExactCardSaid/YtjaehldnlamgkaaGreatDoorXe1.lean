import Derived.Conc.Own
import Derived.Conc.Events
import Derived.Test.YtjaehldnlamgkaaGreatDoorXe0
set_option linter.all false
set_option maxHeartbeats 16000000
set_option maxRecDepth 100000
namespace Go.Proofs.YtjaehldnlamgkaaGreatDoor
namespace Lr
abbrev Lk:=Nat->Nat->Prop
def Le (B B':Lk):Prop:=∀b b',B b b'->B' b b'
theorem Le.refl (B:Lk):Le B B:=fun _ _ h=>h
theorem Le.trans {A B C:Lk}(h:Le A B)(k:Le B C):Le A C:=fun b b' x=>k b b' (h b b' x)
structure Cx where
 C:FuncId->Prop
 M:String->Prop
 As:Prop
 T:FuncId->Prop
 K:Oper->Prop
 D:Nat->Prop
 F:Nat->Prop
 G:Nat->Prop
 N:Nat
 R:String->Code->Prop
 Dn:Prop
 L:Nat->Nat
 Mv:TypeId->Nat->Nat->Prop
 Z:TypeId->Prop
 lf:∀b,L b≠0->F b
 Ar:Nat->Nat->Prop
 asG:As->G N
 Ex:Prop
 exF:Ex->∀b,¬F b
def Ce (X:Cx)(B:Lk)(a a':Addr):Prop:=(B a.block a'.block/\¬X.D a.block) /\(a'.off=a.off/\X.L a.block<=a.off)/\a'.spot=a.spot
theorem Ce.mono {X:Cx}{B B':Lk}(h:Le B B'){a a':Addr}(k:Ce X B a a'):Ce X B' a a':=⟨⟨h _ _ k.1.1,k.1.2⟩,k.2⟩
theorem Ce.add {X:Cx}{B:Lk}{a a':Addr}(k:Ce X B a a')(n:Nat):Ce X B (a.add n) (a'.add n):=by
 unfold Addr.add
 split
 ·exact k
 ·exact⟨k.1,⟨by simp[k.2.1.1],Am1 k.2.1.2 (Nat.le_add_right _ _)⟩,rfl⟩
inductive FnR (X:Cx)(B:Lk):Fn->Fn->Prop
 | func (f:FuncId):X.C f->¬X.T f->FnR X B (.func f) (.func f)
 | method (n:String):X.M n->FnR X B (.method n) (.method n)
 | methodOf (t:TypeId) (n:String):X.M n->FnR X B (.methodOf t n) (.methodOf t n)
 | yield (l l':Nat):B l l'->FnR X B (.yield l) (.yield l')
theorem FnR.mono {X:Cx}{B B':Lk}(h:Le B B'){f f':Fn}(k:FnR X B f f'):FnR X B' f f':=by
 cases k with
 | func f c t=>exact .func f c t
 | method n c=>exact .method n c
 | methodOf t n c=>exact .methodOf t n c
 | yield l l' c=>exact .yield l l' (h _ _ c)
inductive VR (X:Cx)(B:Lk):Value->Value->Prop
 | bool (b:Bool):VR X B (.bool b) (.bool b)
 | int (k:IntKind) (n:Int):VR X B (.int k n) (.int k n)
 | float (k:FloatKind) (n:Nat):VR X B (.float k n) (.float k n)
 | complex (k:FloatKind) (n m:Nat):VR X B (.complex k n m) (.complex k n m)
 | string (s:ByteArray):VR X B (.string s) (.string s)
 | Mj:VR X B (.pointer none) (.pointer none)
 | ptr {a a':Addr}:Ce X B a a'->VR X B (.pointer (some a)) (.pointer (some a'))
 | Iu (l c:Nat):VR X B (.slice none l c) (.slice none l c)
 | slice {a a':Addr} (l c:Nat):Ce X B a a'->VR X B (.slice (some a) l c) (.slice (some a') l c)
 | A88:VR X B (.map none) (.map none)
 | map {r r':Nat}:B r r'->VR X B (.map (some r)) (.map (some r'))
 | A7b:VR X B (.chan none) (.chan none)
 | chan {r r':Nat}:B r r'->VR X B (.chan (some r)) (.chan (some r'))
 | func {f f':Fn} {p p' q q':Array Value}:FnR X B f f'->p.size=p'.size ->(∀(i:Nat) v v',p[i]?=some v->p'[i]?=some v'->VR X B v v') ->
  q.size=q'.size ->(∀(i:Nat) v v',q[i]?=some v->q'[i]?=some v'->VR X B v v')->VR X B (.func f p q) (.func f' p' q')
 | nilFunc:VR X B .nilFunc .nilFunc
 | iface (t:TypeId) {v v':Value}:VR X B v v'->VR X B (.iface t v) (.iface t v')
 | nilIface:VR X B .nilIface .nilIface
 | gone (a:Option Addr) (l c:Nat):X.Ex->VR X B (.tuple #[]) (.slice a l c)
 | agg {p p':Array Value}:p.size=p'.size ->(∀(i:Nat) v v',p[i]?=some v->p'[i]?=some v'->VR X B v v')->VR X B (.agg p) (.agg p')
 | tuple {p p':Array Value}:p.size=p'.size ->(∀(i:Nat) v v',p[i]?=some v->p'[i]?=some v'->VR X B v v')->VR X B (.tuple p) (.tuple p')
theorem VR.mono {X:Cx}{B B':Lk}(h:Le B B'){v v':Value}(k:VR X B v v'):VR X B' v v':=by
 induction k with
 | bool b=>exact .bool b
 | int k n=>exact .int k n
 | float k n=>exact .float k n
 | complex k n m=>exact .complex k n m
 | string s=>exact .string s
 | Mj=>exact .Mj
 | ptr a=>exact .ptr (a.mono h)
 | Iu l c=>exact .Iu l c
 | slice l c a=>exact .slice l c (a.mono h)
 | A88=>exact .A88
 | map r=>exact .map (h _ _ r)
 | A7b=>exact .A7b
 | chan r=>exact .chan (h _ _ r)
 | func f hp _ hq _ ip iq=>exact .func (f.mono h) hp ip hq iq
 | nilFunc=>exact .nilFunc
 | iface t _ i=>exact .iface t i
 | nilIface=>exact .nilIface
 | gone a l c e=>exact .gone a l c e
 | agg hp _ i=>exact .agg hp i
 | tuple hp _ i=>exact .tuple hp i
def AR (X:Cx)(B:Lk)(p p':Array Value):Prop:=p.size=p'.size/\∀(i:Nat) v v',p[i]?=some v->p'[i]?=some v'->VR X B v v'
theorem AR.mono {X:Cx}{B B':Lk}(h:Le B B'){p p':Array Value}(k:AR X B p p'):AR X B' p p':=⟨k.1,fun i v v' a b=>(k.2 i v v' a b).mono h⟩
theorem AR.agg {X:Cx}{B:Lk}{p p':Array Value}(k:AR X B p p'):VR X B (.agg p) (.agg p'):=.agg k.1 k.2
theorem AR.tuple {X:Cx}{B:Lk}{p p':Array Value}(k:AR X B p p'):VR X B (.tuple p) (.tuple p'):=.tuple k.1 k.2
def Flat (X:Cx)(v:Value):Prop:=∀B,VR X B v v
theorem AR.get {X:Cx}{B:Lk}{p p':Array Value}(k:AR X B p p')(i:Nat):(∃v v',p[i]?=some v/\p'[i]?=some v'/\VR X B v v') \/(p[i]?=none/\p'[i]?=none):=by
 rcases Aqs i p.size with h|h
 ·have h':i<p'.size:=k.1▸h
  exact .inl ⟨p[i],p'[i],Am6 h,Am6 h',k.2 i _ _ (Am6 h) (Am6 h')⟩
 ·exact .inr ⟨Ao0 h,Ao0 (k.1▸h)⟩
theorem AR.nil {X:Cx}{B:Lk}:AR X B #[] #[]:=⟨rfl,fun i v v' a _=>by simp at a⟩
theorem AR.push {X:Cx}{B:Lk}{p p':Array Value}(k:AR X B p p'){v v':Value}(h:VR X B v v'):AR X B (p.push v) (p'.push v'):=by
 refine⟨by simp[k.1],fun i a b ha hb=>?_⟩
 rw[Ama]at ha hb;rw[<-k.1]at hb
 split at ha
 ·rename_i hi
  rw[Amo hi]at hb
  cases ha;cases hb;exact h
 ·rename_i hi
  rw[Amd hi]at hb
  exact k.2 i a b ha hb
theorem AR.one {X:Cx}{B:Lk}{v v':Value}(h:VR X B v v'):AR X B #[v] #[v']:=AR.push AR.nil h
theorem AR.append {X:Cx}{B:Lk}{p p' q q':Array Value}(k:AR X B p p')(l:AR X B q q'):AR X B (p++q) (p'++q'):=by
 refine⟨by simp[k.1,l.1],fun i a b ha hb=>?_⟩
 rw[Array.getElem?_append]at ha hb;rw[<-k.1]at hb
 split at ha
 ·rename_i hi
  rw[Amo hi]at hb
  exact k.2 i a b ha hb
 ·rename_i hi
  rw[Amd hi]at hb
  exact l.2 _ a b ha hb
theorem AR.set {X:Cx}{B:Lk}{p p':Array Value}(k:AR X B p p')(i:Nat){v v':Value}(h:VR X B v v'):AR X B (p.setIfInBounds i v) (p'.setIfInBounds i v'):=by
 refine⟨by simp[k.1],fun j a b ha hb=>?_⟩
 rw[Am4]at ha hb;rw[<-k.1]at hb
 split at ha
 ·rename_i hi
  rw[Amo hi]at hb
  split at ha
  ·rename_i hl
   rw[Amo hl]at hb
   cases ha;cases hb;exact h
  ·cases ha
 ·rename_i hi
  rw[Amd hi]at hb
  exact k.2 j a b ha hb
theorem AR.extract {X:Cx}{B:Lk}{p p':Array Value}(k:AR X B p p')(i j:Nat):AR X B (p.extract i j) (p'.extract i j):=by
 refine⟨by simp[k.1],fun n a b ha hb=>?_⟩
 rw[Array.getElem?_extract]at ha hb;rw[<-k.1]at hb
 split at ha
 ·rename_i hi
  rw[Amo hi]at hb
  exact k.2 _ a b ha hb
 ·cases ha
theorem AR.map {X:Cx}{B:Lk}{ι:Type}(l:Array ι){f g:ι->Value}(h:∀x∈l,VR X B (f x) (g x)):AR X B (l.map f) (l.map g):=by
 refine⟨by simp,fun i a b ha hb=>?_⟩
 simp only[Amv,Ami]at ha hb;obtain⟨x,hx,rfl⟩:=ha;obtain⟨y,hy,rfl⟩:=hb
 cases hx.symm.trans hy
 exact h x (Amp hx)
theorem AR.replicate {X:Cx}{B:Lk}(n:Nat){v v':Value}(h:VR X B v v'):AR X B (Array.replicate n v) (Array.replicate n v'):=by
 refine⟨by simp,fun i a b ha hb=>?_⟩
 rw[Array.getElem?_replicate]at ha hb
 split at ha
 ·rename_i hi
  rw[Amo hi]at hb
  cases ha;cases hb;exact h
 ·cases ha
theorem AR.getD {X:Cx}{B:Lk}{p p':Array Value}(k:AR X B p p')(i:Nat){d d':Value}(h:VR X B d d'):VR X B (p.getD i d) (p'.getD i d'):=by
 rw[Amf,Amf]
 rcases k.get i with⟨v,v',h1,h2,h3⟩ |⟨h1,h2⟩
 ·rw[h1,h2];exact h3
 ·rw[h1,h2];exact h
theorem Du {X:Cx}{B:Lk}:VR X B undef undef:=.tuple rfl (fun i v v' a _=>by simp at a)
theorem VR.cells {X:Cx}{B:Lk}{v v':Value}(h:VR X B v v'):AR X B v.cells v'.cells:=by
 cases h with
 | agg h1 h2=>exact⟨h1,h2⟩
 | gone a l c e=>exact AR.one (.gone a l c e)
 | _=>exact AR.one (by constructor<;>assumption)
inductive LR (X:Cx)(B:Lk):List Value->List Value->Prop
 | nil:LR X B [] []
 | cons {v v':Value} {l l':List Value}:VR X B v v'->LR X B l l'->LR X B (v :: l) (v' :: l')
theorem LR.of {X:Cx}{B:Lk}:∀{l l':List Value},l.length=l'.length ->(∀(i:Nat) v v',l[i]?=some v->l'[i]?=some v'->VR X B v v')->LR X B l l'
 | [],[],_,_=>.nil
 | v :: l,v' :: l',hl,h=>.cons (h 0 v v' rfl rfl) (LR.of (by simpa using hl) fun i a b ha hb=>h (i+1) a b (by simpa using ha) (by simpa using hb))
 | [],_ :: _,hl,_=>by simp at hl
 | _ :: _,[],hl,_=>by simp at hl
theorem AR.toList {X:Cx}{B:Lk}{p p':Array Value}(k:AR X B p p'):LR X B p.toList p'.toList :=
 LR.of (by simpa using k.1) fun i v v' a b=>k.2 i v v' (by simpa using a) (by simpa using b)
theorem LR.mono {X:Cx}{B B':Lk}(h:Le B B'){l l':List Value}(k:LR X B l l'):LR X B' l l':=by
 induction k with
 | nil=>exact .nil
 | cons a _ ih=>exact .cons (a.mono h) ih
def A37:Builtin->Bool
 | .append|.cap|.close|.complex|.imag|.len|.max|.min|.real|.copy=>true
 | _=>false
inductive TgR (X:Cx)(B:Lk):Target->Target->Prop
 | fn {f f':Fn} {p p':Array Value}:FnR X B f f'->AR X B p p'->TgR X B (.fn f p) (.fn f' p')
 | nil:TgR X B .nil .nil
 | builtin (b:Builtin) (ts:Array TypeId) (t:TypeId) (cs:Array Bool):A37 b=true->TgR X B (.builtin b ts t cs) (.builtin b ts t cs)
 | collected {r r':Nat}:B r r'->TgR X B (.collected r) (.collected r')
theorem TgR.mono {X:Cx}{B B':Lk}(h:Le B B'){t t':Target}(k:TgR X B t t'):TgR X B' t t':=by
 cases k with
 | fn f p=>exact .fn (f.mono h) (p.mono h)
 | nil=>exact .nil
 | builtin b ts t cs h=>exact .builtin b ts t cs h
 | collected r=>exact .collected (h _ _ r)
def DfR (X:Cx)(B:Lk)(d d':Deferred):Prop:=TgR X B d.target d'.target/\AR X B d.args d'.args
theorem DfR.mono {X:Cx}{B B':Lk}(h:Le B B'){d d':Deferred}(k:DfR X B d d'):DfR X B' d d':=⟨k.1.mono h,k.2.mono h⟩
inductive Rf (X:Cx)(B:Lk):List Deferred->List Deferred->Prop
 | nil:Rf X B [] []
 | cons {d d':Deferred} {l l':List Deferred}:(X.Dn\/∃r,d.target=.collected r)->DfR X B d d'->Rf X B l l'->Rf X B (d :: l) (d' :: l')
theorem Rf.mono {X:Cx}{B B':Lk}(h:Le B B'){l l':List Deferred}(k:Rf X B l l'):Rf X B' l l':=by
 induction k with
 | nil=>exact .nil
 | cons q a _ ih=>exact .cons q (a.mono h) ih
theorem Rf.append {X:Cx}{B:Lk}{l l' m m':List Deferred}(h:Rf X B l l')(k:Rf X B m m'):Rf X B (l++m) (l'++m'):=by
 induction h with
 | nil=>exact k
 | cons q a _ ih=>exact .cons q a ih
def Hv (X:Cx):Operand->Prop
 | .tmp _=>True
 | .const v=>Flat X v
 | .global g=>X.G g
 | .func f=>X.C f/\¬X.T f
def NoD (K:Oper->Prop):Oper->Prop:=fun o=>K o/\∀c,o.op≠.defer c
def Mw (X:Cx):(Oper->Prop)->Code->Code->Prop
 | _,.refuse why,d=>8<why.length\/X.R why d
 | K,.region id ops q,d=>d=.region id ops q/\∀o∈ops,K o
 | K,.seq a b,d=>∃a' b',d=.seq a' b'/\Mw X K a a'/\Mw X K b b'
 | K,.cond c a b,d=>∃a' b',d=.cond c a' b'/\Hv X c/\Mw X K a a'/\Mw X K b b'
 | K,.rangeFunc f p a b,d=>∃a' b',d=.rangeFunc f p a' b'/\Hv X f/\Mw X (NoD K) a a'/\Mw X (NoD K) b b'
 | K,.block i c,d=>∃c',d=.block i c'/\Mw X K c c'
 | K,.loop c,d=>∃c',d=.loop c'/\Mw X K c c'
 | K,.scope c,d=>∃c',d=.scope c'/\Mw X K c c'
 | _,.goto _,_=>False
 | _,.skip,d=>d=.skip
 | _,.ret,d=>d=.ret
 | _,.exit i,d=>d=.exit i
 | _,.label i,d=>d=.label i
abbrev CdR (X:Cx):Code->Code->Prop:=Mw X X.K
abbrev CdN (X:Cx):Code->Code->Prop:=Mw X (NoD X.K)
theorem NoD.mono {K K':Oper->Prop}(h:∀o,K o->K' o):∀o,NoD K o->NoD K' o:=fun o x=>⟨h o x.1,x.2⟩
theorem Mw.mono {X:Cx}:∀{c d:Code} {K K':Oper->Prop},(∀o,K o->K' o)->Mw X K c d->Mw X K' c d
 | .refuse _,_,_,_,_,k=>k
 | .region _ _ _,_,_,_,h,⟨k1,k2⟩=>⟨k1,fun o ho=>h o (k2 o ho)⟩
 | .seq _ _,_,_,_,h,⟨a',b',e,k1,k2⟩=>⟨a',b',e,k1.mono h,k2.mono h⟩
 | .cond _ _ _,_,_,_,h,⟨a',b',e,q,k1,k2⟩=>⟨a',b',e,q,k1.mono h,k2.mono h⟩
 | .rangeFunc _ _ _ _,_,_,_,h,⟨a',b',e,q,k1,k2⟩=>⟨a',b',e,q,k1.mono (NoD.mono h),k2.mono (NoD.mono h)⟩
 | .block _ _,_,_,_,h,⟨c',e,k⟩=>⟨c',e,k.mono h⟩
 | .loop _,_,_,_,h,⟨c',e,k⟩=>⟨c',e,k.mono h⟩
 | .scope _,_,_,_,h,⟨c',e,k⟩=>⟨c',e,k.mono h⟩
 | .goto _,_,_,_,_,k=>k
 | .skip,_,_,_,_,k=>k
 | .ret,_,_,_,_,k=>k
 | .exit _,_,_,_,_,k=>k
 | .label _,_,_,_,_,k=>k
def Ab5 (o:Oper):Bool:=match o.op with
 | .defer _=>true
 | _=>false
def Fl:Code->Bool
 | .region _ ops _=>ops.all fun o=>!Ab5 o
 | .seq a b=>Fl a && Fl b
 | .cond _ a b=>Fl a && Fl b
 | .rangeFunc _ _ a b=>Fl a && Fl b
 | .block _ c=>Fl c
 | .loop c=>Fl c
 | .scope c=>Fl c
 | _=>true
theorem Mw.noD {X:Cx}:∀{c d:Code} {K:Oper->Prop},Mw X K c d->Fl c=true->Mw X (NoD K) c d
 | .refuse _,_,_,k,_=>k
 | .region _ ops _,_,_,⟨k1,k2⟩,h=>⟨k1,fun o ho=>⟨k2 o ho,fun c e=>by
  have h:(ops.all fun o=>!Ab5 o)=true:=h
  rw[Amr]at h;have:=h o ho;unfold Ab5 at this;rw[e]at this
  cases this⟩⟩
 | .seq _ _,_,_,⟨a',b',e,k1,k2⟩,h=>by
   simp only[Fl,Am8]at h
   exact⟨a',b',e,k1.noD h.1,k2.noD h.2⟩
 | .cond _ _ _,_,_,⟨a',b',e,q,k1,k2⟩,h=>by
   simp only[Fl,Am8]at h
   exact⟨a',b',e,q,k1.noD h.1,k2.noD h.2⟩
 | .rangeFunc _ _ _ _,_,_,⟨a',b',e,q,k1,k2⟩,h=>by
   simp only[Fl,Am8]at h
   exact⟨a',b',e,q,k1.noD h.1,k2.noD h.2⟩
 | .block _ _,_,_,⟨c',e,k⟩,h=>⟨c',e,k.noD h⟩
 | .loop _,_,_,⟨c',e,k⟩,h=>⟨c',e,k.noD h⟩
 | .scope _,_,_,⟨c',e,k⟩,h=>⟨c',e,k.noD h⟩
 | .goto _,_,_,k,_=>k
 | .skip,_,_,k,_=>k
 | .ret,_,_,k,_=>k
 | .exit _,_,_,k,_=>k
 | .label _,_,_,k,_=>k
structure LpR (X:Cx)(B:Lk)(l l':Loop):Prop where
 state:l'.state=l.state
 pending:l'.pending=l.pending
 pok:∀c,l.pending=some c->∀K,Mw X K c c
 fn:l'.fn=l.fn
 tmps:AR X B l.tmps l'.tmps
 params:l'.params=l.params
 assign:CdN X l.assign l'.assign
 body:CdN X l.body l'.body
 defers:B l.defers l'.defers
theorem LpR.mono {X:Cx}{B B':Lk}(h:Le B B'){l l':Loop}(k:LpR X B l l'):LpR X B' l l' :=
 ⟨k.state,k.pending,k.pok,k.fn,k.tmps.mono h,k.params,k.assign,k.body,h _ _ k.defers⟩
inductive Um (X:Cx)(B:Lk):Obj->Obj->Prop
 | cells {c c':Array Value} (t:TypeId) (f:Nat×Nat):AR X B c c'->Um X B (.cells c t f) (.cells c' t f)
 | chan (cap:Nat) {b b':Array Value} (cl:Bool) (s r:Nat) (tm:Bool):AR X B b b'->Um X B (.chan cap b cl s r tm) (.chan cap b' cl s r tm)
 | number {a a':Addr} (l:Bool):Ce X B a a'->Um X B (.number a l) (.number a' l)
 | stringIter (s:ByteArray) (p:Nat):Um X B (.stringIter s p) (.stringIter s p)
 | loop {l l':Loop}:LpR X B l l'->Um X B (.loop l) (.loop l')
 | A0d:Um X B (.deferred none) (.deferred none)
 | A0e {l l':List Deferred}:Rf X B l l'->Um X B (.deferred (some l)) (.deferred (some l'))
 | view (t:TypeId) {a a':Addr}:X.Ex->Ce X B a a'->Um X B (.view a t) (.view a' t)
theorem Um.mono {X:Cx}{B B':Lk}(h:Le B B'){o o':Obj}(k:Um X B o o'):Um X B' o o':=by
 cases k with
 | cells t f a=>exact .cells t f (a.mono h)
 | chan cap cl s r tm a=>exact .chan cap cl s r tm (a.mono h)
 | number l a=>exact .number l (a.mono h)
 | stringIter s p=>exact .stringIter s p
 | loop a=>exact .loop (a.mono h)
 | A0d=>exact .A0d
 | A0e a=>exact .A0e (a.mono h)
 | view t e a=>exact .view t e (a.mono h)
def PR (X:Cx)(B:Lk)(l:Nat)(p p':Array Value):Prop:=p.size<=p'.size/\∀(i:Nat) v v',l<=i->p[i]?=some v->p'[i]?=some v'->VR X B v v'
theorem PR.mono {X:Cx}{B B':Lk}(h:Le B B'){l:Nat}{p p':Array Value}(k:PR X B l p p'):PR X B' l p p':=⟨k.1,fun i v v' g a b=>(k.2 i v v' g a b).mono h⟩
theorem AR.part {X:Cx}{B:Lk}{p p':Array Value}(k:AR X B p p')(l:Nat):PR X B l p p':=⟨Aof k.1,fun i v v' _ a b=>k.2 i v v' a b⟩
theorem PR.get {X:Cx}{B:Lk}{l:Nat}{p p':Array Value}(k:PR X B l p p')(i:Nat)(h:l<=i):(∃v v',p[i]?=some v/\p'[i]?=some v'/\VR X B v v')\/p[i]?=none:=by
 rcases Aqs i p.size with g|g
 ·have h':i<p'.size:=Am2 g k.1
  exact .inl ⟨p[i],p'[i],Am6 g,Am6 h',k.2 i _ _ h (Am6 g) (Am6 h')⟩
 ·exact .inr (Ao0 g)
def TyR (X:Cx)(b:Nat)(t t':TypeId)(n:Nat):Prop:=(X.L b≠0/\X.N<=b/\X.Z t) \/((X.L b=0\/b<X.N)/\t'=t /\(X.L b=0\/X.Mv t n (X.L b)))
theorem TyR.same {X:Cx}{b:Nat}{t:TypeId}{n:Nat}(h:X.L b=0):TyR X b t t n:=.inr ⟨.inl h,rfl,.inl h⟩
theorem Cx.exL {X:Cx}(h:X.Ex)(b:Nat):X.L b=0:=Anm fun x=>X.exF h b (X.lf b x)
structure WR (X:Cx)(B:Lk)(V W:World):Prop where
 tape:W.tape=V.tape
 drawn:W.drawn=V.drawn
 os:W.os=V.os
 output:W.output=V.output
 fn:∀b b₁ b₂,B b b₁->B b b₂->b₁=b₂
 inj:∀b₁ b₂ b',B b₁ b'->B b₂ b'->b₁=b₂
 G8:∀g,X.G g->B g g
 live:∀b b',B b b'->¬X.D b->¬X.F b->∃o o',V.heap[b]?=some o/\W.heap[b']?=some o'/\Um X B o o'
 Hj:∀b b',B b b'->¬X.D b->X.F b->∃c c' t t' f,V.heap[b]?=some (.cells c t (0,c.size))/\W.heap[b']?=some (.cells c' t' f)/\PR X B (X.L b) c c'/\TyR X b t t' c.size
 dead:∀b b',B b b'->X.D b ->(∃t,V.heap[b]?=some (.cells #[] t))/\b'<W.heap.size
 Vv:∀b,X.D b->b<V.heap.size
 Qo:∀b,X.F b->b<V.heap.size
 low:∀b b',B b b' ->(b<X.N↔b'<X.N)
 nV:X.N<=V.heap.size
 nW:X.N<=W.heap.size
theorem WR.Wo {X:Cx}{B:Lk}{V W:World}(h:WR X B V W){b b':Nat}(k:B b b'):b<V.heap.size:=by
 by_cases d:X.D b
 ·exact h.Vv b d
 ·by_cases f:X.F b
  ·exact h.Qo b f
  ·obtain⟨o,o',e,_⟩:=h.live b b' k d f
   exact(Alx.1 e).1
theorem WR.ltW {X:Cx}{B:Lk}{V W:World}(h:WR X B V W){b b':Nat}(k:B b b'):b'<W.heap.size:=by
 by_cases d:X.D b
 ·exact(h.dead b b' k d).2
 ·by_cases f:X.F b
  ·obtain⟨_,_,_,_,_,_,e,_⟩:=h.Hj b b' k d f
   exact(Alx.1 e).1
  ·obtain⟨o,o',_,e,_⟩:=h.live b b' k d f
   exact(Alx.1 e).1
structure Ext (X:Cx)(B:Lk)(V W:World)(B':Lk)(V' W':World):Prop where
 le:Le B B'
 new:∀b b',B' b b'->B b b' \/(V.heap.size<=b/\W.heap.size<=b')
 A25:V.heap.size<=V'.heap.size
 Tt:W.heap.size<=W'.heap.size
 tape:W'.tape=W.tape
 osV:V'.os=V.os/\V'.output=V.output
 kept:∀b',b'<W.heap.size ->(∀b,B b b'->X.D b\/X.F b)->W'.heap[b']?=W.heap[b']?
theorem Ext.refl (X:Cx)(B:Lk)(V W:World):Ext X B V W B V W:=⟨Le.refl _,fun _ _ h=>.inl h,Am0 _,Am0 _,rfl,⟨rfl,rfl⟩,fun _ _ _=>rfl⟩
theorem Ext.trans {X:Cx}{B B' B'':Lk}{V V' V'' W W' W'':World}(h:Ext X B V W B' V' W')(k:Ext X B' V' W' B'' V'' W''):Ext X B V W B'' V'' W'' where
 le:=h.le.trans k.le
 new b b' x:=by
  rcases k.new b b' x with y |⟨y1,y2⟩
  ·exact h.new b b' y
  ·exact .inr ⟨Am1 h.A25 y1,Am1 h.Tt y2⟩
 A25:=Am1 h.A25 k.A25
 Tt:=Am1 h.Tt k.Tt
 tape:=k.tape.trans h.tape
 osV:=⟨k.osV.1.trans h.osV.1,k.osV.2.trans h.osV.2⟩
 kept b' hb hd:=by
  rw[k.kept b' (Am2 hb h.Tt) (fun b x=>?_)]
  ·exact h.kept b' hb hd
  ·rcases h.new b b' x with y |⟨_,y⟩
   ·exact hd b y
   ·omega
def Zl (X:Cx)(B:Lk)(e:Event):Prop :=
 match e.loc with
 | .cell a=>(∃b,B b a.block/\¬X.D b /\(e.write=true->¬X.F b))/\e.sync=false
 | .obj r=>(∃b,B b r/\¬X.D b/\¬X.F b)
 | .mark m=>m=.noRoom\/∃f,m=.extern f
 | _=>False
theorem Zl.mono {X:Cx}{B B':Lk}(h:Le B B'){e:Event}(k:Zl X B e):Zl X B' e:=by
 unfold Zl at *
 split<;>simp_all only
 ·obtain⟨⟨b,h1,h2⟩,h3⟩:=k
  exact⟨⟨b,h _ _ h1,h2⟩,trivial⟩
 ·obtain⟨b,h1,h2⟩:=k
  exact⟨b,h _ _ h1,h2⟩
end Lr
namespace Lr
section
variable {P P' : Program} (h : P'.toTables = P.toTables)
include h
theorem Bo (t:TypeId):P'.underlying t=P.underlying t:=by unfold Program.underlying;rw[h]
theorem A6r (t:TypeId):P'.info? t=P.info? t:=by rw[h]
theorem Ft:P'.depth=P.depth:=by unfold Program.depth;rw[h]
theorem Dr (t:TypeId):P'.cellsOf t=P.cellsOf t:=by unfold Program.cellsOf;rw[h]
theorem Gy (t:TypeId):P'.bytesOf t=P.bytesOf t:=by unfold Program.bytesOf;rw[h]
theorem Hs:∀(d:Nat) (t:TypeId) (off:Nat),byteOfCell P' d t off=byteOfCell P d t off
 | 0,_,_=>rfl
 | d+1,t,off=>by
   unfold Go.byteOfCell;rw[Bo h];simp only[Dr h,Gy h,Hs d]
theorem Kc:∀(d:Nat) (t:TypeId) (off:Nat),cellHolding P' d t off=cellHolding P d t off
 | 0,_,_=>rfl
 | d+1,t,off=>by
   unfold Go.cellHolding;rw[Bo h];simp only[Dr h,Gy h,Kc d]
theorem O1:∀(d:Nat) (t:TypeId) (off:Nat),plainCell P' d t off=plainCell P d t off
 | 0,_,_=>rfl
 | d+1,t,off=>by
   unfold Go.plainCell;rw[Bo h];simp only[Dr h,O1 d]
theorem A2u:∀(d:Nat) (t:TypeId),tight P' d t=tight P d t
 | 0,_=>rfl
 | d+1,t=>by
   unfold Go.tight;rw[Bo h];simp only[Gy h,A2u d]
theorem O3 (c:Array Value)(e:TypeId):∀(f x s:Nat),seenCells P' c e f x s=seenCells P c e f x s
 | 0,_,_=>rfl
 | f+1,x,s=>by
   unfold Go.seenCells;simp only[Dr h,Gy h,Kc h,Ft h,O3 c e f]
theorem A6s (w:World)(a k:Addr)(u:TypeId)(q:Bool):w.seen P' a u k q=w.seen P a u k q:=by
 unfold World.seen;simp only[Dr h,Gy h,Hs h,Ft h,O3 h,O1 h]
theorem A2v (w:World)(a k:Addr)(u:TypeId)(q:Bool):w.viewLoad P' a u k q=w.viewLoad P a u k q:=by
 unfold World.viewLoad;simp only[A6s h]
theorem Z8 (w:World)(a k:Addr)(u:TypeId)(v:Value)(q:Bool):w.viewStore P' a u k v q=w.viewStore P a u k v q:=by
 unfold World.viewStore;simp only[A6s h,A2u h,Ft h]
theorem Acx (t:TypeId):P'.underlyingId t=P.underlyingId t:=by unfold Program.underlyingId;rw[h]
theorem A2r:∀(n:Nat) (t u:TypeId),P'.alikeButTags n t u=P.alikeButTags n t u
 | 0,_,_=>rfl
 | n+1,t,u=>by
   unfold Program.alikeButTags;simp only[A6r h,A2r n]
theorem Z7 (t:TypeId):P'.stoodInAs t=P.stoodInAs t:=by
 unfold Program.stoodInAs;simp only[Bo h,Acx h,Ft h,A2r h];rw[show P'.cutTypes=P.cutTypes from congrArg Tables.cutTypes h]
theorem Gz (t:TypeId):P'.stoodInHeld t=P.stoodInHeld t:=by
 unfold Program.stoodInHeld;simp only[A6r h,Z7 h]
theorem A2s:∀(n:Nat) (t:TypeId),P'.holdsStoodIn n t=P.holdsStoodIn n t
 | 0,_=>rfl
 | n+1,t=>by
   unfold Program.holdsStoodIn;simp only[Bo h,Gz h,A2s n]
theorem Lu:∀(n:Nat) (t u:TypeId),sameLayout P' n t u=sameLayout P n t u
 | 0,_,_=>rfl
 | n+1,t,u=>by
   unfold Go.sameLayout;simp only[Bo h,Acx h,Gz h,Lu n]
theorem A2t (fits:TypeId->Bool):∀(n:Nat) (e:TypeId) (c o m:Nat),rowAt P' fits n e c o m=rowAt P fits n e c o m
 | 0,_,_,_,_=>rfl
 | n+1,e,c,o,m=>by
   unfold Go.rowAt;simp only[Bo h,Dr h,Gz h,A2t fits n]
theorem Xa:∀(n:Nat) (e c o u m:Nat),liesAt P' n e c o u m=liesAt P n e c o u m
 | 0,_,_,_,_,_=>rfl
 | n+1,e,c,o,u,m=>by
   unfold Go.liesAt;have:(fun x=>sameLayout P' P.depth x u)=fun x=>sameLayout P P.depth x u:=by funext x;rw[Lu h]
   simp only[Bo h,A2t h,Ft h,this,Xa n]
end
end Lr
namespace Lr
theorem VR.bytes {X:Cx}{B:Lk}{v v':Value}(h:VR X B v v'):v'.bytes?=v.bytes?:=by cases h<;>rfl
theorem VR.ofBytes {X:Cx}{B:Lk}{v v' w:Value}{bs:List UInt8}(h:VR X B v v')(e:v.ofBytes bs=some w):v'.ofBytes bs=some w/\Flat X w:=by
 cases h<;>first |(cases e;done)|skip
 all_goals
  refine⟨e,fun B=>?_⟩
  unfold Value.ofBytes at e;dsimp only at e
  split at e<;>first |(cases e;done) |(cases e;constructor)
theorem Hm {X:Cx}{B:Lk}{P:Program}{c c':Array Value}(h:AR X B c c')(e:TypeId):∀(f x s:Nat),seenCells P c' e f x s=seenCells P c e f x s
 | 0,_,_=>rfl
 | f+1,x,s=>by
   unfold Go.seenCells;simp only[Hm h e f]
   split
   ·rfl
   split
   ·rfl
   split
   ·rfl
   rename_i i b _
   rcases h.get i with⟨v,v',e1,e2,e3⟩ |⟨e1,e2⟩
   ·rw[e1,e2];dsimp only;rw[e3.bytes]
   ·rw[e1,e2]
theorem Tr {P:Program}{V W:World}{a a' k k':Addr}{c c':Array Value}{e:TypeId}{f f':Nat×Nat}(hV:V.heap[a.block]?=some (.cells c e f))(hW:W.heap[a'.block]?=some (.cells c' e f'))(h:∀e f x s,seenCells P c' e f x s=seenCells P c e f x s)
 (ho:a'.off=a.off) (hs:a'.spot=a.spot) (ko:k'.off=k.off) (ks:k'.spot=k.spot) (u:TypeId) :
 W.seen P a' u k' false=(V.seen P a u k false).map fun(_,_,_,r)=>(c',e,f',r):=by
 unfold World.seen;rw[hV,hW,ho,hs,ko,ks];simp only[h]
 cases k.spot.isSome || a.spot.isSome
 case true=>rfl
 simp only[Amk,Ao5]
 cases plainCell P P.depth u k.off with
 | none=>rfl
 | some like =>
 dsimp only
 cases Option.map (fun x=>x.length) like.bytes? with
 | none=>rfl
 | some size =>
 dsimp only
 cases byteOfCell P P.depth u k.off with
 | none=>rfl
 | some b =>
 dsimp only
 by_cases h0:P.cellsOf e=0
 ·rw[Amo h0,Amo h0];rfl
 rw[Amd h0,Amd h0]
 cases byteOfCell P P.depth e (a.off % P.cellsOf e)with
 | none=>rfl
 | some b0 =>
 dsimp only
 cases seenCells P c e (size+1) (a.off / P.cellsOf e*P.bytesOf e+b0+b) (a.off / P.cellsOf e*P.bytesOf e+b0+b+size)with
 | error _=>rfl
 | ok l=>rfl
theorem A21 {P:Program}{V:World}{a k:Addr}{u:TypeId}(h:∀c e f,V.heap[a.block]?≠some (.cells c e f)):∃why,V.seen P a u k false=.error why:=by
 unfold World.seen
 cases k.spot.isSome || a.spot.isSome
 case true=>exact⟨_,rfl⟩
 simp only[Amk,Ao5]
 cases plainCell P P.depth u k.off with
 | none=>exact⟨_,rfl⟩
 | some like =>
 dsimp only
 cases Option.map (fun x=>x.length) like.bytes? with
 | none=>exact⟨_,rfl⟩
 | some size =>
 dsimp only
 cases byteOfCell P P.depth u k.off with
 | none=>exact⟨_,rfl⟩
 | some b =>
 first
  | exact⟨_,rfl⟩
  |(dsimp only
    split
    ·rename_i e
     exact absurd e (h _ _ _)
    ·exact⟨_,rfl⟩)
theorem Zd {P:Program}{V W:World}{a a' k k':Addr}{c c':Array Value}{e:TypeId}{f f':Nat×Nat}(hV:V.heap[a.block]?=some (.cells c e f))(hW:W.heap[a'.block]?=some (.cells c' e f'))(h:∀e f x s,seenCells P c' e f x s=seenCells P c e f x s)
 (ho:a'.off=a.off) (hs:a'.spot=a.spot) (ko:k'.off=k.off) (ks:k'.spot=k.spot) {u:TypeId} {v:Value} {l:List Addr} (hl:V.viewLoad P a u k false=.ok (v,l)) :
 (∀X,Flat X v)/\∃l',W.viewLoad P a' u k' false=.ok (v,l')/\∀x∈l',x.block=a'.block:=by
 unfold World.viewLoad at hl ⊢;rw[Tr hV hW h ho hs ko ks]
 cases hx:V.seen P a u k false with
 | error w=>rw[hx]at hl;cases hl
 | ok r =>
   obtain⟨c1,e1,f1,first,like,cells⟩:=r;rw[hx]at hl;simp only[Except.map,bind,Except.bind]at hl ⊢
   split at hl
   ·rename_i w hw
    cases hl
    refine⟨fun X B=>?_,_,rfl,fun x hx=>?_⟩
    ·generalize hb:List.flatMap _ cells=bs at hw;clear hb;unfold Value.ofBytes at hw
     split at hw
     ·split at hw<;>first |(cases hw;done) |(cases hw;constructor)
     ·split at hw<;>first |(cases hw;done) |(cases hw;constructor)
     ·split at hw<;>first |(cases hw;done) |(cases hw;constructor)
     ·split at hw<;>first |(cases hw;done) |(cases hw;constructor)
     ·cases hw
    ·obtain⟨y,_,rfl⟩:=Anp.1 hx
     rfl
   ·cases hl
def Er (frozen:Nat×Nat)(first:Nat)(bytes:List UInt8)(c:Array Value)(x:Nat×Nat×List UInt8):Except String (Array Value) :=
 if(decide (x.2.1<first) || decide (x.2.1+x.2.2.length > first+bytes.length))=true then .error "memory seen as another type: a part of a cell written" else
 if(decide (frozen.1<=x.1) && decide (x.1<frozen.2))=true then .error "a write to bytes that a string shares" else
 match c[x.1]? with
 | none=>.error "memory seen as another type: no such cell"
 | some old=>match old.ofBytes ((bytes.drop (x.2.1-first)).take x.2.2.length)with
   | none=>.error "memory seen as another type: a bool from a byte other than 0 or 1"
   | some new=>.ok (c.setIfInBounds x.1 new)
theorem A4m {f:Nat×Nat}{first:Nat}{bytes:List UInt8}{c c2:Array Value}{x:Nat×Nat×List UInt8}(h:Er f first bytes c x=.ok c2) :
 (decide (x.2.1<first) || decide (x.2.1+x.2.2.length > first+bytes.length))=false /\(decide (f.1<=x.1) && decide (x.1<f.2))=false/\∃old new,c[x.1]?=some old/\old.ofBytes ((bytes.drop (x.2.1-first)).take x.2.2.length)=some new/\c2=c.setIfInBounds x.1 new:=by
 unfold Er at h
 split at h
 ·cases h
 rename_i h1
 split at h
 ·cases h
 rename_i h2
 split at h
 ·cases h
 split at h
 ·cases h
 cases h
 exact⟨by simpa using h1,by simpa using h2,_,_,by assumption,by assumption,rfl⟩
theorem A4l {f:Nat×Nat}{first:Nat}{bytes:List UInt8}{c:Array Value}{x:Nat×Nat×List UInt8}{old new:Value}(h1:(decide (x.2.1<first) || decide (x.2.1+x.2.2.length > first+bytes.length))=false)(h2:(decide (f.1<=x.1) && decide (x.1<f.2))=false)
 (h3:c[x.1]?=some old) (h4:old.ofBytes ((bytes.drop (x.2.1-first)).take x.2.2.length)=some new):Er f first bytes c x=.ok (c.setIfInBounds x.1 new):=by
 unfold Er;rw[h1,h2,h3];simp only[Amk,Ao5];rw[h4]
theorem A0n {X:Cx}{B:Lk}{f:Nat×Nat}{first:Nat}{bytes:List UInt8}:∀{l:List (Nat×Nat×List UInt8)} {c c' c2:Array Value},AR X B c c'->l.foldlM (Er f first bytes) c=.ok c2->∃c2',l.foldlM (Er f first bytes) c'=.ok c2'/\AR X B c2 c2'
 | [],c,c',c2,h,e=>by
   simp only[List.foldlM_nil]at e ⊢
   cases e
   exact⟨c',rfl,h⟩
 | x :: l,c,c',c2,h,e=>by
   simp only[List.foldlM_cons]at e ⊢
   cases hx:Er f first bytes c x with
   | error w=>rw[hx]at e;cases e
   | ok c1 =>
     rw[hx]at e;obtain⟨h1,h2,old,new,h3,h4,rfl⟩:=A4m hx
     rcases h.get x.1 with⟨v,v',e1,e2,e3⟩ |⟨e1,_⟩
     ·rw[h3]at e1
      cases e1
      obtain⟨g1,g2⟩:=e3.ofBytes h4;rw[A4l h1 h2 e2 g1]
      exact A0n (h.set _ (g2 B)) e
     ·rw[h3]at e1;cases e1
theorem O5 {P:Program}{w:World}{a k:Addr}{u:TypeId}{v:Value}:w.viewStore P a u k v false=(if !tight P P.depth u then .error "memory seen as another type: a store through a type with padding" else
 match w.seen P a u k false with
 | .error y=>.error y
 | .ok (c,e,f,first,like,cells)=>match v.bytes? with
   | none=>.error "memory seen as another type: a value that is no plain data"
   | some bytes=>if some bytes.length≠like.bytes?.map (·.length)then .error "memory seen as another type: a value of another size" else
     match cells.foldlM (Er f first bytes) c with
     | .error y=>.error y
     | .ok c=>.ok ({ w with heap:=w.heap.setIfInBounds a.block (.cells c e f) },cells.map fun(i,_,_)=>{ block:=a.block,off:=i })):=by
 unfold World.viewStore
 cases !tight P P.depth u with
 | true=>rfl
 | false =>
   simp only[Amk,Ao5]
   cases w.seen P a u k false with
   | error y=>rfl
   | ok r =>
     obtain⟨c,e,f,first,like,cells⟩:=r;dsimp only[bind,Except.bind]
     cases v.bytes? with
     | none=>rfl
     | some bytes =>
       dsimp only
       by_cases hb:some bytes.length≠like.bytes?.map (·.length)
       ·rw[Amo hb,Amo hb];rfl
       ·rw[Amd hb,Amd hb];generalize hg:(List.foldlM _ c cells:Except String (Array Value))=R
        have hp:List.foldlM (Er f first bytes) c cells=R:=by
         rw[<-hg]
         refine congrArg (fun g=>List.foldlM g c cells) (funext fun c=>funext fun x=>Eq.symm ?_)
         unfold Er
         cases decide (x.2.1<first) || decide (x.2.1+x.2.2.length > first+bytes.length)with
         | true=>rfl
         | false =>
           cases decide (f.1<=x.1) && decide (x.1<f.2)with
           | true=>rfl
           | false =>
             simp only[Amk,Ao5]
             cases c[x.1]? with
             | none=>rfl
             | some old =>
               dsimp only
               cases old.ofBytes ((bytes.drop (x.2.1-first)).take x.2.2.length)<;>rfl
        rw[hp]
        cases R<;>rfl
theorem Ve {X:Cx}{B:Lk}{P:Program}{V W V1:World}{a a' k k':Addr}{c c':Array Value}{e:TypeId}{f:Nat×Nat}(hV:V.heap[a.block]?=some (.cells c e f))(hW:W.heap[a'.block]?=some (.cells c' e f))(h:AR X B c c')
 (ho:a'.off=a.off) (hs:a'.spot=a.spot) (ko:k'.off=k.off) (ks:k'.spot=k.spot) {u:TypeId} {v v':Value} (hv:VR X B v v') {l:List Addr} (hl:V.viewStore P a u k v false=.ok (V1,l)) :
 ∃c1 c1' l',V1={ V with heap:=V.heap.setIfInBounds a.block (.cells c1 e f) }/\AR X B c1 c1'/\W.viewStore P a' u k' v' false=.ok ({ W with heap:=W.heap.setIfInBounds a'.block (.cells c1' e f) },l')/\∀x∈l',x.block=a'.block:=by
 have hself:=Tr (P:=P) hV hV (fun _ _ _ _=>rfl) rfl rfl (rfl:k.off=k.off) rfl u
 rw[O5]at hl ⊢;rw[Tr hV hW (fun e f x s=>Hm h e f x s) ho hs ko ks,hv.bytes]
 cases ht:!tight P P.depth u with
 | true=>rw[ht]at hl;cases hl
 | false =>
   rw[ht]at hl;simp only[Amk,Ao5]at hl ⊢
   cases hx:V.seen P a u k false with
   | error w=>rw[hx]at hl;cases hl
   | ok r =>
     rw[hx]at hself hl;obtain⟨c2,e2,f2,first,like,cells⟩:=r;simp only[Except.map]at hself hl ⊢;injection hself with hself
     simp only[Prod.mk.injEq,and_true]at hself;obtain⟨rfl,rfl,rfl⟩:=hself
     cases hb:v.bytes? with
     | none=>rw[hb]at hl;cases hl
     | some bytes =>
       rw[hb]at hl;dsimp only at hl ⊢
       split at hl
       ·cases hl
       rename_i hn
       rw[Amd hn]
       cases hc:List.foldlM (Er f2 first bytes) c2 cells with
       | error w=>rw[hc]at hl;cases hl
       | ok c3 =>
         rw[hc]at hl
         cases hl
         obtain⟨c3',g1,g2⟩:=A0n h hc;rw[g1]
         refine⟨c3,c3',_,rfl,g2,rfl,fun x hx=>?_⟩
         obtain⟨y,_,rfl⟩:=Anp.1 hx
         rfl
end Lr
end Go.Proofs.YtjaehldnlamgkaaGreatDoor
