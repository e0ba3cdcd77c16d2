import Derived.Conc.Own
import Derived.Conc.Events
import Derived.Laws.Sem
import Derived.Test.YtlfleicchbgcmaaGreatZq0
set_option linter.all false
set_option maxHeartbeats 16000000
set_option maxRecDepth 100000
namespace Go.Proofs.YtlfleicchbgcmaaGreat
namespace Lr
abbrev Lk:=Nat->Nat->Prop
def Le (B B':Lk):Prop:=∀b b',B b b'->B' b b'
theorem Le.refl (B:Lk):Le B B:=fun _ _ h=>h
theorem Le.trans {A B C:Lk}(h:Le A B)(k:Le B C):Le A C:=fun b b' x=>k b b' (h b b' x)
structure Cx where
 C:FuncId->Prop
 M:String->Prop
 As:Prop
 T:FuncId->Prop
 K:Oper->Prop
 D:Nat->Prop
 F:Nat->Prop
 G:Nat->Prop
 N:Nat
 R:String->Code->Prop
 Dn:Prop
 L:Nat->Nat
 Mv:TypeId->Nat->Nat->Prop
 Z:TypeId->Prop
 lf:∀b,L b≠0->F b
 Ar:Nat->Nat->Prop
 asG:As->G N
def E2 (X:Cx)(B:Lk)(a a':Addr):Prop:=(B a.block a'.block/\¬X.D a.block) /\(a'.off=a.off/\X.L a.block<=a.off)/\a'.spot=a.spot
theorem E2.mono {X:Cx}{B B':Lk}(h:Le B B'){a a':Addr}(k:E2 X B a a'):E2 X B' a a':=⟨⟨h _ _ k.1.1,k.1.2⟩,k.2⟩
theorem E2.add {X:Cx}{B:Lk}{a a':Addr}(k:E2 X B a a')(n:Nat):E2 X B (a.add n) (a'.add n):=by
 unfold Addr.add
 split
 ·exact k
 ·exact⟨k.1,⟨by simp[k.2.1.1],Ai5 k.2.1.2 (Nat.le_add_right _ _)⟩,rfl⟩
inductive FnR (X:Cx)(B:Lk):Fn->Fn->Prop
 | func (f:FuncId):X.C f->¬X.T f->FnR X B (.func f) (.func f)
 | method (n:String):X.M n->FnR X B (.method n) (.method n)
 | methodOf (t:TypeId) (n:String):X.M n->FnR X B (.methodOf t n) (.methodOf t n)
 | yield (l l':Nat):B l l'->FnR X B (.yield l) (.yield l')
theorem FnR.mono {X:Cx}{B B':Lk}(h:Le B B'){f f':Fn}(k:FnR X B f f'):FnR X B' f f':=by
 cases k with
 | func f c t=>exact .func f c t
 | method n c=>exact .method n c
 | methodOf t n c=>exact .methodOf t n c
 | yield l l' c=>exact .yield l l' (h _ _ c)
inductive VR (X:Cx)(B:Lk):Value->Value->Prop
 | bool (b:Bool):VR X B (.bool b) (.bool b)
 | int (k:IntKind) (n:Int):VR X B (.int k n) (.int k n)
 | float (k:FloatKind) (n:Nat):VR X B (.float k n) (.float k n)
 | complex (k:FloatKind) (n m:Nat):VR X B (.complex k n m) (.complex k n m)
 | string (s:ByteArray):VR X B (.string s) (.string s)
 | Qg:VR X B (.pointer none) (.pointer none)
 | ptr {a a':Addr}:E2 X B a a'->VR X B (.pointer (some a)) (.pointer (some a'))
 | Kv (l c:Nat):VR X B (.slice none l c) (.slice none l c)
 | slice {a a':Addr} (l c:Nat):E2 X B a a'->VR X B (.slice (some a) l c) (.slice (some a') l c)
 | A70:VR X B (.map none) (.map none)
 | map {r r':Nat}:B r r'->VR X B (.map (some r)) (.map (some r'))
 | A6f:VR X B (.chan none) (.chan none)
 | chan {r r':Nat}:B r r'->VR X B (.chan (some r)) (.chan (some r'))
 | func {f f':Fn} {p p' q q':Array Value}:FnR X B f f'->p.size=p'.size ->(∀(i:Nat) v v',p[i]?=some v->p'[i]?=some v'->VR X B v v') ->
  q.size=q'.size ->(∀(i:Nat) v v',q[i]?=some v->q'[i]?=some v'->VR X B v v')->VR X B (.func f p q) (.func f' p' q')
 | nilFunc:VR X B .nilFunc .nilFunc
 | iface (t:TypeId) {v v':Value}:VR X B v v'->VR X B (.iface t v) (.iface t v')
 | nilIface:VR X B .nilIface .nilIface
 | agg {p p':Array Value}:p.size=p'.size ->(∀(i:Nat) v v',p[i]?=some v->p'[i]?=some v'->VR X B v v')->VR X B (.agg p) (.agg p')
 | tuple {p p':Array Value}:p.size=p'.size ->(∀(i:Nat) v v',p[i]?=some v->p'[i]?=some v'->VR X B v v')->VR X B (.tuple p) (.tuple p')
theorem VR.mono {X:Cx}{B B':Lk}(h:Le B B'){v v':Value}(k:VR X B v v'):VR X B' v v':=by
 induction k with
 | bool b=>exact .bool b
 | int k n=>exact .int k n
 | float k n=>exact .float k n
 | complex k n m=>exact .complex k n m
 | string s=>exact .string s
 | Qg=>exact .Qg
 | ptr a=>exact .ptr (a.mono h)
 | Kv l c=>exact .Kv l c
 | slice l c a=>exact .slice l c (a.mono h)
 | A70=>exact .A70
 | map r=>exact .map (h _ _ r)
 | A6f=>exact .A6f
 | chan r=>exact .chan (h _ _ r)
 | func f hp _ hq _ ip iq=>exact .func (f.mono h) hp ip hq iq
 | nilFunc=>exact .nilFunc
 | iface t _ i=>exact .iface t i
 | nilIface=>exact .nilIface
 | agg hp _ i=>exact .agg hp i
 | tuple hp _ i=>exact .tuple hp i
def AR (X:Cx)(B:Lk)(p p':Array Value):Prop:=p.size=p'.size/\∀(i:Nat) v v',p[i]?=some v->p'[i]?=some v'->VR X B v v'
theorem AR.mono {X:Cx}{B B':Lk}(h:Le B B'){p p':Array Value}(k:AR X B p p'):AR X B' p p':=⟨k.1,fun i v v' a b=>(k.2 i v v' a b).mono h⟩
theorem AR.agg {X:Cx}{B:Lk}{p p':Array Value}(k:AR X B p p'):VR X B (.agg p) (.agg p'):=.agg k.1 k.2
theorem AR.tuple {X:Cx}{B:Lk}{p p':Array Value}(k:AR X B p p'):VR X B (.tuple p) (.tuple p'):=.tuple k.1 k.2
def Flat (X:Cx)(v:Value):Prop:=∀B,VR X B v v
theorem AR.get {X:Cx}{B:Lk}{p p':Array Value}(k:AR X B p p')(i:Nat):(∃v v',p[i]?=some v/\p'[i]?=some v'/\VR X B v v') \/(p[i]?=none/\p'[i]?=none):=by
 rcases Alv i p.size with h|h
 ·have h':i<p'.size:=k.1▸h
  exact .inl ⟨p[i],p'[i],Ai8 h,Ai8 h',k.2 i _ _ (Ai8 h) (Ai8 h')⟩
 ·exact .inr ⟨Al9 h,Al9 (k.1▸h)⟩
theorem AR.nil {X:Cx}{B:Lk}:AR X B #[] #[]:=⟨rfl,fun i v v' a _=>by simp at a⟩
theorem AR.push {X:Cx}{B:Lk}{p p':Array Value}(k:AR X B p p'){v v':Value}(h:VR X B v v'):AR X B (p.push v) (p'.push v'):=by
 refine⟨by simp[k.1],fun i a b ha hb=>?_⟩
 rw[Aie]at ha hb;rw[<-k.1]at hb
 split at ha
 ·rename_i hi
  rw[Aij hi]at hb
  cases ha;cases hb;exact h
 ·rename_i hi
  rw[Aid hi]at hb
  exact k.2 i a b ha hb
theorem AR.one {X:Cx}{B:Lk}{v v':Value}(h:VR X B v v'):AR X B #[v] #[v']:=AR.push AR.nil h
theorem AR.append {X:Cx}{B:Lk}{p p' q q':Array Value}(k:AR X B p p')(l:AR X B q q'):AR X B (p++q) (p'++q'):=by
 refine⟨by simp[k.1,l.1],fun i a b ha hb=>?_⟩
 rw[Array.getElem?_append]at ha hb;rw[<-k.1]at hb
 split at ha
 ·rename_i hi
  rw[Aij hi]at hb
  exact k.2 i a b ha hb
 ·rename_i hi
  rw[Aid hi]at hb
  exact l.2 _ a b ha hb
theorem AR.set {X:Cx}{B:Lk}{p p':Array Value}(k:AR X B p p')(i:Nat){v v':Value}(h:VR X B v v'):AR X B (p.setIfInBounds i v) (p'.setIfInBounds i v'):=by
 refine⟨by simp[k.1],fun j a b ha hb=>?_⟩
 rw[Ait]at ha hb;rw[<-k.1]at hb
 split at ha
 ·rename_i hi
  rw[Aij hi]at hb
  split at ha
  ·rename_i hl
   rw[Aij hl]at hb
   cases ha;cases hb;exact h
  ·cases ha
 ·rename_i hi
  rw[Aid hi]at hb
  exact k.2 j a b ha hb
theorem AR.extract {X:Cx}{B:Lk}{p p':Array Value}(k:AR X B p p')(i j:Nat):AR X B (p.extract i j) (p'.extract i j):=by
 refine⟨by simp[k.1],fun n a b ha hb=>?_⟩
 rw[Array.getElem?_extract]at ha hb;rw[<-k.1]at hb
 split at ha
 ·rename_i hi
  rw[Aij hi]at hb
  exact k.2 _ a b ha hb
 ·cases ha
theorem AR.map {X:Cx}{B:Lk}{ι:Type}(l:Array ι){f g:ι->Value}(h:∀x∈l,VR X B (f x) (g x)):AR X B (l.map f) (l.map g):=by
 refine⟨by simp,fun i a b ha hb=>?_⟩
 simp only[Aj4,Aif]at ha hb;obtain⟨x,hx,rfl⟩:=ha;obtain⟨y,hy,rfl⟩:=hb
 cases hx.symm.trans hy
 exact h x (Aj2 hx)
theorem AR.replicate {X:Cx}{B:Lk}(n:Nat){v v':Value}(h:VR X B v v'):AR X B (Array.replicate n v) (Array.replicate n v'):=by
 refine⟨by simp,fun i a b ha hb=>?_⟩
 rw[Array.getElem?_replicate]at ha hb
 split at ha
 ·rename_i hi
  rw[Aij hi]at hb
  cases ha;cases hb;exact h
 ·cases ha
theorem AR.getD {X:Cx}{B:Lk}{p p':Array Value}(k:AR X B p p')(i:Nat){d d':Value}(h:VR X B d d'):VR X B (p.getD i d) (p'.getD i d'):=by
 rw[Aio,Aio]
 rcases k.get i with⟨v,v',h1,h2,h3⟩ |⟨h1,h2⟩
 ·rw[h1,h2];exact h3
 ·rw[h1,h2];exact h
theorem Ga {X:Cx}{B:Lk}:VR X B undef undef:=.tuple rfl (fun i v v' a _=>by simp at a)
theorem VR.cells {X:Cx}{B:Lk}{v v':Value}(h:VR X B v v'):AR X B v.cells v'.cells:=by
 cases h with
 | agg h1 h2=>exact⟨h1,h2⟩
 | _=>exact AR.one (by constructor<;>assumption)
inductive LR (X:Cx)(B:Lk):List Value->List Value->Prop
 | nil:LR X B [] []
 | cons {v v':Value} {l l':List Value}:VR X B v v'->LR X B l l'->LR X B (v :: l) (v' :: l')
theorem LR.of {X:Cx}{B:Lk}:∀{l l':List Value},l.length=l'.length ->(∀(i:Nat) v v',l[i]?=some v->l'[i]?=some v'->VR X B v v')->LR X B l l'
 | [],[],_,_=>.nil
 | v :: l,v' :: l',hl,h=>.cons (h 0 v v' rfl rfl) (LR.of (by simpa using hl) fun i a b ha hb=>h (i+1) a b (by simpa using ha) (by simpa using hb))
 | [],_ :: _,hl,_=>by simp at hl
 | _ :: _,[],hl,_=>by simp at hl
theorem AR.toList {X:Cx}{B:Lk}{p p':Array Value}(k:AR X B p p'):LR X B p.toList p'.toList :=
 LR.of (by simpa using k.1) fun i v v' a b=>k.2 i v v' (by simpa using a) (by simpa using b)
theorem LR.mono {X:Cx}{B B':Lk}(h:Le B B'){l l':List Value}(k:LR X B l l'):LR X B' l l':=by
 induction k with
 | nil=>exact .nil
 | cons a _ ih=>exact .cons (a.mono h) ih
def A88:Builtin->Bool
 | .append|.cap|.close|.complex|.imag|.len|.max|.min|.real=>true
 | _=>false
inductive TgR (X:Cx)(B:Lk):Target->Target->Prop
 | fn {f f':Fn} {p p':Array Value}:FnR X B f f'->AR X B p p'->TgR X B (.fn f p) (.fn f' p')
 | nil:TgR X B .nil .nil
 | builtin (b:Builtin) (ts:Array TypeId) (t:TypeId) (cs:Array Bool):A88 b=true->TgR X B (.builtin b ts t cs) (.builtin b ts t cs)
 | collected {r r':Nat}:B r r'->TgR X B (.collected r) (.collected r')
theorem TgR.mono {X:Cx}{B B':Lk}(h:Le B B'){t t':Target}(k:TgR X B t t'):TgR X B' t t':=by
 cases k with
 | fn f p=>exact .fn (f.mono h) (p.mono h)
 | nil=>exact .nil
 | builtin b ts t cs h=>exact .builtin b ts t cs h
 | collected r=>exact .collected (h _ _ r)
def DfR (X:Cx)(B:Lk)(d d':Deferred):Prop:=TgR X B d.target d'.target/\AR X B d.args d'.args
theorem DfR.mono {X:Cx}{B B':Lk}(h:Le B B'){d d':Deferred}(k:DfR X B d d'):DfR X B' d d':=⟨k.1.mono h,k.2.mono h⟩
inductive R5 (X:Cx)(B:Lk):List Deferred->List Deferred->Prop
 | nil:R5 X B [] []
 | cons {d d':Deferred} {l l':List Deferred}:(X.Dn\/∃r,d.target=.collected r)->DfR X B d d'->R5 X B l l'->R5 X B (d :: l) (d' :: l')
theorem R5.mono {X:Cx}{B B':Lk}(h:Le B B'){l l':List Deferred}(k:R5 X B l l'):R5 X B' l l':=by
 induction k with
 | nil=>exact .nil
 | cons q a _ ih=>exact .cons q (a.mono h) ih
theorem R5.append {X:Cx}{B:Lk}{l l' m m':List Deferred}(h:R5 X B l l')(k:R5 X B m m'):R5 X B (l++m) (l'++m'):=by
 induction h with
 | nil=>exact k
 | cons q a _ ih=>exact .cons q a ih
def It (X:Cx):Operand->Prop
 | .tmp _=>True
 | .const v=>Flat X v
 | .global g=>X.G g
 | .func f=>X.C f/\¬X.T f
def Jy (X:Cx):Code->Code->Prop
 | .refuse why,d=>why = "unsupported: a function without a Go body is entered" \/ X.R why d
 | .region id ops q,d=>d=.region id ops q/\∀o∈ops,X.K o
 | .seq a b,d=>∃a' b',d=.seq a' b'/\Jy X a a'/\Jy X b b'
 | .cond c a b,d=>∃a' b',d=.cond c a' b'/\It X c/\Jy X a a'/\Jy X b b'
 | .rangeFunc f p a b,d=>∃a' b',d=.rangeFunc f p a' b'/\It X f/\Jy X a a'/\Jy X b b'
 | .block i c,d=>∃c',d=.block i c'/\Jy X c c'
 | .loop c,d=>∃c',d=.loop c'/\Jy X c c'
 | .scope c,d=>∃c',d=.scope c'/\Jy X c c'
 | .goto _,_=>False
 | .skip,d=>d=.skip
 | .ret,d=>d=.ret
 | .exit i,d=>d=.exit i
 | .label i,d=>d=.label i
structure LpR (X:Cx)(B:Lk)(l l':Loop):Prop where
 state:l'.state=l.state
 pending:l'.pending=l.pending
 pok:∀c,l.pending=some c->Jy X c c
 fn:l'.fn=l.fn
 tmps:AR X B l.tmps l'.tmps
 params:l'.params=l.params
 assign:Jy X l.assign l'.assign
 body:Jy X l.body l'.body
 defers:B l.defers l'.defers
theorem LpR.mono {X:Cx}{B B':Lk}(h:Le B B'){l l':Loop}(k:LpR X B l l'):LpR X B' l l' :=
 ⟨k.state,k.pending,k.pok,k.fn,k.tmps.mono h,k.params,k.assign,k.body,h _ _ k.defers⟩
inductive X8 (X:Cx)(B:Lk):Obj->Obj->Prop
 | cells {c c':Array Value} (t:TypeId) (f:Nat×Nat):AR X B c c'->X8 X B (.cells c t f) (.cells c' t f)
 | chan (cap:Nat) {b b':Array Value} (cl:Bool) (s r:Nat) (tm:Bool):AR X B b b'->X8 X B (.chan cap b cl s r tm) (.chan cap b' cl s r tm)
 | number {a a':Addr} (l:Bool):E2 X B a a'->X8 X B (.number a l) (.number a' l)
 | stringIter (s:ByteArray) (p:Nat):X8 X B (.stringIter s p) (.stringIter s p)
 | loop {l l':Loop}:LpR X B l l'->X8 X B (.loop l) (.loop l')
 | A00:X8 X B (.deferred none) (.deferred none)
 | A01 {l l':List Deferred}:R5 X B l l'->X8 X B (.deferred (some l)) (.deferred (some l'))
theorem X8.mono {X:Cx}{B B':Lk}(h:Le B B'){o o':Obj}(k:X8 X B o o'):X8 X B' o o':=by
 cases k with
 | cells t f a=>exact .cells t f (a.mono h)
 | chan cap cl s r tm a=>exact .chan cap cl s r tm (a.mono h)
 | number l a=>exact .number l (a.mono h)
 | stringIter s p=>exact .stringIter s p
 | loop a=>exact .loop (a.mono h)
 | A00=>exact .A00
 | A01 a=>exact .A01 (a.mono h)
def PR (X:Cx)(B:Lk)(l:Nat)(p p':Array Value):Prop:=p.size<=p'.size/\∀(i:Nat) v v',l<=i->p[i]?=some v->p'[i]?=some v'->VR X B v v'
theorem PR.mono {X:Cx}{B B':Lk}(h:Le B B'){l:Nat}{p p':Array Value}(k:PR X B l p p'):PR X B' l p p':=⟨k.1,fun i v v' g a b=>(k.2 i v v' g a b).mono h⟩
theorem AR.part {X:Cx}{B:Lk}{p p':Array Value}(k:AR X B p p')(l:Nat):PR X B l p p':=⟨Al3 k.1,fun i v v' _ a b=>k.2 i v v' a b⟩
theorem PR.get {X:Cx}{B:Lk}{l:Nat}{p p':Array Value}(k:PR X B l p p')(i:Nat)(h:l<=i):(∃v v',p[i]?=some v/\p'[i]?=some v'/\VR X B v v')\/p[i]?=none:=by
 rcases Alv i p.size with g|g
 ·have h':i<p'.size:=Ai9 g k.1
  exact .inl ⟨p[i],p'[i],Ai8 g,Ai8 h',k.2 i _ _ h (Ai8 g) (Ai8 h')⟩
 ·exact .inr (Al9 g)
def TyR (X:Cx)(b:Nat)(t t':TypeId)(n:Nat):Prop:=(X.L b≠0/\X.N<=b/\X.Z t) \/((X.L b=0\/b<X.N)/\t'=t /\(X.L b=0\/X.Mv t n (X.L b)))
theorem TyR.same {X:Cx}{b:Nat}{t:TypeId}{n:Nat}(h:X.L b=0):TyR X b t t n:=.inr ⟨.inl h,rfl,.inl h⟩
structure WR (X:Cx)(B:Lk)(V W:World):Prop where
 tape:W.tape=V.tape
 drawn:W.drawn=V.drawn
 os:W.os=V.os
 output:W.output=V.output
 fn:∀b b₁ b₂,B b b₁->B b b₂->b₁=b₂
 inj:∀b₁ b₂ b',B b₁ b'->B b₂ b'->b₁=b₂
 Hm:∀g,X.G g->B g g
 live:∀b b',B b b'->¬X.D b->¬X.F b->∃o o',V.heap[b]?=some o/\W.heap[b']?=some o'/\X8 X B o o'
 Ip:∀b b',B b b'->¬X.D b->X.F b->∃c c' t t' f,V.heap[b]?=some (.cells c t (0,c.size))/\W.heap[b']?=some (.cells c' t' f)/\PR X B (X.L b) c c'/\TyR X b t t' c.size
 dead:∀b b',B b b'->X.D b ->(∃t,V.heap[b]?=some (.cells #[] t))/\b'<W.heap.size
 Vc:∀b,X.D b->b<V.heap.size
 Rw:∀b,X.F b->b<V.heap.size
 low:∀b b',B b b' ->(b<X.N↔b'<X.N)
 nV:X.N<=V.heap.size
 nW:X.N<=W.heap.size
theorem WR.Vw {X:Cx}{B:Lk}{V W:World}(h:WR X B V W){b b':Nat}(k:B b b'):b<V.heap.size:=by
 by_cases d:X.D b
 ·exact h.Vc b d
 ·by_cases f:X.F b
  ·exact h.Rw b f
  ·obtain⟨o,o',e,_⟩:=h.live b b' k d f
   exact(Ai2.1 e).1
theorem WR.ltW {X:Cx}{B:Lk}{V W:World}(h:WR X B V W){b b':Nat}(k:B b b'):b'<W.heap.size:=by
 by_cases d:X.D b
 ·exact(h.dead b b' k d).2
 ·by_cases f:X.F b
  ·obtain⟨_,_,_,_,_,_,e,_⟩:=h.Ip b b' k d f
   exact(Ai2.1 e).1
  ·obtain⟨o,o',_,e,_⟩:=h.live b b' k d f
   exact(Ai2.1 e).1
structure Ext (X:Cx)(B:Lk)(V W:World)(B':Lk)(V' W':World):Prop where
 le:Le B B'
 new:∀b b',B' b b'->B b b' \/(V.heap.size<=b/\W.heap.size<=b')
 A1s:V.heap.size<=V'.heap.size
 Sz:W.heap.size<=W'.heap.size
 tape:W'.tape=W.tape
 osV:V'.os=V.os/\V'.output=V.output
 kept:∀b',b'<W.heap.size ->(∀b,B b b'->X.D b\/X.F b)->W'.heap[b']?=W.heap[b']?
theorem Ext.refl (X:Cx)(B:Lk)(V W:World):Ext X B V W B V W:=⟨Le.refl _,fun _ _ h=>.inl h,Ai3 _,Ai3 _,rfl,⟨rfl,rfl⟩,fun _ _ _=>rfl⟩
theorem Ext.trans {X:Cx}{B B' B'':Lk}{V V' V'' W W' W'':World}(h:Ext X B V W B' V' W')(k:Ext X B' V' W' B'' V'' W''):Ext X B V W B'' V'' W'' where
 le:=h.le.trans k.le
 new b b' x:=by
  rcases k.new b b' x with y |⟨y1,y2⟩
  ·exact h.new b b' y
  ·exact .inr ⟨Ai5 h.A1s y1,Ai5 h.Sz y2⟩
 A1s:=Ai5 h.A1s k.A1s
 Sz:=Ai5 h.Sz k.Sz
 tape:=k.tape.trans h.tape
 osV:=⟨k.osV.1.trans h.osV.1,k.osV.2.trans h.osV.2⟩
 kept b' hb hd:=by
  rw[k.kept b' (Ai9 hb h.Sz) (fun b x=>?_)]
  ·exact h.kept b' hb hd
  ·rcases h.new b b' x with y |⟨_,y⟩
   ·exact hd b y
   ·omega
def Z9 (X:Cx)(B:Lk)(e:Event):Prop :=
 match e.loc with
 | .cell a=>(∃b,B b a.block/\¬X.D b /\(e.write=true->¬X.F b))/\e.sync=false
 | .obj r=>(∃b,B b r/\¬X.D b/\¬X.F b)
 | .mark m=>m=.noRoom\/∃f,m=.extern f
 | _=>False
theorem Z9.mono {X:Cx}{B B':Lk}(h:Le B B'){e:Event}(k:Z9 X B e):Z9 X B' e:=by
 unfold Z9 at *
 split<;>simp_all only
 ·obtain⟨⟨b,h1,h2⟩,h3⟩:=k
  exact⟨⟨b,h _ _ h1,h2⟩,trivial⟩
 ·obtain⟨b,h1,h2⟩:=k
  exact⟨b,h _ _ h1,h2⟩
end Lr
namespace Lr
def Gs (X:Cx)(B:Lk)(n:Array Event):Prop:=∀e∈n,Z9 X B e
theorem Gs.nil {X:Cx}{B:Lk}:Gs X B #[]:=fun e h=>by simp at h
theorem Gs.append {X:Cx}{B:Lk}{n m:Array Event}(h:Gs X B n)(k:Gs X B m):Gs X B (n++m):=fun e x=>(Array.mem_append.1 x).elim (h e) (k e)
theorem Gs.mono {X:Cx}{B B':Lk}(h:Le B B'){n:Array Event}(k:Gs X B n):Gs X B' n:=fun e x=>(k e x).mono h
def Kc:Halt->Prop
 | .stuck _|.exit _=>True
 | .unsupported (.initOrder _)=>False
 | .unsupported _=>True
 | _=>False
def Abg (X:Cx)(P':Program){α β:Type}(R:Lk->α->β->Prop)(B:Lk)(V W:World)(s':Sem β):Result α->Prop
 | .ok a V'=>∃(B':Lk) (W':World) (b:β) (n:Array Event),Ext X B V W B' V' W'/\WR X B' V' W' /\(∀es,s'.runT P' W es=(.ok b W',es++n))/\R B' a b/\Gs X B' n
 | .halt (.panic v) V'=>∃(B':Lk) (W':World) (v':Value) (n:Array Event),Ext X B V W B' V' W'/\WR X B' V' W' /\(∀es,s'.runT P' W es=(.halt (.panic v') W',es++n))/\VR X B' v v'/\Gs X B' n
 | .halt h _=>Kc h
def Q8 (P:Program){α:Type}(s:Sem α)(V:World):Prop:=∀es,∀e∈(s.runT P V es).2,e∈es\/e.loc≠.output
def Clean (P:Program){α:Type}(s:Sem α)(V:World):Prop:=(∃h V',s.run P V=.halt h V'/\Kc h)\/Q8 P s V
def SR (X:Cx)(P P':Program){α β:Type}(R:Lk->α->β->Prop)(B:Lk)(s:Sem α)(s':Sem β):Prop:=∀V W,WR X B V W->Clean P s V/\Abg X P' R B V W s' (s.run P V)
theorem A6s {P:Program}{α:Type}(a:α)(V:World):Q8 P (Pure.pure a:Sem α) V:=fun es e h=>.inl (by simpa [Pure.pure,Sem.runT,-Sem.runT_eq]using h)
theorem A33 {P:Program}{α:Type}(v:Value)(V:World):Q8 P (goPanic v:Sem α) V:=fun es e h=>.inl (by simpa [goPanic,Sem.runT,-Sem.runT_eq]using h)
def Same {α:Type}(_:Lk)(a b:α):Prop:=b=a
theorem Au {X:Cx}{P':Program}{α β:Type}{R:Lk->α->β->Prop}{B:Lk}{V W V':World}{s':Sem β}{h:Halt}(n:Kc h):Abg X P' R B V W s' (.halt h V'):=by
 cases h with
 | panic v=>exact n.elim
 | _=>exact n
theorem Ha {X:Cx}{P':Program}{α β:Type}{R:Lk->α->β->Prop}{B:Lk}{V W V':World}{s':Sem β}{h:Halt}(hp:∀v,h≠.panic v)(k:Abg X P' R B V W s' (.halt h V')):Kc h:=by
 cases h with
 | panic v=>exact absurd rfl (hp v)
 | _=>exact k
theorem G6 (h:Halt):(∃v,h=.panic v)\/∀v,h≠.panic v:=by
 cases h with
 | panic v=>exact .inl ⟨v,rfl⟩
 | _=>exact .inr fun v e=>by cases e
theorem SR.halt {X:Cx}{P P':Program}{α β:Type}{R:Lk->α->β->Prop}{B:Lk}{s':Sem β}{h:Halt}(n:Kc h):SR X P P' R B (Sem.halt h:Sem α) s':=fun _ _ _=>⟨.inl ⟨h,_,rfl,n⟩,Au n⟩
theorem SR.stuck {X:Cx}{P P':Program}{α β:Type}{R:Lk->α->β->Prop}{B:Lk}{s':Sem β}{why:String}:SR X P P' R B (Go.stuck why:Sem α) s':=.halt trivial
theorem SR.unsupported {X:Cx}{P P':Program}{α β:Type}{R:Lk->α->β->Prop}{B:Lk}{s':Sem β}{u:Unsupported}(h:Kc (.unsupported u):=by trivial):SR X P P' R B (Go.unsupported u:Sem α) s':=.halt h
theorem SR.Cq {X:Cx}{P P':Program}{α β γ:Type}{R:Lk->γ->β->Prop}{B:Lk}{s':Sem β}{why:String}{f:α->Sem γ}:SR X P P' R B ((Go.stuck why:Sem α) >>= f) s':=fun _ _ _=>⟨.inl ⟨.stuck why,_,rfl,trivial⟩,Au (h:=.stuck why) trivial⟩
theorem SR.Ay {X:Cx}{P P':Program}{α β γ:Type}{R:Lk->γ->β->Prop}{B:Lk}{s':Sem β}{u:Unsupported}{f:α->Sem γ}(h:Kc (.unsupported u):=by trivial):SR X P P' R B ((Go.unsupported u:Sem α) >>= f) s':=fun _ _ _=>⟨.inl ⟨.unsupported u,_,rfl,h⟩,Au (h:=.unsupported u) h⟩
theorem SR.pure {X:Cx}{P P':Program}{α β:Type}{R:Lk->α->β->Prop}{B:Lk}{a:α}{b:β}(h:R B a b):SR X P P' R B (Pure.pure a:Sem α) (Pure.pure b:Sem β) :=
 fun V W hw=>⟨.inr (A6s a V),B,W,b,#[],Ext.refl ..,hw,fun es=>by simp[Pure.pure,Sem.runT,-Sem.runT_eq],h,.nil⟩
theorem SR.mono {X:Cx}{P P':Program}{α β:Type}{R R':Lk->α->β->Prop}{B:Lk}{s:Sem α}{s':Sem β}(h:SR X P P' R B s s')(hr:∀B' a b,R B' a b->R' B' a b):SR X P P' R' B s s':=by
 intro V W hw;obtain⟨hcl,this⟩:=h V W hw
 refine⟨hcl,?_⟩
 generalize s.run P V=r at this ⊢
 match r,this with
 | .ok a V',⟨B',W',b,n,h1,h2,h3,h4,h5⟩=>exact⟨B',W',b,n,h1,h2,h3,hr _ _ _ h4,h5⟩
 | .halt e V',k =>
   rcases G6 e with⟨v,rfl⟩|hp
   ·exact k
   ·exact Au (Ha hp k)
theorem run_bind' {α β:Type}(P:Program)(x:Sem α)(f:α->Sem β)(w:World):(x >>= f).run P w=match x.run P w with
 | .ok a w'=>(f a).run P w'
 | .halt h w'=>.halt h w':=by
 rw[Sem.run_bind]
 cases x.run P w<;>rfl
theorem SR.bind {X:Cx}{P P':Program}{α β γ δ:Type}{R:Lk->α->β->Prop}{R2:Lk->γ->δ->Prop}{B:Lk}{s:Sem α}{s':Sem β}{f:α->Sem γ}{f':β->Sem δ}
 (h:SR X P P' R B s s') (hf:∀B',Le B B'->∀a b,R B' a b->SR X P P' R2 B' (f a) (f' b)):SR X P P' R2 B (s >>= f) (s' >>= f'):=by
 intro V W hw;obtain⟨hcl,this⟩:=h V W hw
 refine⟨?_,?_⟩
 ·rcases hcl with⟨x,V',e1,e2⟩|hcl
  ·exact .inl ⟨x,V',by rw[run_bind',e1],e2⟩
  ·have ev:∀es,(s >>= f).runT P V es=match s.runT P V es with
    |(.ok a V1,es1)=>(f a).runT P V1 es1
    |(.halt h V1,es1)=>(.halt h V1,es1):=fun es=>by
    show(s.bind f).runT P V es=_
    rw[Sem.runT_bind'];generalize s.runT P V es=q;obtain⟨r,es1⟩:=q
    cases r<;>rfl
   have hfst:∀es,(s.runT P V es).1=s.run P V:=fun es=>by rw[Sem.runT_eq]
   cases hs:s.run P V with
   | halt x V1 =>
     refine .inr fun es e he=>?_
     rw[ev]at he;have h1:=hfst es;have h2:=hcl es e;generalize s.runT P V es=q at he h1 h2;obtain⟨r,es1⟩:=q;dsimp only at h1;subst h1;rw[hs]at he
     exact h2 he
   | ok a V1 =>
     rw[hs]at this;obtain⟨B',W',b,n,h1,h2,h3,h4,h5⟩:=this
     rcases(hf B' h1.le a b h4 V1 W' h2).1 with⟨x,V2,e1,e2⟩|hc2
     ·exact .inl ⟨x,V2,by rw[run_bind',hs];exact e1,e2⟩
     ·refine .inr fun es e he=>?_
      rw[ev]at he;have h1:=hfst es;have h2:=hcl es;generalize s.runT P V es=q at he h1 h2;obtain⟨r,es1⟩:=q;dsimp only at h1;subst h1;rw[hs]at he
      rcases hc2 es1 e he with h|h
      ·exact h2 e h
      ·exact .inr h
 rw[run_bind'];generalize s.run P V=r at this ⊢
 have join:∀{o:Result β} {W':World} {n:Array Event},(∀es,s'.runT P' W es=(o,es++n))->∀es,(s' >>= f').runT P' W es=match o with
  | .ok b W'=>(f' b).runT P' W' (es++n)
  | .halt h W'=>(.halt h W',es++n):=by
  intro o W' n hn es
  show(s'.bind f').runT P' W es=_
  rw[Sem.runT_bind',hn]
  cases o<;>rfl
 match r,this with
 | .ok a V',⟨B',W',b,n,h1,h2,h3,h4,h5⟩ =>
   have k:=(hf B' h1.le a b h4 V' W' h2).2
   show Abg X P' R2 B V W (s' >>= f') ((f a).run P V')
   generalize (f a).run P V'=r2 at k ⊢
   match r2,k with
   | .ok c V'',⟨B'',W'',d,m,g1,g2,g3,g4,g5⟩ =>
     exact⟨B'',W'',d,n++m,h1.trans g1,g2,fun es=>by rw[join (W':=W') h3,<-Array.append_assoc];exact g3 _,g4,(h5.mono g1.le).append g5⟩
   | .halt e V'',k =>
     rcases G6 e with⟨v,rfl⟩|hp
     ·obtain⟨B'',W'',d,m,g1,g2,g3,g4,g5⟩:=k
      exact⟨B'',W'',d,n++m,h1.trans g1,g2,fun es=>by rw[join (W':=W') h3,<-Array.append_assoc];exact g3 _,g4,(h5.mono g1.le).append g5⟩
     ·exact Au (Ha hp k)
 | .halt e V',k =>
   rcases G6 e with⟨v,rfl⟩|hp
   ·obtain⟨B',W',v',n,h1,h2,h3,h4,h5⟩:=k
    exact⟨B',W',v',n,h1,h2,fun es=>by rw[join (W':=W') h3],h4,h5⟩
   ·exact Au (Ha hp k)
theorem SR.map {X:Cx}{P P':Program}{α β γ δ:Type}{R:Lk->α->β->Prop}{R2:Lk->γ->δ->Prop}{B:Lk}{s:Sem α}{s':Sem β}{f:α->γ}{f':β->δ}
 (h:SR X P P' R B s s') (hf:∀B',Le B B'->∀a b,R B' a b->R2 B' (f a) (f' b)):SR X P P' R2 B (f <$> s) (f' <$> s'):=SR.bind h fun B' hl a b r=>SR.pure (hf B' hl a b r)
theorem SR.ite {X:Cx}{P P':Program}{α β:Type}{R:Lk->α->β->Prop}{B:Lk}{c:Prop}[Decidable c]{s t:Sem α}{s' t':Sem β}(h:c->SR X P P' R B s s')(k:¬c->SR X P P' R B t t') :
 SR X P P' R B (if c then s else t) (if c then s' else t'):=by
 by_cases x:c
 ·rw[Aij x,Aij x];exact h x
 ·rw[Aid x,Aid x];exact k x
theorem SR.panic {X:Cx}{P P':Program}{α β:Type}{R:Lk->α->β->Prop}{B:Lk}{v v':Value}(h:VR X B v v'):SR X P P' R B (goPanic v:Sem α) (goPanic v':Sem β) :=
 fun V W hw=>⟨.inr (A33 v V),B,W,v',#[],Ext.refl ..,hw,fun es=>by simp[goPanic,Sem.runT,-Sem.runT_eq],h,.nil⟩
theorem SR.Adr {X:Cx}{P P':Program}{α β:Type}{R:Lk->α->β->Prop}{B:Lk}{s:Sem α}{s':Sem β}
 (h:(∀b b₁ b₂,B b b₁->B b b₂->b₁=b₂) ->(∀b₁ b₂ b',B b₁ b'->B b₂ b'->b₁=b₂) ->(∀b b',B b b' ->(b<X.N↔b'<X.N))->SR X P P' R B s s'):SR X P P' R B s s' :=
 fun V W hw=>h hw.fn hw.inj hw.low V W hw
theorem A0d {P:Program}(q:Question)(V:World):Q8 P (Go.choose q) V:=fun es e h=>by
 unfold Go.choose at h;simp only[Sem.runT]at h
 split at h<;>exact .inl h
theorem Y1 {P:Program}(V:World):Q8 P Go.program V:=fun es e h=>.inl (by simpa [Go.program,Sem.runT,-Sem.runT_eq]using h)
theorem A6r {P:Program}(m:Mark)(V:World):Q8 P (Go.mark m) V:=fun es e h=>by
 have h:e∈es.push ⟨.mark m,false,true⟩:=by simpa [Go.mark,Sem.runT,-Sem.runT_eq]using h
 rcases Amq.1 h with h|rfl
 ·exact .inl h
 ·exact .inr (by intro e;cases e)
theorem A9f {P:Program}(o:Obj)(V:World):Q8 P (Go.newObj o) V:=fun es e h=>.inl (by simpa [Go.newObj,Sem.runT,-Sem.runT_eq]using h)
theorem A34 {P:Program}(r:Nat)(V:World):Q8 P (Go.shape r) V:=fun es e h=>.inl (by simpa [Go.shape,Sem.runT,-Sem.runT_eq]using h)
theorem A0e {P:Program}(r:Nat)(V:World):Q8 P (Go.getObj r) V:=fun es e h=>by
 unfold Go.getObj at h;simp only[Sem.runT]at h
 split at h
 ·exact .inl h
 ·rcases Amq.1 h with h|rfl
  ·exact .inl h
  ·exact .inr (by intro e;cases e)
 ·exact .inl h
theorem A0f {P:Program}(r:Nat)(o:Obj)(V:World):Q8 P (Go.setObj r o) V:=fun es e h=>by
 unfold Go.setObj at h;simp only[Sem.runT]at h
 split at h
 ·exact .inl h
 ·rcases Amq.1 h with h|rfl
  ·exact .inl h
  ·exact .inr (by intro e;cases e)
 ·exact .inl h
theorem Rz {es:Array Event}{l:List Addr}{b c:Bool}{e:Event}(h:e∈es++l.toArray.map fun a=>(⟨.cell a,b,c⟩:Event)):e∈es\/e.loc≠.output:=by
 rcases Array.mem_append.1 h with h|h
 ·exact .inl h
 ·obtain⟨a,_,rfl⟩:=Array.mem_map.1 h
  exact .inr (by intro e;cases e)
theorem A6q {P:Program}(a:Addr)(V:World):Q8 P (Go.load a) V:=fun es e h=>by
 unfold Go.load at h;simp only[Sem.runT]at h
 split at h
 ·rcases Amq.1 h with h|rfl
  ·exact .inl h
  ·exact .inr (by intro e;cases e)
 ·split at h
  ·exact Rz h
  ·exact .inl h
theorem A35 {P:Program}(a:Addr)(v:Value)(V:World):Q8 P (Go.store a v) V:=fun es e h=>by
 have key:∀(r:Result Unit×Array Event),(r=(.halt (.stuck "store: not the value of one cell") V,es)\/r=(match V.cell? a with
  | some _ =>
    if V.frozen? a then(.halt (.unsupported (.unsafePointer "a write to bytes that a string shares")) V,es)
    else(.ok () (V.setCell a v),(es.push ⟨.cell a,true,false⟩))
  | none=>match V.farStore P a v false with
    | .ok (w,touched)=>(.ok () w,(es++touched.toArray.map (⟨.cell ·,true,false⟩)))
    | .error h=>(.halt h V,es)))->e∈r.2->e∈es\/e.loc≠.output:=by
  rintro r (rfl|rfl) h
  ·exact .inl h
  ·split at h
   ·split at h
    ·exact .inl h
    ·rcases Amq.1 h with h|rfl
     ·exact .inl h
     ·exact .inr (by intro e;cases e)
   ·split at h
    ·exact Rz h
    ·exact .inl h
 refine key _ ?_ h
 cases v<;>first|exact .inl rfl|exact .inr rfl
section
variable {X : Cx} {P P' : Program} {B : Lk}
theorem SR.choose (q:Question):SR X P P' Same B (choose q) (choose q):=by
 intro V W hw
 refine⟨.inr (A0d q V),?_⟩
 by_cases hq:q.forced=true
 ·simp only[Go.choose,Sem.run,hq,Amg]
  exact⟨B,W,0,#[],Ext.refl ..,hw,fun es=>by simp[Sem.runT,hq,-Sem.runT_eq],rfl,.nil⟩
 ·simp only[Go.choose,Sem.run,hq,Alx,Aj8]
  refine⟨B,{ W with drawn:=W.drawn+1 },q.cut (W.tape W.drawn q),#[],⟨Le.refl _,fun _ _ h=>.inl h,Ai3 _,Ai3 _,rfl,⟨rfl,rfl⟩,fun _ _ _=>rfl⟩,⟨hw.tape,by simp[hw.drawn],hw.os,hw.output,hw.fn,hw.inj,hw.Hm,hw.live,hw.Ip,hw.dead,hw.Vc,hw.Rw,hw.low,hw.nV,hw.nW⟩,
   fun es=>by simp[Sem.runT,hq,-Sem.runT_eq],by simp[Same,hw.tape,hw.drawn],.nil⟩
theorem SR.program:SR X P P' (fun _ p p'=>p=P/\p'=P') B program program:=by
 intro V W hw
 refine⟨.inr (Y1 V),?_⟩
 exact⟨B,W,P',#[],Ext.refl ..,hw,fun es=>by simp[Go.program,Sem.runT,-Sem.runT_eq],⟨rfl,rfl⟩,.nil⟩
theorem SR.mark {m:Mark}(h:m=.noRoom\/∃f,m=.extern f):SR X P P' (fun _ _ _=>True) B (mark m) (mark m):=by
 intro V W hw
 refine⟨.inr (A6r m V),?_⟩
 refine⟨B,W,(),#[⟨.mark m,false,true⟩],Ext.refl ..,hw,fun es=>by simp[Go.mark,Sem.runT,-Sem.runT_eq],trivial,fun e he=>?_⟩
 rw[Ami]at he;subst he
 exact h
theorem WR.upd {V W:World}(h:WR X B V W){b b':Nat}(k:B b b')(d:¬X.D b)(f:¬X.F b){o o':Obj}(ho:X8 X B o o') :
 WR X B { V with heap:=V.heap.setIfInBounds b o } { W with heap:=W.heap.setIfInBounds b' o' }/\Ext X B V W B { V with heap:=V.heap.setIfInBounds b o } { W with heap:=W.heap.setIfInBounds b' o' }:=by
 have hb:=h.Vw k;have hb':=h.ltW k
 refine⟨⟨h.tape,h.drawn,h.os,h.output,h.fn,h.inj,h.Hm,fun c c' x dc fc=>?_,fun c c' x dc fc=>?_,fun c c' x dc=>?_,fun c dc=>by simpa using h.Vc c dc,fun c dc=>by simpa using h.Rw c dc,h.low,by simpa using h.nV,by simpa using h.nW⟩,⟨Le.refl _,fun _ _ x=>.inl x,by simp,by simp,rfl,⟨rfl,rfl⟩,fun c hc hd=>?_⟩⟩
 ·by_cases e:b=c
  ·subst e;obtain rfl:=h.fn b b' c' k x
   exact⟨o,o',by simp[hb],by simp[hb'],ho⟩
  ·have e':b'≠c':=fun e'=>e (h.inj b c c' (e'▸k) x)
   obtain⟨p,p',h1,h2,h3⟩:=h.live c c' x dc fc
   exact⟨p,p',by simp[e,h1],by simp[e',h2],h3⟩
 ·have e:b≠c:=fun e=>f (e▸fc)
  have e':b'≠c':=fun e'=>e (h.inj b c c' (e'▸k) x)
  obtain⟨p,p',t,t',g,h1,h2,h3⟩:=h.Ip c c' x dc fc
  exact⟨p,p',t,t',g,by simp[e,h1],by simp[e',h2],h3⟩
 ·have e:b≠c:=fun e=>d (e▸dc)
  obtain⟨⟨t,ht⟩,hl⟩:=h.dead c c' x dc
  exact⟨⟨t,by simp[e,ht]⟩,by simpa using hl⟩
 ·have e:b'≠c:=fun e=>(hd b (e▸k)).elim d f
  simp[e]
theorem SR.getObj {r r':Nat}(k:B r r'):SR X P P' (fun B' o o'=>X8 X B' o o') B (getObj r) (getObj r'):=by
 intro V W hw
 refine⟨.inr (A0e r V),?_⟩
 by_cases d:X.D r
 ·obtain⟨⟨t,ht⟩,_⟩:=hw.dead r r' k d;simp only[Go.getObj,Sem.run,ht]
  exact Au trivial
 by_cases f:X.F r
 ·obtain⟨c,c',t,t',g,h1,_⟩:=hw.Ip r r' k d f;simp only[Go.getObj,Sem.run,h1]
  exact Au trivial
 ·obtain⟨o,o',h1,h2,h3⟩:=hw.live r r' k d f
  have key:(∃e,(Go.getObj r).run P V=.halt (.stuck e) V) \/((Go.getObj r).run P V=.ok o V/\∀es,(Go.getObj r').runT P' W es=(.ok o' W,es ++#[⟨.obj r',false,o'.isChan⟩])):=by
   cases h3<;>simp only[Go.getObj,Sem.run,Sem.runT,h1,h2]<;>first
    | exact .inl ⟨_,rfl⟩
    | exact .inr ⟨trivial,fun es=>rfl⟩
    | exact .inr ⟨rfl,fun es=>rfl⟩
  rcases key with⟨e,he⟩ |⟨e1,e2⟩
  ·rw[he]
   exact Au trivial
  ·rw[e1]
   refine⟨B,W,o',_,Ext.refl ..,hw,e2,h3,fun e he=>?_⟩
   rw[Ami]at he;subst he
   exact⟨r,k,d,f⟩
theorem SR.setObj {r r':Nat}(k:B r r'){o o':Obj}(ho:X8 X B o o'):SR X P P' (fun _ _ _=>True) B (setObj r o) (setObj r' o'):=by
 intro V W hw
 refine⟨.inr (A0f r o V),?_⟩
 by_cases d:X.D r
 ·obtain⟨⟨t,ht⟩,_⟩:=hw.dead r r' k d;simp only[Go.setObj,Sem.run,ht]
  exact Au trivial
 by_cases f:X.F r
 ·obtain⟨c,c',t,t',g,h1,_⟩:=hw.Ip r r' k d f;simp only[Go.setObj,Sem.run,h1]
  exact Au trivial
 ·obtain⟨p,p',h1,h2,h3⟩:=hw.live r r' k d f;obtain⟨g1,g2⟩:=hw.upd k d f ho;have ev:Z9 X B ⟨.obj r',true,o'.isChan⟩:=⟨r,k,d,f⟩
  cases h3<;>simp only[Go.setObj,Sem.run,h1]<;>first
   | exact Au trivial
   |(refine⟨B,_,(),#[⟨.obj r',true,o'.isChan⟩],g2,g1,fun es=>?_,trivial,?_⟩
     ·simp only[Sem.runT,h2];rfl
     ·intro e he;rw[Ami]at he;subst he
      exact ev)
theorem SR.newObj {o o':Obj}(ho:X8 X B o o'):SR X P P' (fun B' r r'=>B' r r'/\¬X.D r/\X.L r=0) B (newObj o) (newObj o'):=by
 intro V W hw
 refine⟨.inr (A9f o V),?_⟩
 simp only[Go.newObj,Sem.run];have hD:¬X.D V.heap.size:=fun x=>Akh _ (hw.Vc _ x)
 have hF:¬X.F V.heap.size:=fun x=>Akh _ (hw.Rw _ x)
 have hL:X.L V.heap.size=0:=Alm fun x=>hF (X.lf _ x)
 let B':Lk:=fun b b'=>B b b' \/(b=V.heap.size/\b'=W.heap.size)
 have hle:Le B B':=fun b b' h=>.inl h
 refine⟨B',{ W with heap:=W.heap.push o' },W.heap.size,#[],⟨hle,?_,by simp,by simp,rfl,⟨rfl,rfl⟩,?_⟩,⟨hw.tape,hw.drawn,hw.os,hw.output,?_,?_,fun g hg=>.inl (hw.Hm g hg),?_,?_,?_,?_,?_,?_,Ai5 hw.nV (by simp),Ai5 hw.nW (by simp)⟩,fun es=>by simp[Sem.runT,-Sem.runT_eq],⟨.inr ⟨rfl,rfl⟩,hD,hL⟩,.nil⟩
 ·rintro b b' (h |⟨rfl,rfl⟩)
  ·exact .inl h
  ·exact .inr ⟨Ai3 _,Ai3 _⟩
 ·intro b' hb _;simp[Aie,Aji hb]
 ·rintro b b₁ b₂ (h |⟨rfl,rfl⟩) (k |⟨e,rfl⟩)
  ·exact hw.fn b b₁ b₂ h k
  ·exact absurd (hw.Vw h) (by omega)
  ·exact absurd (hw.Vw k) (by omega)
  ·rfl
 ·rintro b₁ b₂ b' (h |⟨rfl,rfl⟩) (k |⟨rfl,e⟩)
  ·exact hw.inj b₁ b₂ b' h k
  ·exact absurd (hw.ltW h) (by omega)
  ·exact absurd (hw.ltW k) (by omega)
  ·rfl
 ·rintro b b' (h |⟨rfl,rfl⟩) d f
  ·obtain⟨p,p',h1,h2,h3⟩:=hw.live b b' h d f
   exact⟨p,p',by simp[Aie,Aji (hw.Vw h),h1],by simp[Aie,Aji (hw.ltW h),h2],h3.mono hle⟩
  ·exact⟨o,o',by simp,by simp,ho.mono hle⟩
 ·rintro b b' (h |⟨rfl,rfl⟩) d f
  ·obtain⟨p,p',t,t',g,h1,h2,h3⟩:=hw.Ip b b' h d f
   exact⟨p,p',t,t',g,by simp[Aie,Aji (hw.Vw h),h1],by simp[Aie,Aji (hw.ltW h),h2],⟨h3.1.mono hle,h3.2⟩⟩
  ·exact absurd f hF
 ·rintro b b' (h |⟨rfl,rfl⟩) d
  ·obtain⟨⟨t,ht⟩,hl⟩:=hw.dead b b' h d
   exact⟨⟨t,by simp[Aie,Aji (hw.Vw h),ht]⟩,by simp;omega⟩
  ·exact absurd d hD
 ·intro b d;have:=hw.Vc b d;simp;omega
 ·intro b d;have:=hw.Rw b d;simp;omega
 ·rintro b b' (h |⟨rfl,rfl⟩)
  ·exact hw.low b b' h
  ·have:=hw.nV;have:=hw.nW
   omega
theorem Lm {w:World}{a:Addr}{what:String}(hp:∀c t,w.heap[a.block]?≠some (.pending c t)):Kc (w.noCell a what):=by
 unfold World.noCell
 split
 ·exact absurd ‹_› (hp _ _)
 ·trivial
 ·trivial
theorem WR.at {V W:World}(hw:WR X B V W){b b':Nat}(kb:B b b')(d:¬X.D b) :
 (∃c c' t t' f f',V.heap[b]?=some (.cells c t f)/\W.heap[b']?=some (.cells c' t' f')/\PR X B (X.L b) c c' /\((¬X.F b/\f'=f/\AR X B c c') \/(X.F b/\f=(0,c.size)))/\TyR X b t t' c.size) \/
  (¬X.F b/\∃o o',V.heap[b]?=some o/\W.heap[b']?=some o'/\X8 X B o o' /\(∀c t f,o≠.cells c t f) /\(∀c t f,o'≠.cells c t f) /\(∀c t,o≠.pending c t) /\(∀a t,o≠.view a t)):=by
 by_cases f:X.F b
 ·obtain⟨c,c',t,t',g,h1,h2,h3,h4⟩:=hw.Ip b b' kb d f
  exact .inl ⟨c,c',t,t',_,g,h1,h2,h3,.inr ⟨f,rfl⟩,h4⟩
 ·obtain⟨o,o',h1,h2,h3⟩:=hw.live b b' kb d f
  cases h3 with
  | cells t g ha=>exact .inl ⟨_,_,t,t,g,g,h1,h2,ha.part _,.inl ⟨f,rfl,ha⟩,TyR.same (Alm fun x=>f (X.lf _ x))⟩
  | _=>exact .inr ⟨f,_,_,h1,h2,(by first|exact .number _ (by assumption) |(constructor<;>assumption)),(by intro _ _ _ e;cases e),(by intro _ _ _ e;cases e),(by intro _ _ e;cases e),(by intro _ _ e;cases e)⟩
theorem SR.load {a a':Addr}(k:E2 X B a a'):SR X P P' (fun B' v v'=>VR X B' v v') B (load a) (load a'):=by
 intro V W hw
 refine⟨.inr (A6q a V),?_⟩
 obtain⟨⟨kb,d⟩,⟨ko,kl⟩,ks⟩:=k
 rcases hw.at kb d with⟨c,c',t,t',f,f',h1,h2,ha,hf,_⟩ |⟨hF,o,o',h1,h2,_,hn,_⟩
 ·by_cases hs:a.spot.isSome=true
  ·have hc:V.cell? a=none:=by simp[World.cell?,h1,hs]
   simp only[Go.load,Sem.run,hc,World.farLoad,h1]
   exact Au (Lm (by simp[h1]))
  ·rcases ha.get a.off kl with⟨v,v',e1,e2,e3⟩|e1
   ·have hc:V.cell? a=some v:=by simp[World.cell?,h1,hs,e1]
    have hc':W.cell? a'=some v':=by simp[World.cell?,h2,ks,hs,ko,e2]
    simp only[Go.load,Sem.run,hc]
    refine⟨B,W,v',#[⟨.cell a',false,false⟩],Ext.refl ..,hw,fun es=>by simp only[Sem.runT,hc'];rfl,e3,fun e he=>?_⟩
    rw[Ami]at he;subst he
    exact⟨⟨_,kb,d,fun e=>by cases e⟩,rfl⟩
   ·have hc:V.cell? a=none:=by simp[World.cell?,h1,hs,e1]
    simp only[Go.load,Sem.run,hc,World.farLoad,h1]
    exact Au (Lm (by simp[h1]))
 ·have hc:V.cell? a=none:=by
   unfold World.cell?;rw[h1]
   cases o<;>first|rfl|exact absurd rfl (hn _ _ _)
  have hfl:∀q,∃e,V.farLoad P a q=.error e/\Kc e:=by
   intro q;unfold World.farLoad;rw[h1]
   rename_i hv
   cases o<;>first|exact absurd rfl (hv.2.2 _ _)|exact absurd rfl (hv.2.1 _ _)|exact⟨_,rfl,Lm (by simp[h1])⟩
  obtain⟨e,he,hne⟩:=hfl false;simp only[Go.load,Sem.run,hc];rw[show(Mode.plain == Mode.atomic)=false from rfl,he]
  exact Au hne
theorem setCell_eq {w:World}{a:Addr}{v:Value}{c:Array Value}{t:TypeId}{f:Nat×Nat}(h:w.heap[a.block]?=some (.cells c t f))(hs:a.spot.isSome=false) :
 w.setCell a v={ w with heap:=w.heap.setIfInBounds a.block (.cells (c.setIfInBounds a.off v) t f) }:=by
 unfold World.setCell
 congr 1
 apply Ala
 intro i;rw[Array.getElem?_modify,Ait]
 by_cases e:a.block=i
 ·subst e;obtain⟨hl,he⟩:=Ai2.1 h;simp[hl,hs,he]
 ·simp[e]
theorem Qh {P:Program}{w:World}{a:Addr}{v:Value}(hv:(∀cs,v≠.agg cs)/\∀cs,v≠.tuple cs):(store a v).run P w=match w.cell? a with
 | some _=>if w.frozen? a then .halt (.unsupported (.unsafePointer "a write to bytes that a string shares")) w else .ok () (w.setCell a v)
 | none=>match w.farStore P a v false with
   | .ok (w,_)=>.ok () w
   | .error h=>.halt h w:=by
 cases v<;>first |(simp only[Go.store,Sem.run];rfl)|exact absurd rfl (hv.1 _)|exact absurd rfl (hv.2 _)
theorem Oy {P:Program}{w:World}{a:Addr}{v v0:Value}(hv:(∀cs,v≠.agg cs)/\∀cs,v≠.tuple cs)(hc:w.cell? a=some v0)(hf:w.frozen? a=false)(es:Array Event) :
 (store a v).runT P w es=(.ok () (w.setCell a v),es ++#[⟨.cell a,true,false⟩]):=by
 cases v<;>first |(simp only[Go.store,Sem.runT,hc,hf];rfl)|exact absurd rfl (hv.1 _)|exact absurd rfl (hv.2 _)
theorem SR.store {a a':Addr}(k:E2 X B a a'){v v':Value}(hv:VR X B v v'):SR X P P' (fun _ _ _=>True) B (store a v) (store a' v'):=by
 intro V W hw
 refine⟨.inr (A35 a v V),?_⟩
 obtain⟨⟨kb,d⟩,⟨ko,kl⟩,ks⟩:=k
 by_cases hp:(∀cs,v≠.agg cs)/\∀cs,v≠.tuple cs
 case neg =>
  have:∃e,(Go.store a v).run P V=.halt (.stuck e) V:=by
   cases v<;>first|exact⟨_,rfl⟩|exact absurd ⟨fun _ e=>(by cases e),fun _ e=>(by cases e)⟩ hp
  obtain⟨e,he⟩:=this;rw[he]
  exact Au trivial
 have hp':(∀cs,v'≠.agg cs)/\∀cs,v'≠.tuple cs:=by
  constructor<;>intro cs e<;>subst e<;>cases hv
  ·exact hp.1 _ rfl
  ·exact hp.2 _ rfl
 rw[Qh hp]
 rcases hw.at kb d with⟨c,c',t,t',f,f',h1,h2,ha,hf,hty⟩ |⟨hF,o,o',h1,h2,_,hn,_,hv1,hv2⟩
 ·by_cases hs:a.spot.isSome=true
  ·have hc:V.cell? a=none:=by simp[World.cell?,h1,hs]
   simp only[hc,World.farStore,h1]
   exact Au (Lm (by simp[h1]))
  ·rcases ha.get a.off kl with⟨x,x',e1,e2,e3⟩|e1
   ·have hc:V.cell? a=some x:=by simp[World.cell?,h1,hs,e1]
    have hc':W.cell? a'=some x':=by simp[World.cell?,h2,ks,hs,ko,e2]
    simp only[hc]
    by_cases hz:V.frozen? a=true
    ·rw[Aij hz]
     exact Au trivial
    ·rw[Aid hz]
     rcases hf with⟨hF,rfl,ha⟩ |⟨_,rfl⟩
     ·obtain rfl:t'=t:=by
       have hL:X.L a.block=0:=Alm fun x=>hF (X.lf _ x)
       rcases hty with⟨h,_⟩ |⟨_,e,_⟩
       ·exact absurd hL h
       ·exact e
      have hfr:W.frozen? a'=V.frozen? a:=by simp[World.frozen?,h1,h2,ko]
      have hs':a'.spot.isSome=false:=by rw[ks];simpa using hs
      have hs2:a.spot.isSome=false:=by simpa using hs
      obtain⟨g1,g2⟩:=hw.upd kb d hF (o:=.cells (c.setIfInBounds a.off v) t' f') (o':=.cells (c'.setIfInBounds a.off v') t' f') (.cells t' f' (ha.set _ hv));rw[setCell_eq h1 hs2]
      refine⟨B,W.setCell a' v',(),#[⟨.cell a',true,false⟩],?_,?_,fun es=>Oy hp' hc' (by rw[hfr];simpa using hz) es,trivial,fun e he=>?_⟩
      ·rw[setCell_eq h2 hs',ko];exact g2
      ·rw[setCell_eq h2 hs',ko];exact g1
      ·rw[Ami]at he;subst he
       exact⟨⟨_,kb,d,fun _=>hF⟩,rfl⟩
     ·exfalso
      apply hz
      have hlt:=(Ai2.1 e1).1;simp[World.frozen?,h1,hlt]
   ·have hc:V.cell? a=none:=by simp[World.cell?,h1,hs,e1]
    simp only[hc,World.farStore,h1]
    exact Au (Lm (by simp[h1]))
 ·have hc:V.cell? a=none:=by
   unfold World.cell?;rw[h1]
   cases o<;>first|rfl|exact absurd rfl (hn _ _ _)
  have hfl:∃e,V.farStore P a v false=.error e/\Kc e:=by
   unfold World.farStore;rw[h1]
   cases o<;>first|exact absurd rfl (hv2 _ _)|exact absurd rfl (hv1 _ _)|exact⟨_,rfl,Lm (by simp[h1])⟩
  obtain⟨e,he,hne⟩:=hfl;simp only[hc,he]
  exact Au hne
def ShR (X:Cx)(r:Nat)(s s':Option (TypeId×Nat)):Prop:=(s=none/\s'=none)\/∃t t' n m,s=some (t,n)/\s'=some (t',m)/\n<=m/\TyR X r t t' n
theorem ShR.some {X:Cx}{r:Nat}{s s':Option (TypeId×Nat)}(h:ShR X r s s'):s'.isSome=s.isSome:=by
 rcases h with⟨rfl,rfl⟩ |⟨t,t',n,m,rfl,rfl,_⟩<;>rfl
theorem SR.shape {r r':Nat}(kb:B r r')(d:¬X.D r):SR X P P' (fun _=>ShR X r) B (shape r) (shape r'):=by
 intro V W hw
 refine⟨.inr (A34 r V),?_⟩
 have:ShR X r (V.shape? r) (W.shape? r'):=by
  rcases hw.at kb d with⟨c,c',t,t',f,f',h1,h2,ha,hf,hm⟩ |⟨hF,o,o',h1,h2,_,hn,hn',_⟩
  ·exact .inr ⟨t,t',_,_,by simp only[World.shape?,h1],by simp only[World.shape?,h2],ha.1,hm⟩
  ·unfold World.shape?;rw[h1,h2]
   cases o<;>cases o'<;>first|exact .inl ⟨rfl,rfl⟩|exact absurd rfl (hn _ _ _)|exact absurd rfl (hn' _ _ _)
 exact⟨B,W,W.shape? r',#[],Ext.refl ..,hw,fun es=>by simp[Go.shape,Sem.runT,-Sem.runT_eq],this,.nil⟩
end
end Lr
namespace Lr
structure PRel (X:Cx)(P P':Program):Prop where
 Oa:P'.toTables=P.toTables
 nG:X.N=P.globals.size
 zero:∀(t:TypeId) (i:TypeInfo) v,P.info? t=some i->i.zero=some v->Flat X v
 mono:∀t n l,X.Mv t n l->∀off (m:Int) off',l<=off->0<=m->cellAtBytes P P.depth t (n / P.cellsOf t) off m=some off'->l<=off'
 zed:∀t,X.Z t->P.info? t=none
def Ap (X:Cx)(B:Lk)(v v':Value):Prop:=VR X B v v'
def Ob (X:Cx)(B:Lk)(v v':Array Value):Prop:=AR X B v v'
def Zc {α β:Type}(_:Lk)(_:α)(_:β):Prop:=True
section
variable {X : Cx} {P P' : Program} {B : Lk} (hP : PRel X P P')
include hP
theorem PRel.underlying (t:TypeId):P'.underlying t=P.underlying t:=by unfold Program.underlying;rw[hP.Oa]
theorem PRel.info (t:TypeId):P'.info? t=P.info? t:=by rw[hP.Oa]
theorem SR.underlying (t:TypeId):SR X P P' (fun _ d d'=>d'=d/\P.underlying t=some d) B (underlying t) (underlying t):=by
 unfold Go.underlying
 refine SR.bind SR.program ?_
 rintro B' hl p p' ⟨rfl,rfl⟩;rw[hP.underlying]
 cases h:p.underlying t with
 | none=>exact SR.stuck
 | some d=>exact SR.pure ⟨rfl,rfl⟩
theorem SR.typeInfo (t:TypeId):SR X P P' (fun _ d d'=>d'=d/\P.info? t=some d) B (typeInfo t) (typeInfo t):=by
 unfold Go.typeInfo
 refine SR.bind SR.program ?_
 rintro B' hl p p' ⟨rfl,rfl⟩;rw[hP.info]
 cases h:p.info? t with
 | none=>exact SR.stuck
 | some d=>exact SR.pure ⟨rfl,rfl⟩
theorem SR.sizeOf (t:TypeId):SR X P P' Same B (sizeOf t) (sizeOf t):=by
 unfold Go.sizeOf
 refine SR.bind (SR.typeInfo hP t) ?_
 rintro B' hl d d' ⟨rfl,_⟩
 exact SR.pure rfl
theorem SR.Agv (t:TypeId):SR X P P' (fun _ n n'=>n'=n/\∃i,P.info? t=some i/\n=i.size) B (Go.sizeOf t) (Go.sizeOf t):=by
 unfold Go.sizeOf
 refine SR.bind (SR.typeInfo hP t) ?_
 rintro B' hl d d' ⟨rfl,h⟩
 exact SR.pure ⟨rfl,_,h,rfl⟩
theorem SR.isAgg (t:TypeId):SR X P P' Same B (isAgg t) (isAgg t):=by
 unfold Go.isAgg
 refine SR.bind (SR.underlying hP t) ?_
 rintro B' hl d d' ⟨rfl,_⟩
 cases d'<;>exact SR.pure rfl
theorem SR.zeroValue (t:TypeId):SR X P P' (Ap X) B (zeroValue t) (zeroValue t):=by
 unfold Go.zeroValue
 refine SR.bind (SR.typeInfo hP t) ?_
 rintro B' hl d d' ⟨rfl,hd⟩
 cases h:d'.zero with
 | none=>exact SR.unsupported
 | some v=>exact SR.pure (hP.zero t d' v hd h B')
omit hP in
theorem SR.loadCellsFrom {a a':Addr}:∀(n i:Nat) {B:Lk} {acc acc':Array Value},E2 X B a a'->AR X B acc acc'->SR X P P' (Ob X) B (loadCellsFrom a i n acc) (loadCellsFrom a' i n acc')
 | 0,_,_,_,_,_,hc=>SR.pure hc
 | n+1,i,_,_,_,ha,hc=>by
   unfold Go.loadCellsFrom
   refine SR.bind (SR.load (ha.add i)) ?_
   intro B' hl v v' hv
   exact SR.loadCellsFrom n (i+1) (ha.mono hl) ((hc.mono hl).push hv)
omit hP in
theorem SR.loadCells {a a':Addr}(ha:E2 X B a a')(n:Nat):SR X P P' (Ob X) B (loadCells a n) (loadCells a' n):=SR.loadCellsFrom n 0 ha AR.nil
omit hP in
theorem SR.storeCells {a a':Addr}:∀{l l':List Value} {B:Lk} (i:Nat),E2 X B a a'->LR X B l l'->SR X P P' Zc B (storeCells a l i) (storeCells a' l' i)
 | [],[],_,_,_,_=>SR.pure trivial
 | v :: l,v' :: l',_,i,ha,.cons h1 h2=>by
   unfold Go.storeCells
   refine SR.bind (SR.store (ha.add i) h1) ?_
   intro B' hl _ _ _
   exact SR.storeCells (i+1) (ha.mono hl) (h2.mono hl)
theorem SR.loadVar {a a':Addr}(ha:E2 X B a a')(t:TypeId):SR X P P' (Ap X) B (loadVar t a) (loadVar t a'):=by
 unfold Go.loadVar
 refine SR.bind (SR.isAgg hP t) ?_
 rintro B' hl b b' rfl
 refine SR.ite (fun _=>?_) (fun _=>SR.load (ha.mono hl))
 refine SR.bind (SR.sizeOf hP t) ?_
 rintro B'' hl' n n' rfl
 exact SR.map (SR.loadCells ((ha.mono hl).mono hl') n') fun _ _ c c' hc=>hc.agg
theorem SR.storeVar {a a':Addr}(ha:E2 X B a a')(t:TypeId){v v':Value}(hv:VR X B v v'):SR X P P' Zc B (storeVar t a v) (storeVar t a' v'):=by
 unfold Go.storeVar
 refine SR.bind (SR.sizeOf hP t) ?_
 rintro B' hl n n' rfl;rw[hv.cells.1]
 refine SR.ite (fun _=>?_) (fun _=>SR.storeCells 0 (ha.mono hl) (hv.mono hl).cells.toList)
 exact SR.Cq
omit hP in
theorem SR.newRow (t:TypeId){c c':Array Value}(h:AR X B c c'):SR X P P' (fun B' a a'=>E2 X B' a a') B (newRow t c) (newRow t c'):=by
 unfold Go.newRow
 exact SR.bind (SR.newObj (.cells t (0,0) h)) fun B' hl r r' hr=>SR.pure ⟨⟨hr.1,hr.2.1⟩,⟨rfl,Al3 hr.2.2⟩,rfl⟩
omit hP in
theorem SR.newVar (t:TypeId){v v':Value}(h:VR X B v v'):SR X P P' (fun B' a a'=>E2 X B' a a') B (newVar t v) (newVar t v'):=SR.newRow t h.cells
theorem SR.elemOf (t:TypeId):SR X P P' Same B (elemOf t) (elemOf t):=by
 unfold Go.elemOf
 refine SR.bind (SR.underlying hP t) ?_
 rintro B' hl d d' ⟨rfl,_⟩
 cases d'<;>first|exact SR.pure rfl|exact SR.stuck
theorem SR.part (t:TypeId){c c':Array Value}(h:AR X B c c')(off:Nat):SR X P P' (Ap X) B (part t c off) (part t c' off):=by
 unfold Go.part
 refine SR.bind (SR.isAgg hP t) ?_
 rintro B' hl b b' rfl
 refine SR.ite (fun _=>?_) (fun _=>?_)
 ·refine SR.bind (SR.sizeOf hP t) ?_
  rintro B'' hl' n n' rfl
  exact SR.pure (((h.mono hl).mono hl').extract _ _).agg
 ·rcases h.get off with⟨v,v',h1,h2,h3⟩ |⟨h1,h2⟩
  ·rw[h1,h2];exact SR.pure (h3.mono hl)
  ·rw[h1,h2];exact SR.stuck
omit hP in
theorem SR.askRoom (n:Nat):SR X P P' Zc B (askRoom n) (askRoom n):=by
 unfold Go.askRoom
 exact SR.ite (fun _=>SR.mark (.inl rfl)) (fun _=>SR.pure trivial)
omit hP in
theorem SR.asIntOf {v v':Value}(h:VR X B v v'):SR X P P' Same B (asIntOf v) (asIntOf v'):=by
 cases h<;>first|exact SR.pure rfl|exact SR.unsupported|exact SR.stuck
omit hP in
theorem SR.asInt {v v':Value}(h:VR X B v v'):SR X P P' Same B (asInt v) (asInt v'):=by
 unfold Go.asInt
 exact SR.bind (SR.asIntOf h) fun _ _ a b e=>SR.pure (by rw[show b=a from e];rfl)
omit hP in
theorem SR.asBool {v v':Value}(h:VR X B v v'):SR X P P' Same B (asBool v) (asBool v'):=by
 cases h<;>first|exact SR.pure rfl|exact SR.stuck
omit hP in
theorem SR.asAgg {v v':Value}(h:VR X B v v'):SR X P P' (Ob X) B (asAgg v) (asAgg v'):=by
 cases h<;>first|exact SR.pure ⟨by assumption,by assumption⟩|exact SR.stuck
def A8g:RuntimeError->Prop
 | .typeAssertion ..|.unhashable _=>False
 | _=>True
theorem SR.runtimePanic {α β:Type}{R:Lk->α->β->Prop}{e:RuntimeError}(he:A8g e):SR X P P' R B (runtimePanic e:Sem α) (runtimePanic e:Sem β):=by
 unfold Go.runtimePanic
 refine SR.bind SR.program ?_
 rintro B' hl p p' ⟨rfl,rfl⟩;have hrt:p'.rt=p.rt:=by rw[hP.Oa]
 dsimp only;rw[hrt]
 cases e with
 | bounds x y s c=>exact SR.panic (.iface _ (AR.agg (AR.push (AR.push (AR.push (AR.one (.int _ _)) (.int _ _)) (.bool _)) (.int _ _))))
 | error m=>exact SR.panic (.iface _ (.string _))
 | plain m=>exact SR.panic (.iface _ (.string _))
 | nilDeref=>exact SR.panic (.iface _ (.string _))
 | typeAssertion i c a m=>exact he.elim
 | panicNil =>
   refine SR.bind (SR.elemOf hP _) ?_
   rintro B2 hl2 n n' rfl
   exact SR.bind (SR.newVar n' AR.nil.agg) fun B3 hl3 a a' ha=>SR.panic (.iface _ (.ptr ha))
 | unhashable t=>exact he.elim
theorem SR.boundsPanic {α β:Type}{R:Lk->α->β->Prop}(k:IntKind)(x y:Int)(c:BoundsCode):SR X P P' R B (boundsPanic k x y c:Sem α) (boundsPanic k x y c:Sem β):=by
 unfold Go.boundsPanic;dsimp only
 have hr:∀B' (b b':Bool),Same B' b b'->SR X P P' R B' (Go.runtimePanic (.bounds (IntKind.i64.wrap x) y b c):Sem α) (Go.runtimePanic (.bounds (IntKind.i64.wrap x) y b' c):Sem β):=by
  rintro B' b b' rfl
  exact SR.runtimePanic hP (e:=.bounds _ _ _ _) trivial
 refine SR.ite (fun _=>SR.bind (R:=Same) (SR.map (SR.choose _) fun _ _ a b e=>by rw[show b=a from e];rfl) fun B' _ b b' e=>hr B' b b' e) (fun _=>SR.bind (R:=Same) (SR.pure rfl) fun B' _ b b' e=>hr B' b b' e)
theorem SR.asAddr {v v':Value}(h:VR X B v v'):SR X P P' (fun B' a a'=>E2 X B' a a') B (asAddr v) (asAddr v'):=by
 cases h with
 | ptr a=>exact SR.pure a
 | Qg=>exact SR.runtimePanic hP (e:=.nilDeref) trivial
 | _=>exact SR.stuck
omit hP in
theorem SR.sureAddr {v v':Value}(h:VR X B v v'):SR X P P' (fun B' a a'=>E2 X B' a a') B (Instr.sureAddr v) (Instr.sureAddr v'):=by
 cases h with
 | ptr a=>exact SR.pure a
 | _=>exact SR.stuck
end
end Lr
namespace Lr
section
variable {X : Cx} {P P' : Program} {B : Lk}
theorem SR.A10 {ι α:Type}{f:ι->Sem α}:∀(l:List ι) {B:Lk},(∀x∈l,∀B',SR X P P' Same B' (f x) (f x))->SR X P P' Same B (l.mapM f) (l.mapM f)
 | [],_,_=>by simp only[List.mapM_nil];exact SR.pure rfl
 | x :: l,B,h=>by
   simp only[List.mapM_cons]
   refine SR.bind (h x (by simp) B) ?_
   rintro B1 h1 a b rfl
   refine SR.bind (SR.A10 l fun y hy=>h y (by simp[hy])) ?_
   rintro B2 h2 us vs rfl
   exact SR.pure rfl
theorem SR.Ace {ι α:Type}{f:ι->Sem α}(l:Array ι)(h:∀x∈l,∀B',SR X P P' Same B' (f x) (f x)):SR X P P' Same B (l.mapM f) (l.mapM f):=by
 rw[Amr]
 exact SR.map (SR.A10 l.toList fun x hx=>h x (by simpa using hx)) fun B' hl a b e=>by rw[show b=a from e];rfl
theorem SR.val {v:Value}(h:Flat X v):SR X P P' (Ap X) B (Pure.pure v:Sem Value) (Pure.pure v):=SR.pure (h B)
theorem SR.intArith (op:BinOp)(k:IntKind)(x y:Int):SR X P P' (Ap X) B (Op.intArith op k x y) (Op.intArith op k x y):=by
 unfold Op.intArith
 cases op<;>first|exact SR.pure (.int _ _)|exact SR.stuck
theorem SR.intBits (op:BinOp)(k:IntKind)(x y:Int):SR X P P' (Ap X) B (Op.intBits op k x y) (Op.intBits op k x y):=by
 unfold Op.intBits
 cases op<;>first|exact SR.pure (.int _ _)|exact SR.stuck
theorem SR.intCmp (op:BinOp)(x y:Int):SR X P P' (Ap X) B (Op.intCmp op x y) (Op.intCmp op x y):=by
 unfold Op.intCmp
 cases op<;>first|exact SR.pure (.bool _)|exact SR.stuck
theorem SR.floatArith (op:BinOp)(k:FloatKind)(x y:Nat):SR X P P' (fun _ v v'=>v'=v/\∃r,v=.float k r) B (Op.floatArith op k x y) (Op.floatArith op k x y):=by
 unfold Op.floatArith
 have jp:∀B' (r r':Option Nat),Same B' r r'->SR X P P' (fun _ v v'=>v'=v/\∃r,v=.float k r) B'
  (match r with|some r=>Pure.pure (Value.float k r)|none=>(Go.choose (.nanBits k x y) >>= fun n=>Pure.pure (Value.float k n)))
  (match r' with|some r=>Pure.pure (Value.float k r)|none=>(Go.choose (.nanBits k x y) >>= fun n=>Pure.pure (Value.float k n))):=by
  rintro B' r r' rfl
  cases r' with
  | some r=>exact SR.pure ⟨rfl,r,rfl⟩
  | none=>exact SR.bind (SR.choose _) fun B'' _ a b e=>by rw[show b=a from e];exact SR.pure ⟨rfl,a,rfl⟩
 cases op<;>dsimp only<;>first
  | exact SR.Cq
  | exact SR.bind (R:=Same) (SR.pure rfl) fun B' _ r r' e=>jp B' r r' e
theorem SR.floatCmp (op:BinOp)(k:FloatKind)(x y:Nat):SR X P P' (fun _ v v'=>v'=v/\∃r,v=.bool r) B (Op.floatCmp op k x y) (Op.floatCmp op k x y):=by
 unfold Op.floatCmp
 cases op<;>first|exact SR.pure ⟨rfl,_,rfl⟩|exact SR.stuck
theorem SR.floatToFloat (s:FloatKind)(b:Nat)(d:FloatKind):SR X P P' (fun _ v v'=>v'=v/\∃r,v=.float d r) B (Conv.floatToFloat s b d) (Conv.floatToFloat s b d):=by
 unfold Conv.floatToFloat
 refine SR.ite (fun h=>SR.pure ⟨rfl,_,rfl⟩) (fun _=>?_)
 cases s.decode b with
 | nan a c=>exact SR.map (SR.choose _) fun B'' _ a b e=>by rw[show b=a from e];exact⟨rfl,a,rfl⟩
 | infinity s=>exact SR.pure ⟨rfl,_,rfl⟩
 | number s m e =>
   refine SR.ite (fun _=>?_) (fun _=>SR.pure ⟨rfl,_,rfl⟩)
   exact SR.map (SR.choose _) fun B'' _ a b e=>by rw[show b=a from e];exact⟨rfl,a,rfl⟩
theorem SR.floatToInt (s:FloatKind)(b:Nat)(d:IntKind):SR X P P' (Ap X) B (Conv.floatToInt s b d) (Conv.floatToInt s b d):=by
 unfold Conv.floatToInt
 have any:∀B,SR X P P' (Ap X) B (Go.choose (.floatToInt s b d) >>= fun n=>Pure.pure (Value.int d (d.wrap n))) (Go.choose (.floatToInt s b d) >>= fun n=>Pure.pure (Value.int d (d.wrap n))):=fun B=>SR.bind (SR.choose _) fun B'' _ a b e=>by
  rw[show b=a from e];exact SR.pure (.int _ _)
 dsimp only
 split
 ·exact SR.ite (fun _=>SR.pure (.int _ _)) (fun _=>any B)
 ·exact any B
theorem SR.Xk (op:BinOp)(k:FloatKind)(x y:Nat):SR X P P' Same B (Op.Complex.arith op k x y) (Op.Complex.arith op k x y):=by
 unfold Op.Complex.arith
 refine SR.bind (SR.floatArith op k x y) ?_
 rintro B' hl v v' ⟨rfl,r,rfl⟩
 exact SR.pure rfl
theorem SR.Ag1 (op:BinOp)(k:FloatKind)(x y:Nat):SR X P P' Same B (Op.Complex.cmp op k x y) (Op.Complex.cmp op k x y):=by
 unfold Op.Complex.cmp
 refine SR.bind (SR.floatCmp op k x y) ?_
 rintro B' hl v v' ⟨rfl,r,rfl⟩
 exact SR.pure rfl
theorem SR.Ri (s:FloatKind)(x:Nat)(d:FloatKind):SR X P P' Same B (Op.Complex.conv s x d) (Op.Complex.conv s x d):=by
 unfold Op.Complex.conv
 refine SR.ite (fun _=>SR.pure rfl) (fun _=>?_)
 refine SR.bind (SR.floatToFloat s x d) ?_
 rintro B' hl v v' ⟨rfl,r,rfl⟩
 exact SR.pure rfl
theorem SR.E5 {α β:Type}{s:Sem α}{f:α->Sem β}{R:Lk->β->β->Prop}(h:SR X P P' Same B s s)(hf:∀B' a,SR X P P' R B' (f a) (f a)):SR X P P' R B (s >>= f) (s >>= f) :=
 SR.bind h fun B' _ a b e=>by rw[show b=a from e];exact hf B' a
theorem SR.product (a b c d:Nat):SR X P P' Same B (Op.Complex.product a b c d) (Op.Complex.product a b c d):=by
 unfold Op.Complex.product Op.Complex.sub Op.Complex.mul Op.Complex.add
 repeat' (first|exact SR.pure rfl|refine SR.E5 (SR.Xk _ _ _ _) fun _ _=>?_)
theorem SR.complexOp (op:BinOp)(hq:op≠.quo)(k:FloatKind)(a b c d:Nat):SR X P P' (Ap X) B (Op.complexOp op k a b c d) (Op.complexOp op k a b c d):=by
 unfold Op.complexOp
 cases op<;>dsimp only<;>repeat' (first
  | exact absurd rfl hq
  | exact SR.stuck
  | exact SR.pure (.complex _ _ _)
  | exact SR.pure (.bool _)
  | refine SR.E5 (SR.Xk _ _ _ _) fun _ _=>?_
  | refine SR.E5 (SR.Ag1 _ _ _ _) fun _ _=>?_
  | refine SR.E5 (SR.Ri _ _ _) fun _ _=>?_
  | refine SR.E5 (SR.product _ _ _ _) fun _ _=>?_
  | refine SR.ite (fun _=>?_) (fun _=>?_)
  | refine SR.map (R:=Same) ?_ (fun _ _ a b e=>by rw[show b=a from e];exact .bool _))
theorem SR.stringOp (op:BinOp)(x y:ByteArray):SR X P P' (fun _ v v'=>v'=v/\Flat X v) B (Op.stringOp op x y) (Op.stringOp op x y):=by
 unfold Op.stringOp
 cases op<;>dsimp only<;>first
  | exact SR.pure ⟨rfl,fun _=>.bool _⟩
  | exact SR.stuck
  | exact SR.ite (fun _=>SR.unsupported) (fun _=>SR.pure ⟨rfl,fun _=>.string _⟩)
end
section
variable {X : Cx} {P P' : Program} {B : Lk} (hP : PRel X P P')
include hP
theorem SR.intDiv (op:BinOp)(k:IntKind)(x y:Int):SR X P P' (Ap X) B (Op.intDiv op k x y) (Op.intDiv op k x y):=by
 unfold Op.intDiv
 refine SR.ite (fun _=>SR.runtimePanic hP (e:=.error _) trivial) (fun _=>?_)
 cases op<;>first|exact SR.pure (.int _ _)|exact SR.stuck
theorem SR.shift (op:BinOp)(k:IntKind)(x:Int)(yk:IntKind)(y:Int):SR X P P' (Ap X) B (Op.shift op k x yk y) (Op.shift op k x yk y):=by
 unfold Op.shift
 refine SR.ite (fun _=>SR.runtimePanic hP (e:=.error _) trivial) (fun _=>?_)
 cases op<;>first|exact SR.pure (.int _ _)|exact SR.stuck
omit hP in
theorem SR.unary (op:UnOp){x x':Value}(h:VR X B x x'):SR X P P' (Ap X) B (Op.unary op x) (Op.unary op x'):=by
 unfold Op.unary
 cases op<;>cases h<;>first
  | exact SR.stuck
  | exact SR.unsupported
  | exact SR.pure (.float _ _)
  | exact SR.pure (.complex _ _ _)
  | exact SR.pure (.bool _)
  | exact SR.intArith _ _ _ _
  | exact SR.intBits _ _ _ _
theorem SR.alloc (t:TypeId):SR X P P' (Ap X) B (Instr.alloc t true (.tuple #[])) (Instr.alloc t true (.tuple #[])):=by
 unfold Instr.alloc
 refine SR.bind (SR.zeroValue hP t) fun B' _ v v' hv=>?_
 exact SR.bind (SR.newVar t hv) fun B'' _ a a' ha=>SR.pure (.ptr ha)
omit hP in
theorem SR.box (t:TypeId){v v':Value}(h:VR X B v v'):SR X P P' (Ap X) B (Instr.box t v) (Instr.box t v'):=by
 unfold Instr.box
 exact SR.bind (SR.newVar t h) fun B'' _ a a' ha=>SR.pure (.ptr ha)
inductive PsR (X:Cx)(B:Lk):List (Nat×Value)->List (Nat×Value)->Prop
 | nil:PsR X B [] []
 | cons (i:Nat) {v v':Value} {l l':List (Nat×Value)}:VR X B v v'->PsR X B l l'->PsR X B ((i,v) :: l) ((i,v') :: l')
omit hP in
theorem PsR.mono {B':Lk}(h:Le B B'){l l':List (Nat×Value)}(k:PsR X B l l'):PsR X B' l l':=by
 induction k with
 | nil=>exact .nil
 | cons i a _ ih=>exact .cons i (a.mono h) ih
omit hP in
theorem PsR.of (ps:List (Nat×Operand)){f g:Operand->Value}(h:∀x∈ps,VR X B (f x.2) (g x.2)):PsR X B (ps.map fun x=>(x.1,f x.2)) (ps.map fun x=>(x.1,g x.2)):=by
 induction ps with
 | nil=>exact .nil
 | cons x l ih=>exact .cons x.1 (h x (by simp)) (ih fun y hy=>h y (by simp[hy]))
omit hP in
theorem Vg:∀{l l':List Value} (off k:Nat) {c c':Array Value},LR X B l l'->AR X B c c' ->
 AR X B ((l.zipIdx k).foldl (fun cs (x:Value×Nat)=>cs.setIfInBounds (off+x.2) x.1) c) ((l'.zipIdx k).foldl (fun cs (x:Value×Nat)=>cs.setIfInBounds (off+x.2) x.1) c')
 | [],[],_,_,_,_,_,hc=>hc
 | v :: l,v' :: l',off,k,_,_,.cons h1 h2,hc=>by
   simp only[List.zipIdx_cons,An5]
   exact Vg off (k+1) h2 (hc.set _ h1)
omit hP in
theorem A92 (place:Nat->Option (Nat×Nat)):∀{ps ps':List (Nat×Value)} {c c':Array Value},PsR X B ps ps'->AR X B c c' ->
 (Instr.fill place c ps=none/\Instr.fill place c' ps'=none)\/∃d d',Instr.fill place c ps=some d/\Instr.fill place c' ps'=some d'/\AR X B d d'
 | [],[],c,c',_,hc=>.inr ⟨c,c',rfl,rfl,hc⟩
 | (i,v) :: l,(_,v') :: l',c,c',.cons _ h1 h2,hc=>by
   unfold Instr.fill
   cases hp:place i with
   | none=>exact .inl ⟨rfl,rfl⟩
   | some q =>
     obtain⟨off,size⟩:=q;have hs:=h1.cells.1;dsimp only;rw[<-hs,<-hc.1]
     split
     ·exact .inl ⟨rfl,rfl⟩
     ·refine A92 place h2 ?_
      rw[<-Amn,<-Amn,Array.toList_zipIdx,Array.toList_zipIdx]
      exact Vg off 0 h1.cells.toList hc
theorem SR.build (t:TypeId){ps ps':Array (Nat×Value)}(h:PsR X B ps.toList ps'.toList):SR X P P' (Ap X) B (Instr.build t ps) (Instr.build t ps'):=by
 unfold Instr.build
 refine SR.bind (SR.zeroValue hP t) fun B1 l1 z z' hz=>?_
 refine SR.bind (SR.underlying hP t) ?_
 rintro B2 l2 d d' ⟨rfl,_⟩
 have fin:∀(B3:Lk) (_:Le B2 B3) (place:Nat->Option (Nat×Nat)) (why:String),SR X P P' (Ap X) B3
  (match Instr.fill place z.cells ps.toList with|some cells=>Pure.pure (Value.agg cells)|_=>Go.stuck why)
  (match Instr.fill place z'.cells ps'.toList with|some cells=>Pure.pure (Value.agg cells)|_=>Go.stuck why):=by
  intro B3 l3 place why
  rcases A92 place (h.mono (l1.trans (l2.trans l3))) ((hz.mono l2).mono l3).cells with⟨e1,e2⟩ |⟨d,d',e1,e2,e3⟩
  ·rw[e1,e2];exact SR.stuck
  ·rw[e1,e2];exact SR.pure e3.agg
 cases d'<;>dsimp only<;>first
  | exact SR.stuck
  | skip
 case struct fields _ =>
  refine SR.bind (R:=Same) (SR.Ace fields fun(f:Field) _ B'=>SR.E5 (SR.sizeOf hP f.type) fun _ _=>SR.pure rfl) ?_
  rintro B3 l3 places _ rfl
  exact fin B3 l3 _ _
 case array _ elem _ =>
  refine SR.bind (R:=Same) (SR.sizeOf hP elem) ?_
  rintro B3 l3 size _ rfl
  exact fin B3 l3 _ _
end
end Lr
end Go.Proofs.YtlfleicchbgcmaaGreat
