import Derived.Test.YtlfleicchbgcmaaGreatZq11
import Derived.Test.YtlfleicchbgcmaaGreatZq6
import Derived.Test.YtlfleicchbgcmaaGreatZq0
set_option linter.all false
set_option maxHeartbeats 16000000
set_option maxRecDepth 100000
namespace Go.Proofs.YtlfleicchbgcmaaGreat
namespace Ok
open Go.Conc Lr
theorem A6y {info:TypeId->Option TypeInfo}{d:TypeDesc}{i:TypeInfo}(h:Made.reckon info d=some i):i.methods=#[]:=by
 unfold Made.reckon at h
 cases d with
 | struct fs =>
   have h:Made.reckonStruct info fs=some i:=h;unfold Made.reckonStruct at h;obtain⟨s,_,h2⟩:=Amw.1 h;dsimp only at h2
   split at h2<;>
   ·injection h2 with h2
    subst h2
    rfl
 | _ =>
   simp only[bind,Option.bind,pure]at h
   repeat' (first|split at h|dsimp only at h)
   all_goals first
    |(cases h;done)
    |(injection h with h
      subst h
      rfl)
theorem A0s {T:Tables}{p:TypeInfo->Prop}(ht:∀i∈T.types,p i)(h0:∀i:TypeInfo,i.methods=#[]->p i):∀(k:Nat) t i,Made.infoAt T k t=some i->p i:=by
 intro k
 cases k with
 | zero=>intro t i h;cases h
 | succ k =>
   intro t i h;unfold Made.infoAt at h
   split at h
   ·exact ht i (Aj2 h)
   ·obtain⟨d,_,h⟩:=Amw.1 h
    exact h0 i (A6y h)
theorem A9j {T:Tables}{p:TypeInfo->Prop}(ht:∀i∈T.types,p i)(h0:∀i:TypeInfo,i.methods=#[]->p i)(t:TypeId)(i:TypeInfo)(h:T.info? t=some i):p i:=by
 unfold Tables.info? at h
 split at h
 ·exact ht i (Aj2 h)
 ·exact A0s ht h0 _ t i h
def A4o (P:Program)(tl:List (Nat×Nat))(cl:List Nat)(name:String)(i:TypeInfo):Prop :=
 ∀m,i.methods.find? (·.name == name)=some m->m.path=#[] /\(∃e,i.desc=.pointer e)/\∃f,m.func=some (f,true) /\((f∈cl/\∀n,(f,n) ∉ tl)\/A59 P f=true)
theorem Aac {P:Program}{tl:List (Nat×Nat)}{cl:List Nat}{name:String}(h:Ps P tl cl name=true)(t:TypeId)(i:TypeInfo)(hi:P.info? t=some i):A4o P tl cl name i:=by
 refine A9j (T:=P.toTables) (p:=A4o P tl cl name) (fun i hi m hm=>?_) (fun i hi m hm=>by rw[hi]at hm;simp at hm) t i hi
 have h1:=Aiz.1 (Aiz.1 h i hi) m (Array.mem_of_find?_eq_some hm);have h2:=Array.find?_some hm;simp only[bne,h2,Bool.not_true,Bool.false_or,Aia]at h1;obtain⟨h3,h4,h5⟩:=h1
 refine⟨Array.isEmpty_iff.1 h3,?_,?_⟩
 ·split at h4
  ·exact⟨_,by assumption⟩
  ·cases h4
 ·split at h5
  ·rename_i f q hf
   simp only[Aia,Al2]at h5;obtain⟨rfl,⟨h6,h7⟩|h6⟩:=h5
   ·refine⟨f,hf,.inl ⟨by simpa using h6,fun n hn=>?_⟩⟩
    have:=Alo.1 h7 _ hn;simp at this
   ·exact⟨f,hf,.inr h6⟩
  ·cases h5
section
variable {X : Cx} {P P' : Program} {B : Lk} (hP : PRel X P P')
theorem Aax {f:Nat}(h:A59 P f=true)(B:Lk)(p:Array Value)(s':Sem Next):SR X P P' (Tz X) B (callFunc f p) s':=by
 have key:∀V,∃h',(callFunc f p).run P V=.halt h' V/\Kc h':=fun V=>by
  unfold A59 at h;unfold callFunc;rw[Sem.run_bind,run_program];dsimp only[Result.andThen]
  split at h
  ·rename_i fn hf
   simp only[Aia,Bool.not_eq_true',Option.isNone_iff_eq_none]at h;obtain⟨h1,h2,h3,h4,h5⟩:=h;rw[hf];dsimp only;simp only[h1,h2,h3,h4,h5,Aj8,Alx,Option.isNone_none,Amg]
   exact⟨_,rfl,trivial⟩
  ·rename_i hf
   rw[hf]
   exact⟨_,rfl,trivial⟩
 intro V W _;obtain⟨h',e,n⟩:=key V
 refine⟨.inl ⟨h',V,e,n⟩,?_⟩
 rw[e]
 exact Au n
include hP
theorem SR.Ze {α β:Type}{R:Lk->α->β->Prop}(hg:X.G X.N)(hd:¬X.D X.N)(hl:X.L X.N=0)(i c:Option TypeId)(a:TypeId)(m:String) :
 SR X P P' R B (runtimePanic (.typeAssertion i c a m):Sem α) (runtimePanic (.typeAssertion i c a m):Sem β):=by
 intro V W hw;have hb:=hw.Hm _ hg
 revert V W
 show ∀V W,WR X B V W->_
 intro V W hw
 refine(?_:SR X P P' R B _ _) V W hw
 unfold Go.runtimePanic
 refine SR.bind SR.program ?_
 rintro B' hl' p p' ⟨rfl,rfl⟩;have hrt:p'.rt=p.rt:=by rw[hP.Oa]
 have hgs:p'.globals.size=p.globals.size:=by rw[hP.Oa]
 dsimp only;rw[hrt]
 have hh:∀(B2:Lk),Le B' B2->∀t:TypeId,VR X B2 (typeHandle p t) (typeHandle p' t):=fun B2 h2 t=>by
  unfold typeHandle;rw[hgs]
  refine .ptr ⟨⟨h2 _ _ (hl' _ _ ?_),?_⟩,⟨rfl,?_⟩,rfl⟩
  ·rw[<-hP.nG];exact hb
  ·show ¬X.D p.globals.size
   rw[<-hP.nG];exact hd
  ·show X.L p.globals.size<=t
   rw[<-hP.nG,hl];exact Aj9 _
 have ho:∀(B2:Lk),Le B' B2->∀t:Option TypeId,VR X B2 (match t with|some t=>typeHandle p t|none=>.pointer none) (match t with|some t=>typeHandle p' t|none=>.pointer none):=fun B2 h2 t=>by
  cases t with
  | none=>exact .Qg
  | some t=>exact hh B2 h2 t
 refine SR.bind (SR.elemOf hP _) ?_
 rintro B2 hl2 n n' rfl
 refine SR.bind (SR.newVar n' (AR.agg (AR.push (AR.push (AR.push (AR.one (ho B2 hl2 i)) (ho B2 hl2 c)) (ho B2 hl2 (some a))) (.string _)))) fun B3 hl3 r r' hr=>SR.panic (.iface _ (.ptr hr))
theorem SR.typeAssert (hg:X.G X.N)(hd:¬X.D X.N)(hl:X.L X.N=0)(t a:TypeId){v v':Value}(q:Bool)(h:VR X B v v'):SR X P P' (Ap X) B (Instr.typeAssert v t a q) (Instr.typeAssert v' t a q):=by
 have hold:∀(B:Lk) {v v':Value},VR X B v v'->SR X P P' (Ap X) B (Pure.pure (if q then .tuple #[v,.bool true]else v)) (Pure.pure (if q then .tuple #[v',.bool true]else v')):=fun B v v' h=>SR.pure (by
  cases q
  ·exact h
  ·exact AR.tuple (AR.push (AR.one h) (.bool _)))
 have fail:∀(B:Lk) (i c:Option TypeId) (m:String),SR X P P' (Ap X) B (if q then do Pure.pure (.tuple #[<-zeroValue a,.bool false])else runtimePanic (.typeAssertion i c a m)) (if q then do Pure.pure (.tuple #[<-zeroValue a,.bool false])else runtimePanic (.typeAssertion i c a m)):=fun B i c m=>by
  cases q
  ·exact SR.Ze hP hg hd hl i c a m
  ·exact SR.bind (SR.zeroValue hP a) fun B1 l1 w w' hw=>SR.pure (AR.tuple (AR.push (AR.one hw) (.bool _)))
 unfold Instr.typeAssert;dsimp only
 refine SR.bind (SR.underlying hP a) ?_
 rintro B1 l1 _ d ⟨rfl,_⟩;have h:=h.mono l1
 cases d with
 | interface want =>
   cases h with
   | nilIface=>exact fail _ _ _ _
   | iface t hv =>
     dsimp only
     refine SR.bind (SR.typeInfo hP t) ?_
     rintro B2 l2 _ i ⟨rfl,_⟩
     cases Instr.missingMethod want i.methods with
     | none=>exact hold _ (.iface t (hv.mono l2))
     | some m=>exact fail _ _ _ _
   | _=>exact SR.stuck
 | _ =>
   cases h with
   | nilIface=>exact fail _ _ _ _
   | iface t hv=>exact SR.ite (fun _=>hold _ hv) (fun _=>fail _ _ _ _)
   | _=>exact SR.stuck
theorem Acg {tl:List (Nat×Nat)}{cl:List Nat}(hM:∀n,X.M n->Ps P tl cl n=true)(hc:∀f∈cl,(∀n,(f,n) ∉ tl)->X.C f/\¬X.T f)(hG:∀g,X.G g->¬X.D g/\X.L g=0):Ady X P P' where
 method name m n t B v v' h:=by
  cases n with
  | zero=>exact SR.unsupported
  | succ n =>
    unfold Go.method
    refine SR.bind (SR.typeInfo hP t) ?_
    rintro B1 l1 _ i ⟨rfl,hi⟩;have hrow:=Aac (hM name m) t i hi
    cases hf:i.methods.find? (·.name == name)with
    | none=>exact SR.stuck
    | some r =>
      obtain⟨h1,⟨e,h2⟩,f,h3,h4⟩:=hrow r hf;dsimp only;rw[h1,h3]
      have hu:P.underlying t=some (.pointer e):=by
       unfold Program.underlying;rw[hi];obtain⟨d⟩:=i;obtain rfl:d=.pointer e:=h2
       rfl
      unfold follow
      refine SR.bind (SR.pure (R:=fun _ (a b:TypeId×Place)=>a=(t,.val v)/\b=(t,.val v')) ⟨rfl,rfl⟩) ?_
      rintro B2 l2 _ _ ⟨rfl,rfl⟩;dsimp only;unfold receiverAt
      refine SR.bind (R:=fun B x x'=>VR X B x x') ?_ fun B3 l3 x x' hx=>SR.pure ⟨⟨rfl,h4.imp (fun h=>hc f h.1 h.2) fun h=>Aax h⟩,hx⟩
      refine SR.bind (SR.underlying hP t) ?_
      rintro B3 l3 _ d ⟨rfl,hd⟩;rw[hu]at hd
      cases hd
      exact SR.pure (((h.mono l1).mono l2).mono l3)
 nilAhead name m n t B v v' h:=by
  cases n with
  | zero=>exact SR.pure rfl
  | succ n =>
    unfold Go.nilAhead
    refine SR.bind (SR.typeInfo hP t) ?_
    rintro B1 l1 _ i ⟨rfl,hi⟩;have hrow:=Aac (hM name m) t i hi
    cases hf:i.methods.find? (·.name == name)with
    | none=>exact SR.stuck
    | some r =>
      obtain⟨h1,_,f,h3,_⟩:=hrow r hf;dsimp only;rw[h1,h3];unfold followBlind
      refine SR.bind (SR.pure (R:=fun _ (a b:Except (Option Bool) (TypeId×Option Value))=>a=.ok (t,some v)/\b=.ok (t,some v')) ⟨rfl,rfl⟩) ?_
      rintro B2 l2 _ _ ⟨rfl,rfl⟩
      exact SR.pure rfl
 typeAssert ha t a B v v' q h:=SR.typeAssert hP (X.asG ha) (hG _ (X.asG ha)).1 (hG _ (X.asG ha)).2 t a q h
end
end Ok
namespace Ok
open Go.Conc Lr
def mvP (P:Program)(t:TypeId)(n l:Nat):Prop:=∀off (m:Int) off',l<=off->0<=m->cellAtBytes P P.depth t (n / P.cellsOf t) off m=some off'->l<=off'
def Rq (P:Program)(tl:List (Nat×Nat))(cl gl:List Nat)(Q:String->Code->Prop)(D F:Nat->Prop)(Dn:Prop)(L:Nat->Nat)(lf:∀b,L b≠0->F b):Cx where
 C f:=f∈cl\/∃n,(f,n)∈tl
 M n:=Ps P tl cl n=true
 As:=A9w P gl=true
 T f:=∃n,(f,n)∈tl
 K o:=Ic P tl cl gl o=true
 D:=D
 F:=F
 G g:=g∈gl
 N:=P.globals.size
 R:=Q
 Dn:=Dn
 L:=L
 Mv:=mvP P
 Z t:=P.info? t=none
 lf:=lf
 Ar f n:=(f,n)∈tl
 asG h:=by simpa [A9w]using h
def cx (P:Program)(cl gl:List Nat)(Q:String->Code->Prop)(D F:Nat->Prop)(Dn:Prop:=True):Cx:=Rq P [] cl gl Q D F Dn (fun _=>0) fun _ h=>absurd rfl h
theorem Rr {P:Program}{cl gl:List Nat}{Q:String->Code->Prop}{D F:Nat->Prop}{Dn:Prop}:∀f,¬(cx P cl gl Q D F Dn).T f:=fun _ ⟨_,h⟩=>by cases h
theorem Ag6 {P:Program}{cl gl:List Nat}{Q:String->Code->Prop}{D F:Nat->Prop}{Dn:Prop}:∀f∈cl,(cx P cl gl Q D F Dn).C f/\¬(cx P cl gl Q D F Dn).T f:=fun f h=>⟨.inl h,Rr f⟩
def A8b (e:Array Value->Sem Value):Prop:=(∃n w,e=Extern.MathFloor.toIntegral n w)\/e=Extern.MathFloatBits.float64bits\/e=Extern.MathFloatBits.float64frombits
def U0 (P:Program)(tl:List (Nat×Nat))(cl gl:List Nat)(f:Nat):Prop :=
 ∃fn,P.funcs[f]?=some fn /\(fn.name == "runtime.NumGoroutine") = false /\((∃c,fn.body=some c/\I0 P tl cl gl c=true) \/(fn.body.isNone=true/\Extern.findNext fn=none/\∃e,Extern.find fn=some e/\A8b e))
def Ly (P:Program):Bool:=P.types.all (fun i=>match i.zero with|none=>true|some v=>D5 8 v)
theorem A4k {X:Cx}{P:Program}(h:Ly P=true)(t:TypeId)(i:TypeInfo)(v:Value)(h1:P.info? t=some i)(h2:i.zero=some v):Flat X v:=by
 refine A6t (T:=P.toTables) (fun i hi v hv=>?_) t i h1 v h2
 unfold Ly at h;rw[Aiz]at h;have:=h i hi;rw[hv]at this
 exact Xw 8 v this
section
variable {P P' : Program} {tl : List (Nat × Nat)} {cl gl : List Nat} {Q : String -> Code -> Prop} {D F : Nat -> Prop} {Dn : Prop} {L : Nat -> Nat} {lf : ∀ b, L b ≠ 0 -> F b}
theorem A91 {X:Cx}{P P':Program}{e:Array Value->Sem Value}(h:A8b e):∀B p p',AR X B p p'->SR X P P' (Ap X) B (e p) (e p'):=by
 rcases h with⟨n,w,rfl⟩|rfl|rfl
 ·exact Un n w
 ·exact Acw
 ·exact A1x
def Im (ids:List Nat):Code->Code
 | .region id ops d=>if ids.contains id then .refuse Se else .region id ops d
 | .seq a b=>.seq (Im ids a) (Im ids b)
 | .cond c a b=>.cond c (Im ids a) (Im ids b)
 | .rangeFunc f p a b=>.rangeFunc f p (Im ids a) (Im ids b)
 | .block i c=>.block i (Im ids c)
 | .loop c=>.loop (Im ids c)
 | .scope c=>.scope (Im ids c)
 | .refuse w=>.refuse w
 | .goto l=>.goto l
 | .skip=>.skip
 | .ret=>.ret
 | .exit i=>.exit i
 | .label l=>.label l
theorem Em {X:Cx}(hc:∀f∈cl,X.C f/\¬X.T f)(hg:∀g∈gl,X.G g)(hK:∀o,Ic P tl cl gl o=true->X.K o)(ids:List Nat):∀(c:Code),I0 P tl cl gl (Im ids c)=true->Jy X (Im ids c) c
 | .refuse w,h=>by
   unfold Im at h ⊢
   exact .inl (by simpa [I0,Se]using h)
 | .region id ops d,h=>by
   unfold Im at h ⊢
   by_cases hn:ids.contains id=true
   ·rw[Aij hn]
    exact .inl rfl
   ·rw[Aid hn]at h ⊢
    exact Ev hc hg hK (.region id ops d) h
 | .seq a b,h=>by
   simp only[Im,I0,Aia]at h
   exact⟨a,b,rfl,Em hc hg hK ids a h.1,Em hc hg hK ids b h.2⟩
 | .cond c a b,h=>by
   simp only[Im,I0,Aia]at h
   exact⟨a,b,rfl,Kp hc hg h.1,Em hc hg hK ids a h.2.1,Em hc hg hK ids b h.2.2⟩
 | .rangeFunc f p a b,h=>by
   simp only[Im,I0,Aia]at h
   exact⟨a,b,rfl,Kp hc hg h.1,Em hc hg hK ids a h.2.1,Em hc hg hK ids b h.2.2⟩
 | .block _ c,h=>⟨c,rfl,Em hc hg hK ids c h⟩
 | .loop c,h=>⟨c,rfl,Em hc hg hK ids c h⟩
 | .scope c,h=>⟨c,rfl,Em hc hg hK ids c h⟩
 | .goto _,h=>by simp[Im,I0]at h
 | .skip,_=>rfl
 | .ret,_=>rfl
 | .exit _,_=>rfl
 | .label _,_=>rfl
def Adw (P P':Program)(f:Nat):Prop:=∃(fn fn':Func) (c:Code) (ids:List Nat),P'.funcs[f]?=some fn'/\P.funcs[f]?=some fn/\fn.name=fn'.name/\fn.results=fn'.results/\fn.ntmps=fn'.ntmps/\fn'.body=some c/\fn.body=some (Im ids c)
theorem Wy (hz:Ly P=true)(htab:P'.toTables=P.toTables)(hsz:P'.funcs.size=P.funcs.size)(hcl:∀f∈cl,U0 P tl cl gl f /\(∀n,(f,n) ∉ tl) /\(P'.funcs[f]?=P.funcs[f]?\/Adw P P' f))
 (hT:∀f:Nat,(∃n,(f,n)∈tl)->∃fn fn':Func,P.funcs[f]?=some fn/\P'.funcs[f]?=some fn'/\fn'.name=fn.name/\fn'.results=fn.results /\(fn.name == "runtime.NumGoroutine") = false/\fn.body.isNone=false/\fn'.body.isNone=false)
 (hall:∀f:Nat,P'.funcs[f]?=P.funcs[f]?\/∃fn fn':Func,P.funcs[f]?=some fn/\P'.funcs[f]?=some fn'/\fn'.name=fn.name/\fn'.results=fn.results) (hD:∀g∈gl,¬D g/\L g=0):Whole (Rq P tl cl gl Q D F Dn L lf) P P':=by
 have hF:A65 (Rq P tl cl gl Q D F Dn L lf) P P':={
  Oa:=htab
  nG:=rfl
  zero:=A4k hz
  mono:=fun t n l h=>h
  zed:=fun t h=>h
  size:=hsz
  funcs:=fun f=>by
   by_cases hf:f∈cl\/∃n,(f,n)∈tl
   ·by_cases ht:∃n,(f,n)∈tl
    ·obtain⟨fn,fn',h1,h2,h3,h4,h5,h6,h7⟩:=hT f ht
     exact .inr ⟨fn,fn',h1,h2,h3,h4,fun _ h=>absurd ht h,fun _=>⟨fun e=>by rw[e]at h5;simp at h5,.inl ⟨h6,h7,fun h=>absurd ht h⟩⟩⟩
    ·obtain⟨⟨fn,h1,h2,h3⟩,_,hs⟩:=hcl f (hf.resolve_right ht)
     rcases hs with hs |⟨fn0,fn',c',ids,g1,g2,g3,g4,g5,g6,g7⟩
     ·refine .inr ⟨fn,fn,h1,hs.trans h1,rfl,rfl,fun _ _=>rfl,fun _=>⟨fun e=>by rw[e]at h2;simp at h2,?_⟩⟩
      rcases h3 with⟨c,h4,h5⟩ |⟨h4,h5,e,h6,h7⟩
      ·exact .inl ⟨by rw[h4];rfl,by rw[h4];rfl,fun _=>⟨c,c,h4,h4,Ev (X:=Rq P tl cl gl Q D F Dn L lf) (tl:=tl) (cl:=cl) (gl:=gl) (fun f h=>⟨.inl h,fun⟨n,hn⟩=>(hcl f h).2.1 n hn⟩) (fun g h=>h) (fun o h=>h) c h5⟩⟩
      ·exact .inr ⟨h4,rfl,fun B p p' hp=>A7j h1 (hs.trans h1) h2 h4 h5 h6 (A91 h7) hp⟩
     ·obtain rfl:fn=fn0:=Ajo (h1.symm.trans g2)
      refine .inr ⟨fn,fn',h1,g1,g3.symm,g4.symm,fun _ _=>g5.symm,fun _=>⟨fun e=>by rw[e]at h2;simp at h2,?_⟩⟩
      rcases h3 with⟨c,h4,h5⟩ |⟨h4,_⟩
      ·obtain rfl:c=Im ids c':=Ajo (h4.symm.trans g7)
       exact .inl ⟨by rw[h4];rfl,by rw[g6];rfl,fun _=>⟨_,c',h4,g6,Em (X:=Rq P tl cl gl Q D F Dn L lf) (P:=P) (tl:=tl) (cl:=cl) (gl:=gl) (fun f h=>⟨.inl h,fun⟨n,hn⟩=>(hcl f h).2.1 n hn⟩) (fun g h=>h) (fun o h=>h) ids c' h5⟩⟩
      ·rw[g7]at h4
       cases h4
   ·rcases hall f with hs |⟨fn,fn',h1,h2,h3,h4⟩
    ·cases h:P.funcs[f]? with
     | none=>exact .inl ⟨rfl,hs.trans h⟩
     | some fn=>exact .inr ⟨fn,fn,rfl,hs.trans h,rfl,rfl,fun hc=>absurd hc hf,fun hc=>absurd hc hf⟩
    ·exact .inr ⟨fn,fn',h1,h2,h3,h4,fun hc=>absurd hc hf,fun hc=>absurd hc hf⟩ }
 exact{
  hF:=hF
  hM:=Acg hF.toPRel (fun n h=>h) (fun f h hn=>⟨.inl h,fun⟨n,e⟩=>hn n e⟩) (fun g h=>hD g h)
  hK:=fun o h=>Acm (X:=Rq P tl cl gl Q D F Dn L lf) (tl:=tl) (cl:=cl) (gl:=gl) (fun f h=>⟨.inl h,fun⟨n,hn⟩=>(hcl f h).2.1 n hn⟩) (fun n h=>h) (fun h=>h) (fun g h=>h) (fun f n h=>⟨.inr ⟨n,h⟩,h⟩) h
  hG:=fun g h=>hD g h }
theorem Wz (hz:Ly P=true)(htab:P'.toTables=P.toTables)(hsz:P'.funcs.size=P.funcs.size)(hcl:∀f∈cl,U0 P tl cl gl f /\(∀n,(f,n) ∉ tl)/\P'.funcs[f]?=P.funcs[f]?)
 (hT:∀f:Nat,(∃n,(f,n)∈tl)->∃fn fn':Func,P.funcs[f]?=some fn/\P'.funcs[f]?=some fn'/\fn'.name=fn.name/\fn'.results=fn.results /\(fn.name == "runtime.NumGoroutine") = false/\fn.body.isNone=false/\fn'.body.isNone=false)
 (hall:∀f:Nat,P'.funcs[f]?=P.funcs[f]?\/∃fn fn':Func,P.funcs[f]?=some fn/\P'.funcs[f]?=some fn'/\fn'.name=fn.name/\fn'.results=fn.results) (hD:∀g∈gl,¬D g/\L g=0):Whole (Rq P tl cl gl Q D F Dn L lf) P P' :=
 Wy hz htab hsz (fun f h=>⟨(hcl f h).1,(hcl f h).2.1,.inl (hcl f h).2.2⟩) hT hall hD
theorem Abb (hz:Ly P=true)(htab:P'.toTables=P.toTables)(hsz:P'.funcs.size=P.funcs.size)(hcl:∀f∈cl,U0 P [] cl gl f/\P'.funcs[f]?=P.funcs[f]?)
 (hall:∀f:Nat,P'.funcs[f]?=P.funcs[f]?\/∃fn fn':Func,P.funcs[f]?=some fn/\P'.funcs[f]?=some fn'/\fn'.name=fn.name/\fn'.results=fn.results) (hD:∀g∈gl,¬D g):Whole (cx P cl gl Q D F Dn) P P' :=
 Wz hz htab hsz (fun f h=>⟨(hcl f h).1,(fun n hn=>by cases hn),(hcl f h).2⟩) (fun f ⟨n,hn⟩=>by cases hn) hall fun g hg=>⟨hD g hg,rfl⟩
end
def chk (P:Program)(tl:List (Nat×Nat))(cl gl:List Nat)(f:Nat):Bool:=match P.funcs[f]? with
 | some fn=>!(fn.name == "runtime.NumGoroutine") && (match fn.body with
   | some c=>I0 P tl cl gl c
   | none=>false)
 | none=>false
theorem Abz {P:Program}{tl:List (Nat×Nat)}{cl gl:List Nat}{f:Nat}(h:chk P tl cl gl f=true):U0 P tl cl gl f:=by
 unfold chk at h
 split at h
 ·rename_i fn hf
  simp only[Aia,Bool.not_eq_true']at h
  split at h
  ·rename_i c hc
   exact⟨fn,hf,h.1,.inl ⟨c,hc,h.2⟩⟩
  ·simp at h
 ·cases h
theorem Xu {P:Program}{tl:List (Nat×Nat)}{cl gl:List Nat}{f:Nat}{fn:Func}{e:Array Value->Sem Value}(h1:P.funcs[f]?=some fn)(h2:(fn.name == "runtime.NumGoroutine") = false)(h3:fn.body.isNone=true)(h4:Extern.findNext fn=none)(h5:Extern.find fn=some e)(h6:A8b e):U0 P tl cl gl f :=
 ⟨fn,h1,h2,.inr ⟨h3,h4,e,h5,h6⟩⟩
end Ok
namespace Ok
open Go.Conc Lr
theorem Q6:Ly Vp.prog=true:=by kernel_rfl
def phs:List Nat:=[31,32,55,56,57,58,59,76,77,78,79,80,81,101,102,103,104,105,106,107,108,109,110,111,112,113,114,115,124,125,126,127,128,129,130,131,132,133,134,135,138,139,140,141,142,143,144,145,146,147]
def ext:List Nat:=[101,144,145,146]
theorem Ahe (tl:List (Nat×Nat))(cl gl:List Nat):U0 Vp.prog tl cl gl 101:=Xu (fn:=Tryz.f101) (by kernel_rfl) (by kernel_rfl) (by kernel_rfl) (by kernel_rfl) (e:=Extern.MathFloor.toIntegral "math.archFloor" .down) (by kernel_rfl) (.inl ⟨_,_,rfl⟩)
theorem Ahf (tl:List (Nat×Nat))(cl gl:List Nat):U0 Vp.prog tl cl gl 144:=Xu (fn:=Tryz.f144) (by kernel_rfl) (by kernel_rfl) (by kernel_rfl) (by kernel_rfl) (e:=Extern.MathFloatBits.float64frombits) (by kernel_rfl) (.inr (.inr rfl))
theorem Ahg (tl:List (Nat×Nat))(cl gl:List Nat):U0 Vp.prog tl cl gl 145:=Xu (fn:=Tryz.f145) (by kernel_rfl) (by kernel_rfl) (by kernel_rfl) (by kernel_rfl) (e:=Extern.MathFloatBits.float64bits) (by kernel_rfl) (.inr (.inl rfl))
theorem Ahh (tl:List (Nat×Nat))(cl gl:List Nat):U0 Vp.prog tl cl gl 146:=Xu (fn:=Tryz.f146) (by kernel_rfl) (by kernel_rfl) (by kernel_rfl) (by kernel_rfl) (e:=Extern.MathFloor.toIntegral "math.archTrunc" .zero) (by kernel_rfl) (.inl ⟨_,_,rfl⟩)
theorem A2k {tl:List (Nat×Nat)}{cl gl:List Nat}(h:(cl.filter fun f=>!(ext.contains f)).all (chk Vp.prog tl cl gl)=true):∀f∈cl,U0 Vp.prog tl cl gl f:=by
 intro f hf
 by_cases hx:ext.contains f=true
 ·have hx:f∈ext:=by simpa using hx
  simp only[ext,Ajf,Aja,Akv]at hx
  rcases hx with rfl|rfl|rfl|rfl
  ·exact Ahe _ _ _
  ·exact Ahf _ _ _
  ·exact Ahg _ _ _
  ·exact Ahh _ _ _
 ·refine Abz ?_
  rw[Alo]at h
  exact h f (List.mem_filter.2 ⟨hf,by simpa using hx⟩)
theorem Ahd:(phs.filter fun f=>!(ext.contains f)).all (chk Vp.prog [] phs [])=true:=by kernel_rfl
theorem A60:∀f:Nat,Tryz.prog.funcs[f]?=Vp.prog.funcs[f]?\/∃fn fn':Func,Vp.prog.funcs[f]?=some fn/\Tryz.prog.funcs[f]?=some fn'/\fn'.name=fn.name/\fn'.results=fn.results:=by
 intro f
 by_cases h:f=15
 ·subst h
  exact .inr ⟨Vp.fT,Tryz.f15,Vp.Pk,Tryz.func15,by kernel_rfl,by kernel_rfl⟩
 ·by_cases hc:Vp.Mo.contains f=true
  ·obtain⟨fn,fn',c,ids,h1,h2,h3,h4,_⟩:=Vp.Abs f hc
   exact .inr ⟨fn,fn',h2,h1,h3.symm,h4.symm⟩
  ·exact .inl (Vp.same h (by simpa using hc)).symm
theorem Abo (ids:List Nat)(c:Code):Vp.M1 ids c=Im ids c:=by
 induction c<;>simp_all [Vp.M1,Im,Se]
theorem Abs {f:Nat}(h:Vp.Mo.contains f=true):Adw Vp.prog Tryz.prog f:=by
 obtain⟨fn,fn',c,ids,h1,h2,h3,h4,h5,h6,h7⟩:=Vp.Abs f h
 exact⟨fn,fn',c,ids,h1,h2,h3,h4,h5,h6,by rw[h7,Abo]⟩
theorem Acu {f:Nat}(h:f≠15):Tryz.prog.funcs[f]?=Vp.prog.funcs[f]?\/Adw Vp.prog Tryz.prog f:=by
 by_cases hc:Vp.Mo.contains f=true
 ·exact .inr (Abs hc)
 ·exact .inl (Vp.same h (by simpa using hc)).symm
theorem A74:phs.all (fun f=>!(Vp.Mo.contains f))=true:=by kernel_rfl
theorem whole (Q:String->Code->Prop)(D F:Nat->Prop):Whole (cx Vp.prog phs [] Q D F) Vp.prog Tryz.prog :=
 Abb Q6 Vp.Oa.symm Vp.size.symm (fun f hf=>by
  have ht:f≠15:=fun e=>by subst e;revert hf;decide
  exact⟨A2k Ahd f hf,(Vp.same ht (by have:=Alo.1 A74 f hf;simpa using this)).symm⟩) A60 (fun g h=>by cases h)
end Ok
namespace Ok
open Go.Conc Lr
def A5x:Nat->String
 | 0 => "0"
 | 9 => "9"
 | 10 => "10"
 | 12 => "12"
 | 13 => "13"
 | _ => ""
def cut (ids:List Nat):Code->Code
 | .region id ops d=>if ids.contains id then .refuse (A5x id)else .region id ops d
 | .seq a b=>.seq (cut ids a) (cut ids b)
 | .cond c a b=>.cond c (cut ids a) (cut ids b)
 | .rangeFunc f p a b=>.rangeFunc f p (cut ids a) (cut ids b)
 | .block i c=>.block i (cut ids c)
 | .loop c=>.loop (cut ids c)
 | .scope c=>.scope (cut ids c)
 | .refuse w=>.refuse w
 | .goto l=>.goto l
 | .skip=>.skip
 | .ret=>.ret
 | .exit i=>.exit i
 | .label l=>.label l
def J6:Code->List (Nat×Array Oper×Bool)
 | .region id ops d=>[(id,ops,d)]
 | .seq a b=>J6 a++J6 b
 | .cond _ a b=>J6 a++J6 b
 | .rangeFunc _ _ a b=>J6 a++J6 b
 | .block _ c=>J6 c
 | .loop c=>J6 c
 | .scope c=>J6 c
 | _=>[]
def Gg (P:Program)(cl gl ids:List Nat):Code->Bool
 | .region id ops d=>ids.contains id || okC P cl gl (.region id ops d)
 | .seq a b=>Gg P cl gl ids a && Gg P cl gl ids b
 | .cond c a b=>Nq cl gl c && (Gg P cl gl ids a && Gg P cl gl ids b)
 | .rangeFunc f _ a b=>Nq cl gl f && (Gg P cl gl ids a && Gg P cl gl ids b)
 | .block _ c|.loop c|.scope c=>Gg P cl gl ids c
 | .goto _|.refuse _=>false
 | .skip|.ret|.exit _|.label _=>true
theorem Io {X:Cx}{P:Program}{cl gl:List Nat}(hc:∀f∈cl,X.C f/\¬X.T f)(hg:∀g∈gl,X.G g)(hK:∀o,Ael P cl gl o=true->X.K o)(ids:List Nat):∀(c:Code),(∀r∈J6 c,ids.contains r.1=true->X.R (A5x r.1) (.region r.1 r.2.1 r.2.2))->Gg P cl gl ids c=true->Jy X (cut ids c) c
 | .refuse _,_,h=>by simp[Gg]at h
 | .region id ops d,hR,h=>by
   unfold cut;unfold Gg at h
   by_cases hn:ids.contains id=true
   ·rw[Aij hn]
    exact .inr (hR (id,ops,d) (by simp[J6]) hn)
   ·rw[Aid hn];rw[Al2]at h
    exact Ev hc hg hK (.region id ops d) (h.resolve_left hn)
 | .seq a b,hR,h=>by
   simp only[Gg,Aia]at h
   exact⟨a,b,rfl,Io hc hg hK ids a (fun r x=>hR r (by simp[J6,x])) h.1,Io hc hg hK ids b (fun r x=>hR r (by simp[J6,x])) h.2⟩
 | .cond c a b,hR,h=>by
   simp only[Gg,Aia]at h
   exact⟨a,b,rfl,Kp hc hg h.1,Io hc hg hK ids a (fun r x=>hR r (by simp[J6,x])) h.2.1,Io hc hg hK ids b (fun r x=>hR r (by simp[J6,x])) h.2.2⟩
 | .rangeFunc f p a b,hR,h=>by
   simp only[Gg,Aia]at h
   exact⟨a,b,rfl,Kp hc hg h.1,Io hc hg hK ids a (fun r x=>hR r (by simp[J6,x])) h.2.1,Io hc hg hK ids b (fun r x=>hR r (by simp[J6,x])) h.2.2⟩
 | .block _ c,hR,h=>⟨c,rfl,Io hc hg hK ids c (fun r x=>hR r x) h⟩
 | .loop c,hR,h=>⟨c,rfl,Io hc hg hK ids c (fun r x=>hR r x) h⟩
 | .scope c,hR,h=>⟨c,rfl,Io hc hg hK ids c (fun r x=>hR r x) h⟩
 | .goto _,_,h=>by simp[Gg]at h
 | .skip,_,_=>rfl
 | .ret,_,_=>rfl
 | .exit _,_,_=>rfl
 | .label _,_,_=>rfl
end Ok
namespace Ok
open Go.Conc Lr
def Hh (P:Program)(f:Nat):Code:=((P.funcs[f]?).bind (·.body)).getD .skip
def Mo:List (Nat×List Nat):=[(33,[0,13]),(15,[9,10,12])]
def R4 (P:Program)(why:String)(d:Code):Prop:=∃k∈Mo,∃r∈J6 (Hh P k.1),k.2.contains r.1=true/\why=A5x r.1/\d=.region r.1 r.2.1 r.2.2
theorem A8u {P P':Program}{cl:List Nat}{D F:Nat->Prop}(ids:List Nat)(f:Nat)(hk:(f,ids)∈Mo)(c:Code)(hc:Hh P f=c)(h:Gg P' cl [] ids c=true):Jy (cx P' cl [] (R4 P) D F) (cut ids c) c:=by
 subst hc
 exact Io (X:=cx P' cl [] (R4 P) D F) (cl:=cl) (gl:=[]) Ag6 (fun g h=>by cases h) (fun o h=>h) ids (Hh P f) (fun r hr hi=>⟨(f,ids),hk,r,hr,hi,rfl,rfl⟩) h
theorem Abq:Gg Vp.prog phs [] [0,13] (Hh Tryz.prog 33)=true:=by kernel_rfl
theorem Abn:Gg Vp.prog phs [] [9,10,12] (Hh Tryz.prog 15)=true:=by kernel_rfl
end Ok
section
open Go.RowKit Co Ok
attribute [local go_sem ↓] Go.wp_at_zero Go.wp_at_succ
theorem Adn (t:Array Value)(h:t.size=61):∃y0 y1 y2 y3 y4 y5 y6 y7 y8 y9 y10 y11 y12 y13 y14 y15 y16 y17 y18 y19 y20 y21 y22 y23 y24 y25 y26 y27 y28 y29 y30 y31 y32 y33 y34 y35 y36 y37 y38 y39 y40 y41 y42 y43 y44 y45 y46 y47 y48 y49 y50 y51 y52 y53 y54 y55 y56 y57 y58 y59 y60:Value,t=#[y0,y1,y2,y3,y4,y5,y6,y7,y8,y9,y10,y11,y12,y13,y14,y15,y16,y17,y18,y19,y20,y21,y22,y23,y24,y25,y26,y27,y28,y29,y30,y31,y32,y33,y34,y35,y36,y37,y38,y39,y40,y41,y42,y43,y44,y45,y46,y47,y48,y49,y50,y51,y52,y53,y54,y55,y56,y57,y58,y59,y60]:=by
 obtain⟨l⟩:=t;simp only[Ali]at h
 rcases l with _ |⟨y0,l⟩
 ·simp at h
 rcases l with _ |⟨y1,l⟩
 ·simp at h
 rcases l with _ |⟨y2,l⟩
 ·simp at h
 rcases l with _ |⟨y3,l⟩
 ·simp at h
 rcases l with _ |⟨y4,l⟩
 ·simp at h
 rcases l with _ |⟨y5,l⟩
 ·simp at h
 rcases l with _ |⟨y6,l⟩
 ·simp at h
 rcases l with _ |⟨y7,l⟩
 ·simp at h
 rcases l with _ |⟨y8,l⟩
 ·simp at h
 rcases l with _ |⟨y9,l⟩
 ·simp at h
 rcases l with _ |⟨y10,l⟩
 ·simp at h
 rcases l with _ |⟨y11,l⟩
 ·simp at h
 rcases l with _ |⟨y12,l⟩
 ·simp at h
 rcases l with _ |⟨y13,l⟩
 ·simp at h
 rcases l with _ |⟨y14,l⟩
 ·simp at h
 rcases l with _ |⟨y15,l⟩
 ·simp at h
 rcases l with _ |⟨y16,l⟩
 ·simp at h
 rcases l with _ |⟨y17,l⟩
 ·simp at h
 rcases l with _ |⟨y18,l⟩
 ·simp at h
 rcases l with _ |⟨y19,l⟩
 ·simp at h
 rcases l with _ |⟨y20,l⟩
 ·simp at h
 rcases l with _ |⟨y21,l⟩
 ·simp at h
 rcases l with _ |⟨y22,l⟩
 ·simp at h
 rcases l with _ |⟨y23,l⟩
 ·simp at h
 rcases l with _ |⟨y24,l⟩
 ·simp at h
 rcases l with _ |⟨y25,l⟩
 ·simp at h
 rcases l with _ |⟨y26,l⟩
 ·simp at h
 rcases l with _ |⟨y27,l⟩
 ·simp at h
 rcases l with _ |⟨y28,l⟩
 ·simp at h
 rcases l with _ |⟨y29,l⟩
 ·simp at h
 rcases l with _ |⟨y30,l⟩
 ·simp at h
 rcases l with _ |⟨y31,l⟩
 ·simp at h
 rcases l with _ |⟨y32,l⟩
 ·simp at h
 rcases l with _ |⟨y33,l⟩
 ·simp at h
 rcases l with _ |⟨y34,l⟩
 ·simp at h
 rcases l with _ |⟨y35,l⟩
 ·simp at h
 rcases l with _ |⟨y36,l⟩
 ·simp at h
 rcases l with _ |⟨y37,l⟩
 ·simp at h
 rcases l with _ |⟨y38,l⟩
 ·simp at h
 rcases l with _ |⟨y39,l⟩
 ·simp at h
 rcases l with _ |⟨y40,l⟩
 ·simp at h
 rcases l with _ |⟨y41,l⟩
 ·simp at h
 rcases l with _ |⟨y42,l⟩
 ·simp at h
 rcases l with _ |⟨y43,l⟩
 ·simp at h
 rcases l with _ |⟨y44,l⟩
 ·simp at h
 rcases l with _ |⟨y45,l⟩
 ·simp at h
 rcases l with _ |⟨y46,l⟩
 ·simp at h
 rcases l with _ |⟨y47,l⟩
 ·simp at h
 rcases l with _ |⟨y48,l⟩
 ·simp at h
 rcases l with _ |⟨y49,l⟩
 ·simp at h
 rcases l with _ |⟨y50,l⟩
 ·simp at h
 rcases l with _ |⟨y51,l⟩
 ·simp at h
 rcases l with _ |⟨y52,l⟩
 ·simp at h
 rcases l with _ |⟨y53,l⟩
 ·simp at h
 rcases l with _ |⟨y54,l⟩
 ·simp at h
 rcases l with _ |⟨y55,l⟩
 ·simp at h
 rcases l with _ |⟨y56,l⟩
 ·simp at h
 rcases l with _ |⟨y57,l⟩
 ·simp at h
 rcases l with _ |⟨y58,l⟩
 ·simp at h
 rcases l with _ |⟨y59,l⟩
 ·simp at h
 rcases l with _ |⟨y60,l⟩
 ·simp at h
 rcases l with _ |⟨y,l⟩
 ·exact⟨y0,y1,y2,y3,y4,y5,y6,y7,y8,y9,y10,y11,y12,y13,y14,y15,y16,y17,y18,y19,y20,y21,y22,y23,y24,y25,y26,y27,y28,y29,y30,y31,y32,y33,y34,y35,y36,y37,y38,y39,y40,y41,y42,y43,y44,y45,y46,y47,y48,y49,y50,y51,y52,y53,y54,y55,y56,y57,y58,y59,y60,rfl⟩
 ·simp at h
noncomputable def sR0:Code:=match G0 with|.seq a _=>a|_=>.skip
noncomputable def sR1:Code:=match G0 with|.seq _ (.seq a _)=>a|_=>.skip
noncomputable def sR2:Code:=match sX0 with|.seq a _=>a|_=>.skip
noncomputable def Ahu:Code:=match A3r with|.seq _ (.seq _ (.seq _ a))=>a|_=>.skip
noncomputable def A3q:Code:=match sX0 with|.seq _ (.seq _ (.seq _ a))=>a|_=>.skip
noncomputable def sX:Code:=cut [0,13] sX0
theorem Aae:Hh Tryz.prog 33=G0:=by kernel_rfl
theorem Ags:sX=.seq sR2 (.seq (.cond (.tmp 19) .skip (.exit 0)) (.seq (.block 1 (.seq sR3 (.seq sR4 (.seq sIn (.refuse "13"))))) A3q)):=by kernel_rfl
theorem A6h:cut [0,13] G0=.seq (.refuse "0") (.seq sR1 (.block 0 (.loop sX))):=by kernel_rfl
structure SA (ch:Value)(cx cy d n:Nat)(A4:Int)(i:Nat)(a:Act):Prop where
 size:a.tmps.size=61
 t0:a.tmps[0]?=some ch
 t1:a.tmps[1]?=some (.complex .f32 cx cy)
 t2:a.tmps[2]?=some (.int .i64 d)
 t3:a.tmps[3]?=some (.int .i64 n)
 t4:a.tmps[4]?=some (.int .i64 A4)
 t17:a.tmps[17]?=some (.int .i64 n)
 t18:a.tmps[18]?=some (.int .i64 i)
theorem SA.arr {ch:Value}{cx cy d n i:Nat}{A4:Int}{a:Act}(h:SA ch cx cy d n A4 i a):∃y5 y6 y7 y8 y9 y10 y11 y12 y13 y14 y15 y16 y19 y20 y21 y22 y23 y24 y25 y26 y27 y28 y29 y30 y31 y32 y33 y34 y35 y36 y37 y38 y39 y40 y41 y42 y43 y44 y45 y46 y47 y48 y49 y50 y51 y52 y53 y54 y55 y56 y57 y58 y59 y60:Value,a=⟨#[ch,(.complex .f32 cx cy),(.int .i64 d),(.int .i64 n),(.int .i64 A4),y5,y6,y7,y8,y9,y10,y11,y12,y13,y14,y15,y16,(.int .i64 n),(.int .i64 i),y19,y20,y21,y22,y23,y24,y25,y26,y27,y28,y29,y30,y31,y32,y33,y34,y35,y36,y37,y38,y39,y40,y41,y42,y43,y44,y45,y46,y47,y48,y49,y50,y51,y52,y53,y54,y55,y56,y57,y58,y59,y60],a.defers⟩:=by
 obtain⟨t,ds⟩:=a;obtain⟨y0,y1,y2,y3,y4,y5,y6,y7,y8,y9,y10,y11,y12,y13,y14,y15,y16,y17,y18,y19,y20,y21,y22,y23,y24,y25,y26,y27,y28,y29,y30,y31,y32,y33,y34,y35,y36,y37,y38,y39,y40,y41,y42,y43,y44,y45,y46,y47,y48,y49,y50,y51,y52,y53,y54,y55,y56,y57,y58,y59,y60,rfl⟩:=Adn t h.size;obtain⟨_,h0,h1,h2,h3,h4,h17,h18⟩:=h
 cases h0;cases h1;cases h2;cases h3;cases h4;cases h17;cases h18
 exact⟨y5,y6,y7,y8,y9,y10,y11,y12,y13,y14,y15,y16,y19,y20,y21,y22,y23,y24,y25,y26,y27,y28,y29,y30,y31,y32,y33,y34,y35,y36,y37,y38,y39,y40,y41,y42,y43,y44,y45,y46,y47,y48,y49,y50,y51,y52,y53,y54,y55,y56,y57,y58,y59,y60,rfl⟩
def HS (ch:Value)(cx cy d n:Nat)(A4:Int)(st:Nat->Nat->Int)(sm:Nat->Nat->Nat)(ds:List Deferred)(i:Nat)(t:List Item)(a:Act)(w':World):Prop :=
 (i<n/\t=[.code (.refuse "13"), .inBlock 1,.code A3q,.inLoop sX,.inBlock 0]/\∃w:World,Abh ch cx cy d n A4 st sm ds w i a w') \/(i=n/\t=[]/\a.tmps.size=61/\a.defers=ds)
section
variable {cx cy d n : Nat} {A4 : Int} {px py : Nat -> Nat -> Nat} {bx : Nat -> Nat -> Value} {st : Nat -> Nat -> Int} {sm : Nat -> Nat -> Nat} (C : K9 cx cy d n A4 px py bx st sm) (hn : n <= 8) {ch : Value} {i : Nat} {a : Act}
include C hn
theorem A50 (hi:i<=n)(h:SA ch cx cy d n A4 i a)(w:World):HW Vp.prog [.code sX,.inLoop sX,.inBlock 0] (HS ch cx cy d n A4 st sm a.defers i) a w:=by
 obtain⟨y5,y6,y7,y8,y9,y10,y11,y12,y13,y14,y15,y16,y19,y20,y21,y22,y23,y24,y25,y26,y27,y28,y29,y30,y31,y32,y33,y34,y35,y36,y37,y38,y39,y40,y41,y42,y43,y44,y45,y46,y47,y48,y49,y50,y51,y52,y53,y54,y55,y56,y57,y58,y59,y60,ha⟩:=h.arr;obtain⟨t,ds⟩:=a;dsimp only at ha ⊢;rw[ha];clear ha h;rw[show Item.code sX=Item.code (.seq sR2 (.seq (.cond (.tmp 19) .skip (.exit 0)) (.seq (.block 1 (.seq sR3 (.seq sR4 (.seq sIn (.refuse "13"))))) A3q)))from congrArg Item.code Ags]
 refine .seq ?_
 by_cases hlt:i<n
 ·refine HW.Ph (N:=fun a' w'=>w'=w/\a'=⟨#[ch,(.complex .f32 cx cy),(.int .i64 d),(.int .i64 n),(.int .i64 A4),y5,y6,y7,y8,y9,y10,y11,y12,y13,y14,y15,y16,(.int .i64 n),(.int .i64 i),.bool true,y20,y21,y22,y23,y24,y25,y26,y27,y28,y29,y30,y31,y32,y33,y34,y35,y36,y37,y38,y39,y40,y41,y42,y43,y44,y45,y46,y47,y48,y49,y50,y51,y52,y53,y54,y55,y56,y57,y58,y59,y60],ds⟩) ?_ ?_
  ·unfold sR2 sX0 G0 Tryz.f33;dsimp only[Option.getD]
   go_wp2
   exact⟨rfl,rfl⟩
  ·rintro _ _ ⟨rfl,rfl⟩
   refine .seq (.cond (t:=true) rfl (.skip (.seq (.block (.seq ?_)))))
   refine HW.Ph (Af6 C hn i hlt ch ds _ _ _ _ _ _ _ _ _ _ _ _ _ _ _ _ _ _ _ _ _ _ _ _ _ _ _ _ _ _ _ _ _ _ _ _ _ _ _ _ _ _ _ _ _ _ _ _ _ _ _ _ _ _ _) fun a1 w1 h1=>.seq (HW.Ph h1 fun a2 w2 h2=>.seq (HW.Ph h2 fun a3 w3 h3=>.stop (.inl ⟨hlt,rfl,_,h3⟩)))
 ·obtain rfl:i=n:=by omega
  refine HW.Ph (N:=fun a' w'=>w'=w/\a'=⟨#[ch,(.complex .f32 cx cy),(.int .i64 d),(.int .i64 i),(.int .i64 A4),y5,y6,y7,y8,y9,y10,y11,y12,y13,y14,y15,y16,(.int .i64 i),(.int .i64 i),.bool false,y20,y21,y22,y23,y24,y25,y26,y27,y28,y29,y30,y31,y32,y33,y34,y35,y36,y37,y38,y39,y40,y41,y42,y43,y44,y45,y46,y47,y48,y49,y50,y51,y52,y53,y54,y55,y56,y57,y58,y59,y60],ds⟩) ?_ ?_
  ·unfold sR2 sX0 G0 Tryz.f33;dsimp only[Option.getD]
   go_wp2
   exact⟨rfl,rfl⟩
  ·rintro _ _ ⟨rfl,rfl⟩
   exact .seq (.cond (t:=false) rfl (.exit (s':=[]) rfl (.stop (.inr ⟨rfl,rfl,rfl,rfl⟩))))
theorem Ac5 (hi:i<n)(h:SA ch cx cy d n A4 i a)(w:World):HW Vp.prog [.inBlock 1,.code A3q,.inLoop sX,.inBlock 0] (HS ch cx cy d n A4 st sm a.defers (i+1)) a w:=by
 obtain⟨y5,y6,y7,y8,y9,y10,y11,y12,y13,y14,y15,y16,y19,y20,y21,y22,y23,y24,y25,y26,y27,y28,y29,y30,y31,y32,y33,y34,y35,y36,y37,y38,y39,y40,y41,y42,y43,y44,y45,y46,y47,y48,y49,y50,y51,y52,y53,y54,y55,y56,y57,y58,y59,y60,ha⟩:=h.arr;obtain⟨t,ds⟩:=a;dsimp only at ha ⊢;rw[ha];clear ha h
 refine .inBlock (HW.Ph (N:=fun a' w'=>w'=w/\SA ch cx cy d n A4 (i+1) a'/\a'.defers=ds) ?_ ?_)
 ·unfold A3q sX0 G0 Tryz.f33;dsimp only[Option.getD]
  go_wp2
  exact⟨rfl,⟨rfl,rfl,rfl,rfl,rfl,rfl,rfl,by go_num⟩,rfl⟩
 ·rintro a1 _ ⟨rfl,h1,rfl⟩
  exact .inLoop (A50 C hn hi h1 _)
theorem A9g (hsz:a.tmps.size=61)(h0:a.tmps[0]?=some ch)(h1:a.tmps[1]?=some (.complex .f32 cx cy))(h2:a.tmps[2]?=some (.int .i64 d))(h3:a.tmps[3]?=some (.int .i64 n))(h4:a.tmps[4]?=some (.int .i64 A4))(w:World) :
 HW Vp.prog [.code (.seq sR1 (.block 0 (.loop sX)))] (HS ch cx cy d n A4 st sm a.defers 0) a w:=by
 obtain⟨t,ds⟩:=a;dsimp only at hsz h0 h1 h2 h3 h4 ⊢;obtain⟨y0,y1,y2,y3,y4,y5,y6,y7,y8,y9,y10,y11,y12,y13,y14,y15,y16,y17,y18,y19,y20,y21,y22,y23,y24,y25,y26,y27,y28,y29,y30,y31,y32,y33,y34,y35,y36,y37,y38,y39,y40,y41,y42,y43,y44,y45,y46,y47,y48,y49,y50,y51,y52,y53,y54,y55,y56,y57,y58,y59,y60,rfl⟩:=Adn t hsz
 cases h0;cases h1;cases h2;cases h3;cases h4
 refine .seq (HW.Ph (N:=fun a' w'=>w'=w/\SA y0 cx cy d n A4 0 a'/\a'.defers=ds) ?_ ?_)
 ·unfold sR1 G0 Tryz.f33;dsimp only[Option.getD]
  go_wp2
  exact⟨rfl,⟨rfl,rfl,rfl,rfl,rfl,rfl,rfl,rfl⟩,rfl⟩
 ·rintro a1 _ ⟨rfl,h1,rfl⟩
  exact .block (.loop (A50 C hn (Aj9 _) h1 _))
end
end
end Go.Proofs.YtlfleicchbgcmaaGreat
