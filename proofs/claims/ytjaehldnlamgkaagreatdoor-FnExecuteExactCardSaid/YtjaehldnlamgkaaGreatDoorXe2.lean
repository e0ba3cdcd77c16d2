import Derived.Test.YtjaehldnlamgkaaGreatDoorXe1
import Derived.Laws.Sem
import Derived.Test.YtjaehldnlamgkaaGreatDoorXe0
set_option linter.all false
set_option maxHeartbeats 16000000
set_option maxRecDepth 100000
namespace Go.Proofs.YtjaehldnlamgkaaGreatDoor
namespace Lr
def G2 (X:Cx)(B:Lk)(n:Array Event):Prop:=∀e∈n,Zl X B e
theorem G2.nil {X:Cx}{B:Lk}:G2 X B #[]:=fun e h=>by simp at h
theorem G2.append {X:Cx}{B:Lk}{n m:Array Event}(h:G2 X B n)(k:G2 X B m):G2 X B (n++m):=fun e x=>(Array.mem_append.1 x).elim (h e) (k e)
theorem G2.mono {X:Cx}{B B':Lk}(h:Le B B'){n:Array Event}(k:G2 X B n):G2 X B' n:=fun e x=>(k e x).mono h
def Jo:Halt->Prop
 | .stuck _|.exit _=>True
 | .unsupported (.initOrder _)=>False
 | .unsupported _=>True
 | _=>False
def A9w (X:Cx)(P':Program){α β:Type}(R:Lk->α->β->Prop)(B:Lk)(V W:World)(s':Sem β):Result α->Prop
 | .ok a V'=>∃(B':Lk) (W':World) (b:β) (n:Array Event),Ext X B V W B' V' W'/\WR X B' V' W' /\(∀es,s'.runT P' W es=(.ok b W',es++n))/\R B' a b/\G2 X B' n
 | .halt (.panic v) V'=>∃(B':Lk) (W':World) (v':Value) (n:Array Event),Ext X B V W B' V' W'/\WR X B' V' W' /\(∀es,s'.runT P' W es=(.halt (.panic v') W',es++n))/\VR X B' v v'/\G2 X B' n
 | .halt h _=>Jo h
def N6 (P:Program){α:Type}(s:Sem α)(V:World):Prop:=∀es,∀e∈(s.runT P V es).2,e∈es\/e.loc≠.output
def Clean (P:Program){α:Type}(s:Sem α)(V:World):Prop:=(∃h V',s.run P V=.halt h V'/\Jo h)\/N6 P s V
def SR (X:Cx)(P P':Program){α β:Type}(R:Lk->α->β->Prop)(B:Lk)(s:Sem α)(s':Sem β):Prop:=∀V W,WR X B V W->Clean P s V/\A9w X P' R B V W s' (s.run P V)
theorem A7u {P:Program}{α:Type}(a:α)(V:World):N6 P (Pure.pure a:Sem α) V:=fun es e h=>.inl (by simpa [Pure.pure,Sem.runT,-Sem.runT_eq]using h)
theorem A40 {P:Program}{α:Type}(v:Value)(V:World):N6 P (goPanic v:Sem α) V:=fun es e h=>.inl (by simpa [goPanic,Sem.runT,-Sem.runT_eq]using h)
def Same {α:Type}(_:Lk)(a b:α):Prop:=b=a
theorem Ag {X:Cx}{P':Program}{α β:Type}{R:Lk->α->β->Prop}{B:Lk}{V W V':World}{s':Sem β}{h:Halt}(n:Jo h):A9w X P' R B V W s' (.halt h V'):=by
 cases h with
 | panic v=>exact n.elim
 | _=>exact n
theorem Gd {X:Cx}{P':Program}{α β:Type}{R:Lk->α->β->Prop}{B:Lk}{V W V':World}{s':Sem β}{h:Halt}(hp:∀v,h≠.panic v)(k:A9w X P' R B V W s' (.halt h V')):Jo h:=by
 cases h with
 | panic v=>exact absurd rfl (hp v)
 | _=>exact k
theorem F8 (h:Halt):(∃v,h=.panic v)\/∀v,h≠.panic v:=by
 cases h with
 | panic v=>exact .inl ⟨v,rfl⟩
 | _=>exact .inr fun v e=>by cases e
theorem SR.halt {X:Cx}{P P':Program}{α β:Type}{R:Lk->α->β->Prop}{B:Lk}{s':Sem β}{h:Halt}(n:Jo h):SR X P P' R B (Sem.halt h:Sem α) s':=fun _ _ _=>⟨.inl ⟨h,_,rfl,n⟩,Ag n⟩
theorem SR.stuck {X:Cx}{P P':Program}{α β:Type}{R:Lk->α->β->Prop}{B:Lk}{s':Sem β}{why:String}:SR X P P' R B (Go.stuck why:Sem α) s':=.halt trivial
theorem SR.unsupported {X:Cx}{P P':Program}{α β:Type}{R:Lk->α->β->Prop}{B:Lk}{s':Sem β}{u:Unsupported}(h:Jo (.unsupported u):=by trivial):SR X P P' R B (Go.unsupported u:Sem α) s':=.halt h
theorem SR.C7 {X:Cx}{P P':Program}{α β γ:Type}{R:Lk->γ->β->Prop}{B:Lk}{s':Sem β}{why:String}{f:α->Sem γ}:SR X P P' R B ((Go.stuck why:Sem α) >>= f) s':=fun _ _ _=>⟨.inl ⟨.stuck why,_,rfl,trivial⟩,Ag (h:=.stuck why) trivial⟩
theorem SR.A9 {X:Cx}{P P':Program}{α β γ:Type}{R:Lk->γ->β->Prop}{B:Lk}{s':Sem β}{u:Unsupported}{f:α->Sem γ}(h:Jo (.unsupported u):=by trivial):SR X P P' R B ((Go.unsupported u:Sem α) >>= f) s':=fun _ _ _=>⟨.inl ⟨.unsupported u,_,rfl,h⟩,Ag (h:=.unsupported u) h⟩
theorem SR.pure {X:Cx}{P P':Program}{α β:Type}{R:Lk->α->β->Prop}{B:Lk}{a:α}{b:β}(h:R B a b):SR X P P' R B (Pure.pure a:Sem α) (Pure.pure b:Sem β) :=
 fun V W hw=>⟨.inr (A7u a V),B,W,b,#[],Ext.refl ..,hw,fun es=>by simp[Pure.pure,Sem.runT,-Sem.runT_eq],h,.nil⟩
theorem SR.mono {X:Cx}{P P':Program}{α β:Type}{R R':Lk->α->β->Prop}{B:Lk}{s:Sem α}{s':Sem β}(h:SR X P P' R B s s')(hr:∀B' a b,R B' a b->R' B' a b):SR X P P' R' B s s':=by
 intro V W hw;obtain⟨hcl,this⟩:=h V W hw
 refine⟨hcl,?_⟩
 generalize s.run P V=r at this ⊢
 match r,this with
 | .ok a V',⟨B',W',b,n,h1,h2,h3,h4,h5⟩=>exact⟨B',W',b,n,h1,h2,h3,hr _ _ _ h4,h5⟩
 | .halt e V',k =>
   rcases F8 e with⟨v,rfl⟩|hp
   ·exact k
   ·exact Ag (Gd hp k)
theorem run_bind' {α β:Type}(P:Program)(x:Sem α)(f:α->Sem β)(w:World):(x >>= f).run P w=match x.run P w with
 | .ok a w'=>(f a).run P w'
 | .halt h w'=>.halt h w':=by
 rw[Sem.run_bind]
 cases x.run P w<;>rfl
theorem SR.bind {X:Cx}{P P':Program}{α β γ δ:Type}{R:Lk->α->β->Prop}{R2:Lk->γ->δ->Prop}{B:Lk}{s:Sem α}{s':Sem β}{f:α->Sem γ}{f':β->Sem δ}
 (h:SR X P P' R B s s') (hf:∀B',Le B B'->∀a b,R B' a b->SR X P P' R2 B' (f a) (f' b)):SR X P P' R2 B (s >>= f) (s' >>= f'):=by
 intro V W hw;obtain⟨hcl,this⟩:=h V W hw
 refine⟨?_,?_⟩
 ·rcases hcl with⟨x,V',e1,e2⟩|hcl
  ·exact .inl ⟨x,V',by rw[run_bind',e1],e2⟩
  ·have ev:∀es,(s >>= f).runT P V es=match s.runT P V es with
    |(.ok a V1,es1)=>(f a).runT P V1 es1
    |(.halt h V1,es1)=>(.halt h V1,es1):=fun es=>by
    show(s.bind f).runT P V es=_
    rw[Sem.runT_bind'];generalize s.runT P V es=q;obtain⟨r,es1⟩:=q
    cases r<;>rfl
   have hfst:∀es,(s.runT P V es).1=s.run P V:=fun es=>by rw[Sem.runT_eq]
   cases hs:s.run P V with
   | halt x V1 =>
     refine .inr fun es e he=>?_
     rw[ev]at he;have h1:=hfst es;have h2:=hcl es e;generalize s.runT P V es=q at he h1 h2;obtain⟨r,es1⟩:=q;dsimp only at h1;subst h1;rw[hs]at he
     exact h2 he
   | ok a V1 =>
     rw[hs]at this;obtain⟨B',W',b,n,h1,h2,h3,h4,h5⟩:=this
     rcases(hf B' h1.le a b h4 V1 W' h2).1 with⟨x,V2,e1,e2⟩|hc2
     ·exact .inl ⟨x,V2,by rw[run_bind',hs];exact e1,e2⟩
     ·refine .inr fun es e he=>?_
      rw[ev]at he;have h1:=hfst es;have h2:=hcl es;generalize s.runT P V es=q at he h1 h2;obtain⟨r,es1⟩:=q;dsimp only at h1;subst h1;rw[hs]at he
      rcases hc2 es1 e he with h|h
      ·exact h2 e h
      ·exact .inr h
 rw[run_bind'];generalize s.run P V=r at this ⊢
 have join:∀{o:Result β} {W':World} {n:Array Event},(∀es,s'.runT P' W es=(o,es++n))->∀es,(s' >>= f').runT P' W es=match o with
  | .ok b W'=>(f' b).runT P' W' (es++n)
  | .halt h W'=>(.halt h W',es++n):=by
  intro o W' n hn es
  show(s'.bind f').runT P' W es=_
  rw[Sem.runT_bind',hn]
  cases o<;>rfl
 match r,this with
 | .ok a V',⟨B',W',b,n,h1,h2,h3,h4,h5⟩ =>
   have k:=(hf B' h1.le a b h4 V' W' h2).2
   show A9w X P' R2 B V W (s' >>= f') ((f a).run P V')
   generalize (f a).run P V'=r2 at k ⊢
   match r2,k with
   | .ok c V'',⟨B'',W'',d,m,g1,g2,g3,g4,g5⟩ =>
     exact⟨B'',W'',d,n++m,h1.trans g1,g2,fun es=>by rw[join (W':=W') h3,<-Array.append_assoc];exact g3 _,g4,(h5.mono g1.le).append g5⟩
   | .halt e V'',k =>
     rcases F8 e with⟨v,rfl⟩|hp
     ·obtain⟨B'',W'',d,m,g1,g2,g3,g4,g5⟩:=k
      exact⟨B'',W'',d,n++m,h1.trans g1,g2,fun es=>by rw[join (W':=W') h3,<-Array.append_assoc];exact g3 _,g4,(h5.mono g1.le).append g5⟩
     ·exact Ag (Gd hp k)
 | .halt e V',k =>
   rcases F8 e with⟨v,rfl⟩|hp
   ·obtain⟨B',W',v',n,h1,h2,h3,h4,h5⟩:=k
    exact⟨B',W',v',n,h1,h2,fun es=>by rw[join (W':=W') h3],h4,h5⟩
   ·exact Ag (Gd hp k)
theorem SR.map {X:Cx}{P P':Program}{α β γ δ:Type}{R:Lk->α->β->Prop}{R2:Lk->γ->δ->Prop}{B:Lk}{s:Sem α}{s':Sem β}{f:α->γ}{f':β->δ}
 (h:SR X P P' R B s s') (hf:∀B',Le B B'->∀a b,R B' a b->R2 B' (f a) (f' b)):SR X P P' R2 B (f <$> s) (f' <$> s'):=SR.bind h fun B' hl a b r=>SR.pure (hf B' hl a b r)
theorem SR.ite {X:Cx}{P P':Program}{α β:Type}{R:Lk->α->β->Prop}{B:Lk}{c:Prop}[Decidable c]{s t:Sem α}{s' t':Sem β}(h:c->SR X P P' R B s s')(k:¬c->SR X P P' R B t t') :
 SR X P P' R B (if c then s else t) (if c then s' else t'):=by
 by_cases x:c
 ·rw[Amo x,Amo x];exact h x
 ·rw[Amd x,Amd x];exact k x
theorem SR.panic {X:Cx}{P P':Program}{α β:Type}{R:Lk->α->β->Prop}{B:Lk}{v v':Value}(h:VR X B v v'):SR X P P' R B (goPanic v:Sem α) (goPanic v':Sem β) :=
 fun V W hw=>⟨.inr (A40 v V),B,W,v',#[],Ext.refl ..,hw,fun es=>by simp[goPanic,Sem.runT,-Sem.runT_eq],h,.nil⟩
theorem SR.A67 {X:Cx}{P P':Program}{α β:Type}{R:Lk->α->β->Prop}{B:Lk}{s:Sem α}{s':Sem β}
 (h:(∀b b₁ b₂,B b b₁->B b b₂->b₁=b₂) ->(∀b₁ b₂ b',B b₁ b'->B b₂ b'->b₁=b₂) ->(∀b b',B b b' ->(b<X.N↔b'<X.N))->SR X P P' R B s s'):SR X P P' R B s s' :=
 fun V W hw=>h hw.fn hw.inj hw.low V W hw
theorem A0s {P:Program}(q:Question)(V:World):N6 P (Go.choose q) V:=fun es e h=>by
 unfold Go.choose at h;simp only[Sem.runT]at h
 split at h<;>exact .inl h
theorem Y4 {P:Program}(V:World):N6 P Go.program V:=fun es e h=>.inl (by simpa [Go.program,Sem.runT,-Sem.runT_eq]using h)
theorem A7t {P:Program}(m:Mark)(V:World):N6 P (Go.mark m) V:=fun es e h=>by
 have h:e∈es.push ⟨.mark m,false,true⟩:=by simpa [Go.mark,Sem.runT,-Sem.runT_eq]using h
 rcases Aqg.1 h with h|rfl
 ·exact .inl h
 ·exact .inr (by intro e;cases e)
theorem Ab0 {P:Program}(o:Obj)(V:World):N6 P (Go.newObj o) V:=fun es e h=>.inl (by simpa [Go.newObj,Sem.runT,-Sem.runT_eq]using h)
theorem Sp {P:Program}(r:Nat)(V:World):N6 P (Go.shape r) V:=fun es e h=>.inl (by simpa [Go.shape,Sem.runT,-Sem.runT_eq]using h)
theorem A0v {P:Program}(r:Nat)(V:World):N6 P (Go.getObj r) V:=fun es e h=>by
 unfold Go.getObj at h;simp only[Sem.runT]at h
 split at h
 ·exact .inl h
 ·rcases Aqg.1 h with h|rfl
  ·exact .inl h
  ·exact .inr (by intro e;cases e)
 ·exact .inl h
theorem A0w {P:Program}(r:Nat)(o:Obj)(V:World):N6 P (Go.setObj r o) V:=fun es e h=>by
 unfold Go.setObj at h;simp only[Sem.runT]at h
 split at h
 ·exact .inl h
 ·rcases Aqg.1 h with h|rfl
  ·exact .inl h
  ·exact .inr (by intro e;cases e)
 ·exact .inl h
theorem So {es:Array Event}{l:List Addr}{b c:Bool}{e:Event}(h:e∈es++l.toArray.map fun a=>(⟨.cell a,b,c⟩:Event)):e∈es\/e.loc≠.output:=by
 rcases Array.mem_append.1 h with h|h
 ·exact .inl h
 ·obtain⟨a,_,rfl⟩:=Array.mem_map.1 h
  exact .inr (by intro e;cases e)
theorem A7s {P:Program}(a:Addr)(V:World):N6 P (Go.load a) V:=fun es e h=>by
 unfold Go.load at h;simp only[Sem.runT]at h
 split at h
 ·rcases Aqg.1 h with h|rfl
  ·exact .inl h
  ·exact .inr (by intro e;cases e)
 ·split at h
  ·exact So h
  ·exact .inl h
theorem A41 {P:Program}(a:Addr)(v:Value)(V:World):N6 P (Go.store a v) V:=fun es e h=>by
 have key:∀(r:Result Unit×Array Event),(r=(.halt (.stuck "store: not the value of one cell") V,es)\/r=(match V.cell? a with
  | some _ =>
    if V.frozen? a then(.halt (.unsupported (.unsafePointer "a write to bytes that a string shares")) V,es)
    else(.ok () (V.setCell a v),(es.push ⟨.cell a,true,false⟩))
  | none=>match V.farStore P a v false with
    | .ok (w,touched)=>(.ok () w,(es++touched.toArray.map (⟨.cell ·,true,false⟩)))
    | .error h=>(.halt h V,es)))->e∈r.2->e∈es\/e.loc≠.output:=by
  rintro r (rfl|rfl) h
  ·exact .inl h
  ·split at h
   ·split at h
    ·exact .inl h
    ·rcases Aqg.1 h with h|rfl
     ·exact .inl h
     ·exact .inr (by intro e;cases e)
   ·split at h
    ·exact So h
    ·exact .inl h
 refine key _ ?_ h
 cases v<;>first|exact .inl rfl|exact .inr rfl
section
variable {X : Cx} {P P' : Program} {B : Lk}
theorem SR.choose (q:Question):SR X P P' Same B (choose q) (choose q):=by
 intro V W hw
 refine⟨.inr (A0s q V),?_⟩
 by_cases hq:q.forced=true
 ·simp only[Go.choose,Sem.run,hq,Apg]
  exact⟨B,W,0,#[],Ext.refl ..,hw,fun es=>by simp[Sem.runT,hq,-Sem.runT_eq],rfl,.nil⟩
 ·simp only[Go.choose,Sem.run,hq,Ao5,Amk]
  refine⟨B,{ W with drawn:=W.drawn+1 },q.cut (W.tape W.drawn q),#[],⟨Le.refl _,fun _ _ h=>.inl h,Am0 _,Am0 _,rfl,⟨rfl,rfl⟩,fun _ _ _=>rfl⟩,⟨hw.tape,by simp[hw.drawn],hw.os,hw.output,hw.fn,hw.inj,hw.G8,hw.live,hw.Hj,hw.dead,hw.Vv,hw.Qo,hw.low,hw.nV,hw.nW⟩,
   fun es=>by simp[Sem.runT,hq,-Sem.runT_eq],by simp[Same,hw.tape,hw.drawn],.nil⟩
theorem SR.program:SR X P P' (fun _ p p'=>p=P/\p'=P') B program program:=by
 intro V W hw
 refine⟨.inr (Y4 V),?_⟩
 exact⟨B,W,P',#[],Ext.refl ..,hw,fun es=>by simp[Go.program,Sem.runT,-Sem.runT_eq],⟨rfl,rfl⟩,.nil⟩
theorem SR.mark {m:Mark}(h:m=.noRoom\/∃f,m=.extern f):SR X P P' (fun _ _ _=>True) B (mark m) (mark m):=by
 intro V W hw
 refine⟨.inr (A7t m V),?_⟩
 refine⟨B,W,(),#[⟨.mark m,false,true⟩],Ext.refl ..,hw,fun es=>by simp[Go.mark,Sem.runT,-Sem.runT_eq],trivial,fun e he=>?_⟩
 rw[Aqb]at he;subst he
 exact h
theorem WR.upd {V W:World}(h:WR X B V W){b b':Nat}(k:B b b')(d:¬X.D b)(f:¬X.F b){o o':Obj}(ho:Um X B o o') :
 WR X B { V with heap:=V.heap.setIfInBounds b o } { W with heap:=W.heap.setIfInBounds b' o' }/\Ext X B V W B { V with heap:=V.heap.setIfInBounds b o } { W with heap:=W.heap.setIfInBounds b' o' }:=by
 have hb:=h.Wo k;have hb':=h.ltW k
 refine⟨⟨h.tape,h.drawn,h.os,h.output,h.fn,h.inj,h.G8,fun c c' x dc fc=>?_,fun c c' x dc fc=>?_,fun c c' x dc=>?_,fun c dc=>by simpa using h.Vv c dc,fun c dc=>by simpa using h.Qo c dc,h.low,by simpa using h.nV,by simpa using h.nW⟩,⟨Le.refl _,fun _ _ x=>.inl x,by simp,by simp,rfl,⟨rfl,rfl⟩,fun c hc hd=>?_⟩⟩
 ·by_cases e:b=c
  ·subst e;obtain rfl:=h.fn b b' c' k x
   exact⟨o,o',by simp[hb],by simp[hb'],ho⟩
  ·have e':b'≠c':=fun e'=>e (h.inj b c c' (e'▸k) x)
   obtain⟨p,p',h1,h2,h3⟩:=h.live c c' x dc fc
   exact⟨p,p',by simp[e,h1],by simp[e',h2],h3⟩
 ·have e:b≠c:=fun e=>f (e▸fc)
  have e':b'≠c':=fun e'=>e (h.inj b c c' (e'▸k) x)
  obtain⟨p,p',t,t',g,h1,h2,h3⟩:=h.Hj c c' x dc fc
  exact⟨p,p',t,t',g,by simp[e,h1],by simp[e',h2],h3⟩
 ·have e:b≠c:=fun e=>d (e▸dc)
  obtain⟨⟨t,ht⟩,hl⟩:=h.dead c c' x dc
  exact⟨⟨t,by simp[e,ht]⟩,by simpa using hl⟩
 ·have e:b'≠c:=fun e=>(hd b (e▸k)).elim d f
  simp[e]
theorem SR.getObj {r r':Nat}(k:B r r'):SR X P P' (fun B' o o'=>Um X B' o o') B (getObj r) (getObj r'):=by
 intro V W hw
 refine⟨.inr (A0v r V),?_⟩
 by_cases d:X.D r
 ·obtain⟨⟨t,ht⟩,_⟩:=hw.dead r r' k d;simp only[Go.getObj,Sem.run,ht]
  exact Ag trivial
 by_cases f:X.F r
 ·obtain⟨c,c',t,t',g,h1,_⟩:=hw.Hj r r' k d f;simp only[Go.getObj,Sem.run,h1]
  exact Ag trivial
 ·obtain⟨o,o',h1,h2,h3⟩:=hw.live r r' k d f
  have key:(∃e,(Go.getObj r).run P V=.halt (.stuck e) V) \/((Go.getObj r).run P V=.ok o V/\∀es,(Go.getObj r').runT P' W es=(.ok o' W,es ++#[⟨.obj r',false,o'.isChan⟩])):=by
   cases h3<;>simp only[Go.getObj,Sem.run,Sem.runT,h1,h2]<;>first
    | exact .inl ⟨_,rfl⟩
    | exact .inr ⟨trivial,fun es=>rfl⟩
    | exact .inr ⟨rfl,fun es=>rfl⟩
  rcases key with⟨e,he⟩ |⟨e1,e2⟩
  ·rw[he]
   exact Ag trivial
  ·rw[e1]
   refine⟨B,W,o',_,Ext.refl ..,hw,e2,h3,fun e he=>?_⟩
   rw[Aqb]at he;subst he
   exact⟨r,k,d,f⟩
theorem SR.setObj {r r':Nat}(k:B r r'){o o':Obj}(ho:Um X B o o'):SR X P P' (fun _ _ _=>True) B (setObj r o) (setObj r' o'):=by
 intro V W hw
 refine⟨.inr (A0w r o V),?_⟩
 by_cases d:X.D r
 ·obtain⟨⟨t,ht⟩,_⟩:=hw.dead r r' k d;simp only[Go.setObj,Sem.run,ht]
  exact Ag trivial
 by_cases f:X.F r
 ·obtain⟨c,c',t,t',g,h1,_⟩:=hw.Hj r r' k d f;simp only[Go.setObj,Sem.run,h1]
  exact Ag trivial
 ·obtain⟨p,p',h1,h2,h3⟩:=hw.live r r' k d f;obtain⟨g1,g2⟩:=hw.upd k d f ho;have ev:Zl X B ⟨.obj r',true,o'.isChan⟩:=⟨r,k,d,f⟩
  cases h3<;>simp only[Go.setObj,Sem.run,h1]<;>first
   | exact Ag trivial
   |(refine⟨B,_,(),#[⟨.obj r',true,o'.isChan⟩],g2,g1,fun es=>?_,trivial,?_⟩
     ·simp only[Sem.runT,h2];rfl
     ·intro e he;rw[Aqb]at he;subst he
      exact ev)
theorem SR.newObj {o o':Obj}(ho:Um X B o o'):SR X P P' (fun B' r r'=>B' r r'/\¬X.D r/\X.L r=0) B (newObj o) (newObj o'):=by
 intro V W hw
 refine⟨.inr (Ab0 o V),?_⟩
 simp only[Go.newObj,Sem.run];have hD:¬X.D V.heap.size:=fun x=>Aod _ (hw.Vv _ x)
 have hF:¬X.F V.heap.size:=fun x=>Aod _ (hw.Qo _ x)
 have hL:X.L V.heap.size=0:=Anm fun x=>hF (X.lf _ x)
 let B':Lk:=fun b b'=>B b b' \/(b=V.heap.size/\b'=W.heap.size)
 have hle:Le B B':=fun b b' h=>.inl h
 refine⟨B',{ W with heap:=W.heap.push o' },W.heap.size,#[],⟨hle,?_,by simp,by simp,rfl,⟨rfl,rfl⟩,?_⟩,⟨hw.tape,hw.drawn,hw.os,hw.output,?_,?_,fun g hg=>.inl (hw.G8 g hg),?_,?_,?_,?_,?_,?_,Am1 hw.nV (by simp),Am1 hw.nW (by simp)⟩,fun es=>by simp[Sem.runT,-Sem.runT_eq],⟨.inr ⟨rfl,rfl⟩,hD,hL⟩,.nil⟩
 ·rintro b b' (h |⟨rfl,rfl⟩)
  ·exact .inl h
  ·exact .inr ⟨Am0 _,Am0 _⟩
 ·intro b' hb _;simp[Ama,Anb hb]
 ·rintro b b₁ b₂ (h |⟨rfl,rfl⟩) (k |⟨e,rfl⟩)
  ·exact hw.fn b b₁ b₂ h k
  ·exact absurd (hw.Wo h) (by omega)
  ·exact absurd (hw.Wo k) (by omega)
  ·rfl
 ·rintro b₁ b₂ b' (h |⟨rfl,rfl⟩) (k |⟨rfl,e⟩)
  ·exact hw.inj b₁ b₂ b' h k
  ·exact absurd (hw.ltW h) (by omega)
  ·exact absurd (hw.ltW k) (by omega)
  ·rfl
 ·rintro b b' (h |⟨rfl,rfl⟩) d f
  ·obtain⟨p,p',h1,h2,h3⟩:=hw.live b b' h d f
   exact⟨p,p',by simp[Ama,Anb (hw.Wo h),h1],by simp[Ama,Anb (hw.ltW h),h2],h3.mono hle⟩
  ·exact⟨o,o',by simp,by simp,ho.mono hle⟩
 ·rintro b b' (h |⟨rfl,rfl⟩) d f
  ·obtain⟨p,p',t,t',g,h1,h2,h3⟩:=hw.Hj b b' h d f
   exact⟨p,p',t,t',g,by simp[Ama,Anb (hw.Wo h),h1],by simp[Ama,Anb (hw.ltW h),h2],⟨h3.1.mono hle,h3.2⟩⟩
  ·exact absurd f hF
 ·rintro b b' (h |⟨rfl,rfl⟩) d
  ·obtain⟨⟨t,ht⟩,hl⟩:=hw.dead b b' h d
   exact⟨⟨t,by simp[Ama,Anb (hw.Wo h),ht]⟩,by simp;omega⟩
  ·exact absurd d hD
 ·intro b d;have:=hw.Vv b d;simp;omega
 ·intro b d;have:=hw.Qo b d;simp;omega
 ·rintro b b' (h |⟨rfl,rfl⟩)
  ·exact hw.low b b' h
  ·have:=hw.nV;have:=hw.nW
   omega
theorem Kq {w:World}{a:Addr}{what:String}(hp:∀c t,w.heap[a.block]?≠some (.pending c t)):Jo (w.noCell a what):=by
 unfold World.noCell
 split
 ·exact absurd ‹_› (hp _ _)
 ·trivial
 ·trivial
theorem WR.at {V W:World}(hw:WR X B V W){b b':Nat}(kb:B b b')(d:¬X.D b) :
 (∃c c' t t' f f',V.heap[b]?=some (.cells c t f)/\W.heap[b']?=some (.cells c' t' f')/\PR X B (X.L b) c c' /\((¬X.F b/\f'=f/\AR X B c c') \/(X.F b/\f=(0,c.size)))/\TyR X b t t' c.size) \/
  (¬X.F b/\∃o o',V.heap[b]?=some o/\W.heap[b']?=some o'/\Um X B o o' /\(∀c t f,o≠.cells c t f) /\(∀c t f,o'≠.cells c t f) /\(∀c t,o≠.pending c t)):=by
 by_cases f:X.F b
 ·obtain⟨c,c',t,t',g,h1,h2,h3,h4⟩:=hw.Hj b b' kb d f
  exact .inl ⟨c,c',t,t',_,g,h1,h2,h3,.inr ⟨f,rfl⟩,h4⟩
 ·obtain⟨o,o',h1,h2,h3⟩:=hw.live b b' kb d f
  cases h3 with
  | cells t g ha=>exact .inl ⟨_,_,t,t,g,g,h1,h2,ha.part _,.inl ⟨f,rfl,ha⟩,TyR.same (Anm fun x=>f (X.lf _ x))⟩
  | _=>exact .inr ⟨f,_,_,h1,h2,(by first|exact .number _ (by assumption) |(constructor<;>assumption)),(by intro _ _ _ e;cases e),(by intro _ _ _ e;cases e),(by intro _ _ e;cases e)⟩
theorem WR.row {V W:World}(hw:WR X B V W)(hx:X.Ex){b b':Nat}(kb:B b b')(d:¬X.D b){c:Array Value}{t:TypeId}{f:Nat×Nat}(hv:V.heap[b]?=some (.cells c t f)) :
 ∃c',W.heap[b']?=some (.cells c' t f)/\AR X B c c':=by
 obtain⟨o,o',h1,h2,h3⟩:=hw.live b b' kb d (X.exF hx b);rw[hv]at h1
 cases h1
 cases h3 with
 | cells _ _ h=>exact⟨_,h2,h⟩
theorem SR.load (hT:P'.toTables=P.toTables){a a':Addr}(k:Ce X B a a'):SR X P P' (fun B' v v'=>VR X B' v v') B (load a) (load a'):=by
 intro V W hw
 refine⟨.inr (A7s a V),?_⟩
 obtain⟨⟨kb,d⟩,⟨ko,kl⟩,ks⟩:=k
 rcases hw.at kb d with⟨c,c',t,t',f,f',h1,h2,ha,hf,_⟩ |⟨hF,o,o',h1,h2,ho,hn,hn',hv⟩
 ·by_cases hs:a.spot.isSome=true
  ·have hc:V.cell? a=none:=by simp[World.cell?,h1,hs]
   simp only[Go.load,Sem.run,hc,World.farLoad,h1]
   exact Ag (Kq (by simp[h1]))
  ·rcases ha.get a.off kl with⟨v,v',e1,e2,e3⟩|e1
   ·have hc:V.cell? a=some v:=by simp[World.cell?,h1,hs,e1]
    have hc':W.cell? a'=some v':=by simp[World.cell?,h2,ks,hs,ko,e2]
    simp only[Go.load,Sem.run,hc]
    refine⟨B,W,v',#[⟨.cell a',false,false⟩],Ext.refl ..,hw,fun es=>by simp only[Sem.runT,hc'];rfl,e3,fun e he=>?_⟩
    rw[Aqb]at he;subst he
    exact⟨⟨_,kb,d,fun e=>by cases e⟩,rfl⟩
   ·have hc:V.cell? a=none:=by simp[World.cell?,h1,hs,e1]
    simp only[Go.load,Sem.run,hc,World.farLoad,h1]
    exact Ag (Kq (by simp[h1]))
 ·have hc:V.cell? a=none:=by
   unfold World.cell?;rw[h1]
   cases o<;>first|rfl|exact absurd rfl (hn _ _ _)
  have hc':W.cell? a'=none:=by
   unfold World.cell?;rw[h2]
   cases o'<;>first|rfl|exact absurd rfl (hn' _ _ _)
  simp only[Go.load,Sem.run,hc];rw[show(Mode.plain == Mode.atomic)=false from rfl]
  by_cases hvw:∃at_ u,o=.view at_ u
  ·obtain⟨at_,u,rfl⟩:=hvw;generalize o'=o2 at h2 ho
   cases ho with
   | @view _ _ at' hx had =>
   have hfar:V.farLoad P a false=(match V.viewLoad P at_ u a false with|.ok r=>.ok r|.error why=>.error (.unsupported (.unsafePointer why))):=by
    unfold World.farLoad;rw[h1]
    rfl
   rw[hfar]
   cases hl:V.viewLoad P at_ u a false with
   | error why=>exact Ag (h:=.unsupported (.unsafePointer why)) trivial
   | ok r =>
     obtain⟨v,l⟩:=r;dsimp only
     have hrow:∃c e f,V.heap[at_.block]?=some (.cells c e f):=by
      apply Apk
      intro hno;obtain⟨why,hs⟩:=A21 (P:=P) (V:=V) (a:=at_) (k:=a) (u:=u) fun c e f h=>hno ⟨c,e,f,h⟩
      unfold World.viewLoad at hl;rw[hs]at hl
      cases hl
     obtain⟨c,e,f,hrow⟩:=hrow;obtain⟨c',g1,g2⟩:=hw.row hx had.1.1 had.1.2 hrow;obtain⟨q1,l',q2,q3⟩:=Zd (P:=P) (k':=a') hrow g1 (fun e f x s=>Hm g2 e f x s) had.2.1.1 had.2.2 ko ks hl
     refine⟨B,W,v,l'.toArray.map fun a=>(⟨.cell a,false,false⟩:Event),Ext.refl ..,hw,fun es=>?_,q1 X B,fun e he=>?_⟩
     ·have:W.farLoad P' a' false=.ok (v,l'):=by
       unfold World.farLoad;rw[h2];dsimp only;rw[A2v hT,q2]
      simp only[Sem.runT,hc'];rw[show(Mode.plain == Mode.atomic)=false from rfl,this]
     ·obtain⟨x,hx,rfl⟩:=Array.mem_map.1 he
      exact⟨⟨at_.block,(by rw[q3 x (by simpa using hx)];exact had.1.1),had.1.2,fun e=>by cases e⟩,rfl⟩
  ·have hfl:∃e,V.farLoad P a false=.error e/\Jo e:=by
    unfold World.farLoad;rw[h1]
    cases o<;>first|exact absurd ⟨_,_,rfl⟩ hvw|exact absurd rfl (hv _ _)|exact⟨_,rfl,Kq (by simp[h1])⟩
   obtain⟨e,he,hne⟩:=hfl;rw[he]
   exact Ag hne
theorem setCell_eq {w:World}{a:Addr}{v:Value}{c:Array Value}{t:TypeId}{f:Nat×Nat}(h:w.heap[a.block]?=some (.cells c t f))(hs:a.spot.isSome=false) :
 w.setCell a v={ w with heap:=w.heap.setIfInBounds a.block (.cells (c.setIfInBounds a.off v) t f) }:=by
 unfold World.setCell
 congr 1
 apply Ank
 intro i;rw[Aoq,Am4]
 by_cases e:a.block=i
 ·subst e;obtain⟨hl,he⟩:=Alx.1 h;simp[hl,hs,he]
 ·simp[e]
theorem Qq {P:Program}{w:World}{a:Addr}{v:Value}(hv:(∀cs,v≠.agg cs)/\∀cs,v≠.tuple cs):(store a v).run P w=match w.cell? a with
 | some _=>if w.frozen? a then .halt (.unsupported (.unsafePointer "a write to bytes that a string shares")) w else .ok () (w.setCell a v)
 | none=>match w.farStore P a v false with
   | .ok (w,_)=>.ok () w
   | .error h=>.halt h w:=by
 cases v<;>first |(simp only[Go.store,Sem.run];rfl)|exact absurd rfl (hv.1 _)|exact absurd rfl (hv.2 _)
theorem Ox {P:Program}{w:World}{a:Addr}{v v0:Value}(hv:(∀cs,v≠.agg cs)/\∀cs,v≠.tuple cs)(hc:w.cell? a=some v0)(hf:w.frozen? a=false)(es:Array Event) :
 (store a v).runT P w es=(.ok () (w.setCell a v),es ++#[⟨.cell a,true,false⟩]):=by
 cases v<;>first |(simp only[Go.store,Sem.runT,hc,hf];rfl)|exact absurd rfl (hv.1 _)|exact absurd rfl (hv.2 _)
theorem SR.store (hT:P'.toTables=P.toTables){a a':Addr}(k:Ce X B a a'){v v':Value}(hv:VR X B v v'):SR X P P' (fun _ _ _=>True) B (store a v) (store a' v'):=by
 intro V W hw
 refine⟨.inr (A41 a v V),?_⟩
 obtain⟨⟨kb,d⟩,⟨ko,kl⟩,ks⟩:=k
 by_cases hp:(∀cs,v≠.agg cs)/\∀cs,v≠.tuple cs
 case neg =>
  have:∃e,(Go.store a v).run P V=.halt (.stuck e) V:=by
   cases v<;>first|exact⟨_,rfl⟩|exact absurd ⟨fun _ e=>(by cases e),fun _ e=>(by cases e)⟩ hp
  obtain⟨e,he⟩:=this;rw[he]
  exact Ag trivial
 have hp':(∀cs,v'≠.agg cs)/\∀cs,v'≠.tuple cs:=by
  constructor<;>intro cs e<;>subst e<;>cases hv
  ·exact hp.1 _ rfl
  ·exact hp.2 _ rfl
 rw[Qq hp]
 rcases hw.at kb d with⟨c,c',t,t',f,f',h1,h2,ha,hf,hty⟩ |⟨hF,o,o',h1,h2,ho,hn,hn',hv1⟩
 ·by_cases hs:a.spot.isSome=true
  ·have hc:V.cell? a=none:=by simp[World.cell?,h1,hs]
   simp only[hc,World.farStore,h1]
   exact Ag (Kq (by simp[h1]))
  ·rcases ha.get a.off kl with⟨x,x',e1,e2,e3⟩|e1
   ·have hc:V.cell? a=some x:=by simp[World.cell?,h1,hs,e1]
    have hc':W.cell? a'=some x':=by simp[World.cell?,h2,ks,hs,ko,e2]
    simp only[hc]
    by_cases hz:V.frozen? a=true
    ·rw[Amo hz]
     exact Ag trivial
    ·rw[Amd hz]
     rcases hf with⟨hF,rfl,ha⟩ |⟨_,rfl⟩
     ·obtain rfl:t'=t:=by
       have hL:X.L a.block=0:=Anm fun x=>hF (X.lf _ x)
       rcases hty with⟨h,_⟩ |⟨_,e,_⟩
       ·exact absurd hL h
       ·exact e
      have hfr:W.frozen? a'=V.frozen? a:=by simp[World.frozen?,h1,h2,ko]
      have hs':a'.spot.isSome=false:=by rw[ks];simpa using hs
      have hs2:a.spot.isSome=false:=by simpa using hs
      obtain⟨g1,g2⟩:=hw.upd kb d hF (o:=.cells (c.setIfInBounds a.off v) t' f') (o':=.cells (c'.setIfInBounds a.off v') t' f') (.cells t' f' (ha.set _ hv));rw[setCell_eq h1 hs2]
      refine⟨B,W.setCell a' v',(),#[⟨.cell a',true,false⟩],?_,?_,fun es=>Ox hp' hc' (by rw[hfr];simpa using hz) es,trivial,fun e he=>?_⟩
      ·rw[setCell_eq h2 hs',ko];exact g2
      ·rw[setCell_eq h2 hs',ko];exact g1
      ·rw[Aqb]at he;subst he
       exact⟨⟨_,kb,d,fun _=>hF⟩,rfl⟩
     ·exfalso
      apply hz
      have hlt:=(Alx.1 e1).1;simp[World.frozen?,h1,hlt]
   ·have hc:V.cell? a=none:=by simp[World.cell?,h1,hs,e1]
    simp only[hc,World.farStore,h1]
    exact Ag (Kq (by simp[h1]))
 ·have hc:V.cell? a=none:=by
   unfold World.cell?;rw[h1]
   cases o<;>first|rfl|exact absurd rfl (hn _ _ _)
  have hc':W.cell? a'=none:=by
   unfold World.cell?;rw[h2]
   cases o'<;>first|rfl|exact absurd rfl (hn' _ _ _)
  simp only[hc]
  by_cases hvw:∃at_ u,o=.view at_ u
  ·obtain⟨at_,u,rfl⟩:=hvw;generalize o'=o2 at h2 ho
   cases ho with
   | @view _ _ at' hx had =>
   have hfar:V.farStore P a v false=(match V.viewStore P at_ u a v false with|.ok r=>.ok r|.error why=>.error (.unsupported (.unsafePointer why))):=by
    unfold World.farStore;rw[h1]
    rfl
   rw[hfar]
   cases hl:V.viewStore P at_ u a v false with
   | error why=>exact Ag (h:=.unsupported (.unsafePointer why)) trivial
   | ok r =>
     obtain⟨V1,l⟩:=r;dsimp only
     have hrow:∃c e f,V.heap[at_.block]?=some (.cells c e f):=by
      apply Apk
      intro hno;obtain⟨why,hs⟩:=A21 (P:=P) (V:=V) (a:=at_) (k:=a) (u:=u) fun c e f h=>hno ⟨c,e,f,h⟩
      rw[O5,hs]at hl
      split at hl<;>cases hl
     obtain⟨c,e,f,hrow⟩:=hrow;obtain⟨c',g1,g2⟩:=hw.row hx had.1.1 had.1.2 hrow
     have run:∀{W1:World} {l':List Addr},W.viewStore P at' u a' v' false=.ok (W1,l')->∀es,(Go.store a' v').runT P' W es=(.ok () W1,es++l'.toArray.map (⟨.cell ·,true,false⟩)):=by
      intro W1 l' q es
      have:W.farStore P' a' v' false=.ok (W1,l'):=by
       unfold World.farStore;rw[h2];dsimp only;rw[Z8 hT,q]
      have key:(Go.store a' v').runT P' W es=match W.farStore P' a' v' false with
       | .ok (w,touched)=>(.ok () w,(es++touched.toArray.map (⟨.cell ·,true,false⟩)))
       | .error h=>(.halt h W,es):=by
       cases v'<;>first |(simp only[Go.store,Sem.runT,hc'];rfl)|exact absurd rfl (hp'.1 _)|exact absurd rfl (hp'.2 _)
      rw[key,this]
     have hF:=X.exF hx at_.block;obtain⟨c1,c1',l',rfl,q1,q2,q3⟩:=Ve (P:=P) (k':=a') hrow g1 g2 had.2.1.1 had.2.2 ko ks hv hl;obtain⟨u1,u2⟩:=hw.upd had.1.1 had.1.2 hF (o:=.cells c1 e f) (o':=.cells c1' e f) (.cells e f q1)
     refine⟨B,_,(),_,u2,u1,run q2,trivial,fun x hx=>?_⟩
     obtain⟨y,hy,rfl⟩:=Array.mem_map.1 hx
     exact⟨⟨at_.block,(by rw[q3 y (by simpa using hy)];exact had.1.1),had.1.2,fun _=>hF⟩,rfl⟩
  ·have hfl:∃e,V.farStore P a v false=.error e/\Jo e:=by
    unfold World.farStore;rw[h1]
    cases o<;>first|exact absurd ⟨_,_,rfl⟩ hvw|exact absurd rfl (hv1 _ _)|exact⟨_,rfl,Kq (by simp[h1])⟩
   obtain⟨e,he,hne⟩:=hfl;simp only[he]
   exact Ag hne
def ShR (X:Cx)(r:Nat)(s s':Option (TypeId×Nat)):Prop:=(s=none/\s'=none)\/∃t t' n m,s=some (t,n)/\s'=some (t',m)/\n<=m/\TyR X r t t' n
theorem ShR.some {X:Cx}{r:Nat}{s s':Option (TypeId×Nat)}(h:ShR X r s s'):s'.isSome=s.isSome:=by
 rcases h with⟨rfl,rfl⟩ |⟨t,t',n,m,rfl,rfl,_⟩<;>rfl
theorem SR.shape {r r':Nat}(kb:B r r')(d:¬X.D r):SR X P P' (fun _=>ShR X r) B (shape r) (shape r'):=by
 intro V W hw
 refine⟨.inr (Sp r V),?_⟩
 have:ShR X r (V.shape? r) (W.shape? r'):=by
  rcases hw.at kb d with⟨c,c',t,t',f,f',h1,h2,ha,hf,hm⟩ |⟨hF,o,o',h1,h2,_,hn,hn',_⟩
  ·exact .inr ⟨t,t',_,_,by simp only[World.shape?,h1],by simp only[World.shape?,h2],ha.1,hm⟩
  ·unfold World.shape?;rw[h1,h2]
   cases o<;>cases o'<;>first|exact .inl ⟨rfl,rfl⟩|exact absurd rfl (hn _ _ _)|exact absurd rfl (hn' _ _ _)
 exact⟨B,W,W.shape? r',#[],Ext.refl ..,hw,fun es=>by simp[Go.shape,Sem.runT,-Sem.runT_eq],this,.nil⟩
theorem SR.Ml (hx:X.Ex){r r':Nat}(kb:B r r')(d:¬X.D r):SR X P P' Same B (Go.shape r) (Go.shape r'):=by
 intro V W hw
 refine⟨.inr (Sp r V),?_⟩
 have:W.shape? r'=V.shape? r:=by
  obtain⟨o,o',h1,h2,h3⟩:=hw.live r r' kb d (X.exF hx r);unfold World.shape?;rw[h1,h2]
  cases h3 with
  | cells _ _ h =>
    dsimp only;rw[h.1]
  | _=>rfl
 exact⟨B,W,W.shape? r',#[],Ext.refl ..,hw,fun es=>by simp[Go.shape,Sem.runT,-Sem.runT_eq],this,.nil⟩
theorem A0u {P:Program}(a:Addr)(V:World):N6 P (Go.frozen a) V:=fun es e h=>.inl (by simpa [Go.frozen,Sem.runT,-Sem.runT_eq]using h)
theorem SR.R4 (hx:X.Ex){a a':Addr}(k:Ce X B a a'):SR X P P' Same B (Go.frozen a) (Go.frozen a'):=by
 intro V W hw
 refine⟨.inr (A0u a V),?_⟩
 have:W.frozen? a'=V.frozen? a:=by
  obtain⟨o,o',h1,h2,h3⟩:=hw.live _ _ k.1.1 k.1.2 (X.exF hx a.block);unfold World.frozen?;rw[h1,h2,k.2.1.1]
  cases h3<;>rfl
 exact⟨B,W,W.frozen? a',#[],Ext.refl ..,hw,fun es=>by simp[Go.frozen,Sem.runT,-Sem.runT_eq],this,.nil⟩
end
end Lr
namespace Lr
structure PRel (X:Cx)(P P':Program):Prop where
 Gb:P'.toTables=P.toTables
 nG:X.N=P.globals.size
 zero:∀(t:TypeId) (i:TypeInfo) v,P.info? t=some i->i.zero=some v->Flat X v
 mono:∀t n l,X.Mv t n l->∀off (m:Int) off',l<=off->0<=m->cellAtBytes P P.depth t (n / P.cellsOf t) off m=some off'->l<=off'
 zed:∀t,X.Z t->P.info? t=none
def Ac (X:Cx)(B:Lk)(v v':Value):Prop:=VR X B v v'
def Oa (X:Cx)(B:Lk)(v v':Array Value):Prop:=AR X B v v'
def Ql {α β:Type}(_:Lk)(_:α)(_:β):Prop:=True
section
variable {X : Cx} {P P' : Program} {B : Lk} (hP : PRel X P P')
include hP
theorem PRel.underlying (t:TypeId):P'.underlying t=P.underlying t:=by unfold Program.underlying;rw[hP.Gb]
theorem PRel.info (t:TypeId):P'.info? t=P.info? t:=by rw[hP.Gb]
theorem SR.underlying (t:TypeId):SR X P P' (fun _ d d'=>d'=d/\P.underlying t=some d) B (underlying t) (underlying t):=by
 unfold Go.underlying
 refine SR.bind SR.program ?_
 rintro B' hl p p' ⟨rfl,rfl⟩;rw[hP.underlying]
 cases h:p.underlying t with
 | none=>exact SR.stuck
 | some d=>exact SR.pure ⟨rfl,rfl⟩
theorem SR.typeInfo (t:TypeId):SR X P P' (fun _ d d'=>d'=d/\P.info? t=some d) B (typeInfo t) (typeInfo t):=by
 unfold Go.typeInfo
 refine SR.bind SR.program ?_
 rintro B' hl p p' ⟨rfl,rfl⟩;rw[hP.info]
 cases h:p.info? t with
 | none=>exact SR.stuck
 | some d=>exact SR.pure ⟨rfl,rfl⟩
theorem SR.sizeOf (t:TypeId):SR X P P' Same B (sizeOf t) (sizeOf t):=by
 unfold Go.sizeOf
 refine SR.bind (SR.typeInfo hP t) ?_
 rintro B' hl d d' ⟨rfl,_⟩
 exact SR.pure rfl
theorem SR.Akt (t:TypeId):SR X P P' (fun _ n n'=>n'=n/\∃i,P.info? t=some i/\n=i.size) B (Go.sizeOf t) (Go.sizeOf t):=by
 unfold Go.sizeOf
 refine SR.bind (SR.typeInfo hP t) ?_
 rintro B' hl d d' ⟨rfl,h⟩
 exact SR.pure ⟨rfl,_,h,rfl⟩
theorem SR.isAgg (t:TypeId):SR X P P' Same B (isAgg t) (isAgg t):=by
 unfold Go.isAgg
 refine SR.bind (SR.underlying hP t) ?_
 rintro B' hl d d' ⟨rfl,_⟩
 cases d'<;>exact SR.pure rfl
theorem SR.zeroValue (t:TypeId):SR X P P' (Ac X) B (zeroValue t) (zeroValue t):=by
 unfold Go.zeroValue
 refine SR.bind (SR.typeInfo hP t) ?_
 rintro B' hl d d' ⟨rfl,hd⟩
 cases h:d'.zero with
 | none=>exact SR.unsupported
 | some v=>exact SR.pure (hP.zero t d' v hd h B')
theorem SR.loadCellsFrom {a a':Addr}:∀(n i:Nat) {B:Lk} {acc acc':Array Value},Ce X B a a'->AR X B acc acc'->SR X P P' (Oa X) B (loadCellsFrom a i n acc) (loadCellsFrom a' i n acc')
 | 0,_,_,_,_,_,hc=>SR.pure hc
 | n+1,i,_,_,_,ha,hc=>by
   unfold Go.loadCellsFrom
   refine SR.bind (SR.load hP.Gb (ha.add i)) ?_
   intro B' hl v v' hv
   exact SR.loadCellsFrom n (i+1) (ha.mono hl) ((hc.mono hl).push hv)
theorem SR.loadCells {a a':Addr}(ha:Ce X B a a')(n:Nat):SR X P P' (Oa X) B (loadCells a n) (loadCells a' n):=SR.loadCellsFrom hP n 0 ha AR.nil
theorem SR.storeCells {a a':Addr}:∀{l l':List Value} {B:Lk} (i:Nat),Ce X B a a'->LR X B l l'->SR X P P' Ql B (storeCells a l i) (storeCells a' l' i)
 | [],[],_,_,_,_=>SR.pure trivial
 | v :: l,v' :: l',_,i,ha,.cons h1 h2=>by
   unfold Go.storeCells
   refine SR.bind (SR.store hP.Gb (ha.add i) h1) ?_
   intro B' hl _ _ _
   exact SR.storeCells (i+1) (ha.mono hl) (h2.mono hl)
theorem SR.loadVar {a a':Addr}(ha:Ce X B a a')(t:TypeId):SR X P P' (Ac X) B (loadVar t a) (loadVar t a'):=by
 unfold Go.loadVar
 refine SR.bind (SR.isAgg hP t) ?_
 rintro B' hl b b' rfl
 refine SR.ite (fun _=>?_) (fun _=>SR.load hP.Gb (ha.mono hl))
 refine SR.bind (SR.sizeOf hP t) ?_
 rintro B'' hl' n n' rfl
 exact SR.map (SR.loadCells hP ((ha.mono hl).mono hl') n') fun _ _ c c' hc=>hc.agg
theorem SR.storeVar {a a':Addr}(ha:Ce X B a a')(t:TypeId){v v':Value}(hv:VR X B v v'):SR X P P' Ql B (storeVar t a v) (storeVar t a' v'):=by
 unfold Go.storeVar
 refine SR.bind (SR.sizeOf hP t) ?_
 rintro B' hl n n' rfl;rw[hv.cells.1]
 refine SR.ite (fun _=>?_) (fun _=>SR.storeCells hP 0 (ha.mono hl) (hv.mono hl).cells.toList)
 exact SR.C7
omit hP in
theorem SR.newRow (t:TypeId){c c':Array Value}(h:AR X B c c'):SR X P P' (fun B' a a'=>Ce X B' a a') B (newRow t c) (newRow t c'):=by
 unfold Go.newRow
 exact SR.bind (SR.newObj (.cells t (0,0) h)) fun B' hl r r' hr=>SR.pure ⟨⟨hr.1,hr.2.1⟩,⟨rfl,Aof hr.2.2⟩,rfl⟩
omit hP in
theorem SR.newVar (t:TypeId){v v':Value}(h:VR X B v v'):SR X P P' (fun B' a a'=>Ce X B' a a') B (newVar t v) (newVar t v'):=SR.newRow t h.cells
theorem SR.elemOf (t:TypeId):SR X P P' Same B (elemOf t) (elemOf t):=by
 unfold Go.elemOf
 refine SR.bind (SR.underlying hP t) ?_
 rintro B' hl d d' ⟨rfl,_⟩
 cases d'<;>first|exact SR.pure rfl|exact SR.stuck
theorem SR.part (t:TypeId){c c':Array Value}(h:AR X B c c')(off:Nat):SR X P P' (Ac X) B (part t c off) (part t c' off):=by
 unfold Go.part
 refine SR.bind (SR.isAgg hP t) ?_
 rintro B' hl b b' rfl
 refine SR.ite (fun _=>?_) (fun _=>?_)
 ·refine SR.bind (SR.sizeOf hP t) ?_
  rintro B'' hl' n n' rfl
  exact SR.pure (((h.mono hl).mono hl').extract _ _).agg
 ·rcases h.get off with⟨v,v',h1,h2,h3⟩ |⟨h1,h2⟩
  ·rw[h1,h2];exact SR.pure (h3.mono hl)
  ·rw[h1,h2];exact SR.stuck
omit hP in
theorem SR.askRoom (n:Nat):SR X P P' Ql B (askRoom n) (askRoom n):=by
 unfold Go.askRoom
 exact SR.ite (fun _=>SR.mark (.inl rfl)) (fun _=>SR.pure trivial)
omit hP in
theorem SR.asIntOf {v v':Value}(h:VR X B v v'):SR X P P' Same B (asIntOf v) (asIntOf v'):=by
 cases h<;>first|exact SR.pure rfl|exact SR.unsupported|exact SR.stuck
omit hP in
theorem SR.asInt {v v':Value}(h:VR X B v v'):SR X P P' Same B (asInt v) (asInt v'):=by
 unfold Go.asInt
 exact SR.bind (SR.asIntOf h) fun _ _ a b e=>SR.pure (by rw[show b=a from e];rfl)
omit hP in
theorem SR.asBool {v v':Value}(h:VR X B v v'):SR X P P' Same B (asBool v) (asBool v'):=by
 cases h<;>first|exact SR.pure rfl|exact SR.stuck
omit hP in
theorem SR.asAgg {v v':Value}(h:VR X B v v'):SR X P P' (Oa X) B (asAgg v) (asAgg v'):=by
 cases h<;>first|exact SR.pure ⟨by assumption,by assumption⟩|exact SR.stuck
def A9v:RuntimeError->Prop
 | .typeAssertion ..|.unhashable _=>False
 | _=>True
theorem SR.runtimePanic {α β:Type}{R:Lk->α->β->Prop}{e:RuntimeError}(he:A9v e):SR X P P' R B (runtimePanic e:Sem α) (runtimePanic e:Sem β):=by
 unfold Go.runtimePanic
 refine SR.bind SR.program ?_
 rintro B' hl p p' ⟨rfl,rfl⟩;have hrt:p'.rt=p.rt:=by rw[hP.Gb]
 dsimp only;rw[hrt]
 cases e with
 | bounds x y s c=>exact SR.panic (.iface _ (AR.agg (AR.push (AR.push (AR.push (AR.one (.int _ _)) (.int _ _)) (.bool _)) (.int _ _))))
 | error m=>exact SR.panic (.iface _ (.string _))
 | plain m=>exact SR.panic (.iface _ (.string _))
 | nilDeref=>exact SR.panic (.iface _ (.string _))
 | typeAssertion i c a m=>exact he.elim
 | panicNil =>
   refine SR.bind (SR.elemOf hP _) ?_
   rintro B2 hl2 n n' rfl
   exact SR.bind (SR.newVar n' AR.nil.agg) fun B3 hl3 a a' ha=>SR.panic (.iface _ (.ptr ha))
 | unhashable t=>exact he.elim
theorem SR.boundsPanic {α β:Type}{R:Lk->α->β->Prop}(k:IntKind)(x y:Int)(c:BoundsCode):SR X P P' R B (boundsPanic k x y c:Sem α) (boundsPanic k x y c:Sem β):=by
 unfold Go.boundsPanic;dsimp only
 have hr:∀B' (b b':Bool),Same B' b b'->SR X P P' R B' (Go.runtimePanic (.bounds (IntKind.i64.wrap x) y b c):Sem α) (Go.runtimePanic (.bounds (IntKind.i64.wrap x) y b' c):Sem β):=by
  rintro B' b b' rfl
  exact SR.runtimePanic hP (e:=.bounds _ _ _ _) trivial
 refine SR.ite (fun _=>SR.bind (R:=Same) (SR.map (SR.choose _) fun _ _ a b e=>by rw[show b=a from e];rfl) fun B' _ b b' e=>hr B' b b' e) (fun _=>SR.bind (R:=Same) (SR.pure rfl) fun B' _ b b' e=>hr B' b b' e)
theorem SR.asAddr {v v':Value}(h:VR X B v v'):SR X P P' (fun B' a a'=>Ce X B' a a') B (asAddr v) (asAddr v'):=by
 cases h with
 | ptr a=>exact SR.pure a
 | Mj=>exact SR.runtimePanic hP (e:=.nilDeref) trivial
 | _=>exact SR.stuck
omit hP in
theorem SR.sureAddr {v v':Value}(h:VR X B v v'):SR X P P' (fun B' a a'=>Ce X B' a a') B (Instr.sureAddr v) (Instr.sureAddr v'):=by
 cases h with
 | ptr a=>exact SR.pure a
 | _=>exact SR.stuck
end
end Lr
namespace Lr
section
variable {X : Cx} {P P' : Program} {B : Lk}
theorem SR.A1l {ι α:Type}{f:ι->Sem α}:∀(l:List ι) {B:Lk},(∀x∈l,∀B',SR X P P' Same B' (f x) (f x))->SR X P P' Same B (l.mapM f) (l.mapM f)
 | [],_,_=>by simp only[List.mapM_nil];exact SR.pure rfl
 | x :: l,B,h=>by
   simp only[List.mapM_cons]
   refine SR.bind (h x (by simp) B) ?_
   rintro B1 h1 a b rfl
   refine SR.bind (SR.A1l l fun y hy=>h y (by simp[hy])) ?_
   rintro B2 h2 us vs rfl
   exact SR.pure rfl
theorem SR.Aej {ι α:Type}{f:ι->Sem α}(l:Array ι)(h:∀x∈l,∀B',SR X P P' Same B' (f x) (f x)):SR X P P' Same B (l.mapM f) (l.mapM f):=by
 rw[Aqh]
 exact SR.map (SR.A1l l.toList fun x hx=>h x (by simpa using hx)) fun B' hl a b e=>by rw[show b=a from e];rfl
theorem SR.val {v:Value}(h:Flat X v):SR X P P' (Ac X) B (Pure.pure v:Sem Value) (Pure.pure v):=SR.pure (h B)
theorem SR.intArith (op:BinOp)(k:IntKind)(x y:Int):SR X P P' (Ac X) B (Op.intArith op k x y) (Op.intArith op k x y):=by
 unfold Op.intArith
 cases op<;>first|exact SR.pure (.int _ _)|exact SR.stuck
theorem SR.intBits (op:BinOp)(k:IntKind)(x y:Int):SR X P P' (Ac X) B (Op.intBits op k x y) (Op.intBits op k x y):=by
 unfold Op.intBits
 cases op<;>first|exact SR.pure (.int _ _)|exact SR.stuck
theorem SR.intCmp (op:BinOp)(x y:Int):SR X P P' (Ac X) B (Op.intCmp op x y) (Op.intCmp op x y):=by
 unfold Op.intCmp
 cases op<;>first|exact SR.pure (.bool _)|exact SR.stuck
theorem SR.floatArith (op:BinOp)(k:FloatKind)(x y:Nat):SR X P P' (fun _ v v'=>v'=v/\∃r,v=.float k r) B (Op.floatArith op k x y) (Op.floatArith op k x y):=by
 unfold Op.floatArith
 have jp:∀B' (r r':Option Nat),Same B' r r'->SR X P P' (fun _ v v'=>v'=v/\∃r,v=.float k r) B'
  (match r with|some r=>Pure.pure (Value.float k r)|none=>(Go.choose (.nanBits k x y) >>= fun n=>Pure.pure (Value.float k n)))
  (match r' with|some r=>Pure.pure (Value.float k r)|none=>(Go.choose (.nanBits k x y) >>= fun n=>Pure.pure (Value.float k n))):=by
  rintro B' r r' rfl
  cases r' with
  | some r=>exact SR.pure ⟨rfl,r,rfl⟩
  | none=>exact SR.bind (SR.choose _) fun B'' _ a b e=>by rw[show b=a from e];exact SR.pure ⟨rfl,a,rfl⟩
 cases op<;>dsimp only<;>first
  | exact SR.C7
  | exact SR.bind (R:=Same) (SR.pure rfl) fun B' _ r r' e=>jp B' r r' e
theorem SR.floatCmp (op:BinOp)(k:FloatKind)(x y:Nat):SR X P P' (fun _ v v'=>v'=v/\∃r,v=.bool r) B (Op.floatCmp op k x y) (Op.floatCmp op k x y):=by
 unfold Op.floatCmp
 cases op<;>first|exact SR.pure ⟨rfl,_,rfl⟩|exact SR.stuck
theorem SR.floatToFloat (s:FloatKind)(b:Nat)(d:FloatKind):SR X P P' (fun _ v v'=>v'=v/\∃r,v=.float d r) B (Conv.floatToFloat s b d) (Conv.floatToFloat s b d):=by
 unfold Conv.floatToFloat
 refine SR.ite (fun h=>SR.pure ⟨rfl,_,rfl⟩) (fun _=>?_)
 cases s.decode b with
 | nan a c=>exact SR.map (SR.choose _) fun B'' _ a b e=>by rw[show b=a from e];exact⟨rfl,a,rfl⟩
 | infinity s=>exact SR.pure ⟨rfl,_,rfl⟩
 | number s m e =>
   refine SR.ite (fun _=>?_) (fun _=>SR.pure ⟨rfl,_,rfl⟩)
   exact SR.map (SR.choose _) fun B'' _ a b e=>by rw[show b=a from e];exact⟨rfl,a,rfl⟩
theorem SR.floatToInt (s:FloatKind)(b:Nat)(d:IntKind):SR X P P' (Ac X) B (Conv.floatToInt s b d) (Conv.floatToInt s b d):=by
 unfold Conv.floatToInt
 have any:∀B,SR X P P' (Ac X) B (Go.choose (.floatToInt s b d) >>= fun n=>Pure.pure (Value.int d (d.wrap n))) (Go.choose (.floatToInt s b d) >>= fun n=>Pure.pure (Value.int d (d.wrap n))):=fun B=>SR.bind (SR.choose _) fun B'' _ a b e=>by
  rw[show b=a from e];exact SR.pure (.int _ _)
 dsimp only
 split
 ·exact SR.ite (fun _=>SR.pure (.int _ _)) (fun _=>any B)
 ·exact any B
theorem SR.Xn (op:BinOp)(k:FloatKind)(x y:Nat):SR X P P' Same B (Op.Complex.arith op k x y) (Op.Complex.arith op k x y):=by
 unfold Op.Complex.arith
 refine SR.bind (SR.floatArith op k x y) ?_
 rintro B' hl v v' ⟨rfl,r,rfl⟩
 exact SR.pure rfl
theorem SR.Ajg (op:BinOp)(k:FloatKind)(x y:Nat):SR X P P' Same B (Op.Complex.cmp op k x y) (Op.Complex.cmp op k x y):=by
 unfold Op.Complex.cmp
 refine SR.bind (SR.floatCmp op k x y) ?_
 rintro B' hl v v' ⟨rfl,r,rfl⟩
 exact SR.pure rfl
theorem SR.Rn (s:FloatKind)(x:Nat)(d:FloatKind):SR X P P' Same B (Op.Complex.conv s x d) (Op.Complex.conv s x d):=by
 unfold Op.Complex.conv
 refine SR.ite (fun _=>SR.pure rfl) (fun _=>?_)
 refine SR.bind (SR.floatToFloat s x d) ?_
 rintro B' hl v v' ⟨rfl,r,rfl⟩
 exact SR.pure rfl
theorem SR.Dl {α β:Type}{s:Sem α}{f:α->Sem β}{R:Lk->β->β->Prop}(h:SR X P P' Same B s s)(hf:∀B' a,SR X P P' R B' (f a) (f a)):SR X P P' R B (s >>= f) (s >>= f) :=
 SR.bind h fun B' _ a b e=>by rw[show b=a from e];exact hf B' a
theorem SR.product (a b c d:Nat):SR X P P' Same B (Op.Complex.product a b c d) (Op.Complex.product a b c d):=by
 unfold Op.Complex.product Op.Complex.sub Op.Complex.mul Op.Complex.add
 repeat' (first|exact SR.pure rfl|refine SR.Dl (SR.Xn _ _ _ _) fun _ _=>?_)
theorem SR.complexOp (op:BinOp)(hq:op≠.quo)(k:FloatKind)(a b c d:Nat):SR X P P' (Ac X) B (Op.complexOp op k a b c d) (Op.complexOp op k a b c d):=by
 unfold Op.complexOp
 cases op<;>dsimp only<;>repeat' (first
  | exact absurd rfl hq
  | exact SR.stuck
  | exact SR.pure (.complex _ _ _)
  | exact SR.pure (.bool _)
  | refine SR.Dl (SR.Xn _ _ _ _) fun _ _=>?_
  | refine SR.Dl (SR.Ajg _ _ _ _) fun _ _=>?_
  | refine SR.Dl (SR.Rn _ _ _) fun _ _=>?_
  | refine SR.Dl (SR.product _ _ _ _) fun _ _=>?_
  | refine SR.ite (fun _=>?_) (fun _=>?_)
  | refine SR.map (R:=Same) ?_ (fun _ _ a b e=>by rw[show b=a from e];exact .bool _))
theorem SR.stringOp (op:BinOp)(x y:ByteArray):SR X P P' (fun _ v v'=>v'=v/\Flat X v) B (Op.stringOp op x y) (Op.stringOp op x y):=by
 unfold Op.stringOp
 cases op<;>dsimp only<;>first
  | exact SR.pure ⟨rfl,fun _=>.bool _⟩
  | exact SR.stuck
  | exact SR.ite (fun _=>SR.unsupported) (fun _=>SR.pure ⟨rfl,fun _=>.string _⟩)
end
section
variable {X : Cx} {P P' : Program} {B : Lk} (hP : PRel X P P')
include hP
theorem SR.intDiv (op:BinOp)(k:IntKind)(x y:Int):SR X P P' (Ac X) B (Op.intDiv op k x y) (Op.intDiv op k x y):=by
 unfold Op.intDiv
 refine SR.ite (fun _=>SR.runtimePanic hP (e:=.error _) trivial) (fun _=>?_)
 cases op<;>first|exact SR.pure (.int _ _)|exact SR.stuck
theorem SR.shift (op:BinOp)(k:IntKind)(x:Int)(yk:IntKind)(y:Int):SR X P P' (Ac X) B (Op.shift op k x yk y) (Op.shift op k x yk y):=by
 unfold Op.shift
 refine SR.ite (fun _=>SR.runtimePanic hP (e:=.error _) trivial) (fun _=>?_)
 cases op<;>first|exact SR.pure (.int _ _)|exact SR.stuck
omit hP in
theorem SR.unary (op:UnOp){x x':Value}(h:VR X B x x'):SR X P P' (Ac X) B (Op.unary op x) (Op.unary op x'):=by
 unfold Op.unary
 cases op<;>cases h<;>first
  | exact SR.stuck
  | exact SR.unsupported
  | exact SR.pure (.float _ _)
  | exact SR.pure (.complex _ _ _)
  | exact SR.pure (.bool _)
  | exact SR.intArith _ _ _ _
  | exact SR.intBits _ _ _ _
theorem SR.alloc (t:TypeId):SR X P P' (Ac X) B (Instr.alloc t true (.tuple #[])) (Instr.alloc t true (.tuple #[])):=by
 unfold Instr.alloc
 refine SR.bind (SR.zeroValue hP t) fun B' _ v v' hv=>?_
 exact SR.bind (SR.newVar t hv) fun B'' _ a a' ha=>SR.pure (.ptr ha)
omit hP in
theorem SR.box (t:TypeId){v v':Value}(h:VR X B v v'):SR X P P' (Ac X) B (Instr.box t v) (Instr.box t v'):=by
 unfold Instr.box
 exact SR.bind (SR.newVar t h) fun B'' _ a a' ha=>SR.pure (.ptr ha)
inductive PsR (X:Cx)(B:Lk):List (Nat×Value)->List (Nat×Value)->Prop
 | nil:PsR X B [] []
 | cons (i:Nat) {v v':Value} {l l':List (Nat×Value)}:VR X B v v'->PsR X B l l'->PsR X B ((i,v) :: l) ((i,v') :: l')
omit hP in
theorem PsR.mono {B':Lk}(h:Le B B'){l l':List (Nat×Value)}(k:PsR X B l l'):PsR X B' l l':=by
 induction k with
 | nil=>exact .nil
 | cons i a _ ih=>exact .cons i (a.mono h) ih
omit hP in
theorem PsR.of (ps:List (Nat×Operand)){f g:Operand->Value}(h:∀x∈ps,VR X B (f x.2) (g x.2)):PsR X B (ps.map fun x=>(x.1,f x.2)) (ps.map fun x=>(x.1,g x.2)):=by
 induction ps with
 | nil=>exact .nil
 | cons x l ih=>exact .cons x.1 (h x (by simp)) (ih fun y hy=>h y (by simp[hy]))
omit hP in
theorem Vy:∀{l l':List Value} (off k:Nat) {c c':Array Value},LR X B l l'->AR X B c c' ->
 AR X B ((l.zipIdx k).foldl (fun cs (x:Value×Nat)=>cs.setIfInBounds (off+x.2) x.1) c) ((l'.zipIdx k).foldl (fun cs (x:Value×Nat)=>cs.setIfInBounds (off+x.2) x.1) c')
 | [],[],_,_,_,_,_,hc=>hc
 | v :: l,v' :: l',off,k,_,_,.cons h1 h2,hc=>by
   simp only[List.zipIdx_cons,List.foldl_cons]
   exact Vy off (k+1) h2 (hc.set _ h1)
omit hP in
theorem Aao (place:Nat->Option (Nat×Nat)):∀{ps ps':List (Nat×Value)} {c c':Array Value},PsR X B ps ps'->AR X B c c' ->
 (Instr.fill place c ps=none/\Instr.fill place c' ps'=none)\/∃d d',Instr.fill place c ps=some d/\Instr.fill place c' ps'=some d'/\AR X B d d'
 | [],[],c,c',_,hc=>.inr ⟨c,c',rfl,rfl,hc⟩
 | (i,v) :: l,(_,v') :: l',c,c',.cons _ h1 h2,hc=>by
   unfold Instr.fill
   cases hp:place i with
   | none=>exact .inl ⟨rfl,rfl⟩
   | some q =>
     obtain⟨off,size⟩:=q;have hs:=h1.cells.1;dsimp only;rw[<-hs,<-hc.1]
     split
     ·exact .inl ⟨rfl,rfl⟩
     ·refine Aao place h2 ?_
      rw[<-Aqf,<-Aqf,Array.toList_zipIdx,Array.toList_zipIdx]
      exact Vy off 0 h1.cells.toList hc
theorem SR.build (t:TypeId){ps ps':Array (Nat×Value)}(h:PsR X B ps.toList ps'.toList):SR X P P' (Ac X) B (Instr.build t ps) (Instr.build t ps'):=by
 unfold Instr.build
 refine SR.bind (SR.zeroValue hP t) fun B1 l1 z z' hz=>?_
 refine SR.bind (SR.underlying hP t) ?_
 rintro B2 l2 d d' ⟨rfl,_⟩
 have fin:∀(B3:Lk) (_:Le B2 B3) (place:Nat->Option (Nat×Nat)) (why:String),SR X P P' (Ac X) B3
  (match Instr.fill place z.cells ps.toList with|some cells=>Pure.pure (Value.agg cells)|_=>Go.stuck why)
  (match Instr.fill place z'.cells ps'.toList with|some cells=>Pure.pure (Value.agg cells)|_=>Go.stuck why):=by
  intro B3 l3 place why
  rcases Aao place (h.mono (l1.trans (l2.trans l3))) ((hz.mono l2).mono l3).cells with⟨e1,e2⟩ |⟨d,d',e1,e2,e3⟩
  ·rw[e1,e2];exact SR.stuck
  ·rw[e1,e2];exact SR.pure e3.agg
 cases d'<;>dsimp only<;>first
  | exact SR.stuck
  | skip
 case struct fields _ =>
  refine SR.bind (R:=Same) (SR.Aej fields fun(f:Field) _ B'=>SR.Dl (SR.sizeOf hP f.type) fun _ _=>SR.pure rfl) ?_
  rintro B3 l3 places _ rfl
  exact fin B3 l3 _ _
 case array _ elem _ =>
  refine SR.bind (R:=Same) (SR.sizeOf hP elem) ?_
  rintro B3 l3 size _ rfl
  exact fin B3 l3 _ _
end
end Lr
end Go.Proofs.YtjaehldnlamgkaaGreatDoor
