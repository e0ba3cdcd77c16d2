import Derived.Test.YtjaehldnlamgkaaGreatDoorXe8
import Derived.KernelRfl
import Derived.Test.YtjaehldnlamgkaaGreatDoorXe0
set_option linter.all false
set_option maxHeartbeats 16000000
set_option maxRecDepth 100000
namespace Go.Proofs.YtjaehldnlamgkaaGreatDoor
namespace Ok
open Go.Conc Lr
theorem A7p {ι σ:Type}{I:σ->Prop}{f:ι->σ->Option (ForInStep σ)}(hf:∀x s,I s->∀r,f x s=some r->I (match r with|.yield s=>s|.done s=>s)) :
 ∀(l:List ι) (s r:σ),I s->forIn l s f=some r->I r:=by
 intro l
 induction l with
 | nil =>
   intro s r hs h;simp only[List.forIn_nil,pure]at h
   cases h
   exact hs
 | cons x l ih =>
   intro s r hs h;simp only[List.forIn_cons,bind,Option.bind]at h
   cases hx:f x s with
   | none=>rw[hx]at h;cases h
   | some q =>
     rw[hx]at h;have:=hf x s hs q hx
     cases q with
     | done s'=>simp only[pure]at h;cases h;exact this
     | yield s'=>exact ih s' r this h
def P9 (X:Cx)(i:TypeInfo):Prop:=∀v,i.zero=some v->Flat X v
theorem flat_agg {X:Cx}{p:Array Value}(h:∀v∈p,Flat X v):Flat X (.agg p):=fun B=>.agg rfl fun i v v' h1 h2=>by
 cases h1.symm.trans h2
 exact h v (Amp h1) B
theorem Sm {X:Cx}{v:Value}(h:Flat X v):∀w∈v.cells,Flat X w:=by
 intro w hw B;have:=(h B).cells;obtain⟨i,hi,e⟩:=Aq5.1 hw
 exact this.2 i w w (by rw[Am6 hi,e]) (by rw[Am6 hi,e])
theorem A2p {X:Cx}{info:TypeId->Option TypeInfo}(hi:∀t i,info t=some i->P9 X i){fs:Array Field}{i:TypeInfo}(h:Made.reckonStruct info fs=some i):P9 X i:=by
 unfold Made.reckonStruct at h;obtain⟨s,h1,h2⟩:=Ap1.1 h;rw[<-Ap7]at h1
 have hI:=A7p (I:=fun s=>∀cs,s.2.2.2.2.2.2.2.1=some cs->∀v∈cs,Flat X v) (fun f s hs r h=>by
  simp only[bind,Option.bind,pure]at h
  repeat' (first|split at h|dsimp only at h)
  all_goals first
   |(cases h;done)
   |(injection h with h
     subst h;intro cs hc v hv;dsimp only at hc
     first
      |(cases hc;done)
      |(injection hc with hc
        subst hc
        rcases Array.mem_append.1 hv with h|h
        ·exact hs _ (by assumption) v h
        ·exact Sm (hi _ _ (by assumption) _ (by assumption)) v h))) fs.toList _ s (fun cs h v hv=>by
  dsimp only at h;injection h with h
  subst h;simp at hv) h1
 dsimp only at h2;intro v hv
 split at h2<;>
 ·injection h2 with h2
  subst h2;obtain⟨cs,hc,rfl⟩:=Ami.1 hv
  exact flat_agg (hI cs hc)
theorem A1u {X:Cx}{info:TypeId->Option TypeInfo}(hi:∀t i,info t=some i->P9 X i){d:TypeDesc}{i:TypeInfo}(h:Made.reckon info d=some i):P9 X i:=by
 have fl:∀v,Ct 4 v=true->Flat X v:=Y1 4;intro v hv;unfold Made.reckon at h
 cases d with
 | struct fs=>exact A2p hi h v hv
 | array n e =>
   simp only[bind,Option.bind,pure]at h
   cases he:info e with
   | none=>rw[he]at h;cases h
   | some j =>
     rw[he]at h;dsimp only at h
     split at h
     ·cases h
     ·injection h with h
      subst h;dsimp only at hv
      split at hv
      ·cases hv
      ·split at hv
       ·injection hv with hv
        subst hv
        exact flat_agg fun w hw=>by simp at hw
       ·obtain⟨z,hz,rfl⟩:=Ami.1 hv
        refine flat_agg fun w hw=>?_
        rw[Array.mem_flatten]at hw;obtain⟨r,hr,hw⟩:=hw;rw[Array.mem_replicate]at hr;obtain⟨_,rfl⟩:=hr
        exact Sm (hi e j he z hz) w hw
 | _ =>
   simp only[bind,Option.bind,pure]at h
   repeat' (first|split at h|dsimp only at h)
   all_goals first
    |(cases h;done)
    |(injection h with h
      subst h;simp only[Made.word,Anf]at hv;subst hv
      exact fl _ rfl)
theorem A15 {X:Cx}{T:Tables}(ht:∀i∈T.types,P9 X i):∀(k:Nat) t i,Made.infoAt T k t=some i->P9 X i:=by
 intro k
 induction k with
 | zero=>intro t i h;cases h
 | succ k ih =>
   intro t i h;unfold Made.infoAt at h
   split at h
   ·exact ht i (Amp h)
   ·obtain⟨d,_,h⟩:=Ap1.1 h
    exact A1u (fun t i h=>ih t i h) h
theorem A7v {X:Cx}{T:Tables}(ht:∀i∈T.types,P9 X i)(t:TypeId)(i:TypeInfo)(h:T.info? t=some i):P9 X i:=by
 unfold Tables.info? at h
 split at h
 ·exact ht i (Amp h)
 ·exact A15 ht _ t i h
end Ok
namespace Ok
open Go.Conc Lr
theorem A86 {info:TypeId->Option TypeInfo}{d:TypeDesc}{i:TypeInfo}(h:Made.reckon info d=some i):i.methods=#[]:=by
 unfold Made.reckon at h
 cases d with
 | struct fs =>
   have h:Made.reckonStruct info fs=some i:=h;unfold Made.reckonStruct at h;obtain⟨s,_,h2⟩:=Ap1.1 h;dsimp only at h2
   split at h2<;>
   ·injection h2 with h2
    subst h2
    rfl
 | _ =>
   simp only[bind,Option.bind,pure]at h
   repeat' (first|split at h|dsimp only at h)
   all_goals first
    |(cases h;done)
    |(injection h with h
      subst h
      rfl)
theorem A16 {T:Tables}{p:TypeInfo->Prop}(ht:∀i∈T.types,p i)(h0:∀i:TypeInfo,i.methods=#[]->p i):∀(k:Nat) t i,Made.infoAt T k t=some i->p i:=by
 intro k
 cases k with
 | zero=>intro t i h;cases h
 | succ k =>
   intro t i h;unfold Made.infoAt at h
   split at h
   ·exact ht i (Amp h)
   ·obtain⟨d,_,h⟩:=Ap1.1 h
    exact h0 i (A86 h)
theorem Ab4 {T:Tables}{p:TypeInfo->Prop}(ht:∀i∈T.types,p i)(h0:∀i:TypeInfo,i.methods=#[]->p i)(t:TypeId)(i:TypeInfo)(h:T.info? t=some i):p i:=by
 unfold Tables.info? at h
 split at h
 ·exact ht i (Amp h)
 ·exact A16 ht h0 _ t i h
def A5m (P:Program)(tl:List (Nat×Nat))(cl:List Nat)(name:String)(i:TypeInfo):Prop :=
 ∀m,i.methods.find? (·.name == name)=some m->m.path=#[] /\(∃e,i.desc=.pointer e)/\∃f,m.func=some (f,true) /\((f∈cl/\∀n,(f,n) ∉ tl)\/A6b P f=true)
theorem Abv {P:Program}{tl:List (Nat×Nat)}{cl:List Nat}{name:String}(h:Nh P tl cl name=true)(t:TypeId)(i:TypeInfo)(hi:P.info? t=some i):A5m P tl cl name i:=by
 refine Ab4 (T:=P.toTables) (p:=A5m P tl cl name) (fun i hi m hm=>?_) (fun i hi m hm=>by rw[hi]at hm;simp at hm) t i hi
 have h1:=Amr.1 (Amr.1 h i hi) m (Array.mem_of_find?_eq_some hm);have h2:=Array.find?_some hm;simp only[bne,h2,Bool.not_true,Bool.false_or,Am8]at h1;obtain⟨h3,h4,h5⟩:=h1
 refine⟨Array.isEmpty_iff.1 h3,?_,?_⟩
 ·split at h4
  ·exact⟨_,by assumption⟩
  ·cases h4
 ·split at h5
  ·rename_i f q hf
   simp only[Am8,Ane]at h5;obtain⟨rfl,⟨h6,h7⟩|h6⟩:=h5
   ·refine⟨f,hf,.inl ⟨by simpa using h6,fun n hn=>?_⟩⟩
    have:=Aoa.1 h7 _ hn;simp at this
   ·exact⟨f,hf,.inr h6⟩
  ·cases h5
section
variable {X : Cx} {P P' : Program} {B : Lk} (hP : PRel X P P')
theorem Acj {f:Nat}(h:A6b P f=true)(z:Prop)(B:Lk)(p:Array Value)(s':Sem Next):SR X P P' (Xf X z) B (callFunc f p) s':=by
 have key:∀V,∃h',(callFunc f p).run P V=.halt h' V/\Jo h':=fun V=>by
  unfold A6b at h;unfold callFunc;rw[Sem.run_bind,run_program];dsimp only[Result.andThen]
  split at h
  ·rename_i fn hf
   simp only[Am8,Apf,Option.isNone_iff_eq_none]at h;obtain⟨h1,h2,h3,h4,h5⟩:=h;rw[hf];dsimp only;simp only[h1,h2,h3,h4,h5,Amk,Ao5,Option.isNone_none,Apg]
   exact⟨_,rfl,trivial⟩
  ·rename_i hf
   rw[hf]
   exact⟨_,rfl,trivial⟩
 intro V W _;obtain⟨h',e,n⟩:=key V
 refine⟨.inl ⟨h',V,e,n⟩,?_⟩
 rw[e]
 exact Ag n
include hP
theorem SR.Zp {α β:Type}{R:Lk->α->β->Prop}(hg:X.G X.N)(hd:¬X.D X.N)(hl:X.L X.N=0)(i c:Option TypeId)(a:TypeId)(m:String) :
 SR X P P' R B (runtimePanic (.typeAssertion i c a m):Sem α) (runtimePanic (.typeAssertion i c a m):Sem β):=by
 intro V W hw;have hb:=hw.G8 _ hg
 revert V W
 show ∀V W,WR X B V W->_
 intro V W hw
 refine(?_:SR X P P' R B _ _) V W hw
 unfold Go.runtimePanic
 refine SR.bind SR.program ?_
 rintro B' hl' p p' ⟨rfl,rfl⟩;have hrt:p'.rt=p.rt:=by rw[hP.Gb]
 have hgs:p'.globals.size=p.globals.size:=by rw[hP.Gb]
 dsimp only;rw[hrt]
 have hh:∀(B2:Lk),Le B' B2->∀t:TypeId,VR X B2 (typeHandle p t) (typeHandle p' t):=fun B2 h2 t=>by
  unfold typeHandle;rw[hgs]
  refine .ptr ⟨⟨h2 _ _ (hl' _ _ ?_),?_⟩,⟨rfl,?_⟩,rfl⟩
  ·rw[<-hP.nG];exact hb
  ·show ¬X.D p.globals.size
   rw[<-hP.nG];exact hd
  ·show X.L p.globals.size<=t
   rw[<-hP.nG,hl];exact Amu _
 have ho:∀(B2:Lk),Le B' B2->∀t:Option TypeId,VR X B2 (match t with|some t=>typeHandle p t|none=>.pointer none) (match t with|some t=>typeHandle p' t|none=>.pointer none):=fun B2 h2 t=>by
  cases t with
  | none=>exact .Mj
  | some t=>exact hh B2 h2 t
 refine SR.bind (SR.elemOf hP _) ?_
 rintro B2 hl2 n n' rfl
 refine SR.bind (SR.newVar n' (AR.agg (AR.push (AR.push (AR.push (AR.one (ho B2 hl2 i)) (ho B2 hl2 c)) (ho B2 hl2 (some a))) (.string _)))) fun B3 hl3 r r' hr=>SR.panic (.iface _ (.ptr hr))
theorem SR.typeAssert (hg:X.G X.N)(hd:¬X.D X.N)(hl:X.L X.N=0)(t a:TypeId){v v':Value}(q:Bool)(h:VR X B v v'):SR X P P' (Ac X) B (Instr.typeAssert v t a q) (Instr.typeAssert v' t a q):=by
 have hold:∀(B:Lk) {v v':Value},VR X B v v'->SR X P P' (Ac X) B (Pure.pure (if q then .tuple #[v,.bool true]else v)) (Pure.pure (if q then .tuple #[v',.bool true]else v')):=fun B v v' h=>SR.pure (by
  cases q
  ·exact h
  ·exact AR.tuple (AR.push (AR.one h) (.bool _)))
 have fail:∀(B:Lk) (i c:Option TypeId) (m:String),SR X P P' (Ac X) B (if q then do Pure.pure (.tuple #[<-zeroValue a,.bool false])else runtimePanic (.typeAssertion i c a m)) (if q then do Pure.pure (.tuple #[<-zeroValue a,.bool false])else runtimePanic (.typeAssertion i c a m)):=fun B i c m=>by
  cases q
  ·exact SR.Zp hP hg hd hl i c a m
  ·exact SR.bind (SR.zeroValue hP a) fun B1 l1 w w' hw=>SR.pure (AR.tuple (AR.push (AR.one hw) (.bool _)))
 unfold Instr.typeAssert;dsimp only
 refine SR.bind (SR.underlying hP a) ?_
 rintro B1 l1 _ d ⟨rfl,_⟩;have h:=h.mono l1
 cases d with
 | interface want =>
   cases h with
   | nilIface=>exact fail _ _ _ _
   | iface t hv =>
     dsimp only
     refine SR.bind (SR.typeInfo hP t) ?_
     rintro B2 l2 _ i ⟨rfl,_⟩
     cases Instr.missingMethod want i.methods with
     | none=>exact hold _ (.iface t (hv.mono l2))
     | some m=>exact fail _ _ _ _
   | _=>exact SR.stuck
 | _ =>
   cases h with
   | nilIface=>exact fail _ _ _ _
   | iface t hv=>exact SR.ite (fun _=>hold _ hv) (fun _=>fail _ _ _ _)
   | _=>exact SR.stuck
theorem Aek {tl:List (Nat×Nat)}{cl:List Nat}(hM:∀n,X.M n->Nh P tl cl n=true)(hc:∀f∈cl,(∀n,(f,n) ∉ tl)->X.C f/\¬X.T f)(hG:∀g,X.G g->¬X.D g/\X.L g=0):Agh X P P' where
 method name m n t B v v' h:=by
  cases n with
  | zero=>exact SR.unsupported
  | succ n =>
    unfold Go.method
    refine SR.bind (SR.typeInfo hP t) ?_
    rintro B1 l1 _ i ⟨rfl,hi⟩;have hrow:=Abv (hM name m) t i hi
    cases hf:i.methods.find? (·.name == name)with
    | none=>exact SR.stuck
    | some r =>
      obtain⟨h1,⟨e,h2⟩,f,h3,h4⟩:=hrow r hf;dsimp only;rw[h1,h3]
      have hu:P.underlying t=some (.pointer e):=by
       unfold Program.underlying;rw[hi];obtain⟨d⟩:=i;obtain rfl:d=.pointer e:=h2
       rfl
      unfold follow
      refine SR.bind (SR.pure (R:=fun _ (a b:TypeId×Place)=>a=(t,.val v)/\b=(t,.val v')) ⟨rfl,rfl⟩) ?_
      rintro B2 l2 _ _ ⟨rfl,rfl⟩;dsimp only;unfold receiverAt
      refine SR.bind (R:=fun B x x'=>VR X B x x') ?_ fun B3 l3 x x' hx=>SR.pure ⟨⟨rfl,h4.imp (fun h=>hc f h.1 h.2) fun h=>Acj h⟩,hx⟩
      refine SR.bind (SR.underlying hP t) ?_
      rintro B3 l3 _ d ⟨rfl,hd⟩;rw[hu]at hd
      cases hd
      exact SR.pure (((h.mono l1).mono l2).mono l3)
 nilAhead name m n t B v v' h:=by
  cases n with
  | zero=>exact SR.pure rfl
  | succ n =>
    unfold Go.nilAhead
    refine SR.bind (SR.typeInfo hP t) ?_
    rintro B1 l1 _ i ⟨rfl,hi⟩;have hrow:=Abv (hM name m) t i hi
    cases hf:i.methods.find? (·.name == name)with
    | none=>exact SR.stuck
    | some r =>
      obtain⟨h1,_,f,h3,_⟩:=hrow r hf;dsimp only;rw[h1,h3];unfold followBlind
      refine SR.bind (SR.pure (R:=fun _ (a b:Except (Option Bool) (TypeId×Option Value))=>a=.ok (t,some v)/\b=.ok (t,some v')) ⟨rfl,rfl⟩) ?_
      rintro B2 l2 _ _ ⟨rfl,rfl⟩
      exact SR.pure rfl
 typeAssert ha t a B v v' q h:=SR.typeAssert hP (X.asG ha) (hG _ (X.asG ha)).1 (hG _ (X.asG ha)).2 t a q h
end
end Ok
namespace Ok
open Go.Conc Lr
section
variable {X : Cx} {P P' : Program} {B : Lk} (hP : PRel X P P')
include hP
theorem Ls:∀(n:Nat) {B:Lk} {a a':Addr} (s:ByteArray),Ce X B a a'->SR X P P' Same B (Extern.Bytes.loadBytes a n s) (Extern.Bytes.loadBytes a' n s)
 | 0,_,_,_,_,_=>SR.pure rfl
 | n+1,_,_,_,s,h=>by
   unfold Extern.Bytes.loadBytes
   refine SR.bind (SR.load hP.Gb h) fun B1 l1 v v' hv=>?_
   cases hv with
   | int k m =>
     cases k<;>first
      | exact SR.stuck
      | exact Ls n _ ((h.mono l1).add 1)
   | _=>exact SR.stuck
theorem Tz {v v':Value}(h:VR X B v v'):SR X P P' Same B (Extern.Bytes.bytesOf v) (Extern.Bytes.bytesOf v'):=by
 cases h<;>first
  | exact SR.stuck
  | exact SR.pure rfl
  | exact Ls hP _ _ (by assumption)
omit hP in
theorem X5 {v v':Value}(h:VR X B v v'):SR X P P' Same B (Extern.Bytes.asByte v) (Extern.Bytes.asByte v'):=by
 cases h with
 | int k m=>cases k<;>first|exact SR.stuck|exact SR.pure rfl
 | _=>exact SR.stuck
theorem Acd:∀B p p',AR X B p p'->SR X P P' (Ac X) B (Extern.BytealgCount.count p) (Extern.BytealgCount.count p'):=by
 intro B p p' h;have h:=h.toList;obtain⟨l⟩:=p;obtain⟨l'⟩:=p';dsimp only at h
 rcases h with _|@⟨b,b',_,_,hb,_|@⟨c,c',_,_,hc,_|h⟩⟩<;>first
  | exact SR.stuck
  | skip
 unfold Extern.BytealgCount.count
 refine SR.bind (Tz hP hb) ?_
 rintro B1 l1 s _ rfl
 refine SR.bind (X5 (hc.mono l1)) ?_
 rintro B2 l2 x _ rfl
 exact SR.pure (.int _ _)
theorem Z1:∀B p p',AR X B p p'->SR X P P' (Ac X) B (Extern.BytealgIndexByte.indexByte p) (Extern.BytealgIndexByte.indexByte p'):=by
 intro B p p' h;have h:=h.toList;obtain⟨l⟩:=p;obtain⟨l'⟩:=p';dsimp only at h
 rcases h with _|@⟨b,b',_,_,hb,_|@⟨c,c',_,_,hc,_|h⟩⟩<;>first
  | exact SR.stuck
  | skip
 unfold Extern.BytealgIndexByte.indexByte
 refine SR.bind (Tz hP hb) ?_
 rintro B1 l1 _ s rfl
 refine SR.bind (X5 (hc.mono l1)) ?_
 rintro B2 l2 _ x rfl
 cases (List.range s.size).find? fun i=>s[i]! == x<;>exact SR.pure (.int _ _)
omit hP in
theorem Acm:∀B p p',AR X B p p'->SR X P P' (Ac X) B (Extern.AbiNoEscape.same p) (Extern.AbiNoEscape.same p'):=by
 intro B p p' h;have h:=h.toList;obtain⟨l⟩:=p;obtain⟨l'⟩:=p';dsimp only at h
 rcases h with _|@⟨b,b',_,_,hb,_|h⟩<;>first
  | exact SR.stuck
  | exact SR.pure hb
omit hP in
theorem A8x:∀B p p',AR X B p p'->SR X P P' (Ac X) B (Extern.MathFloatBits.float32bits p) (Extern.MathFloatBits.float32bits p'):=by
 intro B p p' h;have h:=h.toList;obtain⟨l⟩:=p;obtain⟨l'⟩:=p';dsimp only at h
 rcases h with _|@⟨b,b',_,_,hb,_|h⟩<;>first
  | exact SR.stuck
  | skip
 cases hb with
 | float k m=>cases k<;>first|exact SR.stuck|exact SR.pure (.int _ _)
 | _=>exact SR.stuck
omit hP in
theorem Vo:∀(n t:Nat) (acc:Array Value),AR X B acc acc->AR X B (Extern.BytealgMakeNoZero.digits n t acc) (Extern.BytealgMakeNoZero.digits n t acc)
 | 0,_,_,h=>h
 | n+1,t,acc,h=>by
   unfold Extern.BytealgMakeNoZero.digits
   exact Vo n _ _ (h.push (.int _ _))
theorem A8z (ps rs:Array TypeId):∀B p p',AR X B p p'->SR X P P' (Ac X) B (Extern.BytealgMakeNoZero.makeNoZero ps rs p) (Extern.BytealgMakeNoZero.makeNoZero ps rs p'):=by
 intro B p p' h;have h:=h.toList;obtain⟨l⟩:=p;obtain⟨l'⟩:=p';dsimp only at h
 rcases h with _|@⟨b,b',_,_,hb,_|h⟩<;>first
  | exact SR.stuck
  | skip
 cases hb with
 | int k n =>
   cases k<;>first
    | exact SR.stuck
    | skip
   unfold Extern.BytealgMakeNoZero.makeNoZero
   cases rs[0]? with
   | none=>exact SR.stuck
   | some t =>
     dsimp only
     refine SR.bind (SR.underlying hP t) ?_
     rintro B1 l1 _ td ⟨rfl,_⟩
     cases td<;>first
      | exact SR.stuck
      | skip
     refine SR.ite (fun _=>SR.bind (R:=fun _ _ _=>False) (SR.runtimePanic hP (e:=.error _) trivial) fun _ _ _ _ h=>h.elim) (fun _=>?_)
     refine SR.bind (SR.choose _) ?_
     rintro B2 l2 cap _ rfl
     refine SR.bind (SR.askRoom _) fun B3 l3 _ _ _=>?_
     refine SR.bind (SR.choose _) ?_
     rintro B4 l4 by_ _ rfl
     refine SR.bind (SR.newRow _ (Vo _ _ _ AR.nil)) fun B5 l5 a a' ha=>?_
     exact SR.pure (.slice _ _ ha)
 | _=>exact SR.stuck
end
end Ok
namespace Ok
open Go.Conc Lr
def mvP (P:Program)(t:TypeId)(n l:Nat):Prop:=∀off (m:Int) off',l<=off->0<=m->cellAtBytes P P.depth t (n / P.cellsOf t) off m=some off'->l<=off'
def Zh (P:Program)(tl:List (Nat×Nat))(cl gl:List Nat)(Q:String->Code->Prop)(D F:Nat->Prop)(Dn:Prop)(L:Nat->Nat)(lf:∀b,L b≠0->F b)(xl:Ji P gl=true->∀b,¬F b):Cx where
 C f:=f∈cl\/∃n,(f,n)∈tl
 M n:=Nh P tl cl n=true
 As:=Ji P gl=true
 T f:=∃n,(f,n)∈tl
 K o:=Hc P tl cl gl o=true
 D:=D
 F:=F
 G g:=g∈gl
 N:=P.globals.size
 R:=Q
 Dn:=True
 L:=L
 Mv:=mvP P
 Z t:=P.info? t=none
 lf:=lf
 Ar f n:=(f,n)∈tl
 asG h:=by simpa [Ji]using h
 Ex:=Ji P gl=true
 exF:=xl
def cx (P:Program)(cl:List Nat)(Q:String->Code->Prop)(D F:Nat->Prop)(Dn:Prop:=True):Cx:=Zh P [] cl [] Q D F Dn (fun _=>0) (fun _ h=>absurd rfl h) (fun h=>by simp[Ji]at h)
theorem Ru {P:Program}{cl:List Nat}{Q:String->Code->Prop}{D F:Nat->Prop}{Dn:Prop}:∀f,¬(cx P cl Q D F Dn).T f:=fun _ ⟨_,h⟩=>by cases h
theorem Ajj {P:Program}{cl:List Nat}{Q:String->Code->Prop}{D F:Nat->Prop}{Dn:Prop}:∀f∈cl,(cx P cl Q D F Dn).C f/\¬(cx P cl Q D F Dn).T f:=fun f h=>⟨.inl h,Ru f⟩
def A9p (e:Array Value->Sem Value):Prop:=(∃n w,e=Extern.MathFloor.toIntegral n w)\/e=Extern.MathFloatBits.float64bits\/e=Extern.MathFloatBits.float64frombits \/
 e=Extern.BytealgCount.count\/e=Extern.BytealgIndexByte.indexByte\/e=Extern.AbiNoEscape.same\/e=Extern.MathFloatBits.float32bits\/∃ps rs,e=Extern.BytealgMakeNoZero.makeNoZero ps rs
def L8 (P:Program)(tl:List (Nat×Nat))(cl gl:List Nat)(f:Nat):Prop :=
 ∃fn,P.funcs[f]?=some fn /\(fn.name == "runtime.NumGoroutine") = false /\((∃c,fn.body=some c/\Fa P tl cl gl c=true) \/(fn.body.isNone=true/\Extern.findNext fn=none/\∃e,Extern.find fn=some e/\A9p e))
def L5 (P:Program):Bool:=P.types.all (fun i=>match i.zero with|none=>true|some v=>Ct 8 v)
theorem A5j {X:Cx}{P:Program}(h:L5 P=true)(t:TypeId)(i:TypeInfo)(v:Value)(h1:P.info? t=some i)(h2:i.zero=some v):Flat X v:=by
 refine A7v (T:=P.toTables) (fun i hi v hv=>?_) t i h1 v h2
 unfold L5 at h;rw[Amr]at h;have:=h i hi;rw[hv]at this
 exact Y1 8 v this
section
variable {P P' : Program} {tl : List (Nat × Nat)} {cl gl : List Nat} {Q : String -> Code -> Prop} {D F : Nat -> Prop} {Dn : Prop} {L : Nat -> Nat} {lf : ∀ b, L b ≠ 0 -> F b} {xl : Ji P gl = true -> ∀ b, ¬ F b}
theorem Aan {X:Cx}{P P':Program}(hP:PRel X P P'){e:Array Value->Sem Value}(h:A9p e):∀B p p',AR X B p p'->SR X P P' (Ac X) B (e p) (e p'):=by
 rcases h with⟨n,w,rfl⟩|rfl|rfl|rfl|rfl|rfl|rfl |⟨ps,rs,rfl⟩
 ·exact Vc n w
 ·exact Aey
 ·exact A2e
 ·exact Acd hP
 ·exact Z1 hP
 ·exact Acm
 ·exact A8x
 ·exact A8z hP ps rs
def I0 (ids:List Nat):Code->Code
 | .region id ops d=>if ids.contains id || ids.contains 1000 then .refuse A4d else .region id ops d
 | .seq a b=>.seq (I0 ids a) (I0 ids b)
 | .cond c a b=>.cond c (I0 ids a) (I0 ids b)
 | .rangeFunc f p a b=>.rangeFunc f p (I0 ids a) (I0 ids b)
 | .block i c=>.block i (I0 ids c)
 | .loop c=>.loop (I0 ids c)
 | .scope c=>.scope (I0 ids c)
 | .refuse _=>.refuse A4d
 | .goto l=>.goto l
 | .skip=>.skip
 | .ret=>.ret
 | .exit i=>.exit i
 | .label l=>.label l
theorem E2 {X:Cx}(hc:∀f∈cl,X.C f/\¬X.T f)(hg:∀g∈gl,X.G g)(hK:∀o,Hc P tl cl gl o=true->X.K o)(ids:List Nat):∀(c:Code),Fa P tl cl gl (I0 ids c)=true->CdR X (I0 ids c) c
 | .refuse _,_=>.inl (by decide)
 | .region id ops d,h=>by
   unfold I0 at h ⊢
   by_cases hn:(ids.contains id || ids.contains 1000)=true
   ·rw[Amo hn]
    exact .inl (by decide)
   ·rw[Amd hn]at h ⊢
    exact Cz hc hg hK (.region id ops d) h
 | .seq a b,h=>by
   simp only[I0,Fa,Am8]at h
   exact⟨a,b,rfl,E2 hc hg hK ids a h.1,E2 hc hg hK ids b h.2⟩
 | .cond c a b,h=>by
   simp only[I0,Fa,Am8]at h
   exact⟨a,b,rfl,K4 hc hg h.1,E2 hc hg hK ids a h.2.1,E2 hc hg hK ids b h.2.2⟩
 | .rangeFunc f p a b,h=>by
   simp only[I0,Fa,Am8]at h
   exact⟨a,b,rfl,K4 hc hg h.1.1,(E2 hc hg hK ids a h.1.2.1).noD h.2.1,(E2 hc hg hK ids b h.1.2.2).noD h.2.2⟩
 | .block _ c,h=>⟨c,rfl,E2 hc hg hK ids c h⟩
 | .loop c,h=>⟨c,rfl,E2 hc hg hK ids c h⟩
 | .scope c,h=>⟨c,rfl,E2 hc hg hK ids c h⟩
 | .goto _,h=>by simp[I0,Fa]at h
 | .skip,_=>rfl
 | .ret,_=>rfl
 | .exit _,_=>rfl
 | .label _,_=>rfl
def Agf (P P':Program)(f:Nat):Prop:=∃(fn fn':Func) (c:Code) (ids:List Nat),P'.funcs[f]?=some fn'/\P.funcs[f]?=some fn/\fn.name=fn'.name/\fn.results=fn'.results/\fn.ntmps=fn'.ntmps/\fn'.body=some c/\fn.body=some (I0 ids c)
theorem P7 (hz:L5 P=true)(htab:P'.toTables=P.toTables)(hsz:P'.funcs.size=P.funcs.size)(hcl:∀f∈cl,L8 P tl cl gl f /\(∀n,(f,n) ∉ tl) /\(P'.funcs[f]?=P.funcs[f]?\/Agf P P' f))
 (hT:∀f:Nat,(∃n,(f,n)∈tl)->∃fn fn':Func,P.funcs[f]?=some fn/\P'.funcs[f]?=some fn'/\fn'.name=fn.name/\fn'.results=fn.results /\(fn.name == "runtime.NumGoroutine") = false/\fn.body.isNone=false/\fn'.body.isNone=false)
 (hall:∀f:Nat,P'.funcs[f]?=P.funcs[f]?\/∃fn fn':Func,P.funcs[f]?=some fn/\P'.funcs[f]?=some fn'/\fn'.name=fn.name/\fn'.results=fn.results) (hD:∀g∈gl,¬D g/\L g=0) (hrc:P.follows .rangeFuncRecover=true:=by kernel_rfl):Whole (Zh P tl cl gl Q D F Dn L lf xl) P P':=by
 have hP:PRel (Zh P tl cl gl Q D F Dn L lf xl) P P':={
  Gb:=htab
  nG:=rfl
  zero:=A5j hz
  mono:=fun t n l h=>h
  zed:=fun t h=>h }
 have hF:A3a (Zh P tl cl gl Q D F Dn L lf xl) P P':={
  toPRel:=hP
  size:=hsz
  A6h:=hrc
  funcs:=fun f=>by
   by_cases hf:f∈cl\/∃n,(f,n)∈tl
   ·by_cases ht:∃n,(f,n)∈tl
    ·obtain⟨fn,fn',h1,h2,h3,h4,h5,h6,h7⟩:=hT f ht
     exact .inr ⟨fn,fn',h1,h2,h3,h4,fun _ h=>absurd ht h,fun _=>⟨fun e=>by rw[e]at h5;simp at h5,.inl ⟨h6,h7,fun h=>absurd ht h⟩⟩⟩
    ·obtain⟨⟨fn,h1,h2,h3⟩,_,hs⟩:=hcl f (hf.resolve_right ht)
     rcases hs with hs |⟨fn0,fn',c',ids,g1,g2,g3,g4,g5,g6,g7⟩
     ·refine .inr ⟨fn,fn,h1,hs.trans h1,rfl,rfl,fun _ _=>rfl,fun _=>⟨fun e=>by rw[e]at h2;simp at h2,?_⟩⟩
      rcases h3 with⟨c,h4,h5⟩ |⟨h4,h5,e,h6,h7⟩
      ·exact .inl ⟨by rw[h4];rfl,by rw[h4];rfl,fun _=>⟨c,c,h4,h4,Cz (X:=Zh P tl cl gl Q D F Dn L lf xl) (tl:=tl) (cl:=cl) (gl:=gl) (fun f h=>⟨.inl h,fun⟨n,hn⟩=>(hcl f h).2.1 n hn⟩) (fun g h=>h) (fun o h=>h) c h5⟩⟩
      ·exact .inr ⟨h4,rfl,fun z B p p' hp=>A8y h1 (hs.trans h1) h2 h4 h5 h6 (Aan hP h7) hp⟩
     ·obtain rfl:fn=fn0:=Aml (h1.symm.trans g2)
      refine .inr ⟨fn,fn',h1,g1,g3.symm,g4.symm,fun _ _=>g5.symm,fun _=>⟨fun e=>by rw[e]at h2;simp at h2,?_⟩⟩
      rcases h3 with⟨c,h4,h5⟩ |⟨h4,_⟩
      ·obtain rfl:c=I0 ids c':=Aml (h4.symm.trans g7)
       exact .inl ⟨by rw[h4];rfl,by rw[g6];rfl,fun _=>⟨_,c',h4,g6,E2 (X:=Zh P tl cl gl Q D F Dn L lf xl) (P:=P) (tl:=tl) (cl:=cl) (gl:=gl) (fun f h=>⟨.inl h,fun⟨n,hn⟩=>(hcl f h).2.1 n hn⟩) (fun g h=>h) (fun o h=>h) ids c' h5⟩⟩
      ·rw[g7]at h4
       cases h4
   ·rcases hall f with hs |⟨fn,fn',h1,h2,h3,h4⟩
    ·cases h:P.funcs[f]? with
     | none=>exact .inl ⟨rfl,hs.trans h⟩
     | some fn=>exact .inr ⟨fn,fn,rfl,hs.trans h,rfl,rfl,fun hc=>absurd hc hf,fun hc=>absurd hc hf⟩
    ·exact .inr ⟨fn,fn',h1,h2,h3,h4,fun hc=>absurd hc hf,fun hc=>absurd hc hf⟩ }
 exact{
  hF:=hF
  hM:=Aek hF.toPRel (fun n h=>h) (fun f h hn=>⟨.inl h,fun⟨n,e⟩=>hn n e⟩) (fun g h=>hD g h)
  hK:=fun o h=>Aeq (X:=Zh P tl cl gl Q D F Dn L lf xl) (tl:=tl) (cl:=cl) (gl:=gl) (fun f h=>⟨.inl h,fun⟨n,hn⟩=>(hcl f h).2.1 n hn⟩) (fun n h=>h) (fun h=>⟨h,h⟩) trivial (fun g h=>h) (fun f n h=>⟨.inr ⟨n,h⟩,h⟩) h
  hG:=fun g h=>hD g h }
theorem Xc (hz:L5 P=true)(htab:P'.toTables=P.toTables)(hsz:P'.funcs.size=P.funcs.size)(hcl:∀f∈cl,L8 P tl cl gl f /\(∀n,(f,n) ∉ tl)/\P'.funcs[f]?=P.funcs[f]?)
 (hT:∀f:Nat,(∃n,(f,n)∈tl)->∃fn fn':Func,P.funcs[f]?=some fn/\P'.funcs[f]?=some fn'/\fn'.name=fn.name/\fn'.results=fn.results /\(fn.name == "runtime.NumGoroutine") = false/\fn.body.isNone=false/\fn'.body.isNone=false)
 (hall:∀f:Nat,P'.funcs[f]?=P.funcs[f]?\/∃fn fn':Func,P.funcs[f]?=some fn/\P'.funcs[f]?=some fn'/\fn'.name=fn.name/\fn'.results=fn.results) (hD:∀g∈gl,¬D g/\L g=0) (hrc:P.follows .rangeFuncRecover=true:=by kernel_rfl):Whole (Zh P tl cl gl Q D F Dn L lf xl) P P' :=
 P7 hz htab hsz (fun f h=>⟨(hcl f h).1,(hcl f h).2.1,.inl (hcl f h).2.2⟩) hT hall hD hrc
theorem Ad5 (hz:L5 P=true)(htab:P'.toTables=P.toTables)(hsz:P'.funcs.size=P.funcs.size)(hcl:∀f∈cl,L8 P [] cl [] f/\P'.funcs[f]?=P.funcs[f]?)
 (hall:∀f:Nat,P'.funcs[f]?=P.funcs[f]?\/∃fn fn':Func,P.funcs[f]?=some fn/\P'.funcs[f]?=some fn'/\fn'.name=fn.name/\fn'.results=fn.results) (hrc:P.follows .rangeFuncRecover=true:=by kernel_rfl):Whole (cx P cl Q D F Dn) P P' :=
 Xc hz htab hsz (fun f h=>⟨(hcl f h).1,(fun n hn=>by cases hn),(hcl f h).2⟩) (fun f ⟨n,hn⟩=>by cases hn) hall (fun g hg=>by cases hg) hrc
end
def chk (P:Program)(tl:List (Nat×Nat))(cl gl:List Nat)(f:Nat):Bool:=match P.funcs[f]? with
 | some fn=>!(fn.name == "runtime.NumGoroutine") && (match fn.body with
   | some c=>Fa P tl cl gl c
   | none=>false)
 | none=>false
theorem A60 {P:Program}{tl:List (Nat×Nat)}{cl gl:List Nat}{f:Nat}(h:chk P tl cl gl f=true):L8 P tl cl gl f:=by
 unfold chk at h
 split at h
 ·rename_i fn hf
  simp only[Am8,Apf]at h
  split at h
  ·rename_i c hc
   exact⟨fn,hf,h.1,.inl ⟨c,hc,h.2⟩⟩
  ·simp at h
 ·cases h
theorem Ih {P:Program}{tl:List (Nat×Nat)}{cl gl:List Nat}{f:Nat}{fn:Func}{e:Array Value->Sem Value}(h1:P.funcs[f]?=some fn)(h2:(fn.name == "runtime.NumGoroutine") = false)(h3:fn.body.isNone=true)(h4:Extern.findNext fn=none)(h5:Extern.find fn=some e)(h6:A9p e):L8 P tl cl gl f :=
 ⟨fn,h1,h2,.inr ⟨h3,h4,e,h5,h6⟩⟩
end Ok
end Go.Proofs.YtjaehldnlamgkaaGreatDoor
