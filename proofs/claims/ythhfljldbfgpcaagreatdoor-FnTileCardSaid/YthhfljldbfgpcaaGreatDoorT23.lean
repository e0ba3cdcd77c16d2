/- Merged texts: LrB. -/
import Derived.Test.YthhfljldbfgpcaaGreatDoorT22
set_option linter.all false
section
namespace Go.Proofs.YthhfljldbfgpcaaGreatDoor.Lr
def EvsOk (X:Cx) (B:Lk) (n:Array Event):Prop:=∀ e ∈ n,EvOk X B e
theorem EvsOk.nil {X:Cx} {B:Lk}:EvsOk X B #[]:=fun e h => by simp at h
theorem EvsOk.append {X:Cx} {B:Lk} {n m:Array Event} (h:EvsOk X B n) (k:EvsOk X B m):EvsOk X B (n ++ m):=fun e x => (Array.mem_append.1 x).elim (h e) (k e)
theorem EvsOk.mono {X:Cx} {B B':Lk} (h:Le B B') {n:Array Event} (k:EvsOk X B n):EvsOk X B' n:=fun e x => (k e x).mono h
def Mute:Halt → Prop
 | .stuck _ | .exit _ => True
 | .unsupported (.initOrder _) => False
 | .unsupported _ => True
 | _ => False
def ResR (X:Cx) (P':Program) {α β:Type} (R:Lk → α → β → Prop) (B:Lk) (V W:World) (s':Sem β):Result α → Prop
 | .ok a V' => ∃ (B':Lk) (W':World) (b:β) (n:Array Event),Ext X B V W B' V' W' ∧ WR X B' V' W' ∧ (∀ es,s'.runT P' W es=(.ok b W',es ++ n)) ∧ R B' a b ∧ EvsOk X B' n
 | .halt (.panic v) V' => ∃ (B':Lk) (W':World) (v':Value) (n:Array Event),Ext X B V W B' V' W' ∧ WR X B' V' W' ∧ (∀ es,s'.runT P' W es=(.halt (.panic v') W',es ++ n)) ∧ VR X B' v v' ∧ EvsOk X B' n
 | .halt h _ => Mute h
def Hush (P:Program) {α:Type} (s:Sem α) (V:World):Prop:=∀ es,∀ e ∈ (s.runT P V es).2,e ∈ es ∨ e.loc ≠ .output
def Clean (P:Program) {α:Type} (s:Sem α) (V:World):Prop:=(∃ h V',s.run P V=.halt h V' ∧ Mute h) ∨ Hush P s V
def SR (X:Cx) (P P':Program) {α β:Type} (R:Lk → α → β → Prop) (B:Lk) (s:Sem α) (s':Sem β):Prop:=∀ V W,WR X B V W → Clean P s V ∧ ResR X P' R B V W s' (s.run P V)
theorem hush_pure {P:Program} {α:Type} (a:α) (V:World):Hush P (Pure.pure a:Sem α) V:=fun es e h => .inl (by simpa [Pure.pure,Sem.runT,-Sem.runT_eq] using h)
theorem hush_panic {P:Program} {α:Type} (v:Value) (V:World):Hush P (goPanic v:Sem α) V:=fun es e h => .inl (by simpa [goPanic,Sem.runT,-Sem.runT_eq] using h)
def Same {α:Type} (_:Lk) (a b:α):Prop:=b=a
theorem resR_halt {X:Cx} {P':Program} {α β:Type} {R:Lk → α → β → Prop} {B:Lk} {V W V':World} {s':Sem β} {h:Halt} (n:Mute h):ResR X P' R B V W s' (.halt h V'):=by
 cases h with
 | panic v => exact n.elim
 | _ => exact n
theorem resR_mute {X:Cx} {P':Program} {α β:Type} {R:Lk → α → β → Prop} {B:Lk} {V W V':World} {s':Sem β} {h:Halt} (hp:∀ v,h ≠ .panic v) (k:ResR X P' R B V W s' (.halt h V')):Mute h:=by
 cases h with
 | panic v => exact absurd rfl (hp v)
 | _ => exact k
theorem halt_cases (h:Halt):(∃ v,h=.panic v) ∨ ∀ v,h ≠ .panic v:=by
 cases h with
 | panic v => exact .inl ⟨v,rfl⟩
 | _ => exact .inr fun v e => by cases e
theorem SR.halt {X:Cx} {P P':Program} {α β:Type} {R:Lk → α → β → Prop} {B:Lk} {s':Sem β} {h:Halt} (n:Mute h):SR X P P' R B (Sem.halt h:Sem α) s':=fun _ _ _ => ⟨.inl ⟨h,_,rfl,n⟩,resR_halt n⟩
theorem SR.stuck {X:Cx} {P P':Program} {α β:Type} {R:Lk → α → β → Prop} {B:Lk} {s':Sem β} {why:String}:SR X P P' R B (Go.stuck why:Sem α) s':=.halt trivial
theorem SR.unsupported {X:Cx} {P P':Program} {α β:Type} {R:Lk → α → β → Prop} {B:Lk} {s':Sem β} {u:Unsupported} (h:Mute (.unsupported u):=by trivial):SR X P P' R B (Go.unsupported u:Sem α) s':=.halt h
theorem SR.stuck_bind {X:Cx} {P P':Program} {α β γ:Type} {R:Lk → γ → β → Prop} {B:Lk} {s':Sem β} {why:String} {f:α → Sem γ}:SR X P P' R B ((Go.stuck why:Sem α) >>= f) s':=fun _ _ _ => ⟨.inl ⟨.stuck why,_,rfl,trivial⟩,resR_halt (h:=.stuck why) trivial⟩
theorem SR.unsupported_bind {X:Cx} {P P':Program} {α β γ:Type} {R:Lk → γ → β → Prop} {B:Lk} {s':Sem β} {u:Unsupported} {f:α → Sem γ} (h:Mute (.unsupported u):=by trivial):SR X P P' R B ((Go.unsupported u:Sem α) >>= f) s':=fun _ _ _ => ⟨.inl ⟨.unsupported u,_,rfl,h⟩,resR_halt (h:=.unsupported u) h⟩
theorem SR.pure {X:Cx} {P P':Program} {α β:Type} {R:Lk → α → β → Prop} {B:Lk} {a:α} {b:β} (h:R B a b):SR X P P' R B (Pure.pure a:Sem α) (Pure.pure b:Sem β) :=
 fun V W hw => ⟨.inr (hush_pure a V),B,W,b,#[],Ext.refl ..,hw,fun es => by simp [Pure.pure,Sem.runT,-Sem.runT_eq],h,.nil⟩
theorem SR.mono {X:Cx} {P P':Program} {α β:Type} {R R':Lk → α → β → Prop} {B:Lk} {s:Sem α} {s':Sem β} (h:SR X P P' R B s s') (hr:∀ B' a b,R B' a b → R' B' a b):SR X P P' R' B s s':=by
 intro V W hw
 obtain ⟨hcl,this⟩:=h V W hw
 refine ⟨hcl,?_⟩
 generalize s.run P V=r at this ⊢
 match r,this with
 | .ok a V',⟨B',W',b,n,h1,h2,h3,h4,h5⟩ => exact ⟨B',W',b,n,h1,h2,h3,hr _ _ _ h4,h5⟩
 | .halt e V',k =>
   rcases halt_cases e with ⟨v,rfl⟩ | hp
   · exact k
   · exact resR_halt (resR_mute hp k)
theorem run_bind' {α β:Type} (P:Program) (x:Sem α) (f:α → Sem β) (w:World):(x >>= f).run P w=match x.run P w with
   | .ok a w' => (f a).run P w'
   | .halt h w' => .halt h w':=by
 rw [Sem.run_bind]
 cases x.run P w <;> rfl
theorem SR.bind {X:Cx} {P P':Program} {α β γ δ:Type} {R:Lk → α → β → Prop} {R2:Lk → γ → δ → Prop} {B:Lk} {s:Sem α} {s':Sem β} {f:α → Sem γ} {f':β → Sem δ}
   (h:SR X P P' R B s s') (hf:∀ B',Le B B' → ∀ a b,R B' a b → SR X P P' R2 B' (f a) (f' b)):SR X P P' R2 B (s >>= f) (s' >>= f'):=by
 intro V W hw
 obtain ⟨hcl,this⟩:=h V W hw
 refine ⟨?_,?_⟩
 · rcases hcl with ⟨x,V',e1,e2⟩ | hcl
   · exact .inl ⟨x,V',by rw [run_bind',e1],e2⟩
   · have ev:∀ es,(s >>= f).runT P V es=match s.runT P V es with
         | (.ok a V1,es1) => (f a).runT P V1 es1
         | (.halt h V1,es1) => (.halt h V1,es1):=fun es => by
       show (s.bind f).runT P V es=_
       rw [Sem.runT_bind']
       generalize s.runT P V es=q
       obtain ⟨r,es1⟩:=q
       cases r <;> rfl
     have hfst:∀ es,(s.runT P V es).1=s.run P V:=fun es => by rw [Sem.runT_eq]
     cases hs:s.run P V with
     | halt x V1 =>
       refine .inr fun es e he => ?_
       rw [ev] at he
       have h1:=hfst es
       have h2:=hcl es e
       generalize s.runT P V es=q at he h1 h2
       obtain ⟨r,es1⟩:=q
       dsimp only at h1
       subst h1
       rw [hs] at he
       exact h2 he
     | ok a V1 =>
       rw [hs] at this
       obtain ⟨B',W',b,n,h1,h2,h3,h4,h5⟩:=this
       rcases (hf B' h1.le a b h4 V1 W' h2).1 with ⟨x,V2,e1,e2⟩ | hc2
       · exact .inl ⟨x,V2,by rw [run_bind',hs]; exact e1,e2⟩
       · refine .inr fun es e he => ?_
         rw [ev] at he
         have h1:=hfst es
         have h2:=hcl es
         generalize s.runT P V es=q at he h1 h2
         obtain ⟨r,es1⟩:=q
         dsimp only at h1
         subst h1
         rw [hs] at he
         rcases hc2 es1 e he with h | h
         · exact h2 e h
         · exact .inr h
 rw [run_bind']
 generalize s.run P V=r at this ⊢
 have join:∀ {o:Result β} {W':World} {n:Array Event},(∀ es,s'.runT P' W es=(o,es ++ n)) → ∀ es,(s' >>= f').runT P' W es=match o with
     | .ok b W' => (f' b).runT P' W' (es ++ n)
     | .halt h W' => (.halt h W',es ++ n):=by
   intro o W' n hn es
   show (s'.bind f').runT P' W es=_
   rw [Sem.runT_bind',hn]
   cases o <;> rfl
 match r,this with
 | .ok a V',⟨B',W',b,n,h1,h2,h3,h4,h5⟩ =>
   have k:=(hf B' h1.le a b h4 V' W' h2).2
   show ResR X P' R2 B V W (s' >>= f') ((f a).run P V')
   generalize (f a).run P V'=r2 at k ⊢
   match r2,k with
   | .ok c V'',⟨B'',W'',d,m,g1,g2,g3,g4,g5⟩ =>
     exact ⟨B'',W'',d,n ++ m,h1.trans g1,g2,fun es => by rw [join (W':=W') h3,← Array.append_assoc]; exact g3 _,g4,(h5.mono g1.le).append g5⟩
   | .halt e V'',k =>
     rcases halt_cases e with ⟨v,rfl⟩ | hp
     · obtain ⟨B'',W'',d,m,g1,g2,g3,g4,g5⟩:=k
       exact ⟨B'',W'',d,n ++ m,h1.trans g1,g2,fun es => by rw [join (W':=W') h3,← Array.append_assoc]; exact g3 _,g4,(h5.mono g1.le).append g5⟩
     · exact resR_halt (resR_mute hp k)
 | .halt e V',k =>
   rcases halt_cases e with ⟨v,rfl⟩ | hp
   · obtain ⟨B',W',v',n,h1,h2,h3,h4,h5⟩:=k
     exact ⟨B',W',v',n,h1,h2,fun es => by rw [join (W':=W') h3],h4,h5⟩
   · exact resR_halt (resR_mute hp k)
theorem SR.map {X:Cx} {P P':Program} {α β γ δ:Type} {R:Lk → α → β → Prop} {R2:Lk → γ → δ → Prop} {B:Lk} {s:Sem α} {s':Sem β} {f:α → γ} {f':β → δ}
   (h:SR X P P' R B s s') (hf:∀ B',Le B B' → ∀ a b,R B' a b → R2 B' (f a) (f' b)):SR X P P' R2 B (f <$> s) (f' <$> s'):=SR.bind h fun B' hl a b r => SR.pure (hf B' hl a b r)
theorem SR.ite {X:Cx} {P P':Program} {α β:Type} {R:Lk → α → β → Prop} {B:Lk} {c:Prop} [Decidable c] {s t:Sem α} {s' t':Sem β} (h:c → SR X P P' R B s s') (k:¬ c → SR X P P' R B t t') :
   SR X P P' R B (if c then s else t) (if c then s' else t'):=by
 by_cases x:c
 · rw [if_pos x,if_pos x]; exact h x
 · rw [if_neg x,if_neg x]; exact k x
theorem SR.panic {X:Cx} {P P':Program} {α β:Type} {R:Lk → α → β → Prop} {B:Lk} {v v':Value} (h:VR X B v v'):SR X P P' R B (goPanic v:Sem α) (goPanic v':Sem β) :=
 fun V W hw => ⟨.inr (hush_panic v V),B,W,v',#[],Ext.refl ..,hw,fun es => by simp [goPanic,Sem.runT,-Sem.runT_eq],h,.nil⟩
theorem SR.links {X:Cx} {P P':Program} {α β:Type} {R:Lk → α → β → Prop} {B:Lk} {s:Sem α} {s':Sem β}
   (h:(∀ b b₁ b₂,B b b₁ → B b b₂ → b₁=b₂) → (∀ b₁ b₂ b',B b₁ b' → B b₂ b' → b₁=b₂) → (∀ b b',B b b' → (b < X.N ↔ b' < X.N)) → SR X P P' R B s s'):SR X P P' R B s s' :=
 fun V W hw => h hw.fn hw.inj hw.low V W hw
theorem hush_choose {P:Program} (q:Question) (V:World):Hush P (Go.choose q) V:=fun es e h => by
 unfold Go.choose at h
 simp only [Sem.runT] at h
 split at h <;> exact .inl h
theorem hush_program {P:Program} (V:World):Hush P Go.program V:=fun es e h => .inl (by simpa [Go.program,Sem.runT,-Sem.runT_eq] using h)
theorem hush_mark {P:Program} (m:Mark) (V:World):Hush P (Go.mark m) V:=fun es e h => by
 have h:e ∈ es.push ⟨.mark m,false,true⟩:=by simpa [Go.mark,Sem.runT,-Sem.runT_eq] using h
 rcases Array.mem_push.1 h with h | rfl
 · exact .inl h
 · exact .inr (by intro e; cases e)
theorem hush_new {P:Program} (o:Obj) (V:World):Hush P (Go.newObj o) V:=fun es e h => .inl (by simpa [Go.newObj,Sem.runT,-Sem.runT_eq] using h)
theorem hush_shape {P:Program} (r:Nat) (V:World):Hush P (Go.shape r) V:=fun es e h => .inl (by simpa [Go.shape,Sem.runT,-Sem.runT_eq] using h)
theorem hush_getObj {P:Program} (r:Nat) (V:World):Hush P (Go.getObj r) V:=fun es e h => by
 unfold Go.getObj at h
 simp only [Sem.runT] at h
 split at h
 · exact .inl h
 · rcases Array.mem_push.1 h with h | rfl
   · exact .inl h
   · exact .inr (by intro e; cases e)
 · exact .inl h
theorem hush_setObj {P:Program} (r:Nat) (o:Obj) (V:World):Hush P (Go.setObj r o) V:=fun es e h => by
 unfold Go.setObj at h
 simp only [Sem.runT] at h
 split at h
 · exact .inl h
 · rcases Array.mem_push.1 h with h | rfl
   · exact .inl h
   · exact .inr (by intro e; cases e)
 · exact .inl h
theorem hush_cells {es:Array Event} {l:List Addr} {b c:Bool} {e:Event} (h:e ∈ es ++ l.toArray.map fun a => (⟨.cell a,b,c⟩:Event)):e ∈ es ∨ e.loc ≠ .output:=by
 rcases Array.mem_append.1 h with h | h
 · exact .inl h
 · obtain ⟨a,_,rfl⟩:=Array.mem_map.1 h
   exact .inr (by intro e; cases e)
theorem hush_load {P:Program} (a:Addr) (V:World):Hush P (Go.load a) V:=fun es e h => by
 unfold Go.load at h
 simp only [Sem.runT] at h
 split at h
 · rcases Array.mem_push.1 h with h | rfl
   · exact .inl h
   · exact .inr (by intro e; cases e)
 · split at h
   · exact hush_cells h
   · exact .inl h
theorem hush_store {P:Program} (a:Addr) (v:Value) (V:World):Hush P (Go.store a v) V:=fun es e h => by
 have key:∀ (r:Result Unit × Array Event),(r=(.halt (.stuck "store: not the value of one cell") V,es) ∨ r=(match V.cell? a with
   | some _ =>
     if V.frozen? a then (.halt (.unsupported (.unsafePointer "a write to bytes that a string shares")) V,es)
     else (.ok () (V.setCell a v),(es.push ⟨.cell a,true,false⟩))
   | none => match V.farStore P a v false with
     | .ok (w,touched) => (.ok () w,(es ++ touched.toArray.map (⟨.cell ·,true,false⟩)))
     | .error h => (.halt h V,es))) → e ∈ r.2 → e ∈ es ∨ e.loc ≠ .output:=by
   rintro r (rfl | rfl) h
   · exact .inl h
   · split at h
     · split at h
       · exact .inl h
       · rcases Array.mem_push.1 h with h | rfl
         · exact .inl h
         · exact .inr (by intro e; cases e)
     · split at h
       · exact hush_cells h
       · exact .inl h
 refine key _ ?_ h
 cases v <;> first | exact .inl rfl | exact .inr rfl
section
variable {X:Cx} {P P':Program} {B:Lk}
theorem SR.choose (q:Question):SR X P P' Same B (choose q) (choose q):=by
 intro V W hw
 refine ⟨.inr (hush_choose q V),?_⟩
 by_cases hq:q.forced=true
 · simp only [Go.choose,Sem.run,hq,if_true]
   exact ⟨B,W,0,#[],Ext.refl ..,hw,fun es => by simp [Sem.runT,hq,-Sem.runT_eq],rfl,.nil⟩
 · simp only [Go.choose,Sem.run,hq,if_false,Bool.false_eq_true]
   refine ⟨B,{ W with drawn:=W.drawn + 1 },q.cut (W.tape W.drawn q),#[],⟨Le.refl _,fun _ _ h => .inl h,Nat.le_refl _,Nat.le_refl _,rfl,⟨rfl,rfl⟩,fun _ _ _ => rfl⟩,⟨hw.tape,by simp [hw.drawn],hw.os,hw.output,hw.fn,hw.inj,hw.glob,hw.live,hw.froz,hw.dead,hw.dlt,hw.flt,hw.low,hw.nV,hw.nW⟩,
     fun es => by simp [Sem.runT,hq,-Sem.runT_eq],by simp [Same,hw.tape,hw.drawn],.nil⟩
theorem SR.program:SR X P P' (fun _ p p' => p=P ∧ p'=P') B program program:=by
 intro V W hw
 refine ⟨.inr (hush_program V),?_⟩
 exact ⟨B,W,P',#[],Ext.refl ..,hw,fun es => by simp [Go.program,Sem.runT,-Sem.runT_eq],⟨rfl,rfl⟩,.nil⟩
theorem SR.mark {m:Mark} (h:m=.noRoom ∨ ∃ f,m=.extern f):SR X P P' (fun _ _ _ => True) B (mark m) (mark m):=by
 intro V W hw
 refine ⟨.inr (hush_mark m V),?_⟩
 refine ⟨B,W,(),#[⟨.mark m,false,true⟩],Ext.refl ..,hw,fun es => by simp [Go.mark,Sem.runT,-Sem.runT_eq],trivial,fun e he => ?_⟩
 rw [Array.mem_singleton] at he
 subst he
 exact h
theorem WR.upd {V W:World} (h:WR X B V W) {b b':Nat} (k:B b b') (d:¬ X.D b) (f:¬ X.F b) {o o':Obj} (ho:ObR X B o o') :
   WR X B { V with heap:=V.heap.setIfInBounds b o } { W with heap:=W.heap.setIfInBounds b' o' } ∧ Ext X B V W B { V with heap:=V.heap.setIfInBounds b o } { W with heap:=W.heap.setIfInBounds b' o' }:=by
 have hb:=h.ltV k
 have hb':=h.ltW k
 refine ⟨⟨h.tape,h.drawn,h.os,h.output,h.fn,h.inj,h.glob,fun c c' x dc fc => ?_,fun c c' x dc fc => ?_,fun c c' x dc => ?_,fun c dc => by simpa using h.dlt c dc,fun c dc => by simpa using h.flt c dc,h.low,by simpa using h.nV,by simpa using h.nW⟩,⟨Le.refl _,fun _ _ x => .inl x,by simp,by simp,rfl,⟨rfl,rfl⟩,fun c hc hd => ?_⟩⟩
 · by_cases e:b=c
   · subst e
     obtain rfl:=h.fn b b' c' k x
     exact ⟨o,o',by simp [hb],by simp [hb'],ho⟩
   · have e':b' ≠ c':=fun e' => e (h.inj b c c' (e' ▸ k) x)
     obtain ⟨p,p',h1,h2,h3⟩:=h.live c c' x dc fc
     exact ⟨p,p',by simp [e,h1],by simp [e',h2],h3⟩
 · have e:b ≠ c:=fun e => f (e ▸ fc)
   have e':b' ≠ c':=fun e' => e (h.inj b c c' (e' ▸ k) x)
   obtain ⟨p,p',t,t',g,h1,h2,h3⟩:=h.froz c c' x dc fc
   exact ⟨p,p',t,t',g,by simp [e,h1],by simp [e',h2],h3⟩
 · have e:b ≠ c:=fun e => d (e ▸ dc)
   obtain ⟨⟨t,ht⟩,hl⟩:=h.dead c c' x dc
   exact ⟨⟨t,by simp [e,ht]⟩,by simpa using hl⟩
 · have e:b' ≠ c:=fun e => (hd b (e ▸ k)).elim d f
   simp [e]
theorem SR.getObj {r r':Nat} (k:B r r'):SR X P P' (fun B' o o' => ObR X B' o o') B (getObj r) (getObj r'):=by
 intro V W hw
 refine ⟨.inr (hush_getObj r V),?_⟩
 by_cases d:X.D r
 · obtain ⟨⟨t,ht⟩,_⟩:=hw.dead r r' k d
   simp only [Go.getObj,Sem.run,ht]
   exact resR_halt trivial
 by_cases f:X.F r
 · obtain ⟨c,c',t,t',g,h1,_⟩:=hw.froz r r' k d f
   simp only [Go.getObj,Sem.run,h1]
   exact resR_halt trivial
 · obtain ⟨o,o',h1,h2,h3⟩:=hw.live r r' k d f
   have key:(∃ e,(Go.getObj r).run P V=.halt (.stuck e) V) ∨ ((Go.getObj r).run P V=.ok o V ∧ ∀ es,(Go.getObj r').runT P' W es=(.ok o' W,es ++ #[⟨.obj r',false,o'.isChan⟩])):=by
     cases h3 <;> simp only [Go.getObj,Sem.run,Sem.runT,h1,h2] <;> first
       | exact .inl ⟨_,rfl⟩
       | exact .inr ⟨trivial,fun es => rfl⟩
       | exact .inr ⟨rfl,fun es => rfl⟩
   rcases key with ⟨e,he⟩ | ⟨e1,e2⟩
   · rw [he]
     exact resR_halt trivial
   · rw [e1]
     refine ⟨B,W,o',_,Ext.refl ..,hw,e2,h3,fun e he => ?_⟩
     rw [Array.mem_singleton] at he
     subst he
     exact ⟨r,k,d,f⟩
theorem SR.setObj {r r':Nat} (k:B r r') {o o':Obj} (ho:ObR X B o o'):SR X P P' (fun _ _ _ => True) B (setObj r o) (setObj r' o'):=by
 intro V W hw
 refine ⟨.inr (hush_setObj r o V),?_⟩
 by_cases d:X.D r
 · obtain ⟨⟨t,ht⟩,_⟩:=hw.dead r r' k d
   simp only [Go.setObj,Sem.run,ht]
   exact resR_halt trivial
 by_cases f:X.F r
 · obtain ⟨c,c',t,t',g,h1,_⟩:=hw.froz r r' k d f
   simp only [Go.setObj,Sem.run,h1]
   exact resR_halt trivial
 · obtain ⟨p,p',h1,h2,h3⟩:=hw.live r r' k d f
   obtain ⟨g1,g2⟩:=hw.upd k d f ho
   have ev:EvOk X B ⟨.obj r',true,o'.isChan⟩:=⟨r,k,d,f⟩
   cases h3 <;> simp only [Go.setObj,Sem.run,h1] <;> first
     | exact resR_halt trivial
     | (refine ⟨B,_,(),#[⟨.obj r',true,o'.isChan⟩],g2,g1,fun es => ?_,trivial,?_⟩
        · simp only [Sem.runT,h2]; rfl
        · intro e he
          rw [Array.mem_singleton] at he
          subst he
          exact ev)
theorem SR.newObj {o o':Obj} (ho:ObR X B o o'):SR X P P' (fun B' r r' => B' r r' ∧ ¬ X.D r ∧ X.L r=0) B (newObj o) (newObj o'):=by
 intro V W hw
 refine ⟨.inr (hush_new o V),?_⟩
 simp only [Go.newObj,Sem.run]
 have hD:¬ X.D V.heap.size:=fun x => Nat.lt_irrefl _ (hw.dlt _ x)
 have hF:¬ X.F V.heap.size:=fun x => Nat.lt_irrefl _ (hw.flt _ x)
 have hL:X.L V.heap.size=0:=Decidable.byContradiction fun x => hF (X.lf _ x)
 let B':Lk:=fun b b' => B b b' ∨ (b=V.heap.size ∧ b'=W.heap.size)
 have hle:Le B B':=fun b b' h => .inl h
 refine ⟨B',{ W with heap:=W.heap.push o' },W.heap.size,#[],⟨hle,?_,by simp,by simp,rfl,⟨rfl,rfl⟩,?_⟩,⟨hw.tape,hw.drawn,hw.os,hw.output,?_,?_,fun g hg => .inl (hw.glob g hg),?_,?_,?_,?_,?_,?_,Nat.le_trans hw.nV (by simp),Nat.le_trans hw.nW (by simp)⟩,fun es => by simp [Sem.runT,-Sem.runT_eq],⟨.inr ⟨rfl,rfl⟩,hD,hL⟩,.nil⟩
 · rintro b b' (h | ⟨rfl,rfl⟩)
   · exact .inl h
   · exact .inr ⟨Nat.le_refl _,Nat.le_refl _⟩
 · intro b' hb _
   simp [Array.getElem?_push,Nat.ne_of_lt hb]
 · rintro b b₁ b₂ (h | ⟨rfl,rfl⟩) (k | ⟨e,rfl⟩)
   · exact hw.fn b b₁ b₂ h k
   · exact absurd (hw.ltV h) (by omega)
   · exact absurd (hw.ltV k) (by omega)
   · rfl
 · rintro b₁ b₂ b' (h | ⟨rfl,rfl⟩) (k | ⟨rfl,e⟩)
   · exact hw.inj b₁ b₂ b' h k
   · exact absurd (hw.ltW h) (by omega)
   · exact absurd (hw.ltW k) (by omega)
   · rfl
 · rintro b b' (h | ⟨rfl,rfl⟩) d f
   · obtain ⟨p,p',h1,h2,h3⟩:=hw.live b b' h d f
     exact ⟨p,p',by simp [Array.getElem?_push,Nat.ne_of_lt (hw.ltV h),h1],by simp [Array.getElem?_push,Nat.ne_of_lt (hw.ltW h),h2],h3.mono hle⟩
   · exact ⟨o,o',by simp,by simp,ho.mono hle⟩
 · rintro b b' (h | ⟨rfl,rfl⟩) d f
   · obtain ⟨p,p',t,t',g,h1,h2,h3⟩:=hw.froz b b' h d f
     exact ⟨p,p',t,t',g,by simp [Array.getElem?_push,Nat.ne_of_lt (hw.ltV h),h1],by simp [Array.getElem?_push,Nat.ne_of_lt (hw.ltW h),h2],⟨h3.1.mono hle,h3.2⟩⟩
   · exact absurd f hF
 · rintro b b' (h | ⟨rfl,rfl⟩) d
   · obtain ⟨⟨t,ht⟩,hl⟩:=hw.dead b b' h d
     exact ⟨⟨t,by simp [Array.getElem?_push,Nat.ne_of_lt (hw.ltV h),ht]⟩,by simp; omega⟩
   · exact absurd d hD
 · intro b d
   have:=hw.dlt b d
   simp; omega
 · intro b d
   have:=hw.flt b d
   simp; omega
 · rintro b b' (h | ⟨rfl,rfl⟩)
   · exact hw.low b b' h
   · have:=hw.nV
     have:=hw.nW
     omega
theorem no_cell {w:World} {a:Addr} {what:String} (hp:∀ c t,w.heap[a.block]? ≠ some (.pending c t)):Mute (w.noCell a what):=by
 unfold World.noCell
 split
 · exact absurd ‹_› (hp _ _)
 · trivial
 · trivial
theorem WR.at {V W:World} (hw:WR X B V W) {b b':Nat} (kb:B b b') (d:¬ X.D b) :
   (∃ c c' t t' f f',V.heap[b]?=some (.cells c t f) ∧ W.heap[b']?=some (.cells c' t' f') ∧ PR X B (X.L b) c c' ∧ ((¬ X.F b ∧ f'=f ∧ AR X B c c') ∨ (X.F b ∧ f=(0,c.size))) ∧ TyR X b t t' c.size) ∨
     (¬ X.F b ∧ ∃ o o',V.heap[b]?=some o ∧ W.heap[b']?=some o' ∧ ObR X B o o' ∧ (∀ c t f,o ≠ .cells c t f) ∧ (∀ c t f,o' ≠ .cells c t f) ∧ (∀ c t,o ≠ .pending c t) ∧ (∀ a t,o ≠ .view a t)):=by
 by_cases f:X.F b
 · obtain ⟨c,c',t,t',g,h1,h2,h3,h4⟩:=hw.froz b b' kb d f
   exact .inl ⟨c,c',t,t',_,g,h1,h2,h3,.inr ⟨f,rfl⟩,h4⟩
 · obtain ⟨o,o',h1,h2,h3⟩:=hw.live b b' kb d f
   cases h3 with
   | cells t g ha => exact .inl ⟨_,_,t,t,g,g,h1,h2,ha.part _,.inl ⟨f,rfl,ha⟩,TyR.same (Decidable.byContradiction fun x => f (X.lf _ x))⟩
   | _ => exact .inr ⟨f,_,_,h1,h2,(by first | exact .number _ (by assumption) | (constructor <;> assumption)),(by intro _ _ _ e; cases e),(by intro _ _ _ e; cases e),(by intro _ _ e; cases e),(by intro _ _ e; cases e)⟩
theorem SR.load {a a':Addr} (k:AdR X B a a'):SR X P P' (fun B' v v' => VR X B' v v') B (load a) (load a'):=by
 intro V W hw
 refine ⟨.inr (hush_load a V),?_⟩
 obtain ⟨⟨kb,d⟩,⟨ko,kl⟩,ks⟩:=k
 rcases hw.at kb d with ⟨c,c',t,t',f,f',h1,h2,ha,hf,_⟩ | ⟨hF,o,o',h1,h2,_,hn,_⟩
 · by_cases hs:a.spot.isSome=true
   · have hc:V.cell? a=none:=by simp [World.cell?,h1,hs]
     simp only [Go.load,Sem.run,hc,World.farLoad,h1]
     exact resR_halt (no_cell (by simp [h1]))
   · rcases ha.get a.off kl with ⟨v,v',e1,e2,e3⟩ | e1
     · have hc:V.cell? a=some v:=by simp [World.cell?,h1,hs,e1]
       have hc':W.cell? a'=some v':=by simp [World.cell?,h2,ks,hs,ko,e2]
       simp only [Go.load,Sem.run,hc]
       refine ⟨B,W,v',#[⟨.cell a',false,false⟩],Ext.refl ..,hw,fun es => by simp only [Sem.runT,hc']; rfl,e3,fun e he => ?_⟩
       rw [Array.mem_singleton] at he
       subst he
       exact ⟨⟨_,kb,d,fun e => by cases e⟩,rfl⟩
     · have hc:V.cell? a=none:=by simp [World.cell?,h1,hs,e1]
       simp only [Go.load,Sem.run,hc,World.farLoad,h1]
       exact resR_halt (no_cell (by simp [h1]))
 · have hc:V.cell? a=none:=by
     unfold World.cell?
     rw [h1]
     cases o <;> first | rfl | exact absurd rfl (hn _ _ _)
   have hfl:∀ q,∃ e,V.farLoad P a q=.error e ∧ Mute e:=by
     intro q
     unfold World.farLoad
     rw [h1]
     rename_i hv
     cases o <;> first | exact absurd rfl (hv.2.2 _ _) | exact absurd rfl (hv.2.1 _ _) | exact ⟨_,rfl,no_cell (by simp [h1])⟩
   obtain ⟨e,he,hne⟩:=hfl false
   simp only [Go.load,Sem.run,hc]
   rw [show (Mode.plain == Mode.atomic)=false from rfl,he]
   exact resR_halt hne
theorem setCell_eq {w:World} {a:Addr} {v:Value} {c:Array Value} {t:TypeId} {f:Nat × Nat} (h:w.heap[a.block]?=some (.cells c t f)) (hs:a.spot.isSome=false) :
   w.setCell a v={ w with heap:=w.heap.setIfInBounds a.block (.cells (c.setIfInBounds a.off v) t f) }:=by
 unfold World.setCell
 congr 1
 apply Array.ext_getElem?
 intro i
 rw [Array.getElem?_modify,Array.getElem?_setIfInBounds]
 by_cases e:a.block=i
 · subst e
   obtain ⟨hl,he⟩:=Array.getElem?_eq_some_iff.1 h
   simp [hl,hs,he]
 · simp [e]
theorem run_store_plain {P:Program} {w:World} {a:Addr} {v:Value} (hv:(∀ cs,v ≠ .agg cs) ∧ ∀ cs,v ≠ .tuple cs):(store a v).run P w=match w.cell? a with
   | some _ => if w.frozen? a then .halt (.unsupported (.unsafePointer "a write to bytes that a string shares")) w else .ok () (w.setCell a v)
   | none => match w.farStore P a v false with
     | .ok (w,_) => .ok () w
     | .error h => .halt h w:=by
 cases v <;> first | (simp only [Go.store,Sem.run]; rfl) | exact absurd rfl (hv.1 _) | exact absurd rfl (hv.2 _)
theorem runT_store_plain {P:Program} {w:World} {a:Addr} {v v0:Value} (hv:(∀ cs,v ≠ .agg cs) ∧ ∀ cs,v ≠ .tuple cs) (hc:w.cell? a=some v0) (hf:w.frozen? a=false) (es:Array Event) :
   (store a v).runT P w es=(.ok () (w.setCell a v),es ++ #[⟨.cell a,true,false⟩]):=by
 cases v <;> first | (simp only [Go.store,Sem.runT,hc,hf]; rfl) | exact absurd rfl (hv.1 _) | exact absurd rfl (hv.2 _)
theorem SR.store {a a':Addr} (k:AdR X B a a') {v v':Value} (hv:VR X B v v'):SR X P P' (fun _ _ _ => True) B (store a v) (store a' v'):=by
 intro V W hw
 refine ⟨.inr (hush_store a v V),?_⟩
 obtain ⟨⟨kb,d⟩,⟨ko,kl⟩,ks⟩:=k
 by_cases hp:(∀ cs,v ≠ .agg cs) ∧ ∀ cs,v ≠ .tuple cs
 case neg =>
   have:∃ e,(Go.store a v).run P V=.halt (.stuck e) V:=by
     cases v <;> first | exact ⟨_,rfl⟩ | exact absurd ⟨fun _ e => (by cases e),fun _ e => (by cases e)⟩ hp
   obtain ⟨e,he⟩:=this
   rw [he]
   exact resR_halt trivial
 have hp':(∀ cs,v' ≠ .agg cs) ∧ ∀ cs,v' ≠ .tuple cs:=by
   constructor <;> intro cs e <;> subst e <;> cases hv
   · exact hp.1 _ rfl
   · exact hp.2 _ rfl
 rw [run_store_plain hp]
 rcases hw.at kb d with ⟨c,c',t,t',f,f',h1,h2,ha,hf,hty⟩ | ⟨hF,o,o',h1,h2,_,hn,_,hv1,hv2⟩
 · by_cases hs:a.spot.isSome=true
   · have hc:V.cell? a=none:=by simp [World.cell?,h1,hs]
     simp only [hc,World.farStore,h1]
     exact resR_halt (no_cell (by simp [h1]))
   · rcases ha.get a.off kl with ⟨x,x',e1,e2,e3⟩ | e1
     · have hc:V.cell? a=some x:=by simp [World.cell?,h1,hs,e1]
       have hc':W.cell? a'=some x':=by simp [World.cell?,h2,ks,hs,ko,e2]
       simp only [hc]
       by_cases hz:V.frozen? a=true
       · rw [if_pos hz]
         exact resR_halt trivial
       · rw [if_neg hz]
         rcases hf with ⟨hF,rfl,ha⟩ | ⟨_,rfl⟩
         · obtain rfl:t'=t:=by
             have hL:X.L a.block=0:=Decidable.byContradiction fun x => hF (X.lf _ x)
             rcases hty with ⟨h,_⟩ | ⟨_,e,_⟩
             · exact absurd hL h
             · exact e
           have hfr:W.frozen? a'=V.frozen? a:=by simp [World.frozen?,h1,h2,ko]
           have hs':a'.spot.isSome=false:=by rw [ks]; simpa using hs
           have hs2:a.spot.isSome=false:=by simpa using hs
           obtain ⟨g1,g2⟩:=hw.upd kb d hF (o:=.cells (c.setIfInBounds a.off v) t' f') (o':=.cells (c'.setIfInBounds a.off v') t' f') (.cells t' f' (ha.set _ hv))
           rw [setCell_eq h1 hs2]
           refine ⟨B,W.setCell a' v',(),#[⟨.cell a',true,false⟩],?_,?_,fun es => runT_store_plain hp' hc' (by rw [hfr]; simpa using hz) es,trivial,fun e he => ?_⟩
           · rw [setCell_eq h2 hs',ko]; exact g2
           · rw [setCell_eq h2 hs',ko]; exact g1
           · rw [Array.mem_singleton] at he
             subst he
             exact ⟨⟨_,kb,d,fun _ => hF⟩,rfl⟩
         · exfalso
           apply hz
           have hlt:=(Array.getElem?_eq_some_iff.1 e1).1
           simp [World.frozen?,h1,hlt]
     · have hc:V.cell? a=none:=by simp [World.cell?,h1,hs,e1]
       simp only [hc,World.farStore,h1]
       exact resR_halt (no_cell (by simp [h1]))
 · have hc:V.cell? a=none:=by
     unfold World.cell?
     rw [h1]
     cases o <;> first | rfl | exact absurd rfl (hn _ _ _)
   have hfl:∃ e,V.farStore P a v false=.error e ∧ Mute e:=by
     unfold World.farStore
     rw [h1]
     cases o <;> first | exact absurd rfl (hv2 _ _) | exact absurd rfl (hv1 _ _) | exact ⟨_,rfl,no_cell (by simp [h1])⟩
   obtain ⟨e,he,hne⟩:=hfl
   simp only [hc,he]
   exact resR_halt hne
def ShR (X:Cx) (r:Nat) (s s':Option (TypeId × Nat)):Prop:=(s=none ∧ s'=none) ∨ ∃ t t' n m,s=some (t,n) ∧ s'=some (t',m) ∧ n ≤ m ∧ TyR X r t t' n
theorem ShR.some {X:Cx} {r:Nat} {s s':Option (TypeId × Nat)} (h:ShR X r s s'):s'.isSome=s.isSome:=by
 rcases h with ⟨rfl,rfl⟩ | ⟨t,t',n,m,rfl,rfl,_⟩ <;> rfl
theorem SR.shape {r r':Nat} (kb:B r r') (d:¬ X.D r):SR X P P' (fun _ => ShR X r) B (shape r) (shape r'):=by
 intro V W hw
 refine ⟨.inr (hush_shape r V),?_⟩
 have:ShR X r (V.shape? r) (W.shape? r'):=by
   rcases hw.at kb d with ⟨c,c',t,t',f,f',h1,h2,ha,hf,hm⟩ | ⟨hF,o,o',h1,h2,_,hn,hn',_⟩
   · exact .inr ⟨t,t',_,_,by simp only [World.shape?,h1],by simp only [World.shape?,h2],ha.1,hm⟩
   · unfold World.shape?
     rw [h1,h2]
     cases o <;> cases o' <;> first | exact .inl ⟨rfl,rfl⟩ | exact absurd rfl (hn _ _ _) | exact absurd rfl (hn' _ _ _)
 exact ⟨B,W,W.shape? r',#[],Ext.refl ..,hw,fun es => by simp [Go.shape,Sem.runT,-Sem.runT_eq],this,.nil⟩
end
end Go.Proofs.YthhfljldbfgpcaaGreatDoor.Lr
end
