/- Merged texts: LrG, LrH, LrQ, LrI. -/
import Derived.Test.YthhfljldbfgpcaaGreatDoorT25
import Derived.Test.YthhfljldbfgpcaaGreatDoorT24
set_option linter.all false
section
namespace Go.Proofs.YthhfljldbfgpcaaGreatDoor.Lr
section
variable {X:Cx} {P P':Program} {B:Lk} (hP:PRel X P P')
theorem sr_foldlM {f f':Value → Value → Sem Value} (hf:∀ B v v' w w',VR X B v v' → VR X B w w' → SR X P P' (VRel X) B (f v w) (f' v' w')):∀ {l l':List Value} {B:Lk} {v v':Value},LR X B l l' → VR X B v v' →
   SR X P P' (VRel X) B (l.foldlM f v) (l'.foldlM f' v')
 | [],[],_,_,_,_,h => SR.pure h
 | w :: l,w' :: l',B,v,v',.cons h1 h2,h => by
   simp only [List.foldlM_cons]
   exact SR.bind (hf B v v' w w' h h1) fun B2 l2 a a' ha => sr_foldlM hf (h2.mono l2) ha
theorem sr_max2 {v v' w w':Value} (h:VR X B v v') (k:VR X B w w'):SR X P P' (VRel X) B (Builtin.max2 v w) (Builtin.max2 v' w'):=by
 unfold Builtin.max2
 cases h <;> cases k <;> first
   | exact SR.stuck
   | exact SR.unsupported
   | exact SR.pure (.int _ _)
   | (dsimp only
      split <;> first
        | exact SR.pure (.float _ _)
        | exact SR.bindS (SR.choose _) fun _ _ => SR.pure (.float _ _))
   | (refine SR.bind (SR.stringOp _ _ _) ?_
      rintro B2 l2 a _ ⟨rfl,ha⟩
      refine SR.bind (SR.asBool (ha B2)) ?_
      rintro B3 l3 _ b rfl
      exact SR.pure (.string _))
theorem sr_min2 {v v' w w':Value} (h:VR X B v v') (k:VR X B w w'):SR X P P' (VRel X) B (Builtin.min2 v w) (Builtin.min2 v' w'):=by
 unfold Builtin.min2
 cases h <;> cases k <;> first
   | exact SR.stuck
   | exact SR.unsupported
   | exact SR.pure (.int _ _)
   | (dsimp only
      split <;> first
        | exact SR.pure (.float _ _)
        | exact SR.bindS (SR.choose _) fun _ _ => SR.pure (.float _ _))
   | (refine SR.bind (SR.stringOp _ _ _) ?_
      rintro B2 l2 a _ ⟨rfl,ha⟩
      refine SR.bind (SR.asBool (ha B2)) ?_
      rintro B3 l3 _ b rfl
      exact SR.pure (.string _))
theorem sr_max (ts:Array TypeId) (t:TypeId) {p p':Array Value} (h:AR X B p p'):SR X P P' (VRel X) B (Builtin.max_ ts t p) (Builtin.max_ ts t p'):=by
 unfold Builtin.max_
 have:=h.toList
 generalize p.toList=l at this
 generalize p'.toList=l' at this
 cases this with
 | nil => exact SR.stuck
 | cons h1 h2 => exact sr_foldlM (fun B v v' w w' a b => sr_max2 a b) h2 h1
theorem sr_min (ts:Array TypeId) (t:TypeId) {p p':Array Value} (h:AR X B p p'):SR X P P' (VRel X) B (Builtin.min_ ts t p) (Builtin.min_ ts t p'):=by
 unfold Builtin.min_
 have:=h.toList
 generalize p.toList=l at this
 generalize p'.toList=l' at this
 cases this with
 | nil => exact SR.stuck
 | cons h1 h2 => exact sr_foldlM (fun B v v' w w' a b => sr_min2 a b) h2 h1
theorem AR.ind {p p':Array Value} (h:AR X B p p'):∃ l l',p=l.toArray ∧ p'=l'.toArray ∧ LR X B l l':=⟨p.toList,p'.toList,rfl,rfl,h.toList⟩
theorem sr_real (ts:Array TypeId) (t:TypeId) {p p':Array Value} (h:AR X B p p'):SR X P P' (VRel X) B (Builtin.real_ ts t p) (Builtin.real_ ts t p'):=by
 obtain ⟨l,l',rfl,rfl,hl⟩:=h.ind
 unfold Builtin.real_
 cases hl with
 | nil => exact SR.stuck
 | cons h1 h2 => cases h2 with
   | nil => cases h1 <;> first | exact SR.stuck | exact SR.pure (.float _ _)
   | cons _ _ => cases h1 <;> exact SR.stuck
theorem sr_imag (ts:Array TypeId) (t:TypeId) {p p':Array Value} (h:AR X B p p'):SR X P P' (VRel X) B (Builtin.imag_ ts t p) (Builtin.imag_ ts t p'):=by
 obtain ⟨l,l',rfl,rfl,hl⟩:=h.ind
 unfold Builtin.imag_
 cases hl with
 | nil => exact SR.stuck
 | cons h1 h2 => cases h2 with
   | nil => cases h1 <;> first | exact SR.stuck | exact SR.pure (.float _ _)
   | cons _ _ => cases h1 <;> exact SR.stuck
theorem sr_complex (ts:Array TypeId) (t:TypeId) {p p':Array Value} (h:AR X B p p'):SR X P P' (VRel X) B (Builtin.complex_ ts t p) (Builtin.complex_ ts t p'):=by
 obtain ⟨l,l',rfl,rfl,hl⟩:=h.ind
 unfold Builtin.complex_
 cases hl with
 | nil => exact SR.stuck
 | cons h1 h2 => cases h2 with
   | nil => cases h1 <;> exact SR.stuck
   | cons h3 h4 => cases h4 with
     | nil => cases h1 <;> cases h3 <;> first | exact SR.stuck | exact SR.ite (fun _ => SR.pure (.complex _ _ _)) (fun _ => SR.stuck)
     | cons _ _ => cases h1 <;> cases h3 <;> exact SR.stuck
include hP
theorem sr_close (ts:Array TypeId) (t:TypeId) {p p':Array Value} (h:AR X B p p'):SR X P P' (VRel X) B (Builtin.close_ ts t p) (Builtin.close_ ts t p'):=by
 obtain ⟨l,l',rfl,rfl,hl⟩:=h.ind
 unfold Builtin.close_
 cases hl with
 | nil => exact SR.stuck
 | cons h1 h2 => cases h2 with
   | cons _ _ => cases h1 <;> exact SR.stuck
   | nil =>
     cases h1 <;> first
       | exact SR.stuck
       | exact SR.runtimePanic hP (e:=.plain _) trivial
       | skip
     rename_i r r' hr
     dsimp only
     refine SR.bind (SR.getObj hr) fun B2 l2 o o' ho => ?_
     cases ho <;> first
       | exact SR.stuck
       | skip
     refine SR.ite (fun _ => SR.bind (R:=fun _ _ _ => False) (SR.runtimePanic hP (e:=.plain _) trivial) fun _ _ _ _ h => h.elim) (fun _ => ?_)
     exact SR.bind (SR.setObj (l2 _ _ hr) (.chan _ _ _ _ _ (by assumption))) fun B3 l3 _ _ _ => SR.pure undefR
theorem sr_len (ts:Array TypeId) (t:TypeId) {p p':Array Value} (h:AR X B p p'):SR X P P' (VRel X) B (Builtin.len_ ts t p) (Builtin.len_ ts t p'):=by
 unfold Builtin.len_
 cases ts[0]? with
 | none => exact SR.stuck
 | some xt =>
 rcases h.get 0 with ⟨s,s',e1,e2,hs⟩ | ⟨e1,e2⟩
 case inr => rw [e1,e2]; exact SR.stuck
 rw [e1,e2]
 dsimp only
 refine SR.bind (SR.underlying hP xt) ?_
 rintro B1 l1 d d' ⟨rfl,_⟩
 have hv:=hs.mono l1
 cases d' <;> cases hv <;> first
   | exact SR.stuck
   | exact SR.pure (.int _ _)
   | (dsimp only
      refine SR.bind (SR.underlying hP _) ?_
      rintro B2 l2 d d' ⟨rfl,_⟩
      cases d' <;> first | exact SR.stuck | exact SR.pure (.int _ _))
   | (dsimp only
      refine SR.bind (SR.getObj (by assumption)) fun B2 l2 o o' ho => ?_
      cases ho <;> first
        | exact SR.stuck
        | (rename_i ha; dsimp only; rw [ha.1]; exact SR.pure (.int _ _)))
theorem sr_cap (ts:Array TypeId) (t:TypeId) {p p':Array Value} (h:AR X B p p'):SR X P P' (VRel X) B (Builtin.cap_ ts t p) (Builtin.cap_ ts t p'):=by
 unfold Builtin.cap_
 cases ts[0]? with
 | none => exact SR.stuck
 | some xt =>
 rcases h.get 0 with ⟨s,s',e1,e2,hs⟩ | ⟨e1,e2⟩
 case inr => rw [e1,e2]; exact SR.stuck
 rw [e1,e2]
 dsimp only
 refine SR.bind (SR.underlying hP xt) ?_
 rintro B1 l1 d d' ⟨rfl,_⟩
 have hv:=hs.mono l1
 cases d' <;> cases hv <;> first
   | exact SR.stuck
   | exact SR.pure (.int _ _)
   | (dsimp only
      refine SR.bind (SR.underlying hP _) ?_
      rintro B2 l2 d d' ⟨rfl,_⟩
      cases d' <;> first | exact SR.stuck | exact SR.pure (.int _ _))
   | (dsimp only
      refine SR.bind (SR.getObj (by assumption)) fun B2 l2 o o' ho => ?_
      cases ho <;> first
        | exact SR.stuck
        | exact SR.pure (.int _ _))
omit hP in
theorem sr_numberAt {r r':Nat} (k:B r r') (d:¬ X.D r):SR X P P' (fun B' x x' => (x=none ∧ x'=none) ∨ ∃ a a' l,x=some (a,l) ∧ x'=some (a',l) ∧ AdR X B' a a') B (numberAt r) (numberAt r'):=by
 unfold numberAt
 refine SR.bind (SR.shape k d) ?_
 intro B1 l1 s s' hs
 rw [hs.some]
 refine SR.ite (fun _ => SR.pure (.inl ⟨rfl,rfl⟩)) (fun _ => ?_)
 refine SR.bind (SR.getObj (l1 _ _ k)) fun B2 l2 o o' ho => ?_
 cases ho <;> first
   | exact SR.pure (.inl ⟨rfl,rfl⟩)
   | exact SR.pure (.inr ⟨_,_,_,rfl,rfl,by assumption⟩)
omit hP in
theorem sr_behindNumber {a a':Addr} (h:AdR X B a a'):SR X P P' (fun B' x x' => x'.2=x.2 ∧ AdR X B' x.1 x'.1) B (behindNumber a) (behindNumber a'):=by
 unfold behindNumber
 refine SR.bind (sr_numberAt h.1.1 h.1.2) ?_
 rintro B1 l1 x x' (⟨rfl,rfl⟩ | ⟨b,b',l,rfl,rfl,hb⟩)
 · exact SR.pure ⟨rfl,h.mono l1⟩
 · exact SR.pure ⟨rfl,hb⟩
omit hP in
theorem sr_asNumber {a a':Addr} (h:AdR X B a a') (l:Bool):SR X P P' (VRel X) B (asNumber a l) (asNumber a' l):=by
 unfold asNumber
 exact SR.bind (SR.newObj (.number l h)) fun B1 _ r r' hr => SR.pure (.ptr ⟨⟨hr.1,hr.2.1⟩,⟨rfl,Nat.le_of_eq hr.2.2⟩,rfl⟩)
omit hP in
theorem sr_viewAt {a a':Addr} (h:AdR X B a a'):SR X P P' (fun _ x x' => x=none ∧ x'=none) B (viewAt a.block) (viewAt a'.block):=by
 unfold viewAt
 refine SR.bind (SR.shape h.1.1 h.1.2) ?_
 intro B1 l1 s s' hs
 rw [hs.some]
 refine SR.ite (fun _ => SR.pure ⟨rfl,rfl⟩) (fun _ => ?_)
 refine SR.bind (SR.getObj (l1 _ _ h.1.1)) fun B2 _ o o' ho => ?_
 cases ho <;> exact SR.pure ⟨rfl,rfl⟩
theorem PRel.cellOfByte:∀ (d:Nat) (t:TypeId) (off:Nat),cellOfByte P' d t off=cellOfByte P d t off
 | 0,_,_ => rfl
 | d + 1,t,off => by
   unfold Go.cellOfByte
   rw [hP.underlying]
   simp only [hP.cellsOf,hP.bytesOf,PRel.cellOfByte d]
omit hP in
theorem cellAtBytes_more {p:Program} {d:Nat} {e:TypeId} {c c' off o:Nat} {n:Int} (hc:c ≤ c') (h:Go.cellAtBytes p d e c off n=some o):Go.cellAtBytes p d e c' off n=some o:=by
 unfold Go.cellAtBytes at h ⊢
 dsimp only at h ⊢
 by_cases h0:p.cellsOf e=0 ∨ p.bytesOf e=0
 · rw [if_pos (by simpa using h0)] at h; cases h
 · rw [if_neg (by simpa using h0)] at h ⊢
   cases hb:Go.byteOfCell p d e (off % p.cellsOf e) with
   | none => rw [hb] at h; cases h
   | some here =>
     rw [hb] at h
     simp only [Option.bind_eq_bind,Option.bind_some] at h ⊢
     have hle:c * p.bytesOf e ≤ c' * p.bytesOf e:=Nat.mul_le_mul_right _ hc
     generalize Int.ofNat (off / p.cellsOf e * p.bytesOf e + here) + n=th at h ⊢
     by_cases h1:th < 0 ∨ Int.ofNat (c * p.bytesOf e) ≤ th
     · rw [if_pos (by simpa using h1)] at h; cases h
     · rw [if_neg (by simpa using h1)] at h
       rw [if_neg (by simp at h1 ⊢; omega)]
       exact h
theorem PRel.cellAtBytes (d:Nat) (e:TypeId) (c off:Nat) (n:Int):cellAtBytes P' d e c off n=cellAtBytes P d e c off n:=by
 unfold Go.cellAtBytes
 simp only [hP.cellsOf,hP.bytesOf,hP.cellOfByte,hP.byteOfCell]
theorem sr_unsafeAdd (ts:Array TypeId) (t:TypeId) {x x' y y':Value} (hx:VR X B x x') (hy:VR X B y y'):SR X P P' (VRel X) B (Builtin.unsafeAdd_ ts t #[x,y]) (Builtin.unsafeAdd_ ts t #[x',y']):=by
 unfold Builtin.unsafeAdd_
 have ors:(∃ a a',x=.pointer a ∧ x'=.pointer a' ∧ OptR X B a a') ∨ (∀ a,x ≠ .pointer a):=by
   cases hx <;> first
     | exact .inl ⟨_,_,rfl,rfl,.none⟩
     | exact .inl ⟨_,_,rfl,rfl,.some (by assumption)⟩
     | exact .inr fun _ e => (by cases e)
 rcases ors with ⟨a,a',rfl,rfl,ha⟩ | hn
 case inr => cases x <;> first | exact SR.stuck | exact absurd rfl (hn _)
 dsimp only
 refine SR.bind (SR.asInt hy) ?_
 rintro B1 l1 _ n rfl
 cases ha with
 | none =>
   refine SR.ite (fun _ => SR.unsupported) (fun _ => SR.ite (fun _ => SR.unsupported_bind) (fun _ => SR.unsupported))
 | some ha =>
   have ha1:=ha.mono l1
   refine SR.ite (fun _ => ?_) (fun _ => SR.ite (fun _ => SR.unsupported_bind) (fun hneg => ?_))
   · refine SR.bind (sr_viewAt ha1) ?_
     rintro B2 l2 _ _ ⟨rfl,rfl⟩
     exact SR.pure (.ptr (ha1.mono l2))
   · refine SR.bind (SR.shape ha1.1.1 ha1.1.2) ?_
     rintro B2 l2 s s' (⟨rfl,rfl⟩ | ⟨e,e',c,c',rfl,rfl,hcc,ht⟩)
     · exact SR.unsupported
     · dsimp only
       refine SR.bind SR.program ?_
       rintro B3 l3 p p' ⟨rfl,rfl⟩
       rcases ht with ⟨_,_,hz⟩ | ⟨_,rfl,hm⟩
       · have hno:∀ (d:Nat) (c off:Nat) (n:Int),cellAtBytes p d e c off n=none:=fun d c off n => by
           unfold Go.cellAtBytes Program.cellsOf
           rw [hP.zed e hz]
           rfl
         rw [hno]
         exact SR.unsupported
       rw [hP.cellAtBytes,hP.depth,hP.cellsOf,ha.2.1.1]
       cases hx:cellAtBytes p p.depth _ (c / p.cellsOf _) _ n with
       | none => exact SR.unsupported
       | some off =>
         rw [cellAtBytes_more (Nat.div_le_div_right hcc) hx]
         refine SR.pure (.ptr ⟨((ha1.mono l2).mono l3).1,⟨rfl,?_⟩,ha.2.2⟩)
         rcases hm with hm | hm
         · rw [hm]; exact Nat.zero_le _
         · exact hP.mono _ _ _ hm _ _ _ ha.2.1.2 (by omega) hx
end
end Go.Proofs.YthhfljldbfgpcaaGreatDoor.Lr
end

section
namespace Go.Proofs.YthhfljldbfgpcaaGreatDoor.Lr
def SimT (P:Program):Nat → TypeId → Bool
 | 0,_ => false
 | k + 1,t => match P.underlying t with
   | some .bool | some (.int _) | some (.float _) | some (.complex _) | some .string => true
   | some (.array _ e) => SimT P k e
   | some (.struct fs) => fs.all fun f => SimT P k f.type
   | _ => false
section
variable {X:Cx} {P P':Program} {B:Lk} (hP:PRel X P P')
theorem sr_forIn {ι σ τ:Type} {R:Lk → σ → τ → Prop} (mono:∀ B B' a b,Le B B' → R B a b → R B' a b) {f:ι → σ → Sem (ForInStep σ)} {f':ι → τ → Sem (ForInStep τ)}:∀ (l:List ι)
   (_:∀ x ∈ l,∀ B a b,R B a b → SR X P P' (fun B' r r' => (∃ a b,r=.done a ∧ r'=.done b ∧ R B' a b) ∨ ∃ a b,r=.yield a ∧ r'=.yield b ∧ R B' a b) B (f x a) (f' x b)) {B:Lk} {a:σ} {b:τ} (_:R B a b),
   SR X P P' R B (forIn l a f) (forIn l b f')
 | [],_,_,_,_,h => by simp only [List.forIn_nil]; exact SR.pure h
 | x :: l,hf,B,a,b,h => by
   simp only [List.forIn_cons]
   refine SR.bind (hf x (by simp) B a b h) ?_
   rintro B1 l1 r r' (⟨c,d,rfl,rfl,hc⟩ | ⟨c,d,rfl,rfl,hc⟩)
   · exact SR.pure hc
   · exact sr_forIn mono l (fun y hy => hf y (by simp [hy])) hc
theorem AdR.beq {B:Lk} (hfn:∀ b b₁ b₂,B b b₁ → B b b₂ → b₁=b₂) (hinj:∀ b₁ b₂ b',B b₁ b' → B b₂ b' → b₁=b₂) {a a' b b':Addr} (h:AdR X B a a') (k:AdR X B b b') :
   (a'.block == b'.block)=(a.block == b.block) ∧ (a' == b')=(a == b):=by
 have e:a'.block=b'.block ↔ a.block=b.block:=⟨fun e => hinj _ _ _ h.1.1 (e ▸ k.1.1),fun e => hfn _ _ _ h.1.1 (e ▸ k.1.1)⟩
 obtain ⟨ab,ao,az⟩:=a
 obtain ⟨bb,bo,bs⟩:=b
 obtain ⟨ab',ao',az'⟩:=a'
 obtain ⟨bb',bo',bs'⟩:=b'
 obtain ⟨_,⟨rfl,_⟩,rfl⟩:=h
 obtain ⟨_,⟨rfl,_⟩,rfl⟩:=k
 dsimp only at e ⊢
 constructor
 · rw [Bool.eq_iff_iff]; simpa using e
 · rw [Bool.eq_iff_iff]; simp [e]
include hP in
theorem sr_eqPtr (t:TypeId) {B:Lk} {a a' b b':Addr} (ha:AdR X B a a') (hb:AdR X B b b'):SR X P P' Same B
   (behindNumber a >>= fun x => behindNumber b >>= fun y => match (x.1,y.1) with
     | (a,b) => Go.program >>= fun p => if (a.block == b.block && decide (a.block < p.globals.size))=true then byteOf a >>= fun m => byteOf b >>= fun n => Pure.pure (m == n)
       else Go.typeInfo t >>= fun i => match i.desc with
         | .named "sync.copyChecker" _ => if (a == b)=true then Pure.pure true else Go.unsupported .addressObserved
         | _ => Go.unsupported .addressObserved)
   (behindNumber a' >>= fun x => behindNumber b' >>= fun y => match (x.1,y.1) with
     | (a,b) => Go.program >>= fun p => if (a.block == b.block && decide (a.block < p.globals.size))=true then byteOf a >>= fun m => byteOf b >>= fun n => Pure.pure (m == n)
       else Go.typeInfo t >>= fun i => match i.desc with
         | .named "sync.copyChecker" _ => if (a == b)=true then Pure.pure true else Go.unsupported .addressObserved
         | _ => Go.unsupported .addressObserved):=by
 refine SR.bind (sr_behindNumber ha) ?_
 rintro B1 l1 ⟨c,q⟩ ⟨c',q'⟩ ⟨_,hc⟩
 refine SR.bind (sr_behindNumber (hb.mono l1)) ?_
 rintro B2 l2 ⟨d,r⟩ ⟨d',r'⟩ ⟨_,hd⟩
 dsimp only at hc hd ⊢
 have hc:=hc.mono l2
 refine SR.bind SR.program ?_
 rintro B3 l3 p p' ⟨rfl,rfl⟩
 refine SR.links fun hfn hinj hlow => ?_
 have hc:=hc.mono l3
 have hd:=hd.mono l3
 obtain ⟨e1,e2⟩:=AdR.beq hfn hinj hc hd
 rw [e1,show p'.globals=p.globals by rw [hP.tab]]
 have hg:(decide (c'.block < p.globals.size))=decide (c.block < p.globals.size):=by
   rw [← hP.nG]
   exact decide_eq_decide.2 (hlow _ _ hc.1.1).symm
 rw [hg]
 refine SR.ite (fun hcond => ?_) (fun _ => ?_)
 · have hcond:c.block=d.block ∧ c.block < p.globals.size:=by simpa using hcond
   have hcN:c.block < X.N:=by rw [hP.nG]; exact hcond.2
   refine SR.bind (sr_byteOf hP hc (.inr hcN)) ?_
   rintro B4 l4 _ m rfl
   refine SR.bind (sr_byteOf hP (hd.mono l4) (.inr (by rw [← hcond.1]; exact hcN))) ?_
   rintro B5 l5 _ n rfl
   exact SR.pure rfl
 · refine SR.bind (SR.typeInfo hP t) ?_
   rintro B4 l4 _ i ⟨rfl,_⟩
   rw [e2]
   split
   · exact SR.ite (fun _ => SR.pure rfl) (fun _ => SR.unsupported)
   · exact SR.unsupported
def Rst (B:Lk) (B':Lk) (a b:Option Bool × Unit):Prop:=b=a ∧ Le B B'
include hP
set_option maxHeartbeats 2000000 in
theorem sr_eqInt (d:Nat) (t:TypeId) {ik:IntKind} (ht:P.underlying t=some (.int ik)) {x x' y y':Value} (hx:VR X B x x') (hy:VR X B y y'):SR X P P' Same B (Op.equalIn (d + 1) t x y) (Op.equalIn (d + 1) t x' y'):=by
 unfold Op.equalIn
 refine SR.bind (SR.underlying hP t) ?_
 rintro B1 l1 _ td ⟨rfl,hd⟩
 cases ht.symm.trans hd
 have hx:=hx.mono l1
 have hy:=hy.mono l1
 cases hx <;> cases hy <;> first
   | exact SR.stuck
   | exact SR.unsupported
   | exact SR.ite (fun _ => SR.pure rfl) (fun _ => SR.stuck)
   | (rename_i n _ _ _
      match n with
      | 0 => first | exact SR.pure rfl | exact SR.unsupported
      | Int.ofNat (m + 1) => exact SR.unsupported
      | Int.negSucc m => exact SR.unsupported)
   | (rename_i n
      match n with
      | 0 => first | exact SR.pure rfl | exact SR.unsupported
      | Int.ofNat (m + 1) => exact SR.unsupported
      | Int.negSucc m => exact SR.unsupported)
   | exact sr_eqPtr hP t (by assumption) (by assumption)
set_option maxHeartbeats 2000000 in
theorem sr_eqFlat (d:Nat) (t:TypeId) {td:TypeDesc} (ht:P.underlying t=some td) (hf:td=.bool ∨ (∃ k,td=.float k) ∨ (∃ k,td=.complex k) ∨ td=.string) {x x' y y':Value} (hx:VR X B x x') (hy:VR X B y y') :
   SR X P P' Same B (Op.equalIn (d + 1) t x y) (Op.equalIn (d + 1) t x' y'):=by
 unfold Op.equalIn
 refine SR.bind (SR.underlying hP t) ?_
 rintro B1 l1 _ td2 ⟨rfl,hd⟩
 cases ht.symm.trans hd
 have hx:=hx.mono l1
 have hy:=hy.mono l1
 rcases hf with rfl | ⟨k,rfl⟩ | ⟨k,rfl⟩ | rfl <;> cases hx <;> cases hy <;> first
   | exact SR.stuck
   | exact SR.pure rfl
   | exact SR.ite (fun _ => SR.pure rfl) (fun _ => SR.stuck)
theorem PRel.alikeButTags:∀ (n:Nat) (t u:TypeId),P'.alikeButTags n t u=P.alikeButTags n t u
 | 0,_,_ => rfl
 | n + 1,t,u => by
   unfold Program.alikeButTags
   rw [hP.tab]
   simp only [PRel.alikeButTags n]
theorem PRel.stoodInHeld (t:TypeId):P'.stoodInHeld t=P.stoodInHeld t:=by
 unfold Program.stoodInHeld Program.stoodInAs
 rw [hP.underlying,show P'.depth=P.depth by unfold Program.depth; rw [hP.tab],show P'.underlyingId=P.underlyingId by funext t; unfold Program.underlyingId; rw [hP.tab],hP.tab]
 simp only [hP.alikeButTags]
theorem sr_equalIn:∀ (k d:Nat) (t:TypeId) {B:Lk} {x x' y y':Value},SimT P k t=true → VR X B x x' → VR X B y y' → SR X P P' Same B (Op.equalIn d t x y) (Op.equalIn d t x' y'):=by
 intro k
 induction k with
 | zero => intro d t B x x' y y' h; simp [SimT] at h
 | succ k ih =>
   intro d t B x x' y y' h hx hy
   cases d with
   | zero => exact SR.unsupported
   | succ d =>
   unfold SimT at h
   cases hd:P.underlying t with
   | none => rw [hd] at h; simp at h
   | some td =>
   rw [hd] at h
   cases td <;> simp only [Bool.false_eq_true] at h
   case bool => exact sr_eqFlat hP d t hd (.inl rfl) hx hy
   case int ik => exact sr_eqInt hP d t hd hx hy
   case float k => exact sr_eqFlat hP d t hd (.inr (.inl ⟨_,rfl⟩)) hx hy
   case complex k => exact sr_eqFlat hP d t hd (.inr (.inr (.inl ⟨_,rfl⟩))) hx hy
   case string => exact sr_eqFlat hP d t hd (.inr (.inr (.inr rfl))) hx hy
   case struct fs =>
     rw [Array.all_eq_true_iff_forall_mem] at h
     unfold Op.equalIn
     refine SR.bind (SR.underlying hP t) ?_
     rintro B1 l1 _ td2 ⟨rfl,hd2⟩
     cases hd.symm.trans hd2
     have hx:=hx.mono l1
     have hy:=hy.mono l1
     cases hx <;> cases hy <;> first
       | exact SR.stuck
       | skip
     rename_i p p' h1 h2 q q' h3 h4
     have ha:AR X B1 p p':=⟨h1,h2⟩
     have hb:AR X B1 q q':=⟨h3,h4⟩
     dsimp only
     refine SR.bind SR.program ?_
     rintro B2 l2 _ _ ⟨rfl,rfl⟩
     rw [hP.stoodInHeld]
     refine SR.ite (fun _ => SR.unsupported_bind) (fun _ => ?_)
     rw [← Array.forIn_toList,← Array.forIn_toList]
     refine SR.bind (R:=Rst B1) (sr_forIn (fun B B' a b l (hr:Rst B1 B a b) => ⟨hr.1,hr.2.trans l⟩) _ ?_ (show Rst B1 B2 _ _ from ⟨rfl,l2⟩)) ?_
     · rintro f hf B3 a _ ⟨rfl,l3⟩
       have hf:=h f (Array.mem_toList_iff.1 hf)
       refine SR.ite (fun _ => ?_) (fun _ => SR.pure (.inr ⟨_,_,rfl,rfl,rfl,l3⟩))
       refine SR.bind (SR.part hP f.type (ha.mono l3) _) fun B4 l4 v v' hv => ?_
       refine SR.bind (SR.part hP f.type ((hb.mono l3).mono l4) _) fun B5 l5 w w' hw => ?_
       refine SR.bind (ih d f.type hf (hv.mono l5) hw) ?_
       rintro B6 l6 _ r rfl
       have lx:=l3.trans (l4.trans (l5.trans l6))
       exact SR.ite (fun _ => SR.pure (.inl ⟨_,_,rfl,rfl,rfl,lx⟩)) (fun _ => SR.pure (.inr ⟨_,_,rfl,rfl,rfl,lx⟩))
     · rintro B3 l3 ⟨a,u⟩ _ ⟨rfl,_⟩
       cases a <;> exact SR.pure rfl
   case array n e =>
     unfold Op.equalIn
     refine SR.bind (SR.underlying hP t) ?_
     rintro B1 l1 _ td2 ⟨rfl,hd2⟩
     cases hd.symm.trans hd2
     have hx:=hx.mono l1
     have hy:=hy.mono l1
     cases hx <;> cases hy <;> first
       | exact SR.stuck
       | skip
     rename_i p p' h1 h2 q q' h3 h4
     have ha:AR X B1 p p':=⟨h1,h2⟩
     have hb:AR X B1 q q':=⟨h3,h4⟩
     dsimp only
     refine SR.bind (SR.sizeOf hP e) ?_
     rintro B2 l2 _ m rfl
     rw [Std.Legacy.Range.forIn_eq_forIn_range',Std.Legacy.Range.forIn_eq_forIn_range']
     refine SR.bind (R:=Rst B1) (sr_forIn (fun B B' a b l (hr:Rst B1 B a b) => ⟨hr.1,hr.2.trans l⟩) _ ?_ (show Rst B1 B2 _ _ from ⟨rfl,l2⟩)) ?_
     · rintro i _ B3 a _ ⟨rfl,l3⟩
       refine SR.bind (SR.part hP e (ha.mono l3) _) fun B4 l4 v v' hv => ?_
       refine SR.bind (SR.part hP e ((hb.mono l3).mono l4) _) fun B5 l5 w w' hw => ?_
       refine SR.bind (ih d e h (hv.mono l5) hw) ?_
       rintro B6 l6 _ r rfl
       have lx:=l3.trans (l4.trans (l5.trans l6))
       exact SR.ite (fun _ => SR.pure (.inl ⟨_,_,rfl,rfl,rfl,lx⟩)) (fun _ => SR.pure (.inr ⟨_,_,rfl,rfl,rfl,lx⟩))
     · rintro B3 l3 ⟨a,u⟩ _ ⟨rfl,_⟩
       cases a <;> exact SR.pure rfl
end
end Go.Proofs.YthhfljldbfgpcaaGreatDoor.Lr
end

section
namespace Go.Proofs.YthhfljldbfgpcaaGreatDoor.Lr
section
variable {X:Cx} {P P':Program} {B:Lk}
theorem SR.pureS {α:Type} (a:α):SR X P P' Same B (Pure.pure a) (Pure.pure a):=SR.pure rfl
theorem SR.corrected (s a b c d:Nat):SR X P P' Same B (Op.Complex.corrected s a b c d) (Op.Complex.corrected s a b c d):=by
 unfold Op.Complex.corrected Op.Complex.sub Op.Complex.mul Op.Complex.add
 repeat' (first | with_reducible refine SR.bindS (SR.carith _ _ _ _) fun _ _ => ?_ | with_reducible exact SR.pureS _)
set_option maxHeartbeats 2000000 in
theorem SR.quotient (a b c d:Nat):SR X P P' Same B (Op.Complex.quotient a b c d) (Op.Complex.quotient a b c d):=by
 unfold Op.Complex.quotient Op.Complex.sub Op.Complex.mul Op.Complex.add Op.Complex.quo
 dsimp only
 repeat' (first
   | with_reducible refine SR.ite (fun _ => ?_) (fun _ => ?_)
   | with_reducible refine SR.bindS (SR.carith _ _ _ _) fun _ _ => ?_
   | with_reducible refine SR.bindS (SR.ccmp _ _ _ _) fun _ _ => ?_
   | with_reducible refine SR.bindS (SR.pureS _) fun _ _ => ?_
   | with_reducible exact SR.corrected _ _ _ _ _
   | with_reducible exact SR.pureS _)
end
end Go.Proofs.YthhfljldbfgpcaaGreatDoor.Lr
end

section
namespace Go.Proofs.YthhfljldbfgpcaaGreatDoor.Lr
section
variable {X:Cx} {P P':Program} {B:Lk} (hP:PRel X P P')
theorem SR.complexOp' (op:BinOp) (k:FloatKind) (a b c d:Nat):SR X P P' (VRel X) B (Op.complexOp op k a b c d) (Op.complexOp op k a b c d):=by
 by_cases hq:op=.quo
 · subst hq
   unfold Op.complexOp
   dsimp only
   refine SR.bindS (SR.cconv _ _ _) fun _ _ => SR.bindS (SR.cconv _ _ _) fun _ _ => SR.bindS (SR.cconv _ _ _) fun _ _ => SR.bindS (SR.cconv _ _ _) fun _ _ => ?_
   refine SR.ite (fun h => by cases h) (fun _ => ?_)
   exact SR.bindS (SR.quotient _ _ _ _) fun _ _ => SR.bindS (SR.cconv _ _ _) fun _ _ => SR.bindS (SR.cconv _ _ _) fun _ _ => SR.pure (.complex _ _ _)
 · exact SR.complexOp op hq k a b c d
include hP
theorem sr_eqGuardIn:∀ (k d:Nat) (t:TypeId) {B:Lk} {x x' y y':Value},SimT P k t=true → VR X B x x' → VR X B y y' → SR X P P' Same B (Op.eqGuardIn d t x y) (Op.eqGuardIn d t x' y'):=by
 intro k
 induction k with
 | zero => intro d t B x x' y y' h; simp [SimT] at h
 | succ k ih =>
   intro d t B x x' y y' h hx hy
   cases d with
   | zero => exact SR.unsupported
   | succ d =>
   unfold SimT at h
   unfold Op.eqGuardIn
   refine SR.bind (SR.underlying hP t) ?_
   rintro B1 l1 _ td ⟨rfl,hd⟩
   rw [hd] at h
   have hx:=hx.mono l1
   have hy:=hy.mono l1
   cases td <;> simp only [Bool.false_eq_true] at h
   case struct fs =>
     rw [Array.all_eq_true_iff_forall_mem] at h
     cases hx <;> cases hy <;> first
       | exact SR.pure rfl
       | skip
     rename_i p p' h1 h2 q q' h3 h4
     have ha:AR X B1 p p':=⟨h1,h2⟩
     have hb:AR X B1 q q':=⟨h3,h4⟩
     dsimp only
     rw [← Array.forIn_toList,← Array.forIn_toList]
     refine SR.bind (R:=Rst B1) (sr_forIn (fun B B' a b l (hr:Rst B1 B a b) => ⟨hr.1,hr.2.trans l⟩) _ ?_ (show Rst B1 B1 _ _ from ⟨rfl,Le.refl _⟩)) ?_
     · rintro f hf B3 a _ ⟨rfl,l3⟩
       have hf:=h f (Array.mem_toList_iff.1 hf)
       refine SR.ite (fun _ => ?_) (fun _ => SR.pure (.inr ⟨_,_,rfl,rfl,rfl,l3⟩))
       refine SR.bind (SR.part hP f.type (ha.mono l3) _) fun B4 l4 v v' hv => ?_
       refine SR.bind (SR.part hP f.type ((hb.mono l3).mono l4) _) fun B5 l5 w w' hw => ?_
       refine SR.bind (ih d f.type hf (hv.mono l5) hw) ?_
       rintro B6 l6 _ r rfl
       have lx:=l3.trans (l4.trans (l5.trans l6))
       exact SR.ite (fun _ => SR.pure (.inl ⟨_,_,rfl,rfl,rfl,lx⟩)) (fun _ => SR.pure (.inr ⟨_,_,rfl,rfl,rfl,lx⟩))
     · rintro B3 l3 ⟨a,u⟩ _ ⟨rfl,_⟩
       cases a <;> exact SR.pure rfl
   case array n e =>
     cases hx <;> cases hy <;> first
       | exact SR.pure rfl
       | skip
     rename_i p p' h1 h2 q q' h3 h4
     have ha:AR X B1 p p':=⟨h1,h2⟩
     have hb:AR X B1 q q':=⟨h3,h4⟩
     dsimp only
     refine SR.bind (SR.sizeOf hP e) ?_
     rintro B2 l2 _ m rfl
     rw [Std.Legacy.Range.forIn_eq_forIn_range',Std.Legacy.Range.forIn_eq_forIn_range']
     refine SR.bind (R:=Rst B1) (sr_forIn (fun B B' a b l (hr:Rst B1 B a b) => ⟨hr.1,hr.2.trans l⟩) _ ?_ (show Rst B1 B2 _ _ from ⟨rfl,l2⟩)) ?_
     · rintro i _ B3 a _ ⟨rfl,l3⟩
       refine SR.bind (SR.part hP e (ha.mono l3) _) fun B4 l4 v v' hv => ?_
       refine SR.bind (SR.part hP e ((hb.mono l3).mono l4) _) fun B5 l5 w w' hw => ?_
       refine SR.bind (ih d e h (hv.mono l5) hw) ?_
       rintro B6 l6 _ r rfl
       have lx:=l3.trans (l4.trans (l5.trans l6))
       exact SR.ite (fun _ => SR.pure (.inl ⟨_,_,rfl,rfl,rfl,lx⟩)) (fun _ => SR.pure (.inr ⟨_,_,rfl,rfl,rfl,lx⟩))
     · rintro B3 l3 ⟨a,u⟩ _ ⟨rfl,_⟩
       cases a <;> exact SR.pure rfl
   all_goals exact SR.pure rfl
theorem PRel.eqGuardType:∀ (d:Nat) (t:TypeId),P'.eqGuardType d t=P.eqGuardType d t
 | 0,_ => rfl
 | d + 1,t => by
   unfold Program.eqGuardType
   rw [hP.underlying]
   simp only [PRel.eqGuardType d]
theorem sr_eqGuard (op:BinOp) (t:TypeId) (k:Nat) (ht:op=.eql ∨ op=.neq → SimT P k t=true) (o o2:Operand) {x x' y y':Value} (hx:VR X B x x') (hy:VR X B y y'):SR X P P' Triv B (eqGuard op t o o2 x y) (eqGuard op t o o2 x' y'):=by
 unfold eqGuard
 have inn:∀ {B2:Lk},Le B B2 → SimT P k t=true → ∀ (u:Unsupported) (_:Mute (.unsupported u)),SR X P P' Triv B2 (Op.eqGuardIn Op.maxDepth t x y >>= fun q => if q=true then (Go.unsupported u:Sem Unit) else Pure.pure ()) (Op.eqGuardIn Op.maxDepth t x' y' >>= fun q => if q=true then (Go.unsupported u:Sem Unit) else Pure.pure ()):=by
   intro B2 l2 ht u hu
   refine SR.bind (sr_eqGuardIn hP k Op.maxDepth t ht (hx.mono l2) (hy.mono l2)) ?_
   rintro B3 l3 _ q rfl
   exact SR.ite (fun _ => SR.unsupported hu) (fun _ => SR.pure trivial)
 by_cases hop:op=.eql ∨ op=.neq
 · have ht:=ht hop
   refine SR.ite (fun _ => SR.pure trivial) (fun _ => ?_)
   by_cases hn:x=.nilIface ∧ y=.nilIface
   · obtain ⟨rfl,rfl⟩:=hn
     cases hx
     cases hy
     dsimp only
     exact SR.ite (fun _ => SR.pure trivial) (fun _ => inn (Le.refl _) ht _ trivial)
   · by_cases ha:(∃ p,x=.agg p) ∧ ∃ q,y=.agg q
     · obtain ⟨⟨p,rfl⟩,⟨q,rfl⟩⟩:=ha
       cases hx
       cases hy
       dsimp only
       refine SR.bind SR.program ?_
       rintro B1 l1 p1 p2 ⟨rfl,rfl⟩
       refine SR.bind SR.program ?_
       rintro B2 l2 p3 p4 ⟨rfl,rfl⟩
       rw [hP.eqGuardType,hP.depth]
       exact SR.ite (fun _ => SR.pure trivial) (fun _ => inn (l1.trans l2) ht _ trivial)
     · have e1:∀ {α:Type} (f g:Sem α) (h:Sem α),(match x,y with | .nilIface,.nilIface => f | .agg _,.agg _ => g | _,_ => h)=h:=by
         intro α f g h
         cases x <;> cases y <;> first | rfl | exact absurd ⟨rfl,rfl⟩ hn | exact absurd ⟨⟨_,rfl⟩,⟨_,rfl⟩⟩ ha
       cases hx <;> cases hy <;> first
         | exact SR.pure trivial
         | exact absurd ⟨rfl,rfl⟩ hn
         | exact absurd ⟨⟨_,rfl⟩,⟨_,rfl⟩⟩ ha
 · have:(match op with | .eql => true | .neq => true | _ => false)=false:=by
     cases op <;> first | rfl | exact absurd (.inl rfl) hop | exact absurd (.inr rfl) hop
   cases op <;> first
     | exact absurd (.inl rfl) hop
     | exact absurd (.inr rfl) hop
     | exact SR.pure trivial
theorem sr_movedNumber (t:TypeId) {x x' y y':Value} (hx:VR X B x x') (hy:VR X B y y'):SR X P P' (VRel X) B (movedNumber t x y) (movedNumber t x' y'):=by
 unfold movedNumber
 refine SR.bind (SR.underlying hP t) ?_
 rintro B1 l1 _ td ⟨rfl,_⟩
 refine SR.ite (fun _ => SR.unsupported_bind) (fun _ => ?_)
 have hx:=hx.mono l1
 have hy:=hy.mono l1
 by_cases hp:∃ n,x=.pointer (some n)
 · obtain ⟨n,rfl⟩:=hp
   cases hx
   rename_i n' hn
   dsimp only
   refine SR.bind (sr_behindNumber hn) ?_
   rintro B2 l2 ⟨a,l⟩ ⟨a',_⟩ ⟨h1,ha⟩
   cases h1
   dsimp only at ha ⊢
   refine SR.bind (sr_unsafeAdd hP #[] t (.ptr ha) (hy.mono l2)) fun B3 l3 v v' hv => ?_
   cases hv <;> first
     | exact sr_asNumber (by assumption) _
     | (refine SR.pure ?_; constructor <;> assumption)
 · cases hx <;> first
     | exact absurd ⟨_,rfl⟩ hp
     | (refine sr_unsafeAdd hP #[] t ?_ hy; constructor <;> assumption)
theorem sr_movedPointer (t:TypeId) {x x' y y':Value} (hx:VR X B x x') (hy:VR X B y y'):SR X P P' (VRel X) B (movedPointer t x y) (movedPointer t x' y'):=by
 unfold movedPointer
 by_cases hp:∃ n,x=.pointer (some n)
 · obtain ⟨n,rfl⟩:=hp
   cases hx
   rename_i n' hn
   dsimp only
   refine SR.bind (sr_numberAt hn.1.1 hn.1.2) ?_
   rintro B1 l1 a a' (⟨rfl,rfl⟩ | ⟨b,b',l,rfl,rfl,hb⟩)
   · exact SR.ite (fun _ => SR.unsupported_bind) (fun _ => sr_unsafeAdd hP #[] t (.ptr (hn.mono l1)) (hy.mono l1))
   · exact SR.ite (fun _ => SR.unsupported_bind) (fun _ => sr_unsafeAdd hP #[] t (.ptr (hn.mono l1)) (hy.mono l1))
 · cases hx <;> first
     | exact absurd ⟨_,rfl⟩ hp
     | (refine sr_unsafeAdd hP #[] t ?_ hy; constructor <;> assumption)
theorem sr_twoPlaces {a a' b b':Addr} (ha:AdR X B a a') (hb:AdR X B b b'):SR X P P' Same B (Op.twoPlaces a b) (Op.twoPlaces a' b'):=by
 unfold Op.twoPlaces
 refine SR.bind SR.program ?_
 rintro B1 l1 p p' ⟨rfl,rfl⟩
 refine SR.links fun hfn hinj hlow => ?_
 have ha:=ha.mono l1
 have hb:=hb.mono l1
 have e:(a'.block != b'.block)=(a.block != b.block):=by
   unfold bne
   rw [(AdR.beq hfn hinj ha hb).1]
 rw [e,show p'.globals=p.globals by rw [hP.tab]]
 have hg:(decide (a'.block ≥ p.globals.size))=decide (a.block ≥ p.globals.size):=by
   rw [← hP.nG]
   have:=hlow _ _ ha.1.1
   exact decide_eq_decide.2 (by omega)
 rw [hg]
 refine SR.ite (fun _ => SR.unsupported_bind) (fun hcond => ?_)
 have hcond:a.block=b.block ∧ a.block < p.globals.size:=by simpa using hcond
 have hcN:a.block < X.N:=by rw [hP.nG]; exact hcond.2
 refine SR.bind (sr_byteOf hP ha (.inr hcN)) ?_
 rintro B2 l2 _ m rfl
 refine SR.bind (sr_byteOf hP (hb.mono l2) (.inr (by rw [← hcond.1]; exact hcN))) ?_
 rintro B3 l3 _ n rfl
 exact SR.pure rfl
theorem sr_addrSub (k:IntKind) {a a' b b':Addr} (ha:AdR X B a a') (hb:AdR X B b b'):SR X P P' (VRel X) B (Op.addrSub k a b) (Op.addrSub k a' b'):=by
 unfold Op.addrSub
 refine SR.bind (sr_twoPlaces hP ha hb) ?_
 rintro B1 l1 _ m rfl
 exact SR.pure (.int _ _)
theorem sr_addrCmp (op:BinOp) {a a' b b':Addr} (ha:AdR X B a a') (hb:AdR X B b b'):SR X P P' (VRel X) B (Op.addrCmp op a b) (Op.addrCmp op a' b'):=by
 unfold Op.addrCmp
 refine SR.bind (sr_twoPlaces hP ha hb) ?_
 rintro B1 l1 _ m rfl
 cases op <;> first | exact SR.unsupported | exact SR.pure (.bool _)
theorem sr_addrMod (k:IntKind) {a a':Addr} (ha:AdR X B a a') (n:Int):SR X P P' (VRel X) B (Op.addrMod k a n) (Op.addrMod k a' n):=by
 unfold Op.addrMod
 refine SR.bind (SR.shape ha.1.1 ha.1.2) ?_
 rintro B1 l1 s s' (⟨rfl,rfl⟩ | ⟨e,e',c,c',rfl,rfl,_,ht⟩)
 · exact SR.unsupported
 · dsimp only
   rcases ht with ⟨_,_,hz⟩ | ⟨hzz,rfl,_⟩
   · refine SR.bind (R:=fun _ _ _ => False) ?_ (fun _ _ _ _ h => h.elim)
     unfold Go.typeInfo
     refine SR.bind SR.program ?_
     rintro B3 l3 p p' ⟨rfl,rfl⟩
     rw [hP.zed e hz]
     exact SR.stuck
   refine SR.bind (SR.typeInfo hP _) ?_
   rintro B2 l2 _ i ⟨rfl,_⟩
   refine SR.ite (fun _ => SR.unsupported_bind) (fun _ => ?_)
   refine SR.bind (sr_byteOf hP ((ha.mono l1).mono l2) hzz) ?_
   rintro B3 l3 _ m rfl
   exact SR.pure (.int _ _)
end
end Go.Proofs.YthhfljldbfgpcaaGreatDoor.Lr
end
