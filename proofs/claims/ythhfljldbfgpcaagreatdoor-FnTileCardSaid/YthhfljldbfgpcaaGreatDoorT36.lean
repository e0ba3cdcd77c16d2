/- Merged texts: Fz, Seg, CoB, May. -/
import Derived.Test.YthhfljldbfgpcaaGreatDoorT32
import Derived.Conc.Beside
set_option linter.all false
section
namespace Go.Proofs.YthhfljldbfgpcaaGreatDoor.Lr
open Go.Conc
structure Alike (X X':Cx):Prop where
 C:X'.C=X.C
 M:X'.M=X.M
 As:X'.As=X.As
 T:X'.T=X.T
 K:X'.K=X.K
 D:X'.D=X.D
 G:X'.G=X.G
 N:X'.N=X.N
 R:X'.R=X.R
 Dn:X'.Dn=X.Dn
 L:X'.L=X.L
 Mv:X'.Mv=X.Mv
 Z:X'.Z=X.Z
 Ar:X'.Ar=X.Ar
section
variable {X X':Cx} {B:Lk} (A:Alike X X')
include A
theorem AdR.cx {a a':Addr} (h:AdR X B a a'):AdR X' B a a':=⟨⟨h.1.1,by rw [A.D]; exact h.1.2⟩,by rw [A.L]; exact h.2⟩
theorem FnR.cx {f f':Fn} (h:FnR X B f f'):FnR X' B f f':=by
 cases h with
 | func f c t => exact .func f (by rw [A.C]; exact c) (by rw [A.T]; exact t)
 | method n c => exact .method n (by rw [A.M]; exact c)
 | methodOf t n c => exact .methodOf t n (by rw [A.M]; exact c)
 | yield l l' c => exact .yield l l' c
theorem VR.cx {v v':Value} (h:VR X B v v'):VR X' B v v':=by
 induction h with
 | bool b => exact .bool b
 | int k n => exact .int k n
 | float k n => exact .float k n
 | complex k n m => exact .complex k n m
 | string s => exact .string s
 | pnil => exact .pnil
 | ptr a => exact .ptr (a.cx A)
 | snil l c => exact .snil l c
 | slice l c a => exact .slice l c (a.cx A)
 | mnil => exact .mnil
 | map r => exact .map r
 | cnil => exact .cnil
 | chan r => exact .chan r
 | func f hp _ hq _ ip iq => exact .func (f.cx A) hp ip hq iq
 | nilFunc => exact .nilFunc
 | iface t _ i => exact .iface t i
 | nilIface => exact .nilIface
 | agg hp _ i => exact .agg hp i
 | tuple hp _ i => exact .tuple hp i
theorem AR.cx {p p':Array Value} (h:AR X B p p'):AR X' B p p':=⟨h.1,fun i v v' a b => (h.2 i v v' a b).cx A⟩
theorem PR.cx {l:Nat} {p p':Array Value} (h:PR X B l p p'):PR X' B l p p':=⟨h.1,fun i v v' g a b => (h.2 i v v' g a b).cx A⟩
theorem Alike.known {b n:Nat} {t t':TypeId} (h:TyR X b t t' n):TyR X' b t t' n:=by unfold TyR; rw [A.L,A.Mv,A.Z,A.N]; exact h
theorem TgR.cx {t t':Target} (h:TgR X B t t'):TgR X' B t t':=by
 cases h with
 | fn f p => exact .fn (f.cx A) (p.cx A)
 | nil => exact .nil
 | builtin b ts t cs h => exact .builtin b ts t cs h
 | collected r => exact .collected r
theorem DsR.cx {l l':List Deferred} (h:DsR X B l l'):DsR X' B l l':=by
 induction h with
 | nil => exact .nil
 | cons q a _ ih => exact .cons (by rw [A.Dn]; exact q) ⟨a.1.cx A,a.2.cx A⟩ ih
theorem OpdOk.cx {o:Operand} (h:OpdOk X o):OpdOk X' o:=by
 cases o with
 | tmp t => trivial
 | const v => exact fun B => (h B).cx A
 | global g => exact (by rw [A.G]; exact h:X'.G g)
 | func f => exact (by rw [A.C,A.T]; exact h:X'.C f ∧ ¬ X'.T f)
theorem CdR.cx:∀ {c c':Code},CdR X c c' → CdR X' c c'
 | .refuse _,_,h => h.imp id fun h => (by rw [A.R]; exact h:X'.R _ _)
 | .region _ _ _,_,h => ⟨h.1,by rw [A.K]; exact h.2⟩
 | .seq _ _,_,⟨a,b,h1,h2,h3⟩ => ⟨a,b,h1,h2.cx,h3.cx⟩
 | .cond _ _ _,_,⟨a,b,h1,h0,h2,h3⟩ => ⟨a,b,h1,h0.cx A,h2.cx,h3.cx⟩
 | .rangeFunc _ _ _ _,_,⟨a,b,h1,h0,h2,h3⟩ => ⟨a,b,h1,h0.cx A,h2.cx,h3.cx⟩
 | .block _ _,_,⟨a,h1,h2⟩ => ⟨a,h1,h2.cx⟩
 | .loop _,_,⟨a,h1,h2⟩ => ⟨a,h1,h2.cx⟩
 | .scope _,_,⟨a,h1,h2⟩ => ⟨a,h1,h2.cx⟩
 | .goto _,_,h => h.elim
 | .skip,_,h => h
 | .ret,_,h => h
 | .exit _,_,h => h
 | .label _,_,h => h
theorem LpR.cx {l l':Loop} (h:LpR X B l l'):LpR X' B l l' :=
 ⟨h.state,h.pending,fun c e => (h.pok c e).cx A,h.fn,h.tmps.cx A,h.params,h.assign.cx A,h.body.cx A,h.defers⟩
theorem ObR.cx {o o':Obj} (h:ObR X B o o'):ObR X' B o o':=by
 cases h with
 | cells t f a => exact .cells t f (a.cx A)
 | chan cap cl s r tm a => exact .chan cap cl s r tm (a.cx A)
 | number l a => exact .number l (a.cx A)
 | stringIter s p => exact .stringIter s p
 | loop a => exact .loop (a.cx A)
 | dnone => exact .dnone
 | dsome a => exact .dsome (a.cx A)
theorem ItR.cx {i i':Item} (h:ItR X B i i'):ItR X' B i i':=by
 cases h with
 | code a => exact .code (a.cx A)
 | inBlock i => exact .inBlock i
 | inLoop a => exact .inLoop (a.cx A)
 | inScope a => exact .inScope (a.cx A)
 | inRegion o l a => exact .inRegion o l (by rw [A.K]; exact a)
 | inRangeFunc a => exact .inRangeFunc a
 | endRangeFunc a => exact .endRangeFunc a
 | beginRound => exact .beginRound
theorem TdR.cx {l l':List Item} (h:TdR X B l l'):TdR X' B l l':=by
 induction h with
 | nil => exact .nil
 | cons a _ ih => exact .cons (a.cx A) ih
theorem EnR.cx {l l':List PanicEntry} (h:EnR X B l l'):EnR X' B l l':=by
 induction h with
 | nil => exact .nil
 | cons r g a _ ih => exact .cons r g (a.cx A) ih
theorem MoR.cx {l l':FrameMode} (h:MoR X B l l'):MoR X' B l l':=by
 cases h with
 | run => exact .run
 | returning => exact .returning
 | panicking a => exact .panicking (a.cx A)
theorem FrR.cx {fr fr':Frame} (h:FrR X B fr fr'):FrR X' B fr fr' :=
 ⟨h.fn,h.tmps.cx A,h.todo.cx A,h.defers.cx A,h.mode.cx A,h.kind,h.roundOf⟩
theorem CsR.cx {l l':List Frame} (h:CsR X B l l'):CsR X' B l l':=by
 induction h with
 | nil => exact .nil
 | cons a _ ih => exact .cons (a.cx A) ih
end
theorem wr_freeze {X X':Cx} {B:Lk} {V W:World} (A:Alike X X') (hw:WR X B V W) {s s':Nat} (hs:B s s') (hd:¬ X.D s) {c:Array Value} {t:TypeId} {f:Nat × Nat} (hv:V.heap[s]?=some (.cells c t f))
   (hF:∀ b,X'.F b ↔ X.F b ∨ b=s):WR X' B { V with heap:=V.heap.setIfInBounds s (.cells c t (0,c.size)) } W:=by
 have hlt:=hw.ltV hs
 refine ⟨hw.tape,hw.drawn,hw.os,hw.output,hw.fn,hw.inj,fun g hg => hw.glob g (by rw [A.G] at hg; exact hg),fun b b' x d fz => ?_,fun b b' x d fz => ?_,fun b b' x d => ?_,fun b d => ?_,fun b fz => ?_,by rw [A.N]; exact hw.low,by rw [A.N]; simpa using hw.nV,by rw [A.N]; exact hw.nW⟩
 · rw [A.D] at d
   have hne:s ≠ b:=fun e => fz ((hF b).2 (.inr e.symm))
   obtain ⟨o,o',h1,h2,h3⟩:=hw.live b b' x d fun h => fz ((hF b).2 (.inl h))
   exact ⟨o,o',by simp [hne,h1],h2,h3.cx A⟩
 · rw [A.D] at d
   by_cases e:s=b
   · subst e
     obtain rfl:=hw.fn _ _ _ x hs
     rcases hw.at hs hd with ⟨c1,c',t1,t',f1,f',h1,h2,ha,_,hm⟩ | ⟨_,o,o',h1,h2,_,hn,_⟩
     · rw [hv] at h1
       cases h1
       exact ⟨c,c',t,t',f',by simp [hlt],h2,by rw [A.L]; exact ha.cx A,A.known hm⟩
     · rw [hv] at h1
       cases h1
       exact absurd rfl (hn _ _ _)
   · obtain ⟨c1,c',t1,t',g,h1,h2,h3,h4⟩:=hw.froz b b' x d (((hF b).1 fz).resolve_right fun h => e h.symm)
     exact ⟨c1,c',t1,t',g,by simp [e,h1],h2,by rw [A.L]; exact h3.cx A,A.known h4⟩
 · rw [A.D] at d
   have hne:s ≠ b:=fun e => hd (e ▸ d)
   obtain ⟨⟨t1,h1⟩,h2⟩:=hw.dead b b' x d
   exact ⟨⟨t1,by simp [hne,h1]⟩,h2⟩
 · rw [A.D] at d
   simpa using hw.dlt b d
 · rcases (hF b).1 fz with h | rfl
   · simpa using hw.flt b h
   · simpa using hlt
theorem wr_link {X X':Cx} {B:Lk} {V W:World} (A:Alike X X') (hw:WR X B V W) {s':Nat} (hs:∀ b,¬ B b s') {c:Array Value} {t:TypeId} {f:Nat × Nat} (hv:W.heap[s']?=some (.cells c t f)) (hc:∀ v ∈ c,Flat X v)
   (hN:X.N ≤ s') (hF:∀ b,X'.F b ↔ X.F b ∨ b=V.heap.size):WR X' (fun b b' => B b b' ∨ (b=V.heap.size ∧ b'=s')) { V with heap:=V.heap.push (.cells c t (0,c.size)) } W:=by
 have hle:Le B (fun b b' => B b b' ∨ (b=V.heap.size ∧ b'=s')):=fun b b' h => .inl h
 have hnD:¬ X.D V.heap.size:=fun h => Nat.lt_irrefl _ (hw.dlt _ h)
 refine ⟨hw.tape,hw.drawn,hw.os,hw.output,?_,?_,fun g hg => .inl (hw.glob g (by rw [A.G] at hg; exact hg)),fun b b' x d fz => ?_,fun b b' x d fz => ?_,fun b b' x d => ?_,fun b d => ?_,fun b fz => ?_,?_,by rw [A.N]; exact Nat.le_trans hw.nV (by simp),by rw [A.N]; exact hw.nW⟩
 · rintro b b₁ b₂ (h | ⟨rfl,rfl⟩) (k | ⟨e,rfl⟩)
   · exact hw.fn b b₁ b₂ h k
   · exact absurd (hw.ltV h) (by omega)
   · exact absurd (hw.ltV k) (by omega)
   · rfl
 · rintro b₁ b₂ b' (h | ⟨rfl,rfl⟩) (k | ⟨rfl,e⟩)
   · exact hw.inj b₁ b₂ b' h k
   · exact absurd (e ▸ h) (hs b₁)
   · exact absurd k (hs b₂)
   · rfl
 · rw [A.D] at d
   rcases x with x | ⟨rfl,rfl⟩
   · obtain ⟨o,o',h1,h2,h3⟩:=hw.live b b' x d fun h => fz ((hF b).2 (.inl h))
     exact ⟨o,o',by simp [Array.getElem?_push,Nat.ne_of_lt (hw.ltV x),h1],h2,(h3.mono hle).cx A⟩
   · exact absurd ((hF _).2 (.inr rfl)) fz
 · rw [A.D] at d
   rcases x with x | ⟨rfl,rfl⟩
   · obtain ⟨c1,c',t1,t',g,h1,h2,h3,h4⟩:=hw.froz b b' x d (((hF b).1 fz).resolve_right (Nat.ne_of_lt (hw.ltV x)))
     exact ⟨c1,c',t1,t',g,by simp [Array.getElem?_push,Nat.ne_of_lt (hw.ltV x),h1],h2,by rw [A.L]; exact (h3.mono hle).cx A,A.known h4⟩
   · exact ⟨c,c,t,t,f,by simp,hv,⟨Nat.le_refl _,fun i v v' _ h1 h2 => by
       cases h1.symm.trans h2
       exact (hc v (Array.mem_of_getElem? h1) _).cx A⟩,TyR.same (by rw [A.L]; exact Decidable.byContradiction fun h => Nat.lt_irrefl _ (hw.flt _ (X.lf _ h)))⟩
 · rw [A.D] at d
   rcases x with x | ⟨rfl,rfl⟩
   · obtain ⟨⟨t1,h1⟩,h2⟩:=hw.dead b b' x d
     exact ⟨⟨t1,by simp [Array.getElem?_push,Nat.ne_of_lt (hw.ltV x),h1]⟩,h2⟩
   · exact absurd d hnD
 · rw [A.D] at d
   have:=hw.dlt b d
   simp; omega
 · rcases (hF b).1 fz with h | rfl
   · have:=hw.flt b h
     simp; omega
   · simp
 · rw [A.N]
   rintro b b' (h | ⟨rfl,rfl⟩)
   · exact hw.low b b' h
   · have:=hw.nV
     omega
end Go.Proofs.YthhfljldbfgpcaaGreatDoor.Lr
end

section
namespace Go.Proofs.YthhfljldbfgpcaaGreatDoor.Co
open Go.Conc Go.Proofs.YthhfljldbfgpcaaGreatDoor.Tl Go.Proofs.YthhfljldbfgpcaaGreatDoor.Lr Go.Proofs.YthhfljldbfgpcaaGreatDoor.Bar
section
variable {X:Cx} {P P':Program}
theorem co_of_runs (H:Whole X P P') (hT:∀ f,¬ X.T f) {F:St → Prop} (hF:∀ x τ d,JL X x → F x → F (x.at τ d)) {m:Bool} {base:List Frame} {x:St} {B:Lk} {W:World} {fr':Frame} {cs':List Frame}
   (hw:WR X B x.V W) (hf:FrR X B x.fr fr') (hc:CsR X B x.cs cs') (hb:botR x.fr x.cs=none)
   (hr:∀ τ d,∃ z n,F z ∧ runN P n (lone x.fr (x.cs ++ [wall P]) { x.V with tape:=τ,drawn:=d })=.next (lone z.fr (z.cs ++ [wall P]) z.V)) :
   Co P' m base (Ice X B) (PostR X x.V.heap.size W.heap.size B F) (Hot X B) fr' cs' W:=by
 have K:=keeps_lr H hT hF
 have hj:JL X x:=⟨B,W,fr',cs',hw,hf,hc,hb⟩
 have hC:C P F x:=fun τ d => by
   obtain ⟨z,n,hz,hn⟩:=hr τ d
   exact steps_rch K hz n (x.at τ d) (K.tape _ τ d hj) hn
 exact co_of_way H hT (bar K hj hC) (τ:=x.V.tape) (d:=x.V.drawn) hw hf hc hb (Gr.refl _ _ _) (Nat.le_refl _) (Nat.le_refl _) rfl
end
end Go.Proofs.YthhfljldbfgpcaaGreatDoor.Co
end

section
namespace Go.Proofs.YthhfljldbfgpcaaGreatDoor.Co
open Go.Conc Go.Proofs.YthhfljldbfgpcaaGreatDoor.Tl Go.Proofs.YthhfljldbfgpcaaGreatDoor.Lr Go.Proofs.YthhfljldbfgpcaaGreatDoor.Bar
open Go.ConcN (sumTo upd sumTo_upd upd_ne upd_same)
structure Left (L:Nat → Prop) (w:World) (L':Nat → Prop) (w':World):Prop where
 old:∀ b,L b → L' b
 new:∀ b,L' b → L b ∨ w.heap.size ≤ b
 size:w.heap.size ≤ w'.heap.size
 kept:∀ b,b < w.heap.size → ¬ L b → w'.heap[b]?=w.heap[b]?
 tape:w'.tape=w.tape
 os:w'.os=w.os ∧ w'.output=w.output
theorem Left.refl (L:Nat → Prop) (w:World):Left L w L w:=⟨fun _ h => h,fun _ h => .inl h,Nat.le_refl _,fun _ _ _ => rfl,rfl,rfl,rfl⟩
theorem Left.trans {L L1 L2:Nat → Prop} {w w1 w2:World} (h:Left L w L1 w1) (k:Left L1 w1 L2 w2):Left L w L2 w2 where
 old b x:=k.old b (h.old b x)
 new b x:=by
   rcases k.new b x with y | y
   · exact h.new b y
   · exact .inr (Nat.le_trans h.size y)
 size:=Nat.le_trans h.size k.size
 kept b hb hl:=by
   rw [k.kept b (Nat.lt_of_lt_of_le hb h.size) fun x => (h.new b x).elim hl fun y => by omega]
   exact h.kept b hb hl
 tape:=k.tape.trans h.tape
 os:=⟨k.os.1.trans h.os.1,k.os.2.trans h.os.2⟩
theorem Did.left {L R L1:Nat → Prop} {w w1:World} {n:Array Event} (h:Did L R w L1 w1 n):Left L w L1 w1:=⟨h.old,h.new,h.size,h.kept,h.tape,h.os⟩
theorem left_at (L:Nat → Prop) (w:World) (d:Nat):Left L w L (w.at d):=⟨fun _ h => h,fun _ h => .inl h,Nat.le_refl _,fun _ _ _ => rfl,rfl,rfl,rfl⟩
theorem rely_at {L R:Nat → Prop} {W w:World} (h:Rely L R W w) (d:Nat):Rely L R W (w.at d):=h
theorem rely_refl (L R:Nat → Prop) (W:World):Rely L R W W:=⟨Nat.le_refl _,fun _ _ => rfl,rfl,rfl⟩
theorem evC_evL {L R:Nat → Prop} {B:Nat} {e:Event} (h:EvC L R e) (hL:∀ b,L b → b < B) (hR:∀ b,R b → b < B):EvL (fun _ => False) B e:=by
 obtain ⟨loc,wr,sy⟩:=e
 unfold EvC at h
 refine ⟨fun x _ hs => hs.elim,?_,?_,?_⟩ <;> (cases loc <;> dsimp only at h) <;> first
   | (intro e; cases e; done)
   | exact h.elim
   | (subst h; intro e; cases e; done)
   | skip
 · rcases h.2 with h | h
   · exact hL _ h
   · exact hR _ h.1
 · have:=hL _ h
   cases wr <;> cases sy <;> exact this
 · subst h; trivial
end Go.Proofs.YthhfljldbfgpcaaGreatDoor.Co
end

section
namespace Go.Proofs.YthhfljldbfgpcaaGreatDoor.Co
open Go.Conc
def inB (S:Nat → Prop):Loc → Prop
 | .cell a => S a.block
 | .obj r => S r
 | _ => False
theorem inB_mono {S S':Nat → Prop} (h:∀ b,S b → S' b) {l:Loc} (k:inB S l):inB S' l:=by
 cases l <;> first | exact h _ k | exact k.elim
structure May (t:Trace) (g:Nat) (L R:Nat → Prop):Prop where
 own:∀ i a,touchAt t i=some a → inB L a.loc → Knows t g i
 read:∀ i a,touchAt t i=some a → inB R a.loc → a.write=true → Knows t g i
theorem evC_touch {L R:Nat → Prop} {e:Event} (h:EvC L R e) {b:Touch} (hb:(MemAct.ofEvent e).touch?=some b):inB L b.loc ∨ (inB R b.loc ∧ b.write=false):=by
 obtain ⟨loc,wr,sy⟩:=e
 unfold EvC at h
 cases loc with
 | cell a =>
   dsimp only at h
   obtain ⟨rfl,h⟩:=h
   cases hb
   rcases h with h | ⟨h,h2⟩
   · exact .inl h
   · exact .inr ⟨h,h2⟩
 | obj r =>
   dsimp only at h
   cases wr <;> cases sy <;> first | (cases hb; done) | (cases hb; exact .inl h)
 | mark m =>
   dsimp only at h
   subst h
   cases hb
 | _ => exact h.elim
section
variable {t:Trace} {g:Nat} {L R:Nat → Prop} {fn:FuncId} {pos:String} {es:Array Event}
theorem touch_new {u:Trace} {i:Nat} {a:Touch} (h:touchAt (t ++ u) i=some a):touchAt t i=some a ∨ ∃ op ∈ u,(t ++ u)[i]?=some op ∧ op.act.touch?=some a:=by
 obtain ⟨x,hx,hxa⟩:=touch_of h
 rcases getElem?_append_cases hx with ⟨hi,hx'⟩ | ⟨_,hxu⟩
 · exact .inl (by rw [touchAt_of hx']; exact hxa)
 · exact .inr ⟨x,hxu,hx,hxa⟩
theorem May.noRace (h:May t g L R) (hc:∀ said,¬ Race said t) (he:∀ e ∈ es,EvC L R e):∀ said,¬ Race said (t ++ MemOp.ofEvents g fn pos es):=by
 intro said
 refine noRace_append (hc said) (fun op hop => by obtain ⟨e,_,rfl⟩:=Go.Conc.mem_ofEvents hop; rfl) fun i a ha op hop b hb hcf => ?_
 obtain ⟨e,hee,rfl⟩:=Go.Conc.mem_ofEvents hop
 obtain ⟨h1,_,h3,_⟩:=hcf
 rcases evC_touch (he e hee) hb with k | ⟨k,hw⟩
 · exact h.own i a ha (by rw [h1]; exact k)
 · exact h.read i a ha (by rw [h1]; exact k) (by rcases h3 with h3 | h3; exact h3; rw [hw] at h3; cases h3)
theorem May.self (h:May t g L R):May (t ++ MemOp.ofEvents g fn pos es) g L R:=by
 have key:∀ op ∈ MemOp.ofEvents g fn pos es,op.g=g:=fun op hop => by obtain ⟨e,_,rfl⟩:=Go.Conc.mem_ofEvents hop; rfl
 refine ⟨fun i a ha hl => ?_,fun i a ha hl hw => ?_⟩
 · rcases touch_new ha with h1 | ⟨op,h1,h2,h3⟩
   · exact (h.own i a h1 hl).app _
   · have:=knows_own h2
     rwa [key op h1] at this
 · rcases touch_new ha with h1 | ⟨op,h1,h2,h3⟩
   · exact (h.read i a h1 hl hw).app _
   · have:=knows_own h2
     rwa [key op h1] at this
theorem May.other {g':Nat} {L' R':Nat → Prop} (h:May t g L R) (he:∀ e ∈ es,EvC L' R' e) (h1:∀ b,L' b → ¬ L b ∧ ¬ R b) (h2:∀ b,R' b → ¬ L b):May (t ++ MemOp.ofEvents g' fn pos es) g L R:=by
 have ap:∀ {S S':Nat → Prop} {l:Loc},(∀ b,S b → ¬ S' b) → inB S l → ¬ inB S' l:=by
   intro S S' l k x y
   cases l <;> first | exact k _ x y | exact x
 refine ⟨fun i a ha hl => ?_,fun i a ha hl hw => ?_⟩
 · rcases touch_new ha with h3 | ⟨op,h3,_,h4⟩
   · exact (h.own i a h3 hl).app _
   · obtain ⟨e,hee,rfl⟩:=Go.Conc.mem_ofEvents h3
     rcases evC_touch (he e hee) h4 with k | ⟨k,_⟩
     · exact absurd hl (ap (fun b x => (h1 b x).1) k)
     · exact absurd hl (ap h2 k)
 · rcases touch_new ha with h3 | ⟨op,h3,_,h4⟩
   · exact (h.read i a h3 hl hw).app _
   · obtain ⟨e,hee,rfl⟩:=Go.Conc.mem_ofEvents h3
     rcases evC_touch (he e hee) h4 with k | ⟨k,hw'⟩
     · exact absurd hl (ap (fun b x => (h1 b x).2) k)
     · rw [hw'] at hw; cases hw
theorem May.app {u:Trace} (h:May t g L R) (hu:∀ op ∈ u,op.act.touch?=none):May (t ++ u) g L R:=by
 refine ⟨fun i a ha hl => ?_,fun i a ha hl hw => ?_⟩
 · rcases touch_new ha with h3 | ⟨op,h3,_,h4⟩
   · exact (h.own i a h3 hl).app _
   · rw [hu op h3] at h4; cases h4
 · rcases touch_new ha with h3 | ⟨op,h3,_,h4⟩
   · exact (h.read i a h3 hl hw).app _
   · rw [hu op h3] at h4; cases h4
theorem May.fresh {B:Nat} {L1:Nat → Prop} (h:May t g L R) (hs:∀ op ∈ t,op.act.low B) (hl:∀ b,L1 b → L b ∨ B ≤ b):May t g L1 R:=by
 refine ⟨fun i a ha hla => ?_,h.read⟩
 obtain ⟨x,hx,hxa⟩:=touch_of ha
 have hlow:=hs x (Array.mem_of_getElem? hx)
 have:inB L a.loc:=by
   obtain ⟨loc,wr,kd⟩:=a
   have hlo:loc.low B:=by
     generalize x.act=act at hlow hxa
     cases act with
     | access e => cases hxa; exact hlow
     | mark m => cases m <;> first | (cases hxa; done) | (cases hxa; exact hlow)
     | _ => cases hxa
   cases loc with
   | cell c => exact (hl _ hla).resolve_right fun x => by have:c.block < B:=hlo; omega
   | obj r => exact (hl _ hla).resolve_right fun x => by have:r < B:=hlo; omega
   | _ => exact hla.elim
 exact h.own i a ha this
end
theorem knows_over {t u:Trace} {g g' i p q:Nat} {x y:MemOp} (h:Knows t g i) (hp:t.size ≤ p) (hx:(t ++ u)[p]?=some x) (hxg:x.g=g) (hpq:HappensBefore (t ++ u) p q) (hy:(t ++ u)[q]?=some y) (hyg:y.g=g'):Knows (t ++ u) g' i :=
 ⟨q,y,hy,hyg,.inr ((h.hb_new hp hx hxg).trans hpq)⟩
theorem deaf_quiet {t u:Trace} {g:Nat} (hu:∀ op ∈ u,op.act ≠ .mark .disable ∧ op.act ≠ .mark .enable):∀ k,k ≤ u.size → (t ++ u).deaf g (t.size + k)=Deaf t g
 | 0,_ => deaf_old (Nat.le_refl _)
 | k + 1,hk => by
   have hlt:k < u.size:=hk
   have hy:(t ++ u)[t.size + k]?=some u[k]:=by
     rw [Array.getElem?_append_right (by omega)]
     simp [hlt]
   rw [← Nat.add_assoc,deaf_succ hy,deaf_quiet hu k (by omega)]
   have:=hu u[k] (Array.getElem_mem hlt)
   unfold deafStep
   split
   · exact absurd ‹_› this.1
   · exact absurd ‹_› this.2
   · rfl
theorem deaf_still (t:Trace) (g:Nat) (u:Trace) (hu:∀ op ∈ u,op.act ≠ .mark .disable ∧ op.act ≠ .mark .enable):Deaf (t ++ u) g=Deaf t g:=by
 have:=deaf_quiet (t:=t) (g:=g) hu u.size (Nat.le_refl _)
 unfold Deaf at *
 rw [Array.size_append]
 exact this
theorem heard_quiet {t u:Trace} (hu:∀ op ∈ u,op.act ≠ .mark .disable ∧ op.act ≠ .mark .enable) {k:Nat} {x:MemOp} (hk:u[k]?=some x) (hd:Deaf t x.g=0):(t ++ u).heard (t.size + k):=by
 have hlt:=(Array.getElem?_eq_some_iff.1 hk).1
 refine ⟨x.g,?_,?_⟩
 · unfold Trace.g?
   rw [Array.getElem?_append_right (by omega)]
   simp [hk]
 · rw [deaf_quiet hu k (by omega)]
   exact hd
theorem hand_knows {t:Trace} {c k cap gS gR:Nat} {f1 f2 f3 f4:FuncId} {p1 p2 p3 p4:String} (hS:Deaf t gS=0) (hR:Deaf t gR=0) {i:Nat} (h:Knows t gS i) :
   Knows (t ++ #[{ g:=gS,fn:=f1,pos:=p1,act:=.send c k },{ g:=gR,fn:=f2,pos:=p2,act:=.recv c k cap },{ g:=gS,fn:=f3,pos:=p3,act:=.sendDone c k },{ g:=gR,fn:=f4,pos:=p4,act:=.recvDone c k }]) gR i:=by
 generalize hu:(#[{ g:=gS,fn:=f1,pos:=p1,act:=.send c k },{ g:=gR,fn:=f2,pos:=p2,act:=.recv c k cap },{ g:=gS,fn:=f3,pos:=p3,act:=.sendDone c k },{ g:=gR,fn:=f4,pos:=p4,act:=.recvDone c k }]:Trace)=u
 have hq:∀ op ∈ u,op.act ≠ .mark .disable ∧ op.act ≠ .mark .enable:=by
   intro op hop
   rw [← hu] at hop
   simp only [List.mem_toArray,List.mem_cons,List.not_mem_nil,or_false] at hop
   rcases hop with rfl | rfl | rfl | rfl <;> exact ⟨by simp,by simp⟩
 have h0:u[0]?=some { g:=gS,fn:=f1,pos:=p1,act:=.send c k }:=by rw [← hu]; rfl
 have h3:u[3]?=some { g:=gR,fn:=f4,pos:=p4,act:=.recvDone c k }:=by rw [← hu]; rfl
 have g0:(t ++ u)[t.size + 0]?=some { g:=gS,fn:=f1,pos:=p1,act:=.send c k }:=by
   rw [Array.getElem?_append_right (by omega)]; simpa using h0
 have g3:(t ++ u)[t.size + 3]?=some { g:=gR,fn:=f4,pos:=p4,act:=.recvDone c k }:=by
   rw [Array.getElem?_append_right (by omega)]; simpa using h3
 refine knows_over h (Nat.le_refl _) g0 rfl (.single (.inr ⟨.handOver (c:=c) (k:=k) ?_ ?_,heard_quiet hq h0 hS,heard_quiet hq h3 hR⟩)) g3 rfl
 · unfold Trace.act?; rw [Nat.add_zero] at g0; rw [g0]; rfl
 · unfold Trace.act?; rw [g3]; rfl
theorem close_knows {t:Trace} {c p gR:Nat} {x:MemOp} {f1:FuncId} {p1:String} (hp:t[p]?=some x) (hx:x.act=.close c) (hh:t.heard p) (hR:Deaf t gR=0) {i:Nat} (h:Before t i p) :
   Knows (t ++ #[{ g:=gR,fn:=f1,pos:=p1,act:=.recvClosed c }]) gR i:=by
 generalize hu:(#[{ g:=gR,fn:=f1,pos:=p1,act:=.recvClosed c }]:Trace)=u
 have hq:∀ op ∈ u,op.act ≠ .mark .disable ∧ op.act ≠ .mark .enable:=by
   intro op hop
   rw [← hu] at hop
   simp only [List.mem_toArray,List.mem_cons,List.not_mem_nil,or_false] at hop
   subst hop
   exact ⟨by simp,by simp⟩
 have h0:u[0]?=some { g:=gR,fn:=f1,pos:=p1,act:=.recvClosed c }:=by rw [← hu]; rfl
 have g0:(t ++ u)[t.size + 0]?=some { g:=gR,fn:=f1,pos:=p1,act:=.recvClosed c }:=by
   rw [Array.getElem?_append_right (by omega)]; simpa using h0
 have hlt:=lt_size_of_getElem? hp
 have gp:(t ++ u)[p]?=some x:=by rw [getElem?_append_old hlt]; exact hp
 refine ⟨t.size + 0,_,g0,rfl,(h.app u).trans (.inr (.single (.inr ⟨.closed (c:=c) ?_ ?_,(heard_old hlt).2 hh,heard_quiet hq h0 hR⟩)))⟩
 · unfold Trace.act?; rw [gp,Option.map_some,hx]
 · unfold Trace.act?; rw [g0]; rfl
end Go.Proofs.YthhfljldbfgpcaaGreatDoor.Co
end
