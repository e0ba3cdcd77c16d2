import Derived.Test.YtjaehldnlamgkaaGreatDoorXe3
import Derived.Test.YtjaehldnlamgkaaGreatDoorXe0
set_option linter.all false
set_option maxHeartbeats 16000000
set_option maxRecDepth 100000
namespace Go.Proofs.YtjaehldnlamgkaaGreatDoor
namespace Lr
section
variable {X : Cx} {P P' : Program} {B : Lk}
theorem SR.Abr {α:Type}(a:α):SR X P P' Same B (Pure.pure a) (Pure.pure a):=SR.pure rfl
theorem SR.corrected (s a b c d:Nat):SR X P P' Same B (Op.Complex.corrected s a b c d) (Op.Complex.corrected s a b c d):=by
 unfold Op.Complex.corrected Op.Complex.sub Op.Complex.mul Op.Complex.add
 repeat' (first|with_reducible refine SR.Dl (SR.Xn _ _ _ _) fun _ _=>?_|with_reducible exact SR.Abr _)
theorem SR.quotient (a b c d:Nat):SR X P P' Same B (Op.Complex.quotient a b c d) (Op.Complex.quotient a b c d):=by
 unfold Op.Complex.quotient Op.Complex.sub Op.Complex.mul Op.Complex.add Op.Complex.quo;dsimp only
 repeat' (first
  | with_reducible refine SR.ite (fun _=>?_) (fun _=>?_)
  | with_reducible refine SR.Dl (SR.Xn _ _ _ _) fun _ _=>?_
  | with_reducible refine SR.Dl (SR.Ajg _ _ _ _) fun _ _=>?_
  | with_reducible refine SR.Dl (SR.Abr _) fun _ _=>?_
  | with_reducible exact SR.corrected _ _ _ _ _
  | with_reducible exact SR.Abr _)
end
end Lr
namespace Lr
section
variable {X : Cx} {P P' : Program} {B : Lk} (hP : PRel X P P')
theorem SR.Ao (op:BinOp)(k:FloatKind)(a b c d:Nat):SR X P P' (Ac X) B (Op.complexOp op k a b c d) (Op.complexOp op k a b c d):=by
 by_cases hq:op=.quo
 ·subst hq;unfold Op.complexOp;dsimp only
  refine SR.Dl (SR.Rn _ _ _) fun _ _=>SR.Dl (SR.Rn _ _ _) fun _ _=>SR.Dl (SR.Rn _ _ _) fun _ _=>SR.Dl (SR.Rn _ _ _) fun _ _=>?_
  refine SR.ite (fun h=>by cases h) (fun _=>?_)
  exact SR.Dl (SR.quotient _ _ _ _) fun _ _=>SR.Dl (SR.Rn _ _ _) fun _ _=>SR.Dl (SR.Rn _ _ _) fun _ _=>SR.pure (.complex _ _ _)
 ·exact SR.complexOp op hq k a b c d
include hP
theorem Yz:∀(k d:Nat) (t:TypeId) {B:Lk} {x x' y y':Value},Ly P k t=true->VR X B x x'->VR X B y y'->SR X P P' Same B (Op.eqGuardIn d t x y) (Op.eqGuardIn d t x' y'):=by
 intro k
 induction k with
 | zero=>intro d t B x x' y y' h;simp[Ly]at h
 | succ k ih =>
   intro d t B x x' y y' h hx hy
   cases d with
   | zero=>exact SR.unsupported
   | succ d =>
   unfold Ly at h;unfold Op.eqGuardIn
   refine SR.bind (SR.underlying hP t) ?_
   rintro B1 l1 _ td ⟨rfl,hd⟩;rw[hd]at h;have hx:=hx.mono l1;have hy:=hy.mono l1
   cases td<;>simp only[Amk]at h
   case struct fs =>
    rw[Amr]at h
    cases hx<;>cases hy<;>first
     | exact SR.pure rfl
     | skip
    rename_i p p' h1 h2 q q' h3 h4
    have ha:AR X B1 p p':=⟨h1,h2⟩;have hb:AR X B1 q q':=⟨h3,h4⟩;dsimp only;rw[<-Ap7,<-Ap7]
    refine SR.bind (R:=Rst B1) (Ka (fun B B' a b l (hr:Rst B1 B a b)=>⟨hr.1,hr.2.trans l⟩) _ ?_ (show Rst B1 B1 _ _ from⟨rfl,Le.refl _⟩)) ?_
    ·rintro f hf B3 a _ ⟨rfl,l3⟩;have hf:=h f (Array.mem_toList_iff.1 hf)
     refine SR.ite (fun _=>?_) (fun _=>SR.pure (.inr ⟨_,_,rfl,rfl,rfl,l3⟩))
     refine SR.bind (SR.part hP f.type (ha.mono l3) _) fun B4 l4 v v' hv=>?_
     refine SR.bind (SR.part hP f.type ((hb.mono l3).mono l4) _) fun B5 l5 w w' hw=>?_
     refine SR.bind (ih d f.type hf (hv.mono l5) hw) ?_
     rintro B6 l6 _ r rfl;have lx:=l3.trans (l4.trans (l5.trans l6))
     exact SR.ite (fun _=>SR.pure (.inl ⟨_,_,rfl,rfl,rfl,lx⟩)) (fun _=>SR.pure (.inr ⟨_,_,rfl,rfl,rfl,lx⟩))
    ·rintro B3 l3 ⟨a,u⟩ _ ⟨rfl,_⟩
     cases a<;>exact SR.pure rfl
   case array n e =>
    cases hx<;>cases hy<;>first
     | exact SR.pure rfl
     | skip
    rename_i p p' h1 h2 q q' h3 h4
    have ha:AR X B1 p p':=⟨h1,h2⟩;have hb:AR X B1 q q':=⟨h3,h4⟩;dsimp only
    refine SR.bind (SR.sizeOf hP e) ?_
    rintro B2 l2 _ m rfl;rw[Apd,Apd]
    refine SR.bind (R:=Rst B1) (Ka (fun B B' a b l (hr:Rst B1 B a b)=>⟨hr.1,hr.2.trans l⟩) _ ?_ (show Rst B1 B2 _ _ from⟨rfl,l2⟩)) ?_
    ·rintro i _ B3 a _ ⟨rfl,l3⟩
     refine SR.bind (SR.part hP e (ha.mono l3) _) fun B4 l4 v v' hv=>?_
     refine SR.bind (SR.part hP e ((hb.mono l3).mono l4) _) fun B5 l5 w w' hw=>?_
     refine SR.bind (ih d e h (hv.mono l5) hw) ?_
     rintro B6 l6 _ r rfl;have lx:=l3.trans (l4.trans (l5.trans l6))
     exact SR.ite (fun _=>SR.pure (.inl ⟨_,_,rfl,rfl,rfl,lx⟩)) (fun _=>SR.pure (.inr ⟨_,_,rfl,rfl,rfl,lx⟩))
    ·rintro B3 l3 ⟨a,u⟩ _ ⟨rfl,_⟩
     cases a<;>exact SR.pure rfl
   all_goals exact SR.pure rfl
theorem PRel.eqGuardType:∀(d:Nat) (t:TypeId),P'.eqGuardType d t=P.eqGuardType d t
 | 0,_=>rfl
 | d+1,t=>by
   unfold Program.eqGuardType;rw[hP.underlying];simp only[PRel.eqGuardType d]
theorem U1 (op:BinOp)(t:TypeId)(k:Nat)(ht:op=.eql\/op=.neq->Ly P k t=true)(o o2:Operand){x x' y y':Value}(hx:VR X B x x')(hy:VR X B y y'):SR X P P' Ql B (eqGuard op t o o2 x y) (eqGuard op t o o2 x' y'):=by
 unfold eqGuard
 have inn:∀{B2:Lk},Le B B2->Ly P k t=true->∀(u:Unsupported) (_:Jo (.unsupported u)),SR X P P' Ql B2 (Op.eqGuardIn Op.maxDepth t x y >>= fun q=>if q=true then(Go.unsupported u:Sem Unit)else Pure.pure ()) (Op.eqGuardIn Op.maxDepth t x' y' >>= fun q=>if q=true then(Go.unsupported u:Sem Unit)else Pure.pure ()):=by
  intro B2 l2 ht u hu
  refine SR.bind (Yz hP k Op.maxDepth t ht (hx.mono l2) (hy.mono l2)) ?_
  rintro B3 l3 _ q rfl
  exact SR.ite (fun _=>SR.unsupported hu) (fun _=>SR.pure trivial)
 by_cases hop:op=.eql\/op=.neq
 ·have ht:=ht hop
  refine SR.ite (fun _=>SR.pure trivial) (fun _=>?_)
  by_cases hn:x=.nilIface/\y=.nilIface
  ·obtain⟨rfl,rfl⟩:=hn
   cases hx
   cases hy
   dsimp only
   exact SR.ite (fun _=>SR.pure trivial) (fun _=>inn (Le.refl _) ht _ trivial)
  ·by_cases ha:(∃p,x=.agg p)/\∃q,y=.agg q
   ·obtain⟨⟨p,rfl⟩,⟨q,rfl⟩⟩:=ha
    cases hx
    cases hy
    dsimp only
    refine SR.bind SR.program ?_
    rintro B1 l1 p1 p2 ⟨rfl,rfl⟩
    refine SR.bind SR.program ?_
    rintro B2 l2 p3 p4 ⟨rfl,rfl⟩;rw[hP.eqGuardType,hP.depth]
    exact SR.ite (fun _=>SR.pure trivial) (fun _=>inn (l1.trans l2) ht _ trivial)
   ·have e1:∀{α:Type} (f g:Sem α) (h:Sem α),(match x,y with|.nilIface,.nilIface=>f|.agg _,.agg _=>g|_,_=>h)=h:=by
     intro α f g h
     cases x<;>cases y<;>first|rfl|exact absurd ⟨rfl,rfl⟩ hn|exact absurd ⟨⟨_,rfl⟩,⟨_,rfl⟩⟩ ha
    cases hx<;>cases hy<;>first
     | exact SR.pure trivial
     | exact absurd ⟨rfl,rfl⟩ hn
     | exact absurd ⟨⟨_,rfl⟩,⟨_,rfl⟩⟩ ha
 ·have:(match op with|.eql=>true|.neq=>true|_=>false)=false:=by
   cases op<;>first|rfl|exact absurd (.inl rfl) hop|exact absurd (.inr rfl) hop
  cases op<;>first
   | exact absurd (.inl rfl) hop
   | exact absurd (.inr rfl) hop
   | exact SR.pure trivial
theorem Cs (t:TypeId){x x' y y':Value}(hx:VR X B x x')(hy:VR X B y y'):SR X P P' (Ac X) B (movedNumber t x y) (movedNumber t x' y'):=by
 unfold movedNumber
 refine SR.bind (SR.underlying hP t) ?_
 rintro B1 l1 _ td ⟨rfl,_⟩
 refine SR.ite (fun _=>SR.A9) (fun _=>?_)
 have hx:=hx.mono l1;have hy:=hy.mono l1
 by_cases hp:∃n,x=.pointer (some n)
 ·obtain⟨n,rfl⟩:=hp
  cases hx
  rename_i n' hn
  dsimp only
  refine SR.bind (Bb hn) ?_
  rintro B2 l2 ⟨a,l⟩ ⟨a',_⟩ ⟨h1,ha⟩
  cases h1
  dsimp only at ha ⊢
  refine SR.bind (Et hP #[] t (.ptr ha) (hy.mono l2)) fun B3 l3 v v' hv=>?_
  cases hv<;>first
   | exact A2a (by assumption) _
   |(refine SR.pure ?_;constructor<;>assumption)
 ·cases hx<;>first
   | exact absurd ⟨_,rfl⟩ hp
   |(refine Et hP #[] t ?_ hy;constructor<;>assumption)
theorem Jf (t:TypeId){x x' y y':Value}(hx:VR X B x x')(hy:VR X B y y'):SR X P P' (Ac X) B (movedPointer t x y) (movedPointer t x' y'):=by
 unfold movedPointer
 by_cases hp:∃n,x=.pointer (some n)
 ·obtain⟨n,rfl⟩:=hp
  cases hx
  rename_i n' hn
  dsimp only
  refine SR.bind (Qe hn.1.1 hn.1.2) ?_
  rintro B1 l1 a a' (⟨rfl,rfl⟩ |⟨b,b',l,rfl,rfl,hb⟩)
  ·exact SR.ite (fun _=>SR.A9) (fun _=>Et hP #[] t (.ptr (hn.mono l1)) (hy.mono l1))
  ·exact SR.ite (fun _=>SR.A9) (fun _=>Et hP #[] t (.ptr (hn.mono l1)) (hy.mono l1))
 ·cases hx<;>first
   | exact absurd ⟨_,rfl⟩ hp
   |(refine Et hP #[] t ?_ hy;constructor<;>assumption)
theorem Ny {a a' b b':Addr}(ha:Ce X B a a')(hb:Ce X B b b'):SR X P P' Same B (Op.twoPlaces a b) (Op.twoPlaces a' b'):=by
 unfold Op.twoPlaces
 refine SR.bind SR.program ?_
 rintro B1 l1 p p' ⟨rfl,rfl⟩
 refine SR.A67 fun hfn hinj hlow=>?_
 have ha:=ha.mono l1;have hb:=hb.mono l1
 have e:(a'.block != b'.block)=(a.block != b.block):=by
  unfold bne;rw[(Ce.beq hfn hinj ha hb).1]
 rw[e,show p'.globals=p.globals by rw[hP.Gb]]
 have hg:(decide (a'.block >= p.globals.size))=decide (a.block >= p.globals.size):=by
  rw[<-hP.nG];have:=hlow _ _ ha.1.1
  exact decide_eq_decide.2 (by omega)
 rw[hg]
 refine SR.ite (fun _=>SR.A9) (fun hcond=>?_)
 have hcond:a.block=b.block/\a.block<p.globals.size:=by simpa using hcond
 have hcN:a.block<X.N:=by rw[hP.nG];exact hcond.2
 refine SR.bind (I8 hP ha (.inr hcN)) ?_
 rintro B2 l2 _ m rfl
 refine SR.bind (I8 hP (hb.mono l2) (.inr (by rw[<-hcond.1];exact hcN))) ?_
 rintro B3 l3 _ n rfl
 exact SR.pure rfl
theorem A50 (k:IntKind){a a' b b':Addr}(ha:Ce X B a a')(hb:Ce X B b b'):SR X P P' (Ac X) B (Op.addrSub k a b) (Op.addrSub k a' b'):=by
 unfold Op.addrSub
 refine SR.bind (Ny hP ha hb) ?_
 rintro B1 l1 _ m rfl
 exact SR.pure (.int _ _)
theorem A4y (op:BinOp){a a' b b':Addr}(ha:Ce X B a a')(hb:Ce X B b b'):SR X P P' (Ac X) B (Op.addrCmp op a b) (Op.addrCmp op a' b'):=by
 unfold Op.addrCmp
 refine SR.bind (Ny hP ha hb) ?_
 rintro B1 l1 _ m rfl
 cases op<;>first|exact SR.unsupported|exact SR.pure (.bool _)
theorem A4z (k:IntKind){a a':Addr}(ha:Ce X B a a')(n:Int):SR X P P' (Ac X) B (Op.addrMod k a n) (Op.addrMod k a' n):=by
 unfold Op.addrMod
 refine SR.bind (SR.shape ha.1.1 ha.1.2) ?_
 rintro B1 l1 s s' (⟨rfl,rfl⟩ |⟨e,e',c,c',rfl,rfl,_,ht⟩)
 ·exact SR.unsupported
 ·dsimp only
  rcases ht with⟨_,_,hz⟩ |⟨hzz,rfl,_⟩
  ·refine SR.bind (R:=fun _ _ _=>False) ?_ (fun _ _ _ _ h=>h.elim)
   unfold Go.typeInfo
   refine SR.bind SR.program ?_
   rintro B3 l3 p p' ⟨rfl,rfl⟩;rw[hP.zed e hz]
   exact SR.stuck
  refine SR.bind (SR.typeInfo hP _) ?_
  rintro B2 l2 _ i ⟨rfl,_⟩
  refine SR.ite (fun _=>SR.A9) (fun _=>?_)
  refine SR.bind (I8 hP ((ha.mono l1).mono l2) hzz) ?_
  rintro B3 l3 _ m rfl
  exact SR.pure (.int _ _)
end
end Lr
namespace Lr
section
variable {X : Cx} {P P' : Program} {B : Lk} (hP : PRel X P P')
include hP
theorem Aca (t:TypeId){a a':Addr}(ha:Ce X B a a')(k:IntKind)(n:Int):SR X P P' (Ac X) B
 (Go.underlying t >>= fun d=>if(match d with|.unsafePointer=>true|_=>false)=true then movedPointer t (.pointer (some a)) (.int k n)else movedNumber t (.pointer (some a)) (.int k n))
 (Go.underlying t >>= fun d=>if(match d with|.unsafePointer=>true|_=>false)=true then movedPointer t (.pointer (some a')) (.int k n)else movedNumber t (.pointer (some a')) (.int k n)):=by
 refine SR.bind (SR.underlying hP t) ?_
 rintro B1 l1 _ d ⟨rfl,_⟩
 exact SR.ite (fun _=>Jf hP t (.ptr (ha.mono l1)) (.int _ _)) (fun _=>Cs hP t (.ptr (ha.mono l1)) (.int _ _))
theorem Ac9 (t:TypeId)(k:IntKind)(n:Int):SR X P P' (Ac X) B
 (Go.underlying t >>= fun d=>if(match d with|.unsafePointer=>true|_=>false)=true then movedPointer t (.pointer none) (.int k n)else movedNumber t (.pointer none) (.int k n))
 (Go.underlying t >>= fun d=>if(match d with|.unsafePointer=>true|_=>false)=true then movedPointer t (.pointer none) (.int k n)else movedNumber t (.pointer none) (.int k n)):=by
 refine SR.bind (SR.underlying hP t) ?_
 rintro B1 l1 _ d ⟨rfl,_⟩
 exact SR.ite (fun _=>Jf hP t .Mj (.int _ _)) (fun _=>Cs hP t .Mj (.int _ _))
theorem Aco {a a' b b':Addr}(ha:Ce X B a a')(hb:Ce X B b b'):SR X P P' (Ac X) B
 (behindNumber a >>= fun x=>behindNumber b >>= fun y=>Op.addrSub .u64 x.1 y.1) (behindNumber a' >>= fun x=>behindNumber b' >>= fun y=>Op.addrSub .u64 x.1 y.1):=by
 refine SR.bind (Bb ha) fun B1 l1 x x' hx=>SR.bind (Bb (hb.mono l1)) fun B2 l2 y y' hy=>A50 hP _ (hx.2.mono l2) hy.2
theorem Nv (op:BinOp){a a' b b':Addr}(ha:Ce X B a a')(hb:Ce X B b b'):SR X P P' (Ac X) B
 (behindNumber a >>= fun x=>behindNumber b >>= fun y=>Op.addrCmp op x.1 y.1) (behindNumber a' >>= fun x=>behindNumber b' >>= fun y=>Op.addrCmp op x.1 y.1):=by
 refine SR.bind (Bb ha) fun B1 l1 x x' hx=>SR.bind (Bb (hb.mono l1)) fun B2 l2 y y' hy=>A4y hP _ (hx.2.mono l2) hy.2
theorem A6n (k:IntKind){a a':Addr}(ha:Ce X B a a')(n:Int):SR X P P' (Ac X) B (behindNumber a >>= fun x=>Op.addrMod k x.1 n) (behindNumber a' >>= fun x=>Op.addrMod k x.1 n) :=
 SR.bind (Bb ha) fun _ _ _ _ hx=>A4z hP _ hx.2 n
theorem A90 (t:TypeId){x x' y y':Value}(hx:VR X B x x')(hy:VR X B y y'):SR X P P' (Ac X) B (binOp .add t x y) (binOp .add t x' y'):=by
 unfold binOp
 cases hx<;>cases hy<;>first
  | exact SR.stuck
  | exact SR.unsupported
  | exact SR.ite (fun _=>SR.stuck) (fun _=>(SR.floatArith _ _ _ _).mono fun B' a b h=>by obtain⟨rfl,r,rfl⟩:=h;exact .float _ _)
  | exact SR.ite (fun _=>SR.stuck) (fun _=>(SR.floatCmp _ _ _ _).mono fun B' a b h=>by obtain⟨rfl,r,rfl⟩:=h;exact .bool _)
  | exact SR.ite (fun _=>SR.stuck) (fun _=>SR.Ao _ _ _ _ _ _)
  | exact(SR.stringOp _ _ _).mono fun B' a b h=>by obtain⟨rfl,h⟩:=h;exact h B'
  | exact SR.ite (fun _=>SR.stuck) (fun _=>SR.intArith _ _ _ _)
  | exact Aca hP t (by assumption) _ _
  | exact Cs hP t (.ptr (by assumption)) (.int _ _)
  | exact Cs hP t .Mj (.int _ _)
  | exact Ac9 hP t _ _
theorem A9b (t:TypeId){x x' y y':Value}(hx:VR X B x x')(hy:VR X B y y'):SR X P P' (Ac X) B (binOp .sub t x y) (binOp .sub t x' y'):=by
 unfold binOp
 cases hx<;>cases hy<;>first
  | exact SR.stuck
  | exact SR.unsupported
  | exact SR.ite (fun _=>SR.stuck) (fun _=>(SR.floatArith _ _ _ _).mono fun B' a b h=>by obtain⟨rfl,r,rfl⟩:=h;exact .float _ _)
  | exact SR.ite (fun _=>SR.stuck) (fun _=>(SR.floatCmp _ _ _ _).mono fun B' a b h=>by obtain⟨rfl,r,rfl⟩:=h;exact .bool _)
  | exact SR.ite (fun _=>SR.stuck) (fun _=>SR.Ao _ _ _ _ _ _)
  | exact(SR.stringOp _ _ _).mono fun B' a b h=>by obtain⟨rfl,h⟩:=h;exact h B'
  | exact SR.ite (fun _=>SR.stuck) (fun _=>SR.intArith _ _ _ _)
  | exact Cs hP t (.ptr (by assumption)) (.int _ _)
  | exact Cs hP t .Mj (.int _ _)
  | exact Aco hP (by assumption) (by assumption)
omit hP in
theorem A96 (t:TypeId){x x' y y':Value}(hx:VR X B x x')(hy:VR X B y y'):SR X P P' (Ac X) B (binOp .mul t x y) (binOp .mul t x' y'):=by
 unfold binOp
 cases hx<;>cases hy<;>first
  | exact SR.stuck
  | exact SR.unsupported
  | exact SR.ite (fun _=>SR.stuck) (fun _=>(SR.floatArith _ _ _ _).mono fun B' a b h=>by obtain⟨rfl,r,rfl⟩:=h;exact .float _ _)
  | exact SR.ite (fun _=>SR.stuck) (fun _=>(SR.floatCmp _ _ _ _).mono fun B' a b h=>by obtain⟨rfl,r,rfl⟩:=h;exact .bool _)
  | exact SR.ite (fun _=>SR.stuck) (fun _=>SR.Ao _ _ _ _ _ _)
  | exact(SR.stringOp _ _ _).mono fun B' a b h=>by obtain⟨rfl,h⟩:=h;exact h B'
  | exact SR.ite (fun _=>SR.stuck) (fun _=>SR.intArith _ _ _ _)
theorem A97 (t:TypeId){x x' y y':Value}(hx:VR X B x x')(hy:VR X B y y'):SR X P P' (Ac X) B (binOp .quo t x y) (binOp .quo t x' y'):=by
 unfold binOp
 cases hx<;>cases hy<;>first
  | exact SR.stuck
  | exact SR.unsupported
  | exact SR.ite (fun _=>SR.stuck) (fun _=>(SR.floatArith _ _ _ _).mono fun B' a b h=>by obtain⟨rfl,r,rfl⟩:=h;exact .float _ _)
  | exact SR.ite (fun _=>SR.stuck) (fun _=>(SR.floatCmp _ _ _ _).mono fun B' a b h=>by obtain⟨rfl,r,rfl⟩:=h;exact .bool _)
  | exact SR.ite (fun _=>SR.stuck) (fun _=>SR.Ao _ _ _ _ _ _)
  | exact(SR.stringOp _ _ _).mono fun B' a b h=>by obtain⟨rfl,h⟩:=h;exact h B'
  | exact SR.ite (fun _=>SR.stuck) (fun _=>SR.intDiv hP _ _ _ _)
theorem A98 (t:TypeId){x x' y y':Value}(hx:VR X B x x')(hy:VR X B y y'):SR X P P' (Ac X) B (binOp .rem t x y) (binOp .rem t x' y'):=by
 unfold binOp
 cases hx<;>cases hy<;>first
  | exact SR.stuck
  | exact SR.unsupported
  | exact SR.ite (fun _=>SR.stuck) (fun _=>(SR.floatArith _ _ _ _).mono fun B' a b h=>by obtain⟨rfl,r,rfl⟩:=h;exact .float _ _)
  | exact SR.ite (fun _=>SR.stuck) (fun _=>(SR.floatCmp _ _ _ _).mono fun B' a b h=>by obtain⟨rfl,r,rfl⟩:=h;exact .bool _)
  | exact SR.ite (fun _=>SR.stuck) (fun _=>SR.Ao _ _ _ _ _ _)
  | exact(SR.stringOp _ _ _).mono fun B' a b h=>by obtain⟨rfl,h⟩:=h;exact h B'
  | exact SR.ite (fun _=>SR.stuck) (fun _=>SR.intDiv hP _ _ _ _)
  | exact A6n hP _ (by assumption) _
theorem A91 (t:TypeId){x x' y y':Value}(hx:VR X B x x')(hy:VR X B y y'):SR X P P' (Ac X) B (binOp .and t x y) (binOp .and t x' y'):=by
 unfold binOp
 cases hx<;>cases hy<;>first
  | exact SR.stuck
  | exact SR.unsupported
  | exact SR.ite (fun _=>SR.stuck) (fun _=>(SR.floatArith _ _ _ _).mono fun B' a b h=>by obtain⟨rfl,r,rfl⟩:=h;exact .float _ _)
  | exact SR.ite (fun _=>SR.stuck) (fun _=>(SR.floatCmp _ _ _ _).mono fun B' a b h=>by obtain⟨rfl,r,rfl⟩:=h;exact .bool _)
  | exact SR.ite (fun _=>SR.stuck) (fun _=>SR.Ao _ _ _ _ _ _)
  | exact(SR.stringOp _ _ _).mono fun B' a b h=>by obtain⟨rfl,h⟩:=h;exact h B'
  | exact SR.ite (fun _=>SR.stuck) (fun _=>SR.intBits _ _ _ _)
  | exact A6n hP _ (by assumption) _
omit hP in
theorem Acl (t:TypeId){x x' y y':Value}(hx:VR X B x x')(hy:VR X B y y'):SR X P P' (Ac X) B (binOp .or t x y) (binOp .or t x' y'):=by
 unfold binOp
 cases hx<;>cases hy<;>first
  | exact SR.stuck
  | exact SR.unsupported
  | exact SR.ite (fun _=>SR.stuck) (fun _=>(SR.floatArith _ _ _ _).mono fun B' a b h=>by obtain⟨rfl,r,rfl⟩:=h;exact .float _ _)
  | exact SR.ite (fun _=>SR.stuck) (fun _=>(SR.floatCmp _ _ _ _).mono fun B' a b h=>by obtain⟨rfl,r,rfl⟩:=h;exact .bool _)
  | exact SR.ite (fun _=>SR.stuck) (fun _=>SR.Ao _ _ _ _ _ _)
  | exact(SR.stringOp _ _ _).mono fun B' a b h=>by obtain⟨rfl,h⟩:=h;exact h B'
  | exact SR.ite (fun _=>SR.stuck) (fun _=>SR.intBits _ _ _ _)
omit hP in
theorem A9c (t:TypeId){x x' y y':Value}(hx:VR X B x x')(hy:VR X B y y'):SR X P P' (Ac X) B (binOp .xor t x y) (binOp .xor t x' y'):=by
 unfold binOp
 cases hx<;>cases hy<;>first
  | exact SR.stuck
  | exact SR.unsupported
  | exact SR.ite (fun _=>SR.stuck) (fun _=>(SR.floatArith _ _ _ _).mono fun B' a b h=>by obtain⟨rfl,r,rfl⟩:=h;exact .float _ _)
  | exact SR.ite (fun _=>SR.stuck) (fun _=>(SR.floatCmp _ _ _ _).mono fun B' a b h=>by obtain⟨rfl,r,rfl⟩:=h;exact .bool _)
  | exact SR.ite (fun _=>SR.stuck) (fun _=>SR.Ao _ _ _ _ _ _)
  | exact(SR.stringOp _ _ _).mono fun B' a b h=>by obtain⟨rfl,h⟩:=h;exact h B'
  | exact SR.ite (fun _=>SR.stuck) (fun _=>SR.intBits _ _ _ _)
theorem A99 (t:TypeId){x x' y y':Value}(hx:VR X B x x')(hy:VR X B y y'):SR X P P' (Ac X) B (binOp .shl t x y) (binOp .shl t x' y'):=by
 unfold binOp
 cases hx<;>cases hy<;>first
  | exact SR.stuck
  | exact SR.unsupported
  | exact SR.ite (fun _=>SR.stuck) (fun _=>(SR.floatArith _ _ _ _).mono fun B' a b h=>by obtain⟨rfl,r,rfl⟩:=h;exact .float _ _)
  | exact SR.ite (fun _=>SR.stuck) (fun _=>(SR.floatCmp _ _ _ _).mono fun B' a b h=>by obtain⟨rfl,r,rfl⟩:=h;exact .bool _)
  | exact SR.ite (fun _=>SR.stuck) (fun _=>SR.Ao _ _ _ _ _ _)
  | exact(SR.stringOp _ _ _).mono fun B' a b h=>by obtain⟨rfl,h⟩:=h;exact h B'
  | exact SR.shift hP _ _ _ _ _
theorem A9a (t:TypeId){x x' y y':Value}(hx:VR X B x x')(hy:VR X B y y'):SR X P P' (Ac X) B (binOp .shr t x y) (binOp .shr t x' y'):=by
 unfold binOp
 cases hx<;>cases hy<;>first
  | exact SR.stuck
  | exact SR.unsupported
  | exact SR.ite (fun _=>SR.stuck) (fun _=>(SR.floatArith _ _ _ _).mono fun B' a b h=>by obtain⟨rfl,r,rfl⟩:=h;exact .float _ _)
  | exact SR.ite (fun _=>SR.stuck) (fun _=>(SR.floatCmp _ _ _ _).mono fun B' a b h=>by obtain⟨rfl,r,rfl⟩:=h;exact .bool _)
  | exact SR.ite (fun _=>SR.stuck) (fun _=>SR.Ao _ _ _ _ _ _)
  | exact(SR.stringOp _ _ _).mono fun B' a b h=>by obtain⟨rfl,h⟩:=h;exact h B'
  | exact SR.shift hP _ _ _ _ _
omit hP in
theorem Z3 (t:TypeId){x x' y y':Value}(hx:VR X B x x')(hy:VR X B y y'):SR X P P' (Ac X) B (binOp .andNot t x y) (binOp .andNot t x' y'):=by
 unfold binOp
 cases hx<;>cases hy<;>first
  | exact SR.stuck
  | exact SR.unsupported
  | exact SR.ite (fun _=>SR.stuck) (fun _=>(SR.floatArith _ _ _ _).mono fun B' a b h=>by obtain⟨rfl,r,rfl⟩:=h;exact .float _ _)
  | exact SR.ite (fun _=>SR.stuck) (fun _=>(SR.floatCmp _ _ _ _).mono fun B' a b h=>by obtain⟨rfl,r,rfl⟩:=h;exact .bool _)
  | exact SR.ite (fun _=>SR.stuck) (fun _=>SR.Ao _ _ _ _ _ _)
  | exact(SR.stringOp _ _ _).mono fun B' a b h=>by obtain⟨rfl,h⟩:=h;exact h B'
  | exact SR.ite (fun _=>SR.stuck) (fun _=>SR.intBits _ _ _ _)
theorem A95 (t:TypeId){x x' y y':Value}(hx:VR X B x x')(hy:VR X B y y'):SR X P P' (Ac X) B (binOp .lss t x y) (binOp .lss t x' y'):=by
 unfold binOp
 cases hx<;>cases hy<;>first
  | exact SR.stuck
  | exact SR.unsupported
  | exact SR.ite (fun _=>SR.stuck) (fun _=>(SR.floatArith _ _ _ _).mono fun B' a b h=>by obtain⟨rfl,r,rfl⟩:=h;exact .float _ _)
  | exact SR.ite (fun _=>SR.stuck) (fun _=>(SR.floatCmp _ _ _ _).mono fun B' a b h=>by obtain⟨rfl,r,rfl⟩:=h;exact .bool _)
  | exact SR.ite (fun _=>SR.stuck) (fun _=>SR.Ao _ _ _ _ _ _)
  | exact(SR.stringOp _ _ _).mono fun B' a b h=>by obtain⟨rfl,h⟩:=h;exact h B'
  | exact SR.ite (fun _=>SR.stuck) (fun _=>SR.intCmp _ _ _)
  | exact Nv hP _ (by assumption) (by assumption)
theorem A94 (t:TypeId){x x' y y':Value}(hx:VR X B x x')(hy:VR X B y y'):SR X P P' (Ac X) B (binOp .leq t x y) (binOp .leq t x' y'):=by
 unfold binOp
 cases hx<;>cases hy<;>first
  | exact SR.stuck
  | exact SR.unsupported
  | exact SR.ite (fun _=>SR.stuck) (fun _=>(SR.floatArith _ _ _ _).mono fun B' a b h=>by obtain⟨rfl,r,rfl⟩:=h;exact .float _ _)
  | exact SR.ite (fun _=>SR.stuck) (fun _=>(SR.floatCmp _ _ _ _).mono fun B' a b h=>by obtain⟨rfl,r,rfl⟩:=h;exact .bool _)
  | exact SR.ite (fun _=>SR.stuck) (fun _=>SR.Ao _ _ _ _ _ _)
  | exact(SR.stringOp _ _ _).mono fun B' a b h=>by obtain⟨rfl,h⟩:=h;exact h B'
  | exact SR.ite (fun _=>SR.stuck) (fun _=>SR.intCmp _ _ _)
  | exact Nv hP _ (by assumption) (by assumption)
theorem A93 (t:TypeId){x x' y y':Value}(hx:VR X B x x')(hy:VR X B y y'):SR X P P' (Ac X) B (binOp .gtr t x y) (binOp .gtr t x' y'):=by
 unfold binOp
 cases hx<;>cases hy<;>first
  | exact SR.stuck
  | exact SR.unsupported
  | exact SR.ite (fun _=>SR.stuck) (fun _=>(SR.floatArith _ _ _ _).mono fun B' a b h=>by obtain⟨rfl,r,rfl⟩:=h;exact .float _ _)
  | exact SR.ite (fun _=>SR.stuck) (fun _=>(SR.floatCmp _ _ _ _).mono fun B' a b h=>by obtain⟨rfl,r,rfl⟩:=h;exact .bool _)
  | exact SR.ite (fun _=>SR.stuck) (fun _=>SR.Ao _ _ _ _ _ _)
  | exact(SR.stringOp _ _ _).mono fun B' a b h=>by obtain⟨rfl,h⟩:=h;exact h B'
  | exact SR.ite (fun _=>SR.stuck) (fun _=>SR.intCmp _ _ _)
  | exact Nv hP _ (by assumption) (by assumption)
theorem A92 (t:TypeId){x x' y y':Value}(hx:VR X B x x')(hy:VR X B y y'):SR X P P' (Ac X) B (binOp .geq t x y) (binOp .geq t x' y'):=by
 unfold binOp
 cases hx<;>cases hy<;>first
  | exact SR.stuck
  | exact SR.unsupported
  | exact SR.ite (fun _=>SR.stuck) (fun _=>(SR.floatArith _ _ _ _).mono fun B' a b h=>by obtain⟨rfl,r,rfl⟩:=h;exact .float _ _)
  | exact SR.ite (fun _=>SR.stuck) (fun _=>(SR.floatCmp _ _ _ _).mono fun B' a b h=>by obtain⟨rfl,r,rfl⟩:=h;exact .bool _)
  | exact SR.ite (fun _=>SR.stuck) (fun _=>SR.Ao _ _ _ _ _ _)
  | exact(SR.stringOp _ _ _).mono fun B' a b h=>by obtain⟨rfl,h⟩:=h;exact h B'
  | exact SR.ite (fun _=>SR.stuck) (fun _=>SR.intCmp _ _ _)
  | exact Nv hP _ (by assumption) (by assumption)
end
end Lr
namespace Lr
section
variable {X : Cx} {P P' : Program} {B : Lk} (hP : PRel X P P')
theorem Qb {f:Value->ByteArray->Sem (ForInStep ByteArray)}(h1:∀n s,f (.int .u8 n) s=Pure.pure (.yield (s.push (UInt8.ofNat n.toNat))))(h2:∀v s,(∀n,v≠.int .u8 n)->∃why,f v s=stuck why) :
 ∀{l l':List Value} {B:Lk} (s:ByteArray),LR X B l l'->SR X P P' Same B (forIn l s f) (forIn l' s f)
 | [],[],_,s,_=>by simp only[List.forIn_nil];exact SR.pure rfl
 | v :: l,v' :: l',B,s,.cons hv h=>by
   simp only[List.forIn_cons]
   by_cases hb:∃n,v=.int .u8 n
   ·obtain⟨n,rfl⟩:=hb
    cases hv
    rw[h1]
    exact Qb h1 h2 (s.push (UInt8.ofNat n.toNat)) h
   ·obtain⟨why,e⟩:=h2 v s fun n e=>hb ⟨n,e⟩
    rw[e]
    exact SR.stuck
include hP in
theorem Oz {x x':Value}(h:VR X B x x'):SR X P P' (Ac X) B (Conv.bytesToString x) (Conv.bytesToString x'):=by
 unfold Conv.bytesToString
 cases h<;>first
  | exact SR.stuck
  | exact SR.pure (.string _)
  | skip
 dsimp only
 refine SR.bind (SR.loadCells hP (by assumption) _) fun B1 l1 c c' hc=>?_
 rw[<-Ap7,<-Ap7]
 refine SR.bind (Qb (fun n s=>rfl) (fun v s hv=>?_) _ hc.toList) ?_
 ·cases v<;>first
   | exact⟨_,rfl⟩
   | skip
  rename_i k n
  cases k<;>first
   | exact⟨_,rfl⟩
   | exact absurd rfl (hv _)
 ·rintro B2 l2 s _ rfl
  exact SR.pure (.string _)
include hP
theorem Aez (ts:Array TypeId)(t:TypeId){p p':Array Value}(h:AR X B p p'):SR X P P' (Ac X) B (Builtin.copy_ ts t p) (Builtin.copy_ ts t p'):=by
 unfold Builtin.copy_
 cases hts:ts[0]? with
 | none=>exact SR.stuck
 | some d =>
   rcases h.get 0 with⟨x,x',e1,e2,hx⟩ |⟨e1,e2⟩
   case inr=>rw[e1];exact SR.stuck
   rcases h.get 1 with⟨y,y',e3,e4,hy⟩ |⟨e3,e4⟩
   case inr=>rw[e1,e3];exact SR.stuck
   rw[e1,e2,e3,e4];dsimp only
   refine SR.bind (SR.underlying hP d) ?_
   rintro B1 l1 _ td ⟨rfl,hs⟩
   cases td<;>first
    | exact SR.stuck
    | skip
   rename_i e
   have hy1:=hy.mono l1
   have go:∀(b b':Option Addr) (n:Nat),Rg X B1 b b'->SR X P P' (Ac X) B1
    (do
     let n:=Nat.min (<-Builtin.lenOf y) n
     let cells <-Builtin.firstCells (<-sizeOf e) n y
     if let some a:=b then storeCells a cells.toList
     pure (goInt n))
    (do
     let n:=Nat.min (<-Builtin.lenOf y') n
     let cells <-Builtin.firstCells (<-sizeOf e) n y'
     if let some a:=b' then storeCells a cells.toList
     pure (goInt n)):=by
    intro b b' n hb
    refine SR.bind (U3 hy1) ?_
    rintro B2 l2 k _ rfl
    refine SR.bind (SR.sizeOf hP e) ?_
    rintro B3 l3 z _ rfl
    refine SR.bind (Dh hP _ _ ((hy1.mono l2).mono l3)) fun B4 l4 c c' hc=>?_
    cases hb with
    | none=>exact SR.pure (.int _ _)
    | some ha=>exact SR.bind (SR.storeCells hP 0 (((ha.mono l2).mono l3).mono l4) hc.toList) fun B5 l5 _ _ _=>SR.pure (.int _ _)
   have hx1:=hx.mono l1
   cases hx1 with
   | Iu=>exact go none none _ .none
   | slice l c h=>exact go _ _ _ (.some h)
   | _=>exact SR.stuck
end
end Lr
namespace Lr
section
variable {X : Cx} {P P' : Program} {B : Lk} (hP : PRel X P P')
theorem Vz {w:World}{a:Addr}{n:Nat}(hn:n≠0){c:Array Value}{t:TypeId}{f:Nat×Nat}(h:w.heap[a.block]?=some (.cells c t f)) :
 w.freeze a n={ w with heap:=w.heap.setIfInBounds a.block (.cells c t (if f.1 == f.2 then(a.off,a.off+n)else(min f.1 a.off,max f.2 (a.off+n)))) }:=by
 unfold World.freeze;rw[Amd hn]
 congr 1
 apply Ank
 intro i;rw[Aoq,Am4]
 by_cases e:a.block=i
 ·subst e;obtain⟨hl,he⟩:=Alx.1 h;obtain⟨lo,hi⟩:=f;simp[hl,he]
 ·simp[e]
theorem Nc {w:World}{a:Addr}{n:Nat}(h:∀c t f,w.heap[a.block]?≠some (.cells c t f)):w.freeze a n=w:=by
 unfold World.freeze
 split
 ·rfl
 refine congrArg (fun H=>({ w with heap:=H }:World)) (?_:_=w.heap)
 apply Ank
 intro i;rw[Aoq]
 split
 ·rename_i e
  subst e
  cases hx:w.heap[a.block]? with
  | none=>rfl
  | some o =>
    cases o<;>first
     | rfl
     | exact absurd hx (h _ _ _)
 ·rfl
theorem A0t {P:Program}(a:Addr)(n:Nat)(V:World):N6 P (Go.freeze a n) V:=fun es e h=>.inl (by simpa [Go.freeze,Sem.runT,-Sem.runT_eq]using h)
theorem SR.freeze {a a':Addr}(k:Ce X B a a')(n:Nat)(hF:¬X.F a.block):SR X P P' Ql B (freeze a n) (freeze a' n):=by
 intro V W hw
 refine⟨.inr (A0t a n V),?_⟩
 simp only[Go.freeze,Sem.run];obtain⟨⟨kb,d⟩,⟨ko,kl⟩,ks⟩:=k
 have fin:∀{V1 W1:World},V.freeze a n=V1->W.freeze a' n=W1->WR X B V1 W1->Ext X B V W B V1 W1->A9w X P' Ql B V W (Sem.freeze a' n (Sem.pure ())) (.ok () (V.freeze a n)):=fun{V1 W1} e1 e2 h1 h2=>by
  rw[e1]
  exact⟨B,W1,(),#[],h2,h1,fun es=>by simp[Sem.runT,-Sem.runT_eq,e2],trivial,.nil⟩
 by_cases hn:n=0
 ·exact fin (by simp[World.freeze,hn]) (by simp[World.freeze,hn]) hw (Ext.refl ..)
 rcases hw.at kb d with⟨c,c',t,t',f,f',h1,h2,ha,hf,hm⟩ |⟨_,o,o',h1,h2,_,h3,h4,_⟩
 ·rcases hf with⟨_,rfl,har⟩ |⟨h,_⟩
  ·obtain rfl:t'=t:=by
    have hL:X.L a.block=0:=Anm fun x=>hF (X.lf _ x)
    rcases hm with⟨h,_⟩ |⟨_,e,_⟩
    ·exact absurd hL h
    ·exact e
   obtain⟨g1,g2⟩:=hw.upd kb d hF (Um.cells (c:=c) (c':=c') t' (if f'.1 == f'.2 then(a.off,a.off+n)else(min f'.1 a.off,max f'.2 (a.off+n))) har)
   refine fin (Vz hn h1) ?_ g1 g2
   rw[Vz hn h2,ko]
  ·exact absurd h hF
 ·exact fin (Nc fun c t f e=>by rw[h1]at e;cases e;exact h3 _ _ _ rfl) (Nc fun c t f e=>by rw[h2]at e;cases e;exact h4 _ _ _ rfl) hw (Ext.refl ..)
include hP
theorem Kb (hx:X.Ex){a a':Addr}(h:Ce X B a a')(u:TypeId)(n:Nat):SR X P P' Same B (variablesAt a u n) (variablesAt a' u n):=by
 unfold variablesAt
 refine SR.bind SR.program ?_
 rintro B1 l1 p p' ⟨rfl,rfl⟩
 refine SR.bind (SR.Ml hx (l1 _ _ h.1.1) h.1.2) ?_
 rintro B2 l2 _ s rfl
 cases s with
 | none=>exact SR.pure rfl
 | some y =>
   obtain⟨e,c⟩:=y;dsimp only;rw[Xa hP.Gb,Ft hP.Gb,Dr hP.Gb,h.2.1.1]
   exact SR.pure rfl
theorem X7 {a a':Addr}(h:Ce X B a a'):SR X P P' (fun B' x x'=>Ce X B' x x') B (Conv.seenAt a) (Conv.seenAt a'):=by
 unfold Conv.seenAt
 refine SR.bind (Kx h) ?_
 rintro B1 l1 x x' (⟨rfl,rfl⟩ |⟨b,b',u,rfl,rfl,hb,hx⟩)
 ·exact SR.pure (h.mono l1)
 ·dsimp only;rw[h.2.1.1,h.2.2,hb.2.2]
  refine SR.ite (fun _=>SR.pure hb) (fun _=>SR.ite (fun _=>SR.A9) (fun _=>?_))
  refine SR.bind SR.program ?_
  rintro B2 l2 p p' ⟨rfl,rfl⟩;rw[Hs hP.Gb,Ft hP.Gb]
  cases byteOfCell p p.depth u a.off with
  | none=>exact SR.unsupported
  | some β =>
    dsimp only
    refine SR.bind (SR.Ml hx (l2 _ _ hb.1.1) hb.1.2) ?_
    rintro B3 l3 _ s rfl
    cases s with
    | none=>exact SR.unsupported
    | some y =>
      obtain⟨e,c⟩:=y;dsimp only;rw[Dr hP.Gb,hP.cellAtBytes,hb.2.1.1]
      refine SR.ite (fun _=>SR.A9) (fun _=>?_)
      cases cellAtBytes p p.depth e (c / p.cellsOf e) b.off β with
      | none=>exact SR.unsupported
      | some o=>exact SR.pure ⟨((hb.mono l2).mono l3).1,⟨rfl,by rw[Cx.exL hx];exact Amu _⟩,rfl⟩
omit hP in
theorem A52 (hx:X.Ex){a a':Addr}(h:Ce X B a a'):SR X P P' Same B (cellsIn a.block) (cellsIn a'.block):=by
 unfold cellsIn
 refine SR.bind (SR.Ml hx h.1.1 h.1.2) ?_
 rintro B1 l1 _ s rfl
 cases s with
 | some y=>exact SR.pure rfl
 | none =>
   dsimp only
   refine SR.bind (SR.getObj (l1 _ _ h.1.1)) fun B2 _ o o' ho=>?_
   cases ho<;>exact SR.pure rfl
omit hP in
theorem Mp (hx:X.Ex){a a':Addr}(h:Ce X B a a')(t:TypeId):SR X P P' (Ac X) B (do pure (.pointer (some ⟨<-newObj (.view a t),0,none⟩))) (do pure (.pointer (some ⟨<-newObj (.view a' t),0,none⟩))) :=
 SR.bind (SR.newObj (.view t hx h)) fun _ _ _ _ hr=>SR.pure (.ptr ⟨⟨hr.1,hr.2.1⟩,⟨rfl,Aof hr.2.2⟩,rfl⟩)
theorem A2l (hx:X.Ex)(s d e:TypeId)(hs:P.underlying s=some (.pointer e))(hd:P.underlying d=some .unsafePointer){x x':Value}(h:VR X B x x'):SR X P P' (Ac X) B (Conv.unsafePointer s d x) (Conv.unsafePointer s d x'):=by
 unfold Conv.unsafePointer
 refine SR.bind (SR.underlying hP s) ?_
 rintro B1 l1 _ ts ⟨rfl,es⟩;obtain rfl:=Aml (hs.symm.trans es)
 refine SR.bind (SR.underlying hP d) ?_
 rintro B2 l2 _ td ⟨rfl,ed⟩;obtain rfl:=Aml (hd.symm.trans ed);have h:=(h.mono l1).mono l2
 cases h<;>first
  | exact SR.stuck
  | exact SR.pure .Mj
  | skip
 rename_i a a' ha
 dsimp only
 refine SR.bind (X7 hP ha) fun B3 l3 b b' hb=>?_
 refine SR.bind (A52 hx hb) ?_
 rintro B4 l4 n _ rfl;rw[hb.2.1.1,hb.2.2]
 refine SR.bind (SR.sizeOf hP _) ?_
 rintro B5 l5 z _ rfl
 exact SR.ite (fun _=>Mp hx ((hb.mono l4).mono l5) _) (fun _=>SR.pure (.ptr ((hb.mono l4).mono l5)))
theorem Vb (hx:X.Ex)(s d e:TypeId)(hs:P.underlying s=some .unsafePointer)(hd:P.underlying d=some (.pointer e)){x x':Value}(h:VR X B x x'):SR X P P' (Ac X) B (Conv.unsafePointer s d x) (Conv.unsafePointer s d x'):=by
 unfold Conv.unsafePointer
 refine SR.bind (SR.underlying hP s) ?_
 rintro B1 l1 _ ts ⟨rfl,es⟩;obtain rfl:=Aml (hs.symm.trans es)
 refine SR.bind (SR.underlying hP d) ?_
 rintro B2 l2 _ td ⟨rfl,ed⟩;obtain rfl:=Aml (hd.symm.trans ed);have h:=(h.mono l1).mono l2
 cases h<;>first
  | exact SR.stuck
  | exact SR.pure .Mj
  | skip
 rename_i a a' ha
 dsimp only
 refine SR.bind (X7 hP ha) fun B3 l3 b b' hb=>?_
 refine SR.bind (SR.sizeOf hP _) ?_
 rintro B4 l4 z _ rfl;have hb:=hb.mono l4
 have view:∀{B5:Lk},Le B4 B5->SR X P P' (Ac X) B5 (do
  match <-shape b.block with
  | some (e,_) =>
    if(<-program).holdsStoodIn (<-program).depth e then unsupported (.unsafePointer "memory that holds a struct of a package that the model stands in for, seen as another type")
  | none=>unsupported (.unsafePointer "memory that has no shape (a package-level variable that still waits for its initialiser), seen as another type")
  pure (.pointer (some ⟨<-newObj (.view b e),0,none⟩))) (do
  match <-shape b'.block with
  | some (e,_) =>
    if(<-program).holdsStoodIn (<-program).depth e then unsupported (.unsafePointer "memory that holds a struct of a package that the model stands in for, seen as another type")
  | none=>unsupported (.unsafePointer "memory that has no shape (a package-level variable that still waits for its initialiser), seen as another type")
  pure (.pointer (some ⟨<-newObj (.view b' e),0,none⟩))):=by
  intro B5 l5
  refine SR.bind (SR.Ml hx (l5 _ _ hb.1.1) hb.1.2) ?_
  rintro B6 l6 _ s rfl
  cases s with
  | none=>exact SR.A9
  | some y =>
    dsimp only
    refine SR.bind SR.program ?_
    rintro B7 l7 p p' ⟨rfl,rfl⟩
    refine SR.bind SR.program ?_
    rintro B8 l8 p2 p2' ⟨rfl,rfl⟩;rw[A2s hP.Gb,Ft hP.Gb]
    exact SR.ite (fun _=>SR.A9) (fun _=>Mp hx ((((hb.mono l5).mono l6).mono l7).mono l8) _)
 refine SR.bind (Kb hP hx hb _ _) ?_
 rintro B5 l5 q _ rfl
 exact SR.ite (fun _=>SR.pure (.ptr (hb.mono l5))) (fun _=>view l5)
theorem Z4 (hx:X.Ex)(ts:Array TypeId)(t:TypeId){p p':Array Value}(h:AR X B p p'):SR X P P' (Ac X) B (Builtin.unsafeSliceData_ ts t p) (Builtin.unsafeSliceData_ ts t p'):=by
 have h:=h.toList;obtain⟨l⟩:=p;obtain⟨l'⟩:=p';dsimp only at h
 rcases h with _|@⟨b,b',_,_,hb,_|h⟩<;>first
  | exact SR.stuck
  | skip
 unfold Builtin.unsafeSliceData_
 cases hb<;>first
  | exact SR.stuck
  | exact SR.pure .Mj
  | skip
 rename_i a a' l c ha
 refine SR.ite (fun _=>SR.pure (.ptr ha)) (fun _=>?_)
 refine SR.bind (Kx ha) ?_
 rintro B1 l1 x x' hv
 have e:x'.isSome=x.isSome:=by
  rcases hv with⟨rfl,rfl⟩ |⟨b,b',u,rfl,rfl,_⟩<;>rfl
 rw[e]
 refine SR.ite (fun _=>SR.pure (.ptr (ha.mono l1))) (fun _=>?_)
 refine SR.bind (SR.elemOf hP t) ?_
 rintro B2 l2 u _ rfl
 exact Mp hx ((ha.mono l1).mono l2) _
theorem Nw:∀(n:Nat) {B:Lk} {a a':Addr} (s:ByteArray),Ce X B a a'->SR X P P' Same B (loadBytes a s n) (loadBytes a' s n)
 | 0,_,_,_,_,_=>SR.pure rfl
 | n+1,_,_,_,s,h=>by
   unfold Go.loadBytes
   refine SR.bind (SR.load hP.Gb h) fun B1 l1 v v' hv=>?_
   cases hv with
   | int k m =>
     cases k<;>first
      | exact SR.stuck
      | exact Nw n _ ((h.mono l1).add 1)
   | _=>exact SR.stuck
theorem Qr (hx:X.Ex)(ts:Array TypeId)(t:TypeId){p p':Array Value}(h:AR X B p p'):SR X P P' (Ac X) B (Builtin.unsafeString_ ts t p) (Builtin.unsafeString_ ts t p'):=by
 have h:=h.toList;obtain⟨l⟩:=p;obtain⟨l'⟩:=p';dsimp only at h
 rcases h with _|@⟨b,b',_,_,hb,_|@⟨c,c',_,_,hc,_|h⟩⟩<;>first
  | exact SR.stuck
  |(cases hb<;>exact SR.stuck)
  | skip
 unfold Builtin.unsafeString_
 have ors:(∃a a',b=.pointer a/\b'=.pointer a'/\Rg X B a a') \/(∀a,b≠.pointer a):=by
  cases hb<;>first
   | exact .inl ⟨_,_,rfl,rfl,.none⟩
   | exact .inl ⟨_,_,rfl,rfl,.some (by assumption)⟩
   | exact .inr fun _ e=>(by cases e)
 rcases ors with⟨a,a',rfl,rfl,ha⟩|hn
 case inr=>cases b<;>first|exact SR.stuck|exact absurd rfl (hn _)
 dsimp only
 refine SR.bind (SR.asInt hc) ?_
 rintro B1 l1 _ n rfl
 cases ts[0]? with
 | none=>exact SR.stuck
 | some pt =>
 dsimp only
 refine SR.ite (fun _=>SR.bind (R:=fun _ _ _=>False) (SR.runtimePanic hP (e:=.error _) trivial) fun _ _ _ _ h=>h.elim) (fun hneg=>?_)
 refine SR.ite (fun _=>SR.A9) (fun _=>?_)
 cases ha with
 | none=>exact SR.ite (fun _=>SR.pure (.string _)) (fun _=>SR.runtimePanic hP (e:=.error _) trivial)
 | some ha =>
   dsimp only
   refine SR.ite (fun _=>SR.pure (.string _)) (fun h1=>?_)
   have ha1:=ha.mono l1
   refine SR.bind (SR.elemOf hP pt) ?_
   rintro B2 l2 _ u rfl
   refine SR.bind (Kb hP hx (ha1.mono l2) _ _) ?_
   rintro B3 l3 _ q rfl
   refine SR.ite (fun e=>?_) (fun _=>SR.unsupported)
   have ha3:=(ha1.mono l2).mono l3
   refine SR.bind (Nw hP _ _ ha3) ?_
   rintro B4 l4 s _ rfl
   exact SR.bind (SR.freeze (ha3.mono l4) _ (X.exF hx _)) fun B5 l5 _ _ _=>SR.pure (.string _)
end
end Lr
namespace Lr
def Fe:Value->Value->Prop
 | .int _ _,.int _ _|.float _ _,.float _ _|.complex _ _ _,.complex _ _ _|.string _,.string _=>True
 | _,_=>False
theorem binOp_eql {t:TypeId}{x y:Value}(h:¬Fe x y):binOp .eql t x y=(Op.equal t x y >>= fun q=>Pure.pure (.bool q)):=by
 cases x<;>cases y<;>first|rfl|exact absurd trivial h
theorem binOp_neq {t:TypeId}{x y:Value}(h:¬Fe x y):binOp .neq t x y=(Op.equal t x y >>= fun q=>Pure.pure (.bool !q)):=by
 cases x<;>cases y<;>first|rfl|exact absurd trivial h
theorem Fe.rel {X:Cx}{B:Lk}{x x' y y':Value}(hx:VR X B x x')(hy:VR X B y y')(h:Fe x y):x'=x/\y'=y:=by
 cases hx<;>cases hy<;>first|exact⟨rfl,rfl⟩|exact h.elim
section
variable {X : Cx} {P P' : Program} {B : Lk} (hP : PRel X P P')
theorem A2i (op:BinOp)(ho:op=.eql\/op=.neq)(t:TypeId){x y:Value}(h:Fe x y):SR X P P' (Ac X) B (binOp op t x y) (binOp op t x y):=by
 rcases ho with rfl|rfl<;>cases x<;>cases y<;>first
  | exact h.elim
  | exact SR.ite (fun _=>SR.stuck) (fun _=>SR.intCmp _ _ _)
  | exact SR.ite (fun _=>SR.stuck) (fun _=>(SR.floatCmp _ _ _ _).mono fun B' a b h=>by obtain⟨rfl,r,rfl⟩:=h;exact .bool _)
  | exact SR.ite (fun _=>SR.stuck) (fun _=>SR.Ao _ _ _ _ _ _)
  |(unfold binOp
    exact(SR.stringOp _ _ _).mono fun B' a b h=>by obtain⟨rfl,h⟩:=h;exact h B')
theorem V9 (op:BinOp)(t:TypeId)(o:Operand)(v:Value){x x':Value}(hx:VR X B x x'):SR X P P' Ql B (eqGuard op t o (.const v) x .nilIface) (eqGuard op t o (.const v) x' .nilIface):=by
 unfold eqGuard
 refine SR.ite (fun _=>SR.pure trivial) (fun _=>?_)
 cases hx<;>first
  | exact SR.pure trivial
  |(simp only[Bool.or_true,Apg];exact SR.pure trivial)
include hP
theorem A2j (op:BinOp)(ho:op=.eql\/op=.neq)(t:TypeId)(k:Nat)(ht:Ly P k t=true){x x' y y':Value}(hx:VR X B x x')(hy:VR X B y y'):SR X P P' (Ac X) B (binOp op t x y) (binOp op t x' y'):=by
 by_cases h:Fe x y
 ·obtain⟨rfl,rfl⟩:=h.rel hx hy
  exact A2i op ho t h
 ·have h':¬Fe x' y':=by
   intro e
   apply h
   cases hx<;>cases hy<;>first|exact trivial|exact e.elim
  rcases ho with rfl|rfl
  ·rw[binOp_eql h,binOp_eql h']
   refine SR.bind (U2 hP k Op.maxDepth t ht hx hy) ?_
   rintro B1 l1 _ q rfl
   exact SR.pure (.bool _)
  ·rw[binOp_neq h,binOp_neq h']
   refine SR.bind (U2 hP k Op.maxDepth t ht hx hy) ?_
   rintro B1 l1 _ q rfl
   exact SR.pure (.bool _)
theorem A2b (op:BinOp)(t:TypeId)(k:Nat)(ht:op=.eql\/op=.neq->Ly P k t=true){x x' y y':Value}(hx:VR X B x x')(hy:VR X B y y'):SR X P P' (Ac X) B (binOp op t x y) (binOp op t x' y'):=by
 cases op with
 | add=>exact A90 hP t hx hy
 | sub=>exact A9b hP t hx hy
 | mul=>exact A96 t hx hy
 | quo=>exact A97 hP t hx hy
 | rem=>exact A98 hP t hx hy
 | and=>exact A91 hP t hx hy
 | or=>exact Acl t hx hy
 | xor=>exact A9c t hx hy
 | shl=>exact A99 hP t hx hy
 | shr=>exact A9a hP t hx hy
 | andNot=>exact Z3 t hx hy
 | eql=>exact A2j hP .eql (.inl rfl) t k (ht (.inl rfl)) hx hy
 | neq=>exact A2j hP .neq (.inr rfl) t k (ht (.inr rfl)) hx hy
 | lss=>exact A95 hP t hx hy
 | leq=>exact A94 hP t hx hy
 | gtr=>exact A93 hP t hx hy
 | geq=>exact A92 hP t hx hy
theorem Qd (d:Nat)(t:TypeId){x x':Value}(hx:VR X B x x'):SR X P P' Same B (Op.equalIn (d+1) t x .nilIface) (Op.equalIn (d+1) t x' .nilIface):=by
 unfold Op.equalIn
 refine SR.bind (SR.underlying hP t) ?_
 rintro B1 l1 _ td ⟨rfl,_⟩;have hx:=hx.mono l1
 cases td<;>cases hx<;>first
  | exact SR.pure rfl
  | exact SR.stuck
  | exact SR.unsupported
theorem Ack (op:BinOp)(ho:op=.eql\/op=.neq)(t:TypeId){x x':Value}(hx:VR X B x x'):SR X P P' (Ac X) B (binOp op t x .nilIface) (binOp op t x' .nilIface):=by
 have h:∀z:Value,¬Fe z .nilIface:=fun z e=>by cases z<;>exact e.elim
 rcases ho with rfl|rfl
 ·rw[binOp_eql (h x),binOp_eql (h x')]
  refine SR.bind (Qd hP _ t hx) ?_
  rintro B1 l1 _ q rfl
  exact SR.pure (.bool _)
 ·rw[binOp_neq (h x),binOp_neq (h x')]
  refine SR.bind (Qd hP _ t hx) ?_
  rintro B1 l1 _ q rfl
  exact SR.pure (.bool _)
def A5k (P:Program)(s d:TypeId):Bool :=
 match P.underlying s,P.underlying d with
 | some (.int _),some (.int _)|some (.int _),some (.float _)|some (.float _),some (.int _)|some (.float _),some (.float _)|some (.complex _),some (.complex _)=>true
 | some (.slice e),some .string=>match P.underlying e with
   | some (.int .u8)=>true
   | _=>false
 | _,_=>false
theorem A54 (s d:TypeId)(hc:A5k P s d=true){x x':Value}(hx:VR X B x x'):SR X P P' (Ac X) B (convert s d x) (convert s d x'):=by
 unfold convert
 refine SR.bind (SR.underlying hP s) ?_
 rintro B1 l1 _ ts ⟨rfl,hs⟩
 refine SR.bind (SR.underlying hP d) ?_
 rintro B2 l2 _ td ⟨rfl,hd⟩;have hx:=(hx.mono l1).mono l2;unfold A5k at hc;rw[hs,hd]at hc
 have c2:∀{B:Lk} (s:FloatKind) (a b:Nat) (k:FloatKind),SR X P P' (Ac X) B (Conv.complexToComplex s a b k) (Conv.complexToComplex s a b k):=by
  intro B s a b k;unfold Conv.complexToComplex
  refine SR.bind (SR.floatToFloat _ _ _) ?_
  rintro B3 l3 v _ ⟨rfl,r,rfl⟩
  refine SR.bind (SR.floatToFloat _ _ _) ?_
  rintro B4 l4 v _ ⟨rfl,q,rfl⟩
  exact SR.pure (.complex _ _ _)
 by_cases hbs:∃e,ts=.slice e/\td=.string
 ·obtain⟨e,rfl,rfl⟩:=hbs
  replace hc:(match P.underlying e with
   | some (.int .u8)=>true
   | _=>false)=true:=hc
  cases he:P.underlying e with
  | none=>rw[he]at hc;simp at hc
  | some te =>
    rw[he]at hc;have hx':=hx
    cases hx<;>first
     | exact SR.unsupported
     | exact SR.stuck
     | exact SR.pure (.string _)
     | skip
    all_goals
     refine SR.bind (SR.underlying hP e) ?_
     rintro B3 l3 _ tq ⟨rfl,hq⟩;obtain rfl:=Aml (he.symm.trans hq)
     split at hc<;>first
      | cases hc
      | skip
     rename_i hq2
     cases hq2
     exact Oz hP (hx'.mono l3)
 cases ts<;>cases td<;>simp only[Amk]at hc<;>cases hx<;>first
  | exact absurd ⟨_,rfl,rfl⟩ hbs
  | exact SR.unsupported
  | exact SR.stuck
  | exact SR.pure (.int _ _)
  | exact SR.pure (.float _ _)
  | exact SR.floatToInt _ _ _
  | exact(SR.floatToFloat _ _ _).mono fun B' a b h=>by obtain⟨rfl,r,rfl⟩:=h;exact .float _ _
  | exact c2 _ _ _ _
def A5l (P:Program)(s d:TypeId):Bool :=
 match P.underlying s,P.underlying d with
 | some (.pointer _),some .unsafePointer|some .unsafePointer,some (.pointer _)=>true
 | _,_=>false
theorem A2c (hx:X.Ex)(s d:TypeId)(hc:A5l P s d=true){x x':Value}(h:VR X B x x'):SR X P P' (Ac X) B (convert s d x) (convert s d x'):=by
 unfold convert
 refine SR.bind (SR.underlying hP s) ?_
 rintro B1 l1 _ ts ⟨rfl,hs⟩
 refine SR.bind (SR.underlying hP d) ?_
 rintro B2 l2 _ td ⟨rfl,hd⟩;unfold A5l at hc;rw[hs,hd]at hc;have h:=(h.mono l1).mono l2
 cases ts<;>cases td<;>simp only[Amk]at hc
 all_goals first
  | exact A2l hP hx s d _ hs hd h
  | exact Vb hP hx s d _ hs hd h
omit hP in
theorem Nx (hx:X.Ex){a a':Addr}(h:Ce X B a a'):SR X P P' Same B (stringish a) (stringish a'):=by
 unfold stringish
 refine SR.bind (SR.R4 hx h) ?_
 rintro B1 l1 _ q rfl
 refine SR.ite (fun _=>SR.pure rfl) (fun _=>?_)
 refine SR.bind (SR.Ml hx (l1 _ _ h.1.1) h.1.2) ?_
 rintro B2 l2 _ s rfl
 cases s with
 | none=>exact SR.pure rfl
 | some y=>exact SR.R4 hx ⟨((h.mono l1).mono l2).1,⟨rfl,by rw[Cx.exL hx];exact Amu _⟩,rfl⟩
omit hP in
theorem A2g (hx:X.Ex){a a' b b':Addr}(ha:Ce X B a a')(hb:Ce X B b b'):SR X P P' Same B (mayBeOne a b) (mayBeOne a' b'):=by
 unfold mayBeOne
 refine SR.bind (Nx hx ha) ?_
 rintro B1 l1 _ q rfl
 refine SR.bind (Nx hx (hb.mono l1)) ?_
 rintro B2 l2 _ r rfl;dsimp only
 refine SR.bind (R:=Same) ?_ ?_
 ·refine SR.bind (SR.Ml hx (l2 _ _ (l1 _ _ ha.1.1)) ha.1.2) ?_
  rintro B3 l3 _ s rfl
  exact SR.pure rfl
 rintro B3 l3 _ s rfl
 refine SR.bind (R:=Same) ?_ ?_
 ·refine SR.bind (SR.Ml hx (l3 _ _ (l2 _ _ (l1 _ _ hb.1.1))) hb.1.2) ?_
  rintro B4 l4 _ s rfl
  exact SR.pure rfl
 rintro B4 l4 _ u rfl
 exact SR.pure rfl
omit hP in
theorem A2k (hx:X.Ex){a a' b b':Addr}(ha:Ce X B a a')(hb:Ce X B b b'):SR X P P' Same B (sameAddr a b) (sameAddr a' b'):=by
 refine SR.A67 fun hfn hinj _=>?_
 obtain⟨e1,e2⟩:=Ce.beq hfn hinj ha hb;unfold sameAddr;rw[e1,e2]
 refine SR.ite (fun _=>SR.pure rfl) (fun _=>?_)
 refine SR.bind (SR.R4 hx ha) ?_
 rintro B1 l1 _ q rfl
 refine SR.bind (SR.R4 hx (hb.mono l1)) ?_
 rintro B2 l2 _ r rfl
 refine SR.ite (fun _=>SR.A9) (fun _=>?_)
 refine SR.bind (P5 ((ha.mono l1).mono l2)) fun B3 l3 _ _ _=>?_
 refine SR.bind (P5 (((hb.mono l1).mono l2).mono l3)) fun B4 l4 _ _ _=>?_
 refine SR.bind (A2g hx ((((ha.mono l1).mono l2).mono l3).mono l4) ((((hb.mono l1).mono l2).mono l3).mono l4)) ?_
 rintro B5 l5 _ u rfl
 refine SR.ite (fun _=>?_) (fun _=>SR.pure rfl)
 refine SR.bind (SR.choose _) ?_
 rintro B6 l6 _ n rfl
 exact SR.pure rfl
theorem X6 (hx:X.Ex)(d:Nat)(t e:TypeId)(ht:P.underlying t=some (.pointer e)){x x' y y':Value}(h:VR X B x x')(k:VR X B y y'):SR X P P' Same B (Op.equalIn (d+1) t x y) (Op.equalIn (d+1) t x' y'):=by
 unfold Op.equalIn
 refine SR.bind (SR.underlying hP t) ?_
 rintro B1 l1 _ td ⟨rfl,hd⟩;obtain rfl:=Aml (ht.symm.trans hd);have h:=h.mono l1;have k:=k.mono l1
 cases h<;>first
  | exact SR.stuck
  | skip
 all_goals
  cases k<;>first
   | exact SR.stuck
   | exact SR.pure rfl
   | skip
 rename_i a a' ha b b' hb
 dsimp only
 refine SR.bind (SR.sizeOf hP e) ?_
 rintro B2 l2 _ n rfl
 refine SR.ite (fun _=>A2k hx (ha.mono l2) (hb.mono l2)) (fun _=>?_)
 refine SR.A67 fun hfn hinj _=>?_
 obtain⟨_,e2⟩:=Ce.beq hfn hinj (ha.mono l2) (hb.mono l2);rw[e2]
 refine SR.ite (fun _=>SR.pure rfl) (fun _=>?_)
 refine SR.bind (SR.choose _) ?_
 rintro B3 l3 _ n rfl
 exact SR.pure rfl
theorem Ai8 (hx:X.Ex)(op:BinOp)(ho:op=.eql\/op=.neq)(t e:TypeId)(ht:P.underlying t=some (.pointer e)){x x' y y':Value}(hx':VR X B x x')(hy:VR X B y y'):SR X P P' (Ac X) B (binOp op t x y) (binOp op t x' y'):=by
 by_cases h:Fe x y
 ·obtain⟨rfl,rfl⟩:=h.rel hx' hy
  exact A2i op ho t h
 ·have h':¬Fe x' y':=by
   intro e
   apply h
   cases hx'<;>cases hy<;>first|exact trivial|exact e.elim
  rcases ho with rfl|rfl
  ·rw[binOp_eql h,binOp_eql h']
   refine SR.bind (X6 hP hx _ t e ht hx' hy) ?_
   rintro B1 l1 _ q rfl
   exact SR.pure (.bool _)
  ·rw[binOp_neq h,binOp_neq h']
   refine SR.bind (X6 hP hx _ t e ht hx' hy) ?_
   rintro B1 l1 _ q rfl
   exact SR.pure (.bool _)
theorem A2d (op:BinOp)(t e:TypeId)(ht:P.underlying t=some (.pointer e))(o o2:Operand){x x' y y':Value}(hx:VR X B x x')(hy:VR X B y y'):SR X P P' Ql B (eqGuard op t o o2 x y) (eqGuard op t o o2 x' y'):=by
 unfold eqGuard
 refine SR.ite (fun _=>SR.pure trivial) (fun _=>?_)
 cases hx<;>first
  | exact SR.pure trivial
  | skip
 all_goals
  cases hy<;>first
   | exact SR.pure trivial
   | skip
 ·dsimp only
  refine SR.ite (fun _=>SR.pure trivial) (fun _=>?_)
  refine SR.bind (R:=fun _ q q'=>q=false/\q'=false) ?_ ?_
  ·unfold Op.eqGuardIn
   refine SR.bind (SR.underlying hP t) ?_
   rintro B1 l1 _ td ⟨rfl,hd⟩;obtain rfl:=Aml (ht.symm.trans hd)
   exact SR.pure ⟨rfl,rfl⟩
  ·rintro B1 l1 _ _ ⟨rfl,rfl⟩
   exact SR.pure trivial
 ·dsimp only
  refine SR.bind SR.program ?_
  rintro B1 l1 p p' ⟨rfl,rfl⟩
  refine SR.bind SR.program ?_
  rintro B2 l2 p2 p2' ⟨rfl,rfl⟩
  have e1:p2.eqGuardType p2.depth t=false:=by
   unfold Program.depth;unfold Program.eqGuardType;rw[ht]
  rw[hP.eqGuardType,hP.depth,e1]
  exact SR.pure trivial
end
end Lr
end Go.Proofs.YtjaehldnlamgkaaGreatDoor
