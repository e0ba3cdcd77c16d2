import Derived.Test.YtlfleicchbgcmaaGreatZq8
import Derived.Test.YtlfleicchbgcmaaGreatZq0
set_option linter.all false
set_option maxHeartbeats 16000000
set_option maxRecDepth 100000
namespace Go.Proofs.YtlfleicchbgcmaaGreat
namespace Lr
section
variable {X : Cx} {P P' : Program} {B : Lk} (hP : PRel X P P')
include hP
theorem Aaq (t:TypeId){a a':Addr}(ha:E2 X B a a')(k:IntKind)(n:Int):SR X P P' (Ap X) B
 (Go.underlying t >>= fun d=>if(match d with|.unsafePointer=>true|_=>false)=true then movedPointer t (.pointer (some a)) (.int k n)else movedNumber t (.pointer (some a)) (.int k n))
 (Go.underlying t >>= fun d=>if(match d with|.unsafePointer=>true|_=>false)=true then movedPointer t (.pointer (some a')) (.int k n)else movedNumber t (.pointer (some a')) (.int k n)):=by
 refine SR.bind (SR.underlying hP t) ?_
 rintro B1 l1 _ d ⟨rfl,_⟩
 exact SR.ite (fun _=>K4 hP t (.ptr (ha.mono l1)) (.int _ _)) (fun _=>Dh hP t (.ptr (ha.mono l1)) (.int _ _))
theorem Aap (t:TypeId)(k:IntKind)(n:Int):SR X P P' (Ap X) B
 (Go.underlying t >>= fun d=>if(match d with|.unsafePointer=>true|_=>false)=true then movedPointer t (.pointer none) (.int k n)else movedNumber t (.pointer none) (.int k n))
 (Go.underlying t >>= fun d=>if(match d with|.unsafePointer=>true|_=>false)=true then movedPointer t (.pointer none) (.int k n)else movedNumber t (.pointer none) (.int k n)):=by
 refine SR.bind (SR.underlying hP t) ?_
 rintro B1 l1 _ d ⟨rfl,_⟩
 exact SR.ite (fun _=>K4 hP t .Qg (.int _ _)) (fun _=>Dh hP t .Qg (.int _ _))
theorem Ab1 {a a' b b':Addr}(ha:E2 X B a a')(hb:E2 X B b b'):SR X P P' (Ap X) B
 (behindNumber a >>= fun x=>behindNumber b >>= fun y=>Op.addrSub .u64 x.1 y.1) (behindNumber a' >>= fun x=>behindNumber b' >>= fun y=>Op.addrSub .u64 x.1 y.1):=by
 refine SR.bind (Bw ha) fun B1 l1 x x' hx=>SR.bind (Bw (hb.mono l1)) fun B2 l2 y y' hy=>A40 hP _ (hx.2.mono l2) hy.2
theorem O1 (op:BinOp){a a' b b':Addr}(ha:E2 X B a a')(hb:E2 X B b b'):SR X P P' (Ap X) B
 (behindNumber a >>= fun x=>behindNumber b >>= fun y=>Op.addrCmp op x.1 y.1) (behindNumber a' >>= fun x=>behindNumber b' >>= fun y=>Op.addrCmp op x.1 y.1):=by
 refine SR.bind (Bw ha) fun B1 l1 x x' hx=>SR.bind (Bw (hb.mono l1)) fun B2 l2 y y' hy=>A3y hP _ (hx.2.mono l2) hy.2
theorem A5s (k:IntKind){a a':Addr}(ha:E2 X B a a')(n:Int):SR X P P' (Ap X) B (behindNumber a >>= fun x=>Op.addrMod k x.1 n) (behindNumber a' >>= fun x=>Op.addrMod k x.1 n) :=
 SR.bind (Bw ha) fun _ _ _ _ hx=>A3z hP _ hx.2 n
theorem A7l (t:TypeId){x x' y y':Value}(hx:VR X B x x')(hy:VR X B y y'):SR X P P' (Ap X) B (binOp .add t x y) (binOp .add t x' y'):=by
 unfold binOp
 cases hx<;>cases hy<;>first
  | exact SR.stuck
  | exact SR.unsupported
  | exact SR.ite (fun _=>SR.stuck) (fun _=>(SR.floatArith _ _ _ _).mono fun B' a b h=>by obtain⟨rfl,r,rfl⟩:=h;exact .float _ _)
  | exact SR.ite (fun _=>SR.stuck) (fun _=>(SR.floatCmp _ _ _ _).mono fun B' a b h=>by obtain⟨rfl,r,rfl⟩:=h;exact .bool _)
  | exact SR.ite (fun _=>SR.stuck) (fun _=>SR.Bf _ _ _ _ _ _)
  | exact(SR.stringOp _ _ _).mono fun B' a b h=>by obtain⟨rfl,h⟩:=h;exact h B'
  | exact SR.ite (fun _=>SR.stuck) (fun _=>SR.intArith _ _ _ _)
  | exact Aaq hP t (by assumption) _ _
  | exact Dh hP t (.ptr (by assumption)) (.int _ _)
  | exact Dh hP t .Qg (.int _ _)
  | exact Aap hP t _ _
theorem A7w (t:TypeId){x x' y y':Value}(hx:VR X B x x')(hy:VR X B y y'):SR X P P' (Ap X) B (binOp .sub t x y) (binOp .sub t x' y'):=by
 unfold binOp
 cases hx<;>cases hy<;>first
  | exact SR.stuck
  | exact SR.unsupported
  | exact SR.ite (fun _=>SR.stuck) (fun _=>(SR.floatArith _ _ _ _).mono fun B' a b h=>by obtain⟨rfl,r,rfl⟩:=h;exact .float _ _)
  | exact SR.ite (fun _=>SR.stuck) (fun _=>(SR.floatCmp _ _ _ _).mono fun B' a b h=>by obtain⟨rfl,r,rfl⟩:=h;exact .bool _)
  | exact SR.ite (fun _=>SR.stuck) (fun _=>SR.Bf _ _ _ _ _ _)
  | exact(SR.stringOp _ _ _).mono fun B' a b h=>by obtain⟨rfl,h⟩:=h;exact h B'
  | exact SR.ite (fun _=>SR.stuck) (fun _=>SR.intArith _ _ _ _)
  | exact Dh hP t (.ptr (by assumption)) (.int _ _)
  | exact Dh hP t .Qg (.int _ _)
  | exact Ab1 hP (by assumption) (by assumption)
omit hP in
theorem A7r (t:TypeId){x x' y y':Value}(hx:VR X B x x')(hy:VR X B y y'):SR X P P' (Ap X) B (binOp .mul t x y) (binOp .mul t x' y'):=by
 unfold binOp
 cases hx<;>cases hy<;>first
  | exact SR.stuck
  | exact SR.unsupported
  | exact SR.ite (fun _=>SR.stuck) (fun _=>(SR.floatArith _ _ _ _).mono fun B' a b h=>by obtain⟨rfl,r,rfl⟩:=h;exact .float _ _)
  | exact SR.ite (fun _=>SR.stuck) (fun _=>(SR.floatCmp _ _ _ _).mono fun B' a b h=>by obtain⟨rfl,r,rfl⟩:=h;exact .bool _)
  | exact SR.ite (fun _=>SR.stuck) (fun _=>SR.Bf _ _ _ _ _ _)
  | exact(SR.stringOp _ _ _).mono fun B' a b h=>by obtain⟨rfl,h⟩:=h;exact h B'
  | exact SR.ite (fun _=>SR.stuck) (fun _=>SR.intArith _ _ _ _)
theorem A7s (t:TypeId){x x' y y':Value}(hx:VR X B x x')(hy:VR X B y y'):SR X P P' (Ap X) B (binOp .quo t x y) (binOp .quo t x' y'):=by
 unfold binOp
 cases hx<;>cases hy<;>first
  | exact SR.stuck
  | exact SR.unsupported
  | exact SR.ite (fun _=>SR.stuck) (fun _=>(SR.floatArith _ _ _ _).mono fun B' a b h=>by obtain⟨rfl,r,rfl⟩:=h;exact .float _ _)
  | exact SR.ite (fun _=>SR.stuck) (fun _=>(SR.floatCmp _ _ _ _).mono fun B' a b h=>by obtain⟨rfl,r,rfl⟩:=h;exact .bool _)
  | exact SR.ite (fun _=>SR.stuck) (fun _=>SR.Bf _ _ _ _ _ _)
  | exact(SR.stringOp _ _ _).mono fun B' a b h=>by obtain⟨rfl,h⟩:=h;exact h B'
  | exact SR.ite (fun _=>SR.stuck) (fun _=>SR.intDiv hP _ _ _ _)
theorem A7t (t:TypeId){x x' y y':Value}(hx:VR X B x x')(hy:VR X B y y'):SR X P P' (Ap X) B (binOp .rem t x y) (binOp .rem t x' y'):=by
 unfold binOp
 cases hx<;>cases hy<;>first
  | exact SR.stuck
  | exact SR.unsupported
  | exact SR.ite (fun _=>SR.stuck) (fun _=>(SR.floatArith _ _ _ _).mono fun B' a b h=>by obtain⟨rfl,r,rfl⟩:=h;exact .float _ _)
  | exact SR.ite (fun _=>SR.stuck) (fun _=>(SR.floatCmp _ _ _ _).mono fun B' a b h=>by obtain⟨rfl,r,rfl⟩:=h;exact .bool _)
  | exact SR.ite (fun _=>SR.stuck) (fun _=>SR.Bf _ _ _ _ _ _)
  | exact(SR.stringOp _ _ _).mono fun B' a b h=>by obtain⟨rfl,h⟩:=h;exact h B'
  | exact SR.ite (fun _=>SR.stuck) (fun _=>SR.intDiv hP _ _ _ _)
  | exact A5s hP _ (by assumption) _
theorem A7m (t:TypeId){x x' y y':Value}(hx:VR X B x x')(hy:VR X B y y'):SR X P P' (Ap X) B (binOp .and t x y) (binOp .and t x' y'):=by
 unfold binOp
 cases hx<;>cases hy<;>first
  | exact SR.stuck
  | exact SR.unsupported
  | exact SR.ite (fun _=>SR.stuck) (fun _=>(SR.floatArith _ _ _ _).mono fun B' a b h=>by obtain⟨rfl,r,rfl⟩:=h;exact .float _ _)
  | exact SR.ite (fun _=>SR.stuck) (fun _=>(SR.floatCmp _ _ _ _).mono fun B' a b h=>by obtain⟨rfl,r,rfl⟩:=h;exact .bool _)
  | exact SR.ite (fun _=>SR.stuck) (fun _=>SR.Bf _ _ _ _ _ _)
  | exact(SR.stringOp _ _ _).mono fun B' a b h=>by obtain⟨rfl,h⟩:=h;exact h B'
  | exact SR.ite (fun _=>SR.stuck) (fun _=>SR.intBits _ _ _ _)
  | exact A5s hP _ (by assumption) _
omit hP in
theorem Aaz (t:TypeId){x x' y y':Value}(hx:VR X B x x')(hy:VR X B y y'):SR X P P' (Ap X) B (binOp .or t x y) (binOp .or t x' y'):=by
 unfold binOp
 cases hx<;>cases hy<;>first
  | exact SR.stuck
  | exact SR.unsupported
  | exact SR.ite (fun _=>SR.stuck) (fun _=>(SR.floatArith _ _ _ _).mono fun B' a b h=>by obtain⟨rfl,r,rfl⟩:=h;exact .float _ _)
  | exact SR.ite (fun _=>SR.stuck) (fun _=>(SR.floatCmp _ _ _ _).mono fun B' a b h=>by obtain⟨rfl,r,rfl⟩:=h;exact .bool _)
  | exact SR.ite (fun _=>SR.stuck) (fun _=>SR.Bf _ _ _ _ _ _)
  | exact(SR.stringOp _ _ _).mono fun B' a b h=>by obtain⟨rfl,h⟩:=h;exact h B'
  | exact SR.ite (fun _=>SR.stuck) (fun _=>SR.intBits _ _ _ _)
omit hP in
theorem A7x (t:TypeId){x x' y y':Value}(hx:VR X B x x')(hy:VR X B y y'):SR X P P' (Ap X) B (binOp .xor t x y) (binOp .xor t x' y'):=by
 unfold binOp
 cases hx<;>cases hy<;>first
  | exact SR.stuck
  | exact SR.unsupported
  | exact SR.ite (fun _=>SR.stuck) (fun _=>(SR.floatArith _ _ _ _).mono fun B' a b h=>by obtain⟨rfl,r,rfl⟩:=h;exact .float _ _)
  | exact SR.ite (fun _=>SR.stuck) (fun _=>(SR.floatCmp _ _ _ _).mono fun B' a b h=>by obtain⟨rfl,r,rfl⟩:=h;exact .bool _)
  | exact SR.ite (fun _=>SR.stuck) (fun _=>SR.Bf _ _ _ _ _ _)
  | exact(SR.stringOp _ _ _).mono fun B' a b h=>by obtain⟨rfl,h⟩:=h;exact h B'
  | exact SR.ite (fun _=>SR.stuck) (fun _=>SR.intBits _ _ _ _)
theorem A7u (t:TypeId){x x' y y':Value}(hx:VR X B x x')(hy:VR X B y y'):SR X P P' (Ap X) B (binOp .shl t x y) (binOp .shl t x' y'):=by
 unfold binOp
 cases hx<;>cases hy<;>first
  | exact SR.stuck
  | exact SR.unsupported
  | exact SR.ite (fun _=>SR.stuck) (fun _=>(SR.floatArith _ _ _ _).mono fun B' a b h=>by obtain⟨rfl,r,rfl⟩:=h;exact .float _ _)
  | exact SR.ite (fun _=>SR.stuck) (fun _=>(SR.floatCmp _ _ _ _).mono fun B' a b h=>by obtain⟨rfl,r,rfl⟩:=h;exact .bool _)
  | exact SR.ite (fun _=>SR.stuck) (fun _=>SR.Bf _ _ _ _ _ _)
  | exact(SR.stringOp _ _ _).mono fun B' a b h=>by obtain⟨rfl,h⟩:=h;exact h B'
  | exact SR.shift hP _ _ _ _ _
theorem A7v (t:TypeId){x x' y y':Value}(hx:VR X B x x')(hy:VR X B y y'):SR X P P' (Ap X) B (binOp .shr t x y) (binOp .shr t x' y'):=by
 unfold binOp
 cases hx<;>cases hy<;>first
  | exact SR.stuck
  | exact SR.unsupported
  | exact SR.ite (fun _=>SR.stuck) (fun _=>(SR.floatArith _ _ _ _).mono fun B' a b h=>by obtain⟨rfl,r,rfl⟩:=h;exact .float _ _)
  | exact SR.ite (fun _=>SR.stuck) (fun _=>(SR.floatCmp _ _ _ _).mono fun B' a b h=>by obtain⟨rfl,r,rfl⟩:=h;exact .bool _)
  | exact SR.ite (fun _=>SR.stuck) (fun _=>SR.Bf _ _ _ _ _ _)
  | exact(SR.stringOp _ _ _).mono fun B' a b h=>by obtain⟨rfl,h⟩:=h;exact h B'
  | exact SR.shift hP _ _ _ _ _
omit hP in
theorem Yu (t:TypeId){x x' y y':Value}(hx:VR X B x x')(hy:VR X B y y'):SR X P P' (Ap X) B (binOp .andNot t x y) (binOp .andNot t x' y'):=by
 unfold binOp
 cases hx<;>cases hy<;>first
  | exact SR.stuck
  | exact SR.unsupported
  | exact SR.ite (fun _=>SR.stuck) (fun _=>(SR.floatArith _ _ _ _).mono fun B' a b h=>by obtain⟨rfl,r,rfl⟩:=h;exact .float _ _)
  | exact SR.ite (fun _=>SR.stuck) (fun _=>(SR.floatCmp _ _ _ _).mono fun B' a b h=>by obtain⟨rfl,r,rfl⟩:=h;exact .bool _)
  | exact SR.ite (fun _=>SR.stuck) (fun _=>SR.Bf _ _ _ _ _ _)
  | exact(SR.stringOp _ _ _).mono fun B' a b h=>by obtain⟨rfl,h⟩:=h;exact h B'
  | exact SR.ite (fun _=>SR.stuck) (fun _=>SR.intBits _ _ _ _)
theorem A7q (t:TypeId){x x' y y':Value}(hx:VR X B x x')(hy:VR X B y y'):SR X P P' (Ap X) B (binOp .lss t x y) (binOp .lss t x' y'):=by
 unfold binOp
 cases hx<;>cases hy<;>first
  | exact SR.stuck
  | exact SR.unsupported
  | exact SR.ite (fun _=>SR.stuck) (fun _=>(SR.floatArith _ _ _ _).mono fun B' a b h=>by obtain⟨rfl,r,rfl⟩:=h;exact .float _ _)
  | exact SR.ite (fun _=>SR.stuck) (fun _=>(SR.floatCmp _ _ _ _).mono fun B' a b h=>by obtain⟨rfl,r,rfl⟩:=h;exact .bool _)
  | exact SR.ite (fun _=>SR.stuck) (fun _=>SR.Bf _ _ _ _ _ _)
  | exact(SR.stringOp _ _ _).mono fun B' a b h=>by obtain⟨rfl,h⟩:=h;exact h B'
  | exact SR.ite (fun _=>SR.stuck) (fun _=>SR.intCmp _ _ _)
  | exact O1 hP _ (by assumption) (by assumption)
theorem A7p (t:TypeId){x x' y y':Value}(hx:VR X B x x')(hy:VR X B y y'):SR X P P' (Ap X) B (binOp .leq t x y) (binOp .leq t x' y'):=by
 unfold binOp
 cases hx<;>cases hy<;>first
  | exact SR.stuck
  | exact SR.unsupported
  | exact SR.ite (fun _=>SR.stuck) (fun _=>(SR.floatArith _ _ _ _).mono fun B' a b h=>by obtain⟨rfl,r,rfl⟩:=h;exact .float _ _)
  | exact SR.ite (fun _=>SR.stuck) (fun _=>(SR.floatCmp _ _ _ _).mono fun B' a b h=>by obtain⟨rfl,r,rfl⟩:=h;exact .bool _)
  | exact SR.ite (fun _=>SR.stuck) (fun _=>SR.Bf _ _ _ _ _ _)
  | exact(SR.stringOp _ _ _).mono fun B' a b h=>by obtain⟨rfl,h⟩:=h;exact h B'
  | exact SR.ite (fun _=>SR.stuck) (fun _=>SR.intCmp _ _ _)
  | exact O1 hP _ (by assumption) (by assumption)
theorem A7o (t:TypeId){x x' y y':Value}(hx:VR X B x x')(hy:VR X B y y'):SR X P P' (Ap X) B (binOp .gtr t x y) (binOp .gtr t x' y'):=by
 unfold binOp
 cases hx<;>cases hy<;>first
  | exact SR.stuck
  | exact SR.unsupported
  | exact SR.ite (fun _=>SR.stuck) (fun _=>(SR.floatArith _ _ _ _).mono fun B' a b h=>by obtain⟨rfl,r,rfl⟩:=h;exact .float _ _)
  | exact SR.ite (fun _=>SR.stuck) (fun _=>(SR.floatCmp _ _ _ _).mono fun B' a b h=>by obtain⟨rfl,r,rfl⟩:=h;exact .bool _)
  | exact SR.ite (fun _=>SR.stuck) (fun _=>SR.Bf _ _ _ _ _ _)
  | exact(SR.stringOp _ _ _).mono fun B' a b h=>by obtain⟨rfl,h⟩:=h;exact h B'
  | exact SR.ite (fun _=>SR.stuck) (fun _=>SR.intCmp _ _ _)
  | exact O1 hP _ (by assumption) (by assumption)
theorem A7n (t:TypeId){x x' y y':Value}(hx:VR X B x x')(hy:VR X B y y'):SR X P P' (Ap X) B (binOp .geq t x y) (binOp .geq t x' y'):=by
 unfold binOp
 cases hx<;>cases hy<;>first
  | exact SR.stuck
  | exact SR.unsupported
  | exact SR.ite (fun _=>SR.stuck) (fun _=>(SR.floatArith _ _ _ _).mono fun B' a b h=>by obtain⟨rfl,r,rfl⟩:=h;exact .float _ _)
  | exact SR.ite (fun _=>SR.stuck) (fun _=>(SR.floatCmp _ _ _ _).mono fun B' a b h=>by obtain⟨rfl,r,rfl⟩:=h;exact .bool _)
  | exact SR.ite (fun _=>SR.stuck) (fun _=>SR.Bf _ _ _ _ _ _)
  | exact(SR.stringOp _ _ _).mono fun B' a b h=>by obtain⟨rfl,h⟩:=h;exact h B'
  | exact SR.ite (fun _=>SR.stuck) (fun _=>SR.intCmp _ _ _)
  | exact O1 hP _ (by assumption) (by assumption)
end
end Lr
namespace Lr
def Jc:Value->Value->Prop
 | .int _ _,.int _ _|.float _ _,.float _ _|.complex _ _ _,.complex _ _ _|.string _,.string _=>True
 | _,_=>False
theorem binOp_eql {t:TypeId}{x y:Value}(h:¬Jc x y):binOp .eql t x y=(Op.equal t x y >>= fun q=>Pure.pure (.bool q)):=by
 cases x<;>cases y<;>first|rfl|exact absurd trivial h
theorem binOp_neq {t:TypeId}{x y:Value}(h:¬Jc x y):binOp .neq t x y=(Op.equal t x y >>= fun q=>Pure.pure (.bool !q)):=by
 cases x<;>cases y<;>first|rfl|exact absurd trivial h
theorem Jc.rel {X:Cx}{B:Lk}{x x' y y':Value}(hx:VR X B x x')(hy:VR X B y y')(h:Jc x y):x'=x/\y'=y:=by
 cases hx<;>cases hy<;>first|exact⟨rfl,rfl⟩|exact h.elim
section
variable {X : Cx} {P P' : Program} {B : Lk} (hP : PRel X P P')
theorem Aay (op:BinOp)(ho:op=.eql\/op=.neq)(t:TypeId){x y:Value}(h:Jc x y):SR X P P' (Ap X) B (binOp op t x y) (binOp op t x y):=by
 rcases ho with rfl|rfl<;>cases x<;>cases y<;>first
  | exact h.elim
  | exact SR.ite (fun _=>SR.stuck) (fun _=>SR.intCmp _ _ _)
  | exact SR.ite (fun _=>SR.stuck) (fun _=>(SR.floatCmp _ _ _ _).mono fun B' a b h=>by obtain⟨rfl,r,rfl⟩:=h;exact .bool _)
  | exact SR.ite (fun _=>SR.stuck) (fun _=>SR.Bf _ _ _ _ _ _)
  |(unfold binOp
    exact(SR.stringOp _ _ _).mono fun B' a b h=>by obtain⟨rfl,h⟩:=h;exact h B')
include hP
theorem A21 (op:BinOp)(ho:op=.eql\/op=.neq)(t:TypeId)(k:Nat)(ht:N7 P k t=true){x x' y y':Value}(hx:VR X B x x')(hy:VR X B y y'):SR X P P' (Ap X) B (binOp op t x y) (binOp op t x' y'):=by
 by_cases h:Jc x y
 ·obtain⟨rfl,rfl⟩:=h.rel hx hy
  exact Aay op ho t h
 ·have h':¬Jc x' y':=by
   intro e
   apply h
   cases hx<;>cases hy<;>first|exact trivial|exact e.elim
  rcases ho with rfl|rfl
  ·rw[binOp_eql h,binOp_eql h']
   refine SR.bind (Tf hP k Op.maxDepth t ht hx hy) ?_
   rintro B1 l1 _ q rfl
   exact SR.pure (.bool _)
  ·rw[binOp_neq h,binOp_neq h']
   refine SR.bind (Tf hP k Op.maxDepth t ht hx hy) ?_
   rintro B1 l1 _ q rfl
   exact SR.pure (.bool _)
theorem A1w (op:BinOp)(t:TypeId)(k:Nat)(ht:op=.eql\/op=.neq->N7 P k t=true){x x' y y':Value}(hx:VR X B x x')(hy:VR X B y y'):SR X P P' (Ap X) B (binOp op t x y) (binOp op t x' y'):=by
 cases op with
 | add=>exact A7l hP t hx hy
 | sub=>exact A7w hP t hx hy
 | mul=>exact A7r t hx hy
 | quo=>exact A7s hP t hx hy
 | rem=>exact A7t hP t hx hy
 | and=>exact A7m hP t hx hy
 | or=>exact Aaz t hx hy
 | xor=>exact A7x t hx hy
 | shl=>exact A7u hP t hx hy
 | shr=>exact A7v hP t hx hy
 | andNot=>exact Yu t hx hy
 | eql=>exact A21 hP .eql (.inl rfl) t k (ht (.inl rfl)) hx hy
 | neq=>exact A21 hP .neq (.inr rfl) t k (ht (.inr rfl)) hx hy
 | lss=>exact A7q hP t hx hy
 | leq=>exact A7p hP t hx hy
 | gtr=>exact A7o hP t hx hy
 | geq=>exact A7n hP t hx hy
def A4l (P:Program)(s d:TypeId):Bool :=
 match P.underlying s,P.underlying d with
 | some (.int _),some (.int _)|some (.int _),some (.float _)|some (.float _),some (.int _)|some (.float _),some (.float _)|some (.complex _),some (.complex _)=>true
 | _,_=>false
theorem A43 (s d:TypeId)(hc:A4l P s d=true){x x':Value}(hx:VR X B x x'):SR X P P' (Ap X) B (convert s d x) (convert s d x'):=by
 unfold convert
 refine SR.bind (SR.underlying hP s) ?_
 rintro B1 l1 _ ts ⟨rfl,hs⟩
 refine SR.bind (SR.underlying hP d) ?_
 rintro B2 l2 _ td ⟨rfl,hd⟩;have hx:=(hx.mono l1).mono l2;unfold A4l at hc;rw[hs,hd]at hc
 have c2:∀{B:Lk} (s:FloatKind) (a b:Nat) (k:FloatKind),SR X P P' (Ap X) B (Conv.complexToComplex s a b k) (Conv.complexToComplex s a b k):=by
  intro B s a b k;unfold Conv.complexToComplex
  refine SR.bind (SR.floatToFloat _ _ _) ?_
  rintro B3 l3 v _ ⟨rfl,r,rfl⟩
  refine SR.bind (SR.floatToFloat _ _ _) ?_
  rintro B4 l4 v _ ⟨rfl,q,rfl⟩
  exact SR.pure (.complex _ _ _)
 cases ts<;>cases td<;>simp only[Aj8]at hc<;>cases hx<;>first
  | exact SR.unsupported
  | exact SR.stuck
  | exact SR.pure (.int _ _)
  | exact SR.pure (.float _ _)
  | exact SR.floatToInt _ _ _
  | exact(SR.floatToFloat _ _ _).mono fun B' a b h=>by obtain⟨rfl,r,rfl⟩:=h;exact .float _ _
  | exact c2 _ _ _ _
end
end Lr
namespace Lr
inductive Tz (X:Cx)(B:Lk):Next->Next->Prop
 | value {v v':Value}:VR X B v v'->Tz X B (.value v) (.value v')
 | skip:Tz X B .skip .skip
 | enter (f:FuncId) {p p':Array Value}:X.C f ->(X.T f->X.Ar f p.size)->AR X B p p'->Tz X B (.enter f p) (.enter f p')
 | round {l l':Nat} (f:FuncId) {p p':Array Value} {a b a' b':Code}:B l l'->AR X B p p'->Jy X a a'->Jy X b b'->Tz X B (.round l f p a b) (.round l' f p' a' b')
 | defer {d d':Deferred}:X.Dn->DfR X B d d'->Tz X B (.defer d) (.defer d')
structure A65 (X:Cx)(P P':Program):Prop extends PRel X P P' where
 size:P'.funcs.size=P.funcs.size
 funcs:∀f,(P.funcs[f]?=none/\P'.funcs[f]?=none)\/∃fn fn',P.funcs[f]?=some fn/\P'.funcs[f]?=some fn'/\fn'.name=fn.name/\fn'.results=fn.results /\(X.C f->¬X.T f->fn'.ntmps=fn.ntmps) /\
  (X.C f->fn.name ≠ "runtime.NumGoroutine" /\ ((fn.body.isNone=false/\fn'.body.isNone=false /\(¬X.T f->∃c c',fn.body=some c/\fn'.body=some c'/\Jy X c c')) \/(fn.body.isNone=true/\fn'.body=fn.body/\∀B p p',AR X B p p'->SR X P P' (Tz X) B (callFunc f p) (callFunc f p'))))
section
variable {X : Cx} {P P' : Program} {B : Lk} (hF : A65 X P P')
theorem Ba {s s':Sem Value}(h:SR X P P' (Ap X) B s s'):SR X P P' (Tz X) B (do pure (.value (<-s))) (do pure (.value (<-s'))):=SR.bind h fun _ _ _ _ hv=>SR.pure (.value hv)
theorem Aaw {s s':Sem Unit}(h:SR X P P' Zc B s s'):SR X P P' (Tz X) B (do s;pure .skip) (do s';pure .skip):=SR.bind h fun _ _ _ _ _=>SR.pure .skip
include hF
theorem Kx (f:FuncId)(hc:X.C f){p p':Array Value}(ha:X.T f->X.Ar f p.size)(h:AR X B p p'):SR X P P' (Tz X) B (callFunc f p) (callFunc f p'):=by
 rcases hF.funcs f with⟨e1,e2⟩ |⟨fn,fn',e1,e2,hn,_,_,hb⟩
 ·unfold callFunc
  refine SR.bind SR.program ?_
  rintro B1 l1 q q' ⟨rfl,rfl⟩;rw[e1,e2]
  exact SR.stuck
 obtain⟨hng,hb⟩:=hb hc
 rcases hb with⟨b1,b2,_⟩ |⟨_,_,hx⟩
 ·unfold callFunc
  refine SR.bind SR.program ?_
  rintro B1 l1 q q' ⟨rfl,rfl⟩;rw[e1,e2];dsimp only;rw[hn,b1,b2]
  refine SR.ite (fun x=>?_) (fun _=>?_)
  ·simp_all
  exact SR.pure (.enter f hc ha (h.mono l1))
 ·exact hx B p p' h
omit hF in
theorem Ab2 {l l':Nat}(k:B l l'){p p':Array Value}(h:AR X B p p'):SR X P P' (Tz X) B (Instr.yield l p) (Instr.yield l' p'):=by
 unfold Instr.yield Instr.getLoop;rw[bind_assoc,bind_assoc]
 refine SR.bind (SR.getObj k) fun B1 l1 o o' ho=>?_
 cases ho<;>first
  | exact SR.Cq
  | skip
 rename_i r r' hr
 dsimp only;rw[pure_bind,pure_bind,hr.params,<-h.1,hr.fn]
 refine SR.ite (fun _=>SR.Cq) (fun _=>SR.pure (.round _ (l1 _ _ k) ?_ hr.assign hr.body))
 have hz:∀(xs:List Tmp) (ys ys':List Value) (c c':Array Value),LR X B1 ys ys'->AR X B1 c c' ->
  AR X B1 ((xs.zip ys).foldl (fun tmps (x:Tmp×Value)=>tmps.setIfInBounds x.1 x.2) c) ((xs.zip ys').foldl (fun tmps (x:Tmp×Value)=>tmps.setIfInBounds x.1 x.2) c'):=by
  intro xs
  induction xs with
  | nil=>intro ys ys' c c' _ hc;simpa using hc
  | cons x xs ih =>
    intro ys ys' c c' hy hc
    cases hy with
    | nil=>simpa using hc
    | cons h1 h2 =>
      simp only[List.zip_cons_cons,An5]
      exact ih _ _ _ _ h2 (hc.set _ h1)
 rw[<-Amn,<-Amn,Array.toList_zip,Array.toList_zip]
 exact hz _ _ _ _ _ (h.mono l1).toList hr.tmps
theorem A41 (b:Builtin)(hb:A88 b=true)(ts:Array TypeId)(t:TypeId)(cs:Array Bool){p p':Array Value}(h:AR X B p p'):SR X P P' (Tz X) B (builtin b ts t cs p) (builtin b ts t cs p'):=by
 unfold builtin
 cases b<;>simp only[A88,Aj8]at hb<;>first
  | exact Ba (A7i hF.toPRel _ _ h)
  | exact Ba (Afd hF.toPRel _ _ h)
  | exact Ba (Aar hF.toPRel _ _ h)
  | exact Ba (A42 _ _ h)
  | exact Ba (Acx _ _ h)
  | exact Ba (Afe hF.toPRel _ _ h)
  | exact Ba (Aff _ _ h)
  | exact Ba (Afg _ _ h)
  | exact Ba (Ad0 _ _ h)
omit hF in
theorem Mw {v v':Value}(h:VR X B v v'){p p':Array Value}(hp:AR X B p p'):SR X P P' (fun B' d d'=>DfR X B' d d') B (Deferred.ofValue v p) (Deferred.ofValue v' p'):=by
 cases h<;>first
  | exact SR.stuck
  | exact SR.pure ⟨.nil,hp⟩
  | skip
 rename_i f f' a a' q q' h1 h2 h3 h4 h5
 exact SR.pure ⟨.fn h1 ⟨h4,h5⟩,AR.append ⟨h2,h3⟩ hp⟩
end
end Lr
namespace Lr
structure Ady (X:Cx)(P P':Program):Prop where
 method:∀name,X.M name->∀(n:Nat) (t:TypeId) (B:Lk) (v v':Value),VR X B v v'->SR X P P' (fun B' (x x':FuncId×Value)=>(x'.1=x.1 /\((X.C x.1/\¬X.T x.1)\/∀B p s',SR X P P' (Tz X) B (callFunc x.1 p) s'))/\VR X B' x.2 x'.2) B (Go.method n t v name) (Go.method n t v' name)
 nilAhead:∀name,X.M name->∀(n:Nat) (t:TypeId) (B:Lk) (v v':Value),VR X B v v'->SR X P P' Same B (Go.nilAhead n t v name) (Go.nilAhead n t v' name)
 typeAssert:X.As->∀(t a:TypeId) (B:Lk) (v v':Value) (q:Bool),VR X B v v'->SR X P P' (Ap X) B (Instr.typeAssert v t a q) (Instr.typeAssert v' t a q)
def A89 (X:Cx)(c:Call):Prop :=
 match c.callee with
 | .builtin b=>A88 b=true
 | .invoke _ n=>X.M n
 | .value _=>True
def A8e (X:Cx)(P:Program):Op->Prop
 | .move _|.assign _|.pick ..|.alloc _|.box ..|.build ..|.buildSlice ..|.load ..|.store ..|.nilCheck _|.unOp ..|.makeChan ..|.makeSlice ..|.slice ..|.field ..|.indexAddr ..|.index ..|.extract ..
 | .makeInterface ..=>True
 | .fieldAddr t _ _=>A2f P t
 | .binOp op t _ _ _=>op=.eql\/op=.neq->∃k,N7 P k t=true
 | .convert s d _=>A4l P s d=true
 | .makeFunc fn _ _=>match fn with
   | .func f=>X.C f/\¬X.T f
   | .method n=>X.M n
   | .methodOf _ n=>X.M n
   | _=>False
 | .call c=>A89 X c
 | .typeAssert ..=>X.As
 | _=>False
def TOk (X:Cx):Op->Prop
 | .call c=>match c.callee with
   | .value (.func f)=>X.C f/\X.Ar f c.args.size/\∀x∈c.args,It X x
   | _=>False
 | _=>False
def Adz (X:Cx)(P:Program)(o:Oper):Prop:=A8e X P o.op /\((∀x∈o.op.operands,It X x)\/TOk X o.op)
def EvR (X:Cx)(B:Lk)(ev ev':Operand->Value):Prop:=∀x,It X x->VR X B (ev x) (ev' x)
section
variable {X : Cx} {P P' : Program} {B : Lk} (hF : A65 X P P') (hM : Ady X P P')
theorem EvR.arr {ev ev':Operand->Value}(k:EvR X B ev ev')(l:Array Operand)(h:∀x∈l,It X x):AR X B (l.map ev) (l.map ev'):=AR.map l fun x hx=>k x (h x hx)
theorem EvR.opt {ev ev':Operand->Value}(k:EvR X B ev ev')(o:Option Operand)(h:∀x∈o.toArray,It X x):OvR X B (o.map ev) (o.map ev'):=by
 cases o with
 | none=>exact .none
 | some x=>exact .some (k x (h x (by simp)))
theorem EvR.parts {ev ev':Operand->Value}(k:EvR X B ev ev')(ps:Array (Nat×Operand))(h:∀x∈(ps.toList.map (·.2)).toArray,It X x) :
 PsR X B (ps.map fun x=>(x.1,ev x.2)).toList (ps.map fun x=>(x.1,ev' x.2)).toList:=by
 rw[Array.toList_map,Array.toList_map]
 refine PsR.of _ fun x hx=>k _ (h _ ?_)
 simp only[Ajb,Aj5]
 exact⟨x,hx,rfl⟩
include hF hM
theorem Is {v v':Value}(name:String)(m:X.M name)(h:VR X B v v'){p p':Array Value}(hp:AR X B p p'):SR X P P' (Tz X) B (callMethod v name p) (callMethod v' name p'):=by
 unfold callMethod
 cases h<;>first
  | exact SR.stuck
  | exact SR.runtimePanic hF.toPRel (e:=.nilDeref) trivial
  | skip
 dsimp only
 refine SR.bind SR.program ?_
 rintro B1 l1 q q' ⟨rfl,rfl⟩;rw[show q'.types=q.types by rw[hF.Oa]]
 rename_i hv
 refine SR.bind (hM.method _ m _ _ _ _ _ (hv.mono l1)) ?_
 rintro B2 l2 ⟨f,r⟩ ⟨f',r'⟩ ⟨⟨e,hc⟩,hr⟩;obtain rfl:f'=f:=e
 rcases hc with⟨hc,ht⟩|hc
 ·exact Kx hF f' hc (fun h=>absurd h ht) (AR.append (AR.one hr) ((hp.mono l1).mono l2))
 ·exact hc _ _ _
theorem G9 {t t':Target}(h:TgR X B t t'){p p':Array Value}(hp:AR X B p p'):SR X P P' (Tz X) B (invoke t p) (invoke t' p'):=by
 cases h with
 | nil=>exact SR.runtimePanic hF.toPRel (e:=.nilDeref) trivial
 | builtin b ts ty cs hb=>exact A41 hF b hb ts ty cs hp
 | collected _=>exact SR.stuck
 | fn hf hc =>
   cases hf with
   | func f c t=>exact Kx hF f c (fun h=>absurd h t) (AR.append hp hc)
   | yield l l' k=>exact Ab2 k hp
   | method n m =>
     unfold invoke
     rcases hp.get 0 with⟨v,v',e1,e2,hv⟩ |⟨e1,e2⟩
     ·dsimp only;rw[e1,e2,<-hp.1]
      exact Is hF hM _ m hv (hp.extract _ _)
     ·dsimp only;rw[e1,e2]
      exact SR.stuck
   | methodOf ty n m =>
     unfold invoke
     rcases hp.get 0 with⟨v,v',e1,e2,hv⟩ |⟨e1,e2⟩
     ·dsimp only;rw[e1,e2,<-hp.1]
      refine SR.bind (SR.underlying hF.toPRel ty) ?_
      rintro B1 l1 _ d ⟨rfl,_⟩
      cases d<;>first
       | exact Is hF hM _ m (.iface _ (hv.mono l1)) ((hp.mono l1).extract _ _)
       | exact Is hF hM _ m (hv.mono l1) ((hp.mono l1).extract _ _)
     ·dsimp only;rw[e1,e2]
      exact SR.stuck
omit hF hM in
theorem A47 {ev ev':Operand->Value}(k:EvR X B ev ev')(c:Call)(hc:A89 X c)(ho:∀x∈c.operands,It X x)(t:TypeId) :
 SR X P P' (fun B' d d'=>DfR X B' d d') B (resolve ev c t) (resolve ev' c t):=by
 obtain⟨callee,args,argTypes⟩:=c;have ha:AR X B (args.map ev) (args.map ev'):=k.arr args fun x hx=>ho x (by simp[Call.operands,hx])
 unfold resolve
 cases callee with
 | builtin b=>exact SR.pure ⟨.builtin _ _ _ _ hc,ha⟩
 | invoke r n=>exact SR.pure ⟨.fn (.method n hc) AR.nil,AR.append (AR.one (k r (ho r (by simp[Call.operands])))) ha⟩
 | value f =>
   have hv:=k f (ho f (by simp[Call.operands]))
   dsimp only;generalize ev f=v at hv;generalize ev' f=v' at hv
   cases hv<;>first
    | exact SR.stuck
    | exact SR.pure ⟨.nil,ha⟩
    | skip
   rename_i f f' a a' q q' h1 h2 h3 h4 h5
   exact SR.pure ⟨.fn h1 ⟨h4,h5⟩,AR.append ⟨h2,h3⟩ ha⟩
theorem A20 {v v':Value}(h:VR X B v v')(ev ev':Operand->Value)(o:Oper)(x:Operand)(ho:o.op=.nilCheck x)(he:ev x=v)(he':ev' x=v'):SR X P P' (Tz X) B (execOp ev o) (execOp ev' o):=by
 unfold execOp;rw[ho];dsimp only;rw[he,he']
 cases h<;>first
  | exact SR.runtimePanic hF.toPRel (e:=.nilDeref) trivial
  |(refine SR.pure (.value ?_);constructor<;>assumption)
  | skip
 rename_i f f' a a' q q' h1 h2 h3 h4 h5
 have hv:VR X B (.func f a q) (.func f' a' q'):=.func h1 h2 h3 h4 h5
 cases h1 with
 | method n m =>
   dsimp only
   rcases AR.get (X:=X) (B:=B) (p:=a) (p':=a') ⟨h2,h3⟩ 0 with⟨w,w',e1,e2,hw⟩ |⟨e1,e2⟩
   ·rw[e1,e2]
    cases hw<;>first
     | exact SR.pure (.value hv)
     | exact SR.runtimePanic hF.toPRel (e:=.nilDeref) trivial
     | skip
    rename_i hw
    dsimp only
    refine SR.bind SR.program ?_
    rintro B1 l1 q1 q2 ⟨rfl,rfl⟩;rw[show q2.types=q1.types by rw[hF.Oa]]
    refine SR.bind (hM.nilAhead _ m _ _ _ _ _ (hw.mono l1)) ?_
    rintro B2 l2 _ r rfl
    exact SR.ite (fun _=>SR.Ay) (fun _=>SR.pure (.value ((hv.mono l1).mono l2)))
   ·rw[e1,e2]
    exact SR.pure (.value hv)
 | _=>exact SR.pure (.value hv)
omit hM in
theorem Ag9 (o:Oper)(ho:TOk X o.op){ev ev':Operand->Value}(k:EvR X B ev ev')(hE:∀f,ev (.func f)=.func (.func f) #[] #[]/\ev' (.func f)=.func (.func f) #[] #[]):SR X P P' (Tz X) B (execOp ev o) (execOp ev' o):=by
 cases hop:o.op with
 | call c =>
   rw[hop]at ho;obtain⟨callee,args,ts⟩:=c
   cases callee with
   | value x =>
     cases x with
     | func f =>
       obtain⟨h1,h2,h3⟩:=ho;have ha:AR X B (args.map ev) (args.map ev'):=k.arr args h3;unfold execOp;rw[hop];dsimp only;unfold resolve;dsimp only;rw[(hE f).1,(hE f).2]
       refine SR.bind (R:=fun B' d d'=>d=(⟨.fn (.func f) #[],#[]++args.map ev⟩:Deferred)/\d'=(⟨.fn (.func f) #[],#[]++args.map ev'⟩:Deferred)) (SR.pure ⟨rfl,rfl⟩) ?_
       rintro B1 l1 _ _ ⟨rfl,rfl⟩
       exact Kx hF f h1 (fun _=>by simpa using h2) (AR.append (AR.append AR.nil (ha.mono l1)) AR.nil)
     | _=>exact ho.elim
   | _=>exact ho.elim
 | _=>rw[hop]at ho;exact ho.elim
theorem Cd (o:Oper)(ho:Adz X P o){ev ev':Operand->Value}(k:EvR X B ev ev')(hE:∀f,ev (.func f)=.func (.func f) #[] #[]/\ev' (.func f)=.func (.func f) #[] #[]):SR X P P' (Tz X) B (execOp ev o) (execOp ev' o):=by
 obtain⟨hk,hx⟩:=ho
 rcases hx with hx|hx
 case inr=>exact Ag9 hF o hx k hE
 have hP:=hF.toPRel
 cases hop:o.op with
 | move x =>
   rw[hop]at hk hx;have hx:=fun x h=>hx x h
   unfold execOp;rw[hop];dsimp only
   exact SR.pure (.value (k _ (hx _ (by simp[Op.operands]))))
 | assign x =>
   rw[hop]at hk hx;have hx:=fun x h=>hx x h
   unfold execOp;rw[hop];dsimp only
   exact SR.pure (.value (k _ (hx _ (by simp[Op.operands]))))
 | pick x a b =>
   rw[hop]at hk hx;have hx:=fun x h=>hx x h
   unfold execOp;rw[hop];dsimp only
   refine SR.bind (SR.asBool (k _ (hx _ (by simp[Op.operands])))) ?_
   rintro B1 l1 _ q rfl
   cases q
   ·exact SR.pure (.value ((k _ (hx _ (by simp[Op.operands]))).mono l1))
   ·exact SR.pure (.value ((k _ (hx _ (by simp[Op.operands]))).mono l1))
 | alloc t =>
   rw[hop]at hk hx;have hx:=fun x h=>hx x h
   unfold execOp;rw[hop];dsimp only
   exact Ba (SR.alloc hP t)
 | box t x =>
   rw[hop]at hk hx;have hx:=fun x h=>hx x h
   unfold execOp;rw[hop];dsimp only
   exact Ba (SR.box t (k _ (hx _ (by simp[Op.operands]))))
 | build t ps =>
   rw[hop]at hk hx;have hx:=fun x h=>hx x h
   unfold execOp;rw[hop];dsimp only
   exact Ba (SR.build hP t (k.parts ps fun x h=>hx x h))
 | buildSlice t n ps =>
   rw[hop]at hk hx;have hx:=fun x h=>hx x h
   unfold execOp;rw[hop];dsimp only
   exact Ba (Ul hP t n (k.parts ps fun x h=>hx x h))
 | load t a =>
   rw[hop]at hk hx;have hx:=fun x h=>hx x h
   unfold execOp;rw[hop];dsimp only
   refine Ba ?_
   unfold Instr.loadAt
   exact SR.bind (SR.sureAddr (k _ (hx _ (by simp[Op.operands])))) fun B1 l1 a a' ha=>SR.loadVar hP ha t
 | store t a v =>
   rw[hop]at hk hx;have hx:=fun x h=>hx x h
   unfold execOp;rw[hop];dsimp only
   refine Aaw ?_
   unfold Instr.storeAt
   exact SR.bind (SR.sureAddr (k _ (hx _ (by simp[Op.operands])))) fun B1 l1 a a' ha=>SR.storeVar hP ha t ((k _ (hx _ (by simp[Op.operands]))).mono l1)
 | nilCheck x =>
   rw[hop]at hk hx
   exact A20 hF hM (k _ (hx _ (by simp[Op.operands]))) ev ev' o x hop rfl rfl
 | binOp op t x y t' =>
   rw[hop]at hk hx;have hx:=fun x h=>hx x h
   unfold execOp;rw[hop];dsimp only
   by_cases he:op=.eql\/op=.neq
   ·obtain⟨n,hn⟩:=hk he
    exact Ba (SR.bind (Te hP op t n (fun _=>hn) x y (k _ (hx _ (by simp[Op.operands]))) (k _ (hx _ (by simp[Op.operands])))) fun B1 l1 _ _ _=>A1w hP op t n (fun _=>hn) ((k _ (hx _ (by simp[Op.operands]))).mono l1) ((k _ (hx _ (by simp[Op.operands]))).mono l1))
   ·exact Ba (SR.bind (Te hP op t 0 (fun h=>absurd h he) x y (k _ (hx _ (by simp[Op.operands]))) (k _ (hx _ (by simp[Op.operands])))) fun B1 l1 _ _ _=>A1w hP op t 0 (fun h=>absurd h he) ((k _ (hx _ (by simp[Op.operands]))).mono l1) ((k _ (hx _ (by simp[Op.operands]))).mono l1))
 | unOp op t x =>
   rw[hop]at hk hx;have hx:=fun x h=>hx x h
   unfold execOp;rw[hop];dsimp only
   exact Ba (SR.unary op (k _ (hx _ (by simp[Op.operands]))))
 | convert s d x =>
   rw[hop]at hk hx;have hx:=fun x h=>hx x h
   unfold execOp;rw[hop];dsimp only
   exact Ba (A43 hP s d hk (k _ (hx _ (by simp[Op.operands]))))
 | makeInterface t x =>
   rw[hop]at hk hx;have hx:=fun x h=>hx x h
   unfold execOp;rw[hop];dsimp only
   refine Ba ?_
   unfold Instr.makeInterface
   refine SR.bind (SR.underlying hP t) ?_
   rintro B1 l1 _ d ⟨rfl,_⟩
   cases d<;>first
    | exact SR.stuck
    | exact SR.pure (.iface _ ((k _ (hx _ (by simp[Op.operands]))).mono l1))
 | makeFunc fn first cap =>
   rw[hop]at hk hx;have hx:=fun x h=>hx x h
   unfold execOp;rw[hop];dsimp only
   refine Ba ?_
   have h1:=k.arr first fun x h=>hx x (by simp[Op.operands,h])
   have h2:=k.arr cap fun x h=>hx x (by simp[Op.operands,h])
   refine SR.pure (.func ?_ h1.1 h1.2 h2.1 h2.2)
   cases fn with
   | func f=>exact .func f hk.1 hk.2
   | method n=>exact .method n hk
   | methodOf t n=>exact .methodOf t n hk
   | via t p f q=>exact hk.elim
   | yield l=>exact hk.elim
 | makeChan t s =>
   rw[hop]at hk hx;have hx:=fun x h=>hx x h
   unfold execOp;rw[hop];dsimp only
   exact Ba (A1z hP t (k _ (hx _ (by simp[Op.operands]))))
 | makeSlice t l c =>
   rw[hop]at hk hx;have hx:=fun x h=>hx x h
   unfold execOp;rw[hop];dsimp only
   exact Ba (Yt hP t (k _ (hx _ (by simp[Op.operands]))) (k _ (hx _ (by simp[Op.operands]))))
 | slice t x lo hi mx =>
   rw[hop]at hk hx;have hx:=fun x h=>hx x h
   unfold execOp;rw[hop];dsimp only
   exact Ba (A48 hP t (k _ (hx _ (by simp[Op.operands]))) (k.opt lo fun x h=>hx x (by simp[Op.operands,h])) (k.opt hi fun x h=>hx x (by simp[Op.operands,h])) (k.opt mx fun x h=>hx x (by simp[Op.operands,h])))
 | fieldAddr t x f =>
   rw[hop]at hk hx;have hx:=fun x h=>hx x h
   unfold execOp;rw[hop];dsimp only
   exact Ba (A45 hP t hk (k _ (hx _ (by simp[Op.operands]))) f)
 | field t x f =>
   rw[hop]at hk hx;have hx:=fun x h=>hx x h
   unfold execOp;rw[hop];dsimp only
   exact Ba (Aau hP t (k _ (hx _ (by simp[Op.operands]))) f)
 | indexAddr t x i =>
   rw[hop]at hk hx;have hx:=fun x h=>hx x h
   unfold execOp;rw[hop];dsimp only
   exact Ba (A46 hP t (k _ (hx _ (by simp[Op.operands]))) (k _ (hx _ (by simp[Op.operands]))))
 | index t x i =>
   rw[hop]at hk hx;have hx:=fun x h=>hx x h
   unfold execOp;rw[hop];dsimp only
   exact Ba (Aav hP t (k _ (hx _ (by simp[Op.operands]))) (k _ (hx _ (by simp[Op.operands]))))
 | extract x i =>
   rw[hop]at hk hx;have hx:=fun x h=>hx x h
   unfold execOp;rw[hop];dsimp only
   exact Ba (A44 (k _ (hx _ (by simp[Op.operands]))) i)
 | typeAssert x t a q =>
   rw[hop]at hk hx;have hx:=fun x h=>hx x h
   unfold execOp;rw[hop];dsimp only
   exact Ba (hM.typeAssert hk t a B _ _ q (k _ (hx _ (by simp[Op.operands]))))
 | panic x =>
   rw[hop]at hk
   exact hk.elim
 | call c =>
   rw[hop]at hk hx;have hx:=fun x h=>hx x h
   unfold execOp;rw[hop];dsimp only
   refine SR.bind (A47 k c hk (fun x h=>hx x h) o.type) ?_
   intro B1 l1 d d' hd
   exact G9 hF hM hd.1 hd.2
 | go c =>
   rw[hop]at hk
   exact hk.elim
 | defer c =>
   rw[hop]at hk
   exact hk.elim
 | send c x =>
   rw[hop]at hk
   exact hk.elim
 | recv t c q =>
   rw[hop]at hk
   exact hk.elim
 | insert a b c d =>
   rw[hop]at hk
   exact hk.elim
 | ready g =>
   rw[hop]at hk
   exact hk.elim
 | waits g =>
   rw[hop]at hk
   exact hk.elim
 | sliceToArrayPointer t x =>
   rw[hop]at hk
   exact hk.elim
 | makeMap t r =>
   rw[hop]at hk
   exact hk.elim
 | lookup t x i q =>
   rw[hop]at hk
   exact hk.elim
 | mapUpdate t m k v =>
   rw[hop]at hk
   exact hk.elim
 | mapEntry t m k =>
   rw[hop]at hk
   exact hk.elim
 | entryStore t m s v =>
   rw[hop]at hk
   exact hk.elim
 | range t x =>
   rw[hop]at hk
   exact hk.elim
 | next i q =>
   rw[hop]at hk
   exact hk.elim
 | entry i =>
   rw[hop]at hk
   exact hk.elim
 | select cs b =>
   rw[hop]at hk
   exact hk.elim
end
end Lr
namespace Lr
open Go.Conc
inductive ItR (X:Cx)(B:Lk):Item->Item->Prop
 | code {c c':Code}:Jy X c c'->ItR X B (.code c) (.code c')
 | inBlock (i:Nat):ItR X B (.inBlock i) (.inBlock i)
 | inLoop {c c':Code}:Jy X c c'->ItR X B (.inLoop c) (.inLoop c')
 | inScope {c c':Code}:Jy X c c'->ItR X B (.inScope c) (.inScope c')
 | inRegion (ops:Array Oper) (l:List Nat):(∀o∈ops,X.K o)->ItR X B (.inRegion ops l) (.inRegion ops l)
 | inRangeFunc {l l':Nat}:B l l'->ItR X B (.inRangeFunc l) (.inRangeFunc l')
 | endRangeFunc {l l':Nat}:B l l'->ItR X B (.endRangeFunc l) (.endRangeFunc l')
 | beginRound:ItR X B .beginRound .beginRound
theorem ItR.mono {X:Cx}{B B':Lk}(h:Le B B'){i i':Item}(k:ItR X B i i'):ItR X B' i i':=by
 cases k with
 | code a=>exact .code a
 | inBlock i=>exact .inBlock i
 | inLoop a=>exact .inLoop a
 | inScope a=>exact .inScope a
 | inRegion o l a=>exact .inRegion o l a
 | inRangeFunc a=>exact .inRangeFunc (h _ _ a)
 | endRangeFunc a=>exact .endRangeFunc (h _ _ a)
 | beginRound=>exact .beginRound
inductive Rc (X:Cx)(B:Lk):List Item->List Item->Prop
 | nil:Rc X B [] []
 | cons {i i':Item} {l l':List Item}:ItR X B i i'->Rc X B l l'->Rc X B (i :: l) (i' :: l')
theorem Rc.mono {X:Cx}{B B':Lk}(h:Le B B'){l l':List Item}(k:Rc X B l l'):Rc X B' l l':=by
 induction k with
 | nil=>exact .nil
 | cons a _ ih=>exact .cons (a.mono h) ih
inductive Z8 (X:Cx)(B:Lk):List PanicEntry->List PanicEntry->Prop
 | nil:Z8 X B [] []
 | cons {v v':Value} (r g:Bool) {l l':List PanicEntry}:VR X B v v'->Z8 X B l l'->Z8 X B (⟨v,r,g⟩ :: l) (⟨v',r,g⟩ :: l')
theorem Z8.mono {X:Cx}{B B':Lk}(h:Le B B'){l l':List PanicEntry}(k:Z8 X B l l'):Z8 X B' l l':=by
 induction k with
 | nil=>exact .nil
 | cons r g a _ ih=>exact .cons r g (a.mono h) ih
theorem Z8.append {X:Cx}{B:Lk}{l l' m m':List PanicEntry}(h:Z8 X B l l')(k:Z8 X B m m'):Z8 X B (l++m) (l'++m'):=by
 induction h with
 | nil=>exact k
 | cons r g a _ ih=>exact .cons r g a ih
inductive MoR (X:Cx)(B:Lk):FrameMode->FrameMode->Prop
 | run:MoR X B .run .run
 | returning:MoR X B .returning .returning
 | panicking {l l':List PanicEntry}:Z8 X B l l'->MoR X B (.panicking l) (.panicking l')
theorem MoR.mono {X:Cx}{B B':Lk}(h:Le B B'){l l':FrameMode}(k:MoR X B l l'):MoR X B' l l':=by
 cases k with
 | run=>exact .run
 | returning=>exact .returning
 | panicking a=>exact .panicking (a.mono h)
inductive OnR (B:Lk):Option Nat->Option Nat->Prop
 | none:OnR B none none
 | some {l l':Nat}:B l l'->OnR B (some l) (some l')
theorem OnR.mono {B B':Lk}(h:Le B B'){l l':Option Nat}(k:OnR B l l'):OnR B' l l':=by
 cases k with
 | none=>exact .none
 | some a=>exact .some (h _ _ a)
structure Ee (X:Cx)(B:Lk)(fr fr':Frame):Prop where
 fn:fr'.fn=fr.fn
 tmps:AR X B fr.tmps fr'.tmps
 todo:Rc X B fr.todo fr'.todo
 defers:R5 X B fr.defers fr'.defers
 mode:MoR X B fr.mode fr'.mode
 kind:fr'.kind=fr.kind
 roundOf:OnR B fr.roundOf fr'.roundOf
theorem Ee.mono {X:Cx}{B B':Lk}(h:Le B B'){fr fr':Frame}(k:Ee X B fr fr'):Ee X B' fr fr' :=
 ⟨k.fn,k.tmps.mono h,k.todo.mono h,k.defers.mono h,k.mode.mono h,k.kind,k.roundOf.mono h⟩
inductive L8 (X:Cx)(B:Lk):List Frame->List Frame->Prop
 | nil:L8 X B [] []
 | cons {fr fr':Frame} {l l':List Frame}:Ee X B fr fr'->L8 X B l l'->L8 X B (fr :: l) (fr' :: l')
theorem L8.mono {X:Cx}{B B':Lk}(h:Le B B'){l l':List Frame}(k:L8 X B l l'):L8 X B' l l':=by
 induction k with
 | nil=>exact .nil
 | cons a _ ih=>exact .cons (a.mono h) ih
section
variable {X : Cx} {P P' : Program} {B : Lk}
theorem Ee.evR {fr fr':Frame}(h:Ee X B fr fr')(hg:∀g,X.G g->B g g)(hd:∀g,X.G g->¬X.D g/\X.L g=0):EvR X B fr.eval fr'.eval:=by
 intro x hx
 cases x with
 | tmp t=>exact h.tmps.getD t Ga
 | const v=>exact hx B
 | global g=>exact .ptr ⟨⟨hg g hx,(hd g hx).1⟩,⟨rfl,Al3 (hd g hx).2⟩,rfl⟩
 | func f=>exact .func (.func f hx.1 hx.2) rfl (fun i v v' a _=>by simp at a) rfl (fun i v v' a _=>by simp at a)
theorem Ee.finish {fr fr':Frame}(h:Ee X B fr fr'){v v':Value}(hv:VR X B v v'):Ee X B (fr.finish v) (fr'.finish v'):=by
 obtain⟨fn,tmps,todo,defers,mode,kind,ro⟩:=fr;obtain⟨fn',tmps',todo',defers',mode',kind',ro'⟩:=fr';obtain⟨h1,h2,h3,h4,h5,h6,h7⟩:=h;dsimp only at h1 h2 h3 h4 h5 h6 h7;unfold Frame.finish
 cases h3 with
 | nil=>exact⟨h1,h2,.nil,h4,h5,h6,h7⟩
 | cons hi hl =>
   cases hi with
   | code a=>exact⟨h1,h2,.cons (.code a) hl,h4,h5,h6,h7⟩
   | inBlock i=>exact⟨h1,h2,.cons (.inBlock i) hl,h4,h5,h6,h7⟩
   | inLoop a=>exact⟨h1,h2,.cons (.inLoop a) hl,h4,h5,h6,h7⟩
   | inScope a=>exact⟨h1,h2,.cons (.inScope a) hl,h4,h5,h6,h7⟩
   | inRangeFunc a=>exact⟨h1,h2,.cons (.endRangeFunc a) hl,h4,h5,h6,h7⟩
   | endRangeFunc a=>exact⟨h1,h2,.cons (.endRangeFunc a) hl,h4,h5,h6,h7⟩
   | beginRound=>exact⟨h1,h2,hl,h4,h5,h6,h7⟩
   | inRegion o l a =>
     cases l with
     | nil=>exact⟨h1,h2,.cons (.inRegion o [] a) hl,h4,h5,h6,h7⟩
     | cons i rest =>
       dsimp only
       cases ((o[i]?).bind (·.dst))with
       | none=>exact⟨h1,h2,.cons (.inRegion o rest a) hl,h4,h5,h6,h7⟩
       | some d=>exact⟨h1,h2.set d hv,.cons (.inRegion o rest a) hl,h4,h5,h6,h7⟩
theorem Ee.raise {fr fr':Frame}(h:Ee X B fr fr'){l l':List PanicEntry}(hl:Z8 X B l l'):Ee X B (fr.raise l) (fr'.raise l'):=by
 obtain⟨h1,h2,h3,h4,h5,h6,h7⟩:=h;unfold Frame.raise;generalize fr.mode=m at h5;generalize fr'.mode=m' at h5
 cases h5 with
 | run=>exact⟨h1,h2,h3,h4,.panicking hl,h6,h7⟩
 | returning=>exact⟨h1,h2,h3,h4,.panicking hl,h6,h7⟩
 | panicking k=>exact⟨h1,h2,h3,h4,.panicking (hl.append k),h6,h7⟩
theorem Ee.place {fr fr':Frame}(h:Ee X B fr fr'):fr'.mode=.run↔fr.mode=.run:=by
 have:=h.mode;generalize fr.mode=m at this;generalize fr'.mode=m' at this
 cases this<;>simp
def StR (X:Cx)(P P':Program)(B:Lk)(fr fr':Frame)(cs cs':List Frame):Prop :=
 (Ee X B fr fr'/\L8 X B cs cs')\/∃f p p' k,(X.T f/\X.Ar f p.size) /\((k=.normal\/X.Dn)/\cs≠[])/\fr=Frame.enter P f p k/\fr'=Frame.enter P' f p' k/\AR X B p p'/\L8 X B cs cs'
def A2e (X:Cx)(B:Lk)(n:Array Event):Prop:=∀e∈n,Z9 X B e/\∀f,e.loc≠.mark (.extern f)
def Ey (X:Cx)(P P':Program)(B:Lk)(V W:World)(base base':List Frame)(r r':GStep):Prop :=
 (∀fr1 cs V1 es,r=.go (G fr1 cs) V1 es->∃c1 c1' fr1' B' W1 n,cs=c1++base/\r'=.go (G fr1' (c1'++base')) W1 n/\Ext X B V W B' V1 W1/\WR X B' V1 W1/\A2e X B' n/\StR X P P' B' fr1 fr1' c1 c1') /\
 ((∃fr1 cs V1 es,r=.go (G fr1 cs) V1 es)\/∃o w es,r=.ended o w es)
theorem Mx {V W:World}{base base':List Frame}{r r':GStep}(h:∃o w es,r=.ended o w es):Ey X P P' B V W base base' r r':=⟨fun fr1 cs V1 es e=>(by obtain⟨_,_,_,h⟩:=h;rw[h]at e;cases e),.inr h⟩
theorem Sw {P:Program}{fn:FuncId}{es:Array Event}:∀e∈seen P fn es,e∈es/\∀f,e.loc≠.mark (.extern f):=by
 have key:∀(l:List Event) (acc:Bool×Array Event) (S:List Event),(∀e∈acc.2,e∈S/\∀f,e.loc≠.mark (.extern f)) ->(∀e∈l,e∈S) ->
  ∀e∈(l.foldl (fun(x:Bool×Array Event) e=>match x with |(q,kept)=>match e.loc with|.mark (.extern f)=>((P.funcs[f]?).any (·.norace),kept)|_=>(q,if q && !e.sync then kept else kept.push e)) acc).2,e∈S/\∀f,e.loc≠.mark (.extern f):=by
  intro l
  induction l with
  | nil=>intro acc S h _;exact h
  | cons x l ih =>
    intro acc S h hl;simp only[An5]
    refine ih _ S ?_ fun e he=>hl e (by simp[he])
    obtain⟨q,kept⟩:=acc;dsimp only at h ⊢
    split
    ·exact h
    ·rename_i hx
     dsimp only
     split
     ·exact h
     ·intro e he
      rcases Amq.1 he with he|rfl
      ·exact h e he
      ·exact⟨hl _ (by simp),fun f hf=>hx f hf⟩
 intro e he;unfold seen at he;dsimp only at he;rw[<-Amn]at he;obtain⟨h1,h2⟩:=key es.toList _ es.toList (by intro e h;simp at h) (fun e h=>h) e he
 exact⟨by simpa using h1,h2⟩
theorem Gs.seen {n:Array Event}(h:Gs X B n)(fn:FuncId):A2e X B (seen P' fn n):=fun e he=>⟨h e (Sw e he).1,(Sw e he).2⟩
theorem A2e.nil:A2e X B #[]:=fun e h=>by simp at h
theorem Nf (hF:A65 X P P'){f:FuncId}(hc:X.C f){p p':Array Value}(ha:X.T f->X.Ar f p.size)(hp:AR X B p p')(k:CallKind){cs cs':List Frame}(hk:X.T f ->(k=.normal\/X.Dn)/\cs≠[])(hcs:L8 X B cs cs') :
 StR X P P' B (Frame.enter P f p k) (Frame.enter P' f p' k) cs cs':=by
 by_cases ht:X.T f
 ·exact .inr ⟨f,p,p',k,⟨ht,ha ht⟩,hk ht,rfl,rfl,hp,hcs⟩
 ·refine .inl ⟨?_,hcs⟩
  rcases hF.funcs f with⟨e1,e2⟩ |⟨fn,fn',e1,e2,hn,_,hnt,hb⟩
  ·unfold Frame.enter;rw[e1,e2]
   exact⟨rfl,by dsimp only;rw[<-hp.1];exact hp.append (AR.replicate _ Ga),.cons (.code (.inl rfl)) .nil,.nil,.run,rfl,.none⟩
  ·unfold Frame.enter;rw[e1,e2]
   refine⟨rfl,by dsimp only[Option.map_some,Option.getD_some];rw[<-hp.1,hnt hc ht];exact hp.append (AR.replicate _ Ga),?_,.nil,.run,rfl,.none⟩
   dsimp only
   rcases(hb hc).2 with⟨b1,b2,h3⟩ |⟨b1,b2,_⟩
   ·obtain⟨c,c',e3,e4,e5⟩:=h3 ht;rw[show(Option.bind (some fn') fun x=>x.body)=some c' from e4,show(Option.bind (some fn) fun x=>x.body)=some c from e3]
    exact .cons (.code e5) .nil
   ·have e3:fn.body=none:=by simpa using b1
    rw[show(Option.bind (some fn') fun x=>x.body)=none from b2.trans e3,show(Option.bind (some fn) fun x=>x.body)=none from e3]
    exact .cons (.code (.inl rfl)) .nil
end
end Lr
namespace Lr
open Go.Conc
section
variable {X : Cx} {P P' : Program} {B : Lk}
theorem Rc.kind {l l':List Item}(h:Rc X B l l'):(∀d r s k,l≠.call d true r s :: k)/\∀d r s k,l'≠.call d true r s :: k:=by
 cases h with
 | nil=>exact⟨fun _ _ _ _ e=>(by cases e),fun _ _ _ _ e=>(by cases e)⟩
 | cons hi _=>cases hi<;>exact⟨fun _ _ _ _ e=>(by cases e),fun _ _ _ _ e=>(by cases e)⟩
def A13 (P:Program)(fr:Frame)(cs:List Frame)(w:World):Next->GStep
 | .value v=>.go (G (fr.finish v) cs) w
 | .skip=>.go (G (fr.finish undef) cs) w
 | .enter f args=>.go (G (Frame.enter P f args .normal) (fr :: cs)) w
 | .round l f tmps assign body=>.go (G (Frame.round l f tmps assign body .normal) (fr :: cs)) w
 | .defer d=>.go (G ({ fr with defers:=d :: fr.defers }.finish undef) cs) w
 | _=>.ended (.stuck "" "") w
def Plain:Next->Prop
 | .value _|.skip|.enter ..|.round ..|.defer _=>True
 | _=>False
def X7 (es' es:Array Event):Prop:=∀e∈es',e∈es/\∀f,e.loc≠.mark (.extern f)
theorem Vn {P:Program}{fr:Frame}{es:Array Event}:X7 (seen P fr.fn (if fr.kind == .early then#[]else es)) es:=by
 intro e he;obtain⟨h1,h2⟩:=Sw e he
 refine⟨?_,h2⟩
 split at h1
 ·simp at h1
 ·exact h1
theorem Ek {P:Program}{fr:Frame}{cs:List Frame}{s:Sem Next}{w w':World}{n:Next}{es:Array Event}(h:s.runT P w #[]=(.ok n w',es))(hn:Plain n)
 (hk:∀d r s k,fr.todo≠.call d true r s :: k):∃es',X7 es' es/\stepG.apply P true fr cs none s w=GStep.after es' (A13 P fr cs w' n):=by
 refine⟨_,Vn (P:=P) (fr:=fr),?_⟩
 unfold stepG.apply;rw[Aij rfl,h]
 cases n<;>first
  | exact hn.elim
  | rfl
  |(dsimp only[A13,G]
    generalize seen P fr.fn _=E
    split
    ·exact absurd ‹_› (hk _ _ _ _)
    ·rfl)
theorem Pe {P:Program}{fr:Frame}{cs:List Frame}{s:Sem Next}{w w':World}{v:Value}{es:Array Event}(h:s.runT P w #[]=(.halt (.panic v) w',es)) :
 ∃es',X7 es' es/\stepG.apply P true fr cs none s w=GStep.after es' (.go (G (fr.raise [⟨v,false,false⟩]) cs) w'):=by
 refine⟨_,Vn (P:=P) (fr:=fr),?_⟩
 unfold stepG.apply;rw[Aij rfl,h]
 rfl
theorem Iv {es:Array Event}{s:GStep}{g:Goroutine}{w:World}{es1:Array Event}(h:GStep.after es s=.go g w es1):∃es2,s=.go g w es2/\es1=es++es2:=by
 cases s<;>simp only[GStep.after]at h<;>first|cases h|skip
 exact⟨_,rfl,rfl⟩
theorem Mm {P:Program}{fr:Frame}{cs:List Frame}{s:Sem Next}{w w':World}{x:Halt}{es:Array Event}(h:s.runT P w #[]=(.halt x w',es))(hn:Kc x) :
 ∃o w1 es1,stepG.apply P true fr cs none s w=.ended o w1 es1:=by
 unfold stepG.apply;rw[Aij rfl,h]
 cases x with
 | unsupported u =>
   cases u<;>first
    | exact hn.elim
    | exact⟨_,_,_,rfl⟩
 | exit c=>exact⟨_,_,_,rfl⟩
 | stuck m=>exact⟨_,_,_,rfl⟩
 | _=>exact hn.elim
theorem N9 (hF:A65 X P P'){fr fr':Frame}(hf:Ee X B fr fr'){cs cs':List Frame}(hc:L8 X B cs cs'){s s':Sem Next}(hs:SR X P P' (Tz X) B s s'){V W:World}(hw:WR X B V W)(base base':List Frame) :
 Ey X P P' B V W base base' (stepG.apply P true fr (cs++base) none s V) (stepG.apply P' true fr' (cs'++base') none s' W):=by
 have hs:=(hs V W hw).2;have hv:s.runT P V #[]=(s.run P V,s.events P V #[]):=Sem.runT_eq ..;generalize s.run P V=r at hs hv
 match r,hs with
 | .ok n V',⟨B',W',b,m,h1,h2,h3,h4,h5⟩ =>
   have h3:=h3 #[]
   have fin:∀{es es':Array Event} {a a':GStep},X7 es' m->stepG.apply P true fr (cs++base) none s V=GStep.after es a->stepG.apply P' true fr' (cs'++base') none s' W=GStep.after es' a' ->
    ((∃fr1 csx V1 e1,a=.go (G fr1 csx) V1 e1)/\∀fr1 csx V1 e1,a=.go (G fr1 csx) V1 e1->∃c1 c1' fr1',csx=c1++base/\V1=V'/\a'=.go (G fr1' (c1'++base')) W'/\StR X P P' B' fr1 fr1' c1 c1') ->
    Ey X P P' B V W base base' (stepG.apply P true fr (cs++base) none s V) (stepG.apply P' true fr' (cs'++base') none s' W):=by
    intro es es' a a' hk e1 e2 ⟨⟨fr0,cs0,V0,es0,h0⟩,h⟩
    refine⟨?_,.inl ⟨fr0,cs0,V0,es++es0,by rw[e1,h0];rfl⟩⟩
    intro fr1 csx V1 esx he;rw[e1]at he;obtain⟨es2,he,_⟩:=Iv he;obtain⟨c1,c1',fr1',rfl,rfl,rfl,hst⟩:=h _ _ _ _ he
    exact⟨c1,c1',fr1',B',W',es',rfl,by rw[e2];simp[GStep.after],h1,h2,fun e x=>⟨h5 e (hk e x).1,(hk e x).2⟩,hst⟩
   rw[Ajt]at h3
   cases h4 with
   | value h =>
     obtain⟨_,_,e1⟩:=Ek (cs:=cs++base) hv (n:=.value _) trivial hf.todo.kind.1;obtain⟨_,k2,e2⟩:=Ek (cs:=cs'++base') h3 (n:=.value _) trivial hf.todo.kind.2
     refine fin k2 e1 e2 ⟨⟨_,_,_,_,rfl⟩,?_⟩
     rintro fr1 csx V1 e1 he
     cases he
     exact⟨cs,cs',_,rfl,rfl,rfl,.inl ⟨(hf.mono h1.le).finish h,hc.mono h1.le⟩⟩
   | skip =>
     obtain⟨_,_,e1⟩:=Ek (cs:=cs++base) hv (n:=.skip) trivial hf.todo.kind.1;obtain⟨_,k2,e2⟩:=Ek (cs:=cs'++base') h3 (n:=.skip) trivial hf.todo.kind.2
     refine fin k2 e1 e2 ⟨⟨_,_,_,_,rfl⟩,?_⟩
     rintro fr1 csx V1 e1 he
     cases he
     exact⟨cs,cs',_,rfl,rfl,rfl,.inl ⟨(hf.mono h1.le).finish Ga,hc.mono h1.le⟩⟩
   | enter f hcf har hp =>
     obtain⟨_,_,e1⟩:=Ek (cs:=cs++base) hv (n:=.enter _ _) trivial hf.todo.kind.1;obtain⟨_,k2,e2⟩:=Ek (cs:=cs'++base') h3 (n:=.enter _ _) trivial hf.todo.kind.2
     refine fin k2 e1 e2 ⟨⟨_,_,_,_,rfl⟩,?_⟩
     rintro fr1 csx V1 e1 he
     cases he
     exact⟨fr :: cs,fr' :: cs',_,rfl,rfl,rfl,Nf hF hcf har hp _ (fun _=>⟨.inl rfl,by simp⟩) (.cons (hf.mono h1.le) (hc.mono h1.le))⟩
   | round f hl hp ha hb =>
     obtain⟨_,_,e1⟩:=Ek (cs:=cs++base) hv (n:=.round _ _ _ _ _) trivial hf.todo.kind.1;obtain⟨_,k2,e2⟩:=Ek (cs:=cs'++base') h3 (n:=.round _ _ _ _ _) trivial hf.todo.kind.2
     refine fin k2 e1 e2 ⟨⟨_,_,_,_,rfl⟩,?_⟩
     rintro fr1 csx V1 e1 he
     cases he
     exact⟨fr :: cs,fr' :: cs',_,rfl,rfl,rfl,.inl ⟨⟨rfl,hp,.cons (.code ha) (.cons .beginRound (.cons (.code hb) .nil)),.nil,.run,rfl,.some hl⟩,.cons (hf.mono h1.le) (hc.mono h1.le)⟩⟩
   | @defer d d' hq hd =>
     obtain⟨_,_,e1⟩:=Ek (cs:=cs++base) hv (n:=.defer _) trivial hf.todo.kind.1;obtain⟨_,k2,e2⟩:=Ek (cs:=cs'++base') h3 (n:=.defer _) trivial hf.todo.kind.2
     refine fin k2 e1 e2 ⟨⟨_,_,_,_,rfl⟩,?_⟩
     rintro fr1 csx V1 e1 he
     cases he
     have hf':=hf.mono h1.le
     exact⟨cs,cs',_,rfl,rfl,rfl,.inl ⟨Ee.finish (fr:={ fr with defers:=d :: fr.defers }) (fr':={ fr' with defers:=d' :: fr'.defers }) ⟨hf'.fn,hf'.tmps,hf'.todo,.cons (.inl hq) hd hf'.defers,hf'.mode,hf'.kind,hf'.roundOf⟩ Ga,hc.mono h1.le⟩⟩
 | .halt x V',k =>
   rcases G6 x with⟨v,rfl⟩|hp
   ·obtain⟨B',W',v',m,h1,h2,h3,h4,h5⟩:=k;have h3:=h3 #[];rw[Ajt]at h3;obtain⟨_,_,e1⟩:=Pe (fr:=fr) (cs:=cs++base) hv;obtain⟨es',k2,e2⟩:=Pe (fr:=fr') (cs:=cs'++base') h3
    refine⟨?_,.inl ⟨_,_,_,_,by rw[e1];rfl⟩⟩
    intro fr1 csx V1 esx he;rw[e1]at he;obtain⟨es2,he,_⟩:=Iv he
    cases he
    exact⟨cs,cs',_,B',W',es',rfl,by rw[e2];simp[GStep.after],h1,h2,fun e x=>⟨h5 e (k2 e x).1,(k2 e x).2⟩,.inl ⟨(hf.mono h1.le).raise (.cons _ _ h4 .nil),hc.mono h1.le⟩⟩
   ·exact Mx (Mm hv (Ha hp k))
end
end Lr
end Go.Proofs.YtlfleicchbgcmaaGreat
