/- Merged texts: LrJ, LrK, LrL. -/
import Derived.Test.YthhfljldbfgpcaaGreatDoorT26
set_option linter.all false
section
namespace Go.Proofs.YthhfljldbfgpcaaGreatDoor.Lr
section
variable {X:Cx} {P P':Program} {B:Lk} (hP:PRel X P P')
include hP
theorem sr_addPI (t:TypeId) {a a':Addr} (ha:AdR X B a a') (k:IntKind) (n:Int):SR X P P' (VRel X) B
   (Go.underlying t >>= fun d => if (match d with | .unsafePointer => true | _ => false)=true then movedPointer t (.pointer (some a)) (.int k n) else movedNumber t (.pointer (some a)) (.int k n))
   (Go.underlying t >>= fun d => if (match d with | .unsafePointer => true | _ => false)=true then movedPointer t (.pointer (some a')) (.int k n) else movedNumber t (.pointer (some a')) (.int k n)):=by
 refine SR.bind (SR.underlying hP t) ?_
 rintro B1 l1 _ d ⟨rfl,_⟩
 exact SR.ite (fun _ => sr_movedPointer hP t (.ptr (ha.mono l1)) (.int _ _)) (fun _ => sr_movedNumber hP t (.ptr (ha.mono l1)) (.int _ _))
theorem sr_addNI (t:TypeId) (k:IntKind) (n:Int):SR X P P' (VRel X) B
   (Go.underlying t >>= fun d => if (match d with | .unsafePointer => true | _ => false)=true then movedPointer t (.pointer none) (.int k n) else movedNumber t (.pointer none) (.int k n))
   (Go.underlying t >>= fun d => if (match d with | .unsafePointer => true | _ => false)=true then movedPointer t (.pointer none) (.int k n) else movedNumber t (.pointer none) (.int k n)):=by
 refine SR.bind (SR.underlying hP t) ?_
 rintro B1 l1 _ d ⟨rfl,_⟩
 exact SR.ite (fun _ => sr_movedPointer hP t .pnil (.int _ _)) (fun _ => sr_movedNumber hP t .pnil (.int _ _))
theorem sr_subPP {a a' b b':Addr} (ha:AdR X B a a') (hb:AdR X B b b'):SR X P P' (VRel X) B
   (behindNumber a >>= fun x => behindNumber b >>= fun y => Op.addrSub .u64 x.1 y.1) (behindNumber a' >>= fun x => behindNumber b' >>= fun y => Op.addrSub .u64 x.1 y.1):=by
 refine SR.bind (sr_behindNumber ha) fun B1 l1 x x' hx => SR.bind (sr_behindNumber (hb.mono l1)) fun B2 l2 y y' hy => sr_addrSub hP _ (hx.2.mono l2) hy.2
theorem sr_cmpPP (op:BinOp) {a a' b b':Addr} (ha:AdR X B a a') (hb:AdR X B b b'):SR X P P' (VRel X) B
   (behindNumber a >>= fun x => behindNumber b >>= fun y => Op.addrCmp op x.1 y.1) (behindNumber a' >>= fun x => behindNumber b' >>= fun y => Op.addrCmp op x.1 y.1):=by
 refine SR.bind (sr_behindNumber ha) fun B1 l1 x x' hx => SR.bind (sr_behindNumber (hb.mono l1)) fun B2 l2 y y' hy => sr_addrCmp hP _ (hx.2.mono l2) hy.2
theorem sr_modP (k:IntKind) {a a':Addr} (ha:AdR X B a a') (n:Int):SR X P P' (VRel X) B (behindNumber a >>= fun x => Op.addrMod k x.1 n) (behindNumber a' >>= fun x => Op.addrMod k x.1 n) :=
 SR.bind (sr_behindNumber ha) fun _ _ _ _ hx => sr_addrMod hP _ hx.2 n
set_option maxHeartbeats 4000000 in
theorem sr_op_add (t:TypeId) {x x' y y':Value} (hx:VR X B x x') (hy:VR X B y y'):SR X P P' (VRel X) B (binOp .add t x y) (binOp .add t x' y'):=by
 unfold binOp
 cases hx <;> cases hy <;> first
   | exact SR.stuck
   | exact SR.unsupported
   | exact SR.ite (fun _ => SR.stuck) (fun _ => (SR.floatArith _ _ _ _).mono fun B' a b h => by obtain ⟨rfl,r,rfl⟩:=h; exact .float _ _)
   | exact SR.ite (fun _ => SR.stuck) (fun _ => (SR.floatCmp _ _ _ _).mono fun B' a b h => by obtain ⟨rfl,r,rfl⟩:=h; exact .bool _)
   | exact SR.ite (fun _ => SR.stuck) (fun _ => SR.complexOp' _ _ _ _ _ _)
   | exact (SR.stringOp _ _ _).mono fun B' a b h => by obtain ⟨rfl,h⟩:=h; exact h B'
   | exact SR.ite (fun _ => SR.stuck) (fun _ => SR.intArith _ _ _ _)
   | exact sr_addPI hP t (by assumption) _ _
   | exact sr_movedNumber hP t (.ptr (by assumption)) (.int _ _)
   | exact sr_movedNumber hP t .pnil (.int _ _)
   | exact sr_addNI hP t _ _
set_option maxHeartbeats 4000000 in
theorem sr_op_sub (t:TypeId) {x x' y y':Value} (hx:VR X B x x') (hy:VR X B y y'):SR X P P' (VRel X) B (binOp .sub t x y) (binOp .sub t x' y'):=by
 unfold binOp
 cases hx <;> cases hy <;> first
   | exact SR.stuck
   | exact SR.unsupported
   | exact SR.ite (fun _ => SR.stuck) (fun _ => (SR.floatArith _ _ _ _).mono fun B' a b h => by obtain ⟨rfl,r,rfl⟩:=h; exact .float _ _)
   | exact SR.ite (fun _ => SR.stuck) (fun _ => (SR.floatCmp _ _ _ _).mono fun B' a b h => by obtain ⟨rfl,r,rfl⟩:=h; exact .bool _)
   | exact SR.ite (fun _ => SR.stuck) (fun _ => SR.complexOp' _ _ _ _ _ _)
   | exact (SR.stringOp _ _ _).mono fun B' a b h => by obtain ⟨rfl,h⟩:=h; exact h B'
   | exact SR.ite (fun _ => SR.stuck) (fun _ => SR.intArith _ _ _ _)
   | exact sr_movedNumber hP t (.ptr (by assumption)) (.int _ _)
   | exact sr_movedNumber hP t .pnil (.int _ _)
   | exact sr_subPP hP (by assumption) (by assumption)
set_option maxHeartbeats 4000000 in
omit hP in
theorem sr_op_mul (t:TypeId) {x x' y y':Value} (hx:VR X B x x') (hy:VR X B y y'):SR X P P' (VRel X) B (binOp .mul t x y) (binOp .mul t x' y'):=by
 unfold binOp
 cases hx <;> cases hy <;> first
   | exact SR.stuck
   | exact SR.unsupported
   | exact SR.ite (fun _ => SR.stuck) (fun _ => (SR.floatArith _ _ _ _).mono fun B' a b h => by obtain ⟨rfl,r,rfl⟩:=h; exact .float _ _)
   | exact SR.ite (fun _ => SR.stuck) (fun _ => (SR.floatCmp _ _ _ _).mono fun B' a b h => by obtain ⟨rfl,r,rfl⟩:=h; exact .bool _)
   | exact SR.ite (fun _ => SR.stuck) (fun _ => SR.complexOp' _ _ _ _ _ _)
   | exact (SR.stringOp _ _ _).mono fun B' a b h => by obtain ⟨rfl,h⟩:=h; exact h B'
   | exact SR.ite (fun _ => SR.stuck) (fun _ => SR.intArith _ _ _ _)
set_option maxHeartbeats 4000000 in
theorem sr_op_quo (t:TypeId) {x x' y y':Value} (hx:VR X B x x') (hy:VR X B y y'):SR X P P' (VRel X) B (binOp .quo t x y) (binOp .quo t x' y'):=by
 unfold binOp
 cases hx <;> cases hy <;> first
   | exact SR.stuck
   | exact SR.unsupported
   | exact SR.ite (fun _ => SR.stuck) (fun _ => (SR.floatArith _ _ _ _).mono fun B' a b h => by obtain ⟨rfl,r,rfl⟩:=h; exact .float _ _)
   | exact SR.ite (fun _ => SR.stuck) (fun _ => (SR.floatCmp _ _ _ _).mono fun B' a b h => by obtain ⟨rfl,r,rfl⟩:=h; exact .bool _)
   | exact SR.ite (fun _ => SR.stuck) (fun _ => SR.complexOp' _ _ _ _ _ _)
   | exact (SR.stringOp _ _ _).mono fun B' a b h => by obtain ⟨rfl,h⟩:=h; exact h B'
   | exact SR.ite (fun _ => SR.stuck) (fun _ => SR.intDiv hP _ _ _ _)
set_option maxHeartbeats 4000000 in
theorem sr_op_rem (t:TypeId) {x x' y y':Value} (hx:VR X B x x') (hy:VR X B y y'):SR X P P' (VRel X) B (binOp .rem t x y) (binOp .rem t x' y'):=by
 unfold binOp
 cases hx <;> cases hy <;> first
   | exact SR.stuck
   | exact SR.unsupported
   | exact SR.ite (fun _ => SR.stuck) (fun _ => (SR.floatArith _ _ _ _).mono fun B' a b h => by obtain ⟨rfl,r,rfl⟩:=h; exact .float _ _)
   | exact SR.ite (fun _ => SR.stuck) (fun _ => (SR.floatCmp _ _ _ _).mono fun B' a b h => by obtain ⟨rfl,r,rfl⟩:=h; exact .bool _)
   | exact SR.ite (fun _ => SR.stuck) (fun _ => SR.complexOp' _ _ _ _ _ _)
   | exact (SR.stringOp _ _ _).mono fun B' a b h => by obtain ⟨rfl,h⟩:=h; exact h B'
   | exact SR.ite (fun _ => SR.stuck) (fun _ => SR.intDiv hP _ _ _ _)
   | exact sr_modP hP _ (by assumption) _
set_option maxHeartbeats 4000000 in
theorem sr_op_and (t:TypeId) {x x' y y':Value} (hx:VR X B x x') (hy:VR X B y y'):SR X P P' (VRel X) B (binOp .and t x y) (binOp .and t x' y'):=by
 unfold binOp
 cases hx <;> cases hy <;> first
   | exact SR.stuck
   | exact SR.unsupported
   | exact SR.ite (fun _ => SR.stuck) (fun _ => (SR.floatArith _ _ _ _).mono fun B' a b h => by obtain ⟨rfl,r,rfl⟩:=h; exact .float _ _)
   | exact SR.ite (fun _ => SR.stuck) (fun _ => (SR.floatCmp _ _ _ _).mono fun B' a b h => by obtain ⟨rfl,r,rfl⟩:=h; exact .bool _)
   | exact SR.ite (fun _ => SR.stuck) (fun _ => SR.complexOp' _ _ _ _ _ _)
   | exact (SR.stringOp _ _ _).mono fun B' a b h => by obtain ⟨rfl,h⟩:=h; exact h B'
   | exact SR.ite (fun _ => SR.stuck) (fun _ => SR.intBits _ _ _ _)
   | exact sr_modP hP _ (by assumption) _
set_option maxHeartbeats 4000000 in
omit hP in
theorem sr_op_or (t:TypeId) {x x' y y':Value} (hx:VR X B x x') (hy:VR X B y y'):SR X P P' (VRel X) B (binOp .or t x y) (binOp .or t x' y'):=by
 unfold binOp
 cases hx <;> cases hy <;> first
   | exact SR.stuck
   | exact SR.unsupported
   | exact SR.ite (fun _ => SR.stuck) (fun _ => (SR.floatArith _ _ _ _).mono fun B' a b h => by obtain ⟨rfl,r,rfl⟩:=h; exact .float _ _)
   | exact SR.ite (fun _ => SR.stuck) (fun _ => (SR.floatCmp _ _ _ _).mono fun B' a b h => by obtain ⟨rfl,r,rfl⟩:=h; exact .bool _)
   | exact SR.ite (fun _ => SR.stuck) (fun _ => SR.complexOp' _ _ _ _ _ _)
   | exact (SR.stringOp _ _ _).mono fun B' a b h => by obtain ⟨rfl,h⟩:=h; exact h B'
   | exact SR.ite (fun _ => SR.stuck) (fun _ => SR.intBits _ _ _ _)
set_option maxHeartbeats 4000000 in
omit hP in
theorem sr_op_xor (t:TypeId) {x x' y y':Value} (hx:VR X B x x') (hy:VR X B y y'):SR X P P' (VRel X) B (binOp .xor t x y) (binOp .xor t x' y'):=by
 unfold binOp
 cases hx <;> cases hy <;> first
   | exact SR.stuck
   | exact SR.unsupported
   | exact SR.ite (fun _ => SR.stuck) (fun _ => (SR.floatArith _ _ _ _).mono fun B' a b h => by obtain ⟨rfl,r,rfl⟩:=h; exact .float _ _)
   | exact SR.ite (fun _ => SR.stuck) (fun _ => (SR.floatCmp _ _ _ _).mono fun B' a b h => by obtain ⟨rfl,r,rfl⟩:=h; exact .bool _)
   | exact SR.ite (fun _ => SR.stuck) (fun _ => SR.complexOp' _ _ _ _ _ _)
   | exact (SR.stringOp _ _ _).mono fun B' a b h => by obtain ⟨rfl,h⟩:=h; exact h B'
   | exact SR.ite (fun _ => SR.stuck) (fun _ => SR.intBits _ _ _ _)
set_option maxHeartbeats 4000000 in
theorem sr_op_shl (t:TypeId) {x x' y y':Value} (hx:VR X B x x') (hy:VR X B y y'):SR X P P' (VRel X) B (binOp .shl t x y) (binOp .shl t x' y'):=by
 unfold binOp
 cases hx <;> cases hy <;> first
   | exact SR.stuck
   | exact SR.unsupported
   | exact SR.ite (fun _ => SR.stuck) (fun _ => (SR.floatArith _ _ _ _).mono fun B' a b h => by obtain ⟨rfl,r,rfl⟩:=h; exact .float _ _)
   | exact SR.ite (fun _ => SR.stuck) (fun _ => (SR.floatCmp _ _ _ _).mono fun B' a b h => by obtain ⟨rfl,r,rfl⟩:=h; exact .bool _)
   | exact SR.ite (fun _ => SR.stuck) (fun _ => SR.complexOp' _ _ _ _ _ _)
   | exact (SR.stringOp _ _ _).mono fun B' a b h => by obtain ⟨rfl,h⟩:=h; exact h B'
   | exact SR.shift hP _ _ _ _ _
set_option maxHeartbeats 4000000 in
theorem sr_op_shr (t:TypeId) {x x' y y':Value} (hx:VR X B x x') (hy:VR X B y y'):SR X P P' (VRel X) B (binOp .shr t x y) (binOp .shr t x' y'):=by
 unfold binOp
 cases hx <;> cases hy <;> first
   | exact SR.stuck
   | exact SR.unsupported
   | exact SR.ite (fun _ => SR.stuck) (fun _ => (SR.floatArith _ _ _ _).mono fun B' a b h => by obtain ⟨rfl,r,rfl⟩:=h; exact .float _ _)
   | exact SR.ite (fun _ => SR.stuck) (fun _ => (SR.floatCmp _ _ _ _).mono fun B' a b h => by obtain ⟨rfl,r,rfl⟩:=h; exact .bool _)
   | exact SR.ite (fun _ => SR.stuck) (fun _ => SR.complexOp' _ _ _ _ _ _)
   | exact (SR.stringOp _ _ _).mono fun B' a b h => by obtain ⟨rfl,h⟩:=h; exact h B'
   | exact SR.shift hP _ _ _ _ _
set_option maxHeartbeats 4000000 in
omit hP in
theorem sr_op_andNot (t:TypeId) {x x' y y':Value} (hx:VR X B x x') (hy:VR X B y y'):SR X P P' (VRel X) B (binOp .andNot t x y) (binOp .andNot t x' y'):=by
 unfold binOp
 cases hx <;> cases hy <;> first
   | exact SR.stuck
   | exact SR.unsupported
   | exact SR.ite (fun _ => SR.stuck) (fun _ => (SR.floatArith _ _ _ _).mono fun B' a b h => by obtain ⟨rfl,r,rfl⟩:=h; exact .float _ _)
   | exact SR.ite (fun _ => SR.stuck) (fun _ => (SR.floatCmp _ _ _ _).mono fun B' a b h => by obtain ⟨rfl,r,rfl⟩:=h; exact .bool _)
   | exact SR.ite (fun _ => SR.stuck) (fun _ => SR.complexOp' _ _ _ _ _ _)
   | exact (SR.stringOp _ _ _).mono fun B' a b h => by obtain ⟨rfl,h⟩:=h; exact h B'
   | exact SR.ite (fun _ => SR.stuck) (fun _ => SR.intBits _ _ _ _)
set_option maxHeartbeats 4000000 in
theorem sr_op_lss (t:TypeId) {x x' y y':Value} (hx:VR X B x x') (hy:VR X B y y'):SR X P P' (VRel X) B (binOp .lss t x y) (binOp .lss t x' y'):=by
 unfold binOp
 cases hx <;> cases hy <;> first
   | exact SR.stuck
   | exact SR.unsupported
   | exact SR.ite (fun _ => SR.stuck) (fun _ => (SR.floatArith _ _ _ _).mono fun B' a b h => by obtain ⟨rfl,r,rfl⟩:=h; exact .float _ _)
   | exact SR.ite (fun _ => SR.stuck) (fun _ => (SR.floatCmp _ _ _ _).mono fun B' a b h => by obtain ⟨rfl,r,rfl⟩:=h; exact .bool _)
   | exact SR.ite (fun _ => SR.stuck) (fun _ => SR.complexOp' _ _ _ _ _ _)
   | exact (SR.stringOp _ _ _).mono fun B' a b h => by obtain ⟨rfl,h⟩:=h; exact h B'
   | exact SR.ite (fun _ => SR.stuck) (fun _ => SR.intCmp _ _ _)
   | exact sr_cmpPP hP _ (by assumption) (by assumption)
set_option maxHeartbeats 4000000 in
theorem sr_op_leq (t:TypeId) {x x' y y':Value} (hx:VR X B x x') (hy:VR X B y y'):SR X P P' (VRel X) B (binOp .leq t x y) (binOp .leq t x' y'):=by
 unfold binOp
 cases hx <;> cases hy <;> first
   | exact SR.stuck
   | exact SR.unsupported
   | exact SR.ite (fun _ => SR.stuck) (fun _ => (SR.floatArith _ _ _ _).mono fun B' a b h => by obtain ⟨rfl,r,rfl⟩:=h; exact .float _ _)
   | exact SR.ite (fun _ => SR.stuck) (fun _ => (SR.floatCmp _ _ _ _).mono fun B' a b h => by obtain ⟨rfl,r,rfl⟩:=h; exact .bool _)
   | exact SR.ite (fun _ => SR.stuck) (fun _ => SR.complexOp' _ _ _ _ _ _)
   | exact (SR.stringOp _ _ _).mono fun B' a b h => by obtain ⟨rfl,h⟩:=h; exact h B'
   | exact SR.ite (fun _ => SR.stuck) (fun _ => SR.intCmp _ _ _)
   | exact sr_cmpPP hP _ (by assumption) (by assumption)
set_option maxHeartbeats 4000000 in
theorem sr_op_gtr (t:TypeId) {x x' y y':Value} (hx:VR X B x x') (hy:VR X B y y'):SR X P P' (VRel X) B (binOp .gtr t x y) (binOp .gtr t x' y'):=by
 unfold binOp
 cases hx <;> cases hy <;> first
   | exact SR.stuck
   | exact SR.unsupported
   | exact SR.ite (fun _ => SR.stuck) (fun _ => (SR.floatArith _ _ _ _).mono fun B' a b h => by obtain ⟨rfl,r,rfl⟩:=h; exact .float _ _)
   | exact SR.ite (fun _ => SR.stuck) (fun _ => (SR.floatCmp _ _ _ _).mono fun B' a b h => by obtain ⟨rfl,r,rfl⟩:=h; exact .bool _)
   | exact SR.ite (fun _ => SR.stuck) (fun _ => SR.complexOp' _ _ _ _ _ _)
   | exact (SR.stringOp _ _ _).mono fun B' a b h => by obtain ⟨rfl,h⟩:=h; exact h B'
   | exact SR.ite (fun _ => SR.stuck) (fun _ => SR.intCmp _ _ _)
   | exact sr_cmpPP hP _ (by assumption) (by assumption)
set_option maxHeartbeats 4000000 in
theorem sr_op_geq (t:TypeId) {x x' y y':Value} (hx:VR X B x x') (hy:VR X B y y'):SR X P P' (VRel X) B (binOp .geq t x y) (binOp .geq t x' y'):=by
 unfold binOp
 cases hx <;> cases hy <;> first
   | exact SR.stuck
   | exact SR.unsupported
   | exact SR.ite (fun _ => SR.stuck) (fun _ => (SR.floatArith _ _ _ _).mono fun B' a b h => by obtain ⟨rfl,r,rfl⟩:=h; exact .float _ _)
   | exact SR.ite (fun _ => SR.stuck) (fun _ => (SR.floatCmp _ _ _ _).mono fun B' a b h => by obtain ⟨rfl,r,rfl⟩:=h; exact .bool _)
   | exact SR.ite (fun _ => SR.stuck) (fun _ => SR.complexOp' _ _ _ _ _ _)
   | exact (SR.stringOp _ _ _).mono fun B' a b h => by obtain ⟨rfl,h⟩:=h; exact h B'
   | exact SR.ite (fun _ => SR.stuck) (fun _ => SR.intCmp _ _ _)
   | exact sr_cmpPP hP _ (by assumption) (by assumption)
end
end Go.Proofs.YthhfljldbfgpcaaGreatDoor.Lr
end

section
namespace Go.Proofs.YthhfljldbfgpcaaGreatDoor.Lr
def NumPair:Value → Value → Prop
 | .int _ _,.int _ _ | .float _ _,.float _ _ | .complex _ _ _,.complex _ _ _ | .string _,.string _ => True
 | _,_ => False
theorem binOp_eql {t:TypeId} {x y:Value} (h:¬ NumPair x y):binOp .eql t x y=(Op.equal t x y >>= fun q => Pure.pure (.bool q)):=by
 cases x <;> cases y <;> first | rfl | exact absurd trivial h
theorem binOp_neq {t:TypeId} {x y:Value} (h:¬ NumPair x y):binOp .neq t x y=(Op.equal t x y >>= fun q => Pure.pure (.bool !q)):=by
 cases x <;> cases y <;> first | rfl | exact absurd trivial h
theorem NumPair.rel {X:Cx} {B:Lk} {x x' y y':Value} (hx:VR X B x x') (hy:VR X B y y') (h:NumPair x y):x'=x ∧ y'=y:=by
 cases hx <;> cases hy <;> first | exact ⟨rfl,rfl⟩ | exact h.elim
section
variable {X:Cx} {P P':Program} {B:Lk} (hP:PRel X P P')
theorem sr_numOp (op:BinOp) (ho:op=.eql ∨ op=.neq) (t:TypeId) {x y:Value} (h:NumPair x y):SR X P P' (VRel X) B (binOp op t x y) (binOp op t x y):=by
 rcases ho with rfl | rfl <;> cases x <;> cases y <;> first
   | exact h.elim
   | exact SR.ite (fun _ => SR.stuck) (fun _ => SR.intCmp _ _ _)
   | exact SR.ite (fun _ => SR.stuck) (fun _ => (SR.floatCmp _ _ _ _).mono fun B' a b h => by obtain ⟨rfl,r,rfl⟩:=h; exact .bool _)
   | exact SR.ite (fun _ => SR.stuck) (fun _ => SR.complexOp' _ _ _ _ _ _)
   | (unfold binOp
      exact (SR.stringOp _ _ _).mono fun B' a b h => by obtain ⟨rfl,h⟩:=h; exact h B')
include hP
theorem sr_op_eq (op:BinOp) (ho:op=.eql ∨ op=.neq) (t:TypeId) (k:Nat) (ht:SimT P k t=true) {x x' y y':Value} (hx:VR X B x x') (hy:VR X B y y'):SR X P P' (VRel X) B (binOp op t x y) (binOp op t x' y'):=by
 by_cases h:NumPair x y
 · obtain ⟨rfl,rfl⟩:=h.rel hx hy
   exact sr_numOp op ho t h
 · have h':¬ NumPair x' y':=by
     intro e
     apply h
     cases hx <;> cases hy <;> first | exact trivial | exact e.elim
   rcases ho with rfl | rfl
   · rw [binOp_eql h,binOp_eql h']
     refine SR.bind (sr_equalIn hP k Op.maxDepth t ht hx hy) ?_
     rintro B1 l1 _ q rfl
     exact SR.pure (.bool _)
   · rw [binOp_neq h,binOp_neq h']
     refine SR.bind (sr_equalIn hP k Op.maxDepth t ht hx hy) ?_
     rintro B1 l1 _ q rfl
     exact SR.pure (.bool _)
theorem sr_binOp (op:BinOp) (t:TypeId) (k:Nat) (ht:op=.eql ∨ op=.neq → SimT P k t=true) {x x' y y':Value} (hx:VR X B x x') (hy:VR X B y y'):SR X P P' (VRel X) B (binOp op t x y) (binOp op t x' y'):=by
 cases op with
 | add => exact sr_op_add hP t hx hy
 | sub => exact sr_op_sub hP t hx hy
 | mul => exact sr_op_mul t hx hy
 | quo => exact sr_op_quo hP t hx hy
 | rem => exact sr_op_rem hP t hx hy
 | and => exact sr_op_and hP t hx hy
 | or => exact sr_op_or t hx hy
 | xor => exact sr_op_xor t hx hy
 | shl => exact sr_op_shl hP t hx hy
 | shr => exact sr_op_shr hP t hx hy
 | andNot => exact sr_op_andNot t hx hy
 | eql => exact sr_op_eq hP .eql (.inl rfl) t k (ht (.inl rfl)) hx hy
 | neq => exact sr_op_eq hP .neq (.inr rfl) t k (ht (.inr rfl)) hx hy
 | lss => exact sr_op_lss hP t hx hy
 | leq => exact sr_op_leq hP t hx hy
 | gtr => exact sr_op_gtr hP t hx hy
 | geq => exact sr_op_geq hP t hx hy
def ConvT (P:Program) (s d:TypeId):Bool :=
 match P.underlying s,P.underlying d with
 | some (.int _),some (.int _) | some (.int _),some (.float _) | some (.float _),some (.int _) | some (.float _),some (.float _) | some (.complex _),some (.complex _) => true
 | _,_ => false
theorem sr_convert (s d:TypeId) (hc:ConvT P s d=true) {x x':Value} (hx:VR X B x x'):SR X P P' (VRel X) B (convert s d x) (convert s d x'):=by
 unfold convert
 refine SR.bind (SR.underlying hP s) ?_
 rintro B1 l1 _ ts ⟨rfl,hs⟩
 refine SR.bind (SR.underlying hP d) ?_
 rintro B2 l2 _ td ⟨rfl,hd⟩
 have hx:=(hx.mono l1).mono l2
 unfold ConvT at hc
 rw [hs,hd] at hc
 have c2:∀ {B:Lk} (s:FloatKind) (a b:Nat) (k:FloatKind),SR X P P' (VRel X) B (Conv.complexToComplex s a b k) (Conv.complexToComplex s a b k):=by
   intro B s a b k
   unfold Conv.complexToComplex
   refine SR.bind (SR.floatToFloat _ _ _) ?_
   rintro B3 l3 v _ ⟨rfl,r,rfl⟩
   refine SR.bind (SR.floatToFloat _ _ _) ?_
   rintro B4 l4 v _ ⟨rfl,q,rfl⟩
   exact SR.pure (.complex _ _ _)
 cases ts <;> cases td <;> simp only [Bool.false_eq_true] at hc <;> cases hx <;> first
   | exact SR.unsupported
   | exact SR.stuck
   | exact SR.pure (.int _ _)
   | exact SR.pure (.float _ _)
   | exact SR.floatToInt _ _ _
   | exact (SR.floatToFloat _ _ _).mono fun B' a b h => by obtain ⟨rfl,r,rfl⟩:=h; exact .float _ _
   | exact c2 _ _ _ _
end
end Go.Proofs.YthhfljldbfgpcaaGreatDoor.Lr
end

section
namespace Go.Proofs.YthhfljldbfgpcaaGreatDoor.Lr
inductive NxR (X:Cx) (B:Lk):Next → Next → Prop
 | value {v v':Value}:VR X B v v' → NxR X B (.value v) (.value v')
 | skip:NxR X B .skip .skip
 | enter (f:FuncId) {p p':Array Value}:X.C f → (X.T f → X.Ar f p.size) → AR X B p p' → NxR X B (.enter f p) (.enter f p')
 | round {l l':Nat} (f:FuncId) {p p':Array Value} {a b a' b':Code}:B l l' → AR X B p p' → CdR X a a' → CdR X b b' → NxR X B (.round l f p a b) (.round l' f p' a' b')
 | defer {d d':Deferred}:X.Dn → DfR X B d d' → NxR X B (.defer d) (.defer d')
structure FRel (X:Cx) (P P':Program):Prop extends PRel X P P' where
 size:P'.funcs.size=P.funcs.size
 funcs:∀ f,(P.funcs[f]?=none ∧ P'.funcs[f]?=none) ∨ ∃ fn fn',P.funcs[f]?=some fn ∧ P'.funcs[f]?=some fn' ∧ fn'.name=fn.name ∧ fn'.results=fn.results ∧ (X.C f → ¬ X.T f → fn'.ntmps=fn.ntmps) ∧
   (X.C f → fn.name ≠ "runtime.NumGoroutine" ∧ ((fn.body.isNone=false ∧ fn'.body.isNone=false ∧ (¬ X.T f → ∃ c c',fn.body=some c ∧ fn'.body=some c' ∧ CdR X c c')) ∨ (fn.body.isNone=true ∧ fn'.body=fn.body ∧ ∀ B p p',AR X B p p' → SR X P P' (NxR X) B (callFunc f p) (callFunc f p'))))
section
variable {X:Cx} {P P':Program} {B:Lk} (hF:FRel X P P')
theorem sr_next {s s':Sem Value} (h:SR X P P' (VRel X) B s s'):SR X P P' (NxR X) B (do pure (.value (← s))) (do pure (.value (← s'))):=SR.bind h fun _ _ _ _ hv => SR.pure (.value hv)
theorem sr_nextU {s s':Sem Unit} (h:SR X P P' Triv B s s'):SR X P P' (NxR X) B (do s; pure .skip) (do s'; pure .skip):=SR.bind h fun _ _ _ _ _ => SR.pure .skip
include hF
theorem sr_callFunc (f:FuncId) (hc:X.C f) {p p':Array Value} (ha:X.T f → X.Ar f p.size) (h:AR X B p p'):SR X P P' (NxR X) B (callFunc f p) (callFunc f p'):=by
 rcases hF.funcs f with ⟨e1,e2⟩ | ⟨fn,fn',e1,e2,hn,_,_,hb⟩
 · unfold callFunc
   refine SR.bind SR.program ?_
   rintro B1 l1 q q' ⟨rfl,rfl⟩
   rw [e1,e2]
   exact SR.stuck
 obtain ⟨hng,hb⟩:=hb hc
 rcases hb with ⟨b1,b2,_⟩ | ⟨_,_,hx⟩
 · unfold callFunc
   refine SR.bind SR.program ?_
   rintro B1 l1 q q' ⟨rfl,rfl⟩
   rw [e1,e2]
   dsimp only
   rw [hn,b1,b2]
   refine SR.ite (fun x => ?_) (fun _ => ?_)
   · simp_all
   exact SR.pure (.enter f hc ha (h.mono l1))
 · exact hx B p p' h
omit hF in
theorem sr_yield {l l':Nat} (k:B l l') {p p':Array Value} (h:AR X B p p'):SR X P P' (NxR X) B (Instr.yield l p) (Instr.yield l' p'):=by
 unfold Instr.yield Instr.getLoop
 rw [bind_assoc,bind_assoc]
 refine SR.bind (SR.getObj k) fun B1 l1 o o' ho => ?_
 cases ho <;> first
   | exact SR.stuck_bind
   | skip
 rename_i r r' hr
 dsimp only
 rw [pure_bind,pure_bind,hr.params,← h.1,hr.fn]
 refine SR.ite (fun _ => SR.stuck_bind) (fun _ => SR.pure (.round _ (l1 _ _ k) ?_ hr.assign hr.body))
 have hz:∀ (xs:List Tmp) (ys ys':List Value) (c c':Array Value),LR X B1 ys ys' → AR X B1 c c' →
     AR X B1 ((xs.zip ys).foldl (fun tmps (x:Tmp × Value) => tmps.setIfInBounds x.1 x.2) c) ((xs.zip ys').foldl (fun tmps (x:Tmp × Value) => tmps.setIfInBounds x.1 x.2) c'):=by
   intro xs
   induction xs with
   | nil => intro ys ys' c c' _ hc; simpa using hc
   | cons x xs ih =>
     intro ys ys' c c' hy hc
     cases hy with
     | nil => simpa using hc
     | cons h1 h2 =>
       simp only [List.zip_cons_cons,List.foldl_cons]
       exact ih _ _ _ _ h2 (hc.set _ h1)
 rw [← Array.foldl_toList,← Array.foldl_toList,Array.toList_zip,Array.toList_zip]
 exact hz _ _ _ _ _ (h.mono l1).toList hr.tmps
theorem sr_builtin (b:Builtin) (hb:BiOk b=true) (ts:Array TypeId) (t:TypeId) (cs:Array Bool) {p p':Array Value} (h:AR X B p p'):SR X P P' (NxR X) B (builtin b ts t cs p) (builtin b ts t cs p'):=by
 unfold builtin
 cases b <;> simp only [BiOk,Bool.false_eq_true] at hb <;> first
   | exact sr_next (sr_append hF.toPRel _ _ h)
   | exact sr_next (sr_cap hF.toPRel _ _ h)
   | exact sr_next (sr_close hF.toPRel _ _ h)
   | exact sr_next (sr_complex _ _ h)
   | exact sr_next (sr_imag _ _ h)
   | exact sr_next (sr_len hF.toPRel _ _ h)
   | exact sr_next (sr_max _ _ h)
   | exact sr_next (sr_min _ _ h)
   | exact sr_next (sr_real _ _ h)
omit hF in
theorem sr_ofValue {v v':Value} (h:VR X B v v') {p p':Array Value} (hp:AR X B p p'):SR X P P' (fun B' d d' => DfR X B' d d') B (Deferred.ofValue v p) (Deferred.ofValue v' p'):=by
 cases h <;> first
   | exact SR.stuck
   | exact SR.pure ⟨.nil,hp⟩
   | skip
 rename_i f f' a a' q q' h1 h2 h3 h4 h5
 exact SR.pure ⟨.fn h1 ⟨h4,h5⟩,AR.append ⟨h2,h3⟩ hp⟩
end
end Go.Proofs.YthhfljldbfgpcaaGreatDoor.Lr
end
