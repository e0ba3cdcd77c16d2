/- Merged texts: Dyf. -/
import Derived.Test.YthhfljldbfgpcaaGreatDoorT5
import Derived.Test.YthhfljldbfgpcaaGreatDoorT15
import Derived.Test.YthhfljldbfgpcaaGreatDoorT10
import Derived.Deep.Cut
import Derived.Deep.RegionHeld3
import Derived.ChangeKeysEq
set_option linter.all false
section
namespace Go.Proofs.YthhfljldbfgpcaaGreatDoor
open Go.RowKit Flo
theorem pow_bd31 {u:Int} {m:Nat} (hu:u.natAbs ≤ 1073741824) (hm:m ≤ 31):(u * (2 ^ m:Nat)).natAbs ≤ 2305843009213693952:=by
 rw [Int.natAbs_mul,Int.natAbs_natCast]
 have:2 ^ m ≤ 2 ^ 31:=Nat.pow_le_pow_right (by decide) hm
 exact Nat.le_trans (Nat.mul_le_mul hu this) (by decide)
def addV (x y:Int) (k:Nat) (u v:Int) (l:Nat):Value :=
 if u=0 ∧ v=0 ∧ l=0 then .tuple #[.agg #[.int .i64 x,.int .i64 y,.int .i64 k],.bool true]
 else if 31 < k - l then .tuple #[.agg #[.int .i64 0,.int .i64 0,.int .i64 0],.bool false]
 else dyR (lowT (x + u * (2 ^ (k - l):Nat)) (y + v * (2 ^ (k - l):Nat)) k)
theorem three_of {α:Type}:∀ {l:List α},l.length=3 → ∃ a b c,l=[a,b,c]
 | [a,b,c],_ => ⟨a,b,c,rfl⟩
theorem run_eqD (u v l:Int) (w:World):(Op.equalIn 10000 36 (.agg #[.int .i64 u,.int .i64 v,.int .i64 l]) (.agg #[.int .i64 0,.int .i64 0,.int .i64 0])).run Vp.prog w=.ok (decide (u=0 ∧ v=0 ∧ l=0)) w:=by
 have hst:Vp.prog.stoodInHeld 36=false:=by kernel_rfl
 have hun:Vp.prog.underlying 36=some (.struct (Vp.prog.fieldsOf 36)):=by kernel_rfl
 have hf:(Vp.prog.fieldsOf 36).toList.map (fun f => (f.name == "_",f.type,f.offset))=[(false,3,0),(false,3,1),(false,3,2)]:=by kernel_rfl
 have hi:Vp.prog.underlying 3=some (.int .i64):=by kernel_rfl
 have hp:Vp.prog.plainKey 3=true:=by kernel_rfl
 have hpt:∀ (xs:Array Value) (k:Nat) (v:Value),xs[k]?=some v → (part 3 xs k).run Vp.prog w=.ok v w:=fun xs k v hv => run_part_plain w hp hv
 rw [show (10000:Nat)=9999 + 1 by rfl,run_equalIn_agg w 9999 _ _ _ hun hst]
 have l0:=hpt #[.int .i64 u,.int .i64 v,.int .i64 l] 0 (.int .i64 u) rfl
 have l1:=hpt #[.int .i64 u,.int .i64 v,.int .i64 l] 1 (.int .i64 v) rfl
 have l2:=hpt #[.int .i64 u,.int .i64 v,.int .i64 l] 2 (.int .i64 l) rfl
 have r0:=hpt #[.int .i64 0,.int .i64 0,.int .i64 0] 0 (.int .i64 0) rfl
 have r1:=hpt #[.int .i64 0,.int .i64 0,.int .i64 0] 1 (.int .i64 0) rfl
 have r2:=hpt #[.int .i64 0,.int .i64 0,.int .i64 0] 2 (.int .i64 0) rfl
 have q:=fun x y => run_equalIn_int w 9998 3 .i64 .i64 x y hi
 generalize (Vp.prog.fieldsOf 36).toList=fs at hf
 generalize (#[.int .i64 u,.int .i64 v,.int .i64 l]:Array Value)=A at *
 generalize (#[.int .i64 0,.int .i64 0,.int .i64 0]:Array Value)=E at *
 clear hpt hp hi hun hst
 obtain ⟨a,b,c,rfl⟩:∃ a b c,fs=[a,b,c]:=three_of (by have:=congrArg List.length hf; simpa using this)
 simp only [List.map_cons,List.map_nil,List.cons.injEq,Prod.mk.injEq,and_true,beq_eq_false_iff_ne] at hf
 obtain ⟨⟨a1,a2,a3⟩,⟨b1,b2,b3⟩,c1,c2,c3⟩:=hf
 simp only [Op.eqFields,a2,a3,b2,b3,c2,c3,ne_eq,a1,b1,c1,not_false_eq_true,if_true,Sem.run_bind,l0,r0,Result.andThen_ok,q,Sem.run_ite,Sem.run_pure]
 by_cases h1:u=0
 · simp only [h1,beq_self_eq_true,Bool.not_true,Bool.false_eq_true,if_false,l1,r1,Result.andThen_ok,q,Sem.run_bind,Sem.run_ite,Sem.run_pure,true_and]
   by_cases h2:v=0
   · simp only [h2,beq_self_eq_true,Bool.not_true,Bool.false_eq_true,if_false,l2,r2,Result.andThen_ok,q,Sem.run_bind,Sem.run_ite,Sem.run_pure,true_and]
     by_cases h3:l=0
     · simp [h3]
     · simp [h3]
   · simp [h2]
 · simp [h1]
set_option maxRecDepth 100000 in
set_option maxHeartbeats 4000000 in
theorem dyadAdd_ge (x y:Int) (k:Nat) (u v:Int) (l:Nat) (hv:dyadB x y k=true) (hv':dyadB u v l=true) (hkl:l ≤ k) (w:World) :
   Calls Vp.prog 44 #[.agg #[.int .i64 x,.int .i64 y,.int .i64 k],.agg #[.int .i64 u,.int .i64 v,.int .i64 l]] w fun e w' => e=.returned (addV x y k u v l) ∧ Below w.heap.size w w':=by
 obtain ⟨b1,b2,b3,b4,b5,b6⟩:=dyadB_parts hv
 obtain ⟨c1,c2,c3,c4,c5,c6⟩:=dyadB_parts hv'
 have heg:∀ (op:BinOp) (x y:Operand) (xs ys:Array Value) (W:World),(eqGuard op 36 x y (.agg xs) (.agg ys)).run Vp.prog W=.ok () W:=fun op x y xs ys W => run_eqGuard_agg W op _ x y xs ys (by kernel_rfl)
 have V1:=Lib.hid (fun w => valid_ok x y k hv w)
 have V2:=Lib.hid (fun w => valid_ok u v l hv' w)
 have D:=(Box.new w #[.int .i64 x,.int .i64 y,.int .i64 k] 36)
 have E1:=(Box.new (w.alloc (.cells #[.int .i64 x,.int .i64 y,.int .i64 k] 36)) #[.int .i64 u,.int .i64 v,.int .i64 l] 36).up ((Below.refl w.heap.size w).alloc (Nat.le_refl _) _)
 have R:=(Box.new ((w.alloc (.cells #[.int .i64 x,.int .i64 y,.int .i64 k] 36)).alloc (.cells #[.int .i64 u,.int .i64 v,.int .i64 l] 36)) #[.int .i64 0,.int .i64 0,.int .i64 0] 36).up (w0:=w) (((Below.refl w.heap.size w).alloc (Nat.le_refl _) _).alloc (by simp) _)
 rw [show ((w.alloc (.cells #[.int .i64 x,.int .i64 y,.int .i64 k] 36)).alloc (.cells #[.int .i64 u,.int .i64 v,.int .i64 l] 36)).heap.size=w.heap.size + 1 + 1 by simp] at R
 rw [show (w.alloc (.cells #[.int .i64 x,.int .i64 y,.int .i64 k] 36)).heap.size=w.heap.size + 1 by simp] at E1
 replace E1:=E1.alloc (.cells #[.int .i64 0,.int .i64 0,.int .i64 0] 36)
 replace D:=(D.alloc (.cells #[.int .i64 u,.int .i64 v,.int .i64 l] 36)).alloc (.cells #[.int .i64 0,.int .i64 0,.int .i64 0] 36)
 have HF:=Lib.hid (And.intro D (And.intro E1 R))
 have d1:decide ((k:Int) < l)=false:=by simp; omega
 have HB:=Lib.hid (And.intro b1 (And.intro b2 (And.intro b3 (And.intro b4 (And.intro c1 (And.intro c2 (And.intro c3 (And.intro c4 (And.intro b6 c6)))))))))
 clear D E1 R hv hv' b1 b2 b3 b4 b5 b6 c1 c2 c3 c4 c5 c6
 go_enter Vp.func44,Tryz.ntmps44
 go_wp2_with fail
 refine (V1.out _).mono ?_
 rintro e w1 ⟨rfl,hb⟩
 have HF2:=Lib.hid (And.intro (HF.out.1.step hb) (And.intro (HF.out.2.1.step hb) (HF.out.2.2.step hb)))
 obtain ⟨a0,a1,a2⟩:=HF2.out.1.cells3
 obtain ⟨b0,b1,b2⟩:=HF2.out.2.1.cells3
 clear HF hb
 go_wp2_with fail
 refine (V2.out _).mono ?_
 rintro e w2 ⟨rfl,hb⟩
 have HF:=Lib.hid (And.intro (HF2.out.1.step hb) (And.intro (HF2.out.2.1.step hb) (HF2.out.2.2.step hb)))
 clear a0 a1 a2 b0 b1 b2
 obtain ⟨a0,a1,a2⟩:=HF.out.1.cells3
 obtain ⟨b0,b1,b2⟩:=HF.out.2.1.cells3
 obtain ⟨f0,f1,f2⟩:=HF.out.2.2.free3
 obtain ⟨r0,r1,r2⟩:=HF.out.2.2.cells3
 clear HF2 hb V1 V2
 have heq:=run_eqD u v l w2
 by_cases hz:u=0 ∧ v=0 ∧ (l:Int)=0
 · rw [decide_eq_true hz] at heq
   have HA:Hid (addV x y k u v l=.tuple #[.agg #[.int .i64 x,.int .i64 y,.int .i64 k],.bool true]):=by show _=_; unfold addV; rw [if_pos ⟨hz.1,hz.2.1,by have:=hz.2.2; omega⟩]
   have HE:=Lib.hid (HF.out.2.2.set3 (by omega) (.int .i64 x) (.int .i64 y) (.int .i64 k))
   obtain ⟨q0,q1,q2⟩:=HE.out.cells3
   clear hz
   go_wp2
   exact bodyPost_ret (v:=.tuple #[.agg #[.int .i64 x,.int .i64 y,.int .i64 k],.bool true]) (by simp [results,Tryz.f44,go_sem,q0,q1,q2]) rfl ⟨by rw [HA.out],HE.out.old⟩
 · rw [decide_eq_false hz] at heq
   have hz':¬ (u=0 ∧ v=0 ∧ l=0):=fun h => hz ⟨h.1,h.2.1,by have:=h.2.2; omega⟩
   have hwr:IntKind.i64.wrap ((k:Int) - l)=((k - l:Nat):Int):=by rw [IntWalk.i64_in _ (by have:=HB.out; omega)]; omega
   obtain ⟨m,hm⟩:∃ m,k - l=m:=⟨_,rfl⟩
   rw [hm] at hwr
   by_cases h31:31 < m
   · have HA:Hid (addV x y k u v l=.tuple #[.agg #[.int .i64 0,.int .i64 0,.int .i64 0],.bool false]):=by show _=_; unfold addV; rw [if_neg hz',if_pos (by omega)]
     have HE:=Lib.hid (HF.out.2.2.set3 (by omega) (.int .i64 0) (.int .i64 0) (.int .i64 0))
     obtain ⟨q0,q1,q2⟩:=HE.out.cells3
     have d2:decide ((31:Int) < m)=true:=by simp; omega
     clear hz hz' hm h31
     go_wp2
     exact bodyPost_ret (v:=.tuple #[.agg #[.int .i64 0,.int .i64 0,.int .i64 0],.bool false]) (by simp [results,Tryz.f44,go_sem,q0,q1,q2]) rfl ⟨by rw [HA.out],HE.out.old⟩
   · have HA:Hid (addV x y k u v l=dyR (lowT (x + u * (2 ^ m:Nat)) (y + v * (2 ^ m:Nat)) k)):=by show _=_; unfold addV; rw [if_neg hz',if_neg (by omega),hm]
     have d2:decide ((31:Int) < m)=false:=by simp; omega
     clear hz hz'
     go_upto_region 10 with fail
     have hb:=HB.out
     have p1:=pow_bd31 (u:=u) (m:=m) (by omega) (by omega)
     have p2:=pow_bd31 (u:=v) (m:=m) (by omega) (by omega)
     have GM0:=fun w => dyadMake_any (x + u * (2 ^ m:Nat)) (y + v * (2 ^ m:Nat)) k (by omega) (by omega) (by omega) w
     obtain ⟨u0,u1,u2,tt,hr⟩:=dyR_form (lowT (x + u * (2 ^ m:Nat)) (y + v * (2 ^ m:Nat)) k)
     rw [hr] at GM0 HA
     have GM:=Lib.hid GM0
     have e1:(u * 2 ^ m:Int)=u * ((2 ^ m:Nat):Int):=by simp
     have e2:(v * 2 ^ m:Int)=v * ((2 ^ m:Nat):Int):=by simp
     have WX:Hid (IntKind.i64.wrap (x + IntKind.i64.wrap (u * 2 ^ m))=x + u * (2 ^ m:Nat)):=by
       show _=_
       rw [e1,IntWalk.i64_in (u * _) (by omega),IntWalk.i64_in _ (by omega)]
     have WY:Hid (IntKind.i64.wrap (y + IntKind.i64.wrap (v * 2 ^ m))=y + v * (2 ^ m:Nat)):=by
       show _=_
       rw [e2,IntWalk.i64_in (v * _) (by omega),IntWalk.i64_in _ (by omega)]
     have h4:min m 64=m:=by omega
     have h5:m % 64=m:=by omega
     clear e1 e2 p1 p2 GM0 hr hb hm h31
     have HK:Hid (∀ w5,Below w2.drew.heap.size w2.drew w5 → Box w (w.heap.size + 1 + 1) #[.int .i64 0,.int .i64 0,.int .i64 0] 36 w5):=fun w5 hb => HF.out.2.2.step ((Below.refl _ _).drew.trans hb)
     have HS:Hid (∀ w5,Below w2.drew.heap.size w2.drew w5 → w5.cell? ⟨w.heap.size,0,none⟩=some (.int .i64 x) ∧ w5.cell? ⟨w.heap.size,1,none⟩=some (.int .i64 y) ∧ w5.cell? ⟨w.heap.size,2,none⟩=some (.int .i64 k) ∧ w5.cell? ⟨w.heap.size + 1,0,none⟩=some (.int .i64 u) ∧ w5.cell? ⟨w.heap.size + 1,1,none⟩=some (.int .i64 v)):=fun w5 hb => by
       have q:=(HF.out.1.step ((Below.refl _ _).drew.trans hb)).cells3
       have p:=(HF.out.2.1.step ((Below.refl _ _).drew.trans hb)).cells3
       exact ⟨q.1,q.2.1,q.2.2,p.1,p.2.1⟩
     have HS2:Hid (∀ w5,Below w2.drew.heap.size w2.drew w5 → ∀ v0 v1 v2,(((w5.setCell ⟨w.heap.size + 1 + 1,0,none⟩ v0).setCell ⟨w.heap.size + 1 + 1,1,none⟩ v1).setCell ⟨w.heap.size + 1 + 1,2,none⟩ v2).cell? ⟨w.heap.size,0,none⟩=some (.int .i64 x) ∧ (((w5.setCell ⟨w.heap.size + 1 + 1,0,none⟩ v0).setCell ⟨w.heap.size + 1 + 1,1,none⟩ v1).setCell ⟨w.heap.size + 1 + 1,2,none⟩ v2).cell? ⟨w.heap.size,1,none⟩=some (.int .i64 y) ∧ (((w5.setCell ⟨w.heap.size + 1 + 1,0,none⟩ v0).setCell ⟨w.heap.size + 1 + 1,1,none⟩ v1).setCell ⟨w.heap.size + 1 + 1,2,none⟩ v2).cell? ⟨w.heap.size,2,none⟩=some (.int .i64 k) ∧ (((w5.setCell ⟨w.heap.size + 1 + 1,0,none⟩ v0).setCell ⟨w.heap.size + 1 + 1,1,none⟩ v1).setCell ⟨w.heap.size + 1 + 1,2,none⟩ v2).cell? ⟨w.heap.size + 1,0,none⟩=some (.int .i64 u) ∧ (((w5.setCell ⟨w.heap.size + 1 + 1,0,none⟩ v0).setCell ⟨w.heap.size + 1 + 1,1,none⟩ v1).setCell ⟨w.heap.size + 1 + 1,2,none⟩ v2).cell? ⟨w.heap.size + 1,1,none⟩=some (.int .i64 v)):=fun w5 hb v0 v1 v2 => by
       have q:=((HF.out.1.step ((Below.refl _ _).drew.trans hb)).other3 (p:=w.heap.size + 1 + 1) (by omega) (by omega) v0 v1 v2).cells3
       have p:=((HF.out.2.1.step ((Below.refl _ _).drew.trans hb)).other3 (p:=w.heap.size + 1 + 1) (by omega) (by omega) v0 v1 v2).cells3
       exact ⟨q.1,q.2.1,q.2.2,p.1,p.2.1⟩
     clear r0 r1 r2
     go_region_held3 (fun w' => w'.cell? ⟨w.heap.size,0,none⟩=some (.int .i64 x) ∧ w'.cell? ⟨w.heap.size,1,none⟩=some (.int .i64 y) ∧ w'.cell? ⟨w.heap.size,2,none⟩=some (.int .i64 k) ∧ w'.cell? ⟨w.heap.size + 1,0,none⟩=some (.int .i64 u) ∧ w'.cell? ⟨w.heap.size + 1,1,none⟩=some (.int .i64 v)) (first | exact HS.out _ (by assumption) | exact HS2.out _ (by assumption) _ _ _ | go_keep) (first
       | (go_at_call 33; rw [WX.out,WY.out]; refine (GM.out _).mono ?_; rintro e w5 ⟨rfl,hb⟩; obtain ⟨r0,r1,r2⟩:=(HK.out _ hb).cells3; obtain ⟨g0,g1,g2⟩:=(HK.out _ hb).free3))
     go_wp2
     exact bodyPost_ret (v:=.tuple #[.agg #[.int .i64 u0,.int .i64 u1,.int .i64 u2],.bool tt]) (by simp [results,Tryz.f44,go_sem,r0,r1,r2]) rfl ⟨by rw [HA.out],((HK.out _ hb).set3 (by omega) (.int .i64 u0) (.int .i64 u1) (.int .i64 u2)).old⟩
set_option maxRecDepth 100000 in
set_option maxHeartbeats 4000000 in
theorem dyadAdd_lt (x y:Int) (k:Nat) (u v:Int) (l:Nat) (hv:dyadB x y k=true) (hv':dyadB u v l=true) (hkl:l < k) (w:World) :
   Calls Vp.prog 44 #[.agg #[.int .i64 u,.int .i64 v,.int .i64 l],.agg #[.int .i64 x,.int .i64 y,.int .i64 k]] w fun e w' => e=.returned (addV x y k u v l) ∧ Below w.heap.size w w':=by
 obtain ⟨b1,b2,b3,b4,b5,b6⟩:=dyadB_parts hv
 obtain ⟨c1,c2,c3,c4,c5,c6⟩:=dyadB_parts hv'
 have heg:∀ (op:BinOp) (x y:Operand) (xs ys:Array Value) (W:World),(eqGuard op 36 x y (.agg xs) (.agg ys)).run Vp.prog W=.ok () W:=fun op x y xs ys W => run_eqGuard_agg W op _ x y xs ys (by kernel_rfl)
 have V2:=Lib.hid (fun w => valid_ok x y k hv w)
 have V1:=Lib.hid (fun w => valid_ok u v l hv' w)
 have D:=(Box.new w #[.int .i64 u,.int .i64 v,.int .i64 l] 36)
 have E1:=(Box.new (w.alloc (.cells #[.int .i64 u,.int .i64 v,.int .i64 l] 36)) #[.int .i64 x,.int .i64 y,.int .i64 k] 36).up ((Below.refl w.heap.size w).alloc (Nat.le_refl _) _)
 have R:=(Box.new ((w.alloc (.cells #[.int .i64 u,.int .i64 v,.int .i64 l] 36)).alloc (.cells #[.int .i64 x,.int .i64 y,.int .i64 k] 36)) #[.int .i64 0,.int .i64 0,.int .i64 0] 36).up (w0:=w) (((Below.refl w.heap.size w).alloc (Nat.le_refl _) _).alloc (by simp) _)
 rw [show ((w.alloc (.cells #[.int .i64 u,.int .i64 v,.int .i64 l] 36)).alloc (.cells #[.int .i64 x,.int .i64 y,.int .i64 k] 36)).heap.size=w.heap.size + 1 + 1 by simp] at R
 rw [show (w.alloc (.cells #[.int .i64 u,.int .i64 v,.int .i64 l] 36)).heap.size=w.heap.size + 1 by simp] at E1
 replace E1:=E1.alloc (.cells #[.int .i64 0,.int .i64 0,.int .i64 0] 36)
 replace D:=(D.alloc (.cells #[.int .i64 x,.int .i64 y,.int .i64 k] 36)).alloc (.cells #[.int .i64 0,.int .i64 0,.int .i64 0] 36)
 have HF:=Lib.hid (And.intro D (And.intro E1 R))
 have d1:decide ((l:Int) < k)=true:=by simp; omega
 have HB:=Lib.hid (And.intro b1 (And.intro b2 (And.intro b3 (And.intro b4 (And.intro c1 (And.intro c2 (And.intro c3 (And.intro c4 (And.intro b6 c6)))))))))
 clear D E1 R hv hv' b1 b2 b3 b4 b5 b6 c1 c2 c3 c4 c5 c6
 go_enter Vp.func44,Tryz.ntmps44
 go_wp2_with fail
 refine (V1.out _).mono ?_
 rintro e w1 ⟨rfl,hb⟩
 have HF2:=Lib.hid (And.intro (HF.out.1.step hb) (And.intro (HF.out.2.1.step hb) (HF.out.2.2.step hb)))
 obtain ⟨a0,a1,a2⟩:=HF2.out.1.cells3
 obtain ⟨b0,b1,b2⟩:=HF2.out.2.1.cells3
 clear HF hb
 go_wp2_with fail
 refine (V2.out _).mono ?_
 rintro e w2 ⟨rfl,hb⟩
 have HF:=Lib.hid (And.intro (HF2.out.1.step hb) (And.intro (HF2.out.2.1.step hb) (HF2.out.2.2.step hb)))
 clear a0 a1 a2 b0 b1 b2
 obtain ⟨a0,a1,a2⟩:=HF.out.1.cells3
 obtain ⟨b0,b1,b2⟩:=HF.out.2.1.cells3
 obtain ⟨f0,f1,f2⟩:=HF.out.1.free3
 obtain ⟨f3,f4,f5⟩:=HF.out.2.1.free3
 have HF3:Hid (Box w w.heap.size #[.int .i64 x,.int .i64 y,.int .i64 k] 36 ((((((w2.setCell ⟨w.heap.size,0,none⟩ (.int .i64 x)).setCell ⟨w.heap.size,1,none⟩ (.int .i64 y)).setCell ⟨w.heap.size,2,none⟩ (.int .i64 k)).setCell ⟨w.heap.size + 1,0,none⟩ (.int .i64 u)).setCell ⟨w.heap.size + 1,1,none⟩ (.int .i64 v)).setCell ⟨w.heap.size + 1,2,none⟩ (.int .i64 l)) ∧
     Box w (w.heap.size + 1) #[.int .i64 u,.int .i64 v,.int .i64 l] 36 ((((((w2.setCell ⟨w.heap.size,0,none⟩ (.int .i64 x)).setCell ⟨w.heap.size,1,none⟩ (.int .i64 y)).setCell ⟨w.heap.size,2,none⟩ (.int .i64 k)).setCell ⟨w.heap.size + 1,0,none⟩ (.int .i64 u)).setCell ⟨w.heap.size + 1,1,none⟩ (.int .i64 v)).setCell ⟨w.heap.size + 1,2,none⟩ (.int .i64 l)) ∧
     Box w (w.heap.size + 1 + 1) #[.int .i64 0,.int .i64 0,.int .i64 0] 36 ((((((w2.setCell ⟨w.heap.size,0,none⟩ (.int .i64 x)).setCell ⟨w.heap.size,1,none⟩ (.int .i64 y)).setCell ⟨w.heap.size,2,none⟩ (.int .i64 k)).setCell ⟨w.heap.size + 1,0,none⟩ (.int .i64 u)).setCell ⟨w.heap.size + 1,1,none⟩ (.int .i64 v)).setCell ⟨w.heap.size + 1,2,none⟩ (.int .i64 l))):=by
   refine ⟨?_,?_,?_⟩
   · exact (HF.out.1.set3 (Nat.le_refl _) _ _ _).other3 (by omega) (by omega) _ _ _
   · exact (HF.out.2.1.other3 (Nat.le_refl _) (by omega) _ _ _).set3 (by omega) _ _ _
   · exact (HF.out.2.2.other3 (Nat.le_refl _) (by omega) _ _ _).other3 (by omega) (by omega) _ _ _
 clear HF2 hb V1 V2
 go_upto_region 5 with fail
 clear a0 a1 a2 b0 b1 b2 f0 f1 f2 f3 f4 f5 HF
 generalize ((((((w2.setCell ⟨w.heap.size,0,none⟩ (.int .i64 x)).setCell ⟨w.heap.size,1,none⟩ (.int .i64 y)).setCell ⟨w.heap.size,2,none⟩ (.int .i64 k)).setCell ⟨w.heap.size + 1,0,none⟩ (.int .i64 u)).setCell ⟨w.heap.size + 1,1,none⟩ (.int .i64 v)).setCell ⟨w.heap.size + 1,2,none⟩ (.int .i64 l))=w3 at *
 obtain ⟨a0,a1,a2⟩:=HF3.out.1.cells3
 obtain ⟨b0,b1,b2⟩:=HF3.out.2.1.cells3
 obtain ⟨f0,f1,f2⟩:=HF3.out.2.2.free3
 obtain ⟨r0,r1,r2⟩:=HF3.out.2.2.cells3
 have heq:=run_eqD u v l w3
 by_cases hz:u=0 ∧ v=0 ∧ (l:Int)=0
 · rw [decide_eq_true hz] at heq
   have HA:Hid (addV x y k u v l=.tuple #[.agg #[.int .i64 x,.int .i64 y,.int .i64 k],.bool true]):=by show _=_; unfold addV; rw [if_pos ⟨hz.1,hz.2.1,by have:=hz.2.2; omega⟩]
   have HE:=Lib.hid (HF3.out.2.2.set3 (by omega) (.int .i64 x) (.int .i64 y) (.int .i64 k))
   obtain ⟨q0,q1,q2⟩:=HE.out.cells3
   clear hz
   go_wp2
   exact bodyPost_ret (v:=.tuple #[.agg #[.int .i64 x,.int .i64 y,.int .i64 k],.bool true]) (by simp [results,Tryz.f44,go_sem,q0,q1,q2]) rfl ⟨by rw [HA.out],HE.out.old⟩
 · rw [decide_eq_false hz] at heq
   have hz':¬ (u=0 ∧ v=0 ∧ l=0):=fun h => hz ⟨h.1,h.2.1,by have:=h.2.2; omega⟩
   have hwr:IntKind.i64.wrap ((k:Int) - l)=((k - l:Nat):Int):=by rw [IntWalk.i64_in _ (by have:=HB.out; omega)]; omega
   obtain ⟨m,hm⟩:∃ m,k - l=m:=⟨_,rfl⟩
   rw [hm] at hwr
   by_cases h31:31 < m
   · have HA:Hid (addV x y k u v l=.tuple #[.agg #[.int .i64 0,.int .i64 0,.int .i64 0],.bool false]):=by show _=_; unfold addV; rw [if_neg hz',if_pos (by omega)]
     have HE:=Lib.hid (HF3.out.2.2.set3 (by omega) (.int .i64 0) (.int .i64 0) (.int .i64 0))
     obtain ⟨q0,q1,q2⟩:=HE.out.cells3
     have d2:decide ((31:Int) < m)=true:=by simp; omega
     clear hz hz' hm h31
     go_wp2
     exact bodyPost_ret (v:=.tuple #[.agg #[.int .i64 0,.int .i64 0,.int .i64 0],.bool false]) (by simp [results,Tryz.f44,go_sem,q0,q1,q2]) rfl ⟨by rw [HA.out],HE.out.old⟩
   · have HA:Hid (addV x y k u v l=dyR (lowT (x + u * (2 ^ m:Nat)) (y + v * (2 ^ m:Nat)) k)):=by show _=_; unfold addV; rw [if_neg hz',if_neg (by omega),hm]
     have d2:decide ((31:Int) < m)=false:=by simp; omega
     clear hz hz'
     go_upto_region 10 with fail
     have hb:=HB.out
     have p1:=pow_bd31 (u:=u) (m:=m) (by omega) (by omega)
     have p2:=pow_bd31 (u:=v) (m:=m) (by omega) (by omega)
     have GM0:=fun w => dyadMake_any (x + u * (2 ^ m:Nat)) (y + v * (2 ^ m:Nat)) k (by omega) (by omega) (by omega) w
     obtain ⟨u0,u1,u2,tt,hr⟩:=dyR_form (lowT (x + u * (2 ^ m:Nat)) (y + v * (2 ^ m:Nat)) k)
     rw [hr] at GM0 HA
     have GM:=Lib.hid GM0
     have e1:(u * 2 ^ m:Int)=u * ((2 ^ m:Nat):Int):=by simp
     have e2:(v * 2 ^ m:Int)=v * ((2 ^ m:Nat):Int):=by simp
     have WX:Hid (IntKind.i64.wrap (x + IntKind.i64.wrap (u * 2 ^ m))=x + u * (2 ^ m:Nat)):=by
       show _=_
       rw [e1,IntWalk.i64_in (u * _) (by omega),IntWalk.i64_in _ (by omega)]
     have WY:Hid (IntKind.i64.wrap (y + IntKind.i64.wrap (v * 2 ^ m))=y + v * (2 ^ m:Nat)):=by
       show _=_
       rw [e2,IntWalk.i64_in (v * _) (by omega),IntWalk.i64_in _ (by omega)]
     have h4:min m 64=m:=by omega
     have h5:m % 64=m:=by omega
     clear e1 e2 p1 p2 GM0 hr hb hm h31
     have HK:Hid (∀ w5,Below w3.drew.heap.size w3.drew w5 → Box w (w.heap.size + 1 + 1) #[.int .i64 0,.int .i64 0,.int .i64 0] 36 w5):=fun w5 hb => HF3.out.2.2.step ((Below.refl _ _).drew.trans hb)
     have HS:Hid (∀ w5,Below w3.drew.heap.size w3.drew w5 → w5.cell? ⟨w.heap.size,0,none⟩=some (.int .i64 x) ∧ w5.cell? ⟨w.heap.size,1,none⟩=some (.int .i64 y) ∧ w5.cell? ⟨w.heap.size,2,none⟩=some (.int .i64 k) ∧ w5.cell? ⟨w.heap.size + 1,0,none⟩=some (.int .i64 u) ∧ w5.cell? ⟨w.heap.size + 1,1,none⟩=some (.int .i64 v)):=fun w5 hb => by
       have q:=(HF3.out.1.step ((Below.refl _ _).drew.trans hb)).cells3
       have p:=(HF3.out.2.1.step ((Below.refl _ _).drew.trans hb)).cells3
       exact ⟨q.1,q.2.1,q.2.2,p.1,p.2.1⟩
     have HS2:Hid (∀ w5,Below w3.drew.heap.size w3.drew w5 → ∀ v0 v1 v2,(((w5.setCell ⟨w.heap.size + 1 + 1,0,none⟩ v0).setCell ⟨w.heap.size + 1 + 1,1,none⟩ v1).setCell ⟨w.heap.size + 1 + 1,2,none⟩ v2).cell? ⟨w.heap.size,0,none⟩=some (.int .i64 x) ∧ (((w5.setCell ⟨w.heap.size + 1 + 1,0,none⟩ v0).setCell ⟨w.heap.size + 1 + 1,1,none⟩ v1).setCell ⟨w.heap.size + 1 + 1,2,none⟩ v2).cell? ⟨w.heap.size,1,none⟩=some (.int .i64 y) ∧ (((w5.setCell ⟨w.heap.size + 1 + 1,0,none⟩ v0).setCell ⟨w.heap.size + 1 + 1,1,none⟩ v1).setCell ⟨w.heap.size + 1 + 1,2,none⟩ v2).cell? ⟨w.heap.size,2,none⟩=some (.int .i64 k) ∧ (((w5.setCell ⟨w.heap.size + 1 + 1,0,none⟩ v0).setCell ⟨w.heap.size + 1 + 1,1,none⟩ v1).setCell ⟨w.heap.size + 1 + 1,2,none⟩ v2).cell? ⟨w.heap.size + 1,0,none⟩=some (.int .i64 u) ∧ (((w5.setCell ⟨w.heap.size + 1 + 1,0,none⟩ v0).setCell ⟨w.heap.size + 1 + 1,1,none⟩ v1).setCell ⟨w.heap.size + 1 + 1,2,none⟩ v2).cell? ⟨w.heap.size + 1,1,none⟩=some (.int .i64 v)):=fun w5 hb v0 v1 v2 => by
       have q:=((HF3.out.1.step ((Below.refl _ _).drew.trans hb)).other3 (p:=w.heap.size + 1 + 1) (by omega) (by omega) v0 v1 v2).cells3
       have p:=((HF3.out.2.1.step ((Below.refl _ _).drew.trans hb)).other3 (p:=w.heap.size + 1 + 1) (by omega) (by omega) v0 v1 v2).cells3
       exact ⟨q.1,q.2.1,q.2.2,p.1,p.2.1⟩
     clear r0 r1 r2
     go_region_held3 (fun w' => w'.cell? ⟨w.heap.size,0,none⟩=some (.int .i64 x) ∧ w'.cell? ⟨w.heap.size,1,none⟩=some (.int .i64 y) ∧ w'.cell? ⟨w.heap.size,2,none⟩=some (.int .i64 k) ∧ w'.cell? ⟨w.heap.size + 1,0,none⟩=some (.int .i64 u) ∧ w'.cell? ⟨w.heap.size + 1,1,none⟩=some (.int .i64 v)) (first | exact HS.out _ (by assumption) | exact HS2.out _ (by assumption) _ _ _ | go_keep) (first
       | (go_at_call 33; rw [WX.out,WY.out]; refine (GM.out _).mono ?_; rintro e w5 ⟨rfl,hb⟩; obtain ⟨r0,r1,r2⟩:=(HK.out _ hb).cells3; obtain ⟨g0,g1,g2⟩:=(HK.out _ hb).free3))
     go_wp2
     exact bodyPost_ret (v:=.tuple #[.agg #[.int .i64 u0,.int .i64 u1,.int .i64 u2],.bool tt]) (by simp [results,Tryz.f44,go_sem,r0,r1,r2]) rfl ⟨by rw [HA.out],((HK.out _ hb).set3 (by omega) (.int .i64 u0) (.int .i64 u1) (.int .i64 u2)).old⟩
end Go.Proofs.YthhfljldbfgpcaaGreatDoor
end
