/- Merged texts: Dyc, Dye, BoxT, BvP, BvS. -/
import Derived.Test.YthhfljldbfgpcaaGreatDoorT4
set_option linter.all false
section
namespace Go.Proofs.YthhfljldbfgpcaaGreatDoor
open Go.RowKit Flo
def dyR (r:Int × Int × Nat):Value:=if dyadB r.1 r.2.1 r.2.2=true then .tuple #[.agg #[.int .i64 r.1,.int .i64 r.2.1,.int .i64 r.2.2],.bool true] else .tuple #[.agg #[.int .i64 0,.int .i64 0,.int .i64 0],.bool false]
theorem dyR_yes {x y:Int} {k:Nat} (h:dyadB x y k=true):dyR (x,y,k)=.tuple #[.agg #[.int .i64 x,.int .i64 y,.int .i64 k],.bool true]:=by unfold dyR; rw [if_pos h]
theorem dyR_no {x y:Int} {k:Nat} (h:dyadB x y k=false):dyR (x,y,k)=.tuple #[.agg #[.int .i64 0,.int .i64 0,.int .i64 0],.bool false]:=by unfold dyR; rw [if_neg (by rw [h]; exact Bool.false_ne_true)]
theorem dyadB_out {a b s:Int} (h:¬ (-1073741824 ≤ a ∧ a ≤ 1073741824 ∧ -1073741824 ≤ b ∧ b ≤ 1073741824 ∧ 0 ≤ s ∧ s ≤ 60)):dyadB a b s=false:=by unfold dyadB; rw [decide_eq_false h]; rfl
set_option maxHeartbeats 2000000 in
theorem valid_is (a b:Int) (s:Int) (ha:a.natAbs ≤ 4611686018427387904) (hb:b.natAbs ≤ 4611686018427387904) (w:World):Calls Vp.prog 42 #[.agg #[.int .i64 a,.int .i64 b,.int .i64 s]] w fun e w' => e=.returned (.bool (dyadB a b s)) ∧ Below w.heap.size w w':=by
 by_cases hr:-1073741824 ≤ a ∧ a ≤ 1073741824 ∧ -1073741824 ≤ b ∧ b ≤ 1073741824 ∧ 0 ≤ s ∧ s ≤ 60
 · cases hv:dyadB a b s with
   | true => exact valid_ok a b s hv w
   | false =>
     have B:=Box.new w #[.int .i64 a,.int .i64 b,.int .i64 s] 36
     have c0:=B.cell 0 (.int .i64 a) rfl
     have c1:=B.cell 1 (.int .i64 b) rfl
     have c2:=B.cell 2 (.int .i64 s) rfl
     have HB:=Lib.hid B
     have HE:=Lib.hid (even_is a b s ha hb)
     have d1:decide (a < -1073741824)=false:=by simp; omega
     have d2:decide (1073741824 < a)=false:=by simp; omega
     have d3:decide (b < -1073741824)=false:=by simp; omega
     have d4:decide (1073741824 < b)=false:=by simp; omega
     have d5:decide (s < 0)=false:=by simp; omega
     have d6:decide (60 < s)=false:=by simp; omega
     unfold dyadB at hv
     rw [decide_eq_true hr,Bool.true_and,Bool.or_eq_false_iff,decide_eq_false_iff_not,Bool.not_eq_false'] at hv
     obtain ⟨h8,hev⟩:=hv
     have d7:(s == 0)=false:=by simp [h8]
     rw [hev] at HE
     clear B hr h8 hev
     go_enter Vp.func42,Tryz.ntmps42
     go_wp2_with (go_at_call 65; refine (HE.out _).mono ?_; rintro e w1 ⟨rfl,hd⟩; have HB2:=Lib.hid (HB.out.step hd).old; clear hd)
     go_ret
     exact ⟨rfl,HB2.out⟩
 · have HV:=Lib.hid (dyadB_out hr)
   have B:=Box.new w #[.int .i64 a,.int .i64 b,.int .i64 s] 36
   have c0:=B.cell 0 (.int .i64 a) rfl
   have c1:=B.cell 1 (.int .i64 b) rfl
   have c2:=B.cell 2 (.int .i64 s) rfl
   have HB:=Lib.hid B
   clear B
   by_cases h1:a < -1073741824
   · have d1:decide (a < -1073741824)=true:=by simp; omega
     clear hr
     go_enter Vp.func42,Tryz.ntmps42
     go_wp2
     go_ret
     exact ⟨by rw [HV.out]; rfl,HB.out.old⟩
   · have d1:decide (a < -1073741824)=false:=by simp; omega
     by_cases h2:1073741824 < a
     · have d2:decide (1073741824 < a)=true:=by simp; omega
       clear hr
       go_enter Vp.func42,Tryz.ntmps42
       go_wp2
       go_ret
       exact ⟨by rw [HV.out]; rfl,HB.out.old⟩
     · have d2:decide (1073741824 < a)=false:=by simp; omega
       by_cases h3:b < -1073741824
       · have d3:decide (b < -1073741824)=true:=by simp; omega
         clear hr
         go_enter Vp.func42,Tryz.ntmps42
         go_wp2
         go_ret
         exact ⟨by rw [HV.out]; rfl,HB.out.old⟩
       · have d3:decide (b < -1073741824)=false:=by simp; omega
         by_cases h4:1073741824 < b
         · have d4:decide (1073741824 < b)=true:=by simp; omega
           clear hr
           go_enter Vp.func42,Tryz.ntmps42
           go_wp2
           go_ret
           exact ⟨by rw [HV.out]; rfl,HB.out.old⟩
         · have d4:decide (1073741824 < b)=false:=by simp; omega
           by_cases h5:s < 0
           · have d5:decide (s < 0)=true:=by simp; omega
             clear hr
             go_enter Vp.func42,Tryz.ntmps42
             go_wp2
             go_ret
             exact ⟨by rw [HV.out]; rfl,HB.out.old⟩
           · have d5:decide (s < 0)=false:=by simp; omega
             have d6:decide (60 < s)=true:=by simp; omega
             clear hr
             go_enter Vp.func42,Tryz.ntmps42
             go_wp2
             go_ret
             exact ⟨by rw [HV.out]; rfl,HB.out.old⟩
set_option maxRecDepth 100000 in
set_option maxHeartbeats 2000000 in
theorem dyadMake_any (X Y:Int) (d:Nat) (hX:X.natAbs ≤ 4611686018427387904) (hY:Y.natAbs ≤ 4611686018427387904) (hd:d ≤ 120) (w:World) :
   Calls Vp.prog 33 #[.int .i64 X,.int .i64 Y,.int .i64 d] w fun e w' => e=.returned (dyR (lowT X Y d)) ∧ Below w.heap.size w w':=by
 have R0:=(Box.new w #[.int .i64 0,.int .i64 0,.int .i64 0] 36).alloc (.cells #[.int .i64 X,.int .i64 Y,.int .i64 d] 36)
 have O0:=(Box.new (w.alloc (.cells #[.int .i64 0,.int .i64 0,.int .i64 0] 36)) #[.int .i64 X,.int .i64 Y,.int .i64 d] 36).up ((Below.refl w.heap.size w).alloc (Nat.le_refl _) _)
 rw [show (w.alloc (.cells #[.int .i64 0,.int .i64 0,.int .i64 0] 36)).heap.size=w.heap.size + 1 by simp] at O0
 have HR:=Lib.hid R0
 have HO:=Lib.hid O0
 have d1:decide ((d:Int) < 0)=false:=by simp
 have d2:decide ((120:Int) < d)=false:=by simp; omega
 have d3:decide (X < -4611686018427387904)=false:=by simp; omega
 have d4:decide (4611686018427387904 < X)=false:=by simp; omega
 have d5:decide (Y < -4611686018427387904)=false:=by simp; omega
 have d6:decide (4611686018427387904 < Y)=false:=by simp; omega
 clear R0 O0
 go_enter Vp.func33,Tryz.ntmps33
 go_wp2
 clear d1 d2 d3 d4 d5 d6
 go_loopw [41] (fun _ wr => ∃ (x y:Int) (k:Nat),k ≤ d ∧ x.natAbs ≤ 4611686018427387904 ∧ y.natAbs ≤ 4611686018427387904 ∧ Hid (lowT x y k=lowT X Y d) ∧ Hid (Box w (w.heap.size + 1) #[.int .i64 x,.int .i64 y,.int .i64 k] 36 wr) ∧ Hid (Box w w.heap.size #[.int .i64 0,.int .i64 0,.int .i64 0] 36 wr)) (fun _ wr => (intOf ((wr.cell? ⟨w.heap.size + 1,2,none⟩).getD undef)).toNat)
 case atStart => exact ⟨X,Y,d,by omega,hX,hY,rfl,HO.out,HR.out⟩
 case round =>
   obtain ⟨x,y,k,hk,hx,hy,HL,HB,HR⟩:=hrel
   obtain ⟨c0,c1,c2⟩:=HB.out.cells3
   obtain ⟨f0,f1,f2⟩:=HB.out.free3
   have HE:=Lib.hid (even_is x y k (by omega) (by omega))
   obtain ⟨r0,r1,r2⟩:=HR.out.cells3
   obtain ⟨g0,g1,g2⟩:=HR.out.free3
   have HF:Hid (∀ W,Below wr.heap.size wr W → Box w (w.heap.size + 1) #[.int .i64 x,.int .i64 y,.int .i64 k] 36 W ∧ Box w w.heap.size #[.int .i64 0,.int .i64 0,.int .i64 0] 36 W):=fun W h => ⟨HB.out.step h,HR.out.step h⟩
   have HDONE:Hid (evenB x y=false ∨ k=0 → lowT X Y d=(x,y,k)):=fun h => by
     rw [← HL.out]
     rcases h with h | h
     · exact lowT_stop h
     · rw [h]; rfl
   rcases Nat.eq_zero_or_pos k with h0 | h0
   · have he:=HDONE.out (.inr h0)
     subst h0
     have HEQ:=Lib.hid he
     have HVV:=Lib.hid (valid_is x y 0 hx hy)
     have HB1:Hid (Box w (w.heap.size + 1) #[.int .i64 x,.int .i64 y,.int .i64 0] 36 wr):=HB
     have HF1:Hid (∀ W,Below wr.heap.size wr W → Box w (w.heap.size + 1) #[.int .i64 x,.int .i64 y,.int .i64 0] 36 W ∧ Box w w.heap.size #[.int .i64 0,.int .i64 0,.int .i64 0] 36 W):=HF
     clear HF HB
     have HF:=HF1
     have HB:=HB1
     clear HF1 HB1
     have c2:wr.cell? ⟨w.heap.size + 1,2,none⟩=some (.int .i64 0):=c2
     clear HDONE HL he HE
     go_wp2_with fail
     refine (HVV.out _).mono ?_
     rintro e w1 ⟨rfl,hd⟩
     obtain ⟨HB2,HR2⟩:=HF.out _ hd
     obtain ⟨q0,q1,q2⟩:=HB2.cells3
     obtain ⟨r0,r1,r2⟩:=HR2.cells3
     obtain ⟨g0,g1,g2⟩:=HR2.free3
     cases hvb:dyadB x y 0 with
     | true =>
       have HZ:=Lib.hid (HR2.set3 (Nat.le_refl _) (.int .i64 x) (.int .i64 y) (.int .i64 0))
       have HVB:=Lib.hid hvb
       clear hd HB2 HR2 HF HB HR hvb
       go_wp2
       exact bodyPost_ret (v:=.tuple #[.agg #[.int .i64 x,.int .i64 y,.int .i64 0],.bool true]) (by simp [results,Tryz.f33,go_sem,r0,r1,r2]) rfl ⟨by rw [HEQ.out]; exact (dyR_yes HVB.out).symm ▸ rfl,HZ.out.old⟩
     | false =>
       have HZ:=Lib.hid (HR2.set3 (Nat.le_refl _) (.int .i64 0) (.int .i64 0) (.int .i64 0))
       have HVB:=Lib.hid hvb
       clear hd HB2 HR2 HF HB HR hvb
       go_wp2
       exact bodyPost_ret (v:=.tuple #[.agg #[.int .i64 0,.int .i64 0,.int .i64 0],.bool false]) (by simp [results,Tryz.f33,go_sem,r0,r1,r2]) rfl ⟨by rw [HEQ.out]; exact (dyR_no HVB.out).symm ▸ rfl,HZ.out.old⟩
   · have d1:decide ((0:Int) < k)=true:=by simp; omega
     cases hE:evenB x y with
     | false =>
       have he:=HDONE.out (.inl hE)
       have HEQ:=Lib.hid he
       have HVV:=Lib.hid (valid_is x y k hx hy)
       rw [hE] at HE
       clear HDONE HL he hE
       go_wp2_with fail
       refine (HE.out _).mono ?_
       rintro e w1 ⟨rfl,hd⟩
       have HD2:=Lib.hid (HF.out _ hd)
       have HD3:=Lib.hid hd
       obtain ⟨q0,q1,q2⟩:=HD2.out.1.cells3
       clear hd
       go_wp2_with fail
       refine (HVV.out _).mono ?_
       rintro e w2 ⟨rfl,hd⟩
       have hd2:=hd.mono HD3.out.size
       have hd:=HD3.out.trans hd2
       obtain ⟨HB2,HR2⟩:=HF.out _ hd
       clear q0 q1 q2
       obtain ⟨q0,q1,q2⟩:=HB2.cells3
       obtain ⟨r0,r1,r2⟩:=HR2.cells3
       obtain ⟨g0,g1,g2⟩:=HR2.free3
       cases hvb:dyadB x y k with
       | true =>
         have HZ:=Lib.hid (HR2.set3 (Nat.le_refl _) (.int .i64 x) (.int .i64 y) (.int .i64 k))
         have HVB:=Lib.hid hvb
         clear hd HB2 HR2 HF HB HR HD2 HD3 hd2 hvb
         go_wp2
         exact bodyPost_ret (v:=.tuple #[.agg #[.int .i64 x,.int .i64 y,.int .i64 k],.bool true]) (by simp [results,Tryz.f33,go_sem,r0,r1,r2]) rfl ⟨by rw [HEQ.out]; exact (dyR_yes HVB.out).symm ▸ rfl,HZ.out.old⟩
       | false =>
         have HZ:=Lib.hid (HR2.set3 (Nat.le_refl _) (.int .i64 0) (.int .i64 0) (.int .i64 0))
         have HVB:=Lib.hid hvb
         clear hd HB2 HR2 HF HB HR HD2 HD3 hd2 hvb
         go_wp2
         exact bodyPost_ret (v:=.tuple #[.agg #[.int .i64 0,.int .i64 0,.int .i64 0],.bool false]) (by simp [results,Tryz.f33,go_sem,r0,r1,r2]) rfl ⟨by rw [HEQ.out]; exact (dyR_no HVB.out).symm ▸ rfl,HZ.out.old⟩
     | true =>
       have hev:=hE
       unfold evenB at hev
       rw [decide_eq_true_eq] at hev
       obtain ⟨m,rfl⟩:∃ m,x=2 * m:=⟨x / 2,by omega⟩
       obtain ⟨n,rfl⟩:∃ n,y=2 * n:=⟨y / 2,by omega⟩
       obtain ⟨k,rfl⟩:∃ k',k=k' + 1:=⟨k - 1,by omega⟩
       have t1:(2 * m).tdiv 2=m:=Int.mul_tdiv_cancel_left m (by decide)
       have t2:(2 * n).tdiv 2=n:=Int.mul_tdiv_cancel_left n (by decide)
       have t3:((k + 1:Nat):Int) - 1=k:=by omega
       have HL2:=Lib.hid ((lowT_even m n k).symm.trans HL.out)
       rw [hE] at HE
       clear HDONE hE hev h0 HL
       go_wp2_with (go_at_call 65; refine (HE.out _).mono ?_; rintro e w1 ⟨rfl,hd⟩; have HB2:=Lib.hid (HF.out _ hd).1; have HR2:=Lib.hid (HF.out _ hd).2; obtain ⟨q0,q1,q2⟩:=HB2.out.cells3; obtain ⟨g0,g1,g2⟩:=HB2.out.free3; clear hd)
       have b0:=HB2.out.lt
       refine ⟨⟨m,n,k,by omega,by omega,by omega,HL2,HB2.out.set3 (by omega) _ _ _,HR2.out.other3 (by omega) (by omega) _ _ _⟩,?_⟩
       rw [((HB2.out.set3 (by omega) (.int .i64 m) (.int .i64 n) (.int .i64 k)).cells3).2.2,c2]
       simp [intOf]
end Go.Proofs.YthhfljldbfgpcaaGreatDoor
end

section
namespace Go.Proofs.YthhfljldbfgpcaaGreatDoor
open Go.RowKit Flo
theorem dyadB_parts {a b s:Int} (h:dyadB a b s=true):-1073741824 ≤ a ∧ a ≤ 1073741824 ∧ -1073741824 ≤ b ∧ b ≤ 1073741824 ∧ 0 ≤ s ∧ s ≤ 60:=by
 unfold dyadB at h
 rw [Bool.and_eq_true,decide_eq_true_eq] at h
 exact h.1
theorem mul_le60 {x y:Int} (h1:x.natAbs ≤ 1073741824) (h2:y.natAbs ≤ 1073741824):(x * y).natAbs ≤ 1152921504606846976:=by
 rw [Int.natAbs_mul]
 exact Nat.mul_le_mul h1 h2
theorem dyR_form (r:Int × Int × Nat):∃ (x y z:Int) (b:Bool),dyR r=.tuple #[.agg #[.int .i64 x,.int .i64 y,.int .i64 z],.bool b]:=by
 unfold dyR
 split
 · exact ⟨_,_,_,_,rfl⟩
 · exact ⟨_,_,_,_,rfl⟩
set_option maxRecDepth 100000 in
set_option maxHeartbeats 2000000 in
theorem dyadSquare_is (x y:Int) (k:Nat) (hv:dyadB x y k=true) (w:World) :
   Calls Vp.prog 43 #[.agg #[.int .i64 x,.int .i64 y,.int .i64 k]] w fun e w' => e=.returned (dyR (lowT (x * x - y * y) (2 * x * y) (2 * k))) ∧ Below w.heap.size w w':=by
 obtain ⟨b1,b2,b3,b4,b5,b6⟩:=dyadB_parts hv
 have hk:k ≤ 60:=by omega
 have m1:=mul_le60 (x:=x) (y:=x) (by omega) (by omega)
 have m2:=mul_le60 (x:=y) (y:=y) (by omega) (by omega)
 have m3:=mul_le60 (x:=x) (y:=y) (by omega) (by omega)
 have HV:=Lib.hid (fun w => valid_ok x y k hv w)
 have e3:2 * x * y=2 * (x * y):=Int.mul_assoc 2 x y
 have q3:(2 * x * y).natAbs ≤ 4611686018427387904:=by rw [e3]; omega
 have HM:=Lib.hid (fun w => dyadMake_any (x * x - y * y) (2 * x * y) (2 * k) (by omega) q3 (by omega) w)
 obtain ⟨u,v,z,t,hr⟩:=dyR_form (lowT (x * x - y * y) (2 * x * y) (2 * k))
 rw [hr] at HM ⊢
 have X:=(Box.new w #[.int .i64 x,.int .i64 y,.int .i64 k] 36).alloc (.cells #[.int .i64 0,.int .i64 0,.int .i64 0] 36)
 have Z:=(Box.new (w.alloc (.cells #[.int .i64 x,.int .i64 y,.int .i64 k] 36)) #[.int .i64 0,.int .i64 0,.int .i64 0] 36).up ((Below.refl w.heap.size w).alloc (Nat.le_refl _) _)
 rw [World.size_alloc] at Z
 have HX:=Lib.hid X
 have HZ:=Lib.hid Z
 obtain ⟨x0,x1,x2'⟩:=X.cells3
 obtain ⟨xx,hxx⟩:∃ xx,x * x=xx:=⟨_,rfl⟩
 obtain ⟨yy,hyy⟩:∃ yy,y * y=yy:=⟨_,rfl⟩
 obtain ⟨x2,hx2⟩:∃ x2,2 * x=x2:=⟨_,rfl⟩
 obtain ⟨xy,hxy⟩:∃ xy,x2 * y=xy:=⟨_,rfl⟩
 obtain ⟨dd,hdd⟩:∃ dd,xx - yy=dd:=⟨_,rfl⟩
 obtain ⟨kk,hkk⟩:∃ kk:Nat,2 * k=kk:=⟨_,rfl⟩
 rw [hxx,hyy,hx2,hxy,hdd,hkk] at HM
 rw [hx2,hxy] at q3 e3
 rw [hxx] at m1
 rw [hyy] at m2
 have w1:IntKind.i64.wrap (x * x)=xx:=by rw [hxx]; exact IntWalk.i64_in _ (by omega)
 have w2:IntKind.i64.wrap (y * y)=yy:=by rw [hyy]; exact IntWalk.i64_in _ (by omega)
 have w3:IntKind.i64.wrap (xx - yy)=dd:=by rw [hdd]; exact IntWalk.i64_in _ (by omega)
 have w4:IntKind.i64.wrap (2 * x)=x2:=by rw [hx2]; exact IntWalk.i64_in _ (by omega)
 have w5:IntKind.i64.wrap (x2 * y)=xy:=by rw [hxy]; exact IntWalk.i64_in _ (by omega)
 have w6:IntKind.i64.wrap (2 * (k:Int))=(kk:Int):=by rw [IntWalk.i64_in _ (by omega)]; omega
 clear X Z hr m1 m2 m3 e3 q3 b1 b2 b3 b4 b5 b6 hk hv hxx hyy hx2 hxy hdd hkk
 go_enter Vp.func43,Tryz.ntmps43
 go_wp2_with fail
 refine (HV.out _).mono ?_
 rintro e w1' ⟨rfl,hb⟩
 have HX2:=Lib.hid (HX.out.step hb)
 have HZ2:=Lib.hid (HZ.out.step hb)
 clear x0 x1 x2' hb HX HZ HV
 obtain ⟨x0,x1,x2'⟩:=HX2.out.cells3
 go_wp2_with fail
 refine (HM.out _).mono ?_
 rintro e w2' ⟨rfl,hb⟩
 have HX3:=HX2.out.step hb
 have HZ3:=HZ2.out.step hb
 clear x0 x1 x2' hb HX2 HZ2 HM w1 w2 w3 w4 w5 w6
 obtain ⟨x0,x1,x2'⟩:=HX3.cells3
 obtain ⟨z0,z1,z2⟩:=HZ3.cells3
 obtain ⟨f0,f1,f2⟩:=HZ3.free3
 have HE:=Lib.hid (HZ3.set3 (by omega) (.int .i64 u) (.int .i64 v) (.int .i64 z))
 obtain ⟨q0,q1,q2⟩:=HE.out.cells3
 have hzl:=HZ3.lt
 clear HX3 HZ3
 go_wp2
 exact bodyPost_ret (v:=.tuple #[.agg #[.int .i64 u,.int .i64 v,.int .i64 z],.bool t]) (by simp [results,Tryz.f43,go_sem,q0,q1,q2]) rfl ⟨rfl,HE.out.old⟩
theorem isNaNi_is (x:Int) (w:World):Calls Vp.prog 75 #[.int .i64 x] w fun e w' => e=.returned (.bool false) ∧ w=w':=by
 have h:(x != x)=false:=by simp
 go_enter Vp.func75,Tryz.ntmps75
 go_wp2
 go_ret
 exact ⟨rfl,rfl⟩
def cmpI (x y:Int):Int:=if x < y then -1 else if y < x then 1 else 0
set_option maxHeartbeats 1000000 in
theorem cmpInt_is (x y:Int) (w:World):Calls Vp.prog 45 #[.int .i64 x,.int .i64 y] w fun e w' => e=.returned (.int .i64 (cmpI x y)) ∧ w=w':=by
 have HN:=Lib.hid isNaNi_is
 unfold cmpI
 by_cases h1:x < y
 · rw [if_pos h1]
   go_enter Vp.func45,Tryz.ntmps45
   go_wp2_with fail
   refine (HN.out _ _).mono ?_
   rintro e w1 ⟨rfl,rfl⟩
   go_wp2_with fail
   refine (HN.out _ _).mono ?_
   rintro e w1 ⟨rfl,rfl⟩
   go_wp2
   go_ret
   exact ⟨rfl,rfl⟩
 · rw [if_neg h1]
   by_cases h2:y < x
   · rw [if_pos h2]
     go_enter Vp.func45,Tryz.ntmps45
     go_wp2_with fail
     refine (HN.out _ _).mono ?_
     rintro e w1 ⟨rfl,rfl⟩
     go_wp2_with fail
     refine (HN.out _ _).mono ?_
     rintro e w1 ⟨rfl,rfl⟩
     go_wp2
     go_ret
     exact ⟨rfl,rfl⟩
   · rw [if_neg h2]
     go_enter Vp.func45,Tryz.ntmps45
     go_wp2_with fail
     refine (HN.out _ _).mono ?_
     rintro e w1 ⟨rfl,rfl⟩
     go_wp2_with fail
     refine (HN.out _ _).mono ?_
     rintro e w1 ⟨rfl,rfl⟩
     go_wp2
     go_ret
     exact ⟨rfl,rfl⟩
def normS (x y:Int) (k:Nat):Int:=if 30 < k then -1 else cmpI (x * x + y * y) (4 * (2 ^ (2 * k):Nat))
set_option maxRecDepth 100000 in
set_option maxHeartbeats 2000000 in
theorem dyadNorm_is (x y:Int) (k:Nat) (hv:dyadB x y k=true) (w:World) :
   Calls Vp.prog 15 #[.agg #[.int .i64 x,.int .i64 y,.int .i64 k]] w fun e w' => e=.returned (.tuple #[.int .i64 (normS x y k),.bool true]) ∧ Below w.heap.size w w':=by
 obtain ⟨b1,b2,b3,b4,b5,b6⟩:=dyadB_parts hv
 have hk:k ≤ 60:=by omega
 have m1:=mul_le60 (x:=x) (y:=x) (by omega) (by omega)
 have m2:=mul_le60 (x:=y) (y:=y) (by omega) (by omega)
 have HV:=Lib.hid (fun w => valid_ok x y k hv w)
 have X:=Box.new w #[.int .i64 x,.int .i64 y,.int .i64 k] 36
 have HX:=Lib.hid X
 obtain ⟨x0,x1,x2⟩:=X.cells3
 clear X b1 b2 b3 b4 b5 b6 hv
 unfold normS
 by_cases h30:30 < k
 · rw [if_pos h30]
   have d1:decide ((30:Int) < k)=true:=by simp; omega
   clear m1 m2 h30 hk
   go_enter Vp.func15,Tryz.ntmps15
   go_wp2_with fail
   refine (HV.out _).mono ?_
   rintro e w1' ⟨rfl,hb⟩
   have HX2:=Lib.hid (HX.out.step hb)
   clear x0 x1 x2 hb HX HV
   obtain ⟨x0,x1,x2⟩:=HX2.out.cells3
   go_wp2
   exact bodyPost_ret (v:=.tuple #[.int .i64 (-1),.bool true]) (by simp [results,Tryz.f15,go_sem]) rfl ⟨rfl,HX2.out.old⟩
 · rw [if_neg h30]
   have d1:decide ((30:Int) < k)=false:=by simp; omega
   have HC:=Lib.hid (cmpInt_is (x * x + y * y) (4 * (2 ^ (2 * k):Nat)))
   obtain ⟨xx,hxx⟩:∃ xx,x * x=xx:=⟨_,rfl⟩
   obtain ⟨yy,hyy⟩:∃ yy,y * y=yy:=⟨_,rfl⟩
   obtain ⟨ss,hss⟩:∃ ss,xx + yy=ss:=⟨_,rfl⟩
   obtain ⟨kk,hkk⟩:∃ kk:Nat,2 * k=kk:=⟨_,rfl⟩
   have hp:(2:Nat) ^ kk ≤ 2 ^ 60:=Nat.pow_le_pow_right (by decide) (by omega)
   have q60:(2:Nat) ^ 60=1152921504606846976:=by decide
   have hp2:(4:Int) * 2 ^ kk=4 * ((2 ^ kk:Nat):Int):=by simp
   obtain ⟨ff,hff⟩:∃ ff:Int,4 * ((2 ^ kk:Nat):Int)=ff:=⟨_,rfl⟩
   have hfb:0 ≤ ff ∧ ff ≤ 4611686018427387904:=by
     rw [← hff]
     rw [q60] at hp
     generalize 2 ^ kk=pp at *
     omega
   rw [hxx,hyy,hss,hkk,hff] at HC
   rw [hxx,hyy,hss,hkk,hff]
   rw [hxx] at m1
   rw [hyy] at m2
   have w6:wrap64 (4 * 2 ^ kk)=ff:=by rw [hp2,hff]; exact IntWalk.wrap64_in _ (by omega)
   have w1:IntKind.i64.wrap (x * x)=xx:=by rw [hxx]; exact IntWalk.i64_in _ (by omega)
   have w2:IntKind.i64.wrap (y * y)=yy:=by rw [hyy]; exact IntWalk.i64_in _ (by omega)
   have w3:IntKind.i64.wrap (xx + yy)=ss:=by rw [hss]; exact IntWalk.i64_in _ (by omega)
   have w4:IntKind.i64.wrap (2 * (k:Int))=(kk:Int):=by rw [IntWalk.i64_in _ (by omega)]; omega
   have h4:min kk 64=kk:=by omega
   have h5:kk % 64=kk:=by omega
   generalize cmpI ss ff=rr at *
   clear m1 m2 h30 hk hxx hyy hss hkk hp q60 hp2 hff hfb
   go_enter Vp.func15,Tryz.ntmps15
   go_wp2_with fail
   refine (HV.out _).mono ?_
   rintro e w1' ⟨rfl,hb⟩
   have HX2:=Lib.hid (HX.out.step hb)
   clear x0 x1 x2 hb HX HV
   obtain ⟨x0,x1,x2⟩:=HX2.out.cells3
   go_wp2_with fail
   refine (HC.out _).mono ?_
   rintro e w2' ⟨rfl,rfl⟩
   clear w1 w2 w3 w4 w6 h4 h5
   go_wp2
   exact bodyPost_ret (v:=.tuple #[.int .i64 rr,.bool true]) (by simp [results,Tryz.f15,go_sem]) rfl ⟨rfl,HX2.out.old⟩
end Go.Proofs.YthhfljldbfgpcaaGreatDoor
end

section
namespace Go.Proofs.YthhfljldbfgpcaaGreatDoor
open Go.RowKit
def boxV (x y z u:Int):Value:=.agg #[.int .i64 x,.int .i64 y,.int .i64 z,.int .i64 u]
end Go.Proofs.YthhfljldbfgpcaaGreatDoor
end

section
namespace Go.Proofs.YthhfljldbfgpcaaGreatDoor
def sqLo (l h:Int):Int:=if l ≤ 0 ∧ 0 ≤ h then 0 else min (l * l) (h * h)
def sqHi (l h:Int):Int:=max (l * l) (h * h)
def cei (a k:Int):Int:=-((-a) / k)
structure Bx where
 a:Int
 b:Int
 c:Int
 d:Int
def Bx.val (x:Bx):Value:=boxV x.a x.b x.c x.d
def Bx.ok (x:Bx):Bool:=boxOK x.a x.b x.c x.d
theorem Bx.bd {x:Bx} (h:x.ok=true):-134217728 ≤ x.a ∧ x.a ≤ x.b ∧ x.b ≤ 134217728 ∧ -134217728 ≤ x.c ∧ x.c ≤ x.d ∧ x.d ≤ 134217728:=by
 unfold Bx.ok boxOK inB at h
 simp only [Bool.and_eq_true,decide_eq_true_eq] at h
 omega
def mLo (x:Bx):Int:=min (min (x.a * x.c) (x.a * x.d)) (min (x.b * x.c) (x.b * x.d))
def mHi (x:Bx):Int:=max (max (x.a * x.c) (x.a * x.d)) (max (x.b * x.c) (x.b * x.d))
def Bx.sq (x:Bx):Bx:=⟨(sqLo x.a x.b - sqHi x.c x.d) / 16777216,cei (sqHi x.a x.b - sqLo x.c x.d) 16777216,2 * mLo x / 16777216,cei (2 * mHi x) 16777216⟩
def Bx.add (x y:Bx):Bx:=⟨x.a + y.a,x.b + y.b,x.c + y.c,x.d + y.d⟩
def Bx.next (c z:Bx):Option Bx:=if z.sq.ok=true then (if (z.sq.add c).ok=true then some (z.sq.add c) else none) else none
def orbB (c:Bx):Nat → Option Bx
 | 0 => some ⟨0,0,0,0⟩
 | k + 1 => (orbB c k).bind (Bx.next c)
def nLo (z:Bx):Int:=sqLo z.a z.b + sqLo z.c z.d
def nHi (z:Bx):Int:=sqHi z.a z.b + sqHi z.c z.d
def outB (c:Bx) (k:Nat):Bool:=match orbB c k with
 | some z => decide (1125899906842624 < nLo z)
 | none => false
def whB (c:Bx) (M:Nat):Bool:=(List.range (M + 1)).any (outB c)
def Bx.coarse (x:Bx):Bx:=⟨x.a / 4096,cei x.b 4096,x.c / 4096,cei x.d 4096⟩
def discB (x:Bx):Int:=sqHi (x.coarse.a + 4096) (x.coarse.b + 4096) + sqHi x.coarse.c x.coarse.d - 1048576
def cardG (x:Bx):Int:=sqHi (x.coarse.a - 1024) (x.coarse.b - 1024) + sqHi x.coarse.c x.coarse.d + (x.coarse.b - 1024) * 4096
def cardB (x:Bx):Int:=(if cardG x < 0 then sqLo (x.coarse.a - 1024) (x.coarse.b - 1024) + sqLo x.coarse.c x.coarse.d else sqHi (x.coarse.a - 1024) (x.coarse.b - 1024) + sqHi x.coarse.c x.coarse.d) * cardG x - sqLo x.coarse.c x.coarse.d * 4194304
def stB (x:Bx) (M:Nat):Int:=if cardB x ≤ 0 ∨ discB x ≤ 0 then 1 else if whB x M=true then -1 else 0
theorem sq_nn (x:Int):0 ≤ x * x:=by
 rcases Int.le_total 0 x with h | h
 · exact Int.mul_nonneg h h
 · exact Int.mul_nonneg_of_nonpos_of_nonpos h h
theorem sq_le {x k:Int} (h1:-k ≤ x) (h2:x ≤ k):x * x ≤ k * k:=by
 rcases Int.le_total 0 x with h | h
 · exact Int.mul_le_mul h2 h2 h (by omega)
 · have:(-x) * (-x) ≤ k * k:=Int.mul_le_mul (by omega) (by omega) (by omega) (by omega)
   rwa [Int.neg_mul_neg] at this
theorem mul_bd {x y k:Int} (h1:-k ≤ x) (h2:x ≤ k) (h3:-k ≤ y) (h4:y ≤ k):-(k * k) ≤ x * y ∧ x * y ≤ k * k:=by
 have hk:0 ≤ k:=by omega
 have key:∀ p q:Int,0 ≤ p → p ≤ k → 0 ≤ q → q ≤ k → 0 ≤ p * q ∧ p * q ≤ k * k:=fun p q a b c d => ⟨Int.mul_nonneg a c,Int.mul_le_mul b d c hk⟩
 rcases Int.le_total 0 x with h | h <;> rcases Int.le_total 0 y with g | g
 · have:=key x y h h2 g h4
   omega
 · have:=key x (-y) h h2 (by omega) (by omega)
   rw [Int.mul_neg] at this
   omega
 · have:=key (-x) y (by omega) (by omega) g h4
   rw [Int.neg_mul] at this
   omega
 · have:=key (-x) (-y) (by omega) (by omega) (by omega) (by omega)
   rw [Int.neg_mul_neg] at this
   omega
theorem sqLo_bd {l h k:Int} (h1:-k ≤ l) (h2:l ≤ k):0 ≤ sqLo l h ∧ sqLo l h ≤ k * k:=by
 have a:=sq_nn l
 have b:=sq_nn h
 have c:=sq_le h1 h2
 unfold sqLo
 split <;> omega
theorem sqHi_bd {l h k:Int} (h1:-k ≤ l) (h2:l ≤ k) (h3:-k ≤ h) (h4:h ≤ k):0 ≤ sqHi l h ∧ sqHi l h ≤ k * k:=by
 have a:=sq_nn l
 have b:=sq_nn h
 have c:=sq_le h1 h2
 have d:=sq_le h3 h4
 unfold sqHi
 omega
end Go.Proofs.YthhfljldbfgpcaaGreatDoor
end

section
namespace Go.Proofs.YthhfljldbfgpcaaGreatDoor
open Go.RowKit
theorem w64 {x:Int} (h1:-9223372036854775808 ≤ x) (h2:x ≤ 9223372036854775807):wrap64 x=x:=IntWalk.wrap64_in _ ⟨h1,h2⟩
theorem floor_t (a b:Int) (hb:0 < b):a / b=if a.tmod b ≠ 0 ∧ a < 0 then a.tdiv b - 1 else a.tdiv b:=by
 rcases Int.le_total 0 a with h | h
 · rw [if_neg (by omega),Int.tdiv_eq_ediv_of_nonneg h]
 · by_cases ha:a=0
   · subst ha
     simp
   have h1:a.tdiv b=-((-a) / b):=by
     have:a.tdiv b=-((-a).tdiv b):=by rw [Int.neg_tdiv,Int.neg_neg]
     rw [this,Int.tdiv_eq_ediv_of_nonneg (by omega)]
   have h2:a.tmod b=-((-a) % b):=by
     have:a.tmod b=-((-a).tmod b):=by rw [Int.neg_tmod,Int.neg_neg]
     rw [this,Int.tmod_eq_emod_of_nonneg (by omega)]
   rw [h1,h2]
   have e1:=Int.mul_ediv_add_emod (-a) b
   have e2:=Int.emod_nonneg (-a) (Int.ne_of_gt hb)
   have e3:=Int.emod_lt_of_pos (-a) hb
   generalize (-a) / b=q at *
   generalize (-a) % b=r at *
   split
   · rw [Int.ediv_eq_iff_of_pos hb]
     rw [Int.sub_mul,Int.neg_mul,Int.mul_comm q b]
     omega
   · rename_i hn
     rw [Int.ediv_eq_iff_of_pos hb,Int.neg_mul,Int.mul_comm q b]
     have:r=0:=by omega
     omega
set_option maxHeartbeats 400000 in
theorem l4Floor_is (a b:Int) (hb:0 < b) (h1:-4611686018427387904 ≤ a) (h2:a ≤ 4611686018427387904) (w:World):Calls Vp.prog 102 #[.int .i64 a,.int .i64 b] w fun e w' => e=.returned (.int .i64 (a / b)) ∧ w=w':=by
 have hf:=floor_t a b hb
 have hz:(b == 0)=false:=by rw [beq_eq_false_iff_ne]; omega
 have hq1:-4611686018427387904 ≤ a.tdiv b ∧ a.tdiv b ≤ 4611686018427387904:=by
   have e1:(a.tdiv b).natAbs ≤ a.natAbs:=by rw [Int.natAbs_tdiv]; exact Nat.div_le_self _ _
   omega
 obtain ⟨q,hq⟩:∃ q,a.tdiv b=q:=⟨_,rfl⟩
 obtain ⟨m,hm⟩:∃ m,a.tmod b=m:=⟨_,rfl⟩
 obtain ⟨r,hr⟩:∃ r,a / b=r:=⟨_,rfl⟩
 rw [hq,hm,hr] at hf
 rw [hq] at hq1
 rw [hr]
 have HB:=Lib.hid hq1
 have hw1:wrap64 q=q:=w64 (by omega) (by omega)
 have hw2:wrap64 (q - 1)=q - 1:=w64 (by omega) (by omega)
 have hb':b ≠ 0:=by omega
 clear hq1 hr hb
 by_cases h0:m=0
 · have t1:(m != 0)=false:=by rw [h0]; rfl
   rw [if_neg (by omega)] at hf
   subst hf
   clear h0 h1 h2
   go_enter Vp.func102,Tryz.ntmps102
   go_wp2
   go_ret
   exact ⟨ret_int (by first | rfl | exact hw1),rfl⟩
 · have t1:(m != 0)=true:=by simpa using h0
   by_cases h3:a < 0
   · rw [if_pos ⟨h0,h3⟩] at hf
     subst hf
     clear h0 h1 h2
     go_enter Vp.func102,Tryz.ntmps102
     go_wp2
     go_ret
     exact ⟨ret_int (by first | rfl | exact hw2 | rw [hw1,hw2]),rfl⟩
   · rw [if_neg (by omega)] at hf
     subst hf
     clear h0 h1 h2
     go_enter Vp.func102,Tryz.ntmps102
     go_wp2
     go_ret
     exact ⟨ret_int (by first | rfl | exact hw1),rfl⟩
set_option maxHeartbeats 400000 in
theorem l4Ceil_is (a b:Int) (hb:0 < b) (h1:-4611686018427387904 ≤ a) (h2:a ≤ 4611686018427387904) (w:World):Calls Vp.prog 103 #[.int .i64 a,.int .i64 b] w fun e w' => e=.returned (.int .i64 (cei a b)) ∧ w=w':=by
 have hw1:wrap64 (-a)=-a:=w64 (by omega) (by omega)
 have hq1:-4611686018427387904 ≤ (-a) / b ∧ (-a) / b ≤ 4611686018427387904:=by
   have e1:=Int.mul_ediv_add_emod (-a) b
   have e2:=Int.emod_nonneg (-a) (Int.ne_of_gt hb)
   have e3:=Int.emod_lt_of_pos (-a) hb
   constructor
   · apply Int.le_ediv_of_mul_le hb
     have:-4611686018427387904 * b ≤ -4611686018427387904 * 1:=Int.mul_le_mul_of_nonpos_left (by omega) (by omega)
     omega
   · apply Int.ediv_le_of_le_mul hb
     have:4611686018427387904 * 1 ≤ 4611686018427387904 * b:=Int.mul_le_mul_of_nonneg_left (by omega) (by omega)
     omega
 have hw2:wrap64 (-((-a) / b))=cei a b:=w64 (by omega) (by omega)
 have HF:=Lib.hid (l4Floor_is (-a) b hb (by omega) (by omega))
 clear hq1 h1 h2 hb
 rw [← hw1] at HF
 obtain ⟨q,hq⟩:∃ q,wrap64 (-a) / b=q:=⟨_,rfl⟩
 rw [hq] at HF
 rw [hw1] at hq
 rw [hq] at hw2
 clear hw1 hq
 go_enter Vp.func103,Tryz.ntmps103
 go_wp2_with fail
 refine (HF.out _).mono ?_
 rintro e w1 ⟨rfl,rfl⟩
 go_wp2
 go_ret
 exact ⟨ret_int (by first | rfl | exact hw2),rfl⟩
set_option maxHeartbeats 400000 in
theorem l4Square_is (a b:Int) (h1:-1000000000 ≤ a) (h2:a ≤ 1000000000) (h3:-1000000000 ≤ b) (h4:b ≤ 1000000000) (w:World):Calls Vp.prog 81 #[.int .i64 a,.int .i64 b] w fun e w' => e=.returned (.tuple #[.int .i64 (sqLo a b),.int .i64 (sqHi a b)]) ∧ w=w':=by
 have a1:=sq_nn a
 have a2:=sq_le h1 h2
 have b1:=sq_nn b
 have b2:=sq_le h3 h4
 obtain ⟨p,hp,hpv⟩:∃ p,wrap64 (a * a)=p ∧ p=a * a:=⟨_,rfl,w64 (by omega) (by omega)⟩
 obtain ⟨q,hq,hqv⟩:∃ q,wrap64 (b * b)=q ∧ q=b * b:=⟨_,rfl,w64 (by omega) (by omega)⟩
 have HV:Hid (sqLo a b=(if a ≤ 0 ∧ 0 ≤ b then 0 else min p q) ∧ sqHi a b=max p q):=by rw [hpv,hqv]; exact ⟨rfl,rfl⟩
 clear a1 a2 b1 b2 h1 h2 h3 h4 hpv hqv
 generalize sqLo a b=r at *
 generalize sqHi a b=s at *
 obtain ⟨m,hm⟩:∃ m,(if q < p then q else p)=m:=⟨_,rfl⟩
 obtain ⟨n,hn⟩:∃ n,(if p < q then q else p)=n:=⟨_,rfl⟩
 have HM:Hid (m=min p q):=by show m=_; rw [← hm]; split <;> omega
 have HN:Hid (n=max p q):=by show n=_; rw [← hn]; split <;> omega
 by_cases h0:a ≤ 0
 · by_cases h1:0 ≤ b
   · have h:=HV.out
     rw [if_pos ⟨h0,h1⟩,← HN.out] at h
     obtain ⟨rfl,rfl⟩:=h
     clear HV HM HN
     go_enter Vp.func81,Tryz.ntmps81
     go_wp2
     all_goals
       go_ret2
       exact ⟨rfl,rfl⟩
   · have h:=HV.out
     rw [if_neg (by omega),← HN.out,← HM.out] at h
     obtain ⟨rfl,rfl⟩:=h
     clear HV HM HN
     go_enter Vp.func81,Tryz.ntmps81
     go_wp2
     all_goals
       go_ret2
       exact ⟨rfl,rfl⟩
 · have h:=HV.out
   rw [if_neg (by omega),← HN.out,← HM.out] at h
   obtain ⟨rfl,rfl⟩:=h
   clear HV HM HN
   go_enter Vp.func81,Tryz.ntmps81
   go_wp2
   all_goals
     go_ret2
     exact ⟨rfl,rfl⟩
end Go.Proofs.YthhfljldbfgpcaaGreatDoor
end
