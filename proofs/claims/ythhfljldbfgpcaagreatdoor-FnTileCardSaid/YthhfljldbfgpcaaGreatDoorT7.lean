/- Merged texts: BiS, BiT, FloR. -/
import Derived.Test.YthhfljldbfgpcaaGreatDoorT6
import Derived.Deep.RegionWith
import Derived.BigQuiet
import Derived.Deep.Cut
import Derived.Deep.RegionHeld3
import Derived.Test.YthhfljldbfgpcaaGreatDoorT4
import Derived.Test.YthhfljldbfgpcaaGreatDoorT1
set_option linter.all false
section
namespace Go.Proofs.YthhfljldbfgpcaaGreatDoor
open Go.RowKit
theorem two0 (w:World) (C0:Array Value) (T0:TypeId) (C1:Array Value) (T1:TypeId):Box w w.heap.size C0 T0 ((w.alloc (.cells C0 T0)).alloc (.cells C1 T1)) ∧ Box w (w.heap.size + 1) C1 T1 ((w.alloc (.cells C0 T0)).alloc (.cells C1 T1)):=by
 refine ⟨(Box.new w C0 T0).alloc _,?_⟩
 have:=(Box.new (w.alloc (.cells C0 T0)) C1 T1).up (w0:=w) ((Below.refl _ _).alloc (Nat.le_refl _) _)
 rwa [World.size_alloc] at this
theorem three0 (w:World) (C0:Array Value) (T0:TypeId) (C1:Array Value) (T1:TypeId) (C2:Array Value) (T2:TypeId):Box w w.heap.size C0 T0 (((w.alloc (.cells C0 T0)).alloc (.cells C1 T1)).alloc (.cells C2 T2)) ∧
   Box w (w.heap.size + 1) C1 T1 (((w.alloc (.cells C0 T0)).alloc (.cells C1 T1)).alloc (.cells C2 T2)) ∧ Box w (w.heap.size + 1 + 1) C2 T2 (((w.alloc (.cells C0 T0)).alloc (.cells C1 T1)).alloc (.cells C2 T2)):=by
 obtain ⟨h1,h2⟩:=two0 w C0 T0 C1 T1
 refine ⟨h1.alloc _,h2.alloc _,?_⟩
 have:=(Box.new ((w.alloc (.cells C0 T0)).alloc (.cells C1 T1)) C2 T2).up (w0:=w) h1.old
 rwa [World.size_alloc,World.size_alloc] at this
theorem below2 (w:World) (o0 o1:Obj):Below w.heap.size w ((w.alloc o0).alloc o1):=((Below.refl _ w).alloc (Nat.le_refl _) _).alloc (by simp) _
theorem below3 (w:World) (o0 o1 o2:Obj):Below w.heap.size w (((w.alloc o0).alloc o1).alloc o2):=(below2 w o0 o1).alloc (by simp; omega) _
theorem set2 {w W:World} (h:Below w.heap.size w W) {b:Nat} (hb:w.heap.size ≤ b) (u0 u1:Value):Below w.heap.size w ((W.setCell ⟨b,0,none⟩ u0).setCell ⟨b,1,none⟩ u1) :=
 (h.setCell (p:=⟨b,0,none⟩) hb u0).setCell (p:=⟨b,1,none⟩) hb u1
set_option maxHeartbeats 1000000 in
theorem spLess_is (a b c d:Int) (h1:-1000000000000000000 ≤ a) (h2:a ≤ 1000000000000000000) (h3:-1000000000000000000 ≤ b) (h4:b ≤ 1000000000000000000) (h5:-1000000000000000000 ≤ c) (h6:c ≤ 1000000000000000000) (h7:-1000000000000000000 ≤ d) (h8:d ≤ 1000000000000000000) (w:World) :
   Calls Vp.prog 93 #[.agg #[.int .i64 a,.int .i64 b],.agg #[.int .i64 c,.int .i64 d]] w fun e w' => e=.returned (.agg #[.int .i64 (a - d),.int .i64 (b - c)]) ∧ Below w.heap.size w w':=by
 obtain ⟨X,Y,Z⟩:=three0 w #[.int .i64 a,.int .i64 b] 81 #[.int .i64 c,.int .i64 d] 81 #[.int .i64 0,.int .i64 0] 81
 obtain ⟨p,e1,f1⟩:∃ x,wrap64 (a - d)=x ∧ a - d=x:=⟨_,w64 (by omega) (by omega),rfl⟩
 obtain ⟨q,e2,f2⟩:∃ x,wrap64 (b - c)=x ∧ b - c=x:=⟨_,w64 (by omega) (by omega),rfl⟩
 rw [f1,f2]
 have x0:=X.cell 0 _ rfl
 have x1:=X.cell 1 _ rfl
 have y0:=Y.cell 0 _ rfl
 have y1:=Y.cell 1 _ rfl
 have z0:=Z.cell 0 _ rfl
 have z1:=Z.cell 1 _ rfl
 have g0:=Z.frozen 0
 have g1:=Z.frozen 1
 have HB:=Lib.hid (fun u0 u1 => set2 X.old (b:=w.heap.size + 1 + 1) (by omega) u0 u1)
 clear X Y Z h1 h2 h3 h4 h5 h6 h7 h8 f1 f2
 go_enter Vp.func93,Tryz.ntmps93
 go_wp2
 exact bodyPost_ret (v:=.agg #[.int .i64 p,.int .i64 q]) (by simp [results,Tryz.f93,go_sem,e1,e2]) rfl ⟨rfl,below3 _ _ _ _⟩
set_option maxHeartbeats 1000000 in
theorem spPlus_is (a b c d:Int) (h1:-1000000000000000000 ≤ a) (h2:a ≤ 1000000000000000000) (h3:-1000000000000000000 ≤ b) (h4:b ≤ 1000000000000000000) (h5:-1000000000000000000 ≤ c) (h6:c ≤ 1000000000000000000) (h7:-1000000000000000000 ≤ d) (h8:d ≤ 1000000000000000000) (w:World) :
   Calls Vp.prog 95 #[.agg #[.int .i64 a,.int .i64 b],.agg #[.int .i64 c,.int .i64 d]] w fun e w' => e=.returned (.agg #[.int .i64 (a + c),.int .i64 (b + d)]) ∧ Below w.heap.size w w':=by
 obtain ⟨X,Y,Z⟩:=three0 w #[.int .i64 a,.int .i64 b] 81 #[.int .i64 c,.int .i64 d] 81 #[.int .i64 0,.int .i64 0] 81
 obtain ⟨p,e1,f1⟩:∃ x,wrap64 (a + c)=x ∧ a + c=x:=⟨_,w64 (by omega) (by omega),rfl⟩
 obtain ⟨q,e2,f2⟩:∃ x,wrap64 (b + d)=x ∧ b + d=x:=⟨_,w64 (by omega) (by omega),rfl⟩
 rw [f1,f2]
 have x0:=X.cell 0 _ rfl
 have x1:=X.cell 1 _ rfl
 have y0:=Y.cell 0 _ rfl
 have y1:=Y.cell 1 _ rfl
 have z0:=Z.cell 0 _ rfl
 have z1:=Z.cell 1 _ rfl
 have g0:=Z.frozen 0
 have g1:=Z.frozen 1
 have HB:=Lib.hid (fun u0 u1 => set2 X.old (b:=w.heap.size + 1 + 1) (by omega) u0 u1)
 clear X Y Z h1 h2 h3 h4 h5 h6 h7 h8 f1 f2
 go_enter Vp.func95,Tryz.ntmps95
 go_wp2
 exact bodyPost_ret (v:=.agg #[.int .i64 p,.int .i64 q]) (by simp [results,Tryz.f95,go_sem,e1,e2]) rfl ⟨rfl,below3 _ _ _ _⟩
set_option maxHeartbeats 1000000 in
theorem spSquare_is (a b:Int) (h1:-1000000000 ≤ a) (h2:a ≤ 1000000000) (h3:-1000000000 ≤ b) (h4:b ≤ 1000000000) (w:World) :
   Calls Vp.prog 94 #[.agg #[.int .i64 a,.int .i64 b]] w fun e w' => e=.returned (.agg #[.int .i64 (sqLo a b),.int .i64 (sqHi a b)]) ∧ Below w.heap.size w w':=by
 obtain ⟨X,Z⟩:=two0 w #[.int .i64 a,.int .i64 b] 81 #[.int .i64 0,.int .i64 0] 81
 have a1:=sq_nn a
 have a2:=sq_le h1 h2
 have b1:=sq_nn b
 have b2:=sq_le h3 h4
 obtain ⟨p,hp,hpv⟩:∃ p,wrap64 (a * a)=p ∧ p=a * a:=⟨_,rfl,w64 (by omega) (by omega)⟩
 obtain ⟨q,hq,hqv⟩:∃ q,wrap64 (b * b)=q ∧ q=b * b:=⟨_,rfl,w64 (by omega) (by omega)⟩
 have HV:Hid (sqLo a b=(if a ≤ 0 ∧ 0 ≤ b then 0 else min p q) ∧ sqHi a b=max p q):=by rw [hpv,hqv]; exact ⟨rfl,rfl⟩
 clear a1 a2 b1 b2 h1 h2 h3 h4 hpv hqv
 generalize sqLo a b=r at *
 generalize sqHi a b=s at *
 obtain ⟨m,hm⟩:∃ m,(if q < p then q else p)=m:=⟨_,rfl⟩
 obtain ⟨n,hn⟩:∃ n,(if p < q then q else p)=n:=⟨_,rfl⟩
 have HM:Hid (m=min p q):=by show m=_; rw [← hm]; split <;> omega
 have HN:Hid (n=max p q):=by show n=_; rw [← hn]; split <;> omega
 have x0:=X.cell 0 _ rfl
 have x1:=X.cell 1 _ rfl
 have z0:=Z.cell 0 _ rfl
 have z1:=Z.cell 1 _ rfl
 have g0:=Z.frozen 0
 have g1:=Z.frozen 1
 have HX:=Lib.hid X
 have HZ:=Lib.hid Z
 clear X Z
 by_cases h0:a ≤ 0
 · by_cases h1:0 ≤ b
   · have h:=HV.out
     rw [if_pos ⟨h0,h1⟩,← HN.out] at h
     rw [h.1,h.2]
     clear HV HM HN h
     go_enter Vp.func94,Tryz.ntmps94
     go_upto_region 1 with fail
     go_quiet (fail)
     clear x0 x1 z0 z1 g0 g1
     have X:=HX.out.step (((Drw.refl _).drewN nq).below _)
     have Z:=HZ.out.step (((Drw.refl _).drewN nq).below _)
     have x0:=X.cell 0 _ rfl
     have x1:=X.cell 1 _ rfl
     have z0:=Z.cell 0 _ rfl
     have z1:=Z.cell 1 _ rfl
     have g0:=Z.frozen 0
     have g1:=Z.frozen 1
     have HB:=Lib.hid (fun u0 u1 => set2 X.old (b:=w.heap.size + 1) (by omega) u0 u1)
     clear X Z
     go_wp2
     all_goals
       exact bodyPost_ret (v:=.agg #[.int .i64 0,.int .i64 n]) (by simp [results,Tryz.f94,go_sem,z0,z1]) rfl ⟨rfl,HB.out _ _⟩
   · have h:=HV.out
     rw [if_neg (by omega),← HN.out,← HM.out] at h
     rw [h.1,h.2]
     clear HV HM HN h
     go_enter Vp.func94,Tryz.ntmps94
     go_upto_region 1 with fail
     go_quiet (fail)
     clear x0 x1 z0 z1 g0 g1
     have X:=HX.out.step (((Drw.refl _).drewN nq).below _)
     have Z:=HZ.out.step (((Drw.refl _).drewN nq).below _)
     have x0:=X.cell 0 _ rfl
     have x1:=X.cell 1 _ rfl
     have z0:=Z.cell 0 _ rfl
     have z1:=Z.cell 1 _ rfl
     have g0:=Z.frozen 0
     have g1:=Z.frozen 1
     have HB:=Lib.hid (fun u0 u1 => set2 X.old (b:=w.heap.size + 1) (by omega) u0 u1)
     clear X Z
     go_wp2
     all_goals
       exact bodyPost_ret (v:=.agg #[.int .i64 m,.int .i64 n]) (by simp [results,Tryz.f94,go_sem,z0,z1]) rfl ⟨rfl,HB.out _ _⟩
 · have h:=HV.out
   rw [if_neg (by omega),← HN.out,← HM.out] at h
   rw [h.1,h.2]
   clear HV HM HN h
   go_enter Vp.func94,Tryz.ntmps94
   go_upto_region 1 with fail
   go_quiet (fail)
   clear x0 x1 z0 z1 g0 g1
   have X:=HX.out.step (((Drw.refl _).drewN nq).below _)
   have Z:=HZ.out.step (((Drw.refl _).drewN nq).below _)
   have x0:=X.cell 0 _ rfl
   have x1:=X.cell 1 _ rfl
   have z0:=Z.cell 0 _ rfl
   have z1:=Z.cell 1 _ rfl
   have g0:=Z.frozen 0
   have g1:=Z.frozen 1
   have HB:=Lib.hid (fun u0 u1 => set2 X.old (b:=w.heap.size + 1) (by omega) u0 u1)
   clear X Z
   go_wp2
   all_goals
     exact bodyPost_ret (v:=.agg #[.int .i64 m,.int .i64 n]) (by simp [results,Tryz.f94,go_sem,z0,z1]) rfl ⟨rfl,HB.out _ _⟩
theorem run_min_int4 {P:Program} {w:World} (ts:Array TypeId) (t:TypeId) (k k1 k2 k3:IntKind) (x y z u:Int):(Builtin.min_ ts t #[.int k x,.int k1 y,.int k2 z,.int k3 u]).run P w=.ok (.int k (if u < (if z < (if y < x then y else x) then z else (if y < x then y else x)) then u else (if z < (if y < x then y else x) then z else (if y < x then y else x)))) w:=by
 simp [Builtin.min_,Builtin.min2,List.foldlM]
theorem run_max_int4 {P:Program} {w:World} (ts:Array TypeId) (t:TypeId) (k k1 k2 k3:IntKind) (x y z u:Int):(Builtin.max_ ts t #[.int k x,.int k1 y,.int k2 z,.int k3 u]).run P w=.ok (.int k (if (if (if x < y then y else x) < z then z else (if x < y then y else x)) < u then u else (if (if x < y then y else x) < z then z else (if x < y then y else x)))) w:=by
 simp [Builtin.max_,Builtin.max2,List.foldlM]
attribute [local go_sem] run_min_int4 run_max_int4
theorem wrap_mul {a b k:Int} (h:-(k * k) ≤ a * b ∧ a * b ≤ k * k) (hk:k * k ≤ 9223372036854775807):∃ p,wrap64 (a * b)=p ∧ a * b=p:=⟨_,w64 (by omega) (by omega),rfl⟩
set_option maxHeartbeats 4000000 in
theorem spTimes_is (a b c d:Int) (h1:-1000000000 ≤ a) (h2:a ≤ 1000000000) (h3:-1000000000 ≤ b) (h4:b ≤ 1000000000) (h5:-1000000000 ≤ c) (h6:c ≤ 1000000000) (h7:-1000000000 ≤ d) (h8:d ≤ 1000000000) (w:World) :
   Calls Vp.prog 111 #[.agg #[.int .i64 a,.int .i64 b],.agg #[.int .i64 c,.int .i64 d]] w fun e w' => e=.returned (.agg #[.int .i64 (mLo ⟨a,b,c,d⟩),.int .i64 (mHi ⟨a,b,c,d⟩)]) ∧ Below w.heap.size w w':=by
 obtain ⟨X,Y,Z⟩:=three0 w #[.int .i64 a,.int .i64 b] 81 #[.int .i64 c,.int .i64 d] 81 #[.int .i64 0,.int .i64 0] 81
 obtain ⟨p,hp,ep⟩:=wrap_mul (mul_bd (x:=a) (y:=c) (k:=1000000000) h1 h2 h5 h6) (by decide)
 obtain ⟨q,hq,eq⟩:=wrap_mul (mul_bd (x:=a) (y:=d) (k:=1000000000) h1 h2 h7 h8) (by decide)
 obtain ⟨r,hr,er⟩:=wrap_mul (mul_bd (x:=b) (y:=c) (k:=1000000000) h3 h4 h5 h6) (by decide)
 obtain ⟨t,ht,et⟩:=wrap_mul (mul_bd (x:=b) (y:=d) (k:=1000000000) h3 h4 h7 h8) (by decide)
 obtain ⟨m1,g1,v1⟩:∃ m,(if q < p then q else p)=m ∧ m=min p q:=⟨_,rfl,by split <;> omega⟩
 obtain ⟨m2,g2,v2⟩:∃ m,(if r < m1 then r else m1)=m ∧ m=min m1 r:=⟨_,rfl,by split <;> omega⟩
 obtain ⟨m3,g3,v3⟩:∃ m,(if t < m2 then t else m2)=m ∧ m=min m2 t:=⟨_,rfl,by split <;> omega⟩
 obtain ⟨n1,k1,z1⟩:∃ m,(if p < q then q else p)=m ∧ m=max p q:=⟨_,rfl,by split <;> omega⟩
 obtain ⟨n2,k2,z2⟩:∃ m,(if n1 < r then r else n1)=m ∧ m=max n1 r:=⟨_,rfl,by split <;> omega⟩
 obtain ⟨n3,k3,z3⟩:∃ m,(if n2 < t then t else n2)=m ∧ m=max n2 t:=⟨_,rfl,by split <;> omega⟩
 have vm:mLo ⟨a,b,c,d⟩=m3:=by unfold mLo; dsimp only; rw [ep,eq,er,et]; omega
 have vn:mHi ⟨a,b,c,d⟩=n3:=by unfold mHi; dsimp only; rw [ep,eq,er,et]; omega
 rw [vm,vn]
 have x0:=X.cell 0 _ rfl
 have x1:=X.cell 1 _ rfl
 have y0:=Y.cell 0 _ rfl
 have y1:=Y.cell 1 _ rfl
 have z0:=Z.cell 0 _ rfl
 have z1':=Z.cell 1 _ rfl
 have f0:=Z.frozen 0
 have f1:=Z.frozen 1
 have HX:=Lib.hid X
 have HY:=Lib.hid Y
 have HZ:=Lib.hid Z
 clear X Y Z h1 h2 h3 h4 h5 h6 h7 h8 ep eq er et v1 v2 v3 z1 z2 z3 vm vn
 go_enter Vp.func111,Tryz.ntmps111
 go_upto_region 1 with fail
 go_quiet (fail)
 clear x0 x1 y0 y1 z0 z1' f0 f1
 have X:=HX.out.step (((Drw.refl _).drewN nq).below _)
 have Y:=HY.out.step (((Drw.refl _).drewN nq).below _)
 have Z:=HZ.out.step (((Drw.refl _).drewN nq).below _)
 have HX:=Lib.hid X
 have HZ:=Lib.hid Z
 have x0:=X.cell 0 _ rfl
 have x1:=X.cell 1 _ rfl
 have y0:=Y.cell 0 _ rfl
 have y1:=Y.cell 1 _ rfl
 clear X Y Z
 go_upto_region 2 with fail
 go_quiet (fail)
 clear x0 x1 y0 y1
 have X:=HX.out.step (((Drw.refl _).drewN nq).below _)
 have Z:=HZ.out.step (((Drw.refl _).drewN nq).below _)
 have z0:=Z.cell 0 _ rfl
 have z1':=Z.cell 1 _ rfl
 have f0:=Z.frozen 0
 have f1:=Z.frozen 1
 have HB:=Lib.hid (fun u0 u1 => set2 X.old (b:=w.heap.size + 1 + 1) (by omega) u0 u1)
 clear X Z
 go_wp2
 all_goals
   exact bodyPost_ret (v:=.agg #[.int .i64 m3,.int .i64 n3]) (by simp [results,Tryz.f111,go_sem]) rfl ⟨rfl,set2 ((below3 _ _ _ _).trans (((Drw.refl _).drewN _).below _)) (b:=w.heap.size + 1 + 1) (by omega) _ _⟩
def spOk (l h:Int):Bool:=decide (-134217728 ≤ l) && decide (l ≤ h) && decide (h ≤ 134217728)
set_option maxHeartbeats 1000000 in
theorem spValid_is (a b:Int) (w:World):Calls Vp.prog 71 #[.agg #[.int .i64 a,.int .i64 b]] w fun e w' => e=.returned (.bool (spOk a b)) ∧ Below w.heap.size w w':=by
 have X:=Box.new w #[.int .i64 a,.int .i64 b] 81
 have x0:=X.cell 0 _ rfl
 have x1:=X.cell 1 _ rfl
 have HB:=Lib.hid X.old
 clear X
 unfold spOk
 by_cases h1:-134217728 ≤ a
 · by_cases h2:a ≤ b
   · by_cases h3:b ≤ 134217728
     · rw [decide_eq_true h1,decide_eq_true h2,decide_eq_true h3]
       go_enter Vp.func71,Tryz.ntmps71
       go_wp2
       go_ret
       exact ⟨rfl,HB.out⟩
     · rw [decide_eq_true h1,decide_eq_true h2,decide_eq_false h3]
       go_enter Vp.func71,Tryz.ntmps71
       go_wp2
       go_ret
       exact ⟨rfl,HB.out⟩
   · rw [decide_eq_true h1,decide_eq_false h2]
     go_enter Vp.func71,Tryz.ntmps71
     go_wp2
     go_ret
     exact ⟨rfl,HB.out⟩
 · rw [decide_eq_false h1]
   go_enter Vp.func71,Tryz.ntmps71
   go_wp2
   go_ret
   exact ⟨rfl,HB.out⟩
set_option maxHeartbeats 1000000 in
theorem spOut_is (a b:Int) (k:Nat) (hk:k ≤ 30) (h1:-4611686018427387904 ≤ a) (h2:a ≤ 4611686018427387904) (h3:-4611686018427387904 ≤ b) (h4:b ≤ 4611686018427387904) (w:World) :
   Calls Vp.prog 70 #[.agg #[.int .i64 a,.int .i64 b],.int .i64 k] w fun e w' => e=.returned (.agg #[.int .i64 (a / (2 ^ k:Nat)),.int .i64 (cei b (2 ^ k:Nat))]) ∧ Below w.heap.size w w':=by
 obtain ⟨X,Z⟩:=two0 w #[.int .i64 a,.int .i64 b] 81 #[.int .i64 0,.int .i64 0] 81
 have x0:=X.cell 0 _ rfl
 have x1:=X.cell 1 _ rfl
 have z0:=Z.cell 0 _ rfl
 have z1:=Z.cell 1 _ rfl
 have f0:=Z.frozen 0
 have f1:=Z.frozen 1
 have hq:-4611686018427387904 ≤ (-b) / (2 ^ k:Nat) ∧ (-b) / (2 ^ k:Nat) ≤ 4611686018427387904:=by
   have hb:(0:Int) < (2 ^ k:Nat):=by have:=Nat.two_pow_pos k; omega
   constructor
   · apply Int.le_ediv_of_mul_le hb
     have:-4611686018427387904 * ((2 ^ k:Nat):Int) ≤ -4611686018427387904 * 1:=Int.mul_le_mul_of_nonpos_left (by omega) (by omega)
     omega
   · apply Int.ediv_le_of_le_mul hb
     have:4611686018427387904 * 1 ≤ 4611686018427387904 * ((2 ^ k:Nat):Int):=Int.mul_le_mul_of_nonneg_left (by omega) (by omega)
     omega
 have e2:wrap64 (-((-b) / (2 ^ k:Nat)))=cei b (2 ^ k:Nat):=w64 (by omega) (by omega)
 obtain ⟨q1,e1⟩:∃ q,a / (2 ^ k:Nat)=q:=⟨_,rfl⟩
 obtain ⟨q2,e3⟩:∃ q,cei b (2 ^ k:Nat)=q:=⟨_,rfl⟩
 rw [e1,e3]
 rw [e3] at e2
 have HE:Hid (a / 2 ^ k=q1 ∧ wrap64 (-(-b / 2 ^ k))=q2):=by
   have hp:((2 ^ k:Nat):Int)=2 ^ k:=by simp
   rw [hp] at e1 e2
   exact ⟨e1,e2⟩
 clear X Z e1 e2 e3 hq
 go_enter Vp.func70,Tryz.ntmps70
 go_upto_region 1 with fail
 go_region
 go_wp2
 exact bodyPost_ret (v:=.agg #[.int .i64 q1,.int .i64 q2]) (by simp [results,Tryz.f70,go_sem,HE.out.1,HE.out.2]) rfl ⟨rfl,(below2 _ _ _).trans ((Drw.refl _).drew.below _)⟩
end Go.Proofs.YthhfljldbfgpcaaGreatDoor
end

section
namespace Go.Proofs.YthhfljldbfgpcaaGreatDoor
open Go.RowKit
theorem box_sp (a b c d:Int):boxOK a b c d=(spOk a b && spOk c d):=by
 unfold boxOK spOk inB
 rw [Bool.eq_iff_iff]
 simp only [Bool.and_eq_true,decide_eq_true_eq]
 omega
theorem Box.other2 {w0 W:World} {b:Nat} {C:Array Value} {T:TypeId} (h:Box w0 b C T W) {b':Nat} (hb:w0.heap.size ≤ b') (hne:b ≠ b') (u0 u1:Value):Box w0 b C T ((W.setCell ⟨b',0,none⟩ u0).setCell ⟨b',1,none⟩ u1) :=
 (h.other (p:=⟨b',0,none⟩) hb hne u0).other (p:=⟨b',1,none⟩) hb hne u1
theorem Box.other4 {w0 W:World} {b:Nat} {C:Array Value} {T:TypeId} (h:Box w0 b C T W) {b':Nat} (hb:w0.heap.size ≤ b') (hne:b ≠ b') (u0 u1 u2 u3:Value):Box w0 b C T ((((W.setCell ⟨b',0,none⟩ u0).setCell ⟨b',1,none⟩ u1).setCell ⟨b',2,none⟩ u2).setCell ⟨b',3,none⟩ u3) :=
 (h.other2 hb hne u0 u1).other (p:=⟨b',2,none⟩) hb hne u2 |>.other (p:=⟨b',3,none⟩) hb hne u3
theorem set4 {w W:World} (h:Below w.heap.size w W) {b:Nat} (hb:w.heap.size ≤ b) (u0 u1 u2 u3:Value):Below w.heap.size w ((((W.setCell ⟨b,0,none⟩ u0).setCell ⟨b,1,none⟩ u1).setCell ⟨b,2,none⟩ u2).setCell ⟨b,3,none⟩ u3) :=
 ((set2 h hb u0 u1).setCell (p:=⟨b,2,none⟩) hb u2).setCell (p:=⟨b,3,none⟩) hb u3
set_option maxHeartbeats 1000000 in
theorem boxSpans_is (a b c d:Int) (w:World):Calls Vp.prog 98 #[.agg #[.int .i64 a,.int .i64 b,.int .i64 c,.int .i64 d]] w fun e w' => e=.returned (.agg #[.int .i64 a,.int .i64 b,.int .i64 c,.int .i64 d]) ∧ Below w.heap.size w w':=by
 obtain ⟨X,Z⟩:=two0 w #[.int .i64 a,.int .i64 b,.int .i64 c,.int .i64 d] 62 #[.int .i64 0,.int .i64 0,.int .i64 0,.int .i64 0] 83
 have x0:=X.cell 0 _ rfl
 have x1:=X.cell 1 _ rfl
 have x2:=X.cell 2 _ rfl
 have x3:=X.cell 3 _ rfl
 have z0:=Z.cell 0 _ rfl
 have z1:=Z.cell 1 _ rfl
 have z2:=Z.cell 2 _ rfl
 have z3:=Z.cell 3 _ rfl
 have f0:=Z.frozen 0
 have f1:=Z.frozen 1
 have f2:=Z.frozen 2
 have f3:=Z.frozen 3
 clear X Z
 go_enter Vp.func98,Tryz.ntmps98
 go_wp2
 exact bodyPost_ret (v:=.agg #[.int .i64 a,.int .i64 b,.int .i64 c,.int .i64 d]) (by simp [results,Tryz.f98,go_sem]) rfl ⟨rfl,below2 _ _ _⟩
set_option maxHeartbeats 4000000 in
theorem spNorm_is (a b c d:Int) (h1:-1000000000 ≤ a) (h2:a ≤ 1000000000) (h3:-1000000000 ≤ b) (h4:b ≤ 1000000000) (h5:-1000000000 ≤ c) (h6:c ≤ 1000000000) (h7:-1000000000 ≤ d) (h8:d ≤ 1000000000) (w:World) :
   Calls Vp.prog 96 #[.agg #[.int .i64 a,.int .i64 b,.int .i64 c,.int .i64 d]] w fun e w' => e=.returned (.agg #[.int .i64 (nLo ⟨a,b,c,d⟩),.int .i64 (nHi ⟨a,b,c,d⟩)]) ∧ Below w.heap.size w w':=by
 obtain ⟨X,Z⟩:=two0 w #[.int .i64 a,.int .i64 b,.int .i64 c,.int .i64 d] 83 #[.int .i64 0,.int .i64 0] 81
 have l1:=sqLo_bd (l:=a) (h:=b) (k:=1000000000) h1 h2
 have l2:=sqLo_bd (l:=c) (h:=d) (k:=1000000000) h5 h6
 have l3:=sqHi_bd (l:=a) (h:=b) (k:=1000000000) h1 h2 h3 h4
 have l4:=sqHi_bd (l:=c) (h:=d) (k:=1000000000) h5 h6 h7 h8
 have HQ:=Lib.hid (spSquare_is a b h1 h2 h3 h4)
 have HR:=Lib.hid (spSquare_is c d h5 h6 h7 h8)
 have hN:nLo ⟨a,b,c,d⟩=sqLo a b + sqLo c d:=rfl
 have hM:nHi ⟨a,b,c,d⟩=sqHi a b + sqHi c d:=rfl
 rw [hN,hM]
 generalize sqLo a b=s1 at *
 generalize sqLo c d=s3 at *
 generalize sqHi a b=s2 at *
 generalize sqHi c d=s4 at *
 have HP:=Lib.hid (spPlus_is s1 s2 s3 s4 (by omega) (by omega) (by omega) (by omega) (by omega) (by omega) (by omega) (by omega))
 generalize s1 + s3=t1 at *
 generalize s2 + s4=t2 at *
 have HX:Hid (∀ W',Below ((w.alloc (.cells #[.int .i64 a,.int .i64 b,.int .i64 c,.int .i64 d] 83)).alloc (.cells #[.int .i64 0,.int .i64 0] 81)).drew.heap.size ((w.alloc (.cells #[.int .i64 a,.int .i64 b,.int .i64 c,.int .i64 d] 83)).alloc (.cells #[.int .i64 0,.int .i64 0] 81)).drew W' → Box w w.heap.size #[.int .i64 a,.int .i64 b,.int .i64 c,.int .i64 d] 83 W'):=fun W' h => (X.step ((Drw.refl _).drew.below _)).step h
 have HZ:Hid (∀ W',Below ((w.alloc (.cells #[.int .i64 a,.int .i64 b,.int .i64 c,.int .i64 d] 83)).alloc (.cells #[.int .i64 0,.int .i64 0] 81)).drew.heap.size ((w.alloc (.cells #[.int .i64 a,.int .i64 b,.int .i64 c,.int .i64 d] 83)).alloc (.cells #[.int .i64 0,.int .i64 0] 81)).drew W' → Box w (w.heap.size + 1) #[.int .i64 0,.int .i64 0] 81 W'):=fun W' h => (Z.step ((Drw.refl _).drew.below _)).step h
 have HXs:=Lib.hid (fun W' h u0 u1 => (HX.out W' h).other2 (b':=w.heap.size + 1) (by omega) (by omega) u0 u1)
 have hbk:=Below.refl ((w.alloc (.cells #[.int .i64 a,.int .i64 b,.int .i64 c,.int .i64 d] 83)).alloc (.cells #[.int .i64 0,.int .i64 0] 81)).drew.heap.size ((w.alloc (.cells #[.int .i64 a,.int .i64 b,.int .i64 c,.int .i64 d] 83)).alloc (.cells #[.int .i64 0,.int .i64 0] 81)).drew
 clear X Z l1 l2 l3 l4 hN hM h1 h2 h3 h4 h5 h6 h7 h8
 go_enter Vp.func96,Tryz.ntmps96
 go_upto_region 1 with fail
 generalize (w.alloc (.cells #[.int .i64 a,.int .i64 b,.int .i64 c,.int .i64 d] 83)).alloc (.cells #[.int .i64 0,.int .i64 0] 81)=W at *
 go_region_held3 (fun w' => w'.cell? ⟨w.heap.size,0,none⟩=some (.int .i64 a) ∧ w'.cell? ⟨w.heap.size,1,none⟩=some (.int .i64 b) ∧ w'.cell? ⟨w.heap.size,2,none⟩=some (.int .i64 c) ∧ w'.cell? ⟨w.heap.size,3,none⟩=some (.int .i64 d)) (((first | dsimp only | skip); first | (with_reducible exact ⟨(HX.out _ hbk).cell 0 _ rfl,(HX.out _ hbk).cell 1 _ rfl,(HX.out _ hbk).cell 2 _ rfl,(HX.out _ hbk).cell 3 _ rfl⟩) | (with_reducible exact ⟨(HXs.out _ hbk _ _).cell 0 _ rfl,(HXs.out _ hbk _ _).cell 1 _ rfl,(HXs.out _ hbk _ _).cell 2 _ rfl,(HXs.out _ hbk _ _).cell 3 _ rfl⟩))) (first
   | (go_at_call 94; (first | (with_reducible refine (HQ.out _).mono ?_) | (with_reducible refine (HR.out _).mono ?_)); rintro e w' ⟨rfl,hb⟩; replace hbk:=hbk.trans (hb.mono hbk.size); clear hb)
   | (go_at_call 95; (with_reducible refine (HP.out _).mono ?_); rintro e w' ⟨rfl,hb⟩; replace hbk:=hbk.trans (hb.mono hbk.size); clear hb; have z0:=(HZ.out _ hbk).cell 0 _ rfl; have z1:=(HZ.out _ hbk).cell 1 _ rfl; have g0:=(HZ.out _ hbk).frozen 0; have g1:=(HZ.out _ hbk).frozen 1))
 all_goals
   go_wp2
   exact bodyPost_ret (v:=.agg #[.int .i64 t1,.int .i64 t2]) (by simp [results,Tryz.f96,go_sem,z0,z1]) rfl ⟨rfl,set2 (HZ.out _ hbk).old (b:=w.heap.size + 1) (by omega) _ _⟩
end Go.Proofs.YthhfljldbfgpcaaGreatDoor
end

section
namespace Go.Proofs.YthhfljldbfgpcaaGreatDoor.Flo
open Go.RowKit Ieee
def Al (k:FloatKind) (x y:Nat):Prop:=x=y ∨ (nan k x=true ∧ nan k y=true)
theorem Al.refl (k:FloatKind) (x:Nat):Al k x x:=.inl rfl
theorem Al.symm {k:FloatKind} {x y:Nat} (h:Al k x y):Al k y x:=h.elim (fun h => .inl h.symm) (fun h => .inr ⟨h.2,h.1⟩)
theorem Al.nan_eq {k:FloatKind} {x y:Nat} (h:Al k x y):nan k x=nan k y:=by
 rcases h with rfl | ⟨h1,h2⟩
 · rfl
 · rw [h1,h2]
theorem Al.trans {k:FloatKind} {x y z:Nat} (h:Al k x y) (g:Al k y z):Al k x z:=by
 rcases h with rfl | ⟨h1,h2⟩
 · exact g
 · exact .inr ⟨h1,by rw [← g.nan_eq]; exact h2⟩
theorem Al.order {k:FloatKind} {x y x' y':Nat} (h:Al k x x') (g:Al k y y'):k.format.order x y=k.format.order x' y':=by
 rcases h with rfl | ⟨h1,h2⟩
 · rcases g with rfl | ⟨g1,g2⟩
   · rfl
   · rw [order_nan_right x g1,order_nan_right x g2]
 · rw [order_nan_left y h1,order_nan_left y' h2]
theorem floatBits_left {op:BinOp} {k:FloatKind} {x:Nat} (y:Nat) (h:nan k x=true):floatBits op k x y=none:=by
 unfold nan FloatKind.decode at h
 cases op <;> simp only [floatBits,Format.add,Format.sub,Format.mul,Format.div]
 all_goals cases hx:k.format.read x <;> simp_all [Datum.isNaN,Datum.sum,Datum.product,Datum.quotient]
theorem floatBits_right {op:BinOp} {k:FloatKind} {y:Nat} (x:Nat) (h:nan k y=true):floatBits op k x y=none:=by
 unfold nan FloatKind.decode at h
 cases op <;> simp only [floatBits,Format.add,Format.sub,Format.mul,Format.div]
 all_goals cases hy:k.format.read y <;> simp_all [Datum.isNaN]
 all_goals cases hx:k.format.read x <;> simp [Datum.opposite,Datum.sum,Datum.product,Datum.quotient]
def nanW:FloatKind → Nat
 | .f32 => 2143289344
 | .f64 => 9221120237041090560
theorem nanW_nan (k:FloatKind):nan k (nanW k)=true:=by cases k <;> decide
def opC (op:BinOp) (k:FloatKind) (x y:Nat):Nat:=(floatBits op k x y).getD (nanW k)
theorem opC_al {op:BinOp} {k:FloatKind} {x y x' y':Nat} (h:Al k x x') (g:Al k y y'):opC op k x y=opC op k x' y':=by
 rcases h with rfl | ⟨h1,h2⟩
 · rcases g with rfl | ⟨g1,g2⟩
   · rfl
   · unfold opC; rw [floatBits_right x g1,floatBits_right x g2]
 · unfold opC; rw [floatBits_left y h1,floatBits_left y' h2]
theorem cut_nan (k:FloatKind) (x y t:Nat):nan k ((Question.nanBits k x y).cut t)=true:=by
 cases k
 · exact nan_cut32 _
 · exact nan_cut64 _
theorem arith_al {P:Program} (op:BinOp) (hop:op=.add ∨ op=.sub ∨ op=.mul ∨ op=.quo) (t:TypeId) (k:FloatKind) (x y:Nat) (w:World) :
   ∃ z w',(binOp op t (.float k x) (.float k y)).run P w=.ok (.float k z) w' ∧ z < 2 ^ k.format.width ∧ Drw w w' ∧ Al k (opC op k x y) z:=by
 cases h:floatBits op k x y with
 | some r =>
   refine ⟨r,w,run_float_arith w op t k x y r h,?_,Drw.refl w,.inl ?_⟩
   · have:=floatBits_wf h
     cases k <;> simpa [Lit.wf,width32,width64] using this
   · unfold opC; rw [h]; rfl
 | none =>
   refine ⟨(Question.nanBits k x y).cut (w.tape w.drawn (Question.nanBits k x y)),w.drew,?_,?_,(Drw.refl w).drew,.inr ⟨?_,cut_nan _ _ _ _⟩⟩
   · unfold floatBits at h
     rcases hop with rfl | rfl | rfl | rfl <;> simp only at h <;> simp [binOp,Op.floatArith,h] <;> (intro hf; simp [Question.forced] at hf)
   · cases k
     · exact cut_lt32 _ _ _
     · exact cut_lt64 _ _ _
   · unfold opC; rw [h]; exact nanW_nan k
theorem opC_lt {op:BinOp} {k:FloatKind} {x y:Nat}:opC op k x y < 2 ^ k.format.width:=by
 unfold opC
 cases h:floatBits op k x y with
 | some r =>
   have:=floatBits_wf h
   cases k <;> simpa [Lit.wf,width32,width64] using this
 | none => cases k <;> decide
end Go.Proofs.YthhfljldbfgpcaaGreatDoor.Flo
end
