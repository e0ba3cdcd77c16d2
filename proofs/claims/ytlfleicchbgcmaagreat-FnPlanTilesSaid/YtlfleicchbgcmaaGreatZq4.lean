import Derived.Test.YtlfleicchbgcmaaGreatZq3
import Derived.Deep.RegionHeld3
import Derived.Test.YtlfleicchbgcmaaGreatZq0
import Derived.Test.YtlfleicchbgcmaaGreatZqK
set_option linter.all false
set_option maxHeartbeats 16000000
set_option maxRecDepth 100000
namespace Go.Proofs.YtlfleicchbgcmaaGreat
section
open Go.RowKit
theorem Lc {x:Bx}(h:x.ok=true):-32768<=x.coarse.a/\x.coarse.a<=32768 /\(-32768<=x.coarse.b/\x.coarse.b<=32768)/\-32768<=x.coarse.c/\x.coarse.c<=32768/\-32768<=x.coarse.d/\x.coarse.d<=32768:=by
 obtain⟨b1,b2,b3,b4,b5,b6⟩:=Bx.bd h;unfold Bx.coarse N0;dsimp only
 omega
theorem Pp (a b c d:Int)(hv:Bg a b c d=true)(w:World):Calls Vp.prog 94 #[.agg #[.int .i64 a,.int .i64 b,.int .i64 c,.int .i64 d]] w fun e w'=>e=.returned (Bx.coarse ⟨a,b,c,d⟩).val/\Below w.heap.size w w':=by
 have X0:A8 w w.heap.size #[.int .i64 a,.int .i64 b,.int .i64 c,.int .i64 d] 93 (((w.alloc (.cells #[.int .i64 a,.int .i64 b,.int .i64 c,.int .i64 d] 93)).alloc (.cells #[.int .i64 0,.int .i64 0,.int .i64 0,.int .i64 0] 93))):=(A8.new w _ _).alloc _
 have X1:A8 w (w.heap.size+1) #[.int .i64 0,.int .i64 0,.int .i64 0,.int .i64 0] 93 (((w.alloc (.cells #[.int .i64 a,.int .i64 b,.int .i64 c,.int .i64 d] 93)).alloc (.cells #[.int .i64 0,.int .i64 0,.int .i64 0,.int .i64 0] 93))):=by
  have:=(A8.new (w.alloc (.cells #[.int .i64 a,.int .i64 b,.int .i64 c,.int .i64 d] 93)) #[.int .i64 0,.int .i64 0,.int .i64 0,.int .i64 0] 93).up (w0:=w) ((Aik _ _).alloc (Ai3 _) _)
  rwa [Aim]at this
 have HF:Hid (∀W,Below w.heap.size w W->∀u0 u1 u2 u3,Below w.heap.size w ((((W.setCell ⟨w.heap.size+1,0,none⟩ u0).setCell ⟨w.heap.size+1,1,none⟩ u1).setCell ⟨w.heap.size+1,2,none⟩ u2).setCell ⟨w.heap.size+1,3,none⟩ u3)):=fun W h u0 u1 u2 u3 =>
  (((h.setCell (p:=⟨w.heap.size+1,0,none⟩) (by simp) _).setCell (p:=⟨w.heap.size+1,1,none⟩) (by simp) _).setCell (p:=⟨w.heap.size+1,2,none⟩) (by simp) _).setCell (p:=⟨w.heap.size+1,3,none⟩) (by simp) _
 obtain⟨b1,b2,b3,b4,b5,b6⟩:=Bx.bd (x:=⟨a,b,c,d⟩) hv;dsimp only at b1 b2 b3 b4 b5 b6;have HF1:=Ai1 (Hp a 4096 (by decide) (by omega) (by omega))
 have HF2:=Ai1 (Lj b 4096 (by decide) (by omega) (by omega))
 have HF3:=Ai1 (Hp c 4096 (by decide) (by omega) (by omega))
 have HF4:=Ai1 (Lj d 4096 (by decide) (by omega) (by omega))
 show Calls Vp.prog 94 #[.agg #[.int .i64 a,.int .i64 b,.int .i64 c,.int .i64 d]] w fun e w'=>e=.returned (.agg #[.int .i64 (a / 4096),.int .i64 (N0 b 4096),.int .i64 (c / 4096),.int .i64 (N0 d 4096)])/\Below w.heap.size w w'
 clear b1 b2 b3 b4 b5 b6 hv;generalize a / 4096=q1 at *;generalize N0 b 4096=q2 at *;generalize c / 4096=q3 at *;generalize N0 d 4096=q4 at *
 go_enter Vp.func94,Tryz.ntmps94
 go_upto_region 1 with fail
 have x0:=X0.cell 0 _ rfl;have x1:=X0.cell 1 _ rfl;have x2:=X0.cell 2 _ rfl;have x3:=X0.cell 3 _ rfl;have c0:=X1.cell 0 _ rfl;have c1:=X1.cell 1 _ rfl;have c2:=X1.cell 2 _ rfl;have c3:=X1.cell 3 _ rfl;have f0:=X1.frozen 0;have f1:=X1.frozen 1;have f2:=X1.frozen 2;have f3:=X1.frozen 3;have HB:=Ai1 X1.old;have HB2:=Ai1 (X1.step ((Aq.refl _).drew.below _)).old;clear X0 X1;generalize ((w.alloc (.cells #[.int .i64 a,.int .i64 b,.int .i64 c,.int .i64 d] 93)).alloc (.cells #[.int .i64 0,.int .i64 0,.int .i64 0,.int .i64 0] 93))=W at *
 go_region_held3 (fun w'=>w'.cell? ⟨w.heap.size,0,none⟩=some (.int .i64 a)/\w'.cell? ⟨w.heap.size,1,none⟩=some (.int .i64 b)/\w'.cell? ⟨w.heap.size,2,none⟩=some (.int .i64 c)/\w'.cell? ⟨w.heap.size,3,none⟩=some (.int .i64 d)) (go_keep) (first
  |(go_at_call 121;(first |(with_reducible refine(HF1.out _).mono ?_) |(with_reducible refine(HF3.out _).mono ?_));rintro e w' ⟨rfl,rfl⟩)
  |(go_at_call 122;(first |(with_reducible refine(HF2.out _).mono ?_) |(with_reducible refine(HF4.out _).mono ?_));rintro e w' ⟨rfl,rfl⟩))
 all_goals
  go_wp2
  first
   | exact Ai6 (v:=.agg #[.int .i64 q1,.int .i64 q2,.int .i64 q3,.int .i64 q4]) (by simp[results,Tryz.f94,go_sem,c0,c1,c2,c3]) rfl ⟨rfl,HF.out _ HB2.out _ _ _ _⟩
   | exact Ai6 (v:=.agg #[.int .i64 q1,.int .i64 q2,.int .i64 q3,.int .i64 q4]) (by simp[results,Tryz.f94,go_sem,c0,c1,c2,c3]) rfl ⟨rfl,(HF.out _ HB.out _ _ _ _).trans ((Aq.refl _).drew.below _)⟩
   | trace_state
theorem Xq (a b c d:Int)(hv:Bg a b c d=true)(w:World):Calls Vp.prog 70 #[.agg #[.int .i64 a,.int .i64 b,.int .i64 c,.int .i64 d]] w fun e w'=>e=.returned (.tuple #[.int .i64 (Ki ⟨a,b,c,d⟩),.bool true])/\Below w.heap.size w w':=by
 obtain⟨b1,b2,b3,b4⟩:=Lc (x:=⟨a,b,c,d⟩) hv;have hc:=Pp a b c d hv;have HC:Hid (∀w,Calls Vp.prog 94 #[.agg #[.int .i64 a,.int .i64 b,.int .i64 c,.int .i64 d]] w fun e w'=>e=.returned (.agg #[.int .i64 (Bx.coarse ⟨a,b,c,d⟩).a,.int .i64 (Bx.coarse ⟨a,b,c,d⟩).b,.int .i64 (Bx.coarse ⟨a,b,c,d⟩).c,.int .i64 (Bx.coarse ⟨a,b,c,d⟩).d])/\Below w.heap.size w w'):=hc
 clear hc;have HX:Hid (Ki ⟨a,b,c,d⟩=Bs ((Bx.coarse ⟨a,b,c,d⟩).a+4096) ((Bx.coarse ⟨a,b,c,d⟩).b+4096)+Bs (Bx.coarse ⟨a,b,c,d⟩).c (Bx.coarse ⟨a,b,c,d⟩).d-1048576):=rfl;generalize Ki ⟨a,b,c,d⟩=R at *;generalize (Bx.coarse ⟨a,b,c,d⟩).a=p at *;generalize (Bx.coarse ⟨a,b,c,d⟩).b=q at *;generalize (Bx.coarse ⟨a,b,c,d⟩).c=r at *;generalize (Bx.coarse ⟨a,b,c,d⟩).d=s at *;have l3:=Dd (l:=p+4096) (h:=q+4096) (k:=40000) (by omega) (by omega) (by omega) (by omega)
 have l4:=Dd (l:=r) (h:=s) (k:=40000) (by omega) (by omega) (by omega) (by omega)
 obtain⟨P,k1,e1⟩:∃x,wrap64 (p+4096)=x/\p+4096=x:=⟨_,Fw (by omega) (by omega),rfl⟩
 obtain⟨Q,k2,e2⟩:∃x,wrap64 (q+4096)=x/\q+4096=x:=⟨_,Fw (by omega) (by omega),rfl⟩
 have HQ:=Ai1 (Dk P Q (by omega) (by omega) (by omega) (by omega))
 have HR:=Ai1 (Dk r s (by omega) (by omega) (by omega) (by omega))
 have h:=HX.out;rw[e1,e2]at h l3;generalize Bs P Q=s2 at *;generalize Bs r s=s4 at *;generalize Ct P Q=s1 at *;generalize Ct r s=s3 at *;obtain⟨S,k3,e3⟩:∃x,wrap64 (s2+s4)=x/\s2+s4=x:=⟨_,Fw (by omega) (by omega),rfl⟩
 rw[e3]at h;have k4:wrap64 (S-1048576)=R:=by rw[h];exact Fw (by omega) (by omega)
 clear HX h l3 l4 e1 e2 e3 b1 b2 b3 b4;have X:=A8.new w #[.int .i64 a,.int .i64 b,.int .i64 c,.int .i64 d] 93
 go_enter Vp.func70,Tryz.ntmps70
 go_wp2_with fail
 refine(Cb a b c d _).mono ?_
 rintro e w1 ⟨rfl,hb⟩;replace X:=X.step hb;clear hb;have x0:=X.cell 0 _ rfl;have x1:=X.cell 1 _ rfl;have x2:=X.cell 2 _ rfl;have x3:=X.cell 3 _ rfl;rw[hv]
 go_wp2_with fail
 refine(HC.out _).mono ?_
 rintro e w2 ⟨rfl,hb⟩;replace X:=X.step hb;clear hb x0 x1 x2 x3;have Y:=(A8.new w2 #[.int .i64 p,.int .i64 q,.int .i64 r,.int .i64 s] 93).up X.old;have y0:=Y.cell 0 _ rfl;have y1:=Y.cell 1 _ rfl;have y2:=Y.cell 2 _ rfl;have y3:=Y.cell 3 _ rfl;have HB:=Ai1 Y.old;clear X Y
 go_wp2_with fail
 refine(HQ.out _).mono ?_
 rintro e w3 ⟨rfl,rfl⟩
 go_wp2_with fail
 refine(HR.out _).mono ?_
 rintro e w3 ⟨rfl,rfl⟩
 go_wp2
 all_goals
  exact Ai6 (v:=.tuple #[.int .i64 R,.bool true]) (by simp[results,Tryz.f70,go_sem,k1,k2,k3,k4]) rfl ⟨rfl,HB.out⟩
theorem Oh (a b c d:Int)(hv:Bg a b c d=true)(w:World):Calls Vp.prog 69 #[.agg #[.int .i64 a,.int .i64 b,.int .i64 c,.int .i64 d]] w fun e w'=>e=.returned (.tuple #[.int .i64 (Ke ⟨a,b,c,d⟩),.bool true])/\Below w.heap.size w w':=by
 obtain⟨b1,b2,b3,b4⟩:=Lc (x:=⟨a,b,c,d⟩) hv;have hc:=Pp a b c d hv;have HC:Hid (∀w,Calls Vp.prog 94 #[.agg #[.int .i64 a,.int .i64 b,.int .i64 c,.int .i64 d]] w fun e w'=>e=.returned (.agg #[.int .i64 (Bx.coarse ⟨a,b,c,d⟩).a,.int .i64 (Bx.coarse ⟨a,b,c,d⟩).b,.int .i64 (Bx.coarse ⟨a,b,c,d⟩).c,.int .i64 (Bx.coarse ⟨a,b,c,d⟩).d])/\Below w.heap.size w w'):=hc
 clear hc;have HX:Hid (Ke ⟨a,b,c,d⟩=(if Mb ⟨a,b,c,d⟩<0 then Ct ((Bx.coarse ⟨a,b,c,d⟩).a-1024) ((Bx.coarse ⟨a,b,c,d⟩).b-1024)+Ct (Bx.coarse ⟨a,b,c,d⟩).c (Bx.coarse ⟨a,b,c,d⟩).d else Bs ((Bx.coarse ⟨a,b,c,d⟩).a-1024) ((Bx.coarse ⟨a,b,c,d⟩).b-1024)+Bs (Bx.coarse ⟨a,b,c,d⟩).c (Bx.coarse ⟨a,b,c,d⟩).d)*Mb ⟨a,b,c,d⟩-Ct (Bx.coarse ⟨a,b,c,d⟩).c (Bx.coarse ⟨a,b,c,d⟩).d*4194304):=rfl
 have HG:Hid (Mb ⟨a,b,c,d⟩=Bs ((Bx.coarse ⟨a,b,c,d⟩).a-1024) ((Bx.coarse ⟨a,b,c,d⟩).b-1024)+Bs (Bx.coarse ⟨a,b,c,d⟩).c (Bx.coarse ⟨a,b,c,d⟩).d +((Bx.coarse ⟨a,b,c,d⟩).b-1024)*4096):=rfl;generalize Ke ⟨a,b,c,d⟩=R at *;generalize Mb ⟨a,b,c,d⟩=G at *;generalize (Bx.coarse ⟨a,b,c,d⟩).a=p at *;generalize (Bx.coarse ⟨a,b,c,d⟩).b=q at *;generalize (Bx.coarse ⟨a,b,c,d⟩).c=r at *;generalize (Bx.coarse ⟨a,b,c,d⟩).d=s at *;have l1:=Ew (l:=p-1024) (h:=q-1024) (k:=33792) (by omega) (by omega)
 have l2:=Ew (l:=r) (h:=s) (k:=33792) (by omega) (by omega)
 have l3:=Dd (l:=p-1024) (h:=q-1024) (k:=33792) (by omega) (by omega) (by omega) (by omega)
 have l4:=Dd (l:=r) (h:=s) (k:=33792) (by omega) (by omega) (by omega) (by omega)
 obtain⟨P,k1,e1⟩:∃x,wrap64 (p-1024)=x/\p-1024=x:=⟨_,Fw (by omega) (by omega),rfl⟩
 obtain⟨Q,k2,e2⟩:∃x,wrap64 (q-1024)=x/\q-1024=x:=⟨_,Fw (by omega) (by omega),rfl⟩
 have HQ:=Ai1 (Dk P Q (by omega) (by omega) (by omega) (by omega))
 have HR:=Ai1 (Dk r s (by omega) (by omega) (by omega) (by omega))
 have h:=HX.out;have g:=HG.out;rw[e1,e2]at h g l3 l1;generalize Bs P Q=s2 at *;generalize Bs r s=s4 at *;generalize Ct P Q=s1 at *;generalize Ct r s=s3 at *;obtain⟨S,k3,e3⟩:∃x,wrap64 (s2+s4)=x/\s2+s4=x:=⟨_,Fw (by omega) (by omega),rfl⟩
 obtain⟨S0,k4,e4⟩:∃x,wrap64 (s1+s3)=x/\s1+s3=x:=⟨_,Fw (by omega) (by omega),rfl⟩
 obtain⟨K,k5,e5⟩:∃x,wrap64 (Q*4096)=x/\Q*4096=x:=⟨_,Fw (by omega) (by omega),rfl⟩
 rw[e3,e4]at h;rw[e3,e5]at g;have k6:wrap64 (S+K)=G:=by rw[g];exact Fw (by omega) (by omega)
 have k7:wrap64 (s3*4194304)=s3*4194304:=Fw (by omega) (by omega)
 have bS:0<=S/\S<=2283798528:=by omega
 have bS0:0<=S0/\S0<=2283798528:=by omega
 have bG:-2283798528<=G/\G<=2500000000:=by omega
 have ym:∀x:Int,0<=x->x<=2283798528->-5800000000000000000<=x*G/\x*G<=5800000000000000000:=fun x h0 h1=>by
  rcases Ale 0 G with hg|hg
  ·have:=Ak0 h0 hg;have:=Am6 h1 bG.2 hg (by omega)
   omega
  ·have h2:=Ak0 h0 (show 0<=-G by omega)
   have h3:=Am6 h1 (show -G<=2283798528 by omega) (by omega) (by omega)
   rw[Int.mul_neg]at h2 h3
   omega
 have y1:=ym S bS.1 bS.2;have y2:=ym S0 bS0.1 bS0.2;obtain⟨T,k8,e8⟩:∃x,wrap64 (s3*4194304)=x/\s3*4194304=x:=⟨_,k7,rfl⟩;rw[e8]at h;obtain⟨M,k9,e9⟩:∃x,wrap64 (S*G)=x/\S*G=x:=⟨_,Fw (by omega) (by omega),rfl⟩
 obtain⟨M0,k10,e10⟩:∃x,wrap64 (S0*G)=x/\S0*G=x:=⟨_,Fw (by omega) (by omega),rfl⟩
 have k11:¬G<0->wrap64 (M-T)=R:=fun hg=>by rw[h,Aid hg,e9];exact Fw (by omega) (by omega)
 have k12:G<0->wrap64 (M0-T)=R:=fun hg=>by rw[h,Aij hg,e10];exact Fw (by omega) (by omega)
 have HW11:=Ai1 k11;have HW12:=Ai1 k12;clear HX HG h g l1 l2 l3 l4 e1 e2 e3 e4 e5 e8 e9 e10 b1 b2 b3 b4 y1 y2 ym bS bS0 bG k7 k11 k12;have X:=A8.new w #[.int .i64 a,.int .i64 b,.int .i64 c,.int .i64 d] 93
 go_enter Vp.func69,Tryz.ntmps69
 go_wp2_with fail
 refine(Cb a b c d _).mono ?_
 rintro e w1 ⟨rfl,hb⟩;replace X:=X.step hb;clear hb;have x0:=X.cell 0 _ rfl;have x1:=X.cell 1 _ rfl;have x2:=X.cell 2 _ rfl;have x3:=X.cell 3 _ rfl;rw[hv]
 go_wp2_with fail
 refine(HC.out _).mono ?_
 rintro e w2 ⟨rfl,hb⟩;replace X:=X.step hb;clear hb x0 x1 x2 x3;have Y:=(A8.new w2 #[.int .i64 p,.int .i64 q,.int .i64 r,.int .i64 s] 93).up X.old;have y0:=Y.cell 0 _ rfl;have y1:=Y.cell 1 _ rfl;have y2:=Y.cell 2 _ rfl;have y3:=Y.cell 3 _ rfl;have HB:=Ai1 Y.old;clear X Y
 go_wp2_with fail
 refine(HQ.out _).mono ?_
 rintro e w3 ⟨rfl,rfl⟩
 go_wp2_with fail
 refine(HR.out _).mono ?_
 rintro e w3 ⟨rfl,rfl⟩
 by_cases hg:G<0
 ·have k13:=HW12.out (by omega)
  go_wp2
  exact Ai6 (v:=.tuple #[.int .i64 R,.bool true]) (by simp[results,Tryz.f69,go_sem,k1,k2,k3,k4,k5,k6,k8,k9,k10,k13]) rfl ⟨rfl,HB.out⟩
 ·have k13:=HW11.out (by omega)
  go_wp2
  exact Ai6 (v:=.tuple #[.int .i64 R,.bool true]) (by simp[results,Tryz.f69,go_sem,k1,k2,k3,k4,k5,k6,k8,k9,k10,k13]) rfl ⟨rfl,HB.out⟩
end
section
open Go.RowKit
theorem A28 (w:World)(C0:Array Value)(T0:TypeId)(C1:Array Value)(T1:TypeId):A8 w w.heap.size C0 T0 ((w.alloc (.cells C0 T0)).alloc (.cells C1 T1))/\A8 w (w.heap.size+1) C1 T1 ((w.alloc (.cells C0 T0)).alloc (.cells C1 T1)):=by
 refine⟨(A8.new w C0 T0).alloc _,?_⟩
 have:=(A8.new (w.alloc (.cells C0 T0)) C1 T1).up (w0:=w) ((Aik _ _).alloc (Ai3 _) _)
 rwa [Aim]at this
theorem Tm (w:World)(C0:Array Value)(T0:TypeId)(C1:Array Value)(T1:TypeId)(C2:Array Value)(T2:TypeId):A8 w w.heap.size C0 T0 (((w.alloc (.cells C0 T0)).alloc (.cells C1 T1)).alloc (.cells C2 T2)) /\
 A8 w (w.heap.size+1) C1 T1 (((w.alloc (.cells C0 T0)).alloc (.cells C1 T1)).alloc (.cells C2 T2))/\A8 w (w.heap.size+1+1) C2 T2 (((w.alloc (.cells C0 T0)).alloc (.cells C1 T1)).alloc (.cells C2 T2)):=by
 obtain⟨h1,h2⟩:=A28 w C0 T0 C1 T1
 refine⟨h1.alloc _,h2.alloc _,?_⟩
 have:=(A8.new ((w.alloc (.cells C0 T0)).alloc (.cells C1 T1)) C2 T2).up (w0:=w) h1.old
 rwa [Aim,Aim]at this
theorem A2m (w:World)(o0 o1:Obj):Below w.heap.size w ((w.alloc o0).alloc o1):=((Aik _ w).alloc (Ai3 _) _).alloc (by simp) _
theorem A2n (w:World)(o0 o1 o2:Obj):Below w.heap.size w (((w.alloc o0).alloc o1).alloc o2):=(A2m w o0 o1).alloc (by simp;omega) _
theorem Sx {w W:World}(h:Below w.heap.size w W){b:Nat}(hb:w.heap.size<=b)(u0 u1:Value):Below w.heap.size w ((W.setCell ⟨b,0,none⟩ u0).setCell ⟨b,1,none⟩ u1) :=
 (h.setCell (p:=⟨b,0,none⟩) hb u0).setCell (p:=⟨b,1,none⟩) hb u1
theorem Wn (a b c d:Int)(h1:-1000000000000000000<=a)(h2:a<=1000000000000000000)(h3:-1000000000000000000<=b)(h4:b<=1000000000000000000)(h5:-1000000000000000000<=c)(h6:c<=1000000000000000000)(h7:-1000000000000000000<=d)(h8:d<=1000000000000000000)(w:World) :
 Calls Vp.prog 105 #[.agg #[.int .i64 a,.int .i64 b],.agg #[.int .i64 c,.int .i64 d]] w fun e w'=>e=.returned (.agg #[.int .i64 (a-d),.int .i64 (b-c)])/\Below w.heap.size w w':=by
 obtain⟨X,Y,Z⟩:=Tm w #[.int .i64 a,.int .i64 b] 156 #[.int .i64 c,.int .i64 d] 156 #[.int .i64 0,.int .i64 0] 156;obtain⟨p,e1,f1⟩:∃x,wrap64 (a-d)=x/\a-d=x:=⟨_,Fw (by omega) (by omega),rfl⟩
 obtain⟨q,e2,f2⟩:∃x,wrap64 (b-c)=x/\b-c=x:=⟨_,Fw (by omega) (by omega),rfl⟩
 rw[f1,f2];have x0:=X.cell 0 _ rfl;have x1:=X.cell 1 _ rfl;have y0:=Y.cell 0 _ rfl;have y1:=Y.cell 1 _ rfl;have z0:=Z.cell 0 _ rfl;have z1:=Z.cell 1 _ rfl;have g0:=Z.frozen 0;have g1:=Z.frozen 1;have HB:=Ai1 (fun u0 u1=>Sx X.old (b:=w.heap.size+1+1) (by omega) u0 u1)
 clear X Y Z h1 h2 h3 h4 h5 h6 h7 h8 f1 f2
 go_enter Vp.func105,Tryz.ntmps105
 go_wp2
 exact Ai6 (v:=.agg #[.int .i64 p,.int .i64 q]) (by simp[results,Tryz.f105,go_sem,e1,e2]) rfl ⟨rfl,A2n _ _ _ _⟩
theorem Hc (a b c d:Int)(h1:-1000000000000000000<=a)(h2:a<=1000000000000000000)(h3:-1000000000000000000<=b)(h4:b<=1000000000000000000)(h5:-1000000000000000000<=c)(h6:c<=1000000000000000000)(h7:-1000000000000000000<=d)(h8:d<=1000000000000000000)(w:World) :
 Calls Vp.prog 107 #[.agg #[.int .i64 a,.int .i64 b],.agg #[.int .i64 c,.int .i64 d]] w fun e w'=>e=.returned (.agg #[.int .i64 (a+c),.int .i64 (b+d)])/\Below w.heap.size w w':=by
 obtain⟨X,Y,Z⟩:=Tm w #[.int .i64 a,.int .i64 b] 156 #[.int .i64 c,.int .i64 d] 156 #[.int .i64 0,.int .i64 0] 156;obtain⟨p,e1,f1⟩:∃x,wrap64 (a+c)=x/\a+c=x:=⟨_,Fw (by omega) (by omega),rfl⟩
 obtain⟨q,e2,f2⟩:∃x,wrap64 (b+d)=x/\b+d=x:=⟨_,Fw (by omega) (by omega),rfl⟩
 rw[f1,f2];have x0:=X.cell 0 _ rfl;have x1:=X.cell 1 _ rfl;have y0:=Y.cell 0 _ rfl;have y1:=Y.cell 1 _ rfl;have z0:=Z.cell 0 _ rfl;have z1:=Z.cell 1 _ rfl;have g0:=Z.frozen 0;have g1:=Z.frozen 1;have HB:=Ai1 (fun u0 u1=>Sx X.old (b:=w.heap.size+1+1) (by omega) u0 u1)
 clear X Y Z h1 h2 h3 h4 h5 h6 h7 h8 f1 f2
 go_enter Vp.func107,Tryz.ntmps107
 go_wp2
 exact Ai6 (v:=.agg #[.int .i64 p,.int .i64 q]) (by simp[results,Tryz.f107,go_sem,e1,e2]) rfl ⟨rfl,A2n _ _ _ _⟩
theorem Fb (a b:Int)(h1:-1000000000<=a)(h2:a<=1000000000)(h3:-1000000000<=b)(h4:b<=1000000000)(w:World) :
 Calls Vp.prog 106 #[.agg #[.int .i64 a,.int .i64 b]] w fun e w'=>e=.returned (.agg #[.int .i64 (Ct a b),.int .i64 (Bs a b)])/\Below w.heap.size w w':=by
 obtain⟨X,Z⟩:=A28 w #[.int .i64 a,.int .i64 b] 156 #[.int .i64 0,.int .i64 0] 156;have a1:=Px a;have a2:=Tc h1 h2;have b1:=Px b;have b2:=Tc h3 h4;obtain⟨p,hp,hpv⟩:∃p,wrap64 (a*a)=p/\p=a*a:=⟨_,rfl,Fw (by omega) (by omega)⟩
 obtain⟨q,hq,hqv⟩:∃q,wrap64 (b*b)=q/\q=b*b:=⟨_,rfl,Fw (by omega) (by omega)⟩
 have HV:Hid (Ct a b=(if a<=0/\0<=b then 0 else min p q)/\Bs a b=max p q):=by rw[hpv,hqv];exact⟨rfl,rfl⟩
 clear a1 a2 b1 b2 h1 h2 h3 h4 hpv hqv;generalize Ct a b=r at *;generalize Bs a b=s at *;obtain⟨m,hm⟩:∃m,(if q<p then q else p)=m:=⟨_,rfl⟩
 obtain⟨n,hn⟩:∃n,(if p<q then q else p)=n:=⟨_,rfl⟩
 have HM:Hid (m=min p q):=by show m=_;rw[<-hm];split<;>omega
 have HN:Hid (n=max p q):=by show n=_;rw[<-hn];split<;>omega
 have x0:=X.cell 0 _ rfl;have x1:=X.cell 1 _ rfl;have z0:=Z.cell 0 _ rfl;have z1:=Z.cell 1 _ rfl;have g0:=Z.frozen 0;have g1:=Z.frozen 1;have HX:=Ai1 X;have HZ:=Ai1 Z;clear X Z
 by_cases h0:a<=0
 ·by_cases h1:0<=b
  ·have h:=HV.out;rw[Aij ⟨h0,h1⟩,<-HN.out]at h;rw[h.1,h.2];clear HV HM HN h
   go_enter Vp.func106,Tryz.ntmps106
   go_upto_region 1 with fail
   go_quiet (fail)
   clear x0 x1 z0 z1 g0 g1;have X:=HX.out.step (((Aq.refl _).drewN nq).below _);have Z:=HZ.out.step (((Aq.refl _).drewN nq).below _);have x0:=X.cell 0 _ rfl;have x1:=X.cell 1 _ rfl;have z0:=Z.cell 0 _ rfl;have z1:=Z.cell 1 _ rfl;have g0:=Z.frozen 0;have g1:=Z.frozen 1;have HB:=Ai1 (fun u0 u1=>Sx X.old (b:=w.heap.size+1) (by omega) u0 u1)
   clear X Z
   go_wp2
   all_goals
    exact Ai6 (v:=.agg #[.int .i64 0,.int .i64 n]) (by simp[results,Tryz.f106,go_sem,z0,z1]) rfl ⟨rfl,HB.out _ _⟩
  ·have h:=HV.out;rw[Aid (by omega),<-HN.out,<-HM.out]at h
   rw[h.1,h.2];clear HV HM HN h
   go_enter Vp.func106,Tryz.ntmps106
   go_upto_region 1 with fail
   go_quiet (fail)
   clear x0 x1 z0 z1 g0 g1;have X:=HX.out.step (((Aq.refl _).drewN nq).below _);have Z:=HZ.out.step (((Aq.refl _).drewN nq).below _);have x0:=X.cell 0 _ rfl;have x1:=X.cell 1 _ rfl;have z0:=Z.cell 0 _ rfl;have z1:=Z.cell 1 _ rfl;have g0:=Z.frozen 0;have g1:=Z.frozen 1;have HB:=Ai1 (fun u0 u1=>Sx X.old (b:=w.heap.size+1) (by omega) u0 u1)
   clear X Z
   go_wp2
   all_goals
    exact Ai6 (v:=.agg #[.int .i64 m,.int .i64 n]) (by simp[results,Tryz.f106,go_sem,z0,z1]) rfl ⟨rfl,HB.out _ _⟩
 ·have h:=HV.out;rw[Aid (by omega),<-HN.out,<-HM.out]at h
  rw[h.1,h.2];clear HV HM HN h
  go_enter Vp.func106,Tryz.ntmps106
  go_upto_region 1 with fail
  go_quiet (fail)
  clear x0 x1 z0 z1 g0 g1;have X:=HX.out.step (((Aq.refl _).drewN nq).below _);have Z:=HZ.out.step (((Aq.refl _).drewN nq).below _);have x0:=X.cell 0 _ rfl;have x1:=X.cell 1 _ rfl;have z0:=Z.cell 0 _ rfl;have z1:=Z.cell 1 _ rfl;have g0:=Z.frozen 0;have g1:=Z.frozen 1;have HB:=Ai1 (fun u0 u1=>Sx X.old (b:=w.heap.size+1) (by omega) u0 u1)
  clear X Z
  go_wp2
  all_goals
   exact Ai6 (v:=.agg #[.int .i64 m,.int .i64 n]) (by simp[results,Tryz.f106,go_sem,z0,z1]) rfl ⟨rfl,HB.out _ _⟩
theorem Yl {P:Program}{w:World}(ts:Array TypeId)(t:TypeId)(k k1 k2 k3:IntKind)(x y z u:Int):(Builtin.min_ ts t #[.int k x,.int k1 y,.int k2 z,.int k3 u]).run P w=.ok (.int k (if u <(if z <(if y<x then y else x)then z else(if y<x then y else x))then u else(if z <(if y<x then y else x)then z else(if y<x then y else x)))) w:=by
 simp[Builtin.min_,Builtin.min2,List.foldlM]
theorem Yk {P:Program}{w:World}(ts:Array TypeId)(t:TypeId)(k k1 k2 k3:IntKind)(x y z u:Int):(Builtin.max_ ts t #[.int k x,.int k1 y,.int k2 z,.int k3 u]).run P w=.ok (.int k (if(if(if x<y then y else x)<z then z else(if x<y then y else x))<u then u else(if(if x<y then y else x)<z then z else(if x<y then y else x)))) w:=by
 simp[Builtin.max_,Builtin.max2,List.foldlM]
attribute [local go_sem] Yl Yk
theorem wrap_mul {a b k:Int}(h:-(k*k)<=a*b/\a*b<=k*k)(hk:k*k<=9223372036854775807):∃p,wrap64 (a*b)=p/\a*b=p:=⟨_,Fw (by omega) (by omega),rfl⟩
theorem A3v (a b c d:Int)(h1:-1000000000<=a)(h2:a<=1000000000)(h3:-1000000000<=b)(h4:b<=1000000000)(h5:-1000000000<=c)(h6:c<=1000000000)(h7:-1000000000<=d)(h8:d<=1000000000)(w:World) :
 Calls Vp.prog 142 #[.agg #[.int .i64 a,.int .i64 b],.agg #[.int .i64 c,.int .i64 d]] w fun e w'=>e=.returned (.agg #[.int .i64 (mLo ⟨a,b,c,d⟩),.int .i64 (mHi ⟨a,b,c,d⟩)])/\Below w.heap.size w w':=by
 obtain⟨X,Y,Z⟩:=Tm w #[.int .i64 a,.int .i64 b] 156 #[.int .i64 c,.int .i64 d] 156 #[.int .i64 0,.int .i64 0] 156;obtain⟨p,hp,ep⟩:=wrap_mul (Gn (x:=a) (y:=c) (k:=1000000000) h1 h2 h5 h6) (by decide)
 obtain⟨q,hq,eq⟩:=wrap_mul (Gn (x:=a) (y:=d) (k:=1000000000) h1 h2 h7 h8) (by decide)
 obtain⟨r,hr,er⟩:=wrap_mul (Gn (x:=b) (y:=c) (k:=1000000000) h3 h4 h5 h6) (by decide)
 obtain⟨t,ht,et⟩:=wrap_mul (Gn (x:=b) (y:=d) (k:=1000000000) h3 h4 h7 h8) (by decide)
 obtain⟨m1,g1,v1⟩:∃m,(if q<p then q else p)=m/\m=min p q:=⟨_,rfl,by split<;>omega⟩
 obtain⟨m2,g2,v2⟩:∃m,(if r<m1 then r else m1)=m/\m=min m1 r:=⟨_,rfl,by split<;>omega⟩
 obtain⟨m3,g3,v3⟩:∃m,(if t<m2 then t else m2)=m/\m=min m2 t:=⟨_,rfl,by split<;>omega⟩
 obtain⟨n1,k1,z1⟩:∃m,(if p<q then q else p)=m/\m=max p q:=⟨_,rfl,by split<;>omega⟩
 obtain⟨n2,k2,z2⟩:∃m,(if n1<r then r else n1)=m/\m=max n1 r:=⟨_,rfl,by split<;>omega⟩
 obtain⟨n3,k3,z3⟩:∃m,(if n2<t then t else n2)=m/\m=max n2 t:=⟨_,rfl,by split<;>omega⟩
 have vm:mLo ⟨a,b,c,d⟩=m3:=by unfold mLo;dsimp only;rw[ep,eq,er,et];omega
 have vn:mHi ⟨a,b,c,d⟩=n3:=by unfold mHi;dsimp only;rw[ep,eq,er,et];omega
 rw[vm,vn];have x0:=X.cell 0 _ rfl;have x1:=X.cell 1 _ rfl;have y0:=Y.cell 0 _ rfl;have y1:=Y.cell 1 _ rfl;have z0:=Z.cell 0 _ rfl;have z1':=Z.cell 1 _ rfl;have f0:=Z.frozen 0;have f1:=Z.frozen 1;have HX:=Ai1 X;have HY:=Ai1 Y;have HZ:=Ai1 Z;clear X Y Z h1 h2 h3 h4 h5 h6 h7 h8 ep eq er et v1 v2 v3 z1 z2 z3 vm vn
 go_enter Vp.func142,Tryz.ntmps142
 go_upto_region 1 with fail
 go_quiet (fail)
 clear x0 x1 y0 y1 z0 z1' f0 f1;have X:=HX.out.step (((Aq.refl _).drewN nq).below _);have Y:=HY.out.step (((Aq.refl _).drewN nq).below _);have Z:=HZ.out.step (((Aq.refl _).drewN nq).below _);have HX:=Ai1 X;have HZ:=Ai1 Z;have x0:=X.cell 0 _ rfl;have x1:=X.cell 1 _ rfl;have y0:=Y.cell 0 _ rfl;have y1:=Y.cell 1 _ rfl;clear X Y Z
 go_upto_region 2 with fail
 go_quiet (fail)
 clear x0 x1 y0 y1;have X:=HX.out.step (((Aq.refl _).drewN nq).below _);have Z:=HZ.out.step (((Aq.refl _).drewN nq).below _);have z0:=Z.cell 0 _ rfl;have z1':=Z.cell 1 _ rfl;have f0:=Z.frozen 0;have f1:=Z.frozen 1;have HB:=Ai1 (fun u0 u1=>Sx X.old (b:=w.heap.size+1+1) (by omega) u0 u1)
 clear X Z
 go_wp2
 all_goals
  exact Ai6 (v:=.agg #[.int .i64 m3,.int .i64 n3]) (by simp[results,Tryz.f142,go_sem]) rfl ⟨rfl,Sx ((A2n _ _ _ _).trans (((Aq.refl _).drewN _).below _)) (b:=w.heap.size+1+1) (by omega) _ _⟩
def Yq (l h:Int):Bool:=decide (-134217728<=l) && decide (l<=h) && decide (h<=134217728)
theorem Tb (a b:Int)(w:World):Calls Vp.prog 141 #[.agg #[.int .i64 a,.int .i64 b]] w fun e w'=>e=.returned (.bool (Yq a b))/\Below w.heap.size w w':=by
 have X:=A8.new w #[.int .i64 a,.int .i64 b] 156;have x0:=X.cell 0 _ rfl;have x1:=X.cell 1 _ rfl;have HB:=Ai1 X.old;clear X;unfold Yq
 by_cases h1:-134217728<=a
 ·by_cases h2:a<=b
  ·by_cases h3:b<=134217728
   ·rw[Aip h1,Aip h2,Aip h3]
    go_enter Vp.func141,Tryz.ntmps141
    go_wp2
    go_ret
    exact⟨rfl,HB.out⟩
   ·rw[Aip h1,Aip h2,Aj0 h3]
    go_enter Vp.func141,Tryz.ntmps141
    go_wp2
    go_ret
    exact⟨rfl,HB.out⟩
  ·rw[Aip h1,Aj0 h2]
   go_enter Vp.func141,Tryz.ntmps141
   go_wp2
   go_ret
   exact⟨rfl,HB.out⟩
 ·rw[Aj0 h1]
  go_enter Vp.func141,Tryz.ntmps141
  go_wp2
  go_ret
  exact⟨rfl,HB.out⟩
theorem Nz (a b:Int)(k:Nat)(hk:k<=30)(h1:-4611686018427387904<=a)(h2:a<=4611686018427387904)(h3:-4611686018427387904<=b)(h4:b<=4611686018427387904)(w:World) :
 Calls Vp.prog 128 #[.agg #[.int .i64 a,.int .i64 b],.int .i64 k] w fun e w'=>e=.returned (.agg #[.int .i64 (a / (2^k:Nat)),.int .i64 (N0 b (2^k:Nat))])/\Below w.heap.size w w':=by
 obtain⟨X,Z⟩:=A28 w #[.int .i64 a,.int .i64 b] 156 #[.int .i64 0,.int .i64 0] 156;have x0:=X.cell 0 _ rfl;have x1:=X.cell 1 _ rfl;have z0:=Z.cell 0 _ rfl;have z1:=Z.cell 1 _ rfl;have f0:=Z.frozen 0;have f1:=Z.frozen 1
 have hq:-4611686018427387904 <=(-b) / (2^k:Nat) /\(-b) / (2^k:Nat)<=4611686018427387904:=by
  have hb:(0:Int) <(2^k:Nat):=by have:=Aib k;omega
  constructor
  ·apply Int.le_ediv_of_mul_le hb
   have:-4611686018427387904 *((2^k:Nat):Int)<=-4611686018427387904*1:=Int.mul_le_mul_of_nonpos_left (by omega) (by omega)
   omega
  ·apply Int.ediv_le_of_le_mul hb
   have:4611686018427387904*1<=4611686018427387904 *((2^k:Nat):Int):=Int.mul_le_mul_of_nonneg_left (by omega) (by omega)
   omega
 have e2:wrap64 (-((-b) / (2^k:Nat)))=N0 b (2^k:Nat):=Fw (by omega) (by omega)
 obtain⟨q1,e1⟩:∃q,a / (2^k:Nat)=q:=⟨_,rfl⟩;obtain⟨q2,e3⟩:∃q,N0 b (2^k:Nat)=q:=⟨_,rfl⟩;rw[e1,e3];rw[e3]at e2
 have HE:Hid (a / 2^k=q1/\wrap64 (-(-b / 2^k))=q2):=by
  have hp:((2^k:Nat):Int)=2^k:=by simp
  rw[hp]at e1 e2
  exact⟨e1,e2⟩
 clear X Z e1 e2 e3 hq
 go_enter Vp.func128,Tryz.ntmps128
 go_upto_region 1 with fail
 go_region
 go_wp2
 exact Ai6 (v:=.agg #[.int .i64 q1,.int .i64 q2]) (by simp[results,Tryz.f128,go_sem,HE.out.1,HE.out.2]) rfl ⟨rfl,(A2m _ _ _).trans ((Aq.refl _).drew.below _)⟩
end
section
open Go.RowKit
theorem Ae7 (a b c d:Int):Bg a b c d=(Yq a b && Yq c d):=by
 unfold Bg Yq Gf;rw[Amh];simp only[Aia,Aiv]
 omega
theorem A8.Ej {w0 W:World}{b:Nat}{C:Array Value}{T:TypeId}(h:A8 w0 b C T W){b':Nat}(hb:w0.heap.size<=b')(hne:b≠b')(u0 u1:Value):A8 w0 b C T ((W.setCell ⟨b',0,none⟩ u0).setCell ⟨b',1,none⟩ u1) :=
 (h.other (p:=⟨b',0,none⟩) hb hne u0).other (p:=⟨b',1,none⟩) hb hne u1
theorem A8.G7 {w0 W:World}{b:Nat}{C:Array Value}{T:TypeId}(h:A8 w0 b C T W){b':Nat}(hb:w0.heap.size<=b')(hne:b≠b')(u0 u1 u2 u3:Value):A8 w0 b C T ((((W.setCell ⟨b',0,none⟩ u0).setCell ⟨b',1,none⟩ u1).setCell ⟨b',2,none⟩ u2).setCell ⟨b',3,none⟩ u3) :=
 (h.Ej hb hne u0 u1).other (p:=⟨b',2,none⟩) hb hne u2 |>.other (p:=⟨b',3,none⟩) hb hne u3
theorem A1p {w W:World}(h:Below w.heap.size w W){b:Nat}(hb:w.heap.size<=b)(u0 u1 u2 u3:Value):Below w.heap.size w ((((W.setCell ⟨b,0,none⟩ u0).setCell ⟨b,1,none⟩ u1).setCell ⟨b,2,none⟩ u2).setCell ⟨b,3,none⟩ u3) :=
 ((Sx h hb u0 u1).setCell (p:=⟨b,2,none⟩) hb u2).setCell (p:=⟨b,3,none⟩) hb u3
theorem F9 (a b c d:Int)(w:World):Calls Vp.prog 111 #[.agg #[.int .i64 a,.int .i64 b,.int .i64 c,.int .i64 d]] w fun e w'=>e=.returned (.agg #[.int .i64 a,.int .i64 b,.int .i64 c,.int .i64 d])/\Below w.heap.size w w':=by
 obtain⟨X,Z⟩:=A28 w #[.int .i64 a,.int .i64 b,.int .i64 c,.int .i64 d] 93 #[.int .i64 0,.int .i64 0,.int .i64 0,.int .i64 0] 158;have x0:=X.cell 0 _ rfl;have x1:=X.cell 1 _ rfl;have x2:=X.cell 2 _ rfl;have x3:=X.cell 3 _ rfl;have z0:=Z.cell 0 _ rfl;have z1:=Z.cell 1 _ rfl;have z2:=Z.cell 2 _ rfl;have z3:=Z.cell 3 _ rfl;have f0:=Z.frozen 0;have f1:=Z.frozen 1;have f2:=Z.frozen 2;have f3:=Z.frozen 3;clear X Z
 go_enter Vp.func111,Tryz.ntmps111
 go_wp2
 exact Ai6 (v:=.agg #[.int .i64 a,.int .i64 b,.int .i64 c,.int .i64 d]) (by simp[results,Tryz.f111,go_sem]) rfl ⟨rfl,A2m _ _ _⟩
theorem Wo (a b c d:Int)(h1:-1000000000<=a)(h2:a<=1000000000)(h3:-1000000000<=b)(h4:b<=1000000000)(h5:-1000000000<=c)(h6:c<=1000000000)(h7:-1000000000<=d)(h8:d<=1000000000)(w:World) :
 Calls Vp.prog 108 #[.agg #[.int .i64 a,.int .i64 b,.int .i64 c,.int .i64 d]] w fun e w'=>e=.returned (.agg #[.int .i64 (nLo ⟨a,b,c,d⟩),.int .i64 (nHi ⟨a,b,c,d⟩)])/\Below w.heap.size w w':=by
 obtain⟨X,Z⟩:=A28 w #[.int .i64 a,.int .i64 b,.int .i64 c,.int .i64 d] 158 #[.int .i64 0,.int .i64 0] 156;have l1:=Ew (l:=a) (h:=b) (k:=1000000000) h1 h2;have l2:=Ew (l:=c) (h:=d) (k:=1000000000) h5 h6;have l3:=Dd (l:=a) (h:=b) (k:=1000000000) h1 h2 h3 h4;have l4:=Dd (l:=c) (h:=d) (k:=1000000000) h5 h6 h7 h8;have HQ:=Ai1 (Fb a b h1 h2 h3 h4);have HR:=Ai1 (Fb c d h5 h6 h7 h8);have hN:nLo ⟨a,b,c,d⟩=Ct a b+Ct c d:=rfl;have hM:nHi ⟨a,b,c,d⟩=Bs a b+Bs c d:=rfl;rw[hN,hM];generalize Ct a b=s1 at *;generalize Ct c d=s3 at *;generalize Bs a b=s2 at *;generalize Bs c d=s4 at *;have HP:=Ai1 (Hc s1 s2 s3 s4 (by omega) (by omega) (by omega) (by omega) (by omega) (by omega) (by omega) (by omega))
 generalize s1+s3=t1 at *;generalize s2+s4=t2 at *;have HX:Hid (∀W',Below ((w.alloc (.cells #[.int .i64 a,.int .i64 b,.int .i64 c,.int .i64 d] 158)).alloc (.cells #[.int .i64 0,.int .i64 0] 156)).drew.heap.size ((w.alloc (.cells #[.int .i64 a,.int .i64 b,.int .i64 c,.int .i64 d] 158)).alloc (.cells #[.int .i64 0,.int .i64 0] 156)).drew W'->A8 w w.heap.size #[.int .i64 a,.int .i64 b,.int .i64 c,.int .i64 d] 158 W'):=fun W' h=>(X.step ((Aq.refl _).drew.below _)).step h
 have HZ:Hid (∀W',Below ((w.alloc (.cells #[.int .i64 a,.int .i64 b,.int .i64 c,.int .i64 d] 158)).alloc (.cells #[.int .i64 0,.int .i64 0] 156)).drew.heap.size ((w.alloc (.cells #[.int .i64 a,.int .i64 b,.int .i64 c,.int .i64 d] 158)).alloc (.cells #[.int .i64 0,.int .i64 0] 156)).drew W'->A8 w (w.heap.size+1) #[.int .i64 0,.int .i64 0] 156 W'):=fun W' h=>(Z.step ((Aq.refl _).drew.below _)).step h
 have HXs:=Ai1 (fun W' h u0 u1=>(HX.out W' h).Ej (b':=w.heap.size+1) (by omega) (by omega) u0 u1)
 have hbk:=Aik ((w.alloc (.cells #[.int .i64 a,.int .i64 b,.int .i64 c,.int .i64 d] 158)).alloc (.cells #[.int .i64 0,.int .i64 0] 156)).drew.heap.size ((w.alloc (.cells #[.int .i64 a,.int .i64 b,.int .i64 c,.int .i64 d] 158)).alloc (.cells #[.int .i64 0,.int .i64 0] 156)).drew;clear X Z l1 l2 l3 l4 hN hM h1 h2 h3 h4 h5 h6 h7 h8
 go_enter Vp.func108,Tryz.ntmps108
 go_upto_region 1 with fail
 generalize (w.alloc (.cells #[.int .i64 a,.int .i64 b,.int .i64 c,.int .i64 d] 158)).alloc (.cells #[.int .i64 0,.int .i64 0] 156)=W at *
 go_region_held3 (fun w'=>w'.cell? ⟨w.heap.size,0,none⟩=some (.int .i64 a)/\w'.cell? ⟨w.heap.size,1,none⟩=some (.int .i64 b)/\w'.cell? ⟨w.heap.size,2,none⟩=some (.int .i64 c)/\w'.cell? ⟨w.heap.size,3,none⟩=some (.int .i64 d)) (((first|dsimp only|skip);first |(with_reducible exact⟨(HX.out _ hbk).cell 0 _ rfl,(HX.out _ hbk).cell 1 _ rfl,(HX.out _ hbk).cell 2 _ rfl,(HX.out _ hbk).cell 3 _ rfl⟩) |(with_reducible exact⟨(HXs.out _ hbk _ _).cell 0 _ rfl,(HXs.out _ hbk _ _).cell 1 _ rfl,(HXs.out _ hbk _ _).cell 2 _ rfl,(HXs.out _ hbk _ _).cell 3 _ rfl⟩))) (first
  |(go_at_call 106;(first |(with_reducible refine(HQ.out _).mono ?_) |(with_reducible refine(HR.out _).mono ?_));rintro e w' ⟨rfl,hb⟩;replace hbk:=hbk.trans (hb.mono hbk.size);clear hb)
  |(go_at_call 107;(with_reducible refine(HP.out _).mono ?_);rintro e w' ⟨rfl,hb⟩;replace hbk:=hbk.trans (hb.mono hbk.size);clear hb;have z0:=(HZ.out _ hbk).cell 0 _ rfl;have z1:=(HZ.out _ hbk).cell 1 _ rfl;have g0:=(HZ.out _ hbk).frozen 0;have g1:=(HZ.out _ hbk).frozen 1))
 all_goals
  go_wp2
  exact Ai6 (v:=.agg #[.int .i64 t1,.int .i64 t2]) (by simp[results,Tryz.f108,go_sem,z0,z1]) rfl ⟨rfl,Sx (HZ.out _ hbk).old (b:=w.heap.size+1) (by omega) _ _⟩
end
namespace Flo
open Go.RowKit Ieee
def Al (k:FloatKind)(x y:Nat):Prop:=x=y \/(nan k x=true/\nan k y=true)
theorem Al.refl (k:FloatKind)(x:Nat):Al k x x:=.inl rfl
theorem Al.order {k:FloatKind}{x y x' y':Nat}(h:Al k x x')(g:Al k y y'):k.format.order x y=k.format.order x' y':=by
 rcases h with rfl |⟨h1,h2⟩
 ·rcases g with rfl |⟨g1,g2⟩
  ·rfl
  ·rw[K1 x g1,K1 x g2]
 ·rw[Hq y h1,Hq y' h2]
theorem Hk {op:BinOp}{k:FloatKind}{x:Nat}(y:Nat)(h:nan k x=true):floatBits op k x y=none:=by
 unfold nan FloatKind.decode at h
 cases op<;>simp only[floatBits,Format.add,Format.sub,Format.mul,Format.div]
 all_goals cases hx:k.format.read x<;>simp_all [Datum.isNaN,Datum.sum,Datum.product,Datum.quotient]
theorem Gm {op:BinOp}{k:FloatKind}{y:Nat}(x:Nat)(h:nan k y=true):floatBits op k x y=none:=by
 unfold nan FloatKind.decode at h
 cases op<;>simp only[floatBits,Format.add,Format.sub,Format.mul,Format.div]
 all_goals cases hy:k.format.read y<;>simp_all [Datum.isNaN]
 all_goals cases hx:k.format.read x<;>simp[Datum.opposite,Datum.sum,Datum.product,Datum.quotient]
def No:FloatKind->Nat
 | .f32=>2143289344
 | .f64=>9221120237041090560
theorem En (k:FloatKind):nan k (No k)=true:=by cases k<;>decide
def Da (op:BinOp)(k:FloatKind)(x y:Nat):Nat:=(floatBits op k x y).getD (No k)
theorem F5 {op:BinOp}{k:FloatKind}{x y x' y':Nat}(h:Al k x x')(g:Al k y y'):Da op k x y=Da op k x' y':=by
 rcases h with rfl |⟨h1,h2⟩
 ·rcases g with rfl |⟨g1,g2⟩
  ·rfl
  ·unfold Da;rw[Gm x g1,Gm x g2]
 ·unfold Da;rw[Hk y h1,Hk y' h2]
theorem Abr (k:FloatKind)(x y t:Nat):nan k ((Question.nanBits k x y).cut t)=true:=by
 cases k
 ·exact Vy _
 ·exact Vz _
theorem C5 {P:Program}(op:BinOp)(hop:op=.add\/op=.sub\/op=.mul\/op=.quo)(t:TypeId)(k:FloatKind)(x y:Nat)(w:World) :
 ∃z w',(binOp op t (.float k x) (.float k y)).run P w=.ok (.float k z) w'/\z<2^k.format.width/\Aq w w'/\Al k (Da op k x y) z:=by
 cases h:floatBits op k x y with
 | some r =>
   refine⟨r,w,Aj6 w op t k x y r h,?_,Aq.refl w,.inl ?_⟩
   ·have:=floatBits_wf h
    cases k<;>simpa [Lit.wf,Z1,Z2]using this
   ·unfold Da;rw[h];rfl
 | none =>
   refine⟨(Question.nanBits k x y).cut (w.tape w.drawn (Question.nanBits k x y)),w.drew,?_,?_,(Aq.refl w).drew,.inr ⟨?_,Abr _ _ _ _⟩⟩
   ·unfold floatBits at h
    rcases hop with rfl|rfl|rfl|rfl<;>simp only at h<;>simp[binOp,Op.floatArith,h]<;>(intro hf;simp[Question.forced]at hf)
   ·cases k
    ·exact Zx _ _ _
    ·exact Zy _ _ _
   ·unfold Da;rw[h];exact En k
theorem A3i {op:BinOp}{k:FloatKind}{x y:Nat}:Da op k x y<2^k.format.width:=by
 unfold Da
 cases h:floatBits op k x y with
 | some r =>
   have:=floatBits_wf h
   cases k<;>simpa [Lit.wf,Z1,Z2]using this
 | none=>cases k<;>decide
end Flo
namespace Flo
open Go.RowKit Ieee
def Hz:Nat:=776
theorem A54:Hz=776:=rfl
def Qe:Nat:=298
def Vm:Nat:=1100
theorem A9l:Vm=1100:=rfl
theorem Lu (f:Format){r q:Nat}(h:r<=q):rv f r<=rv f q:=by
 have m1:=Nw f r;have hb:=Dp f
 have hle:re f r<=re f q:=by
  unfold re;have:=Nat.div_le_div_right (c:=f.binade) h
  omega
 rcases Nat.eq_or_lt_of_le hle with e|hlt
 ·have:rm f r<=rm f q:=by unfold rm;rw[<-e];omega
  unfold rv;rw[<-e];exact Ai7 _ this
 ·have hg:=Wg f q (by omega)
  unfold rv;have e1:rm f r*2^re f r <=(2*f.binade)*2^re f r:=Ai7 _ (Aku m1)
  have e2:(2*f.binade)*2^re f r=f.binade*2^(re f r+1):=by
   rw[Alc,Aj7 2 f.binade,Aiy,Aj7 2]
  have e3:f.binade*2^(re f r+1)<=f.binade*2^re f q:=Anc _ (Ain (by omega) hlt)
  have e4:f.binade*2^re f q<=rm f q*2^re f q:=Ai7 _ hg
  omega
theorem Ms {f:Format}{s:Bool}{mag:Nat}{place:Int}{r a b:Nat}(hr:r<f.infRung)(hp:place-f.leastPlace=(a:Int)-b)(h:mag*2^a<=rv f r*2^b) :
 Cu f (f.nearest s mag place) (iv f (f.nearest s mag place)) /\(iv f (f.nearest s mag place)).natAbs<=rv f r:=by
 have h1:=Yj (neg:=s) hp h;have hw:=Nj f s (rnd f s mag place) (by omega)
 refine⟨⟨Format.nearest_lt _ _ _ _,?_,rfl⟩,?_⟩
 ·rw[D9];exact hw.1
 ·rw[D9,hw.2,natAbs_sign];exact Lu f h1
theorem Afj {f:Format}{s t:Bool}{m n i j r:Nat}{a b:Int}(hi:signed s m i=a)(hj:signed t n j=b)(hr:r<f.infRung)(h:(a+b).natAbs<=rv f r) :
 ∃z,((Datum.number s m (f.leastPlace+i)).sum (Datum.number t n (f.leastPlace+j))).map f.write=some z/\Cu f z (iv f z) /\(iv f z).natAbs<=rv f r:=by
 simp only[Datum.sum,Akw,Format.write]
 refine⟨_,rfl,?_⟩
 obtain⟨c,hc⟩:∃c:Nat,min (f.leastPlace +(i:Int)) (f.leastPlace +(j:Int))=f.leastPlace+c:=⟨min i j,by omega⟩
 rw[hc];obtain⟨i',hi'⟩:∃i',i=i'+c:=⟨i-c,by omega⟩
 obtain⟨j',hj'⟩:∃j',j=j'+c:=⟨j-c,by omega⟩
 have e1:(f.leastPlace +(i:Int)-(f.leastPlace+c)).toNat=i':=by omega
 have e2:(f.leastPlace +(j:Int)-(f.leastPlace+c)).toNat=j':=by omega
 rw[e1,e2];rw[hi',Cc]at hi;rw[hj',Cc]at hj;generalize signed s m i'=p at *;generalize signed t n j'=q at *;have hsum:(p+q) *(2^c:Nat)=a+b:=by rw[Alg,hi,hj]
 refine Ms (a:=c) (b:=0) hr (by omega) ?_
 rw[<-hsum,Ais,Aih]at h;rw[Alu,Alq]
 exact h
theorem Ab4 {f:Format}{x y r:Nat}{a b:Int}(hx:Cu f x a)(hy:Cu f y b)(hr:r<f.infRung)(h:(a-b).natAbs<=rv f r):∃z,f.sub x y=some z/\Cu f z (iv f z) /\(iv f z).natAbs<=rv f r:=by
 unfold Format.sub;rw[Ax hx.fin,Ax hy.fin];have hj:signed (!Ht f y) (rm f (Ae f y)) (re f (Ae f y))=-b:=by rw[A3t,Du,hy.iv]
 exact Afj ((Du f x).trans hx.iv) hj hr h
theorem Afk {f:Format}{s t:Bool}{m n i j r:Nat}{a b:Int}(hi:signed s m i=a)(hj:signed t n j=b)(hr:r<=f.infRung)(hr0:0<rv f r)(h:(rv f r:Int)<=a+b) :
 ∃q,((Datum.number s m (f.leastPlace+i)).sum (Datum.number t n (f.leastPlace+j))).map f.write=some (f.word false q)/\r<=q/\q<=f.infRung:=by
 simp only[Datum.sum,Akw,Format.write];obtain⟨c,hc⟩:∃c:Nat,min (f.leastPlace +(i:Int)) (f.leastPlace +(j:Int))=f.leastPlace+c:=⟨min i j,by omega⟩
 rw[hc];obtain⟨i',hi'⟩:∃i',i=i'+c:=⟨i-c,by omega⟩
 obtain⟨j',hj'⟩:∃j',j=j'+c:=⟨j-c,by omega⟩
 have e1:(f.leastPlace +(i:Int)-(f.leastPlace+c)).toNat=i':=by omega
 have e2:(f.leastPlace +(j:Int)-(f.leastPlace+c)).toNat=j':=by omega
 rw[e1,e2];rw[hi',Cc]at hi;rw[hj',Cc]at hj;generalize signed s m i'=p at *;generalize signed t n j'=q at *;have hsum:(p+q) *(2^c:Nat)=a+b:=by rw[Alg,hi,hj]
 have hp:(0:Int) <(2^c:Nat):=by have:=Aib c;omega
 have hpos:0<p+q:=by
  rcases Akj 0 (p+q)with h2|h2
  ·exact h2
  ·have:=Int.mul_nonpos_of_nonpos_of_nonneg h2 (Alf hp);omega
 have hs:(if p+q=0 then s && t else decide (p+q<0))=false:=by
  rw[Aid (by omega)];simp;omega
 rw[hs,D9]
 refine⟨_,rfl,Yi (a:=c) (b:=0) hr (by omega) ?_,Sp _ _ _ _⟩
 rw[Alu,Alq]
 have:(((p+q).natAbs*2^c:Nat):Int)=a+b:=by
  rw[<-hsum,Aj3]
  congr 1
  omega
 omega
def r5:Nat:=4617315517961601024
theorem Jl:rv double r5=5*2^u64:=by kernel_rfl
theorem Rt:r5<double.infRung:=by decide
theorem Aef:Cu double 4616189618054758400 ((4:Int) *(2^u64:Nat)):=by
 refine⟨by decide,by unfold fin;decide,?_⟩
 unfold iv;rw[Aid (by decide)]
 have:rv double (Ae double 4616189618054758400)=4*2^u64:=by kernel_rfl
 rw[this];simp
def s5:Nat:=1084227584
theorem Ve:rv single s5=5*2^u32:=by kernel_rfl
theorem Ru:s5<single.infRung:=by decide
def S9 (n:Nat):Bool:=FloatKind.f64.format.order n 4616189618054758400 == some .lt || FloatKind.f64.format.order n 4616189618054758400 == some .eq
theorem Qr {n:Nat}(h:nan .f64 n=true):S9 n=false:=by unfold S9;rw[Hq _ h];rfl
theorem A55:S9 9218868437227405312=false:=by decide
theorem Zd {x y:Nat}{a b:Int}(hx:Cu double x a)(hy:Cu double y b)(h:((5*2^u64:Nat):Int)<=a+b):S9 (Da .add .f64 x y)=false:=by
 obtain⟨q,hq,h1,h2⟩:=Afk (f:=double) (r:=r5) ((Du double x).trans hx.iv) ((Du double y).trans hy.iv) (Aku Rt) (by rw[Jl];have:=Aib u64;omega) (by rw[Jl];exact h)
 have e:floatBits .add .f64 x y=some (double.word false q):=by
  show(double.add x y)=_
  unfold Format.add;rw[Ax hx.fin,Ax hy.fin]
  exact hq
 unfold Da;rw[e,Option.getD_some]
 rcases Nat.eq_or_lt_of_le h2 with e2|hlt
 ·rw[e2];decide
 ·have hw:=Nj double false q hlt
  have wlt:double.word false q<2^double.width:=by
   have h9:double.infRung<2^double.width:=by decide
   show q<_
   omega
  have hv:Cu double (double.word false q) (rv double q:Int):=⟨wlt,hw.1,by rw[hw.2];simp⟩
  have hm:=Lu double h1;rw[Jl]at hm;have h4:=Aef;have hU:=Aib u64;unfold S9;rw[show(FloatKind.f64.format.order (double.word false q) 4616189618054758400 == some .lt)=_ from Fl (k:=.f64) hv h4,show(FloatKind.f64.format.order (double.word false q) 4616189618054758400 == some .eq)=_ from Cj (k:=.f64) hv h4];generalize (2:Nat)^u64=U at *;simp
  omega
def A9 (x:Nat):Nat:=(floatToFloatBits .f32 x .f64).getD (No .f64)
def Bz (x:Nat):Nat:=(floatToFloatBits .f64 x .f32).getD (No .f32)
theorem Eb {s k:FloatKind}{x:Nat}(hne:s≠k)(h:nan s x=true):floatToFloatBits s x k=none:=by
 unfold nan at h;unfold floatToFloatBits;rw[Aid hne]
 cases hd:s.decode x<;>simp_all [Datum.isNaN]
theorem Lx {x y:Nat}(h:Al .f32 x y):A9 x=A9 y:=by
 rcases h with rfl |⟨h1,h2⟩
 ·rfl
 ·unfold A9;rw[Eb (by decide) h1,Eb (by decide) h2]
theorem Jn {x y:Nat}(h:Al .f64 x y):Bz x=Bz y:=by
 rcases h with rfl |⟨h1,h2⟩
 ·rfl
 ·unfold Bz;rw[Eb (by decide) h1,Eb (by decide) h2]
def K7 (x y:Nat):Nat:=Da .sub .f64 (Da .mul .f64 x x) (Da .mul .f64 y y)
def K6 (x y:Nat):Nat:=Da .mul .f64 4611686018427387904 (Da .mul .f64 x y)
def Ck (x y:Nat):Nat:=Da .add .f64 (Da .mul .f64 x x) (Da .mul .f64 y y)
theorem A58 {x:Nat}{s:Bool}(h:double.read x=.infinity s):Da .mul .f64 x x=9218868437227405312:=by
 have e:floatBits .mul .f64 x x=some 9218868437227405312:=by
  show double.mul x x=_
  unfold Format.mul;rw[h]
  cases s<;>decide
 unfold Da;rw[e];rfl
theorem A0q:double.read 9218868437227405312=.infinity false:=by decide
theorem Xd (y:Nat):S9 (Da .add .f64 9218868437227405312 y)=false:=by
 have e:floatBits .add .f64 9218868437227405312 y=some 9218868437227405312\/floatBits .add .f64 9218868437227405312 y=none:=by
  show double.add _ y=_\/double.add _ y=_
  unfold Format.add;rw[A0q]
  cases double.read y with
  | nan _ _=>right;rfl
  | infinity t=>cases t<;>simp[Datum.sum]<;>decide
  | number _ _ _=>left;simp[Datum.sum];decide
 unfold Da
 rcases e with e|e
 ·rw[e];exact A55
 ·rw[e];exact Qr (En _)
theorem U2 (x:Nat):S9 (Da .add .f64 x 9218868437227405312)=false:=by
 have e:floatBits .add .f64 x 9218868437227405312=some 9218868437227405312\/floatBits .add .f64 x 9218868437227405312=none:=by
  show double.add x _=_\/double.add x _=_
  unfold Format.add;rw[A0q]
  cases double.read x with
  | nan _ _=>right;rfl
  | infinity t=>cases t<;>simp[Datum.sum]<;>decide
  | number _ _ _=>left;simp[Datum.sum];decide
 unfold Da
 rcases e with e|e
 ·rw[e];exact A55
 ·rw[e];exact Qr (En _)
theorem Jq {op:BinOp}{k:FloatKind}{x:Nat}(y:Nat)(h:nan k x=true):Da op k x y=No k:=by unfold Da;rw[Hk y h];rfl
theorem Uf {op:BinOp}{k:FloatKind}{y:Nat}(x:Nat)(h:nan k y=true):Da op k x y=No k:=by unfold Da;rw[Gm x h];rfl
theorem Ni {x y:Nat}(h:S9 (Ck (A9 x) (A9 y))=true):fin single x:=by
 rcases kinds single (by decide) x with hf |⟨s,hi⟩ |⟨s,t,hn⟩
 ·exact hf
 ·exfalso
  have e:A9 x=FloatKind.encode .f64 (.infinity s):=by
   unfold A9 floatToFloatBits;rw[Aid (by decide),show FloatKind.decode .f32 x=.infinity s from hi];rfl
  have er:double.read (A9 x)=.infinity s:=by rw[e];cases s<;>decide
  unfold Ck at h;rw[A58 er,Xd]at h
  cases h
 ·exfalso
  have hx:nan .f32 x=true:=by unfold nan;rw[show FloatKind.decode .f32 x=.nan s t from hn];rfl
  have e:A9 x=No .f64:=by unfold A9;rw[Eb (by decide) hx];rfl
  unfold Ck at h;rw[e,Jq _ (En _),Jq _ (En _),Qr (En _)]at h
  cases h
theorem Li {x y:Nat}(h:S9 (Ck (A9 x) (A9 y))=true):fin single y:=by
 rcases kinds single (by decide) y with hf |⟨s,hi⟩ |⟨s,t,hn⟩
 ·exact hf
 ·exfalso
  have e:A9 y=FloatKind.encode .f64 (.infinity s):=by
   unfold A9 floatToFloatBits;rw[Aid (by decide),show FloatKind.decode .f32 y=.infinity s from hi];rfl
  have er:double.read (A9 y)=.infinity s:=by rw[e];cases s<;>decide
  unfold Ck at h;rw[A58 er,U2]at h
  cases h
 ·exfalso
  have hx:nan .f32 y=true:=by unfold nan;rw[show FloatKind.decode .f32 y=.nan s t from hn];rfl
  have e:A9 y=No .f64:=by unfold A9;rw[Eb (by decide) hx];rfl
  unfold Ck at h;rw[e,Jq (No .f64) (En _),Uf _ (En _),Qr (En _)]at h
  cases h
theorem Gh {x y X Y:Nat}{a b:Int}(hx:Cu single x a)(hy:Cu single y b)(hX:Cu double X (a *(2^Gj:Nat)))(hY:Cu double Y (b *(2^Gj:Nat))) :
 Cu double (Da .mul .f64 X Y) (a*b *(2^Hz:Nat)):=by
 have dx:=Cr hx;have dy:=Cr hy;have rx:=A1h (e:=254) hx.fin (by decide)
 have ry:=A1h (e:=254) hy.fin (by decide)
 have mx:=Nw single (Ae single x);have my:=Nw single (Ae single y);rw[Br]at mx my;generalize re single (Ae single x)=ex at *;generalize re single (Ae single y)=ey at *;generalize rm single (Ae single x)=px at *;generalize rm single (Ae single y)=py at *;have hm:px*py<2^24*2^24:=Nat.mul_lt_mul'' (by omega) (by omega)
 have hr:Oe double (a*b *(2^Hz:Nat)):=by
  refine Yh (m:=px*py) (e:=ex+ey+Hz) ?_ ?_ ?_ ?_
  ·rw[Ais,Ais,Aih,dx,dy,Ail,Ail];simp only[Aiy,Aky]
  ·rw[Am];omega
  ·show 52<=_;rw[A54];omega
  ·rw[Bn];exact Ai7 _ (by rw[A54];omega)
 have hc:a *(2^Gj:Nat) *(b *(2^Gj:Nat))=a*b *(2^Hz:Nat) *(2^u64:Nat):=by
  have e:((2^Gj:Nat):Int) *(2^Gj:Nat)=(2^Hz:Nat) *(2^u64:Nat):=by
   rw[<-Aj3,<-Aj3,<-Ail,<-Ail,show Gj+Gj=Hz+u64 from rfl]
  have e2:a *(2^Gj:Nat) *(b *(2^Gj:Nat))=a*b *((2^Gj:Nat) *(2^Gj:Nat)):=by
   rw[Ajs,Ajs,Int.mul_left_comm _ b]
  rw[e2,e,<-Ajs]
 obtain⟨z,hz,hv⟩:=Gx (f:=double) Ci hX hY hc hr
 have:Da .mul .f64 X Y=z:=by
  unfold Da;rw[show floatBits .mul .f64 X Y=some z from hz];rfl
 rw[this];exact hv
theorem Wc {z:Nat}(hz:Cu double z (iv double z))(hb:(iv double z).natAbs<=5*2^u64):∃u,floatToFloatBits .f64 z .f32=some u:=by
 have hd:=Cr hz
 have hn:=Ms (f:=single) (s:=Ht double z) (mag:=rm double (Ae double z)) (place:=double.leastPlace+re double (Ae double z)) (r:=s5) (a:=re double (Ae double z)) (b:=Gj) Ru (by rw[H8,Gw,Mz];omega) (by
  rw[Ve,<-hd];have:5*2^u32*2^Gj=5*2^u64:=by rw[Aiy,<-Ail,show u32+Gj=u64 from rfl]
  rw[this];exact hb)
 unfold floatToFloatBits;rw[Aid (by decide)]
 have hdec:FloatKind.decode .f64 z=.number (Ht double z) (rm double (Ae double z)) (double.leastPlace+re double (Ae double z)):=Ax hz.fin;rw[hdec];have hni:(FloatKind.decode .f32 (FloatKind.encode .f32 (.number (Ht double z) (rm double (Ae double z)) (double.leastPlace+re double (Ae double z))))).isInfinity=false:=Yy (k:=.f32) hn.1;simp only[hni]
 exact⟨_,rfl⟩
theorem A5k {p:Nat}{v:Int}(h:Cu double p v)(hb:(2*v).natAbs<=5*2^u64):Oe double (2*v):=by
 have hd:=Cr h;have hm:=Nw double (Ae double p)
 have hre:re double (Ae double p)<=Vm:=by
  rcases Alv Vm (re double (Ae double p))with h1|h1
  ·exfalso
   have hg:=Wg double (Ae double p) (by omega)
   rw[Am]at hg;have h2:2^Vm<=2^re double (Ae double p):=Ain (by omega) (by omega)
   have h3:=Ajm (show 1<=rm double (Ae double p) by omega) h2
   have h4:2^Vm=2^26*2^u64:=by rw[<-Ail,show 26+u64=Vm from rfl]
   rw[Ais,hd]at hb;rw[h4]at h3;have hU:=Aib u64;generalize (2:Nat)^u64=U at *;simp at hb
   omega
  ·exact h1
 refine Gz (m:=rm double (Ae double p)) (e:=re double (Ae double p)+1) ?_ hm ?_
 ·rw[Ais,hd,Alc]
  show 2*_=_
  rw[Aj7 2,Aiy]
 ·rw[Bn];exact Ai7 _ (by rw[A9l]at hre;omega)
theorem sq_pos (a:Int):0<=a*a:=by
 rcases Ale 0 a with h|h
 ·exact Ak0 h h
 ·exact Int.mul_nonneg_of_nonpos_of_nonpos h h
theorem A5v {x y:Nat}(hx:x<4294967296)(hy:y<4294967296)(h:S9 (Ck (A9 x) (A9 y))=true) :
 (∃u,floatToFloatBits .f64 (K7 (A9 x) (A9 y)) .f32=some u) /\(∃v,floatToFloatBits .f64 (K6 (A9 x) (A9 y)) .f32=some v):=by
 have vx:Cu single x (iv single x):=⟨hx,Ni h,rfl⟩;have vy:Cu single y (iv single y):=⟨hy,Li h,rfl⟩;obtain⟨X,eX,vX⟩:=Dj vx;obtain⟨Y,eY,vY⟩:=Dj vy;have wx:A9 x=X:=by unfold A9;rw[eX];rfl
 have wy:A9 y=Y:=by unfold A9;rw[eY];rfl
 rw[wx,wy]at h ⊢;have pxx:=Gh vx vx vX vX;have pyy:=Gh vy vy vY vY;have pxy:=Gh vx vy vX vY;have eK:(5*2^u64:Nat)=5*2^Qe*2^Hz:=by rw[Aiy,<-Ail,show Qe+Hz=u64 from rfl]
 have hsum:iv single x*iv single x+iv single y*iv single y <((5*2^Qe:Nat):Int):=by
  rcases Akj (iv single x*iv single x+iv single y*iv single y) ((5*2^Qe:Nat):Int)with h1|h1
  ·exact h1
  ·exfalso
   have:=Zd pxx pyy (by
    rw[eK,<-Alg,Aj3 (5*2^Qe)]
    exact Al4 h1 (Alz _))
   unfold Ck at h;rw[this]at h;cases h
 have sx:0<=iv single x*iv single x:=sq_pos _;have sy:0<=iv single y*iv single y:=sq_pos _;have h2:0 <=(iv single x-iv single y) *(iv single x-iv single y):=sq_pos _;have h3:0 <=(iv single x+iv single y) *(iv single x+iv single y):=sq_pos _
 have e2:(iv single x-iv single y) *(iv single x-iv single y)=iv single x*iv single x+iv single y*iv single y-2 *(iv single x*iv single y):=by
  rw[Int.sub_mul,Int.mul_sub,Int.mul_sub,Ajq (iv single y) (iv single x)];omega
 have e3:(iv single x+iv single y) *(iv single x+iv single y)=iv single x*iv single x+iv single y*iv single y+2 *(iv single x*iv single y):=by
  rw[Alg,Int.mul_add,Int.mul_add,Ajq (iv single y) (iv single x)];omega
 rw[e2]at h2;rw[e3]at h3;clear e2 e3;generalize iv single x*iv single x=A at *;generalize iv single y*iv single y=B at *;generalize iv single x*iv single y=C at *
 have bd:∀T:Int,T.natAbs<=5*2^Qe ->(T *(2^Hz:Nat)).natAbs<=5*2^u64:=by
  intro T hT;rw[Ais,Aih,eK]
  exact Ai7 _ hT
 constructor
 ·obtain⟨z,hz,hv,hb⟩:=Ab4 (r:=r5) pxx pyy Rt (by
   rw[Jl,<-Int.sub_mul]
   exact bd _ (by generalize (2:Nat)^298=U at *;omega))
  rw[Jl]at hb
  have e:K7 X Y=z:=by
   unfold K7 Da;unfold Da at hz;rw[show floatBits .sub .f64 ((floatBits .mul .f64 X X).getD (No .f64)) ((floatBits .mul .f64 Y Y).getD (No .f64))=some z from hz];rfl
  rw[e]
  exact Wc hv hb
 ·have two:Cu double 4611686018427387904 ((2:Int) *(2^u64:Nat)):=by
   refine⟨by decide,by unfold fin;decide,?_⟩
   unfold iv;rw[Aid (by decide)]
   have:rv double (Ae double 4611686018427387904)=2*2^u64:=by kernel_rfl
   rw[this];simp
  have hrep:Oe double (2 *(C *(2^Hz:Nat))):=by
   exact A5k pxy (by have:=bd (2*C) (by generalize (2:Nat)^298=U at *;omega);rw[Ajs]at this;exact this)
  obtain⟨z,hz,hv⟩:=Gx (f:=double) (c:=2 *(C *(2^Hz:Nat))) Ci two pxy (by rw[Int.mul_right_comm]) hrep
  have e:K6 X Y=z:=by
   unfold K6
   show(floatBits .mul .f64 4611686018427387904 (Da .mul .f64 X Y)).getD _=z
   rw[show floatBits .mul .f64 4611686018427387904 (Da .mul .f64 X Y)=some z from hz];rfl
  rw[e]
  refine Wc (by rw[hv.iv];exact hv) ?_
  rw[hv.iv];have:=bd (2*C) (by generalize (2:Nat)^298=U at *;omega)
  rw[Ajs]at this
  exact this
theorem Qm {P:Program}(s k:FloatKind)(x:Nat)(hne:s≠k)(hc:nan s x=true\/∃u,floatToFloatBits s x k=some u)(w:World) :
 ∃z w',(Conv.floatToFloat s x k).run P w=.ok (.float k z) w'/\z<2^k.format.width/\Aq w w'/\Al k ((floatToFloatBits s x k).getD (No k)) z:=by
 cases hd:s.decode x with
 | nan sg f =>
   refine⟨(Question.nanConv k x).cut (w.tape w.drawn (Question.nanConv k x)),w.drew,?_,?_,(Aq.refl w).drew,.inr ⟨?_,A9t k x w⟩⟩
   ·simp[Conv.floatToFloat,hne,hd];intro hf;simp[Question.forced]at hf
   ·cases k
    ·exact Rp _ _
    ·show(_ % 2)*2^63+0x7ff0000000000000+1 +(_ / 2) % (2^52-1)<2^64
     omega
   ·rw[Eb hne (by unfold nan;rw[hd];rfl)];exact En k
 | infinity sg =>
   have e:floatToFloatBits s x k=some (k.encode (.infinity sg)):=by simp[floatToFloatBits,hne,hd]
   exact⟨k.encode (.infinity sg),w,by simp[Conv.floatToFloat,hne,hd],Format.write_lt _ _,Aq.refl w,by rw[e];exact .inl rfl⟩
 | number sg m e =>
   by_cases hi:(k.decode (k.encode (.number sg m e))).isInfinity=true
   ·exfalso
    rcases hc with hc |⟨u,hu⟩
    ·unfold nan at hc;rw[hd]at hc;cases hc
    ·simp[floatToFloatBits,hne,hd,hi]at hu
   ·have e':floatToFloatBits s x k=some (k.encode (.number sg m e)):=by simp[floatToFloatBits,hne,hd,hi]
    exact⟨k.encode (.number sg m e),w,by simp[Conv.floatToFloat,hne,hd,hi],Format.write_lt _ _,Aq.refl w,by rw[e'];exact .inl rfl⟩
theorem A2c {x:Nat}(hx:x<4294967296):nan .f32 x=true\/∃u,floatToFloatBits .f32 x .f64=some u:=by
 cases h:nan .f32 x with
 | true=>exact .inl rfl
 | false=>obtain⟨y,hy,_⟩:=A86 (by rw[A1f];exact hx) h;exact .inr ⟨y,hy⟩
theorem Ld {P:Program}(src dst:TypeId)(hs:(P.underlying src).isSome=true)(hd:P.underlying dst=some (.complex .f64))(x y:Nat)(hx:x<4294967296)(hy:y<4294967296)(w:World) :
 ∃re im w',(convert src dst (.complex .f32 x y)).run P w=.ok (.complex .f64 re im) w'/\re<18446744073709551616/\im<18446744073709551616/\Aq w w'/\Al .f64 (A9 x) re/\Al .f64 (A9 y) im:=by
 obtain⟨u,hs'⟩:=Als.1 hs;obtain⟨z,w1,h1,hz,d1,a1⟩:=Qm (P:=P) .f32 .f64 x (by decide) (A2c hx) w
 obtain⟨z2,w2,h2,hz2,d2,a2⟩:=Qm (P:=P) .f32 .f64 y (by decide) (A2c hy) w1
 refine⟨z,z2,w2,?_,hz,hz2,d1.trans d2,a1,a2⟩
 cases u<;>simp[convert,Ako hs',Ako hd,Conv.complexToComplex,h1,h2]
theorem Rk {P:Program}(src dst:TypeId)(hs:(P.underlying src).isSome=true)(hd:P.underlying dst=some (.complex .f32))(x y:Nat)(hx:nan .f64 x=true\/∃u,floatToFloatBits .f64 x .f32=some u)(hy:nan .f64 y=true\/∃u,floatToFloatBits .f64 y .f32=some u)(w:World) :
 ∃re im w',(convert src dst (.complex .f64 x y)).run P w=.ok (.complex .f32 re im) w'/\re<4294967296/\im<4294967296/\Aq w w'/\Al .f32 (Bz x) re/\Al .f32 (Bz y) im:=by
 obtain⟨u,hs'⟩:=Als.1 hs;obtain⟨z,w1,h1,hz,d1,a1⟩:=Qm (P:=P) .f64 .f32 x (by decide) hx w
 obtain⟨z2,w2,h2,hz2,d2,a2⟩:=Qm (P:=P) .f64 .f32 y (by decide) hy w1
 refine⟨z,z2,w2,?_,by rw[<-A1f];exact hz,by rw[<-A1f];exact hz2,d1.trans d2,a1,a2⟩
 cases u<;>simp[convert,Ako hs',Ako hd,Conv.complexToComplex,h1,h2]
theorem Al.Qs {x y:Nat}(h:Al .f64 x y)(g:∃u,floatToFloatBits .f64 x .f32=some u):nan .f64 y=true\/∃u,floatToFloatBits .f64 y .f32=some u:=by
 rcases h with rfl |⟨_,h⟩
 ·exact .inr g
 ·exact .inl h
theorem A4s {P:Program}(t:TypeId)(k:FloatKind)(a b c d:Nat)(w:World) :
 ∃re im w',(binOp .add t (.complex k a b) (.complex k c d)).run P w=.ok (.complex k re im) w'/\re<2^k.format.width/\im<2^k.format.width/\Aq w w'/\Al k (Da .add k a c) re/\Al k (Da .add k b d) im:=by
 obtain⟨x,w1,h1,hx,d1,a1⟩:=C5 (P:=P) .add (by simp) t k a c w
 obtain⟨y,w2,h2,hy,d2,a2⟩:=C5 (P:=P) .add (by simp) t k b d w1
 refine⟨x,y,w2,?_,hx,hy,d1.trans d2,a1,a2⟩
 have e1:(Op.floatArith .add k a c).run P w=.ok (.float k x) w1:=by simpa [binOp]using h1
 have e2:(Op.floatArith .add k b d).run P w1=.ok (.float k y) w2:=by simpa [binOp]using h2
 simp[binOp,Op.complexOp,Op.Complex.arith,e1,e2]
end Flo
end Go.Proofs.YtlfleicchbgcmaaGreat
