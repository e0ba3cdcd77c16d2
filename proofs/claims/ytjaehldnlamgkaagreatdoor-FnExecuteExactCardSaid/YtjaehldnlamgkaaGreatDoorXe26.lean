import Derived.Test.YtjaehldnlamgkaaGreatDoorXe25
import Derived.Test.YtjaehldnlamgkaaGreatDoorXe0
import Derived.Test.YtjaehldnlamgkaaGreatDoorXeK
set_option linter.all false
set_option maxHeartbeats 16000000
set_option maxRecDepth 100000
namespace Go.Proofs.YtjaehldnlamgkaaGreatDoor
section
open Go.RowKit
theorem Xl (a b c d:Int)(hv:Ap a b c d=true)(w:World):Calls Vp.prog 137 #[.agg #[.int .i64 a,.int .i64 b,.int .i64 c,.int .i64 d]] w fun e w'=>e=.returned (En (Bx.sq ⟨a,b,c,d⟩))/\Below w.heap.size w w':=by
 have X0:A7 w w.heap.size #[.int .i64 a,.int .i64 b,.int .i64 c,.int .i64 d] 93 ((w.alloc (.cells #[.int .i64 a,.int .i64 b,.int .i64 c,.int .i64 d] 93)).alloc (.cells #[.int .i64 0,.int .i64 0,.int .i64 0,.int .i64 0] 93)):=(A7.new w _ _).alloc _
 have X1:A7 w (w.heap.size+1) #[.int .i64 0,.int .i64 0,.int .i64 0,.int .i64 0] 93 ((w.alloc (.cells #[.int .i64 a,.int .i64 b,.int .i64 c,.int .i64 d] 93)).alloc (.cells #[.int .i64 0,.int .i64 0,.int .i64 0,.int .i64 0] 93)):=by
  have:=(A7.new (w.alloc (.cells #[.int .i64 a,.int .i64 b,.int .i64 c,.int .i64 d] 93)) #[.int .i64 0,.int .i64 0,.int .i64 0,.int .i64 0] 93).up (w0:=w) ((Amc _ _).alloc (Am0 _) _)
  rwa [An5]at this
 have HF:Hid (∀W,Below w.heap.size w W->∀u0 u1 u2 u3,Below w.heap.size w ((((W.setCell ⟨w.heap.size+1,0,none⟩ u0).setCell ⟨w.heap.size+1,1,none⟩ u1).setCell ⟨w.heap.size+1,2,none⟩ u2).setCell ⟨w.heap.size+1,3,none⟩ u3)):=fun W h u0 u1 u2 u3 =>
  (((h.setCell (p:=⟨w.heap.size+1,0,none⟩) (by simp) _).setCell (p:=⟨w.heap.size+1,1,none⟩) (by simp) _).setCell (p:=⟨w.heap.size+1,2,none⟩) (by simp) _).setCell (p:=⟨w.heap.size+1,3,none⟩) (by simp) _
 obtain⟨b1,b2,b3,b4,b5,b6⟩:=Bx.bd (x:=⟨a,b,c,d⟩) hv;dsimp only at b1 b2 b3 b4 b5 b6;have l1:=Ec (l:=a) (h:=b) (k:=134217728) (by omega) (by omega)
 have l2:=Ec (l:=c) (h:=d) (k:=134217728) (by omega) (by omega)
 have l3:=Cm (l:=a) (h:=b) (k:=134217728) (by omega) (by omega) (by omega) (by omega)
 have l4:=Cm (l:=c) (h:=d) (k:=134217728) (by omega) (by omega) (by omega) (by omega)
 have u1:=Fw (x:=a) (y:=c) (k:=134217728) (by omega) (by omega) (by omega) (by omega)
 have u2:=Fw (x:=a) (y:=d) (k:=134217728) (by omega) (by omega) (by omega) (by omega)
 have u3:=Fw (x:=b) (y:=c) (k:=134217728) (by omega) (by omega) (by omega) (by omega)
 have u4:=Fw (x:=b) (y:=d) (k:=134217728) (by omega) (by omega) (by omega) (by omega)
 have HQ:=Aly (Cu a b (by omega) (by omega) (by omega) (by omega))
 have HR:=Aly (Cu c d (by omega) (by omega) (by omega) (by omega))
 obtain⟨p,hp,ep⟩:∃p,wrap64 (a*c)=p/\a*c=p:=⟨_,Ev (by omega) (by omega),rfl⟩
 obtain⟨q,hq,eq⟩:∃p,wrap64 (a*d)=p/\a*d=p:=⟨_,Ev (by omega) (by omega),rfl⟩
 obtain⟨r,hr,er⟩:∃p,wrap64 (b*c)=p/\b*c=p:=⟨_,Ev (by omega) (by omega),rfl⟩
 obtain⟨t,ht,et⟩:∃p,wrap64 (b*d)=p/\b*d=p:=⟨_,Ev (by omega) (by omega),rfl⟩
 rw[ep]at u1;rw[eq]at u2;rw[er]at u3;rw[et]at u4;obtain⟨m1,h1,v1⟩:∃m,(if q<p then q else p)=m/\m=min p q:=⟨_,rfl,by split<;>omega⟩
 obtain⟨m2,h2,v2⟩:∃m,(if t<r then t else r)=m/\m=min r t:=⟨_,rfl,by split<;>omega⟩
 obtain⟨m3,h3,v3⟩:∃m,(if m2<m1 then m2 else m1)=m/\m=min m1 m2:=⟨_,rfl,by split<;>omega⟩
 obtain⟨n1,g1,z1⟩:∃m,(if p<q then q else p)=m/\m=max p q:=⟨_,rfl,by split<;>omega⟩
 obtain⟨n2,g2,z2⟩:∃m,(if r<t then t else r)=m/\m=max r t:=⟨_,rfl,by split<;>omega⟩
 obtain⟨n3,g3,z3⟩:∃m,(if n1<n2 then n2 else n1)=m/\m=max n1 n2:=⟨_,rfl,by split<;>omega⟩
 have o0:=v1.symm;have o1:=v2.symm;have o2:=v3.symm;have o3:=z1.symm;have o4:=z2.symm;have o5:=z3.symm;have vm:mLo ⟨a,b,c,d⟩=m3:=by unfold mLo;dsimp only;rw[ep,eq,er,et,v3,v1,v2]
 have vn:mHi ⟨a,b,c,d⟩=n3:=by unfold mHi;dsimp only;rw[ep,eq,er,et,z3,z1,z2]
 have bm:-18014398509481984<=m3/\m3<=18014398509481984:=by omega
 have bn:-18014398509481984<=n3/\n3<=18014398509481984:=by omega
 have hsq:Bx.sq ⟨a,b,c,d⟩=⟨(Cc a b-Ba c d) / 16777216,Mx (Ba a b-Cc c d) 16777216,2*m3 / 16777216,Mx (2*n3) 16777216⟩:=by unfold Bx.sq;rw[vm,vn]
 rw[hsq];generalize Cc a b=s1 at *;generalize Cc c d=s3 at *;generalize Ba a b=s2 at *;generalize Ba c d=s4 at *;obtain⟨D1,w1,e1⟩:∃x,wrap64 (s1-s4)=x/\s1-s4=x:=⟨_,Ev (by omega) (by omega),rfl⟩
 obtain⟨D2,w2,e2⟩:∃x,wrap64 (s2-s3)=x/\s2-s3=x:=⟨_,Ev (by omega) (by omega),rfl⟩
 obtain⟨D3,w3,e3⟩:∃x,wrap64 (2*m3)=x/\2*m3=x:=⟨_,Ev (by omega) (by omega),rfl⟩
 obtain⟨D4,w4,e4⟩:∃x,wrap64 (2*n3)=x/\2*n3=x:=⟨_,Ev (by omega) (by omega),rfl⟩
 rw[e1,e2,e3,e4];have HF1:=Aly (Gp D1 16777216 (by decide) (by omega) (by omega))
 have HF2:=Aly (Ko D2 16777216 (by decide) (by omega) (by omega))
 have HF3:=Aly (Gp D3 16777216 (by decide) (by omega) (by omega))
 have HF4:=Aly (Ko D4 16777216 (by decide) (by omega) (by omega))
 have HD:=Aly (Wl (D1 / 16777216) (Mx D2 16777216) (D3 / 16777216) (Mx D4 16777216));obtain⟨o1,o2,o3,o4,o5,hx⟩:=Ig ⟨D1 / 16777216,Mx D2 16777216,D3 / 16777216,Mx D4 16777216⟩;rw[hx]at HD;rw[hx];clear b1 b2 b3 b4 b5 b6 l1 l2 l3 l4 u1 u2 u3 u4 ep eq er et v1 v2 v3 z1 z2 z3 vm vn bm bn hsq e1 e2 e3 e4 hx;generalize D1 / 16777216=F1 at *;generalize Mx D2 16777216=F2 at *;generalize D3 / 16777216=F3 at *;generalize Mx D4 16777216=F4 at *
 go_enter Vp.func137,Tryz.ntmps137
 go_wp2_with fail
 refine(Bm a b c d _).mono ?_
 rintro e w1 ⟨rfl,hb⟩;replace X0:=X0.step hb;replace X1:=X1.step hb;clear hb;have x0:=X0.cell 0 _ rfl;have x1:=X0.cell 1 _ rfl;have x2:=X0.cell 2 _ rfl;have x3:=X0.cell 3 _ rfl;rw[hv];clear X0
 go_wp2_with fail
 refine(HQ.out _).mono ?_
 rintro e w2 ⟨rfl,rfl⟩
 go_wp2_with fail
 refine(HR.out _).mono ?_
 rintro e w2 ⟨rfl,rfl⟩
 go_wp2_with fail
 refine(HF1.out _).mono ?_
 rintro e w2 ⟨rfl,rfl⟩
 go_wp2_with fail
 refine(HF2.out _).mono ?_
 rintro e w2 ⟨rfl,rfl⟩
 go_wp2_with fail
 refine(HF3.out _).mono ?_
 rintro e w2 ⟨rfl,rfl⟩
 go_wp2_with fail
 refine(HF4.out _).mono ?_
 rintro e w2 ⟨rfl,rfl⟩
 go_wp2_with fail
 refine(HD.out _).mono ?_
 rintro e w3 ⟨rfl,hb⟩;replace X1:=X1.step hb;clear hb x0 x1 x2 x3;have c0:=X1.cell 0 _ rfl;have c1:=X1.cell 1 _ rfl;have c2:=X1.cell 2 _ rfl;have c3:=X1.cell 3 _ rfl;have f0:=X1.frozen 0;have f1:=X1.frozen 1;have f2:=X1.frozen 2;have f3:=X1.frozen 3;have HB:=Aly X1.old;clear X1
 go_wp2
 exact Am5 (v:=.tuple #[.agg #[.int .i64 o1,.int .i64 o2,.int .i64 o3,.int .i64 o4],.bool o5]) (by simp[results,Tryz.f137,go_sem,c0,c1,c2,c3]) rfl ⟨rfl,HF.out _ HB.out _ _ _ _⟩
end
section
open Go.RowKit
theorem Kh {x:Bx}(h:x.ok=true):-32768<=x.coarse.a/\x.coarse.a<=32768 /\(-32768<=x.coarse.b/\x.coarse.b<=32768)/\-32768<=x.coarse.c/\x.coarse.c<=32768/\-32768<=x.coarse.d/\x.coarse.d<=32768:=by
 obtain⟨b1,b2,b3,b4,b5,b6⟩:=Bx.bd h;unfold Bx.coarse Mx;dsimp only
 omega
theorem Pq (a b c d:Int)(hv:Ap a b c d=true)(w:World):Calls Vp.prog 133 #[.agg #[.int .i64 a,.int .i64 b,.int .i64 c,.int .i64 d]] w fun e w'=>e=.returned (Bx.coarse ⟨a,b,c,d⟩).val/\Below w.heap.size w w':=by
 have X0:A7 w w.heap.size #[.int .i64 a,.int .i64 b,.int .i64 c,.int .i64 d] 93 (((w.alloc (.cells #[.int .i64 a,.int .i64 b,.int .i64 c,.int .i64 d] 93)).alloc (.cells #[.int .i64 0,.int .i64 0,.int .i64 0,.int .i64 0] 93))):=(A7.new w _ _).alloc _
 have X1:A7 w (w.heap.size+1) #[.int .i64 0,.int .i64 0,.int .i64 0,.int .i64 0] 93 (((w.alloc (.cells #[.int .i64 a,.int .i64 b,.int .i64 c,.int .i64 d] 93)).alloc (.cells #[.int .i64 0,.int .i64 0,.int .i64 0,.int .i64 0] 93))):=by
  have:=(A7.new (w.alloc (.cells #[.int .i64 a,.int .i64 b,.int .i64 c,.int .i64 d] 93)) #[.int .i64 0,.int .i64 0,.int .i64 0,.int .i64 0] 93).up (w0:=w) ((Amc _ _).alloc (Am0 _) _)
  rwa [An5]at this
 have HF:Hid (∀W,Below w.heap.size w W->∀u0 u1 u2 u3,Below w.heap.size w ((((W.setCell ⟨w.heap.size+1,0,none⟩ u0).setCell ⟨w.heap.size+1,1,none⟩ u1).setCell ⟨w.heap.size+1,2,none⟩ u2).setCell ⟨w.heap.size+1,3,none⟩ u3)):=fun W h u0 u1 u2 u3 =>
  (((h.setCell (p:=⟨w.heap.size+1,0,none⟩) (by simp) _).setCell (p:=⟨w.heap.size+1,1,none⟩) (by simp) _).setCell (p:=⟨w.heap.size+1,2,none⟩) (by simp) _).setCell (p:=⟨w.heap.size+1,3,none⟩) (by simp) _
 obtain⟨b1,b2,b3,b4,b5,b6⟩:=Bx.bd (x:=⟨a,b,c,d⟩) hv;dsimp only at b1 b2 b3 b4 b5 b6;have HF1:=Aly (Gp a 4096 (by decide) (by omega) (by omega))
 have HF2:=Aly (Ko b 4096 (by decide) (by omega) (by omega))
 have HF3:=Aly (Gp c 4096 (by decide) (by omega) (by omega))
 have HF4:=Aly (Ko d 4096 (by decide) (by omega) (by omega))
 show Calls Vp.prog 133 #[.agg #[.int .i64 a,.int .i64 b,.int .i64 c,.int .i64 d]] w fun e w'=>e=.returned (.agg #[.int .i64 (a / 4096),.int .i64 (Mx b 4096),.int .i64 (c / 4096),.int .i64 (Mx d 4096)])/\Below w.heap.size w w'
 clear b1 b2 b3 b4 b5 b6 hv;generalize a / 4096=q1 at *;generalize Mx b 4096=q2 at *;generalize c / 4096=q3 at *;generalize Mx d 4096=q4 at *
 go_enter Vp.func133,Tryz.ntmps133
 go_upto_region 1 with fail
 have x0:=X0.cell 0 _ rfl;have x1:=X0.cell 1 _ rfl;have x2:=X0.cell 2 _ rfl;have x3:=X0.cell 3 _ rfl;have c0:=X1.cell 0 _ rfl;have c1:=X1.cell 1 _ rfl;have c2:=X1.cell 2 _ rfl;have c3:=X1.cell 3 _ rfl;have f0:=X1.frozen 0;have f1:=X1.frozen 1;have f2:=X1.frozen 2;have f3:=X1.frozen 3;have HB:=Aly X1.old;have HB2:=Aly (X1.step ((Bp.refl _).drew.below _)).old;clear X0 X1;generalize ((w.alloc (.cells #[.int .i64 a,.int .i64 b,.int .i64 c,.int .i64 d] 93)).alloc (.cells #[.int .i64 0,.int .i64 0,.int .i64 0,.int .i64 0] 93))=W at *
 go_region_held3 (fun w'=>w'.cell? ⟨w.heap.size,0,none⟩=some (.int .i64 a)/\w'.cell? ⟨w.heap.size,1,none⟩=some (.int .i64 b)/\w'.cell? ⟨w.heap.size,2,none⟩=some (.int .i64 c)/\w'.cell? ⟨w.heap.size,3,none⟩=some (.int .i64 d)) (go_keep) (first
  |(go_at_call 168;(first |(with_reducible refine(HF1.out _).mono ?_) |(with_reducible refine(HF3.out _).mono ?_));rintro e w' ⟨rfl,rfl⟩)
  |(go_at_call 169;(first |(with_reducible refine(HF2.out _).mono ?_) |(with_reducible refine(HF4.out _).mono ?_));rintro e w' ⟨rfl,rfl⟩))
 all_goals
  go_wp2
  first
   | exact Am5 (v:=.agg #[.int .i64 q1,.int .i64 q2,.int .i64 q3,.int .i64 q4]) (by simp[results,Tryz.f133,go_sem,c0,c1,c2,c3]) rfl ⟨rfl,HF.out _ HB2.out _ _ _ _⟩
   | exact Am5 (v:=.agg #[.int .i64 q1,.int .i64 q2,.int .i64 q3,.int .i64 q4]) (by simp[results,Tryz.f133,go_sem,c0,c1,c2,c3]) rfl ⟨rfl,(HF.out _ HB.out _ _ _ _).trans ((Bp.refl _).drew.below _)⟩
   | trace_state
theorem Xu (a b c d:Int)(hv:Ap a b c d=true)(w:World):Calls Vp.prog 92 #[.agg #[.int .i64 a,.int .i64 b,.int .i64 c,.int .i64 d]] w fun e w'=>e=.returned (.tuple #[.int .i64 (Jv ⟨a,b,c,d⟩),.bool true])/\Below w.heap.size w w':=by
 obtain⟨b1,b2,b3,b4⟩:=Kh (x:=⟨a,b,c,d⟩) hv;have hc:=Pq a b c d hv;have HC:Hid (∀w,Calls Vp.prog 133 #[.agg #[.int .i64 a,.int .i64 b,.int .i64 c,.int .i64 d]] w fun e w'=>e=.returned (.agg #[.int .i64 (Bx.coarse ⟨a,b,c,d⟩).a,.int .i64 (Bx.coarse ⟨a,b,c,d⟩).b,.int .i64 (Bx.coarse ⟨a,b,c,d⟩).c,.int .i64 (Bx.coarse ⟨a,b,c,d⟩).d])/\Below w.heap.size w w'):=hc
 clear hc;have HX:Hid (Jv ⟨a,b,c,d⟩=Ba ((Bx.coarse ⟨a,b,c,d⟩).a+4096) ((Bx.coarse ⟨a,b,c,d⟩).b+4096)+Ba (Bx.coarse ⟨a,b,c,d⟩).c (Bx.coarse ⟨a,b,c,d⟩).d-1048576):=rfl;generalize Jv ⟨a,b,c,d⟩=R at *;generalize (Bx.coarse ⟨a,b,c,d⟩).a=p at *;generalize (Bx.coarse ⟨a,b,c,d⟩).b=q at *;generalize (Bx.coarse ⟨a,b,c,d⟩).c=r at *;generalize (Bx.coarse ⟨a,b,c,d⟩).d=s at *;have l3:=Cm (l:=p+4096) (h:=q+4096) (k:=40000) (by omega) (by omega) (by omega) (by omega)
 have l4:=Cm (l:=r) (h:=s) (k:=40000) (by omega) (by omega) (by omega) (by omega)
 obtain⟨P,k1,e1⟩:∃x,wrap64 (p+4096)=x/\p+4096=x:=⟨_,Ev (by omega) (by omega),rfl⟩
 obtain⟨Q,k2,e2⟩:∃x,wrap64 (q+4096)=x/\q+4096=x:=⟨_,Ev (by omega) (by omega),rfl⟩
 have HQ:=Aly (Cu P Q (by omega) (by omega) (by omega) (by omega))
 have HR:=Aly (Cu r s (by omega) (by omega) (by omega) (by omega))
 have h:=HX.out;rw[e1,e2]at h l3;generalize Ba P Q=s2 at *;generalize Ba r s=s4 at *;generalize Cc P Q=s1 at *;generalize Cc r s=s3 at *;obtain⟨S,k3,e3⟩:∃x,wrap64 (s2+s4)=x/\s2+s4=x:=⟨_,Ev (by omega) (by omega),rfl⟩
 rw[e3]at h;have k4:wrap64 (S-1048576)=R:=by rw[h];exact Ev (by omega) (by omega)
 clear HX h l3 l4 e1 e2 e3 b1 b2 b3 b4;have X:=A7.new w #[.int .i64 a,.int .i64 b,.int .i64 c,.int .i64 d] 93
 go_enter Vp.func92,Tryz.ntmps92
 go_wp2_with fail
 refine(Bm a b c d _).mono ?_
 rintro e w1 ⟨rfl,hb⟩;replace X:=X.step hb;clear hb;have x0:=X.cell 0 _ rfl;have x1:=X.cell 1 _ rfl;have x2:=X.cell 2 _ rfl;have x3:=X.cell 3 _ rfl;rw[hv]
 go_wp2_with fail
 refine(HC.out _).mono ?_
 rintro e w2 ⟨rfl,hb⟩;replace X:=X.step hb;clear hb x0 x1 x2 x3;have Y:=(A7.new w2 #[.int .i64 p,.int .i64 q,.int .i64 r,.int .i64 s] 93).up X.old;have y0:=Y.cell 0 _ rfl;have y1:=Y.cell 1 _ rfl;have y2:=Y.cell 2 _ rfl;have y3:=Y.cell 3 _ rfl;have HB:=Aly Y.old;clear X Y
 go_wp2_with fail
 refine(HQ.out _).mono ?_
 rintro e w3 ⟨rfl,rfl⟩
 go_wp2_with fail
 refine(HR.out _).mono ?_
 rintro e w3 ⟨rfl,rfl⟩
 go_wp2
 all_goals
  exact Am5 (v:=.tuple #[.int .i64 R,.bool true]) (by simp[results,Tryz.f92,go_sem,k1,k2,k3,k4]) rfl ⟨rfl,HB.out⟩
theorem Oe (a b c d:Int)(hv:Ap a b c d=true)(w:World):Calls Vp.prog 91 #[.agg #[.int .i64 a,.int .i64 b,.int .i64 c,.int .i64 d]] w fun e w'=>e=.returned (.tuple #[.int .i64 (Jq ⟨a,b,c,d⟩),.bool true])/\Below w.heap.size w w':=by
 obtain⟨b1,b2,b3,b4⟩:=Kh (x:=⟨a,b,c,d⟩) hv;have hc:=Pq a b c d hv;have HC:Hid (∀w,Calls Vp.prog 133 #[.agg #[.int .i64 a,.int .i64 b,.int .i64 c,.int .i64 d]] w fun e w'=>e=.returned (.agg #[.int .i64 (Bx.coarse ⟨a,b,c,d⟩).a,.int .i64 (Bx.coarse ⟨a,b,c,d⟩).b,.int .i64 (Bx.coarse ⟨a,b,c,d⟩).c,.int .i64 (Bx.coarse ⟨a,b,c,d⟩).d])/\Below w.heap.size w w'):=hc
 clear hc;have HX:Hid (Jq ⟨a,b,c,d⟩=(if Lj ⟨a,b,c,d⟩<0 then Cc ((Bx.coarse ⟨a,b,c,d⟩).a-1024) ((Bx.coarse ⟨a,b,c,d⟩).b-1024)+Cc (Bx.coarse ⟨a,b,c,d⟩).c (Bx.coarse ⟨a,b,c,d⟩).d else Ba ((Bx.coarse ⟨a,b,c,d⟩).a-1024) ((Bx.coarse ⟨a,b,c,d⟩).b-1024)+Ba (Bx.coarse ⟨a,b,c,d⟩).c (Bx.coarse ⟨a,b,c,d⟩).d)*Lj ⟨a,b,c,d⟩-Cc (Bx.coarse ⟨a,b,c,d⟩).c (Bx.coarse ⟨a,b,c,d⟩).d*4194304):=rfl
 have HG:Hid (Lj ⟨a,b,c,d⟩=Ba ((Bx.coarse ⟨a,b,c,d⟩).a-1024) ((Bx.coarse ⟨a,b,c,d⟩).b-1024)+Ba (Bx.coarse ⟨a,b,c,d⟩).c (Bx.coarse ⟨a,b,c,d⟩).d +((Bx.coarse ⟨a,b,c,d⟩).b-1024)*4096):=rfl;generalize Jq ⟨a,b,c,d⟩=R at *;generalize Lj ⟨a,b,c,d⟩=G at *;generalize (Bx.coarse ⟨a,b,c,d⟩).a=p at *;generalize (Bx.coarse ⟨a,b,c,d⟩).b=q at *;generalize (Bx.coarse ⟨a,b,c,d⟩).c=r at *;generalize (Bx.coarse ⟨a,b,c,d⟩).d=s at *;have l1:=Ec (l:=p-1024) (h:=q-1024) (k:=33792) (by omega) (by omega)
 have l2:=Ec (l:=r) (h:=s) (k:=33792) (by omega) (by omega)
 have l3:=Cm (l:=p-1024) (h:=q-1024) (k:=33792) (by omega) (by omega) (by omega) (by omega)
 have l4:=Cm (l:=r) (h:=s) (k:=33792) (by omega) (by omega) (by omega) (by omega)
 obtain⟨P,k1,e1⟩:∃x,wrap64 (p-1024)=x/\p-1024=x:=⟨_,Ev (by omega) (by omega),rfl⟩
 obtain⟨Q,k2,e2⟩:∃x,wrap64 (q-1024)=x/\q-1024=x:=⟨_,Ev (by omega) (by omega),rfl⟩
 have HQ:=Aly (Cu P Q (by omega) (by omega) (by omega) (by omega))
 have HR:=Aly (Cu r s (by omega) (by omega) (by omega) (by omega))
 have h:=HX.out;have g:=HG.out;rw[e1,e2]at h g l3 l1;generalize Ba P Q=s2 at *;generalize Ba r s=s4 at *;generalize Cc P Q=s1 at *;generalize Cc r s=s3 at *;obtain⟨S,k3,e3⟩:∃x,wrap64 (s2+s4)=x/\s2+s4=x:=⟨_,Ev (by omega) (by omega),rfl⟩
 obtain⟨S0,k4,e4⟩:∃x,wrap64 (s1+s3)=x/\s1+s3=x:=⟨_,Ev (by omega) (by omega),rfl⟩
 obtain⟨K,k5,e5⟩:∃x,wrap64 (Q*4096)=x/\Q*4096=x:=⟨_,Ev (by omega) (by omega),rfl⟩
 rw[e3,e4]at h;rw[e3,e5]at g;have k6:wrap64 (S+K)=G:=by rw[g];exact Ev (by omega) (by omega)
 have k7:wrap64 (s3*4194304)=s3*4194304:=Ev (by omega) (by omega)
 have bS:0<=S/\S<=2283798528:=by omega
 have bS0:0<=S0/\S0<=2283798528:=by omega
 have bG:-2283798528<=G/\G<=2500000000:=by omega
 have ym:∀x:Int,0<=x->x<=2283798528->-5800000000000000000<=x*G/\x*G<=5800000000000000000:=fun x h0 h1=>by
  rcases Apa 0 G with hg|hg
  ·have:=Anl h0 hg;have:=Aq4 h1 bG.2 hg (by omega)
   omega
  ·have h2:=Anl h0 (show 0<=-G by omega)
   have h3:=Aq4 h1 (show -G<=2283798528 by omega) (by omega) (by omega)
   rw[Int.mul_neg]at h2 h3
   omega
 have y1:=ym S bS.1 bS.2;have y2:=ym S0 bS0.1 bS0.2;obtain⟨T,k8,e8⟩:∃x,wrap64 (s3*4194304)=x/\s3*4194304=x:=⟨_,k7,rfl⟩;rw[e8]at h;obtain⟨M,k9,e9⟩:∃x,wrap64 (S*G)=x/\S*G=x:=⟨_,Ev (by omega) (by omega),rfl⟩
 obtain⟨M0,k10,e10⟩:∃x,wrap64 (S0*G)=x/\S0*G=x:=⟨_,Ev (by omega) (by omega),rfl⟩
 have k11:¬G<0->wrap64 (M-T)=R:=fun hg=>by rw[h,Amd hg,e9];exact Ev (by omega) (by omega)
 have k12:G<0->wrap64 (M0-T)=R:=fun hg=>by rw[h,Amo hg,e10];exact Ev (by omega) (by omega)
 have HW11:=Aly k11;have HW12:=Aly k12;clear HX HG h g l1 l2 l3 l4 e1 e2 e3 e4 e5 e8 e9 e10 b1 b2 b3 b4 y1 y2 ym bS bS0 bG k7 k11 k12;have X:=A7.new w #[.int .i64 a,.int .i64 b,.int .i64 c,.int .i64 d] 93
 go_enter Vp.func91,Tryz.ntmps91
 go_wp2_with fail
 refine(Bm a b c d _).mono ?_
 rintro e w1 ⟨rfl,hb⟩;replace X:=X.step hb;clear hb;have x0:=X.cell 0 _ rfl;have x1:=X.cell 1 _ rfl;have x2:=X.cell 2 _ rfl;have x3:=X.cell 3 _ rfl;rw[hv]
 go_wp2_with fail
 refine(HC.out _).mono ?_
 rintro e w2 ⟨rfl,hb⟩;replace X:=X.step hb;clear hb x0 x1 x2 x3;have Y:=(A7.new w2 #[.int .i64 p,.int .i64 q,.int .i64 r,.int .i64 s] 93).up X.old;have y0:=Y.cell 0 _ rfl;have y1:=Y.cell 1 _ rfl;have y2:=Y.cell 2 _ rfl;have y3:=Y.cell 3 _ rfl;have HB:=Aly Y.old;clear X Y
 go_wp2_with fail
 refine(HQ.out _).mono ?_
 rintro e w3 ⟨rfl,rfl⟩
 go_wp2_with fail
 refine(HR.out _).mono ?_
 rintro e w3 ⟨rfl,rfl⟩
 by_cases hg:G<0
 ·have k13:=HW12.out (by omega)
  go_wp2
  exact Am5 (v:=.tuple #[.int .i64 R,.bool true]) (by simp[results,Tryz.f91,go_sem,k1,k2,k3,k4,k5,k6,k8,k9,k10,k13]) rfl ⟨rfl,HB.out⟩
 ·have k13:=HW11.out (by omega)
  go_wp2
  exact Am5 (v:=.tuple #[.int .i64 R,.bool true]) (by simp[results,Tryz.f91,go_sem,k1,k2,k3,k4,k5,k6,k8,k9,k10,k13]) rfl ⟨rfl,HB.out⟩
end
section
open Go.RowKit
theorem A2x (w:World)(C0:Array Value)(T0:TypeId)(C1:Array Value)(T1:TypeId):A7 w w.heap.size C0 T0 ((w.alloc (.cells C0 T0)).alloc (.cells C1 T1))/\A7 w (w.heap.size+1) C1 T1 ((w.alloc (.cells C0 T0)).alloc (.cells C1 T1)):=by
 refine⟨(A7.new w C0 T0).alloc _,?_⟩
 have:=(A7.new (w.alloc (.cells C0 T0)) C1 T1).up (w0:=w) ((Amc _ _).alloc (Am0 _) _)
 rwa [An5]at this
theorem U7 (w:World)(C0:Array Value)(T0:TypeId)(C1:Array Value)(T1:TypeId)(C2:Array Value)(T2:TypeId):A7 w w.heap.size C0 T0 (((w.alloc (.cells C0 T0)).alloc (.cells C1 T1)).alloc (.cells C2 T2)) /\
 A7 w (w.heap.size+1) C1 T1 (((w.alloc (.cells C0 T0)).alloc (.cells C1 T1)).alloc (.cells C2 T2))/\A7 w (w.heap.size+1+1) C2 T2 (((w.alloc (.cells C0 T0)).alloc (.cells C1 T1)).alloc (.cells C2 T2)):=by
 obtain⟨h1,h2⟩:=A2x w C0 T0 C1 T1
 refine⟨h1.alloc _,h2.alloc _,?_⟩
 have:=(A7.new ((w.alloc (.cells C0 T0)).alloc (.cells C1 T1)) C2 T2).up (w0:=w) h1.old
 rwa [An5,An5]at this
theorem A3g (w:World)(o0 o1:Obj):Below w.heap.size w ((w.alloc o0).alloc o1):=((Amc _ w).alloc (Am0 _) _).alloc (by simp) _
theorem A3h (w:World)(o0 o1 o2:Obj):Below w.heap.size w (((w.alloc o0).alloc o1).alloc o2):=(A3g w o0 o1).alloc (by simp;omega) _
theorem Yt {w W:World}(h:Below w.heap.size w W){b:Nat}(hb:w.heap.size<=b)(u0 u1:Value):Below w.heap.size w ((W.setCell ⟨b,0,none⟩ u0).setCell ⟨b,1,none⟩ u1) :=
 (h.setCell (p:=⟨b,0,none⟩) hb u0).setCell (p:=⟨b,1,none⟩) hb u1
theorem X3 (a b c d:Int)(h1:-1000000000000000000<=a)(h2:a<=1000000000000000000)(h3:-1000000000000000000<=b)(h4:b<=1000000000000000000)(h5:-1000000000000000000<=c)(h6:c<=1000000000000000000)(h7:-1000000000000000000<=d)(h8:d<=1000000000000000000)(w:World) :
 Calls Vp.prog 162 #[.agg #[.int .i64 a,.int .i64 b],.agg #[.int .i64 c,.int .i64 d]] w fun e w'=>e=.returned (.agg #[.int .i64 (a-d),.int .i64 (b-c)])/\Below w.heap.size w w':=by
 obtain⟨X,Y,Z⟩:=U7 w #[.int .i64 a,.int .i64 b] 202 #[.int .i64 c,.int .i64 d] 202 #[.int .i64 0,.int .i64 0] 202;obtain⟨p,e1,f1⟩:∃x,wrap64 (a-d)=x/\a-d=x:=⟨_,Ev (by omega) (by omega),rfl⟩
 obtain⟨q,e2,f2⟩:∃x,wrap64 (b-c)=x/\b-c=x:=⟨_,Ev (by omega) (by omega),rfl⟩
 rw[f1,f2];have x0:=X.cell 0 _ rfl;have x1:=X.cell 1 _ rfl;have y0:=Y.cell 0 _ rfl;have y1:=Y.cell 1 _ rfl;have z0:=Z.cell 0 _ rfl;have z1:=Z.cell 1 _ rfl;have g0:=Z.frozen 0;have g1:=Z.frozen 1;have HB:=Aly (fun u0 u1=>Yt X.old (b:=w.heap.size+1+1) (by omega) u0 u1)
 clear X Y Z h1 h2 h3 h4 h5 h6 h7 h8 f1 f2
 go_enter Vp.func162,Tryz.ntmps162
 go_wp2
 exact Am5 (v:=.agg #[.int .i64 p,.int .i64 q]) (by simp[results,Tryz.f162,go_sem,e1,e2]) rfl ⟨rfl,A3h _ _ _ _⟩
theorem Gf (a b c d:Int)(h1:-1000000000000000000<=a)(h2:a<=1000000000000000000)(h3:-1000000000000000000<=b)(h4:b<=1000000000000000000)(h5:-1000000000000000000<=c)(h6:c<=1000000000000000000)(h7:-1000000000000000000<=d)(h8:d<=1000000000000000000)(w:World) :
 Calls Vp.prog 164 #[.agg #[.int .i64 a,.int .i64 b],.agg #[.int .i64 c,.int .i64 d]] w fun e w'=>e=.returned (.agg #[.int .i64 (a+c),.int .i64 (b+d)])/\Below w.heap.size w w':=by
 obtain⟨X,Y,Z⟩:=U7 w #[.int .i64 a,.int .i64 b] 202 #[.int .i64 c,.int .i64 d] 202 #[.int .i64 0,.int .i64 0] 202;obtain⟨p,e1,f1⟩:∃x,wrap64 (a+c)=x/\a+c=x:=⟨_,Ev (by omega) (by omega),rfl⟩
 obtain⟨q,e2,f2⟩:∃x,wrap64 (b+d)=x/\b+d=x:=⟨_,Ev (by omega) (by omega),rfl⟩
 rw[f1,f2];have x0:=X.cell 0 _ rfl;have x1:=X.cell 1 _ rfl;have y0:=Y.cell 0 _ rfl;have y1:=Y.cell 1 _ rfl;have z0:=Z.cell 0 _ rfl;have z1:=Z.cell 1 _ rfl;have g0:=Z.frozen 0;have g1:=Z.frozen 1;have HB:=Aly (fun u0 u1=>Yt X.old (b:=w.heap.size+1+1) (by omega) u0 u1)
 clear X Y Z h1 h2 h3 h4 h5 h6 h7 h8 f1 f2
 go_enter Vp.func164,Tryz.ntmps164
 go_wp2
 exact Am5 (v:=.agg #[.int .i64 p,.int .i64 q]) (by simp[results,Tryz.f164,go_sem,e1,e2]) rfl ⟨rfl,A3h _ _ _ _⟩
theorem Ej (a b:Int)(h1:-1000000000<=a)(h2:a<=1000000000)(h3:-1000000000<=b)(h4:b<=1000000000)(w:World) :
 Calls Vp.prog 163 #[.agg #[.int .i64 a,.int .i64 b]] w fun e w'=>e=.returned (.agg #[.int .i64 (Cc a b),.int .i64 (Ba a b)])/\Below w.heap.size w w':=by
 obtain⟨X,Z⟩:=A2x w #[.int .i64 a,.int .i64 b] 202 #[.int .i64 0,.int .i64 0] 202;have a1:=Q9 a;have a2:=Ty h1 h2;have b1:=Q9 b;have b2:=Ty h3 h4;obtain⟨p,hp,hpv⟩:∃p,wrap64 (a*a)=p/\p=a*a:=⟨_,rfl,Ev (by omega) (by omega)⟩
 obtain⟨q,hq,hqv⟩:∃q,wrap64 (b*b)=q/\q=b*b:=⟨_,rfl,Ev (by omega) (by omega)⟩
 have HV:Hid (Cc a b=(if a<=0/\0<=b then 0 else min p q)/\Ba a b=max p q):=by rw[hpv,hqv];exact⟨rfl,rfl⟩
 clear a1 a2 b1 b2 h1 h2 h3 h4 hpv hqv;generalize Cc a b=r at *;generalize Ba a b=s at *;obtain⟨m,hm⟩:∃m,(if q<p then q else p)=m:=⟨_,rfl⟩
 obtain⟨n,hn⟩:∃n,(if p<q then q else p)=n:=⟨_,rfl⟩
 have HM:Hid (m=min p q):=by show m=_;rw[<-hm];split<;>omega
 have HN:Hid (n=max p q):=by show n=_;rw[<-hn];split<;>omega
 have hm':=HM.out.symm;have hn':=HN.out.symm;have x0:=X.cell 0 _ rfl;have x1:=X.cell 1 _ rfl;have z0:=Z.cell 0 _ rfl;have z1:=Z.cell 1 _ rfl;have g0:=Z.frozen 0;have g1:=Z.frozen 1;have HX:=Aly X;have HZ:=Aly Z;clear X Z
 by_cases h0:a<=0
 ·by_cases h1:0<=b
  ·have h:=HV.out;rw[Amo ⟨h0,h1⟩,<-HN.out]at h;rw[h.1,h.2];clear HV HM HN h
   go_enter Vp.func163,Tryz.ntmps163
   go_upto_region 1 with fail
   go_quiet (fail)
   clear x0 x1 z0 z1 g0 g1;have X:=HX.out.step (((Bp.refl _).drewN nq).below _);have Z:=HZ.out.step (((Bp.refl _).drewN nq).below _);have x0:=X.cell 0 _ rfl;have x1:=X.cell 1 _ rfl;have z0:=Z.cell 0 _ rfl;have z1:=Z.cell 1 _ rfl;have g0:=Z.frozen 0;have g1:=Z.frozen 1;have HB:=Aly (fun u0 u1=>Yt X.old (b:=w.heap.size+1) (by omega) u0 u1)
   clear X Z
   go_wp2
   all_goals
    exact Am5 (v:=.agg #[.int .i64 0,.int .i64 n]) (by simp[results,Tryz.f163,go_sem,z0,z1]) rfl ⟨rfl,HB.out _ _⟩
  ·have h:=HV.out;rw[Amd (by omega),<-HN.out,<-HM.out]at h
   rw[h.1,h.2];clear HV HM HN h
   go_enter Vp.func163,Tryz.ntmps163
   go_upto_region 1 with fail
   go_quiet (fail)
   clear x0 x1 z0 z1 g0 g1;have X:=HX.out.step (((Bp.refl _).drewN nq).below _);have Z:=HZ.out.step (((Bp.refl _).drewN nq).below _);have x0:=X.cell 0 _ rfl;have x1:=X.cell 1 _ rfl;have z0:=Z.cell 0 _ rfl;have z1:=Z.cell 1 _ rfl;have g0:=Z.frozen 0;have g1:=Z.frozen 1;have HB:=Aly (fun u0 u1=>Yt X.old (b:=w.heap.size+1) (by omega) u0 u1)
   clear X Z
   go_wp2
   all_goals
    exact Am5 (v:=.agg #[.int .i64 m,.int .i64 n]) (by simp[results,Tryz.f163,go_sem,z0,z1]) rfl ⟨rfl,HB.out _ _⟩
 ·have h:=HV.out;rw[Amd (by omega),<-HN.out,<-HM.out]at h
  rw[h.1,h.2];clear HV HM HN h
  go_enter Vp.func163,Tryz.ntmps163
  go_upto_region 1 with fail
  go_quiet (fail)
  clear x0 x1 z0 z1 g0 g1;have X:=HX.out.step (((Bp.refl _).drewN nq).below _);have Z:=HZ.out.step (((Bp.refl _).drewN nq).below _);have x0:=X.cell 0 _ rfl;have x1:=X.cell 1 _ rfl;have z0:=Z.cell 0 _ rfl;have z1:=Z.cell 1 _ rfl;have g0:=Z.frozen 0;have g1:=Z.frozen 1;have HB:=Aly (fun u0 u1=>Yt X.old (b:=w.heap.size+1) (by omega) u0 u1)
  clear X Z
  go_wp2
  all_goals
   exact Am5 (v:=.agg #[.int .i64 m,.int .i64 n]) (by simp[results,Tryz.f163,go_sem,z0,z1]) rfl ⟨rfl,HB.out _ _⟩
theorem Yp {P:Program}{w:World}(ts:Array TypeId)(t:TypeId)(k k1 k2 k3:IntKind)(x y z u:Int):(Builtin.min_ ts t #[.int k x,.int k1 y,.int k2 z,.int k3 u]).run P w=.ok (.int k (if u <(if z <(if y<x then y else x)then z else(if y<x then y else x))then u else(if z <(if y<x then y else x)then z else(if y<x then y else x)))) w:=by
 simp[Builtin.min_,Builtin.min2,List.foldlM]
theorem Yo {P:Program}{w:World}(ts:Array TypeId)(t:TypeId)(k k1 k2 k3:IntKind)(x y z u:Int):(Builtin.max_ ts t #[.int k x,.int k1 y,.int k2 z,.int k3 u]).run P w=.ok (.int k (if(if(if x<y then y else x)<z then z else(if x<y then y else x))<u then u else(if(if x<y then y else x)<z then z else(if x<y then y else x)))) w:=by
 simp[Builtin.max_,Builtin.max2,List.foldlM]
attribute [local go_sem] Yp Yo
theorem wrap_mul {a b k:Int}(h:-(k*k)<=a*b/\a*b<=k*k)(hk:k*k<=9223372036854775807):∃p,wrap64 (a*b)=p/\a*b=p:=⟨_,Ev (by omega) (by omega),rfl⟩
theorem A4v (a b c d:Int)(h1:-1000000000<=a)(h2:a<=1000000000)(h3:-1000000000<=b)(h4:b<=1000000000)(h5:-1000000000<=c)(h6:c<=1000000000)(h7:-1000000000<=d)(h8:d<=1000000000)(w:World) :
 Calls Vp.prog 220 #[.agg #[.int .i64 a,.int .i64 b],.agg #[.int .i64 c,.int .i64 d]] w fun e w'=>e=.returned (.agg #[.int .i64 (mLo ⟨a,b,c,d⟩),.int .i64 (mHi ⟨a,b,c,d⟩)])/\Below w.heap.size w w':=by
 obtain⟨X,Y,Z⟩:=U7 w #[.int .i64 a,.int .i64 b] 202 #[.int .i64 c,.int .i64 d] 202 #[.int .i64 0,.int .i64 0] 202;obtain⟨p,hp,ep⟩:=wrap_mul (Fw (x:=a) (y:=c) (k:=1000000000) h1 h2 h5 h6) (by decide)
 obtain⟨q,hq,eq⟩:=wrap_mul (Fw (x:=a) (y:=d) (k:=1000000000) h1 h2 h7 h8) (by decide)
 obtain⟨r,hr,er⟩:=wrap_mul (Fw (x:=b) (y:=c) (k:=1000000000) h3 h4 h5 h6) (by decide)
 obtain⟨t,ht,et⟩:=wrap_mul (Fw (x:=b) (y:=d) (k:=1000000000) h3 h4 h7 h8) (by decide)
 obtain⟨m1,g1,v1⟩:∃m,(if q<p then q else p)=m/\m=min p q:=⟨_,rfl,by split<;>omega⟩
 obtain⟨m2,g2,v2⟩:∃m,(if r<m1 then r else m1)=m/\m=min m1 r:=⟨_,rfl,by split<;>omega⟩
 obtain⟨m3,g3,v3⟩:∃m,(if t<m2 then t else m2)=m/\m=min m2 t:=⟨_,rfl,by split<;>omega⟩
 obtain⟨n1,k1,z1⟩:∃m,(if p<q then q else p)=m/\m=max p q:=⟨_,rfl,by split<;>omega⟩
 obtain⟨n2,k2,z2⟩:∃m,(if n1<r then r else n1)=m/\m=max n1 r:=⟨_,rfl,by split<;>omega⟩
 obtain⟨n3,k3,z3⟩:∃m,(if n2<t then t else n2)=m/\m=max n2 t:=⟨_,rfl,by split<;>omega⟩
 have o0:=v1.symm;have o1:=v2.symm;have o2:=v3.symm;have o3:=z1.symm;have o4:=z2.symm;have o5:=z3.symm;have vm:mLo ⟨a,b,c,d⟩=m3:=by unfold mLo;dsimp only;rw[ep,eq,er,et];omega
 have vn:mHi ⟨a,b,c,d⟩=n3:=by unfold mHi;dsimp only;rw[ep,eq,er,et];omega
 rw[vm,vn];have x0:=X.cell 0 _ rfl;have x1:=X.cell 1 _ rfl;have y0:=Y.cell 0 _ rfl;have y1:=Y.cell 1 _ rfl;have z0:=Z.cell 0 _ rfl;have z1':=Z.cell 1 _ rfl;have f0:=Z.frozen 0;have f1:=Z.frozen 1;have HX:=Aly X;have HY:=Aly Y;have HZ:=Aly Z;clear X Y Z h1 h2 h3 h4 h5 h6 h7 h8 ep eq er et v1 v2 v3 z1 z2 z3 vm vn
 go_enter Vp.func220,Tryz.ntmps220
 go_upto_region 1 with fail
 go_quiet (fail)
 clear x0 x1 y0 y1 z0 z1' f0 f1;have X:=HX.out.step (((Bp.refl _).drewN nq).below _);have Y:=HY.out.step (((Bp.refl _).drewN nq).below _);have Z:=HZ.out.step (((Bp.refl _).drewN nq).below _);have HX:=Aly X;have HZ:=Aly Z;have x0:=X.cell 0 _ rfl;have x1:=X.cell 1 _ rfl;have y0:=Y.cell 0 _ rfl;have y1:=Y.cell 1 _ rfl;clear X Y Z
 go_upto_region 2 with fail
 go_quiet (fail)
 clear x0 x1 y0 y1;have X:=HX.out.step (((Bp.refl _).drewN nq).below _);have Z:=HZ.out.step (((Bp.refl _).drewN nq).below _);have z0:=Z.cell 0 _ rfl;have z1':=Z.cell 1 _ rfl;have f0:=Z.frozen 0;have f1:=Z.frozen 1;have HB:=Aly (fun u0 u1=>Yt X.old (b:=w.heap.size+1+1) (by omega) u0 u1)
 clear X Z
 go_wp2
 all_goals
  exact Am5 (v:=.agg #[.int .i64 m3,.int .i64 n3]) (by simp[results,Tryz.f220,go_sem]) rfl ⟨rfl,Yt ((A3h _ _ _ _).trans (((Bp.refl _).drewN _).below _)) (b:=w.heap.size+1+1) (by omega) _ _⟩
def Yu (l h:Int):Bool:=decide (-134217728<=l) && decide (l<=h) && decide (h<=134217728)
theorem Tv (a b:Int)(w:World):Calls Vp.prog 198 #[.agg #[.int .i64 a,.int .i64 b]] w fun e w'=>e=.returned (.bool (Yu a b))/\Below w.heap.size w w':=by
 have X:=A7.new w #[.int .i64 a,.int .i64 b] 202;have x0:=X.cell 0 _ rfl;have x1:=X.cell 1 _ rfl;have HB:=Aly X.old;clear X;unfold Yu
 by_cases h1:-134217728<=a
 ·by_cases h2:a<=b
  ·by_cases h3:b<=134217728
   ·rw[An0 h1,An0 h2,An0 h3]
    go_enter Vp.func198,Tryz.ntmps198
    go_wp2
    go_ret
    exact⟨rfl,HB.out⟩
   ·rw[An0 h1,An0 h2,Ana h3]
    go_enter Vp.func198,Tryz.ntmps198
    go_wp2
    go_ret
    exact⟨rfl,HB.out⟩
  ·rw[An0 h1,Ana h2]
   go_enter Vp.func198,Tryz.ntmps198
   go_wp2
   go_ret
   exact⟨rfl,HB.out⟩
 ·rw[Ana h1]
  go_enter Vp.func198,Tryz.ntmps198
  go_wp2
  go_ret
  exact⟨rfl,HB.out⟩
theorem Nt (a b:Int)(k:Nat)(hk:k<=30)(h1:-4611686018427387904<=a)(h2:a<=4611686018427387904)(h3:-4611686018427387904<=b)(h4:b<=4611686018427387904)(w:World) :
 Calls Vp.prog 193 #[.agg #[.int .i64 a,.int .i64 b],.int .i64 k] w fun e w'=>e=.returned (.agg #[.int .i64 (a / (2^k:Nat)),.int .i64 (Mx b (2^k:Nat))])/\Below w.heap.size w w':=by
 obtain⟨X,Z⟩:=A2x w #[.int .i64 a,.int .i64 b] 202 #[.int .i64 0,.int .i64 0] 202;have x0:=X.cell 0 _ rfl;have x1:=X.cell 1 _ rfl;have z0:=Z.cell 0 _ rfl;have z1:=Z.cell 1 _ rfl;have f0:=Z.frozen 0;have f1:=Z.frozen 1
 have hq:-4611686018427387904 <=(-b) / (2^k:Nat) /\(-b) / (2^k:Nat)<=4611686018427387904:=by
  have hb:(0:Int) <(2^k:Nat):=by have:=Am9 k;omega
  constructor
  ·apply Int.le_ediv_of_mul_le hb
   have:-4611686018427387904 *((2^k:Nat):Int)<=-4611686018427387904*1:=Int.mul_le_mul_of_nonpos_left (by omega) (by omega)
   omega
  ·apply Int.ediv_le_of_le_mul hb
   have:4611686018427387904*1<=4611686018427387904 *((2^k:Nat):Int):=Int.mul_le_mul_of_nonneg_left (by omega) (by omega)
   omega
 have e2:wrap64 (-((-b) / (2^k:Nat)))=Mx b (2^k:Nat):=Ev (by omega) (by omega)
 obtain⟨q1,e1⟩:∃q,a / (2^k:Nat)=q:=⟨_,rfl⟩;obtain⟨q2,e3⟩:∃q,Mx b (2^k:Nat)=q:=⟨_,rfl⟩;rw[e1,e3];rw[e3]at e2
 have HE:Hid (a / 2^k=q1/\wrap64 (-(-b / 2^k))=q2):=by
  have hp:((2^k:Nat):Int)=2^k:=by simp
  rw[hp]at e1 e2
  exact⟨e1,e2⟩
 clear X Z e1 e2 e3 hq
 go_enter Vp.func193,Tryz.ntmps193
 go_upto_region 1 with fail
 go_region
 go_wp2
 exact Am5 (v:=.agg #[.int .i64 q1,.int .i64 q2]) (by simp[results,Tryz.f193,go_sem,HE.out.1,HE.out.2]) rfl ⟨rfl,(A3g _ _ _).trans ((Bp.refl _).drew.below _)⟩
end
section
open Go.RowKit
theorem Ago (a b c d:Int):Ap a b c d=(Yu a b && Yu c d):=by
 unfold Ap Yu H5;rw[Aqa];simp only[Am8,Amt]
 omega
theorem A7.E0 {w0 W:World}{b:Nat}{C:Array Value}{T:TypeId}(h:A7 w0 b C T W){b':Nat}(hb:w0.heap.size<=b')(hne:b≠b')(u0 u1:Value):A7 w0 b C T ((W.setCell ⟨b',0,none⟩ u0).setCell ⟨b',1,none⟩ u1) :=
 (h.other (p:=⟨b',0,none⟩) hb hne u0).other (p:=⟨b',1,none⟩) hb hne u1
theorem A7.Fb {w0 W:World}{b:Nat}{C:Array Value}{T:TypeId}(h:A7 w0 b C T W){b':Nat}(hb:w0.heap.size<=b')(hne:b≠b')(u0 u1 u2 u3:Value):A7 w0 b C T ((((W.setCell ⟨b',0,none⟩ u0).setCell ⟨b',1,none⟩ u1).setCell ⟨b',2,none⟩ u2).setCell ⟨b',3,none⟩ u3) :=
 (h.E0 hb hne u0 u1).other (p:=⟨b',2,none⟩) hb hne u2 |>.other (p:=⟨b',3,none⟩) hb hne u3
theorem A8p {w W:World}(h:Below w.heap.size w W){b:Nat}(hb:w.heap.size<=b)(u0 u1 u2 u3:Value):Below w.heap.size w ((((W.setCell ⟨b,0,none⟩ u0).setCell ⟨b,1,none⟩ u1).setCell ⟨b,2,none⟩ u2).setCell ⟨b,3,none⟩ u3) :=
 ((Yt h hb u0 u1).setCell (p:=⟨b,2,none⟩) hb u2).setCell (p:=⟨b,3,none⟩) hb u3
theorem Eh (a b c d:Int)(w:World):Calls Vp.prog 167 #[.agg #[.int .i64 a,.int .i64 b,.int .i64 c,.int .i64 d]] w fun e w'=>e=.returned (.agg #[.int .i64 a,.int .i64 b,.int .i64 c,.int .i64 d])/\Below w.heap.size w w':=by
 obtain⟨X,Z⟩:=A2x w #[.int .i64 a,.int .i64 b,.int .i64 c,.int .i64 d] 93 #[.int .i64 0,.int .i64 0,.int .i64 0,.int .i64 0] 204;have x0:=X.cell 0 _ rfl;have x1:=X.cell 1 _ rfl;have x2:=X.cell 2 _ rfl;have x3:=X.cell 3 _ rfl;have z0:=Z.cell 0 _ rfl;have z1:=Z.cell 1 _ rfl;have z2:=Z.cell 2 _ rfl;have z3:=Z.cell 3 _ rfl;have f0:=Z.frozen 0;have f1:=Z.frozen 1;have f2:=Z.frozen 2;have f3:=Z.frozen 3;clear X Z
 go_enter Vp.func167,Tryz.ntmps167
 go_wp2
 exact Am5 (v:=.agg #[.int .i64 a,.int .i64 b,.int .i64 c,.int .i64 d]) (by simp[results,Tryz.f167,go_sem]) rfl ⟨rfl,A3g _ _ _⟩
theorem X4 (a b c d:Int)(h1:-1000000000<=a)(h2:a<=1000000000)(h3:-1000000000<=b)(h4:b<=1000000000)(h5:-1000000000<=c)(h6:c<=1000000000)(h7:-1000000000<=d)(h8:d<=1000000000)(w:World) :
 Calls Vp.prog 165 #[.agg #[.int .i64 a,.int .i64 b,.int .i64 c,.int .i64 d]] w fun e w'=>e=.returned (.agg #[.int .i64 (nLo ⟨a,b,c,d⟩),.int .i64 (nHi ⟨a,b,c,d⟩)])/\Below w.heap.size w w':=by
 obtain⟨X,Z⟩:=A2x w #[.int .i64 a,.int .i64 b,.int .i64 c,.int .i64 d] 204 #[.int .i64 0,.int .i64 0] 202;have l1:=Ec (l:=a) (h:=b) (k:=1000000000) h1 h2;have l2:=Ec (l:=c) (h:=d) (k:=1000000000) h5 h6;have l3:=Cm (l:=a) (h:=b) (k:=1000000000) h1 h2 h3 h4;have l4:=Cm (l:=c) (h:=d) (k:=1000000000) h5 h6 h7 h8;have HQ:=Aly (Ej a b h1 h2 h3 h4);have HR:=Aly (Ej c d h5 h6 h7 h8);have hN:nLo ⟨a,b,c,d⟩=Cc a b+Cc c d:=rfl;have hM:nHi ⟨a,b,c,d⟩=Ba a b+Ba c d:=rfl;rw[hN,hM];generalize Cc a b=s1 at *;generalize Cc c d=s3 at *;generalize Ba a b=s2 at *;generalize Ba c d=s4 at *;have HP:=Aly (Gf s1 s2 s3 s4 (by omega) (by omega) (by omega) (by omega) (by omega) (by omega) (by omega) (by omega))
 generalize s1+s3=t1 at *;generalize s2+s4=t2 at *;have HX:Hid (∀W',Below ((w.alloc (.cells #[.int .i64 a,.int .i64 b,.int .i64 c,.int .i64 d] 204)).alloc (.cells #[.int .i64 0,.int .i64 0] 202)).drew.heap.size ((w.alloc (.cells #[.int .i64 a,.int .i64 b,.int .i64 c,.int .i64 d] 204)).alloc (.cells #[.int .i64 0,.int .i64 0] 202)).drew W'->A7 w w.heap.size #[.int .i64 a,.int .i64 b,.int .i64 c,.int .i64 d] 204 W'):=fun W' h=>(X.step ((Bp.refl _).drew.below _)).step h
 have HZ:Hid (∀W',Below ((w.alloc (.cells #[.int .i64 a,.int .i64 b,.int .i64 c,.int .i64 d] 204)).alloc (.cells #[.int .i64 0,.int .i64 0] 202)).drew.heap.size ((w.alloc (.cells #[.int .i64 a,.int .i64 b,.int .i64 c,.int .i64 d] 204)).alloc (.cells #[.int .i64 0,.int .i64 0] 202)).drew W'->A7 w (w.heap.size+1) #[.int .i64 0,.int .i64 0] 202 W'):=fun W' h=>(Z.step ((Bp.refl _).drew.below _)).step h
 have HXs:=Aly (fun W' h u0 u1=>(HX.out W' h).E0 (b':=w.heap.size+1) (by omega) (by omega) u0 u1)
 have hbk:=Amc ((w.alloc (.cells #[.int .i64 a,.int .i64 b,.int .i64 c,.int .i64 d] 204)).alloc (.cells #[.int .i64 0,.int .i64 0] 202)).drew.heap.size ((w.alloc (.cells #[.int .i64 a,.int .i64 b,.int .i64 c,.int .i64 d] 204)).alloc (.cells #[.int .i64 0,.int .i64 0] 202)).drew;clear X Z l1 l2 l3 l4 hN hM h1 h2 h3 h4 h5 h6 h7 h8
 go_enter Vp.func165,Tryz.ntmps165
 go_upto_region 1 with fail
 generalize (w.alloc (.cells #[.int .i64 a,.int .i64 b,.int .i64 c,.int .i64 d] 204)).alloc (.cells #[.int .i64 0,.int .i64 0] 202)=W at *
 go_region_held3 (fun w'=>w'.cell? ⟨w.heap.size,0,none⟩=some (.int .i64 a)/\w'.cell? ⟨w.heap.size,1,none⟩=some (.int .i64 b)/\w'.cell? ⟨w.heap.size,2,none⟩=some (.int .i64 c)/\w'.cell? ⟨w.heap.size,3,none⟩=some (.int .i64 d)) (((first|dsimp only|skip);first |(with_reducible exact⟨(HX.out _ hbk).cell 0 _ rfl,(HX.out _ hbk).cell 1 _ rfl,(HX.out _ hbk).cell 2 _ rfl,(HX.out _ hbk).cell 3 _ rfl⟩) |(with_reducible exact⟨(HXs.out _ hbk _ _).cell 0 _ rfl,(HXs.out _ hbk _ _).cell 1 _ rfl,(HXs.out _ hbk _ _).cell 2 _ rfl,(HXs.out _ hbk _ _).cell 3 _ rfl⟩))) (first
  |(go_at_call 163;(first |(with_reducible refine(HQ.out _).mono ?_) |(with_reducible refine(HR.out _).mono ?_));rintro e w' ⟨rfl,hb⟩;replace hbk:=hbk.trans (hb.mono hbk.size);clear hb)
  |(go_at_call 164;(with_reducible refine(HP.out _).mono ?_);rintro e w' ⟨rfl,hb⟩;replace hbk:=hbk.trans (hb.mono hbk.size);clear hb;have z0:=(HZ.out _ hbk).cell 0 _ rfl;have z1:=(HZ.out _ hbk).cell 1 _ rfl;have g0:=(HZ.out _ hbk).frozen 0;have g1:=(HZ.out _ hbk).frozen 1))
 all_goals
  go_wp2
  exact Am5 (v:=.agg #[.int .i64 t1,.int .i64 t2]) (by simp[results,Tryz.f165,go_sem,z0,z1]) rfl ⟨rfl,Yt (HZ.out _ hbk).old (b:=w.heap.size+1) (by omega) _ _⟩
end
end Go.Proofs.YtjaehldnlamgkaaGreatDoor
