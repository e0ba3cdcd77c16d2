/- Merged texts: BvT, BvU, BvC. -/
import Derived.Test.YthhfljldbfgpcaaGreatDoorT5
import Derived.Deep.Cut
import Derived.Deep.RegionHeld3
set_option linter.all false
section
namespace Go.Proofs.YthhfljldbfgpcaaGreatDoor
open Go.RowKit
def doneV (x:Bx):Value:=if x.ok=true then .tuple #[x.val,.bool true] else .tuple #[boxV 0 0 0 0,.bool false]
theorem doneV_form (x:Bx):∃ (p q r s:Int) (t:Bool),doneV x=.tuple #[.agg #[.int .i64 p,.int .i64 q,.int .i64 r,.int .i64 s],.bool t]:=by
 unfold doneV
 split
 · exact ⟨_,_,_,_,_,rfl⟩
 · exact ⟨_,_,_,_,_,rfl⟩
set_option maxHeartbeats 1000000 in
theorem l4Done_is (a b c d:Int) (w:World):Calls Vp.prog 79 #[.agg #[.int .i64 a,.int .i64 b,.int .i64 c,.int .i64 d]] w fun e w' => e=.returned (doneV ⟨a,b,c,d⟩) ∧ Below w.heap.size w w':=by
 have X0:Box w w.heap.size #[.int .i64 a,.int .i64 b,.int .i64 c,.int .i64 d] 62 ((w.alloc (.cells #[.int .i64 a,.int .i64 b,.int .i64 c,.int .i64 d] 62)).alloc (.cells #[.int .i64 0,.int .i64 0,.int .i64 0,.int .i64 0] 62)):=(Box.new w _ _).alloc _
 have X1:Box w (w.heap.size + 1) #[.int .i64 0,.int .i64 0,.int .i64 0,.int .i64 0] 62 ((w.alloc (.cells #[.int .i64 a,.int .i64 b,.int .i64 c,.int .i64 d] 62)).alloc (.cells #[.int .i64 0,.int .i64 0,.int .i64 0,.int .i64 0] 62)):=by
   have:=(Box.new (w.alloc (.cells #[.int .i64 a,.int .i64 b,.int .i64 c,.int .i64 d] 62)) #[.int .i64 0,.int .i64 0,.int .i64 0,.int .i64 0] 62).up (w0:=w) ((Below.refl _ _).alloc (Nat.le_refl _) _)
   rwa [World.size_alloc] at this
 have HF:Hid (∀ W,Below w.heap.size w W → ∀ u0 u1 u2 u3,Below w.heap.size w ((((W.setCell ⟨w.heap.size + 1,0,none⟩ u0).setCell ⟨w.heap.size + 1,1,none⟩ u1).setCell ⟨w.heap.size + 1,2,none⟩ u2).setCell ⟨w.heap.size + 1,3,none⟩ u3)):=fun W h u0 u1 u2 u3 =>
   (((h.setCell (p:=⟨w.heap.size + 1,0,none⟩) (by simp) _).setCell (p:=⟨w.heap.size + 1,1,none⟩) (by simp) _).setCell (p:=⟨w.heap.size + 1,2,none⟩) (by simp) _).setCell (p:=⟨w.heap.size + 1,3,none⟩) (by simp) _
 go_enter Vp.func79,Tryz.ntmps79
 go_wp2_with fail
 refine (boxValid_any a b c d _).mono ?_
 rintro e w1 ⟨rfl,hb⟩
 replace X0:=X0.step hb
 replace X1:=X1.step hb
 clear hb
 have x0:=X0.cell 0 _ rfl
 have x1:=X0.cell 1 _ rfl
 have x2:=X0.cell 2 _ rfl
 have x3:=X0.cell 3 _ rfl
 have c0:=X1.cell 0 _ rfl
 have c1:=X1.cell 1 _ rfl
 have c2:=X1.cell 2 _ rfl
 have c3:=X1.cell 3 _ rfl
 have f0:=X1.frozen 0
 have f1:=X1.frozen 1
 have f2:=X1.frozen 2
 have f3:=X1.frozen 3
 have HB:=Lib.hid X1.old
 clear X0 X1
 cases hv:boxOK a b c d with
 | false =>
   have HD:Hid (doneV ⟨a,b,c,d⟩=.tuple #[.agg #[.int .i64 0,.int .i64 0,.int .i64 0,.int .i64 0],.bool false]):=by show doneV _=_; unfold doneV Bx.ok; rw [hv]; rfl
   go_wp2
   exact bodyPost_ret (v:=.tuple #[.agg #[.int .i64 0,.int .i64 0,.int .i64 0,.int .i64 0],.bool false]) (by simp [results,Tryz.f79,go_sem,c0,c1,c2,c3]) rfl ⟨by rw [HD.out],HF.out _ HB.out _ _ _ _⟩
 | true =>
   have HD:Hid (doneV ⟨a,b,c,d⟩=.tuple #[.agg #[.int .i64 a,.int .i64 b,.int .i64 c,.int .i64 d],.bool true]):=by show doneV _=_; unfold doneV Bx.ok; rw [hv]; rfl
   go_wp2
   exact bodyPost_ret (v:=.tuple #[.agg #[.int .i64 a,.int .i64 b,.int .i64 c,.int .i64 d],.bool true]) (by simp [results,Tryz.f79,go_sem,c0,c1,c2,c3]) rfl ⟨by rw [HD.out],HF.out _ HB.out _ _ _ _⟩
set_option maxHeartbeats 1000000 in
theorem boxNorm_is (a b c d:Int) (hv:boxOK a b c d=true) (w:World):Calls Vp.prog 83 #[.agg #[.int .i64 a,.int .i64 b,.int .i64 c,.int .i64 d]] w fun e w' => e=.returned (.tuple #[.int .i64 (nLo ⟨a,b,c,d⟩),.int .i64 (nHi ⟨a,b,c,d⟩),.bool true]) ∧ Below w.heap.size w w':=by
 obtain ⟨b1,b2,b3,b4,b5,b6⟩:=Bx.bd (x:=⟨a,b,c,d⟩) hv
 dsimp only at b1 b2 b3 b4 b5 b6
 have l1:=sqLo_bd (l:=a) (h:=b) (k:=134217728) (by omega) (by omega)
 have l2:=sqLo_bd (l:=c) (h:=d) (k:=134217728) (by omega) (by omega)
 have l3:=sqHi_bd (l:=a) (h:=b) (k:=134217728) (by omega) (by omega) (by omega) (by omega)
 have l4:=sqHi_bd (l:=c) (h:=d) (k:=134217728) (by omega) (by omega) (by omega) (by omega)
 have HQ:=Lib.hid (l4Square_is a b (by omega) (by omega) (by omega) (by omega))
 have HR:=Lib.hid (l4Square_is c d (by omega) (by omega) (by omega) (by omega))
 have HL:Hid (nLo ⟨a,b,c,d⟩=sqLo a b + sqLo c d ∧ nHi ⟨a,b,c,d⟩=sqHi a b + sqHi c d):=⟨rfl,rfl⟩
 have hw1:wrap64 (sqLo a b + sqLo c d)=nLo ⟨a,b,c,d⟩:=w64 (by omega) (by omega)
 have hw2:wrap64 (sqHi a b + sqHi c d)=nHi ⟨a,b,c,d⟩:=w64 (by omega) (by omega)
 clear l1 l2 l3 l4 b1 b2 b3 b4 b5 b6 HL
 generalize nLo ⟨a,b,c,d⟩=N1 at *
 generalize nHi ⟨a,b,c,d⟩=N2 at *
 generalize sqLo a b=s1 at *
 generalize sqLo c d=s3 at *
 generalize sqHi a b=s2 at *
 generalize sqHi c d=s4 at *
 have X:=Box.new w #[.int .i64 a,.int .i64 b,.int .i64 c,.int .i64 d] 62
 go_enter Vp.func83,Tryz.ntmps83
 go_wp2_with fail
 refine (boxValid_any a b c d _).mono ?_
 rintro e w1 ⟨rfl,hb⟩
 replace X:=X.step hb
 clear hb
 have x0:=X.cell 0 _ rfl
 have x1:=X.cell 1 _ rfl
 have x2:=X.cell 2 _ rfl
 have x3:=X.cell 3 _ rfl
 have HB:=Lib.hid X.old
 clear X
 rw [hv]
 go_wp2_with fail
 refine (HQ.out _).mono ?_
 rintro e w2 ⟨rfl,rfl⟩
 go_wp2_with fail
 refine (HR.out _).mono ?_
 rintro e w2 ⟨rfl,rfl⟩
 go_wp2
 exact bodyPost_ret (v:=.tuple #[.int .i64 N1,.int .i64 N2,.bool true]) (by simp [results,Tryz.f83,go_sem,hw1,hw2]) rfl ⟨rfl,HB.out⟩
set_option maxHeartbeats 2000000 in
theorem boxAdd_is (a b c d a' b' c' d':Int) (hv:boxOK a b c d=true) (hv2:boxOK a' b' c' d'=true) (w:World):Calls Vp.prog 85 #[.agg #[.int .i64 a,.int .i64 b,.int .i64 c,.int .i64 d],.agg #[.int .i64 a',.int .i64 b',.int .i64 c',.int .i64 d']] w fun e w' => e=.returned (doneV ⟨a + a',b + b',c + c',d + d'⟩) ∧ Below w.heap.size w w':=by
 obtain ⟨b1,b2,b3,b4,b5,b6⟩:=Bx.bd (x:=⟨a,b,c,d⟩) hv
 obtain ⟨g1,g2,g3,g4,g5,g6⟩:=Bx.bd (x:=⟨a',b',c',d'⟩) hv2
 dsimp only at b1 b2 b3 b4 b5 b6 g1 g2 g3 g4 g5 g6
 obtain ⟨S1,hw1,e1⟩:∃ s,wrap64 (a + a')=s ∧ a + a'=s:=⟨_,w64 (by omega) (by omega),rfl⟩
 obtain ⟨S2,hw2,e2⟩:∃ s,wrap64 (b + b')=s ∧ b + b'=s:=⟨_,w64 (by omega) (by omega),rfl⟩
 obtain ⟨S3,hw3,e3⟩:∃ s,wrap64 (c + c')=s ∧ c + c'=s:=⟨_,w64 (by omega) (by omega),rfl⟩
 obtain ⟨S4,hw4,e4⟩:∃ s,wrap64 (d + d')=s ∧ d + d'=s:=⟨_,w64 (by omega) (by omega),rfl⟩
 rw [e1,e2,e3,e4]
 have HD:=Lib.hid (l4Done_is S1 S2 S3 S4)
 obtain ⟨x,y,z,u,t,hx⟩:=doneV_form ⟨S1,S2,S3,S4⟩
 rw [hx] at HD
 rw [hx]
 clear b1 b2 b3 b4 b5 b6 g1 g2 g3 g4 g5 g6 e1 e2 e3 e4 hx
 have X0:=((Box.new w #[.int .i64 a,.int .i64 b,.int .i64 c,.int .i64 d] 62).alloc (.cells #[.int .i64 a',.int .i64 b',.int .i64 c',.int .i64 d'] 62)).alloc (.cells #[.int .i64 0,.int .i64 0,.int .i64 0,.int .i64 0] 62)
 have Y0:Box w (w.heap.size + 1) #[.int .i64 a',.int .i64 b',.int .i64 c',.int .i64 d'] 62 (((w.alloc (.cells #[.int .i64 a,.int .i64 b,.int .i64 c,.int .i64 d] 62)).alloc (.cells #[.int .i64 a',.int .i64 b',.int .i64 c',.int .i64 d'] 62)).alloc (.cells #[.int .i64 0,.int .i64 0,.int .i64 0,.int .i64 0] 62)):=by
   have:=((Box.new (w.alloc (.cells #[.int .i64 a,.int .i64 b,.int .i64 c,.int .i64 d] 62)) #[.int .i64 a',.int .i64 b',.int .i64 c',.int .i64 d'] 62).alloc (.cells #[.int .i64 0,.int .i64 0,.int .i64 0,.int .i64 0] 62)).up (w0:=w) ((Below.refl _ _).alloc (Nat.le_refl _) _)
   rwa [World.size_alloc] at this
 have Z0:Box w (w.heap.size + 1 + 1) #[.int .i64 0,.int .i64 0,.int .i64 0,.int .i64 0] 62 (((w.alloc (.cells #[.int .i64 a,.int .i64 b,.int .i64 c,.int .i64 d] 62)).alloc (.cells #[.int .i64 a',.int .i64 b',.int .i64 c',.int .i64 d'] 62)).alloc (.cells #[.int .i64 0,.int .i64 0,.int .i64 0,.int .i64 0] 62)):=by
   have:=(Box.new ((w.alloc (.cells #[.int .i64 a,.int .i64 b,.int .i64 c,.int .i64 d] 62)).alloc (.cells #[.int .i64 a',.int .i64 b',.int .i64 c',.int .i64 d'] 62)) #[.int .i64 0,.int .i64 0,.int .i64 0,.int .i64 0] 62).up (w0:=w) (((Below.refl _ _).alloc (Nat.le_refl _) _).alloc (by simp) _)
   rwa [World.size_alloc,World.size_alloc] at this
 have HF:Hid (∀ W,Below w.heap.size w W → ∀ u0 u1 u2 u3,Below w.heap.size w ((((W.setCell ⟨w.heap.size + 1 + 1,0,none⟩ u0).setCell ⟨w.heap.size + 1 + 1,1,none⟩ u1).setCell ⟨w.heap.size + 1 + 1,2,none⟩ u2).setCell ⟨w.heap.size + 1 + 1,3,none⟩ u3)):=fun W h u0 u1 u2 u3 =>
   (((h.setCell (p:=⟨w.heap.size + 1 + 1,0,none⟩) (by simp; omega) _).setCell (p:=⟨w.heap.size + 1 + 1,1,none⟩) (by simp; omega) _).setCell (p:=⟨w.heap.size + 1 + 1,2,none⟩) (by simp; omega) _).setCell (p:=⟨w.heap.size + 1 + 1,3,none⟩) (by simp; omega) _
 go_enter Vp.func85,Tryz.ntmps85
 go_wp2_with fail
 refine (boxValid_any a b c d _).mono ?_
 rintro e w1 ⟨rfl,hb⟩
 replace X0:=X0.step hb
 replace Y0:=Y0.step hb
 replace Z0:=Z0.step hb
 clear hb
 have y0:=Y0.cell 0 _ rfl
 have y1:=Y0.cell 1 _ rfl
 have y2:=Y0.cell 2 _ rfl
 have y3:=Y0.cell 3 _ rfl
 rw [hv]
 go_wp2_with fail
 refine (boxValid_any a' b' c' d' _).mono ?_
 rintro e w2 ⟨rfl,hb⟩
 replace X0:=X0.step hb
 replace Y0:=Y0.step hb
 replace Z0:=Z0.step hb
 clear hb y0 y1 y2 y3
 have x0:=X0.cell 0 _ rfl
 have x1:=X0.cell 1 _ rfl
 have x2:=X0.cell 2 _ rfl
 have x3:=X0.cell 3 _ rfl
 have y0:=Y0.cell 0 _ rfl
 have y1:=Y0.cell 1 _ rfl
 have y2:=Y0.cell 2 _ rfl
 have y3:=Y0.cell 3 _ rfl
 rw [hv2]
 clear X0 Y0
 go_wp2_with fail
 refine (HD.out _).mono ?_
 rintro e w3 ⟨rfl,hb⟩
 replace Z0:=Z0.step hb
 clear hb x0 x1 x2 x3 y0 y1 y2 y3
 have c0:=Z0.cell 0 _ rfl
 have c1:=Z0.cell 1 _ rfl
 have c2:=Z0.cell 2 _ rfl
 have c3:=Z0.cell 3 _ rfl
 have f0:=Z0.frozen 0
 have f1:=Z0.frozen 1
 have f2:=Z0.frozen 2
 have f3:=Z0.frozen 3
 have HB:=Lib.hid Z0.old
 clear Z0
 go_wp2
 exact bodyPost_ret (v:=.tuple #[.agg #[.int .i64 x,.int .i64 y,.int .i64 z,.int .i64 u],.bool t]) (by simp [results,Tryz.f85,go_sem,c0,c1,c2,c3]) rfl ⟨rfl,HF.out _ HB.out _ _ _ _⟩
end Go.Proofs.YthhfljldbfgpcaaGreatDoor
end

section
namespace Go.Proofs.YthhfljldbfgpcaaGreatDoor
open Go.RowKit
set_option maxHeartbeats 4000000 in
theorem boxSquare_is (a b c d:Int) (hv:boxOK a b c d=true) (w:World):Calls Vp.prog 84 #[.agg #[.int .i64 a,.int .i64 b,.int .i64 c,.int .i64 d]] w fun e w' => e=.returned (doneV (Bx.sq ⟨a,b,c,d⟩)) ∧ Below w.heap.size w w':=by
 have X0:Box w w.heap.size #[.int .i64 a,.int .i64 b,.int .i64 c,.int .i64 d] 62 ((w.alloc (.cells #[.int .i64 a,.int .i64 b,.int .i64 c,.int .i64 d] 62)).alloc (.cells #[.int .i64 0,.int .i64 0,.int .i64 0,.int .i64 0] 62)):=(Box.new w _ _).alloc _
 have X1:Box w (w.heap.size + 1) #[.int .i64 0,.int .i64 0,.int .i64 0,.int .i64 0] 62 ((w.alloc (.cells #[.int .i64 a,.int .i64 b,.int .i64 c,.int .i64 d] 62)).alloc (.cells #[.int .i64 0,.int .i64 0,.int .i64 0,.int .i64 0] 62)):=by
   have:=(Box.new (w.alloc (.cells #[.int .i64 a,.int .i64 b,.int .i64 c,.int .i64 d] 62)) #[.int .i64 0,.int .i64 0,.int .i64 0,.int .i64 0] 62).up (w0:=w) ((Below.refl _ _).alloc (Nat.le_refl _) _)
   rwa [World.size_alloc] at this
 have HF:Hid (∀ W,Below w.heap.size w W → ∀ u0 u1 u2 u3,Below w.heap.size w ((((W.setCell ⟨w.heap.size + 1,0,none⟩ u0).setCell ⟨w.heap.size + 1,1,none⟩ u1).setCell ⟨w.heap.size + 1,2,none⟩ u2).setCell ⟨w.heap.size + 1,3,none⟩ u3)):=fun W h u0 u1 u2 u3 =>
   (((h.setCell (p:=⟨w.heap.size + 1,0,none⟩) (by simp) _).setCell (p:=⟨w.heap.size + 1,1,none⟩) (by simp) _).setCell (p:=⟨w.heap.size + 1,2,none⟩) (by simp) _).setCell (p:=⟨w.heap.size + 1,3,none⟩) (by simp) _
 obtain ⟨b1,b2,b3,b4,b5,b6⟩:=Bx.bd (x:=⟨a,b,c,d⟩) hv
 dsimp only at b1 b2 b3 b4 b5 b6
 have l1:=sqLo_bd (l:=a) (h:=b) (k:=134217728) (by omega) (by omega)
 have l2:=sqLo_bd (l:=c) (h:=d) (k:=134217728) (by omega) (by omega)
 have l3:=sqHi_bd (l:=a) (h:=b) (k:=134217728) (by omega) (by omega) (by omega) (by omega)
 have l4:=sqHi_bd (l:=c) (h:=d) (k:=134217728) (by omega) (by omega) (by omega) (by omega)
 have u1:=mul_bd (x:=a) (y:=c) (k:=134217728) (by omega) (by omega) (by omega) (by omega)
 have u2:=mul_bd (x:=a) (y:=d) (k:=134217728) (by omega) (by omega) (by omega) (by omega)
 have u3:=mul_bd (x:=b) (y:=c) (k:=134217728) (by omega) (by omega) (by omega) (by omega)
 have u4:=mul_bd (x:=b) (y:=d) (k:=134217728) (by omega) (by omega) (by omega) (by omega)
 have HQ:=Lib.hid (l4Square_is a b (by omega) (by omega) (by omega) (by omega))
 have HR:=Lib.hid (l4Square_is c d (by omega) (by omega) (by omega) (by omega))
 obtain ⟨p,hp,ep⟩:∃ p,wrap64 (a * c)=p ∧ a * c=p:=⟨_,w64 (by omega) (by omega),rfl⟩
 obtain ⟨q,hq,eq⟩:∃ p,wrap64 (a * d)=p ∧ a * d=p:=⟨_,w64 (by omega) (by omega),rfl⟩
 obtain ⟨r,hr,er⟩:∃ p,wrap64 (b * c)=p ∧ b * c=p:=⟨_,w64 (by omega) (by omega),rfl⟩
 obtain ⟨t,ht,et⟩:∃ p,wrap64 (b * d)=p ∧ b * d=p:=⟨_,w64 (by omega) (by omega),rfl⟩
 rw [ep] at u1
 rw [eq] at u2
 rw [er] at u3
 rw [et] at u4
 obtain ⟨m1,h1,v1⟩:∃ m,(if q < p then q else p)=m ∧ m=min p q:=⟨_,rfl,by split <;> omega⟩
 obtain ⟨m2,h2,v2⟩:∃ m,(if t < r then t else r)=m ∧ m=min r t:=⟨_,rfl,by split <;> omega⟩
 obtain ⟨m3,h3,v3⟩:∃ m,(if m2 < m1 then m2 else m1)=m ∧ m=min m1 m2:=⟨_,rfl,by split <;> omega⟩
 obtain ⟨n1,g1,z1⟩:∃ m,(if p < q then q else p)=m ∧ m=max p q:=⟨_,rfl,by split <;> omega⟩
 obtain ⟨n2,g2,z2⟩:∃ m,(if r < t then t else r)=m ∧ m=max r t:=⟨_,rfl,by split <;> omega⟩
 obtain ⟨n3,g3,z3⟩:∃ m,(if n1 < n2 then n2 else n1)=m ∧ m=max n1 n2:=⟨_,rfl,by split <;> omega⟩
 have vm:mLo ⟨a,b,c,d⟩=m3:=by unfold mLo; dsimp only; rw [ep,eq,er,et,v3,v1,v2]
 have vn:mHi ⟨a,b,c,d⟩=n3:=by unfold mHi; dsimp only; rw [ep,eq,er,et,z3,z1,z2]
 have bm:-18014398509481984 ≤ m3 ∧ m3 ≤ 18014398509481984:=by omega
 have bn:-18014398509481984 ≤ n3 ∧ n3 ≤ 18014398509481984:=by omega
 have hsq:Bx.sq ⟨a,b,c,d⟩=⟨(sqLo a b - sqHi c d) / 16777216,cei (sqHi a b - sqLo c d) 16777216,2 * m3 / 16777216,cei (2 * n3) 16777216⟩:=by unfold Bx.sq; rw [vm,vn]
 rw [hsq]
 generalize sqLo a b=s1 at *
 generalize sqLo c d=s3 at *
 generalize sqHi a b=s2 at *
 generalize sqHi c d=s4 at *
 obtain ⟨D1,w1,e1⟩:∃ x,wrap64 (s1 - s4)=x ∧ s1 - s4=x:=⟨_,w64 (by omega) (by omega),rfl⟩
 obtain ⟨D2,w2,e2⟩:∃ x,wrap64 (s2 - s3)=x ∧ s2 - s3=x:=⟨_,w64 (by omega) (by omega),rfl⟩
 obtain ⟨D3,w3,e3⟩:∃ x,wrap64 (2 * m3)=x ∧ 2 * m3=x:=⟨_,w64 (by omega) (by omega),rfl⟩
 obtain ⟨D4,w4,e4⟩:∃ x,wrap64 (2 * n3)=x ∧ 2 * n3=x:=⟨_,w64 (by omega) (by omega),rfl⟩
 rw [e1,e2,e3,e4]
 have HF1:=Lib.hid (l4Floor_is D1 16777216 (by decide) (by omega) (by omega))
 have HF2:=Lib.hid (l4Ceil_is D2 16777216 (by decide) (by omega) (by omega))
 have HF3:=Lib.hid (l4Floor_is D3 16777216 (by decide) (by omega) (by omega))
 have HF4:=Lib.hid (l4Ceil_is D4 16777216 (by decide) (by omega) (by omega))
 have HD:=Lib.hid (l4Done_is (D1 / 16777216) (cei D2 16777216) (D3 / 16777216) (cei D4 16777216))
 obtain ⟨o1,o2,o3,o4,o5,hx⟩:=doneV_form ⟨D1 / 16777216,cei D2 16777216,D3 / 16777216,cei D4 16777216⟩
 rw [hx] at HD
 rw [hx]
 clear b1 b2 b3 b4 b5 b6 l1 l2 l3 l4 u1 u2 u3 u4 ep eq er et v1 v2 v3 z1 z2 z3 vm vn bm bn hsq e1 e2 e3 e4 hx
 generalize D1 / 16777216=F1 at *
 generalize cei D2 16777216=F2 at *
 generalize D3 / 16777216=F3 at *
 generalize cei D4 16777216=F4 at *
 go_enter Vp.func84,Tryz.ntmps84
 go_wp2_with fail
 refine (boxValid_any a b c d _).mono ?_
 rintro e w1 ⟨rfl,hb⟩
 replace X0:=X0.step hb
 replace X1:=X1.step hb
 clear hb
 have x0:=X0.cell 0 _ rfl
 have x1:=X0.cell 1 _ rfl
 have x2:=X0.cell 2 _ rfl
 have x3:=X0.cell 3 _ rfl
 rw [hv]
 clear X0
 go_wp2_with fail
 refine (HQ.out _).mono ?_
 rintro e w2 ⟨rfl,rfl⟩
 go_wp2_with fail
 refine (HR.out _).mono ?_
 rintro e w2 ⟨rfl,rfl⟩
 go_wp2_with fail
 refine (HF1.out _).mono ?_
 rintro e w2 ⟨rfl,rfl⟩
 go_wp2_with fail
 refine (HF2.out _).mono ?_
 rintro e w2 ⟨rfl,rfl⟩
 go_wp2_with fail
 refine (HF3.out _).mono ?_
 rintro e w2 ⟨rfl,rfl⟩
 go_wp2_with fail
 refine (HF4.out _).mono ?_
 rintro e w2 ⟨rfl,rfl⟩
 go_wp2_with fail
 refine (HD.out _).mono ?_
 rintro e w3 ⟨rfl,hb⟩
 replace X1:=X1.step hb
 clear hb x0 x1 x2 x3
 have c0:=X1.cell 0 _ rfl
 have c1:=X1.cell 1 _ rfl
 have c2:=X1.cell 2 _ rfl
 have c3:=X1.cell 3 _ rfl
 have f0:=X1.frozen 0
 have f1:=X1.frozen 1
 have f2:=X1.frozen 2
 have f3:=X1.frozen 3
 have HB:=Lib.hid X1.old
 clear X1
 go_wp2
 exact bodyPost_ret (v:=.tuple #[.agg #[.int .i64 o1,.int .i64 o2,.int .i64 o3,.int .i64 o4],.bool o5]) (by simp [results,Tryz.f84,go_sem,c0,c1,c2,c3]) rfl ⟨rfl,HF.out _ HB.out _ _ _ _⟩
end Go.Proofs.YthhfljldbfgpcaaGreatDoor
end

section
namespace Go.Proofs.YthhfljldbfgpcaaGreatDoor
open Go.RowKit
theorem coarse_bd {x:Bx} (h:x.ok=true):-32768 ≤ x.coarse.a ∧ x.coarse.a ≤ 32768 ∧ (-32768 ≤ x.coarse.b ∧ x.coarse.b ≤ 32768) ∧ -32768 ≤ x.coarse.c ∧ x.coarse.c ≤ 32768 ∧ -32768 ≤ x.coarse.d ∧ x.coarse.d ≤ 32768:=by
 obtain ⟨b1,b2,b3,b4,b5,b6⟩:=Bx.bd h
 unfold Bx.coarse cei
 dsimp only
 omega
set_option maxHeartbeats 4000000 in
theorem l5Coarse_is (a b c d:Int) (hv:boxOK a b c d=true) (w:World):Calls Vp.prog 80 #[.agg #[.int .i64 a,.int .i64 b,.int .i64 c,.int .i64 d]] w fun e w' => e=.returned (Bx.coarse ⟨a,b,c,d⟩).val ∧ Below w.heap.size w w':=by
 have X0:Box w w.heap.size #[.int .i64 a,.int .i64 b,.int .i64 c,.int .i64 d] 62 (((w.alloc (.cells #[.int .i64 a,.int .i64 b,.int .i64 c,.int .i64 d] 62)).alloc (.cells #[.int .i64 0,.int .i64 0,.int .i64 0,.int .i64 0] 62))):=(Box.new w _ _).alloc _
 have X1:Box w (w.heap.size + 1) #[.int .i64 0,.int .i64 0,.int .i64 0,.int .i64 0] 62 (((w.alloc (.cells #[.int .i64 a,.int .i64 b,.int .i64 c,.int .i64 d] 62)).alloc (.cells #[.int .i64 0,.int .i64 0,.int .i64 0,.int .i64 0] 62))):=by
   have:=(Box.new (w.alloc (.cells #[.int .i64 a,.int .i64 b,.int .i64 c,.int .i64 d] 62)) #[.int .i64 0,.int .i64 0,.int .i64 0,.int .i64 0] 62).up (w0:=w) ((Below.refl _ _).alloc (Nat.le_refl _) _)
   rwa [World.size_alloc] at this
 have HF:Hid (∀ W,Below w.heap.size w W → ∀ u0 u1 u2 u3,Below w.heap.size w ((((W.setCell ⟨w.heap.size + 1,0,none⟩ u0).setCell ⟨w.heap.size + 1,1,none⟩ u1).setCell ⟨w.heap.size + 1,2,none⟩ u2).setCell ⟨w.heap.size + 1,3,none⟩ u3)):=fun W h u0 u1 u2 u3 =>
   (((h.setCell (p:=⟨w.heap.size + 1,0,none⟩) (by simp) _).setCell (p:=⟨w.heap.size + 1,1,none⟩) (by simp) _).setCell (p:=⟨w.heap.size + 1,2,none⟩) (by simp) _).setCell (p:=⟨w.heap.size + 1,3,none⟩) (by simp) _
 obtain ⟨b1,b2,b3,b4,b5,b6⟩:=Bx.bd (x:=⟨a,b,c,d⟩) hv
 dsimp only at b1 b2 b3 b4 b5 b6
 have HF1:=Lib.hid (l4Floor_is a 4096 (by decide) (by omega) (by omega))
 have HF2:=Lib.hid (l4Ceil_is b 4096 (by decide) (by omega) (by omega))
 have HF3:=Lib.hid (l4Floor_is c 4096 (by decide) (by omega) (by omega))
 have HF4:=Lib.hid (l4Ceil_is d 4096 (by decide) (by omega) (by omega))
 show Calls Vp.prog 80 #[.agg #[.int .i64 a,.int .i64 b,.int .i64 c,.int .i64 d]] w fun e w' => e=.returned (.agg #[.int .i64 (a / 4096),.int .i64 (cei b 4096),.int .i64 (c / 4096),.int .i64 (cei d 4096)]) ∧ Below w.heap.size w w'
 clear b1 b2 b3 b4 b5 b6 hv
 generalize a / 4096=q1 at *
 generalize cei b 4096=q2 at *
 generalize c / 4096=q3 at *
 generalize cei d 4096=q4 at *
 go_enter Vp.func80,Tryz.ntmps80
 go_upto_region 1 with fail
 have x0:=X0.cell 0 _ rfl
 have x1:=X0.cell 1 _ rfl
 have x2:=X0.cell 2 _ rfl
 have x3:=X0.cell 3 _ rfl
 have c0:=X1.cell 0 _ rfl
 have c1:=X1.cell 1 _ rfl
 have c2:=X1.cell 2 _ rfl
 have c3:=X1.cell 3 _ rfl
 have f0:=X1.frozen 0
 have f1:=X1.frozen 1
 have f2:=X1.frozen 2
 have f3:=X1.frozen 3
 have HB:=Lib.hid X1.old
 have HB2:=Lib.hid (X1.step ((Drw.refl _).drew.below _)).old
 clear X0 X1
 generalize ((w.alloc (.cells #[.int .i64 a,.int .i64 b,.int .i64 c,.int .i64 d] 62)).alloc (.cells #[.int .i64 0,.int .i64 0,.int .i64 0,.int .i64 0] 62))=W at *
 go_region_held3 (fun w' => w'.cell? ⟨w.heap.size,0,none⟩=some (.int .i64 a) ∧ w'.cell? ⟨w.heap.size,1,none⟩=some (.int .i64 b) ∧ w'.cell? ⟨w.heap.size,2,none⟩=some (.int .i64 c) ∧ w'.cell? ⟨w.heap.size,3,none⟩=some (.int .i64 d)) (go_keep) (first
   | (go_at_call 102; (first | (with_reducible refine (HF1.out _).mono ?_) | (with_reducible refine (HF3.out _).mono ?_)); rintro e w' ⟨rfl,rfl⟩)
   | (go_at_call 103; (first | (with_reducible refine (HF2.out _).mono ?_) | (with_reducible refine (HF4.out _).mono ?_)); rintro e w' ⟨rfl,rfl⟩))
 all_goals
   go_wp2
   first
     | exact bodyPost_ret (v:=.agg #[.int .i64 q1,.int .i64 q2,.int .i64 q3,.int .i64 q4]) (by simp [results,Tryz.f80,go_sem,c0,c1,c2,c3]) rfl ⟨rfl,HF.out _ HB2.out _ _ _ _⟩
     | exact bodyPost_ret (v:=.agg #[.int .i64 q1,.int .i64 q2,.int .i64 q3,.int .i64 q4]) (by simp [results,Tryz.f80,go_sem,c0,c1,c2,c3]) rfl ⟨rfl,(HF.out _ HB.out _ _ _ _).trans ((Drw.refl _).drew.below _)⟩
     | trace_state
set_option maxHeartbeats 2000000 in
theorem discBound_is (a b c d:Int) (hv:boxOK a b c d=true) (w:World):Calls Vp.prog 56 #[.agg #[.int .i64 a,.int .i64 b,.int .i64 c,.int .i64 d]] w fun e w' => e=.returned (.tuple #[.int .i64 (discB ⟨a,b,c,d⟩),.bool true]) ∧ Below w.heap.size w w':=by
 obtain ⟨b1,b2,b3,b4⟩:=coarse_bd (x:=⟨a,b,c,d⟩) hv
 have hc:=l5Coarse_is a b c d hv
 have HC:Hid (∀ w,Calls Vp.prog 80 #[.agg #[.int .i64 a,.int .i64 b,.int .i64 c,.int .i64 d]] w fun e w' => e=.returned (.agg #[.int .i64 (Bx.coarse ⟨a,b,c,d⟩).a,.int .i64 (Bx.coarse ⟨a,b,c,d⟩).b,.int .i64 (Bx.coarse ⟨a,b,c,d⟩).c,.int .i64 (Bx.coarse ⟨a,b,c,d⟩).d]) ∧ Below w.heap.size w w'):=hc
 clear hc
 have HX:Hid (discB ⟨a,b,c,d⟩=sqHi ((Bx.coarse ⟨a,b,c,d⟩).a + 4096) ((Bx.coarse ⟨a,b,c,d⟩).b + 4096) + sqHi (Bx.coarse ⟨a,b,c,d⟩).c (Bx.coarse ⟨a,b,c,d⟩).d - 1048576):=rfl
 generalize discB ⟨a,b,c,d⟩=R at *
 generalize (Bx.coarse ⟨a,b,c,d⟩).a=p at *
 generalize (Bx.coarse ⟨a,b,c,d⟩).b=q at *
 generalize (Bx.coarse ⟨a,b,c,d⟩).c=r at *
 generalize (Bx.coarse ⟨a,b,c,d⟩).d=s at *
 have l3:=sqHi_bd (l:=p + 4096) (h:=q + 4096) (k:=40000) (by omega) (by omega) (by omega) (by omega)
 have l4:=sqHi_bd (l:=r) (h:=s) (k:=40000) (by omega) (by omega) (by omega) (by omega)
 obtain ⟨P,k1,e1⟩:∃ x,wrap64 (p + 4096)=x ∧ p + 4096=x:=⟨_,w64 (by omega) (by omega),rfl⟩
 obtain ⟨Q,k2,e2⟩:∃ x,wrap64 (q + 4096)=x ∧ q + 4096=x:=⟨_,w64 (by omega) (by omega),rfl⟩
 have HQ:=Lib.hid (l4Square_is P Q (by omega) (by omega) (by omega) (by omega))
 have HR:=Lib.hid (l4Square_is r s (by omega) (by omega) (by omega) (by omega))
 have h:=HX.out
 rw [e1,e2] at h l3
 generalize sqHi P Q=s2 at *
 generalize sqHi r s=s4 at *
 generalize sqLo P Q=s1 at *
 generalize sqLo r s=s3 at *
 obtain ⟨S,k3,e3⟩:∃ x,wrap64 (s2 + s4)=x ∧ s2 + s4=x:=⟨_,w64 (by omega) (by omega),rfl⟩
 rw [e3] at h
 have k4:wrap64 (S - 1048576)=R:=by rw [h]; exact w64 (by omega) (by omega)
 clear HX h l3 l4 e1 e2 e3 b1 b2 b3 b4
 have X:=Box.new w #[.int .i64 a,.int .i64 b,.int .i64 c,.int .i64 d] 62
 go_enter Vp.func56,Tryz.ntmps56
 go_wp2_with fail
 refine (boxValid_any a b c d _).mono ?_
 rintro e w1 ⟨rfl,hb⟩
 replace X:=X.step hb
 clear hb
 have x0:=X.cell 0 _ rfl
 have x1:=X.cell 1 _ rfl
 have x2:=X.cell 2 _ rfl
 have x3:=X.cell 3 _ rfl
 rw [hv]
 go_wp2_with fail
 refine (HC.out _).mono ?_
 rintro e w2 ⟨rfl,hb⟩
 replace X:=X.step hb
 clear hb x0 x1 x2 x3
 have Y:=(Box.new w2 #[.int .i64 p,.int .i64 q,.int .i64 r,.int .i64 s] 62).up X.old
 have y0:=Y.cell 0 _ rfl
 have y1:=Y.cell 1 _ rfl
 have y2:=Y.cell 2 _ rfl
 have y3:=Y.cell 3 _ rfl
 have HB:=Lib.hid Y.old
 clear X Y
 go_wp2_with fail
 refine (HQ.out _).mono ?_
 rintro e w3 ⟨rfl,rfl⟩
 go_wp2_with fail
 refine (HR.out _).mono ?_
 rintro e w3 ⟨rfl,rfl⟩
 go_wp2
 all_goals
   exact bodyPost_ret (v:=.tuple #[.int .i64 R,.bool true]) (by simp [results,Tryz.f56,go_sem,k1,k2,k3,k4]) rfl ⟨rfl,HB.out⟩
set_option maxHeartbeats 2000000 in
theorem cardioidBound_is (a b c d:Int) (hv:boxOK a b c d=true) (w:World):Calls Vp.prog 55 #[.agg #[.int .i64 a,.int .i64 b,.int .i64 c,.int .i64 d]] w fun e w' => e=.returned (.tuple #[.int .i64 (cardB ⟨a,b,c,d⟩),.bool true]) ∧ Below w.heap.size w w':=by
 obtain ⟨b1,b2,b3,b4⟩:=coarse_bd (x:=⟨a,b,c,d⟩) hv
 have hc:=l5Coarse_is a b c d hv
 have HC:Hid (∀ w,Calls Vp.prog 80 #[.agg #[.int .i64 a,.int .i64 b,.int .i64 c,.int .i64 d]] w fun e w' => e=.returned (.agg #[.int .i64 (Bx.coarse ⟨a,b,c,d⟩).a,.int .i64 (Bx.coarse ⟨a,b,c,d⟩).b,.int .i64 (Bx.coarse ⟨a,b,c,d⟩).c,.int .i64 (Bx.coarse ⟨a,b,c,d⟩).d]) ∧ Below w.heap.size w w'):=hc
 clear hc
 have HX:Hid (cardB ⟨a,b,c,d⟩=(if cardG ⟨a,b,c,d⟩ < 0 then sqLo ((Bx.coarse ⟨a,b,c,d⟩).a - 1024) ((Bx.coarse ⟨a,b,c,d⟩).b - 1024) + sqLo (Bx.coarse ⟨a,b,c,d⟩).c (Bx.coarse ⟨a,b,c,d⟩).d else sqHi ((Bx.coarse ⟨a,b,c,d⟩).a - 1024) ((Bx.coarse ⟨a,b,c,d⟩).b - 1024) + sqHi (Bx.coarse ⟨a,b,c,d⟩).c (Bx.coarse ⟨a,b,c,d⟩).d) * cardG ⟨a,b,c,d⟩ - sqLo (Bx.coarse ⟨a,b,c,d⟩).c (Bx.coarse ⟨a,b,c,d⟩).d * 4194304):=rfl
 have HG:Hid (cardG ⟨a,b,c,d⟩=sqHi ((Bx.coarse ⟨a,b,c,d⟩).a - 1024) ((Bx.coarse ⟨a,b,c,d⟩).b - 1024) + sqHi (Bx.coarse ⟨a,b,c,d⟩).c (Bx.coarse ⟨a,b,c,d⟩).d + ((Bx.coarse ⟨a,b,c,d⟩).b - 1024) * 4096):=rfl
 generalize cardB ⟨a,b,c,d⟩=R at *
 generalize cardG ⟨a,b,c,d⟩=G at *
 generalize (Bx.coarse ⟨a,b,c,d⟩).a=p at *
 generalize (Bx.coarse ⟨a,b,c,d⟩).b=q at *
 generalize (Bx.coarse ⟨a,b,c,d⟩).c=r at *
 generalize (Bx.coarse ⟨a,b,c,d⟩).d=s at *
 have l1:=sqLo_bd (l:=p - 1024) (h:=q - 1024) (k:=33792) (by omega) (by omega)
 have l2:=sqLo_bd (l:=r) (h:=s) (k:=33792) (by omega) (by omega)
 have l3:=sqHi_bd (l:=p - 1024) (h:=q - 1024) (k:=33792) (by omega) (by omega) (by omega) (by omega)
 have l4:=sqHi_bd (l:=r) (h:=s) (k:=33792) (by omega) (by omega) (by omega) (by omega)
 obtain ⟨P,k1,e1⟩:∃ x,wrap64 (p - 1024)=x ∧ p - 1024=x:=⟨_,w64 (by omega) (by omega),rfl⟩
 obtain ⟨Q,k2,e2⟩:∃ x,wrap64 (q - 1024)=x ∧ q - 1024=x:=⟨_,w64 (by omega) (by omega),rfl⟩
 have HQ:=Lib.hid (l4Square_is P Q (by omega) (by omega) (by omega) (by omega))
 have HR:=Lib.hid (l4Square_is r s (by omega) (by omega) (by omega) (by omega))
 have h:=HX.out
 have g:=HG.out
 rw [e1,e2] at h g l3 l1
 generalize sqHi P Q=s2 at *
 generalize sqHi r s=s4 at *
 generalize sqLo P Q=s1 at *
 generalize sqLo r s=s3 at *
 obtain ⟨S,k3,e3⟩:∃ x,wrap64 (s2 + s4)=x ∧ s2 + s4=x:=⟨_,w64 (by omega) (by omega),rfl⟩
 obtain ⟨S0,k4,e4⟩:∃ x,wrap64 (s1 + s3)=x ∧ s1 + s3=x:=⟨_,w64 (by omega) (by omega),rfl⟩
 obtain ⟨K,k5,e5⟩:∃ x,wrap64 (Q * 4096)=x ∧ Q * 4096=x:=⟨_,w64 (by omega) (by omega),rfl⟩
 rw [e3,e4] at h
 rw [e3,e5] at g
 have k6:wrap64 (S + K)=G:=by rw [g]; exact w64 (by omega) (by omega)
 have k7:wrap64 (s3 * 4194304)=s3 * 4194304:=w64 (by omega) (by omega)
 have bS:0 ≤ S ∧ S ≤ 2283798528:=by omega
 have bS0:0 ≤ S0 ∧ S0 ≤ 2283798528:=by omega
 have bG:-2283798528 ≤ G ∧ G ≤ 2500000000:=by omega
 have ym:∀ x:Int,0 ≤ x → x ≤ 2283798528 → -5800000000000000000 ≤ x * G ∧ x * G ≤ 5800000000000000000:=fun x h0 h1 => by
   rcases Int.le_total 0 G with hg | hg
   · have:=Int.mul_nonneg h0 hg
     have:=Int.mul_le_mul h1 bG.2 hg (by omega)
     omega
   · have h2:=Int.mul_nonneg h0 (show 0 ≤ -G by omega)
     have h3:=Int.mul_le_mul h1 (show -G ≤ 2283798528 by omega) (by omega) (by omega)
     rw [Int.mul_neg] at h2 h3
     omega
 have y1:=ym S bS.1 bS.2
 have y2:=ym S0 bS0.1 bS0.2
 obtain ⟨T,k8,e8⟩:∃ x,wrap64 (s3 * 4194304)=x ∧ s3 * 4194304=x:=⟨_,k7,rfl⟩
 rw [e8] at h
 obtain ⟨M,k9,e9⟩:∃ x,wrap64 (S * G)=x ∧ S * G=x:=⟨_,w64 (by omega) (by omega),rfl⟩
 obtain ⟨M0,k10,e10⟩:∃ x,wrap64 (S0 * G)=x ∧ S0 * G=x:=⟨_,w64 (by omega) (by omega),rfl⟩
 have k11:¬ G < 0 → wrap64 (M - T)=R:=fun hg => by rw [h,if_neg hg,e9]; exact w64 (by omega) (by omega)
 have k12:G < 0 → wrap64 (M0 - T)=R:=fun hg => by rw [h,if_pos hg,e10]; exact w64 (by omega) (by omega)
 have HW11:=Lib.hid k11
 have HW12:=Lib.hid k12
 clear HX HG h g l1 l2 l3 l4 e1 e2 e3 e4 e5 e8 e9 e10 b1 b2 b3 b4 y1 y2 ym bS bS0 bG k7 k11 k12
 have X:=Box.new w #[.int .i64 a,.int .i64 b,.int .i64 c,.int .i64 d] 62
 go_enter Vp.func55,Tryz.ntmps55
 go_wp2_with fail
 refine (boxValid_any a b c d _).mono ?_
 rintro e w1 ⟨rfl,hb⟩
 replace X:=X.step hb
 clear hb
 have x0:=X.cell 0 _ rfl
 have x1:=X.cell 1 _ rfl
 have x2:=X.cell 2 _ rfl
 have x3:=X.cell 3 _ rfl
 rw [hv]
 go_wp2_with fail
 refine (HC.out _).mono ?_
 rintro e w2 ⟨rfl,hb⟩
 replace X:=X.step hb
 clear hb x0 x1 x2 x3
 have Y:=(Box.new w2 #[.int .i64 p,.int .i64 q,.int .i64 r,.int .i64 s] 62).up X.old
 have y0:=Y.cell 0 _ rfl
 have y1:=Y.cell 1 _ rfl
 have y2:=Y.cell 2 _ rfl
 have y3:=Y.cell 3 _ rfl
 have HB:=Lib.hid Y.old
 clear X Y
 go_wp2_with fail
 refine (HQ.out _).mono ?_
 rintro e w3 ⟨rfl,rfl⟩
 go_wp2_with fail
 refine (HR.out _).mono ?_
 rintro e w3 ⟨rfl,rfl⟩
 by_cases hg:G < 0
 · have k13:=HW12.out (by omega)
   go_wp2
   exact bodyPost_ret (v:=.tuple #[.int .i64 R,.bool true]) (by simp [results,Tryz.f55,go_sem,k1,k2,k3,k4,k5,k6,k8,k9,k10,k13]) rfl ⟨rfl,HB.out⟩
 · have k13:=HW11.out (by omega)
   go_wp2
   exact bodyPost_ret (v:=.tuple #[.int .i64 R,.bool true]) (by simp [results,Tryz.f55,go_sem,k1,k2,k3,k4,k5,k6,k8,k9,k10,k13]) rfl ⟨rfl,HB.out⟩
end Go.Proofs.YthhfljldbfgpcaaGreatDoor
end
