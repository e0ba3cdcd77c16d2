/- Merged texts: BvE, BvF, BiU. -/
import Derived.Test.YthhfljldbfgpcaaGreatDoorT6
import Derived.Test.YthhfljldbfgpcaaGreatDoorT9
import Derived.Test.YthhfljldbfgpcaaGreatDoorT5
import Derived.Deep.Cut
import Derived.Deep.RegionHeld3
import Derived.Test.YthhfljldbfgpcaaGreatDoorT7
set_option linter.all false
section
namespace Go.Proofs.YthhfljldbfgpcaaGreatDoor
open Go.RowKit
theorem orbB_ok {x:Bx} {k:Nat} {p q r s:Int} (h:orbB x k=some ⟨p,q,r,s⟩):boxOK p q r s=true:=by
 cases k with
 | zero =>
   unfold orbB at h
   injection h with h
   injection h with h1 h2 h3 h4
   subst h1 h2 h3 h4
   rfl
 | succ k =>
   unfold orbB at h
   cases hk:orbB x k with
   | none => rw [hk] at h; cases h
   | some z =>
     rw [hk] at h
     have h:Bx.next x z=some ⟨p,q,r,s⟩:=h
     unfold Bx.next at h
     split at h
     · split at h
       · rename_i g
         injection h with h
         rw [h] at g
         exact g
       · cases h
     · cases h
theorem orb_none {x:Bx} {k:Nat} (h:orbB x k=none):∀ i,k ≤ i → outB x i=false:=by
 have:∀ j,orbB x (k + j)=none:=by
   intro j
   induction j with
   | zero => exact h
   | succ j ih => show (orbB x (k + j)).bind _=none; rw [ih]; rfl
 intro i hi
 obtain ⟨j,rfl⟩:=Nat.exists_eq_add_of_le hi
 unfold outB
 rw [this j]
def EscOK (x:Bx) (M:Nat) (y:Int):Prop:=(whB x M=true ∧ 0 ≤ y) ∨ (whB x M=false ∧ y=-1)
theorem whB_no {x:Bx} {M:Nat} (h:∀ i,i ≤ M → outB x i=false):whB x M=false:=by
 unfold whB
 rw [List.any_eq_false]
 intro i hi
 rw [List.mem_range] at hi
 rw [h i (by omega)]
 simp
theorem EscOK.hit {x z:Bx} {M k:Nat} (hk:k ≤ M) (h1:orbB x k=some z) (h2:(1125899906842624:Int) < nLo z):EscOK x M k:=by
 refine .inl ⟨?_,by omega⟩
 unfold whB
 rw [List.any_eq_true]
 refine ⟨k,List.mem_range.2 (by omega),?_⟩
 unfold outB
 rw [h1]
 simpa using h2
theorem out_not {x z:Bx} {k:Nat} (h1:orbB x k=some z) (h2:¬ (1125899906842624:Int) < nLo z):outB x k=false:=by
 unfold outB
 rw [h1]
 simpa using h2
theorem EscOK.stop {x z:Bx} {M k:Nat} (h1:orbB x k=some z) (h2:¬ (1125899906842624:Int) < nLo z) (hp:∀ i,i < k → outB x i=false) (hn:Bx.next x z=none):EscOK x M (-1):=by
 refine .inr ⟨whB_no fun i _ => ?_,rfl⟩
 rcases Nat.lt_trichotomy i k with h | h | h
 · exact hp i h
 · rw [h]; exact out_not h1 h2
 · exact orb_none (k:=k + 1) (by show (orbB x k).bind _=none; rw [h1]; exact hn) i h
theorem EscOK.full {x:Bx} {M k:Nat} (hk:M < k) (hp:∀ i,i < k → outB x i=false):EscOK x M (-1):=.inr ⟨whB_no fun i hi => hp i (by omega),rfl⟩
theorem done_cases (x:Bx):∃ (p q r s:Int) (t:Bool),doneV x=.tuple #[.agg #[.int .i64 p,.int .i64 q,.int .i64 r,.int .i64 s],.bool t] ∧ boxOK p q r s=true ∧ ((t=true ∧ x=⟨p,q,r,s⟩) ∨ (t=false ∧ x.ok=false)):=by
 unfold doneV
 split
 · rename_i h
   exact ⟨x.a,x.b,x.c,x.d,true,rfl,h,.inl ⟨rfl,rfl⟩⟩
 · rename_i h
   exact ⟨0,0,0,0,false,rfl,rfl,.inr ⟨rfl,by simpa using h⟩⟩
theorem next_none1 {x z:Bx} (h:z.sq.ok=false):Bx.next x z=none:=by
 unfold Bx.next
 rw [if_neg (by rw [h]; simp)]
theorem next_none2 {x z:Bx} {p q r s:Int} (h:z.sq=⟨p,q,r,s⟩) (g:Bx.ok ⟨p + x.a,q + x.b,r + x.c,s + x.d⟩=false):Bx.next x z=none:=by
 unfold Bx.next
 rw [h]
 split
 · rw [if_neg]
   rw [show Bx.add ⟨p,q,r,s⟩ x=⟨p + x.a,q + x.b,r + x.c,s + x.d⟩ from rfl,g]
   simp
 · rfl
theorem orb_step {x z:Bx} {k:Nat} {p q r s p2 q2 r2 s2:Int} (h1:orbB x k=some z) (h2:¬ (1125899906842624:Int) < nLo z) (hp:∀ i,i < k → outB x i=false) (h:z.sq=⟨p,q,r,s⟩) (g:(⟨p + x.a,q + x.b,r + x.c,s + x.d⟩:Bx)=⟨p2,q2,r2,s2⟩) (o1:boxOK p q r s=true) (o2:boxOK p2 q2 r2 s2=true) :
   orbB x (k + 1)=some ⟨p2,q2,r2,s2⟩ ∧ ∀ i,i < k + 1 → outB x i=false:=by
 refine ⟨?_,fun i hi => ?_⟩
 · show (orbB x k).bind _=_
   rw [h1]
   show Bx.next x z=_
   unfold Bx.next
   rw [h,if_pos (show Bx.ok ⟨p,q,r,s⟩=true from o1),show Bx.add ⟨p,q,r,s⟩ x=⟨p2,q2,r2,s2⟩ from g,if_pos (show Bx.ok ⟨p2,q2,r2,s2⟩=true from o2)]
 · by_cases e:i=k
   · rw [e]; exact out_not h1 h2
   · exact hp i (by omega)
set_option maxHeartbeats 8000000 in
theorem boxEscape_is (a b c d n:Int) (hv:boxOK a b c d=true) (w:World):Calls Vp.prog 57 #[.agg #[.int .i64 a,.int .i64 b,.int .i64 c,.int .i64 d],.int .i64 n] w fun e w' => (∃ (x y:Int),e=.returned (.tuple #[.int .i64 x,.int .i64 y,.bool true]) ∧ EscOK ⟨a,b,c,d⟩ (mostN n).toNat y) ∧ Below w.heap.size w w':=by
 have hv':=hv
 obtain ⟨M,hM,hM4⟩:∃ M:Nat,mostN n=M ∧ M ≤ 400:=by
   have:=mostN_bd n
   exact ⟨(mostN n).toNat,by omega,by omega⟩
 have HMM:Hid ((mostN n).toNat=M):=by show (mostN n).toNat=M; omega
 have HMS:=Lib.hid (fun w => l3Most_is n w)
 rw [hM] at HMS
 rw [HMM.out]
 have HV:=Lib.hid hv
 clear hM hv HMM
 have X:=Box.new w #[.int .i64 a,.int .i64 b,.int .i64 c,.int .i64 d] 62
 go_enter Vp.func57,Tryz.ntmps57
 go_wp2_with fail
 refine (boxValid_any a b c d _).mono ?_
 rintro e w1 ⟨rfl,hb⟩
 replace X:=X.step hb
 clear hb
 rw [hv']
 have Z:=(Box.new w1 #[.int .i64 0,.int .i64 0,.int .i64 0,.int .i64 0] 62).up X.old
 have hne:w.heap.size ≠ w1.heap.size:=by have:=X.lt; omega
 have hzb:w.heap.size ≤ w1.heap.size:=X.old.size
 replace X:=X.alloc (.cells #[.int .i64 0,.int .i64 0,.int .i64 0,.int .i64 0] 62)
 go_wp2
 generalize w1.heap.size=zb at *
 go_loopw [7,9,10,11,12,13,14,15,16] (fun f k _ _ _ _ _ _ _ wr => ∃ (fi:Int) (j:Nat) (p q r s:Int),j ≤ 401 ∧ f=.int .i64 fi ∧ k=.int .i64 j ∧ Box w w.heap.size #[.int .i64 a,.int .i64 b,.int .i64 c,.int .i64 d] 62 wr ∧ Box w zb #[.int .i64 p,.int .i64 q,.int .i64 r,.int .i64 s] 62 wr ∧ Hid (orbB ⟨a,b,c,d⟩ j=some ⟨p,q,r,s⟩ ∧ ∀ i,i < j → outB ⟨a,b,c,d⟩ i=false)) (fun _ k _ _ _ _ _ _ _ _ => (401 - intOf k).toNat)
 case atStart => exact ⟨-1,0,0,0,0,0,by omega,rfl,rfl,X,Z,rfl,fun i hi => by omega⟩
 case round =>
   clear X Z
   obtain ⟨fi,k,p,q,r,s,hk,rfl,rfl,X,Z,HI⟩:=hrel
   have hz:boxOK p q r s=true:=orbB_ok HI.out.1
   obtain ⟨wo,rfl⟩:∃ wo,wo=wr:=⟨_,rfl⟩
   go_wp2_with fail
   refine (HMS.out _).mono ?_
   rintro e w2 ⟨rfl,rfl⟩
   have HNO:=Lib.hid (boxNorm_is p q r s hz)
   have HSQ:=Lib.hid (boxSquare_is p q r s hz)
   obtain ⟨lo,elo⟩:∃ x,nLo ⟨p,q,r,s⟩=x:=⟨_,rfl⟩
   obtain ⟨hi,ehi⟩:∃ x,nHi ⟨p,q,r,s⟩=x:=⟨_,rfl⟩
   rw [elo,ehi] at HNO
   have ELO:=Lib.hid elo
   clear elo ehi hz
   by_cases hle:(k:Int) ≤ M
   · have z0:=Z.cell 0 _ rfl
     have z1:=Z.cell 1 _ rfl
     have z2:=Z.cell 2 _ rfl
     have z3:=Z.cell 3 _ rfl
     go_wp2_with fail
     refine (HNO.out _).mono ?_
     rintro e w2 ⟨rfl,hb⟩
     clear z0 z1 z2 z3
     replace X:=X.step hb
     replace Z:=Z.step hb
     clear hb
     have z0:=Z.cell 0 _ rfl
     have z1:=Z.cell 1 _ rfl
     have z2:=Z.cell 2 _ rfl
     have z3:=Z.cell 3 _ rfl
     by_cases hlo:(1125899906842624:Int) < lo
     · have HE:Hid (EscOK ⟨a,b,c,d⟩ M k):=EscOK.hit (by omega) HI.out.1 (by rw [ELO.out]; exact hlo)
       have HB:=Lib.hid X.old
       clear X Z
       by_cases hf:fi < 0
       · by_cases hh:(1125899906842624:Int) < hi
         · go_wp2
           exact bodyPost_ret (v:=.tuple #[.int .i64 _,.int .i64 _,.bool true]) (by simp [results,Tryz.f57,go_sem]; first | exact ⟨rfl,rfl⟩ | exact rfl) rfl ⟨⟨_,_,rfl,HE.out⟩,HB.out⟩
         · go_wp2
           exact bodyPost_ret (v:=.tuple #[.int .i64 _,.int .i64 _,.bool true]) (by simp [results,Tryz.f57,go_sem]; first | exact ⟨rfl,rfl⟩ | exact rfl) rfl ⟨⟨_,_,rfl,HE.out⟩,HB.out⟩
       · go_wp2
         exact bodyPost_ret (v:=.tuple #[.int .i64 _,.int .i64 _,.bool true]) (by simp [results,Tryz.f57,go_sem]; first | exact ⟨rfl,rfl⟩ | exact rfl) rfl ⟨⟨_,_,rfl,HE.out⟩,HB.out⟩
     · have HNL:Hid (¬ (1125899906842624:Int) < nLo ⟨p,q,r,s⟩):=by show ¬ _; rw [ELO.out]; exact hlo
       obtain ⟨p1,q1,r1,s1,t1,hx1,hok1,hc1⟩:=done_cases (Bx.sq ⟨p,q,r,s⟩)
       rw [hx1] at HSQ
       have HAD:=Lib.hid (boxAdd_is p1 q1 r1 s1 a b c d hok1 HV.out)
       obtain ⟨p2,q2,r2,s2,t2,hx2,hok2,hc2⟩:=done_cases ⟨p1 + a,q1 + b,r1 + c,s1 + d⟩
       rw [hx2] at HAD
       have HC1:=Lib.hid hc1
       have HC2:=Lib.hid hc2
       have HO1:=Lib.hid hok1
       have HO2:=Lib.hid hok2
       clear hx1 hx2 hok1 hok2 hc1 hc2
       by_cases hf:fi < 0
       · by_cases hh:(1125899906842624:Int) < hi
         · go_wp2_with fail
           refine (HSQ.out _).mono ?_
           rintro e w3 ⟨rfl,hb⟩
           clear z0 z1 z2 z3
           replace X:=X.step hb
           replace Z:=Z.step hb
           clear hb
           have S:=(Box.new w3 #[.int .i64 p1,.int .i64 q1,.int .i64 r1,.int .i64 s1] 62).up X.old
           replace X:=X.alloc (.cells #[.int .i64 p1,.int .i64 q1,.int .i64 r1,.int .i64 s1] 62)
           replace Z:=Z.alloc (.cells #[.int .i64 p1,.int .i64 q1,.int .i64 r1,.int .i64 s1] 62)
           have y0:=S.cell 0 _ rfl
           have y1:=S.cell 1 _ rfl
           have y2:=S.cell 2 _ rfl
           have y3:=S.cell 3 _ rfl
           have x0:=X.cell 0 _ rfl
           have x1:=X.cell 1 _ rfl
           have x2:=X.cell 2 _ rfl
           have x3:=X.cell 3 _ rfl
           go_wp2_with fail
           refine (HAD.out _).mono ?_
           rintro e w4 ⟨rfl,hb⟩
           clear x0 x1 x2 x3 y0 y1 y2 y3 S
           replace X:=X.step hb
           replace Z:=Z.step hb
           clear hb
           have N:=(Box.new w4 #[.int .i64 p2,.int .i64 q2,.int .i64 r2,.int .i64 s2] 62).up X.old
           replace X:=X.alloc (.cells #[.int .i64 p2,.int .i64 q2,.int .i64 r2,.int .i64 s2] 62)
           replace Z:=Z.alloc (.cells #[.int .i64 p2,.int .i64 q2,.int .i64 r2,.int .i64 s2] 62)
           have HB:=Lib.hid X.old
           cases t1 with
           | false =>
             have HE:Hid (EscOK ⟨a,b,c,d⟩ M (-1)):=EscOK.stop HI.out.1 (by have:=HNL.out; omega) HI.out.2 (next_none1 (HC1.out.resolve_left (fun h => by cases h.1)).2)
             clear X Z N
             go_wp2
             exact bodyPost_ret (v:=.tuple #[.int .i64 _,.int .i64 _,.bool true]) (by simp [results,Tryz.f57,go_sem]; first | exact ⟨rfl,rfl⟩ | exact rfl) rfl ⟨⟨_,_,rfl,HE.out⟩,HB.out⟩
           | true =>
             cases t2 with
             | false =>
               have HE:Hid (EscOK ⟨a,b,c,d⟩ M (-1)):=EscOK.stop HI.out.1 (by have:=HNL.out; omega) HI.out.2 (next_none2 (HC1.out.resolve_right (fun h => by cases h.1)).2 (HC2.out.resolve_left (fun h => by cases h.1)).2)
               clear X Z N
               go_wp2
               exact bodyPost_ret (v:=.tuple #[.int .i64 _,.int .i64 _,.bool true]) (by simp [results,Tryz.f57,go_sem]; first | exact ⟨rfl,rfl⟩ | exact rfl) rfl ⟨⟨_,_,rfl,HE.out⟩,HB.out⟩
             | true =>
               have HI2:Hid (orbB ⟨a,b,c,d⟩ (k + 1)=some ⟨p2,q2,r2,s2⟩ ∧ ∀ i,i < k + 1 → outB ⟨a,b,c,d⟩ i=false):=orb_step HI.out.1 (by have:=HNL.out; omega) HI.out.2 (HC1.out.resolve_right (fun h => by cases h.1)).2 (HC2.out.resolve_right (fun h => by cases h.1)).2 HO1.out HO2.out
               have n0:=N.cell 0 _ rfl
               have n1:=N.cell 1 _ rfl
               have n2:=N.cell 2 _ rfl
               have n3:=N.cell 3 _ rfl
               have z0:=Z.cell 0 _ rfl
               have z1:=Z.cell 1 _ rfl
               have z2:=Z.cell 2 _ rfl
               have z3:=Z.cell 3 _ rfl
               have f0:=Z.frozen 0
               have f1:=Z.frozen 1
               have f2:=Z.frozen 2
               have f3:=Z.frozen 3
               have HZ:Hid (∀ u0 u1 u2 u3,Box w zb #[u0,u1,u2,u3] 62 (((((w4.alloc (.cells #[.int .i64 p2,.int .i64 q2,.int .i64 r2,.int .i64 s2] 62)).setCell ⟨zb,0,none⟩ u0).setCell ⟨zb,1,none⟩ u1).setCell ⟨zb,2,none⟩ u2).setCell ⟨zb,3,none⟩ u3)):=fun u0 u1 u2 u3 => (((Z.set hzb 0 u0).set hzb 1 u1).set hzb 2 u2).set hzb 3 u3
               have HX:Hid (∀ u0 u1 u2 u3,Box w w.heap.size #[.int .i64 a,.int .i64 b,.int .i64 c,.int .i64 d] 62 (((((w4.alloc (.cells #[.int .i64 p2,.int .i64 q2,.int .i64 r2,.int .i64 s2] 62)).setCell ⟨zb,0,none⟩ u0).setCell ⟨zb,1,none⟩ u1).setCell ⟨zb,2,none⟩ u2).setCell ⟨zb,3,none⟩ u3)):=fun u0 u1 u2 u3 => (((X.other (p:=⟨zb,0,none⟩) hzb hne u0).other (p:=⟨zb,1,none⟩) hzb hne u1).other (p:=⟨zb,2,none⟩) hzb hne u2).other (p:=⟨zb,3,none⟩) hzb hne u3
               clear X Z N HB
               go_wp2
               go_roundw
               case rel => exact ⟨k,k + 1,p2,q2,r2,s2,by omega,rfl,by go_num,HX.out _ _ _ _,HZ.out _ _ _ _,HI2⟩
               case measure => simp [intOf]; omega
         · go_wp2_with fail
           refine (HSQ.out _).mono ?_
           rintro e w3 ⟨rfl,hb⟩
           clear z0 z1 z2 z3
           replace X:=X.step hb
           replace Z:=Z.step hb
           clear hb
           have S:=(Box.new w3 #[.int .i64 p1,.int .i64 q1,.int .i64 r1,.int .i64 s1] 62).up X.old
           replace X:=X.alloc (.cells #[.int .i64 p1,.int .i64 q1,.int .i64 r1,.int .i64 s1] 62)
           replace Z:=Z.alloc (.cells #[.int .i64 p1,.int .i64 q1,.int .i64 r1,.int .i64 s1] 62)
           have y0:=S.cell 0 _ rfl
           have y1:=S.cell 1 _ rfl
           have y2:=S.cell 2 _ rfl
           have y3:=S.cell 3 _ rfl
           have x0:=X.cell 0 _ rfl
           have x1:=X.cell 1 _ rfl
           have x2:=X.cell 2 _ rfl
           have x3:=X.cell 3 _ rfl
           go_wp2_with fail
           refine (HAD.out _).mono ?_
           rintro e w4 ⟨rfl,hb⟩
           clear x0 x1 x2 x3 y0 y1 y2 y3 S
           replace X:=X.step hb
           replace Z:=Z.step hb
           clear hb
           have N:=(Box.new w4 #[.int .i64 p2,.int .i64 q2,.int .i64 r2,.int .i64 s2] 62).up X.old
           replace X:=X.alloc (.cells #[.int .i64 p2,.int .i64 q2,.int .i64 r2,.int .i64 s2] 62)
           replace Z:=Z.alloc (.cells #[.int .i64 p2,.int .i64 q2,.int .i64 r2,.int .i64 s2] 62)
           have HB:=Lib.hid X.old
           cases t1 with
           | false =>
             have HE:Hid (EscOK ⟨a,b,c,d⟩ M (-1)):=EscOK.stop HI.out.1 (by have:=HNL.out; omega) HI.out.2 (next_none1 (HC1.out.resolve_left (fun h => by cases h.1)).2)
             clear X Z N
             go_wp2
             exact bodyPost_ret (v:=.tuple #[.int .i64 _,.int .i64 _,.bool true]) (by simp [results,Tryz.f57,go_sem]; first | exact ⟨rfl,rfl⟩ | exact rfl) rfl ⟨⟨_,_,rfl,HE.out⟩,HB.out⟩
           | true =>
             cases t2 with
             | false =>
               have HE:Hid (EscOK ⟨a,b,c,d⟩ M (-1)):=EscOK.stop HI.out.1 (by have:=HNL.out; omega) HI.out.2 (next_none2 (HC1.out.resolve_right (fun h => by cases h.1)).2 (HC2.out.resolve_left (fun h => by cases h.1)).2)
               clear X Z N
               go_wp2
               exact bodyPost_ret (v:=.tuple #[.int .i64 _,.int .i64 _,.bool true]) (by simp [results,Tryz.f57,go_sem]; first | exact ⟨rfl,rfl⟩ | exact rfl) rfl ⟨⟨_,_,rfl,HE.out⟩,HB.out⟩
             | true =>
               have HI2:Hid (orbB ⟨a,b,c,d⟩ (k + 1)=some ⟨p2,q2,r2,s2⟩ ∧ ∀ i,i < k + 1 → outB ⟨a,b,c,d⟩ i=false):=orb_step HI.out.1 (by have:=HNL.out; omega) HI.out.2 (HC1.out.resolve_right (fun h => by cases h.1)).2 (HC2.out.resolve_right (fun h => by cases h.1)).2 HO1.out HO2.out
               have n0:=N.cell 0 _ rfl
               have n1:=N.cell 1 _ rfl
               have n2:=N.cell 2 _ rfl
               have n3:=N.cell 3 _ rfl
               have z0:=Z.cell 0 _ rfl
               have z1:=Z.cell 1 _ rfl
               have z2:=Z.cell 2 _ rfl
               have z3:=Z.cell 3 _ rfl
               have f0:=Z.frozen 0
               have f1:=Z.frozen 1
               have f2:=Z.frozen 2
               have f3:=Z.frozen 3
               have HZ:Hid (∀ u0 u1 u2 u3,Box w zb #[u0,u1,u2,u3] 62 (((((w4.alloc (.cells #[.int .i64 p2,.int .i64 q2,.int .i64 r2,.int .i64 s2] 62)).setCell ⟨zb,0,none⟩ u0).setCell ⟨zb,1,none⟩ u1).setCell ⟨zb,2,none⟩ u2).setCell ⟨zb,3,none⟩ u3)):=fun u0 u1 u2 u3 => (((Z.set hzb 0 u0).set hzb 1 u1).set hzb 2 u2).set hzb 3 u3
               have HX:Hid (∀ u0 u1 u2 u3,Box w w.heap.size #[.int .i64 a,.int .i64 b,.int .i64 c,.int .i64 d] 62 (((((w4.alloc (.cells #[.int .i64 p2,.int .i64 q2,.int .i64 r2,.int .i64 s2] 62)).setCell ⟨zb,0,none⟩ u0).setCell ⟨zb,1,none⟩ u1).setCell ⟨zb,2,none⟩ u2).setCell ⟨zb,3,none⟩ u3)):=fun u0 u1 u2 u3 => (((X.other (p:=⟨zb,0,none⟩) hzb hne u0).other (p:=⟨zb,1,none⟩) hzb hne u1).other (p:=⟨zb,2,none⟩) hzb hne u2).other (p:=⟨zb,3,none⟩) hzb hne u3
               clear X Z N HB
               go_wp2
               go_roundw
               case rel => exact ⟨fi,k + 1,p2,q2,r2,s2,by omega,rfl,by go_num,HX.out _ _ _ _,HZ.out _ _ _ _,HI2⟩
               case measure => simp [intOf]; omega
       · go_wp2_with fail
         refine (HSQ.out _).mono ?_
         rintro e w3 ⟨rfl,hb⟩
         clear z0 z1 z2 z3
         replace X:=X.step hb
         replace Z:=Z.step hb
         clear hb
         have S:=(Box.new w3 #[.int .i64 p1,.int .i64 q1,.int .i64 r1,.int .i64 s1] 62).up X.old
         replace X:=X.alloc (.cells #[.int .i64 p1,.int .i64 q1,.int .i64 r1,.int .i64 s1] 62)
         replace Z:=Z.alloc (.cells #[.int .i64 p1,.int .i64 q1,.int .i64 r1,.int .i64 s1] 62)
         have y0:=S.cell 0 _ rfl
         have y1:=S.cell 1 _ rfl
         have y2:=S.cell 2 _ rfl
         have y3:=S.cell 3 _ rfl
         have x0:=X.cell 0 _ rfl
         have x1:=X.cell 1 _ rfl
         have x2:=X.cell 2 _ rfl
         have x3:=X.cell 3 _ rfl
         go_wp2_with fail
         refine (HAD.out _).mono ?_
         rintro e w4 ⟨rfl,hb⟩
         clear x0 x1 x2 x3 y0 y1 y2 y3 S
         replace X:=X.step hb
         replace Z:=Z.step hb
         clear hb
         have N:=(Box.new w4 #[.int .i64 p2,.int .i64 q2,.int .i64 r2,.int .i64 s2] 62).up X.old
         replace X:=X.alloc (.cells #[.int .i64 p2,.int .i64 q2,.int .i64 r2,.int .i64 s2] 62)
         replace Z:=Z.alloc (.cells #[.int .i64 p2,.int .i64 q2,.int .i64 r2,.int .i64 s2] 62)
         have HB:=Lib.hid X.old
         cases t1 with
         | false =>
           have HE:Hid (EscOK ⟨a,b,c,d⟩ M (-1)):=EscOK.stop HI.out.1 (by have:=HNL.out; omega) HI.out.2 (next_none1 (HC1.out.resolve_left (fun h => by cases h.1)).2)
           clear X Z N
           go_wp2
           exact bodyPost_ret (v:=.tuple #[.int .i64 _,.int .i64 _,.bool true]) (by simp [results,Tryz.f57,go_sem]; first | exact ⟨rfl,rfl⟩ | exact rfl) rfl ⟨⟨_,_,rfl,HE.out⟩,HB.out⟩
         | true =>
           cases t2 with
           | false =>
             have HE:Hid (EscOK ⟨a,b,c,d⟩ M (-1)):=EscOK.stop HI.out.1 (by have:=HNL.out; omega) HI.out.2 (next_none2 (HC1.out.resolve_right (fun h => by cases h.1)).2 (HC2.out.resolve_left (fun h => by cases h.1)).2)
             clear X Z N
             go_wp2
             exact bodyPost_ret (v:=.tuple #[.int .i64 _,.int .i64 _,.bool true]) (by simp [results,Tryz.f57,go_sem]; first | exact ⟨rfl,rfl⟩ | exact rfl) rfl ⟨⟨_,_,rfl,HE.out⟩,HB.out⟩
           | true =>
             have HI2:Hid (orbB ⟨a,b,c,d⟩ (k + 1)=some ⟨p2,q2,r2,s2⟩ ∧ ∀ i,i < k + 1 → outB ⟨a,b,c,d⟩ i=false):=orb_step HI.out.1 (by have:=HNL.out; omega) HI.out.2 (HC1.out.resolve_right (fun h => by cases h.1)).2 (HC2.out.resolve_right (fun h => by cases h.1)).2 HO1.out HO2.out
             have n0:=N.cell 0 _ rfl
             have n1:=N.cell 1 _ rfl
             have n2:=N.cell 2 _ rfl
             have n3:=N.cell 3 _ rfl
             have z0:=Z.cell 0 _ rfl
             have z1:=Z.cell 1 _ rfl
             have z2:=Z.cell 2 _ rfl
             have z3:=Z.cell 3 _ rfl
             have f0:=Z.frozen 0
             have f1:=Z.frozen 1
             have f2:=Z.frozen 2
             have f3:=Z.frozen 3
             have HZ:Hid (∀ u0 u1 u2 u3,Box w zb #[u0,u1,u2,u3] 62 (((((w4.alloc (.cells #[.int .i64 p2,.int .i64 q2,.int .i64 r2,.int .i64 s2] 62)).setCell ⟨zb,0,none⟩ u0).setCell ⟨zb,1,none⟩ u1).setCell ⟨zb,2,none⟩ u2).setCell ⟨zb,3,none⟩ u3)):=fun u0 u1 u2 u3 => (((Z.set hzb 0 u0).set hzb 1 u1).set hzb 2 u2).set hzb 3 u3
             have HX:Hid (∀ u0 u1 u2 u3,Box w w.heap.size #[.int .i64 a,.int .i64 b,.int .i64 c,.int .i64 d] 62 (((((w4.alloc (.cells #[.int .i64 p2,.int .i64 q2,.int .i64 r2,.int .i64 s2] 62)).setCell ⟨zb,0,none⟩ u0).setCell ⟨zb,1,none⟩ u1).setCell ⟨zb,2,none⟩ u2).setCell ⟨zb,3,none⟩ u3)):=fun u0 u1 u2 u3 => (((X.other (p:=⟨zb,0,none⟩) hzb hne u0).other (p:=⟨zb,1,none⟩) hzb hne u1).other (p:=⟨zb,2,none⟩) hzb hne u2).other (p:=⟨zb,3,none⟩) hzb hne u3
             clear X Z N HB
             go_wp2
             go_roundw
             case rel => exact ⟨fi,k + 1,p2,q2,r2,s2,by omega,rfl,by go_num,HX.out _ _ _ _,HZ.out _ _ _ _,HI2⟩
             case measure => simp [intOf]; omega
   · have HE:Hid (EscOK ⟨a,b,c,d⟩ M (-1)):=EscOK.full (by omega) HI.out.2
     have HB:=Lib.hid X.old
     clear X Z
     go_wp2
     exact bodyPost_ret (v:=.tuple #[.int .i64 _,.int .i64 _,.bool true]) (by simp [results,Tryz.f57,go_sem]; first | exact ⟨rfl,rfl⟩ | exact rfl) rfl ⟨⟨_,_,rfl,HE.out⟩,HB.out⟩
end Go.Proofs.YthhfljldbfgpcaaGreatDoor
end

section
namespace Go.Proofs.YthhfljldbfgpcaaGreatDoor
open Go.RowKit
set_option maxHeartbeats 4000000 in
theorem cellState_is (a b c d n:Int) (hv:boxOK a b c d=true) (w:World):Calls Vp.prog 24 #[.agg #[.int .i64 a,.int .i64 b,.int .i64 c,.int .i64 d],.int .i64 n] w fun e w' => e=.returned (.tuple #[.int .i64 (stB ⟨a,b,c,d⟩ (mostN n).toNat),.bool true]) ∧ Below w.heap.size w w':=by
 have HCA:=Lib.hid (cardioidBound_is a b c d hv)
 have HDI:=Lib.hid (discBound_is a b c d hv)
 have HES:=Lib.hid (boxEscape_is a b c d n hv)
 have HST:Hid (∀ S,stB ⟨a,b,c,d⟩ (mostN n).toNat=S → S=if cardB ⟨a,b,c,d⟩ ≤ 0 ∨ discB ⟨a,b,c,d⟩ ≤ 0 then 1 else if whB ⟨a,b,c,d⟩ (mostN n).toNat=true then -1 else 0):=fun S h => h.symm
 obtain ⟨S,hS⟩:∃ S,stB ⟨a,b,c,d⟩ (mostN n).toNat=S:=⟨_,rfl⟩
 have HS:=Lib.hid (HST.out S hS)
 rw [hS]
 clear hS HST hv
 generalize cardB ⟨a,b,c,d⟩=x at *
 generalize discB ⟨a,b,c,d⟩=y at *
 have X:=Box.new w #[.int .i64 a,.int .i64 b,.int .i64 c,.int .i64 d] 62
 have x0:=X.cell 0 _ rfl
 have x1:=X.cell 1 _ rfl
 have x2:=X.cell 2 _ rfl
 have x3:=X.cell 3 _ rfl
 go_enter Vp.func24,Tryz.ntmps24
 go_wp2_with fail
 refine (HCA.out _).mono ?_
 rintro e w1 ⟨rfl,hb⟩
 clear x0 x1 x2 x3
 replace X:=X.step hb
 clear hb
 have x0:=X.cell 0 _ rfl
 have x1:=X.cell 1 _ rfl
 have x2:=X.cell 2 _ rfl
 have x3:=X.cell 3 _ rfl
 go_wp2_with fail
 refine (HDI.out _).mono ?_
 rintro e w2 ⟨rfl,hb⟩
 clear x0 x1 x2 x3
 replace X:=X.step hb
 clear hb
 have x0:=X.cell 0 _ rfl
 have x1:=X.cell 1 _ rfl
 have x2:=X.cell 2 _ rfl
 have x3:=X.cell 3 _ rfl
 go_wp2_with fail
 refine (HES.out _).mono ?_
 rintro e w3 ⟨⟨u,k,rfl,hk⟩,hb⟩
 have HK:=Lib.hid hk
 clear hk
 have HB:=Lib.hid (X.step hb).old
 clear x0 x1 x2 x3 X hb
 have hs:=HS.out
 by_cases hx:x ≤ 0
 · rw [if_pos (.inl hx)] at hs
   subst hs
   go_wp2
   exact bodyPost_ret (v:=.tuple #[.int .i64 1,.bool true]) (by simp [results,Tryz.f24,go_sem]) rfl ⟨rfl,HB.out⟩
 · by_cases hy:y ≤ 0
   · rw [if_pos (.inr hy)] at hs
     subst hs
     go_wp2
     exact bodyPost_ret (v:=.tuple #[.int .i64 1,.bool true]) (by simp [results,Tryz.f24,go_sem]) rfl ⟨rfl,HB.out⟩
   · rw [if_neg (by omega)] at hs
     by_cases hk:0 ≤ k
     · rw [if_pos (by rcases HK.out with h | h; · exact h.1
                      · omega)] at hs
       subst hs
       go_wp2
       exact bodyPost_ret (v:=.tuple #[.int .i64 (-1),.bool true]) (by simp [results,Tryz.f24,go_sem]) rfl ⟨rfl,HB.out⟩
     · rw [if_neg (by rcases HK.out with h | h; · omega
                      · rw [h.1]; simp)] at hs
       subst hs
       go_wp2
       exact bodyPost_ret (v:=.tuple #[.int .i64 0,.bool true]) (by simp [results,Tryz.f24,go_sem]) rfl ⟨rfl,HB.out⟩
end Go.Proofs.YthhfljldbfgpcaaGreatDoor
end

section
namespace Go.Proofs.YthhfljldbfgpcaaGreatDoor
open Go.RowKit
set_option maxHeartbeats 4000000 in
theorem spBox_is (a b c d:Int) (w:World):Calls Vp.prog 40 #[.agg #[.int .i64 a,.int .i64 b,.int .i64 c,.int .i64 d]] w fun e w' => e=.returned (doneV ⟨a,b,c,d⟩) ∧ Below w.heap.size w w':=by
 obtain ⟨X0,-⟩:=two0 w #[.int .i64 a,.int .i64 b,.int .i64 c,.int .i64 d] 83 #[.int .i64 0,.int .i64 0,.int .i64 0,.int .i64 0] 62
 obtain ⟨X,Z,Y⟩:=three0 w #[.int .i64 a,.int .i64 b,.int .i64 c,.int .i64 d] 83 #[.int .i64 0,.int .i64 0,.int .i64 0,.int .i64 0] 62 #[.int .i64 a,.int .i64 b,.int .i64 c,.int .i64 d] 62
 have HS:=box_sp a b c d
 have HQ:=Lib.hid (spValid_is a b)
 have HR:=Lib.hid (spValid_is c d)
 have HD:doneV ⟨a,b,c,d⟩=if (spOk a b && spOk c d)=true then .tuple #[.agg #[.int .i64 a,.int .i64 b,.int .i64 c,.int .i64 d],.bool true] else .tuple #[.agg #[.int .i64 0,.int .i64 0,.int .i64 0,.int .i64 0],.bool false]:=by
   unfold doneV Bx.ok
   rw [HS]
   rfl
 rw [HD]
 clear HS HD
 have y0:=X0.cell 0 _ rfl
 have y1:=X0.cell 1 _ rfl
 have y2:=X0.cell 2 _ rfl
 have y3:=X0.cell 3 _ rfl
 have x0:=X.cell 0 _ rfl
 have x1:=X.cell 1 _ rfl
 have x2:=X.cell 2 _ rfl
 have x3:=X.cell 3 _ rfl
 cases h1:spOk a b with
 | false =>
   rw [h1] at HQ
   rw [if_neg (by simp)]
   clear h1 HR
   go_enter Vp.func40,Tryz.ntmps40
   go_wp2_with fail
   refine (HQ.out _).mono ?_
   rintro e w1 ⟨rfl,hb⟩
   clear x0 x1 x2 x3 y0 y1 y2 y3 X0
   replace Y:=Y.step hb
   replace Z:=Z.step hb
   clear hb X
   have y0:=Y.cell 0 _ rfl
   have y1:=Y.cell 1 _ rfl
   have y2:=Y.cell 2 _ rfl
   have y3:=Y.cell 3 _ rfl
   have z0:=Z.cell 0 _ rfl
   have z1:=Z.cell 1 _ rfl
   have z2:=Z.cell 2 _ rfl
   have z3:=Z.cell 3 _ rfl
   have f0:=Z.frozen 0
   have f1:=Z.frozen 1
   have f2:=Z.frozen 2
   have f3:=Z.frozen 3
   have HB:=Lib.hid Z.old
   clear Y Z
   go_wp2
   exact bodyPost_ret (v:=.tuple #[.agg #[.int .i64 0,.int .i64 0,.int .i64 0,.int .i64 0],.bool false]) (by simp [results,Tryz.f40,go_sem,z0,z1,z2,z3]) rfl ⟨rfl,set4 HB.out (b:=w.heap.size + 1) (by omega) _ _ _ _⟩
 | true =>
   rw [h1] at HQ
   cases h2:spOk c d with
   | false =>
     rw [h2] at HR
     rw [if_neg (by simp)]
     clear h1 h2
     go_enter Vp.func40,Tryz.ntmps40
     go_wp2_with fail
     refine (HQ.out _).mono ?_
     rintro e w1 ⟨rfl,hb⟩
     clear x0 x1 x2 x3 y0 y1 y2 y3 X0
     replace X:=X.step hb
     replace Y:=Y.step hb
     replace Z:=Z.step hb
     clear hb
     have x0:=X.cell 0 _ rfl
     have x1:=X.cell 1 _ rfl
     have x2:=X.cell 2 _ rfl
     have x3:=X.cell 3 _ rfl
     go_wp2_with fail
     refine (HR.out _).mono ?_
     rintro e w2 ⟨rfl,hb⟩
     clear x0 x1 x2 x3
     replace Z:=Z.step hb
     clear hb X Y
     have z0:=Z.cell 0 _ rfl
     have z1:=Z.cell 1 _ rfl
     have z2:=Z.cell 2 _ rfl
     have z3:=Z.cell 3 _ rfl
     have f0:=Z.frozen 0
     have f1:=Z.frozen 1
     have f2:=Z.frozen 2
     have f3:=Z.frozen 3
     have HB:=Lib.hid Z.old
     clear Z
     go_wp2
     exact bodyPost_ret (v:=.tuple #[.agg #[.int .i64 0,.int .i64 0,.int .i64 0,.int .i64 0],.bool false]) (by simp [results,Tryz.f40,go_sem,z0,z1,z2,z3]) rfl ⟨rfl,set4 HB.out (b:=w.heap.size + 1) (by omega) _ _ _ _⟩
   | true =>
     rw [h2] at HR
     rw [if_pos (by simp)]
     clear h1 h2
     go_enter Vp.func40,Tryz.ntmps40
     go_wp2_with fail
     refine (HQ.out _).mono ?_
     rintro e w1 ⟨rfl,hb⟩
     clear x0 x1 x2 x3 y0 y1 y2 y3 X0
     replace X:=X.step hb
     replace Y:=Y.step hb
     replace Z:=Z.step hb
     clear hb
     have x0:=X.cell 0 _ rfl
     have x1:=X.cell 1 _ rfl
     have x2:=X.cell 2 _ rfl
     have x3:=X.cell 3 _ rfl
     go_wp2_with fail
     refine (HR.out _).mono ?_
     rintro e w2 ⟨rfl,hb⟩
     clear x0 x1 x2 x3
     replace Y:=Y.step hb
     replace Z:=Z.step hb
     clear hb X
     have y0:=Y.cell 0 _ rfl
     have y1:=Y.cell 1 _ rfl
     have y2:=Y.cell 2 _ rfl
     have y3:=Y.cell 3 _ rfl
     have z0:=Z.cell 0 _ rfl
     have z1:=Z.cell 1 _ rfl
     have z2:=Z.cell 2 _ rfl
     have z3:=Z.cell 3 _ rfl
     have f0:=Z.frozen 0
     have f1:=Z.frozen 1
     have f2:=Z.frozen 2
     have f3:=Z.frozen 3
     have HB:=Lib.hid Z.old
     clear Y Z
     go_wp2
     exact bodyPost_ret (v:=.tuple #[.agg #[.int .i64 a,.int .i64 b,.int .i64 c,.int .i64 d],.bool true]) (by simp [results,Tryz.f40,go_sem,z0,z1,z2,z3]) rfl ⟨rfl,set4 HB.out (b:=w.heap.size + 1) (by omega) _ _ _ _⟩
set_option maxHeartbeats 4000000 in
theorem implValid_is (a b c d:Int) (w:World):Calls Vp.prog 91 #[.agg #[.int .i64 a,.int .i64 b,.int .i64 c,.int .i64 d]] w fun e w' => e=.returned (.bool (boxOK a b c d)) ∧ Below w.heap.size w w':=by
 have HD:=Lib.hid (spBox_is a b c d)
 obtain ⟨p,q,r,s,t,hx,-,hc⟩:=done_cases ⟨a,b,c,d⟩
 have ht:boxOK a b c d=t:=by
   rcases hc with ⟨rfl,e⟩ | ⟨rfl,e⟩
   · unfold doneV at hx
     split at hx
     · rename_i h; exact h
     · injection hx with h; injection h with h; simp at h
   · exact e
 rw [hx] at HD
 rw [ht]
 clear hx hc ht
 have X:=Box.new w #[.int .i64 a,.int .i64 b,.int .i64 c,.int .i64 d] 62
 have x0:=X.cell 0 _ rfl
 have x1:=X.cell 1 _ rfl
 have x2:=X.cell 2 _ rfl
 have x3:=X.cell 3 _ rfl
 go_enter Vp.func91,Tryz.ntmps91
 go_wp2_with fail
 refine (boxSpans_is a b c d _).mono ?_
 rintro e w1 ⟨rfl,hb⟩
 replace X:=X.step hb
 clear hb x0 x1 x2 x3
 go_wp2_with fail
 refine (HD.out _).mono ?_
 rintro e w2 ⟨rfl,hb⟩
 replace X:=X.step hb
 have HB:=Lib.hid X.old
 clear X hb
 go_wp2
 go_ret
 exact ⟨rfl,HB.out.alloc HB.out.size _⟩
set_option maxHeartbeats 4000000 in
theorem coarse_is (a b c d:Int) (hv:boxOK a b c d=true) (w:World):Calls Vp.prog 92 #[.agg #[.int .i64 a,.int .i64 b,.int .i64 c,.int .i64 d]] w fun e w' => e=.returned (.agg #[.int .i64 (Bx.coarse ⟨a,b,c,d⟩).a,.int .i64 (Bx.coarse ⟨a,b,c,d⟩).b,.int .i64 (Bx.coarse ⟨a,b,c,d⟩).c,.int .i64 (Bx.coarse ⟨a,b,c,d⟩).d]) ∧ Below w.heap.size w w':=by
 obtain ⟨X,Z⟩:=two0 w #[.int .i64 a,.int .i64 b,.int .i64 c,.int .i64 d] 62 #[.int .i64 0,.int .i64 0,.int .i64 0,.int .i64 0] 83
 obtain ⟨b1,b2,b3,b4,b5,b6⟩:=Bx.bd (x:=⟨a,b,c,d⟩) hv
 dsimp only at b1 b2 b3 b4 b5 b6
 have HQ:=Lib.hid (spOut_is a b 12 (by decide) (by omega) (by omega) (by omega) (by omega))
 have HR:=Lib.hid (spOut_is c d 12 (by decide) (by omega) (by omega) (by omega) (by omega))
 have hk:((2 ^ 12:Nat):Int)=4096:=rfl
 have hk2:((12:Nat):Int)=12:=rfl
 rw [hk,hk2] at HQ HR
 show Calls Vp.prog 92 #[.agg #[.int .i64 a,.int .i64 b,.int .i64 c,.int .i64 d]] w fun e w' => e=.returned (.agg #[.int .i64 (a / 4096),.int .i64 (cei b 4096),.int .i64 (c / 4096),.int .i64 (cei d 4096)]) ∧ Below w.heap.size w w'
 clear b1 b2 b3 b4 b5 b6 hv hk hk2
 generalize a / 4096=q1 at *
 generalize cei b 4096=q2 at *
 generalize c / 4096=q3 at *
 generalize cei d 4096=q4 at *
 have x0:=X.cell 0 _ rfl
 have x1:=X.cell 1 _ rfl
 have x2:=X.cell 2 _ rfl
 have x3:=X.cell 3 _ rfl
 go_enter Vp.func92,Tryz.ntmps92
 go_wp2_with fail
 refine (boxSpans_is a b c d _).mono ?_
 rintro e w1 ⟨rfl,hb⟩
 clear x0 x1 x2 x3
 replace X:=X.step hb
 replace Z:=Z.step hb
 clear hb
 have Y:=(Box.new w1 #[.int .i64 a,.int .i64 b,.int .i64 c,.int .i64 d] 83).up X.old
 have hsz:=X.old.size
 have hlt:=X.lt
 have hlz:=Z.lt
 replace Z:=Z.alloc (.cells #[.int .i64 a,.int .i64 b,.int .i64 c,.int .i64 d] 83)
 clear X
 go_upto_region 2 with fail
 generalize w1.heap.size=yb at *
 generalize w1.alloc (.cells #[.int .i64 a,.int .i64 b,.int .i64 c,.int .i64 d] 83)=W at *
 have HY:Hid (∀ W',Below W.drew.heap.size W.drew W' → Box w yb #[.int .i64 a,.int .i64 b,.int .i64 c,.int .i64 d] 83 W'):=fun W' h => (Y.step ((Drw.refl _).drew.below _)).step h
 have HZ:Hid (∀ W',Below W.drew.heap.size W.drew W' → Box w (w.heap.size + 1) #[.int .i64 0,.int .i64 0,.int .i64 0,.int .i64 0] 83 W'):=fun W' h => (Z.step ((Drw.refl _).drew.below _)).step h
 have HYs:=Lib.hid (fun W' h u0 u1 u2 u3 => (HY.out W' h).other4 (b':=w.heap.size + 1) (by omega) (by omega) u0 u1 u2 u3)
 have hbk:=Below.refl W.drew.heap.size W.drew
 clear Y Z
 go_region_held3 (fun w' => w'.cell? ⟨yb,0,none⟩=some (.int .i64 a) ∧ w'.cell? ⟨yb,1,none⟩=some (.int .i64 b) ∧ w'.cell? ⟨yb,2,none⟩=some (.int .i64 c) ∧ w'.cell? ⟨yb,3,none⟩=some (.int .i64 d)) (((first | dsimp only | skip); first | (with_reducible exact ⟨(HY.out _ hbk).cell 0 _ rfl,(HY.out _ hbk).cell 1 _ rfl,(HY.out _ hbk).cell 2 _ rfl,(HY.out _ hbk).cell 3 _ rfl⟩) | (with_reducible exact ⟨(HYs.out _ hbk _ _ _ _).cell 0 _ rfl,(HYs.out _ hbk _ _ _ _).cell 1 _ rfl,(HYs.out _ hbk _ _ _ _).cell 2 _ rfl,(HYs.out _ hbk _ _ _ _).cell 3 _ rfl⟩))) (first
   | (go_at_call 70; (first | (with_reducible refine (HQ.out _).mono ?_) | (with_reducible refine (HR.out _).mono ?_)); rintro e w' ⟨rfl,hb⟩; replace hbk:=hbk.trans (hb.mono hbk.size); clear hb; have z0:=(HZ.out _ hbk).cell 0 _ rfl; have z1:=(HZ.out _ hbk).cell 1 _ rfl; have z2:=(HZ.out _ hbk).cell 2 _ rfl; have z3:=(HZ.out _ hbk).cell 3 _ rfl; have g0:=(HZ.out _ hbk).frozen 0; have g1:=(HZ.out _ hbk).frozen 1; have g2:=(HZ.out _ hbk).frozen 2; have g3:=(HZ.out _ hbk).frozen 3))
 all_goals
   go_wp2
   exact bodyPost_ret (v:=.agg #[.int .i64 q1,.int .i64 q2,.int .i64 q3,.int .i64 q4]) (by simp [results,Tryz.f92,go_sem,z0,z1,z2,z3]) rfl ⟨rfl,set4 (HZ.out _ hbk).old (b:=w.heap.size + 1) (by omega) _ _ _ _⟩
end Go.Proofs.YthhfljldbfgpcaaGreatDoor
end
