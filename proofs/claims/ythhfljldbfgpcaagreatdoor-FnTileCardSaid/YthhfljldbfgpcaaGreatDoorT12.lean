/- Merged texts: BiX, BiV, Iter. -/
import Derived.Test.YthhfljldbfgpcaaGreatDoorT11
import Derived.Test.YthhfljldbfgpcaaGreatDoorT10
import Derived.Deep.CutRange
import Derived.Test.YthhfljldbfgpcaaGreatDoorT1
import Derived.RangeFuncNested
import Derived.RangeFuncCalls
import Derived.RangeFuncLeaves
import Derived.RangeFuncBox
import Derived.OwnWalkIn
import Derived.TacticsInMore
import Derived.LoopNIn
import Derived.LoopIn
set_option linter.all false
section
namespace Go.Proofs.YthhfljldbfgpcaaGreatDoor
open Go.RowKit
theorem hold_wp {P:Program} {o:Oper} {a:Act} {w:World} {K:Act → World → Prop} {Q:Exit → Act → World → Prop} (h:∀ K':Act → World → Prop,(∀ a' w',K a' w' → K' a' w') → o.wp P a w K' Q):o.wp P a w K Q:=h K (fun _ _ h => h)
theorem afters_of {ops:Array Oper} (h:(List.range ops.size).all (fun i => ((ops[i]?).map (fun o => o.after.all fun e => decide (e.on < i))).getD true)=true):∀ (i:Nat) (o:Oper),ops[i]?=some o → ∀ e ∈ o.after,e.on < i:=by
 intro i o ho e he
 have hi:=(Array.getElem?_eq_some_iff.1 ho).1
 have h1:=List.all_eq_true.1 h i (List.mem_range.2 hi)
 rw [ho] at h1
 simp only [Option.map_some,Option.getD_some] at h1
 have h2:=Array.all_eq_true_iff_forall_mem.1 h1 e he
 simpa using h2
def z4:Array Value:=#[.int .i64 0,.int .i64 0,.int .i64 0,.int .i64 0]
def up1 (D:Nat → Bool) (i:Nat):Nat → Bool:=fun j => if j=i then true else D j
theorem up1_ne {D:Nat → Bool} {i j:Nat} (h:j ≠ i):up1 D i j=D j:=if_neg h
theorem up1_self {D:Nat → Bool} {i:Nat}:up1 D i i=true:=if_pos rfl
structure AddS (w:World) (CA CB:Array Value) (D:Nat → Bool) (u:Nat → Value) (W:World):Prop where
 X:Box w w.heap.size CA 62 W
 Y:Box w (w.heap.size + 1) CB 62 W
 Z:Box w (w.heap.size + 1 + 1) z4 62 W
 f0:D 0=true → u 0=.agg CA
 f1:D 1=true → u 1=.agg CA
 f2:D 2=true → u 2=.agg CB
 f3:D 3=true → u 3=.agg CB
 f4:D 4=true → ∃ sb,u 4=.pointer (some ⟨sb,0,none⟩) ∧ w.heap.size + 1 + 1 < sb ∧ Box w sb (if D 6=true then CA else z4) 83 W
 f5:D 5=true → ∃ tb,u 5=.pointer (some ⟨tb,0,none⟩) ∧ w.heap.size + 1 + 1 < tb ∧ Box w tb (if D 7=true then CB else z4) 83 W
 ne:D 4=true → D 5=true → u 4 ≠ u 5
 s6:D 6=true → D 4=true
 s7:D 7=true → D 5=true
section
variable {w:World} {CA CB:Array Value} {D:Nat → Bool} {u:Nat → Value} {W W':World}
theorem AddS.val (h:AddS w CA CB D u W) {i:Nat} (hi:i < 4) {v:Value} (k:Below W.heap.size W W') (hv:v=if i < 2 then .agg CA else .agg CB):AddS w CA CB (up1 D i) (fun j => if j=i then v else u j) W':=by
 have e:∀ j,4 ≤ j → up1 D i j=D j:=fun j hj => up1_ne (by omega)
 have eu:∀ j,4 ≤ j → (if j=i then v else u j)=u j:=fun j hj => if_neg (by omega)
 refine ⟨h.X.step k,h.Y.step k,h.Z.step k,fun g => ?_,fun g => ?_,fun g => ?_,fun g => ?_,fun g => ?_,fun g => ?_,fun g g' => ?_,fun g => (e 4 (by omega)).trans (h.s6 ((e 6 (by omega)).symm.trans g)),fun g => (e 5 (by omega)).trans (h.s7 ((e 7 (by omega)).symm.trans g))⟩
 · by_cases x:0=i
   · subst x; simpa using hv
   · show (if 0=i then v else u 0)=_
     rw [if_neg x]; exact h.f0 ((up1_ne x).symm.trans g)
 · by_cases x:1=i
   · subst x; simpa using hv
   · show (if 1=i then v else u 1)=_
     rw [if_neg x]; exact h.f1 ((up1_ne x).symm.trans g)
 · by_cases x:2=i
   · subst x; simpa using hv
   · show (if 2=i then v else u 2)=_
     rw [if_neg x]; exact h.f2 ((up1_ne x).symm.trans g)
 · by_cases x:3=i
   · subst x; simpa using hv
   · show (if 3=i then v else u 3)=_
     rw [if_neg x]; exact h.f3 ((up1_ne x).symm.trans g)
 · rw [e 4 (by omega)] at g
   show ∃ sb,(if 4=i then v else u 4)=_ ∧ _
   rw [e 6 (by omega),eu 4 (by omega)]
   obtain ⟨sb,h1,h2,h3⟩:=h.f4 g
   exact ⟨sb,h1,h2,h3.step k⟩
 · rw [e 5 (by omega)] at g
   show ∃ sb,(if 5=i then v else u 5)=_ ∧ _
   rw [e 7 (by omega),eu 5 (by omega)]
   obtain ⟨sb,h1,h2,h3⟩:=h.f5 g
   exact ⟨sb,h1,h2,h3.step k⟩
 · rw [e 4 (by omega)] at g
   rw [e 5 (by omega)] at g'
   show (if 4=i then v else u 4) ≠ (if 5=i then v else u 5)
   rw [eu 4 (by omega),eu 5 (by omega)]
   exact h.ne g g'
theorem AddS.all4 (h:AddS w CA CB D u W) (h4:D 4=false):AddS w CA CB (up1 D 4) (fun j => if j=4 then .pointer (some ⟨W.heap.size,0,none⟩) else u j) (W.alloc (.cells z4 83)):=by
 have k:Below W.heap.size W (W.alloc (.cells z4 83)):=(Below.refl _ _).alloc (Nat.le_refl _) _
 have h6:D 6=false:=by
   cases x:D 6
   · rfl
   · rw [h.s6 x] at h4; cases h4
 refine ⟨h.X.step k,h.Y.step k,h.Z.step k,fun g => h.f0 g,fun g => h.f1 g,fun g => h.f2 g,fun g => h.f3 g,fun _ => ⟨W.heap.size,rfl,h.Z.lt,?_⟩,fun g => ?_,fun _ g' e => ?_,fun _ => rfl,fun g => h.s7 g⟩
 · rw [show up1 D 4 6=D 6 from up1_ne (by omega),h6,if_neg (by simp)]
   exact (Box.new W z4 83).up h.Z.old
 · obtain ⟨sb,h1,h2,h3⟩:=h.f5 g
   exact ⟨sb,h1,h2,h3.step k⟩
 · obtain ⟨sb,h1,h2,h3⟩:=h.f5 g'
   have e:Value.pointer (some ⟨W.heap.size,0,none⟩)=u 5:=e
   rw [h1] at e
   injection e with e
   injection e with e
   injection e with e
   exact Nat.lt_irrefl _ (e ▸ h3.lt)
theorem AddS.all5 (h:AddS w CA CB D u W) (h5:D 5=false):AddS w CA CB (up1 D 5) (fun j => if j=5 then .pointer (some ⟨W.heap.size,0,none⟩) else u j) (W.alloc (.cells z4 83)):=by
 have k:Below W.heap.size W (W.alloc (.cells z4 83)):=(Below.refl _ _).alloc (Nat.le_refl _) _
 have h7:D 7=false:=by
   cases x:D 7
   · rfl
   · rw [h.s7 x] at h5; cases h5
 refine ⟨h.X.step k,h.Y.step k,h.Z.step k,fun g => h.f0 g,fun g => h.f1 g,fun g => h.f2 g,fun g => h.f3 g,fun g => ?_,fun _ => ⟨W.heap.size,rfl,h.Z.lt,?_⟩,fun g' _ e => ?_,fun g => h.s6 g,fun _ => rfl⟩
 · obtain ⟨sb,h1,h2,h3⟩:=h.f4 g
   exact ⟨sb,h1,h2,h3.step k⟩
 · rw [show up1 D 5 7=D 7 from up1_ne (by omega),h7,if_neg (by simp)]
   exact (Box.new W z4 83).up h.Z.old
 · obtain ⟨sb,h1,h2,h3⟩:=h.f4 g'
   have e:u 4=Value.pointer (some ⟨W.heap.size,0,none⟩):=e
   rw [h1] at e
   injection e with e
   injection e with e
   injection e with e
   exact Nat.lt_irrefl _ (e ▸ h3.lt)
end
theorem Box.fill4 {w0 W:World} {b:Nat} {v0 v1 v2 v3:Value} {T:TypeId} (h:Box w0 b #[v0,v1,v2,v3] T W) (hb:w0.heap.size ≤ b) (u0 u1 u2 u3:Value) :
   Box w0 b #[u0,u1,u2,u3] T ((((W.setCell ⟨b,0,none⟩ u0).setCell ⟨b,1,none⟩ u1).setCell ⟨b,2,none⟩ u2).setCell ⟨b,3,none⟩ u3) :=
 (((h.set hb 0 u0).set hb 1 u1).set hb 2 u2).set hb 3 u3
section
variable {w:World} {a b c d:Value} {CA CB:Array Value} {D:Nat → Bool} {u:Nat → Value} {W W':World}
theorem AddS.st6 (h:AddS w #[a,b,c,d] CB D u W) {sb:Nat} (e4:u 4=.pointer (some ⟨sb,0,none⟩)) (h4:D 4=true):AddS w #[a,b,c,d] CB (up1 D 6) u ((((W.setCell ⟨sb,0,none⟩ a).setCell ⟨sb,1,none⟩ b).setCell ⟨sb,2,none⟩ c).setCell ⟨sb,3,none⟩ d):=by
 obtain ⟨sb',e,hl,S⟩:=h.f4 h4
 rw [e4] at e
 injection e with e; injection e with e; injection e with e
 subst e
 have hs:w.heap.size ≤ sb:=by omega
 refine ⟨h.X.other4 hs (by omega) _ _ _ _,h.Y.other4 hs (by omega) _ _ _ _,h.Z.other4 hs (by omega) _ _ _ _,h.f0,h.f1,h.f2,h.f3,fun _ => ⟨sb,e4,hl,?_⟩,fun g => ?_,h.ne,fun _ => h4,h.s7⟩
 · rw [up1_self,if_pos rfl]
   cases hd:D 6 <;> rw [hd] at S
   · rw [if_neg (by simp)] at S; exact S.fill4 hs _ _ _ _
   · rw [if_pos rfl] at S; exact S.fill4 hs _ _ _ _
 · obtain ⟨tb,e5,hl5,T⟩:=h.f5 g
   refine ⟨tb,e5,hl5,?_⟩
   rw [show up1 D 6 7=D 7 from up1_ne (by omega)]
   exact T.other4 hs (fun x => h.ne h4 g (by rw [e4,e5,x])) _ _ _ _
theorem AddS.st7 (h:AddS w CA #[a,b,c,d] D u W) {sb:Nat} (e4:u 5=.pointer (some ⟨sb,0,none⟩)) (h4:D 5=true):AddS w CA #[a,b,c,d] (up1 D 7) u ((((W.setCell ⟨sb,0,none⟩ a).setCell ⟨sb,1,none⟩ b).setCell ⟨sb,2,none⟩ c).setCell ⟨sb,3,none⟩ d):=by
 obtain ⟨sb',e,hl,S⟩:=h.f5 h4
 rw [e4] at e
 injection e with e; injection e with e; injection e with e
 subst e
 have hs:w.heap.size ≤ sb:=by omega
 refine ⟨h.X.other4 hs (by omega) _ _ _ _,h.Y.other4 hs (by omega) _ _ _ _,h.Z.other4 hs (by omega) _ _ _ _,h.f0,h.f1,h.f2,h.f3,fun g => ?_,fun _ => ⟨sb,e4,hl,?_⟩,h.ne,h.s6,fun _ => h4⟩
 · obtain ⟨tb,e5,hl5,T⟩:=h.f4 g
   refine ⟨tb,e5,hl5,?_⟩
   rw [show up1 D 7 6=D 6 from up1_ne (by omega)]
   exact T.other4 hs (fun x => h.ne g h4 (by rw [e4,e5,x])) _ _ _ _
 · rw [up1_self,if_pos rfl]
   cases hd:D 7 <;> rw [hd] at S
   · rw [if_neg (by simp)] at S; exact S.fill4 hs _ _ _ _
   · rw [if_pos rfl] at S; exact S.fill4 hs _ _ _ _
end
set_option maxRecDepth 100000 in
set_option maxHeartbeats 8000000 in
theorem implAdd_is (a b c d a' b' c' d':Int) (hv:boxOK a b c d=true) (hv2:boxOK a' b' c' d'=true) (w:World) :
   Calls Vp.prog 108 #[.agg #[.int .i64 a,.int .i64 b,.int .i64 c,.int .i64 d],.agg #[.int .i64 a',.int .i64 b',.int .i64 c',.int .i64 d']] w fun e w' => e=.returned (doneV ⟨a + a',b + b',c + c',d + d'⟩) ∧ Below w.heap.size w w':=by
 obtain ⟨X,Y,Z⟩:=three0 w #[.int .i64 a,.int .i64 b,.int .i64 c,.int .i64 d] 62 #[.int .i64 a',.int .i64 b',.int .i64 c',.int .i64 d'] 62 #[.int .i64 0,.int .i64 0,.int .i64 0,.int .i64 0] 62
 obtain ⟨b1,b2,b3,b4,b5,b6⟩:=Bx.bd (x:=⟨a,b,c,d⟩) hv
 obtain ⟨g1,g2,g3,g4,g5,g6⟩:=Bx.bd (x:=⟨a',b',c',d'⟩) hv2
 dsimp only at b1 b2 b3 b4 b5 b6 g1 g2 g3 g4 g5 g6
 have HV:=Lib.hid (implValid_is a b c d)
 have HV2:=Lib.hid (implValid_is a' b' c' d')
 rw [hv] at HV
 rw [hv2] at HV2
 have HSA:=Lib.hid (boxSpans_is a b c d)
 have HSB:=Lib.hid (boxSpans_is a' b' c' d')
 have HP1:=Lib.hid (spPlus_is a b a' b' (by omega) (by omega) (by omega) (by omega) (by omega) (by omega) (by omega) (by omega))
 have HP2:=Lib.hid (spPlus_is c d c' d' (by omega) (by omega) (by omega) (by omega) (by omega) (by omega) (by omega) (by omega))
 generalize a + a'=S1 at *
 generalize b + b'=S2 at *
 generalize c + c'=S3 at *
 generalize d + d'=S4 at *
 have HD:=Lib.hid (spBox_is S1 S2 S3 S4)
 obtain ⟨o1,o2,o3,o4,o5,hx⟩:=doneV_form ⟨S1,S2,S3,S4⟩
 rw [hx] at HD
 rw [hx]
 clear hx hv hv2 b1 b2 b3 b4 b5 b6 g1 g2 g3 g4 g5 g6
 have x0:=X.cell 0 _ rfl
 have x1:=X.cell 1 _ rfl
 have x2:=X.cell 2 _ rfl
 have x3:=X.cell 3 _ rfl
 go_enter Vp.func108,Tryz.ntmps108
 go_wp2_with fail
 refine (HV.out _).mono ?_
 rintro e w1 ⟨rfl,hb⟩
 clear x0 x1 x2 x3
 replace X:=X.step hb
 replace Y:=Y.step hb
 replace Z:=Z.step hb
 clear hb
 have y0:=Y.cell 0 _ rfl
 have y1:=Y.cell 1 _ rfl
 have y2:=Y.cell 2 _ rfl
 have y3:=Y.cell 3 _ rfl
 go_wp2_with fail
 refine (HV2.out _).mono ?_
 rintro e w2 ⟨rfl,hb⟩
 clear y0 y1 y2 y3
 replace X:=X.step hb
 replace Y:=Y.step hb
 replace Z:=Z.step hb
 clear hb
 go_upto_region 3 with fail
 go_cut [6,7] from 17 to 20 (fun p q wx => ∃ sb tb:Nat,p=.pointer (some ⟨sb,0,none⟩) ∧ q=.pointer (some ⟨tb,0,none⟩) ∧ Hid (Box w sb #[.int .i64 a,.int .i64 b,.int .i64 c,.int .i64 d] 83 wx ∧ Box w tb #[.int .i64 a',.int .i64 b',.int .i64 c',.int .i64 d'] 83 wx ∧ Box w (w.heap.size + 1 + 1) #[.int .i64 0,.int .i64 0,.int .i64 0,.int .i64 0] 62 wx ∧ w.heap.size + 1 + 1 < sb ∧ w.heap.size + 1 + 1 < tb))
 case first =>
   have h0:AddS w #[.int .i64 a,.int .i64 b,.int .i64 c,.int .i64 d] #[.int .i64 a',.int .i64 b',.int .i64 c',.int .i64 d'] (fun _ => false) (fun _ => undef) { w2 with drawn:=w2.drawn + 1 } :=
     have k:Below w2.heap.size w2 { w2 with drawn:=w2.drawn + 1 }:=(Drw.refl w2).drew.below _
     ⟨X.step k,Y.step k,Z.step k,fun h => by (cases h),fun h => by (cases h),fun h => by (cases h),fun h => by (cases h),fun h => by (cases h),fun h => by (cases h),fun h => by (cases h),fun h => by (cases h),fun h => by (cases h)⟩
   clear X Y Z
   refine wp_region_inv (by kernel_rfl) (fun D a0 W => ∃ u:Nat → Value,a0=⟨((Value.agg #[.int .i64 a,.int .i64 b,.int .i64 c,.int .i64 d]) :: (Value.agg #[.int .i64 a',.int .i64 b',.int .i64 c',.int .i64 d']) :: (Value.pointer (some ⟨w.heap.size,0,none⟩)) :: (Value.pointer (some ⟨w.heap.size + 1,0,none⟩)) :: (Value.pointer (some ⟨w.heap.size + 1 + 1,0,none⟩)) :: (Value.bool false) :: (u 4) :: (u 5) :: (Value.agg #[.int .i64 a,.int .i64 b,.int .i64 c,.int .i64 d]) :: (Value.bool true) :: (Value.bool false) :: (Value.bool false) :: (Value.agg #[.int .i64 a',.int .i64 b',.int .i64 c',.int .i64 d']) :: (Value.bool true) :: (Value.bool false) :: (Value.bool false) :: undef :: (u 0) :: (u 1) :: (u 2) :: (u 3) :: undef :: undef :: undef :: undef :: undef :: undef :: undef :: undef :: undef :: undef :: undef :: undef :: undef :: undef :: []).toArray,[]⟩ ∧ AddS w #[.int .i64 a,.int .i64 b,.int .i64 c,.int .i64 d] #[.int .i64 a',.int .i64 b',.int .i64 c',.int .i64 d'] D u W) (afters_of (by kernel_rfl)) ⟨fun _ => undef,rfl,h0⟩ ?_ ?_
   · rintro D a0 W ⟨u,rfl,I⟩ i o ho hD hdep
     have hi:i < 8:=(Array.getElem?_eq_some_iff.1 ho).1
     have HI:=Lib.hid I
     have x0:=I.X.cell 0 _ rfl
     have x1:=I.X.cell 1 _ rfl
     have x2:=I.X.cell 2 _ rfl
     have x3:=I.X.cell 3 _ rfl
     have y0:=I.Y.cell 0 _ rfl
     have y1:=I.Y.cell 1 _ rfl
     have y2:=I.Y.cell 2 _ rfl
     have y3:=I.Y.cell 3 _ rfl
     clear I
     rcases (by omega:i=0 ∨ i=1 ∨ i=2 ∨ i=3 ∨ i=4 ∨ i=5 ∨ i=6 ∨ i=7) with rfl | rfl | rfl | rfl | rfl | rfl | rfl | rfl
     · simp only [List.getElem?_toArray,List.getElem?_cons_zero,Option.some.injEq] at ho
       subst ho
       rw [if_pos (by rfl)]
       refine hold_wp fun K hKK => ?_
       clear hD hdep
       go_simp
       exact hKK _ _ ⟨fun j => if j=0 then (.agg #[.int .i64 a,.int .i64 b,.int .i64 c,.int .i64 d]) else u j,rfl,HI.out.val (by omega) (Below.refl _ _) rfl⟩
     · simp only [List.getElem?_toArray,List.getElem?_cons_zero,List.getElem?_cons_succ,Option.some.injEq] at ho
       subst ho
       have d0:D 0=true:=hdep ⟨0,.data⟩ (by simp) rfl
       have e0:=HI.out.f0 d0
       rw [if_pos (by rfl)]
       refine hold_wp fun K hKK => ?_
       clear hD hdep
       go_simp
       refine (HSA.out _).mono ?_
       rintro e w' ⟨rfl,hb⟩
       exact hKK _ _ ⟨fun j => if j=1 then (.agg #[.int .i64 a,.int .i64 b,.int .i64 c,.int .i64 d]) else u j,by simp only [e0]; rfl,HI.out.val (by omega) hb rfl⟩
     · simp only [List.getElem?_toArray,List.getElem?_cons_zero,List.getElem?_cons_succ,Option.some.injEq] at ho
       subst ho
       rw [if_pos (by rfl)]
       refine hold_wp fun K hKK => ?_
       clear hD hdep
       go_simp
       exact hKK _ _ ⟨fun j => if j=2 then (.agg #[.int .i64 a',.int .i64 b',.int .i64 c',.int .i64 d']) else u j,rfl,HI.out.val (by omega) (Below.refl _ _) rfl⟩
     · simp only [List.getElem?_toArray,List.getElem?_cons_zero,List.getElem?_cons_succ,Option.some.injEq] at ho
       subst ho
       have d2:D 2=true:=hdep ⟨2,.data⟩ (by simp) rfl
       have e2:=HI.out.f2 d2
       rw [if_pos (by rfl)]
       refine hold_wp fun K hKK => ?_
       clear hD hdep
       go_simp
       refine (HSB.out _).mono ?_
       rintro e w' ⟨rfl,hb⟩
       exact hKK _ _ ⟨fun j => if j=3 then (.agg #[.int .i64 a',.int .i64 b',.int .i64 c',.int .i64 d']) else u j,by simp only [e2]; rfl,HI.out.val (by omega) hb rfl⟩
     · simp only [List.getElem?_toArray,List.getElem?_cons_zero,List.getElem?_cons_succ,Option.some.injEq] at ho
       subst ho
       rw [if_pos (by rfl)]
       refine hold_wp fun K hKK => ?_
       have HK:=Lib.hid hKK
       clear hKK hdep
       have HhD:=Lib.hid hD
       clear hD
       go_simp
       exact HK.out _ _ ⟨fun j => if j=4 then .pointer (some ⟨W.heap.size,0,none⟩) else u j,rfl,HI.out.all4 HhD.out⟩
     · simp only [List.getElem?_toArray,List.getElem?_cons_zero,List.getElem?_cons_succ,Option.some.injEq] at ho
       subst ho
       rw [if_pos (by rfl)]
       refine hold_wp fun K hKK => ?_
       have HK:=Lib.hid hKK
       clear hKK hdep
       have HhD:=Lib.hid hD
       clear hD
       go_simp
       exact HK.out _ _ ⟨fun j => if j=5 then .pointer (some ⟨W.heap.size,0,none⟩) else u j,rfl,HI.out.all5 HhD.out⟩
     · simp only [List.getElem?_toArray,List.getElem?_cons_zero,List.getElem?_cons_succ,Option.some.injEq] at ho
       subst ho
       rw [if_pos (by rfl)]
       have d4:D 4=true:=hdep ⟨4,.data⟩ (by simp) rfl
       have d1:D 1=true:=hdep ⟨1,.data⟩ (by simp) rfl
       have e1:=HI.out.f1 d1
       obtain ⟨sb,e4,hl,S⟩:=HI.out.f4 d4
       rw [hD,if_neg (by simp)] at S
       have c0:=S.cell 0 _ rfl
       have c1:=S.cell 1 _ rfl
       have c2:=S.cell 2 _ rfl
       have c3:=S.cell 3 _ rfl
       have f0:=S.frozen 0
       have f1:=S.frozen 1
       have f2:=S.frozen 2
       have f3:=S.frozen 3
       clear S
       refine hold_wp fun K hKK => ?_
       have HK:=Lib.hid hKK
       clear hKK hD hdep
       go_simp
       refine HK.out _ _ ⟨u,?_,HI.out.st6 e4 d4⟩
       simp only [e1,e4]
     · simp only [List.getElem?_toArray,List.getElem?_cons_zero,List.getElem?_cons_succ,Option.some.injEq] at ho
       subst ho
       rw [if_pos (by rfl)]
       have d4:D 5=true:=hdep ⟨5,.data⟩ (by simp) rfl
       have d1:D 3=true:=hdep ⟨3,.data⟩ (by simp) rfl
       have e1:=HI.out.f3 d1
       obtain ⟨sb,e4,hl,S⟩:=HI.out.f5 d4
       rw [hD,if_neg (by simp)] at S
       have c0:=S.cell 0 _ rfl
       have c1:=S.cell 1 _ rfl
       have c2:=S.cell 2 _ rfl
       have c3:=S.cell 3 _ rfl
       have f0:=S.frozen 0
       have f1:=S.frozen 1
       have f2:=S.frozen 2
       have f3:=S.frozen 3
       clear S
       refine hold_wp fun K hKK => ?_
       have HK:=Lib.hid hKK
       clear hKK hD hdep
       go_simp
       refine HK.out _ _ ⟨u,?_,HI.out.st7 e4 d4⟩
       simp only [e1,e4]
   · rintro D a0 W ⟨u,rfl,I⟩ hall
     obtain ⟨sb,e4,h4,S⟩:=I.f4 (hall 4 (by decide))
     obtain ⟨tb,e5,h5,T⟩:=I.f5 (hall 5 (by decide))
     rw [hall 6 (by decide),if_pos rfl] at S
     rw [hall 7 (by decide),if_pos rfl] at T
     have HF:=Lib.hid (And.intro S (And.intro T (And.intro I.Z (And.intro h4 h5))))
     clear S T I hall
     go_wp2_with fail
     go_meet
     exact ⟨sb,tb,e4,e5,HF.out⟩
 case rest =>
   obtain ⟨sb,tb,rfl,rfl,HCC⟩:=hcut
   clear X Y Z HV HV2 HSA HSB
   obtain ⟨S,T,Z,hsb,htb⟩:=HCC.out
   clear HCC
   go_upto_region 4 with fail
   have HSk:Hid (∀ W',Below wc.drew.heap.size wc.drew W' → Box w sb #[.int .i64 a,.int .i64 b,.int .i64 c,.int .i64 d] 83 W'):=fun W' h => (S.step ((Drw.refl _).drew.below _)).step h
   have HTk:Hid (∀ W',Below wc.drew.heap.size wc.drew W' → Box w tb #[.int .i64 a',.int .i64 b',.int .i64 c',.int .i64 d'] 83 W'):=fun W' h => (T.step ((Drw.refl _).drew.below _)).step h
   have HZk:Hid (∀ W',Below wc.drew.heap.size wc.drew W' → Box w (w.heap.size + 1 + 1) #[.int .i64 0,.int .i64 0,.int .i64 0,.int .i64 0] 62 W'):=fun W' h => (Z.step ((Drw.refl _).drew.below _)).step h
   have HSs:=Lib.hid (fun W' h u0 u1 u2 u3 => (HSk.out W' h).other4 (b':=w.heap.size + 1 + 1) (by omega) (by omega) u0 u1 u2 u3)
   have HTs:=Lib.hid (fun W' h u0 u1 u2 u3 => (HTk.out W' h).other4 (b':=w.heap.size + 1 + 1) (by omega) (by omega) u0 u1 u2 u3)
   have hbk:=Below.refl wc.drew.heap.size wc.drew
   clear S T Z
   go_region_held3 (fun w' => w'.cell? ⟨sb,0,none⟩=some (.int .i64 a) ∧ w'.cell? ⟨sb,1,none⟩=some (.int .i64 b) ∧ w'.cell? ⟨sb,2,none⟩=some (.int .i64 c) ∧ w'.cell? ⟨sb,3,none⟩=some (.int .i64 d) ∧ w'.cell? ⟨tb,0,none⟩=some (.int .i64 a') ∧ w'.cell? ⟨tb,1,none⟩=some (.int .i64 b') ∧ w'.cell? ⟨tb,2,none⟩=some (.int .i64 c') ∧ w'.cell? ⟨tb,3,none⟩=some (.int .i64 d')) (((first | dsimp only | skip); first | (with_reducible exact ⟨(HSk.out _ hbk).cell 0 _ rfl,(HSk.out _ hbk).cell 1 _ rfl,(HSk.out _ hbk).cell 2 _ rfl,(HSk.out _ hbk).cell 3 _ rfl,(HTk.out _ hbk).cell 0 _ rfl,(HTk.out _ hbk).cell 1 _ rfl,(HTk.out _ hbk).cell 2 _ rfl,(HTk.out _ hbk).cell 3 _ rfl⟩) | (with_reducible exact ⟨(HSs.out _ hbk _ _ _ _).cell 0 _ rfl,(HSs.out _ hbk _ _ _ _).cell 1 _ rfl,(HSs.out _ hbk _ _ _ _).cell 2 _ rfl,(HSs.out _ hbk _ _ _ _).cell 3 _ rfl,(HTs.out _ hbk _ _ _ _).cell 0 _ rfl,(HTs.out _ hbk _ _ _ _).cell 1 _ rfl,(HTs.out _ hbk _ _ _ _).cell 2 _ rfl,(HTs.out _ hbk _ _ _ _).cell 3 _ rfl⟩))) (first
     | (go_at_call 95; (first | (with_reducible refine (HP1.out _).mono ?_) | (with_reducible refine (HP2.out _).mono ?_)); rintro e w' ⟨rfl,hb⟩; replace hbk:=hbk.trans (hb.mono hbk.size); clear hb)
     | (go_at_call 40; (with_reducible refine (HD.out _).mono ?_); rintro e w' ⟨rfl,hb⟩; replace hbk:=hbk.trans (hb.mono hbk.size); clear hb; have z0:=(HZk.out _ hbk).cell 0 _ rfl; have z1:=(HZk.out _ hbk).cell 1 _ rfl; have z2:=(HZk.out _ hbk).cell 2 _ rfl; have z3:=(HZk.out _ hbk).cell 3 _ rfl; have g0:=(HZk.out _ hbk).frozen 0; have g1:=(HZk.out _ hbk).frozen 1; have g2:=(HZk.out _ hbk).frozen 2; have g3:=(HZk.out _ hbk).frozen 3))
   all_goals
     go_wp2
     exact bodyPost_ret (v:=.tuple #[.agg #[.int .i64 o1,.int .i64 o2,.int .i64 o3,.int .i64 o4],.bool o5]) (by simp [results,Tryz.f108,go_sem,z0,z1,z2,z3]) rfl ⟨rfl,set4 (HZk.out _ hbk).old (b:=w.heap.size + 1 + 1) (by omega) _ _ _ _⟩
end Go.Proofs.YthhfljldbfgpcaaGreatDoor
end

section
namespace Go.Proofs.YthhfljldbfgpcaaGreatDoor
open Go.RowKit
set_option maxHeartbeats 8000000 in
theorem implSquare_is (a b c d:Int) (hv:boxOK a b c d=true) (w:World):Calls Vp.prog 107 #[.agg #[.int .i64 a,.int .i64 b,.int .i64 c,.int .i64 d]] w fun e w' => e=.returned (doneV (Bx.sq ⟨a,b,c,d⟩)) ∧ Below w.heap.size w w':=by
 obtain ⟨X,Z⟩:=two0 w #[.int .i64 a,.int .i64 b,.int .i64 c,.int .i64 d] 62 #[.int .i64 0,.int .i64 0,.int .i64 0,.int .i64 0] 62
 obtain ⟨b1,b2,b3,b4,b5,b6⟩:=Bx.bd (x:=⟨a,b,c,d⟩) hv
 dsimp only at b1 b2 b3 b4 b5 b6
 have l1:=sqLo_bd (l:=a) (h:=b) (k:=134217728) (by omega) (by omega)
 have l2:=sqLo_bd (l:=c) (h:=d) (k:=134217728) (by omega) (by omega)
 have l3:=sqHi_bd (l:=a) (h:=b) (k:=134217728) (by omega) (by omega) (by omega) (by omega)
 have l4:=sqHi_bd (l:=c) (h:=d) (k:=134217728) (by omega) (by omega) (by omega) (by omega)
 have u1:=mul_bd (x:=a) (y:=c) (k:=134217728) (by omega) (by omega) (by omega) (by omega)
 have u2:=mul_bd (x:=a) (y:=d) (k:=134217728) (by omega) (by omega) (by omega) (by omega)
 have u3:=mul_bd (x:=b) (y:=c) (k:=134217728) (by omega) (by omega) (by omega) (by omega)
 have u4:=mul_bd (x:=b) (y:=d) (k:=134217728) (by omega) (by omega) (by omega) (by omega)
 have bm:-18014398509481984 ≤ mLo ⟨a,b,c,d⟩ ∧ mLo ⟨a,b,c,d⟩ ≤ 18014398509481984:=by unfold mLo; dsimp only; omega
 have bn:-18014398509481984 ≤ mHi ⟨a,b,c,d⟩ ∧ mHi ⟨a,b,c,d⟩ ≤ 18014398509481984:=by unfold mHi; dsimp only; omega
 have HV:=Lib.hid (implValid_is a b c d)
 rw [hv] at HV
 have HQ:=Lib.hid (spSquare_is a b (by omega) (by omega) (by omega) (by omega))
 have HR:=Lib.hid (spSquare_is c d (by omega) (by omega) (by omega) (by omega))
 have HT:=Lib.hid (spTimes_is a b c d (by omega) (by omega) (by omega) (by omega) (by omega) (by omega) (by omega) (by omega))
 have hsq:Bx.sq ⟨a,b,c,d⟩=⟨(sqLo a b - sqHi c d) / 16777216,cei (sqHi a b - sqLo c d) 16777216,(mLo ⟨a,b,c,d⟩ + mLo ⟨a,b,c,d⟩) / 16777216,cei (mHi ⟨a,b,c,d⟩ + mHi ⟨a,b,c,d⟩) 16777216⟩:=by
   unfold Bx.sq
   rw [show 2 * mLo ⟨a,b,c,d⟩=mLo ⟨a,b,c,d⟩ + mLo ⟨a,b,c,d⟩ by omega,show 2 * mHi ⟨a,b,c,d⟩=mHi ⟨a,b,c,d⟩ + mHi ⟨a,b,c,d⟩ by omega]
 rw [hsq]
 generalize sqLo a b=s1 at *
 generalize sqLo c d=s3 at *
 generalize sqHi a b=s2 at *
 generalize sqHi c d=s4 at *
 generalize mLo ⟨a,b,c,d⟩=m3 at *
 generalize mHi ⟨a,b,c,d⟩=n3 at *
 have HL:=Lib.hid (spLess_is s1 s2 s3 s4 (by omega) (by omega) (by omega) (by omega) (by omega) (by omega) (by omega) (by omega))
 have HP:=Lib.hid (spPlus_is m3 n3 m3 n3 (by omega) (by omega) (by omega) (by omega) (by omega) (by omega) (by omega) (by omega))
 have HO:=Lib.hid (spOut_is (s1 - s4) (s2 - s3) 24 (by decide) (by omega) (by omega) (by omega) (by omega))
 have HO2:=Lib.hid (spOut_is (m3 + m3) (n3 + n3) 24 (by decide) (by omega) (by omega) (by omega) (by omega))
 have hk:((2 ^ 24:Nat):Int)=16777216:=rfl
 have hk2:((24:Nat):Int)=24:=rfl
 rw [hk,hk2] at HO HO2
 generalize s1 - s4=D1 at *
 generalize s2 - s3=D2 at *
 generalize m3 + m3=D3 at *
 generalize n3 + n3=D4 at *
 generalize D1 / 16777216=F1 at *
 generalize cei D2 16777216=F2 at *
 generalize D3 / 16777216=F3 at *
 generalize cei D4 16777216=F4 at *
 have HD:=Lib.hid (spBox_is F1 F2 F3 F4)
 obtain ⟨o1,o2,o3,o4,o5,hx⟩:=doneV_form ⟨F1,F2,F3,F4⟩
 rw [hx] at HD
 rw [hx]
 clear b1 b2 b3 b4 b5 b6 l1 l2 l3 l4 u1 u2 u3 u4 bm bn hsq hk hk2 hx hv
 have x0:=X.cell 0 _ rfl
 have x1:=X.cell 1 _ rfl
 have x2:=X.cell 2 _ rfl
 have x3:=X.cell 3 _ rfl
 go_enter Vp.func107,Tryz.ntmps107
 go_wp2_with fail
 refine (HV.out _).mono ?_
 rintro e w1 ⟨rfl,hb⟩
 clear x0 x1 x2 x3
 replace X:=X.step hb
 replace Z:=Z.step hb
 clear hb
 have x0:=X.cell 0 _ rfl
 have x1:=X.cell 1 _ rfl
 have x2:=X.cell 2 _ rfl
 have x3:=X.cell 3 _ rfl
 go_wp2_with fail
 refine (boxSpans_is a b c d _).mono ?_
 rintro e w2 ⟨rfl,hb⟩
 clear x0 x1 x2 x3
 replace X:=X.step hb
 replace Z:=Z.step hb
 clear hb
 have Y:=(Box.new w2 #[.int .i64 a,.int .i64 b,.int .i64 c,.int .i64 d] 83).up X.old
 have hlz:=Z.lt
 replace Z:=Z.alloc (.cells #[.int .i64 a,.int .i64 b,.int .i64 c,.int .i64 d] 83)
 have hsz:=X.old.size
 clear X
 go_upto_region 4 with fail
 generalize w2.heap.size=yb at *
 generalize w2.alloc (.cells #[.int .i64 a,.int .i64 b,.int .i64 c,.int .i64 d] 83)=W at *
 have hyb:yb < W.drew.heap.size:=Y.lt
 have HY:Hid (∀ W',Below W.drew.heap.size W.drew W' → Box w yb #[.int .i64 a,.int .i64 b,.int .i64 c,.int .i64 d] 83 W'):=fun W' h => (Y.step ((Drw.refl _).drew.below _)).step h
 have HZ:Hid (∀ W',Below W.drew.heap.size W.drew W' → Box w (w.heap.size + 1) #[.int .i64 0,.int .i64 0,.int .i64 0,.int .i64 0] 62 W'):=fun W' h => (Z.step ((Drw.refl _).drew.below _)).step h
 have HW:Hid (∀ W',Below W.drew.heap.size W.drew W' → Below w.heap.size w W'):=fun W' h => (HY.out W' h).old
 have hbk:=Below.refl W.drew.heap.size W.drew
 have hzl:w.heap.size + 1 < W.drew.heap.size:=Z.lt
 have HYd:Hid (∀ o,Box w yb #[.int .i64 a,.int .i64 b,.int .i64 c,.int .i64 d] 83 (W.alloc o).drew):=fun o => (Y.alloc o).step ((Drw.refl _).drew.below _)
 have H0:Hid (∀ o,Below W.drew.heap.size W.drew (W.alloc o).drew):=fun o => (Below.refl _ W.drew).alloc (Nat.le_refl _) o
 have HWW:Hid (Below w.heap.size w W):=Y.old
 clear Y Z
 go_cut [5] from 13 to 19 (fun p wx => ∃ rb:Nat,p=.pointer (some ⟨rb,0,none⟩) ∧ Hid (Box w rb #[.int .i64 D1,.int .i64 D2] 81 wx ∧ Box w yb #[.int .i64 a,.int .i64 b,.int .i64 c,.int .i64 d] 83 wx ∧ Box w (w.heap.size + 1) #[.int .i64 0,.int .i64 0,.int .i64 0,.int .i64 0] 62 wx ∧ w.heap.size + 1 < rb))
 case first =>
   go_region_held3 (fun w' => w'.cell? ⟨yb,0,none⟩=some (.int .i64 a) ∧ w'.cell? ⟨yb,1,none⟩=some (.int .i64 b) ∧ w'.cell? ⟨yb,2,none⟩=some (.int .i64 c) ∧ w'.cell? ⟨yb,3,none⟩=some (.int .i64 d)) (((first | dsimp only | skip); first | (with_reducible exact ⟨(HY.out _ hbk).cell 0 _ rfl,(HY.out _ hbk).cell 1 _ rfl,(HY.out _ hbk).cell 2 _ rfl,(HY.out _ hbk).cell 3 _ rfl⟩) | (with_reducible exact ⟨((HY.out _ hbk).alloc _).cell 0 _ rfl,((HY.out _ hbk).alloc _).cell 1 _ rfl,((HY.out _ hbk).alloc _).cell 2 _ rfl,((HY.out _ hbk).alloc _).cell 3 _ rfl⟩) | (with_reducible exact ⟨(HYd.out _).cell 0 _ rfl,(HYd.out _).cell 1 _ rfl,(HYd.out _).cell 2 _ rfl,(HYd.out _).cell 3 _ rfl⟩) | (with_reducible exact ⟨((HY.out _ hbk).other2 (Nat.le_of_succ_le (Nat.le_of_lt hrl)) hne _ _).cell 0 _ rfl,((HY.out _ hbk).other2 (Nat.le_of_succ_le (Nat.le_of_lt hrl)) hne _ _).cell 1 _ rfl,((HY.out _ hbk).other2 (Nat.le_of_succ_le (Nat.le_of_lt hrl)) hne _ _).cell 2 _ rfl,((HY.out _ hbk).other2 (Nat.le_of_succ_le (Nat.le_of_lt hrl)) hne _ _).cell 3 _ rfl⟩))) (first
     | (go_at_call 94; (first | (with_reducible refine (HQ.out _).mono ?_) | (with_reducible refine (HR.out _).mono ?_)); rintro e w' ⟨rfl,hb⟩; first | (replace hbk:=hbk.trans (hb.mono hbk.size); first | (replace R:=R.step hb; have r0:=R.cell 0 _ rfl; have r1:=R.cell 1 _ rfl; have f0:=R.frozen 0; have f1:=R.frozen 1) | skip) | (have R:=((Box.new _ #[.int .i64 0,.int .i64 0] 81).step hb).up (HW.out _ hbk); have hne:yb ≠ _:=Nat.ne_of_lt (Nat.lt_of_lt_of_le hyb hbk.size); have hrl:=Nat.lt_of_lt_of_le hzl hbk.size; replace hbk:=(hbk.alloc hbk.size _).trans (hb.mono (hbk.alloc hbk.size _).size); have r0:=R.cell 0 _ rfl; have r1:=R.cell 1 _ rfl; have f0:=R.frozen 0; have f1:=R.frozen 1) | (have R:=(((Box.new W #[.int .i64 0,.int .i64 0] 81).step ((Drw.refl _).drew.below _)).step hb).up HWW.out; have hne:yb ≠ W.heap.size:=Nat.ne_of_lt hyb; have hrl:w.heap.size + 1 < W.heap.size:=hzl; replace hbk:=(H0.out _).trans (hb.mono (H0.out _).size); have r0:=R.cell 0 _ rfl; have r1:=R.cell 1 _ rfl; have f0:=R.frozen 0; have f1:=R.frozen 1); clear hb)
     | (go_at_call 93; (with_reducible refine (HL.out _).mono ?_); rintro e w' ⟨rfl,hb⟩; first | (replace hbk:=hbk.trans (hb.mono hbk.size); first | (replace R:=R.step hb; have r0:=R.cell 0 _ rfl; have r1:=R.cell 1 _ rfl; have f0:=R.frozen 0; have f1:=R.frozen 1) | skip) | (have R:=((Box.new _ #[.int .i64 0,.int .i64 0] 81).step hb).up (HW.out _ hbk); have hne:yb ≠ _:=Nat.ne_of_lt (Nat.lt_of_lt_of_le hyb hbk.size); have hrl:=Nat.lt_of_lt_of_le hzl hbk.size; replace hbk:=(hbk.alloc hbk.size _).trans (hb.mono (hbk.alloc hbk.size _).size); have r0:=R.cell 0 _ rfl; have r1:=R.cell 1 _ rfl; have f0:=R.frozen 0; have f1:=R.frozen 1) | (have R:=(((Box.new W #[.int .i64 0,.int .i64 0] 81).step ((Drw.refl _).drew.below _)).step hb).up HWW.out; have hne:yb ≠ W.heap.size:=Nat.ne_of_lt hyb; have hrl:w.heap.size + 1 < W.heap.size:=hzl; replace hbk:=(H0.out _).trans (hb.mono (H0.out _).size); have r0:=R.cell 0 _ rfl; have r1:=R.cell 1 _ rfl; have f0:=R.frozen 0; have f1:=R.frozen 1); clear hb))
   all_goals
     go_wp2_with fail
     go_meet
     first
       | exact ⟨_,rfl,(Box.new _ _ _).up (HW.out _ hbk),(HY.out _ hbk).alloc _,(HZ.out _ hbk).alloc _,by have:=hbk.size; omega⟩
       | exact ⟨_,rfl,(R.set (by omega) 0 (.int .i64 D1)).set (by omega) 1 (.int .i64 D2),(HY.out _ hbk).other2 (by omega) hne _ _,(HZ.out _ hbk).other2 (by omega) (by omega) _ _,by omega⟩
 case rest =>
   obtain ⟨rb,rfl,HC⟩:=hcut
   clear HY HZ HW hbk HYd H0 HWW hyb hzl hlz hsz HQ HR HL
   obtain ⟨R,Y,Z,hrb⟩:=HC.out
   clear HC
   have hrl:=R.lt
   have y0:=Y.cell 0 _ rfl
   have y1:=Y.cell 1 _ rfl
   have y2:=Y.cell 2 _ rfl
   have y3:=Y.cell 3 _ rfl
   go_wp2_with fail
   refine (HT.out _).mono ?_
   rintro e w5 ⟨rfl,hb⟩
   clear y0 y1 y2 y3 Y
   replace R:=R.step hb
   replace Z:=Z.step hb
   have hib:rb < w5.heap.size:=R.lt
   clear hb
   have I:=(Box.new w5 #[.int .i64 m3,.int .i64 n3] 81).up R.old
   replace R:=R.alloc (.cells #[.int .i64 m3,.int .i64 n3] 81)
   replace Z:=Z.alloc (.cells #[.int .i64 m3,.int .i64 n3] 81)
   have i0:=I.cell 0 _ rfl
   have i1:=I.cell 1 _ rfl
   go_wp2_with fail
   refine (HP.out _).mono ?_
   rintro e w6 ⟨rfl,hb⟩
   clear i0 i1
   replace R:=R.step hb
   replace Z:=Z.step hb
   replace I:=I.step hb
   clear hb
   have i0:=I.cell 0 _ rfl
   have i1:=I.cell 1 _ rfl
   have f0:=I.frozen 0
   have f1:=I.frozen 1
   go_upto_region 7 with fail
   clear i0 i1 f0 f1
   generalize w5.heap.size=ib at *
   replace I:Box w ib #[.int .i64 D3,.int .i64 D4] 81 ((w6.setCell ⟨ib,0,none⟩ (.int .i64 D3)).setCell ⟨ib,1,none⟩ (.int .i64 D4)):=(I.set (by omega) 0 (.int .i64 D3)).set (by omega) 1 (.int .i64 D4)
   replace R:=R.other2 (b':=ib) (by omega) (by omega) (.int .i64 D3) (.int .i64 D4)
   replace Z:=Z.other2 (b':=ib) (by omega) (by omega) (.int .i64 D3) (.int .i64 D4)
   generalize (w6.setCell ⟨ib,0,none⟩ (.int .i64 D3)).setCell ⟨ib,1,none⟩ (.int .i64 D4)=V at *
   have HRk:Hid (∀ W',Below V.drew.heap.size V.drew W' → Box w rb #[.int .i64 D1,.int .i64 D2] 81 W'):=fun W' h => (R.step ((Drw.refl _).drew.below _)).step h
   have HIk:Hid (∀ W',Below V.drew.heap.size V.drew W' → Box w ib #[.int .i64 D3,.int .i64 D4] 81 W'):=fun W' h => (I.step ((Drw.refl _).drew.below _)).step h
   have HZk:Hid (∀ W',Below V.drew.heap.size V.drew W' → Box w (w.heap.size + 1) #[.int .i64 0,.int .i64 0,.int .i64 0,.int .i64 0] 62 W'):=fun W' h => (Z.step ((Drw.refl _).drew.below _)).step h
   have HRs:=Lib.hid (fun W' h u0 u1 u2 u3 => (HRk.out W' h).other4 (b':=w.heap.size + 1) (by omega) (by omega) u0 u1 u2 u3)
   have HIs:=Lib.hid (fun W' h u0 u1 u2 u3 => (HIk.out W' h).other4 (b':=w.heap.size + 1) (by omega) (by omega) u0 u1 u2 u3)
   have hbk:=Below.refl V.drew.heap.size V.drew
   clear R I Z
   go_region_held3 (fun w' => w'.cell? ⟨rb,0,none⟩=some (.int .i64 D1) ∧ w'.cell? ⟨rb,1,none⟩=some (.int .i64 D2) ∧ w'.cell? ⟨ib,0,none⟩=some (.int .i64 D3) ∧ w'.cell? ⟨ib,1,none⟩=some (.int .i64 D4)) (((first | dsimp only | skip); first | (with_reducible exact ⟨(HRk.out _ hbk).cell 0 _ rfl,(HRk.out _ hbk).cell 1 _ rfl,(HIk.out _ hbk).cell 0 _ rfl,(HIk.out _ hbk).cell 1 _ rfl⟩) | (with_reducible exact ⟨(HRs.out _ hbk _ _ _ _).cell 0 _ rfl,(HRs.out _ hbk _ _ _ _).cell 1 _ rfl,(HIs.out _ hbk _ _ _ _).cell 0 _ rfl,(HIs.out _ hbk _ _ _ _).cell 1 _ rfl⟩))) (first
     | (go_at_call 70; (first | (with_reducible refine (HO.out _).mono ?_) | (with_reducible refine (HO2.out _).mono ?_)); rintro e w' ⟨rfl,hb⟩; replace hbk:=hbk.trans (hb.mono hbk.size); clear hb)
     | (go_at_call 40; (with_reducible refine (HD.out _).mono ?_); rintro e w' ⟨rfl,hb⟩; replace hbk:=hbk.trans (hb.mono hbk.size); clear hb; have z0:=(HZk.out _ hbk).cell 0 _ rfl; have z1:=(HZk.out _ hbk).cell 1 _ rfl; have z2:=(HZk.out _ hbk).cell 2 _ rfl; have z3:=(HZk.out _ hbk).cell 3 _ rfl; have g0:=(HZk.out _ hbk).frozen 0; have g1:=(HZk.out _ hbk).frozen 1; have g2:=(HZk.out _ hbk).frozen 2; have g3:=(HZk.out _ hbk).frozen 3))
   all_goals
     go_wp2
     exact bodyPost_ret (v:=.tuple #[.agg #[.int .i64 o1,.int .i64 o2,.int .i64 o3,.int .i64 o4],.bool o5]) (by simp [results,Tryz.f107,go_sem,z0,z1,z2,z3]) rfl ⟨rfl,set4 (HZk.out _ hbk).old (b:=w.heap.size + 1) (by omega) _ _ _ _⟩
end Go.Proofs.YthhfljldbfgpcaaGreatDoor
end

section
namespace Go.Proofs.YthhfljldbfgpcaaGreatDoor
open Go.RowKit
def iterPost (h0:Nat) (N:Nat) (I:Nat → World → Prop) (Ix:Code → Nat → World → Prop) (k:Nat) (W:World):Exit → Act → World → Prop
 | .normal,_,B => KeepsFrom h0 W B ∧ k < N ∧ I (k + 1) B
 | .ret,_,B => KeepsFrom h0 W B ∧ Ix .ret k B
 | .exit id,_,B => KeepsFrom h0 W B ∧ Ix (.exit id) k B
 | .goto t,_,B => KeepsFrom h0 W B ∧ Ix (.goto t) k B
 | .panic _,_,_ => False
 | .outgrown,_,_ => False
variable {F:Fence} {n:Nat} {P:Program}
def loopRec (fn:FuncId) (tmps:Array Value) (ps:Array Tmp) (assign body:Code) (d:Nat) (st:LoopState) (pe:Option Code):Loop :=
 { state:=st,pending:=pe,fn:=fn,tmps:=tmps,params:=ps,assign:=assign,body:=body,defers:=d }
end Go.Proofs.YthhfljldbfgpcaaGreatDoor
end
