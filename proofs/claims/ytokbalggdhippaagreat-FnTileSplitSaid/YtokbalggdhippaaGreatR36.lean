/- Merged texts: BkD, BkF, BiV, Iter. -/
import Derived.Test.YtokbalggdhippaaGreatR4
import Derived.Deep.Cut
import Derived.Deep.RegionHeld3
import Derived.Deep.RegionLaw
import Derived.Test.YtokbalggdhippaaGreatR13
import Derived.Test.YtokbalggdhippaaGreatR35
import Derived.Test.YtokbalggdhippaaGreatR15
import Derived.Test.YtokbalggdhippaaGreatR11
import Derived.Deep.CutRange
import Derived.Test.YtokbalggdhippaaGreatR1
import Derived.RangeFuncNested
import Derived.RangeFuncCalls
import Derived.RangeFuncLeaves
import Derived.RangeFuncBox
import Derived.OwnWalkIn
import Derived.TacticsInMore
import Derived.LoopNIn
import Derived.LoopIn
set_option linter.all false
section
namespace Go.Proofs.YtokbalggdhippaaGreat
open Go.RowKit
attribute [local go_sem ↓] Go.wp_at_zero Go.wp_at_succ
attribute [local go_sem] run_store_float run_store_complex
theorem TM.startV {w W:World} {rb:Nat} (cx cy:Nat) (deep size:Int) {cap:Nat} {C D:Array Value} (hm:cap ≤ maxLen) (hC:C.size=cap) (hD:D.size=cap) (R:Box w rb (tileC 0 0 0 0 (.slice none 0 0) (.slice none 0 0)) 29 W) (hr:w.heap.size ≤ rb) :
   TM w rb (W.heap.size + 1 + 1) cx cy deep size 0 0 [] [] (.slice (some ⟨W.heap.size,0,none⟩) 0 cap) (.slice (some ⟨W.heap.size + 1,0,none⟩) 0 cap) (((W.alloc (.cells C 63)).alloc (.cells D 3)).alloc (.cells (tileC cx cy deep size (.slice (some ⟨W.heap.size,0,none⟩) 0 cap) (.slice (some ⟨W.heap.size + 1,0,none⟩) 0 cap)) 29)):=by
 have hs:=R.old.size
 have hlt:=R.lt
 have new:∀ (W:World) (C:Array Value) (t:TypeId),(W.alloc (.cells C t)).heap[W.heap.size]?=some (.cells C t (0,0)):=fun W C t => heap_alloc_new W _
 have far:∀ (W:World) (C:Array Value) (t:TypeId) (k:Nat) (o:Obj),W.heap[k]?=some o → (W.alloc (.cells C t)).heap[k]?=some o:=fun W C t k o h => (Below.heap_alloc W _ k (Array.getElem?_eq_some_iff.1 h).1).trans h
 have n0:=new W C 63
 have n1:=new (W.alloc (.cells C 63)) D 3
 simp only [World.size_alloc] at n1
 refine ⟨?_,((R.alloc _).alloc _).alloc _,⟨by simp,.inr ⟨_,_,C,rfl,hs,far _ _ _ _ _ (far _ _ _ _ _ n0),Nat.zero_le _,hm,by simp [hC],by simp⟩⟩,⟨by simp,.inr ⟨_,_,D,rfl,by omega,far _ _ _ _ _ n1,Nat.zero_le _,hm,by simp [hD],by simp⟩⟩,(fun x hx => by cases hx),(fun x hx => by cases hx),by omega,hr,by omega⟩
 have:=(Box.new ((W.alloc (.cells C 63)).alloc (.cells D 3)) (tileC cx cy deep size (.slice (some ⟨W.heap.size,0,none⟩) 0 cap) (.slice (some ⟨W.heap.size + 1,0,none⟩) 0 cap)) 29).up (w0:=w) ((R.alloc _).alloc _).old
 simpa only [World.size_alloc] using this
theorem row_full {W:World} {B cap:Nat} {e:TypeId} {g:Nat} {xs:List Value} (h:W.ownsRow B e 1 (.slice (some ⟨g,0,none⟩) cap cap) cap xs):B ≤ g ∧ W.heap[g]?=some (.cells xs.toArray e (0,0)):=by
 obtain ⟨hl,h⟩:=h
 rcases h with ⟨h,_⟩ | ⟨g',c,cur,h1,h2,h3,h4,h5,h6,h7⟩
 · cases h
 · injection h1 with h1 _ h8
   injection h1 with h1
   injection h1 with h1
   subst h1 h8
   refine ⟨h2,?_⟩
   rw [← h7,h3]
   have:cur.toList.take (cap * 1)=cur.toList:=List.take_of_length_le (by simp [h6])
   rw [this]
theorem tileW_made {cx cy d s cap B:Nat} {gs gm:Nat} {xs:List Nat} {ys:List Int} {W:World} (hcap:s * s=cap) (h:Made B ((s:Int).toNat * (s:Int).toNat) xs ys (.slice (some ⟨gs,0,none⟩) cap cap) (.slice (some ⟨gm,0,none⟩) cap cap) W) :
   TileW cx cy d s xs ys B (.tuple #[.agg #[.complex .f32 cx cy,.int .i64 d,.int .i64 s,.slice (some ⟨gs,0,none⟩) cap cap,.slice (some ⟨gm,0,none⟩) cap cap],.bool true]) W:=by
 have e:(s:Int).toNat * (s:Int).toNat=cap:=by rw [Int.toNat_natCast]; exact hcap
 have hS:=h.S
 have hM:=h.M
 rw [e] at hS hM
 obtain ⟨b1,c1⟩:=row_full hS
 obtain ⟨b2,c2⟩:=row_full hM
 refine ⟨gs,gm,by rw [hcap]; rfl,b1,b2,fun x => ?_,c1,c2⟩
 rw [x,c2] at c1
 injection c1 with c1
 injection c1 with _ c1
 cases c1
def TileValV (w:World) (cx cy:Nat) (d s:Nat) (ok:Nat → Nat → Bool) (st:Nat → Nat → Int) (sm:Nat → Nat → Nat) (e:Ending) (w':World):Prop :=
 Below w.heap.size w w' ∧ (((∃ i j,i < s ∧ j < s ∧ ok i j=false) ∧ e=.returned zTileV) ∨
   ((∀ i j,i < s → j < s → ok i j=true) ∧ ∃ v,e=.returned v ∧ TileW cx cy d s (rowsOf s sm s) (rowsOf s st s) w.heap.size v w'))
set_option maxRecDepth 100000 in
set_option maxHeartbeats 8000000 in
theorem tileMakeV_val (cx cy d s:Nat) (most:Int) (hd10:d ≤ 10) (hs8:s ≤ 8) (hpl:placeB cx cy d s=true) {ok:Nat → Nat → Bool} {b0 b1 b2 b3:Nat → Nat → Int} {px py:Nat → Nat → Nat} {st:Nat → Nat → Int} {sm:Nat → Nat → Nat} (C:CellV cx cy d s most ok b0 b1 b2 b3 px py st sm) (w:World) :
   Calls Vp.prog 11 #[.complex .f32 cx cy,.int .i64 d,.int .i64 s,.int .i64 most] w (TileValV w cx cy d s ok st sm):=by
 have R:=Box.new w (tileC 0 0 0 0 (.slice none 0 0) (.slice none 0 0)) 29
 have HP:=Lib.hid (fun w => l7Place_isR cx cy d s w)
 rw [hpl] at HP
 have HCV:=Lib.hid C
 clear C hpl
 unfold tileC at R
 go_enter Vp.funcT,Vp.ntmpsT
 unfold Vp.guarded
 simp only [Vp.lay,Nat.reduceBEq,Bool.false_eq_true,if_false,if_true,Vp.guards,Vp.made]
 go_wp2_with fail
 refine (HP.out _).mono ?_
 rintro e w1 ⟨rfl,hd⟩
 have HR:=Lib.hid (R.step (hd.below _))
 clear R hd
 obtain ⟨iF,hiF,hzF0,hzF1,hzF2⟩:=info_parts infoF
 obtain ⟨iI,hiI,hzI0,hzI1,hzI2⟩:=info_parts infoI
 obtain ⟨cap,hcap⟩:∃ cap:Nat,s * s=cap:=⟨_,rfl⟩
 have hc64:cap ≤ 64:=by rw [← hcap]; exact Nat.mul_le_mul hs8 hs8
 have kss:((s * s:Nat):Int)=(s:Int) * s:=by simp
 have kc:wrap64 ((s:Int) * s)=(cap:Int):=by
   rw [← kss,hcap]
   exact w64 (by omega) (by omega)
 obtain ⟨cF,hcF,hF⟩:=run_make_0 (P:=Vp.prog) 26 63 iF _ (Vp.und Tryz.underlying26) hiF hzF0 cap (by omega) (by omega)
 obtain ⟨cI,hcI,hI⟩:=run_make_0 (P:=Vp.prog) 27 3 iI _ (Vp.und Tryz.underlying27) hiI hzI0 cap (by omega) (by omega)
 have kcs:((cap:Nat):Int)=(s:Int) * s:=by rw [← hcap]; simp
 have hF2:=hF
 have hI2:=hI
 simp only [kcs] at hF2 hI2
 have HT:=Lib.hid (TM.startV cx cy d s (show cap ≤ maxLen by unfold maxLen; omega) (show cF.size=cap by rw [hcF,hzF1]; omega) (show cI.size=cap by rw [hcI,hzI1]; omega) HR.out (Nat.le_refl _))
 unfold tileC at HT
 clear HR
 go_wp2
 clear hF hI hF2 hI2 kcs kc kss
 generalize w1.heap.size + 1 + 1=ob at *
 generalize w1.heap.size + 1=gm at *
 generalize w1.heap.size=gs at *
 go_loopw [11] (fun i wr => ∃ (k N:Nat),k ≤ s ∧ i=.int .i64 k ∧ Hid (N=k * s) ∧ Hid (∀ i j,i < k → j < s → ok i j=true) ∧ Hid (TM w w.heap.size ob cx cy d s N N (rowsOf s sm k) (rowsOf s st k) (.slice (some ⟨gs,0,none⟩) N cap) (.slice (some ⟨gm,0,none⟩) N cap) wr)) (fun i _ => (s - intOf i).toNat)
 case atStart => exact ⟨0,0,by omega,rfl,(by show 0=0 * s; simp),(fun i j h => by omega),HT⟩
 case round =>
   obtain ⟨k,N,hk,rfl,HN,HOK,HT⟩:=hrel
   obtain ⟨wo,rfl⟩:∃ wo,wo=wr:=⟨_,rfl⟩
   by_cases hks:k < s
   · go_wp2
     go_loopw [12] (fun j wr => ∃ (l N:Nat),l ≤ s ∧ j=.int .i64 l ∧ Hid (N=k * s + l) ∧ Hid (∀ j,j < l → ok k j=true) ∧ Hid (TM w w.heap.size ob cx cy d s N N (preR s sm k l) (preR s st k l) (.slice (some ⟨gs,0,none⟩) N cap) (.slice (some ⟨gm,0,none⟩) N cap) wr)) (fun j _ => (s - intOf j).toNat)
     case atStart => exact ⟨0,N,by omega,rfl,HN,(fun j h => by omega),by rw [preR_0,preR_0]; exact HT⟩
     case round =>
       clear HT HN
       obtain ⟨l,N,hl,rfl,HN,HOL,HT⟩:=hrel
       clear wo
       obtain ⟨wo,rfl⟩:∃ wo,wo=wr:=⟨_,rfl⟩
       by_cases hls:l < s
       · have hN72:N + 1 ≤ cap:=by
           have h2:=HN.out
           have h3:(k + 1) * s ≤ s * s:=Nat.mul_le_mul_right _ (by omega)
           rw [Nat.succ_mul] at h3
           omega
         have HC:=Lib.hid (HCV.out.box k l hks hls)
         have HST:=Lib.hid (HCV.out.state k l hks hls)
         have HPT:=Lib.hid (HCV.out.point k l hks hls)
         have HSM:=Lib.hid (HCV.out.smooth k l hks hls)
         have hz:=HCV.out.smlt k l
         obtain ⟨y0,y1⟩:=HCV.out.stbd k l
         obtain ⟨p,ep⟩:∃ p,b0 k l=p:=⟨_,rfl⟩
         obtain ⟨q,eq⟩:∃ p,b1 k l=p:=⟨_,rfl⟩
         obtain ⟨r,er⟩:∃ p,b2 k l=p:=⟨_,rfl⟩
         obtain ⟨u,eu⟩:∃ p,b3 k l=p:=⟨_,rfl⟩
         obtain ⟨t,et⟩:∃ p,ok k l=p:=⟨_,rfl⟩
         obtain ⟨x,ex⟩:∃ p,px k l=p:=⟨_,rfl⟩
         obtain ⟨y,ey⟩:∃ p,py k l=p:=⟨_,rfl⟩
         obtain ⟨z,ez⟩:∃ p,sm k l=p:=⟨_,rfl⟩
         obtain ⟨sT,eT⟩:∃ p,st k l=p:=⟨_,rfl⟩
         rw [ep,eq,er,eu,et] at HC
         rw [ep,eq,er,eu,et,eT] at HST
         rw [ex,ey] at HPT
         rw [ex,ey,ez,et] at HSM
         rw [ez] at hz
         rw [eT] at y0 y1
         have HZ:=Lib.hid ez
         have HS:=Lib.hid eT
         have HT':=Lib.hid et
         clear ep eq er eu et ex ey ez eT
         go_wp2_with fail
         refine (HC.out _).mono ?_
         rintro e w2 ⟨rfl,hb⟩
         have T:=HT.out.step hb
         clear HT hb HC
         cases t with
         | false =>
           replace T:=T.alloc (.cells #[.int .i64 p,.int .i64 q,.int .i64 r,.int .i64 u] 101)
           obtain ⟨c0,c1,c2,c3,c4⟩:=T.rc
           obtain ⟨f0,f1,f2,f3,f4⟩:=T.R.free5
           have HB:=Lib.hid T.old
           clear T
           go_wp2
           exact bodyPost_ret (v:=.tuple #[.agg #[.complex .f32 0 0,.int .i64 0,.int .i64 0,.slice none 0 0,.slice none 0 0],.bool false]) (by simp [results,Vp.resultsT,Tryz.f11,go_sem,c0,c1,c2,c3,c4]) rfl ⟨set5 HB.out (Nat.le_refl _) _ _ _ _ _,.inl ⟨⟨k,l,hks,hls,HT'.out⟩,rfl⟩⟩
         | true =>
           have HSTT:=Lib.hid (HST.out rfl)
           have HSMM:=Lib.hid (HSM.out rfl)
           clear HST HSM
           have X:=Box.new w2 #[.int .i64 p,.int .i64 q,.int .i64 r,.int .i64 u] 101
           have x0:=X.cell 0 _ rfl
           have x1:=X.cell 1 _ rfl
           have x2:=X.cell 2 _ rfl
           have x3:=X.cell 3 _ rfl
           have HT2:=Lib.hid (T.alloc (.cells #[.int .i64 p,.int .i64 q,.int .i64 r,.int .i64 u] 101))
           clear X T
           go_wp2_with fail
           refine (HSTT.out _).mono ?_
           rintro e w3 ⟨rfl,hb⟩
           have T3:=HT2.out.step hb
           have hbase:=T3.old.size
           obtain ⟨-,-,-,k3,-⟩:=T3.oc
           clear x0 x1 x2 x3 HT2 hb
           go_wp2_with fail
           go_region_law (first
             | (go_simp
                go_at_call 55
                refine (HPT.out _).mono ?_
                rintro e w4 ⟨rfl,rfl⟩
                have T4:=T3.drw (Drw.refl _).drew
                obtain ⟨-,-,-,k4,-⟩:=T4.oc)
             | (go_simp
                go_at_call 54
                refine (HSMM.out _).mono ?_
                rintro e w5 ⟨rfl,hd⟩
                have T5:=T4.drw hd
                have hb5:=T5.old.size
                obtain ⟨-,-,-,k5,-⟩:=T5.oc
                obtain ⟨-,-,-,k5',-⟩:=(T5.alloc (.cells #[.float .f32 z] 63)).oc
                clear hd)
             | (refine step_append_spare _ (by rfl) _ _ _ (by rfl) w.heap.size 63 iF 1 (Vp.und Tryz.underlying26) hiF hzF1 gs N cap ((preR s sm k l).map floV) (by rfl) (T5.S.alloc _) ⟨w5.heap.size,0,none⟩ 1 1 [floV z] (by rfl) (by rfl) (World.news_of_block (cs:=#[floV z]) (t:=63) (fr:=(0,0)) (heap_alloc_new w5 _)) (by simp [floV,Value.oneCell']) (by omega) ?_
                intro w6 hown hgrow
                obtain ⟨T6,k6,f6⟩:=(T5.alloc _).smooth hz hown hgrow))
           all_goals
             have HT6:=Lib.hid T6
             obtain ⟨-,-,-,-,k7⟩:=T6.oc
             obtain ⟨-,-,-,-,k8⟩:=(T6.alloc (.cells #[.int .i64 sT] 3)).oc
             have hb6:=T6.old.size
             clear T3 T4 T5 T6 k3 k4 k5 k5' k6 f6 hown hgrow
             generalize w6.setCell ⟨ob,3,none⟩ (.slice (some ⟨gs,0,none⟩) (N + 1) cap)=w7 at *
             go_wp2_with (at_builtin; refine wpList_append_own_spare _ rfl _ _ _ rfl w.heap.size 3 iI 1 (Vp.und Tryz.underlying27) hiI hzI1 gm N cap ((preR s st k l).map intV) rfl (HT6.out.M.alloc _) ⟨w7.heap.size,0,none⟩ 1 1 [intV sT] rfl rfl (World.news_of_block (cs:=#[intV sT]) (t:=3) (fr:=(0,0)) (heap_alloc_new w7 _)) (by simp [intV,Value.oneCell']) (by omega) ?_; intro w8 hown hgrow; obtain ⟨T8,k9,f9⟩:=(HT6.out.alloc _).mark ⟨y0,y1⟩ hown hgrow; have HT8:=Lib.hid T8; clear T8 hown hgrow)
             go_roundw
             case rel => exact ⟨l + 1,N + 1,by omega,by go_num,(by show N + 1=k * s + (l + 1); have:=HN.out; omega),(fun j hj => by
               by_cases e:j=l
               · rw [e]; exact HT'.out
               · exact HOL.out j (by omega)),(by
               show TM _ _ _ _ _ _ _ _ _ (preR s sm k (l + 1)) (preR s st k (l + 1)) _ _ _
               rw [← preR_succ,← preR_succ,HZ.out,HS.out]; exact HT8.out)⟩
             case measure => simp [intOf]; omega
       · obtain rfl:l=s:=by omega
         go_wp2
         go_roundw
         case rel => exact ⟨k + 1,N,by omega,by go_num,(by show N=(k + 1) * l; rw [Nat.succ_mul]; exact HN.out),(fun i j hi hj => by
           by_cases e:i=k
           · rw [e]; exact HOL.out j hj
           · exact HOK.out i j (by omega) hj),(by rw [← preR_row,← preR_row]; exact HT)⟩
         case measure => simp [intOf]; omega
   · obtain rfl:k=s:=by omega
     obtain ⟨c0,c1,c2,c3,c4⟩:=HT.out.rc
     obtain ⟨f0,f1,f2,f3,f4⟩:=HT.out.R.free5
     obtain ⟨o0,o1,o2,o3,o4⟩:=HT.out.oc
     have hne:=HT.out.ne
     go_wp2
     obtain rfl:cap=N:=by rw [← hcap]; exact HN.out.symm
     exact bodyPost_ret (v:=.tuple #[.agg #[.complex .f32 cx cy,.int .i64 d,.int .i64 k,.slice (some ⟨gs,0,none⟩) cap cap,.slice (some ⟨gm,0,none⟩) cap cap],.bool true]) (by simp [results,Vp.resultsT,Tryz.f11,go_sem,c0,c1,c2,c3,c4]) rfl ⟨set5 HT.out.old (Nat.le_refl _) _ _ _ _ _,.inr ⟨HOK.out,_,rfl,tileW_made hcap (HT.out.made HN.out _ _ _ _ _)⟩⟩
end Go.Proofs.YtokbalggdhippaaGreat
end

section
namespace Go.Proofs.YtokbalggdhippaaGreat
open Go.RowKit
attribute [local go_sem ↓] Go.wp_at_zero Go.wp_at_succ
attribute [local go_sem] run_store_float run_store_complex
set_option maxRecDepth 100000 in
set_option maxHeartbeats 4000000 in
theorem tileMake_no (cx cy:Nat) (deep size most:Int) (hpl:placeB cx cy deep size=false) (w:World) :
   Calls Vp.prog 29 #[.complex .f32 cx cy,.int .i64 deep,.int .i64 size,.int .i64 most] w fun e w' => e=.returned zTileV ∧ Below w.heap.size w w':=by
 have R:=Box.new w (tileC 0 0 0 0 (.slice none 0 0) (.slice none 0 0)) 29
 have HP:=Lib.hid (fun w => l7Place_isR cx cy deep size w)
 rw [hpl] at HP
 clear hpl
 unfold tileC at R
 go_enter Vp.func29,Tryz.ntmps29
 go_wp2_with fail
 refine (HP.out _).mono ?_
 rintro e w1 ⟨rfl,hd⟩
 replace R:=R.step (hd.below _)
 have c0:=R.cell 0 _ rfl
 have c1:=R.cell 1 _ rfl
 have c2:=R.cell 2 _ rfl
 have c3:=R.cell 3 _ rfl
 have c4:=R.cell 4 _ rfl
 have f0:=R.frozen 0
 have f1:=R.frozen 1
 have f2:=R.frozen 2
 have f3:=R.frozen 3
 have f4:=R.frozen 4
 have HB:=Lib.hid R.old
 clear R hd
 go_wp2
 exact bodyPost_ret (v:=.tuple #[.agg #[.complex .f32 0 0,.int .i64 0,.int .i64 0,.slice none 0 0,.slice none 0 0],.bool false]) (by simp [results,Tryz.f29,go_sem,c0,c1,c2,c3,c4]) rfl ⟨rfl,set5 HB.out (Nat.le_refl _) _ _ _ _ _⟩
set_option maxRecDepth 100000 in
set_option maxHeartbeats 4000000 in
theorem tileMakeV_no (cx cy:Nat) (deep size most:Int) (hpl:placeB cx cy deep size=false) (w:World) :
   Calls Vp.prog 11 #[.complex .f32 cx cy,.int .i64 deep,.int .i64 size,.int .i64 most] w fun e w' => e=.returned zTileV ∧ Below w.heap.size w w':=by
 have R:=Box.new w (tileC 0 0 0 0 (.slice none 0 0) (.slice none 0 0)) 29
 have HP:=Lib.hid (fun w => l7Place_isR cx cy deep size w)
 rw [hpl] at HP
 clear hpl
 unfold tileC at R
 go_enter Vp.funcT,Vp.ntmpsT
 unfold Vp.guarded
 simp only [Vp.lay,Nat.reduceBEq,Bool.false_eq_true,if_false,if_true,Vp.guards,Vp.made]
 go_wp2_with fail
 refine (HP.out _).mono ?_
 rintro e w1 ⟨rfl,hd⟩
 replace R:=R.step (hd.below _)
 have c0:=R.cell 0 _ rfl
 have c1:=R.cell 1 _ rfl
 have c2:=R.cell 2 _ rfl
 have c3:=R.cell 3 _ rfl
 have c4:=R.cell 4 _ rfl
 have f0:=R.frozen 0
 have f1:=R.frozen 1
 have f2:=R.frozen 2
 have f3:=R.frozen 3
 have f4:=R.frozen 4
 have HB:=Lib.hid R.old
 clear R hd
 go_wp2
 exact bodyPost_ret (v:=.tuple #[.agg #[.complex .f32 0 0,.int .i64 0,.int .i64 0,.slice none 0 0,.slice none 0 0],.bool false]) (by simp [results,Vp.resultsT,Tryz.f11,go_sem,c0,c1,c2,c3,c4]) rfl ⟨rfl,set5 HB.out (Nat.le_refl _) _ _ _ _ _⟩
end Go.Proofs.YtokbalggdhippaaGreat
end

section
namespace Go.Proofs.YtokbalggdhippaaGreat
open Go.RowKit
set_option maxHeartbeats 8000000 in
theorem implSquare_is (a b c d:Int) (hv:boxOK a b c d=true) (w:World):Calls Vp.prog 141 #[.agg #[.int .i64 a,.int .i64 b,.int .i64 c,.int .i64 d]] w fun e w' => e=.returned (doneV (Bx.sq ⟨a,b,c,d⟩)) ∧ Below w.heap.size w w':=by
 obtain ⟨X,Z⟩:=two0 w #[.int .i64 a,.int .i64 b,.int .i64 c,.int .i64 d] 101 #[.int .i64 0,.int .i64 0,.int .i64 0,.int .i64 0] 101
 obtain ⟨b1,b2,b3,b4,b5,b6⟩:=Bx.bd (x:=⟨a,b,c,d⟩) hv
 dsimp only at b1 b2 b3 b4 b5 b6
 have l1:=sqLo_bd (l:=a) (h:=b) (k:=134217728) (by omega) (by omega)
 have l2:=sqLo_bd (l:=c) (h:=d) (k:=134217728) (by omega) (by omega)
 have l3:=sqHi_bd (l:=a) (h:=b) (k:=134217728) (by omega) (by omega) (by omega) (by omega)
 have l4:=sqHi_bd (l:=c) (h:=d) (k:=134217728) (by omega) (by omega) (by omega) (by omega)
 have u1:=mul_bd (x:=a) (y:=c) (k:=134217728) (by omega) (by omega) (by omega) (by omega)
 have u2:=mul_bd (x:=a) (y:=d) (k:=134217728) (by omega) (by omega) (by omega) (by omega)
 have u3:=mul_bd (x:=b) (y:=c) (k:=134217728) (by omega) (by omega) (by omega) (by omega)
 have u4:=mul_bd (x:=b) (y:=d) (k:=134217728) (by omega) (by omega) (by omega) (by omega)
 have bm:-18014398509481984 ≤ mLo ⟨a,b,c,d⟩ ∧ mLo ⟨a,b,c,d⟩ ≤ 18014398509481984:=by unfold mLo; dsimp only; omega
 have bn:-18014398509481984 ≤ mHi ⟨a,b,c,d⟩ ∧ mHi ⟨a,b,c,d⟩ ≤ 18014398509481984:=by unfold mHi; dsimp only; omega
 have HV:=Lib.hid (implValid_is a b c d)
 rw [hv] at HV
 have HQ:=Lib.hid (spSquare_is a b (by omega) (by omega) (by omega) (by omega))
 have HR:=Lib.hid (spSquare_is c d (by omega) (by omega) (by omega) (by omega))
 have HT:=Lib.hid (spTimes_is a b c d (by omega) (by omega) (by omega) (by omega) (by omega) (by omega) (by omega) (by omega))
 have hsq:Bx.sq ⟨a,b,c,d⟩=⟨(sqLo a b - sqHi c d) / 16777216,cei (sqHi a b - sqLo c d) 16777216,(mLo ⟨a,b,c,d⟩ + mLo ⟨a,b,c,d⟩) / 16777216,cei (mHi ⟨a,b,c,d⟩ + mHi ⟨a,b,c,d⟩) 16777216⟩:=by
   unfold Bx.sq
   rw [show 2 * mLo ⟨a,b,c,d⟩=mLo ⟨a,b,c,d⟩ + mLo ⟨a,b,c,d⟩ by omega,show 2 * mHi ⟨a,b,c,d⟩=mHi ⟨a,b,c,d⟩ + mHi ⟨a,b,c,d⟩ by omega]
 rw [hsq]
 generalize sqLo a b=s1 at *
 generalize sqLo c d=s3 at *
 generalize sqHi a b=s2 at *
 generalize sqHi c d=s4 at *
 generalize mLo ⟨a,b,c,d⟩=m3 at *
 generalize mHi ⟨a,b,c,d⟩=n3 at *
 have HL:=Lib.hid (spLess_is s1 s2 s3 s4 (by omega) (by omega) (by omega) (by omega) (by omega) (by omega) (by omega) (by omega))
 have HP:=Lib.hid (spPlus_is m3 n3 m3 n3 (by omega) (by omega) (by omega) (by omega) (by omega) (by omega) (by omega) (by omega))
 have HO:=Lib.hid (spOut_is (s1 - s4) (s2 - s3) 24 (by decide) (by omega) (by omega) (by omega) (by omega))
 have HO2:=Lib.hid (spOut_is (m3 + m3) (n3 + n3) 24 (by decide) (by omega) (by omega) (by omega) (by omega))
 have hk:((2 ^ 24:Nat):Int)=16777216:=rfl
 have hk2:((24:Nat):Int)=24:=rfl
 rw [hk,hk2] at HO HO2
 generalize s1 - s4=D1 at *
 generalize s2 - s3=D2 at *
 generalize m3 + m3=D3 at *
 generalize n3 + n3=D4 at *
 generalize D1 / 16777216=F1 at *
 generalize cei D2 16777216=F2 at *
 generalize D3 / 16777216=F3 at *
 generalize cei D4 16777216=F4 at *
 have HD:=Lib.hid (spBox_is F1 F2 F3 F4)
 obtain ⟨o1,o2,o3,o4,o5,hx⟩:=doneV_form ⟨F1,F2,F3,F4⟩
 rw [hx] at HD
 rw [hx]
 clear b1 b2 b3 b4 b5 b6 l1 l2 l3 l4 u1 u2 u3 u4 bm bn hsq hk hk2 hx hv
 have x0:=X.cell 0 _ rfl
 have x1:=X.cell 1 _ rfl
 have x2:=X.cell 2 _ rfl
 have x3:=X.cell 3 _ rfl
 go_enter Vp.func141,Tryz.ntmps141
 go_wp2_with fail
 refine (HV.out _).mono ?_
 rintro e w1 ⟨rfl,hb⟩
 clear x0 x1 x2 x3
 replace X:=X.step hb
 replace Z:=Z.step hb
 clear hb
 have x0:=X.cell 0 _ rfl
 have x1:=X.cell 1 _ rfl
 have x2:=X.cell 2 _ rfl
 have x3:=X.cell 3 _ rfl
 go_wp2_with fail
 refine (boxSpans_is a b c d _).mono ?_
 rintro e w2 ⟨rfl,hb⟩
 clear x0 x1 x2 x3
 replace X:=X.step hb
 replace Z:=Z.step hb
 clear hb
 have Y:=(Box.new w2 #[.int .i64 a,.int .i64 b,.int .i64 c,.int .i64 d] 165).up X.old
 have hlz:=Z.lt
 replace Z:=Z.alloc (.cells #[.int .i64 a,.int .i64 b,.int .i64 c,.int .i64 d] 165)
 have hsz:=X.old.size
 clear X
 go_upto_region 4 with fail
 generalize w2.heap.size=yb at *
 generalize w2.alloc (.cells #[.int .i64 a,.int .i64 b,.int .i64 c,.int .i64 d] 165)=W at *
 have hyb:yb < W.drew.heap.size:=Y.lt
 have HY:Hid (∀ W',Below W.drew.heap.size W.drew W' → Box w yb #[.int .i64 a,.int .i64 b,.int .i64 c,.int .i64 d] 165 W'):=fun W' h => (Y.step ((Drw.refl _).drew.below _)).step h
 have HZ:Hid (∀ W',Below W.drew.heap.size W.drew W' → Box w (w.heap.size + 1) #[.int .i64 0,.int .i64 0,.int .i64 0,.int .i64 0] 101 W'):=fun W' h => (Z.step ((Drw.refl _).drew.below _)).step h
 have HW:Hid (∀ W',Below W.drew.heap.size W.drew W' → Below w.heap.size w W'):=fun W' h => (HY.out W' h).old
 have hbk:=Below.refl W.drew.heap.size W.drew
 have hzl:w.heap.size + 1 < W.drew.heap.size:=Z.lt
 have HYd:Hid (∀ o,Box w yb #[.int .i64 a,.int .i64 b,.int .i64 c,.int .i64 d] 165 (W.alloc o).drew):=fun o => (Y.alloc o).step ((Drw.refl _).drew.below _)
 have H0:Hid (∀ o,Below W.drew.heap.size W.drew (W.alloc o).drew):=fun o => (Below.refl _ W.drew).alloc (Nat.le_refl _) o
 have HWW:Hid (Below w.heap.size w W):=Y.old
 clear Y Z
 go_cut [5] from 13 to 19 (fun p wx => ∃ rb:Nat,p=.pointer (some ⟨rb,0,none⟩) ∧ Hid (Box w rb #[.int .i64 D1,.int .i64 D2] 163 wx ∧ Box w yb #[.int .i64 a,.int .i64 b,.int .i64 c,.int .i64 d] 165 wx ∧ Box w (w.heap.size + 1) #[.int .i64 0,.int .i64 0,.int .i64 0,.int .i64 0] 101 wx ∧ w.heap.size + 1 < rb))
 case first =>
   go_region_held3 (fun w' => w'.cell? ⟨yb,0,none⟩=some (.int .i64 a) ∧ w'.cell? ⟨yb,1,none⟩=some (.int .i64 b) ∧ w'.cell? ⟨yb,2,none⟩=some (.int .i64 c) ∧ w'.cell? ⟨yb,3,none⟩=some (.int .i64 d)) (((first | dsimp only | skip); first | (with_reducible exact ⟨(HY.out _ hbk).cell 0 _ rfl,(HY.out _ hbk).cell 1 _ rfl,(HY.out _ hbk).cell 2 _ rfl,(HY.out _ hbk).cell 3 _ rfl⟩) | (with_reducible exact ⟨((HY.out _ hbk).alloc _).cell 0 _ rfl,((HY.out _ hbk).alloc _).cell 1 _ rfl,((HY.out _ hbk).alloc _).cell 2 _ rfl,((HY.out _ hbk).alloc _).cell 3 _ rfl⟩) | (with_reducible exact ⟨(HYd.out _).cell 0 _ rfl,(HYd.out _).cell 1 _ rfl,(HYd.out _).cell 2 _ rfl,(HYd.out _).cell 3 _ rfl⟩) | (with_reducible exact ⟨((HY.out _ hbk).other2 (Nat.le_of_succ_le (Nat.le_of_lt hrl)) hne _ _).cell 0 _ rfl,((HY.out _ hbk).other2 (Nat.le_of_succ_le (Nat.le_of_lt hrl)) hne _ _).cell 1 _ rfl,((HY.out _ hbk).other2 (Nat.le_of_succ_le (Nat.le_of_lt hrl)) hne _ _).cell 2 _ rfl,((HY.out _ hbk).other2 (Nat.le_of_succ_le (Nat.le_of_lt hrl)) hne _ _).cell 3 _ rfl⟩))) (first
     | (go_at_call 112; (first | (with_reducible refine (HQ.out _).mono ?_) | (with_reducible refine (HR.out _).mono ?_)); rintro e w' ⟨rfl,hb⟩; first | (replace hbk:=hbk.trans (hb.mono hbk.size); first | (replace R:=R.step hb; have r0:=R.cell 0 _ rfl; have r1:=R.cell 1 _ rfl; have f0:=R.frozen 0; have f1:=R.frozen 1) | skip) | (have R:=((Box.new _ #[.int .i64 0,.int .i64 0] 163).step hb).up (HW.out _ hbk); have hne:yb ≠ _:=Nat.ne_of_lt (Nat.lt_of_lt_of_le hyb hbk.size); have hrl:=Nat.lt_of_lt_of_le hzl hbk.size; replace hbk:=(hbk.alloc hbk.size _).trans (hb.mono (hbk.alloc hbk.size _).size); have r0:=R.cell 0 _ rfl; have r1:=R.cell 1 _ rfl; have f0:=R.frozen 0; have f1:=R.frozen 1) | (have R:=(((Box.new W #[.int .i64 0,.int .i64 0] 163).step ((Drw.refl _).drew.below _)).step hb).up HWW.out; have hne:yb ≠ W.heap.size:=Nat.ne_of_lt hyb; have hrl:w.heap.size + 1 < W.heap.size:=hzl; replace hbk:=(H0.out _).trans (hb.mono (H0.out _).size); have r0:=R.cell 0 _ rfl; have r1:=R.cell 1 _ rfl; have f0:=R.frozen 0; have f1:=R.frozen 1); clear hb)
     | (go_at_call 111; (with_reducible refine (HL.out _).mono ?_); rintro e w' ⟨rfl,hb⟩; first | (replace hbk:=hbk.trans (hb.mono hbk.size); first | (replace R:=R.step hb; have r0:=R.cell 0 _ rfl; have r1:=R.cell 1 _ rfl; have f0:=R.frozen 0; have f1:=R.frozen 1) | skip) | (have R:=((Box.new _ #[.int .i64 0,.int .i64 0] 163).step hb).up (HW.out _ hbk); have hne:yb ≠ _:=Nat.ne_of_lt (Nat.lt_of_lt_of_le hyb hbk.size); have hrl:=Nat.lt_of_lt_of_le hzl hbk.size; replace hbk:=(hbk.alloc hbk.size _).trans (hb.mono (hbk.alloc hbk.size _).size); have r0:=R.cell 0 _ rfl; have r1:=R.cell 1 _ rfl; have f0:=R.frozen 0; have f1:=R.frozen 1) | (have R:=(((Box.new W #[.int .i64 0,.int .i64 0] 163).step ((Drw.refl _).drew.below _)).step hb).up HWW.out; have hne:yb ≠ W.heap.size:=Nat.ne_of_lt hyb; have hrl:w.heap.size + 1 < W.heap.size:=hzl; replace hbk:=(H0.out _).trans (hb.mono (H0.out _).size); have r0:=R.cell 0 _ rfl; have r1:=R.cell 1 _ rfl; have f0:=R.frozen 0; have f1:=R.frozen 1); clear hb))
   all_goals
     go_wp2_with fail
     go_meet
     first
       | exact ⟨_,rfl,(Box.new _ _ _).up (HW.out _ hbk),(HY.out _ hbk).alloc _,(HZ.out _ hbk).alloc _,by have:=hbk.size; omega⟩
       | exact ⟨_,rfl,(R.set (by omega) 0 (.int .i64 D1)).set (by omega) 1 (.int .i64 D2),(HY.out _ hbk).other2 (by omega) hne _ _,(HZ.out _ hbk).other2 (by omega) (by omega) _ _,by omega⟩
 case rest =>
   obtain ⟨rb,rfl,HC⟩:=hcut
   clear HY HZ HW hbk HYd H0 HWW hyb hzl hlz hsz HQ HR HL
   obtain ⟨R,Y,Z,hrb⟩:=HC.out
   clear HC
   have hrl:=R.lt
   have y0:=Y.cell 0 _ rfl
   have y1:=Y.cell 1 _ rfl
   have y2:=Y.cell 2 _ rfl
   have y3:=Y.cell 3 _ rfl
   go_wp2_with fail
   refine (HT.out _).mono ?_
   rintro e w5 ⟨rfl,hb⟩
   clear y0 y1 y2 y3 Y
   replace R:=R.step hb
   replace Z:=Z.step hb
   have hib:rb < w5.heap.size:=R.lt
   clear hb
   have I:=(Box.new w5 #[.int .i64 m3,.int .i64 n3] 163).up R.old
   replace R:=R.alloc (.cells #[.int .i64 m3,.int .i64 n3] 163)
   replace Z:=Z.alloc (.cells #[.int .i64 m3,.int .i64 n3] 163)
   have i0:=I.cell 0 _ rfl
   have i1:=I.cell 1 _ rfl
   go_wp2_with fail
   refine (HP.out _).mono ?_
   rintro e w6 ⟨rfl,hb⟩
   clear i0 i1
   replace R:=R.step hb
   replace Z:=Z.step hb
   replace I:=I.step hb
   clear hb
   have i0:=I.cell 0 _ rfl
   have i1:=I.cell 1 _ rfl
   have f0:=I.frozen 0
   have f1:=I.frozen 1
   go_upto_region 7 with fail
   clear i0 i1 f0 f1
   generalize w5.heap.size=ib at *
   replace I:Box w ib #[.int .i64 D3,.int .i64 D4] 163 ((w6.setCell ⟨ib,0,none⟩ (.int .i64 D3)).setCell ⟨ib,1,none⟩ (.int .i64 D4)):=(I.set (by omega) 0 (.int .i64 D3)).set (by omega) 1 (.int .i64 D4)
   replace R:=R.other2 (b':=ib) (by omega) (by omega) (.int .i64 D3) (.int .i64 D4)
   replace Z:=Z.other2 (b':=ib) (by omega) (by omega) (.int .i64 D3) (.int .i64 D4)
   generalize (w6.setCell ⟨ib,0,none⟩ (.int .i64 D3)).setCell ⟨ib,1,none⟩ (.int .i64 D4)=V at *
   have HRk:Hid (∀ W',Below V.drew.heap.size V.drew W' → Box w rb #[.int .i64 D1,.int .i64 D2] 163 W'):=fun W' h => (R.step ((Drw.refl _).drew.below _)).step h
   have HIk:Hid (∀ W',Below V.drew.heap.size V.drew W' → Box w ib #[.int .i64 D3,.int .i64 D4] 163 W'):=fun W' h => (I.step ((Drw.refl _).drew.below _)).step h
   have HZk:Hid (∀ W',Below V.drew.heap.size V.drew W' → Box w (w.heap.size + 1) #[.int .i64 0,.int .i64 0,.int .i64 0,.int .i64 0] 101 W'):=fun W' h => (Z.step ((Drw.refl _).drew.below _)).step h
   have HRs:=Lib.hid (fun W' h u0 u1 u2 u3 => (HRk.out W' h).other4 (b':=w.heap.size + 1) (by omega) (by omega) u0 u1 u2 u3)
   have HIs:=Lib.hid (fun W' h u0 u1 u2 u3 => (HIk.out W' h).other4 (b':=w.heap.size + 1) (by omega) (by omega) u0 u1 u2 u3)
   have hbk:=Below.refl V.drew.heap.size V.drew
   clear R I Z
   go_region_held3 (fun w' => w'.cell? ⟨rb,0,none⟩=some (.int .i64 D1) ∧ w'.cell? ⟨rb,1,none⟩=some (.int .i64 D2) ∧ w'.cell? ⟨ib,0,none⟩=some (.int .i64 D3) ∧ w'.cell? ⟨ib,1,none⟩=some (.int .i64 D4)) (((first | dsimp only | skip); first | (with_reducible exact ⟨(HRk.out _ hbk).cell 0 _ rfl,(HRk.out _ hbk).cell 1 _ rfl,(HIk.out _ hbk).cell 0 _ rfl,(HIk.out _ hbk).cell 1 _ rfl⟩) | (with_reducible exact ⟨(HRs.out _ hbk _ _ _ _).cell 0 _ rfl,(HRs.out _ hbk _ _ _ _).cell 1 _ rfl,(HIs.out _ hbk _ _ _ _).cell 0 _ rfl,(HIs.out _ hbk _ _ _ _).cell 1 _ rfl⟩))) (first
     | (go_at_call 139; (first | (with_reducible refine (HO.out _).mono ?_) | (with_reducible refine (HO2.out _).mono ?_)); rintro e w' ⟨rfl,hb⟩; replace hbk:=hbk.trans (hb.mono hbk.size); clear hb)
     | (go_at_call 138; (with_reducible refine (HD.out _).mono ?_); rintro e w' ⟨rfl,hb⟩; replace hbk:=hbk.trans (hb.mono hbk.size); clear hb; have z0:=(HZk.out _ hbk).cell 0 _ rfl; have z1:=(HZk.out _ hbk).cell 1 _ rfl; have z2:=(HZk.out _ hbk).cell 2 _ rfl; have z3:=(HZk.out _ hbk).cell 3 _ rfl; have g0:=(HZk.out _ hbk).frozen 0; have g1:=(HZk.out _ hbk).frozen 1; have g2:=(HZk.out _ hbk).frozen 2; have g3:=(HZk.out _ hbk).frozen 3))
   all_goals
     go_wp2
     exact bodyPost_ret (v:=.tuple #[.agg #[.int .i64 o1,.int .i64 o2,.int .i64 o3,.int .i64 o4],.bool o5]) (by simp [results,Tryz.f141,go_sem,z0,z1,z2,z3]) rfl ⟨rfl,set4 (HZk.out _ hbk).old (b:=w.heap.size + 1) (by omega) _ _ _ _⟩
end Go.Proofs.YtokbalggdhippaaGreat
end

section
namespace Go.Proofs.YtokbalggdhippaaGreat
open Go.RowKit
def iterPost (h0:Nat) (N:Nat) (I:Nat → World → Prop) (Ix:Code → Nat → World → Prop) (k:Nat) (W:World):Exit → Act → World → Prop
 | .normal,_,B => KeepsFrom h0 W B ∧ k < N ∧ I (k + 1) B
 | .ret,_,B => KeepsFrom h0 W B ∧ Ix .ret k B
 | .exit id,_,B => KeepsFrom h0 W B ∧ Ix (.exit id) k B
 | .goto t,_,B => KeepsFrom h0 W B ∧ Ix (.goto t) k B
 | .panic _,_,_ => False
 | .outgrown,_,_ => False
variable {F:Fence} {n:Nat} {P:Program}
def loopRec (fn:FuncId) (tmps:Array Value) (ps:Array Tmp) (assign body:Code) (d:Nat) (st:LoopState) (pe:Option Code):Loop :=
 { state:=st,pending:=pe,fn:=fn,tmps:=tmps,params:=ps,assign:=assign,body:=body,defers:=d }
end Go.Proofs.YtokbalggdhippaaGreat
end
