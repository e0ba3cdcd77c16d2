/- Merged texts: BkC, BkD, BkF, FloM. -/
import Derived.Test.YthhfljldbfgpcaaGreatDoorT19
import Derived.Test.YthhfljldbfgpcaaGreatDoorT4
import Derived.Test.YthhfljldbfgpcaaGreatDoorT5
import Derived.Deep.Cut
import Derived.Deep.RegionHeld3
import Derived.Deep.RegionLaw
import Derived.Test.YthhfljldbfgpcaaGreatDoorT22
import Derived.Test.YthhfljldbfgpcaaGreatDoorT43
import Derived.Test.YthhfljldbfgpcaaGreatDoorT20
import Derived.Test.YthhfljldbfgpcaaGreatDoorT8
set_option linter.all false
section
namespace Go.Proofs.YthhfljldbfgpcaaGreatDoor
open Go.RowKit
attribute [local go_sem ↓] Go.wp_at_zero Go.wp_at_succ
attribute [local go_sem] run_store_float run_store_complex
def preR {α:Type} (s:Nat) (f:Nat → Nat → α) (k l:Nat):List α:=rowsOf s f k ++ (List.range l).map (f k)
theorem preR_0 {α:Type} (s:Nat) (f:Nat → Nat → α) (k:Nat):preR s f k 0=rowsOf s f k:=by unfold preR; simp
theorem preR_succ {α:Type} (s:Nat) (f:Nat → Nat → α) (k l:Nat):preR s f k l ++ [f k l]=preR s f k (l + 1):=by unfold preR; rw [List.range_succ,List.map_append,List.append_assoc]; rfl
theorem preR_row {α:Type} (s:Nat) (f:Nat → Nat → α) (k:Nat):preR s f k s=rowsOf s f (k + 1):=by unfold preR; rw [rowsOf_succ]
structure CellV (cx cy d s:Nat) (most:Int) (ok:Nat → Nat → Bool) (b0 b1 b2 b3:Nat → Nat → Int) (px py:Nat → Nat → Nat) (st:Nat → Nat → Int) (sm:Nat → Nat → Nat):Prop where
 box:∀ i j:Nat,i < s → j < s → ∀ W,Calls Vp.prog 23 #[.complex .f32 cx cy,.int .i64 d,.int .i64 i,.int .i64 j] W fun e w' => e=.returned (.tuple #[.agg #[.int .i64 (b0 i j),.int .i64 (b1 i j),.int .i64 (b2 i j),.int .i64 (b3 i j)],.bool (ok i j)]) ∧ Below W.heap.size W w'
 state:∀ i j:Nat,i < s → j < s → ok i j=true → ∀ W,Calls Vp.prog 24 #[.agg #[.int .i64 (b0 i j),.int .i64 (b1 i j),.int .i64 (b2 i j),.int .i64 (b3 i j)],.int .i64 most] W fun e w' => e=.returned (.tuple #[.int .i64 (st i j),.bool true]) ∧ Below W.heap.size W w'
 point:∀ i j:Nat,i < s → j < s → ∀ W,Calls Vp.prog 26 #[.complex .f32 cx cy,.int .i64 d,.int .i64 i,.int .i64 j] W fun e w' => e=.returned (.complex .f32 (px i j) (py i j)) ∧ W=w'
 smooth:∀ i j:Nat,i < s → j < s → ok i j=true → ∀ W,Calls Vp.prog 25 #[.complex .f32 (px i j) (py i j),.int .i64 most] W fun e w' => e=.returned (.float .f32 (sm i j)) ∧ Drw W w'
 smlt:∀ i j:Nat,sm i j < 4294967296
 stbd:∀ i j:Nat,-1 ≤ st i j ∧ st i j ≤ 1
def zTileV:Value:=.tuple #[.agg #[.complex .f32 0 0,.int .i64 0,.int .i64 0,.slice none 0 0,.slice none 0 0],.bool false]
def TileVal (w:World) (cx cy:Nat) (d s:Nat) (ok:Nat → Nat → Bool) (st:Nat → Nat → Int) (sm:Nat → Nat → Nat) (e:Ending) (w':World):Prop :=
 Below w.heap.size w w' ∧ (((∃ i j,i < s ∧ j < s ∧ ok i j=false) ∧ e=.returned zTileV) ∨
   ((∀ i j,i < s → j < s → ok i j=true) ∧ ∃ smv mkv,e=.returned (.tuple #[.agg #[.complex .f32 cx cy,.int .i64 d,.int .i64 s,smv,mkv],.bool true]) ∧ Made w.heap.size (s * s) (rowsOf s sm s) (rowsOf s st s) smv mkv w'))
set_option maxRecDepth 100000 in
set_option maxHeartbeats 8000000 in
theorem tileMake_val (cx cy d s:Nat) (most:Int) (hd10:d ≤ 10) (hs8:s ≤ 8) (hpl:placeB cx cy d s=true) {ok:Nat → Nat → Bool} {b0 b1 b2 b3:Nat → Nat → Int} {px py:Nat → Nat → Nat} {st:Nat → Nat → Int} {sm:Nat → Nat → Nat} (C:CellV cx cy d s most ok b0 b1 b2 b3 px py st sm) (w:World) :
   Calls Vp.prog 6 #[.complex .f32 cx cy,.int .i64 d,.int .i64 s,.int .i64 most] w (TileVal w cx cy d s ok st sm):=by
 have R:=Box.new w (tileC 0 0 0 0 (.slice none 0 0) (.slice none 0 0)) 29
 have HP:=Lib.hid (fun w => l7Place_isR cx cy d s w)
 rw [hpl] at HP
 have HCV:=Lib.hid C
 clear C hpl
 unfold tileC at R
 go_enter Vp.func6,Tryz.ntmps6
 go_wp2_with fail
 refine (HP.out _).mono ?_
 rintro e w1 ⟨rfl,hd⟩
 have HR:=Lib.hid (R.step (hd.below _))
 clear R hd
 obtain ⟨iF,hiF,hzF0,hzF1,hzF2⟩:=info_parts infoF
 obtain ⟨iI,hiI,hzI0,hzI1,hzI2⟩:=info_parts infoI
 have HT:=Lib.hid (TM.start cx cy d s HR.out (Nat.le_refl _))
 unfold tileC at HT
 clear HR
 go_wp2
 generalize w1.heap.size + 1 + 1=ob at *
 generalize w1.heap.size + 1=gm0 at *
 generalize w1.heap.size=gs0 at *
 go_loopw [11] (fun i wr => ∃ (k N gs cs gm cm:Nat),k ≤ s ∧ i=.int .i64 k ∧ Hid (N=k * s) ∧ Hid (∀ i j,i < k → j < s → ok i j=true) ∧ Hid (TM w w.heap.size ob cx cy d s N N (rowsOf s sm k) (rowsOf s st k) (.slice (some ⟨gs,0,none⟩) N cs) (.slice (some ⟨gm,0,none⟩) N cm) wr)) (fun i _ => (s - intOf i).toNat)
 case atStart => exact ⟨0,0,gs0,0,gm0,0,by omega,rfl,(by show 0=0 * s; simp),(fun i j h => by omega),HT⟩
 case round =>
   obtain ⟨k,N,gs,cs,gm,cm,hk,rfl,HN,HOK,HT⟩:=hrel
   obtain ⟨wo,rfl⟩:∃ wo,wo=wr:=⟨_,rfl⟩
   by_cases hks:k < s
   · go_wp2
     go_loopw [12] (fun j wr => ∃ (l N gs cs gm cm:Nat),l ≤ s ∧ j=.int .i64 l ∧ Hid (N=k * s + l) ∧ Hid (∀ j,j < l → ok k j=true) ∧ Hid (TM w w.heap.size ob cx cy d s N N (preR s sm k l) (preR s st k l) (.slice (some ⟨gs,0,none⟩) N cs) (.slice (some ⟨gm,0,none⟩) N cm) wr)) (fun j _ => (s - intOf j).toNat)
     case atStart => exact ⟨0,N,gs,cs,gm,cm,by omega,rfl,HN,(fun j h => by omega),by rw [preR_0,preR_0]; exact HT⟩
     case round =>
       clear HT HN
       obtain ⟨l,N,gs,cs,gm,cm,hl,rfl,HN,HOL,HT⟩:=hrel
       clear wo
       obtain ⟨wo,rfl⟩:∃ wo,wo=wr:=⟨_,rfl⟩
       by_cases hls:l < s
       · have hN72:N ≤ 72:=by
           have h1:k * s ≤ 8 * 8:=Nat.mul_le_mul (by omega) hs8
           have h2:=HN.out
           omega
         have HC:=Lib.hid (HCV.out.box k l hks hls)
         have HST:=Lib.hid (HCV.out.state k l hks hls)
         have HPT:=Lib.hid (HCV.out.point k l hks hls)
         have HSM:=Lib.hid (HCV.out.smooth k l hks hls)
         have hz:=HCV.out.smlt k l
         obtain ⟨y0,y1⟩:=HCV.out.stbd k l
         obtain ⟨p,ep⟩:∃ p,b0 k l=p:=⟨_,rfl⟩
         obtain ⟨q,eq⟩:∃ p,b1 k l=p:=⟨_,rfl⟩
         obtain ⟨r,er⟩:∃ p,b2 k l=p:=⟨_,rfl⟩
         obtain ⟨u,eu⟩:∃ p,b3 k l=p:=⟨_,rfl⟩
         obtain ⟨t,et⟩:∃ p,ok k l=p:=⟨_,rfl⟩
         obtain ⟨x,ex⟩:∃ p,px k l=p:=⟨_,rfl⟩
         obtain ⟨y,ey⟩:∃ p,py k l=p:=⟨_,rfl⟩
         obtain ⟨z,ez⟩:∃ p,sm k l=p:=⟨_,rfl⟩
         obtain ⟨sT,eT⟩:∃ p,st k l=p:=⟨_,rfl⟩
         rw [ep,eq,er,eu,et] at HC
         rw [ep,eq,er,eu,et,eT] at HST
         rw [ex,ey] at HPT
         rw [ex,ey,ez,et] at HSM
         rw [ez] at hz
         rw [eT] at y0 y1
         have HZ:=Lib.hid ez
         have HS:=Lib.hid eT
         have HT':=Lib.hid et
         clear ep eq er eu et ex ey ez eT
         go_wp2_with fail
         refine (HC.out _).mono ?_
         rintro e w2 ⟨rfl,hb⟩
         have T:=HT.out.step hb
         clear HT hb HC
         cases t with
         | false =>
           replace T:=T.alloc (.cells #[.int .i64 p,.int .i64 q,.int .i64 r,.int .i64 u] 62)
           obtain ⟨c0,c1,c2,c3,c4⟩:=T.rc
           obtain ⟨f0,f1,f2,f3,f4⟩:=T.R.free5
           have HB:=Lib.hid T.old
           clear T
           go_wp2
           exact bodyPost_ret (v:=.tuple #[.agg #[.complex .f32 0 0,.int .i64 0,.int .i64 0,.slice none 0 0,.slice none 0 0],.bool false]) (by simp [results,Tryz.f6,go_sem,c0,c1,c2,c3,c4]) rfl ⟨set5 HB.out (Nat.le_refl _) _ _ _ _ _,.inl ⟨⟨k,l,hks,hls,HT'.out⟩,rfl⟩⟩
         | true =>
           have HSTT:=Lib.hid (HST.out rfl)
           have HSMM:=Lib.hid (HSM.out rfl)
           clear HST HSM
           have X:=Box.new w2 #[.int .i64 p,.int .i64 q,.int .i64 r,.int .i64 u] 62
           have x0:=X.cell 0 _ rfl
           have x1:=X.cell 1 _ rfl
           have x2:=X.cell 2 _ rfl
           have x3:=X.cell 3 _ rfl
           have HT2:=Lib.hid (T.alloc (.cells #[.int .i64 p,.int .i64 q,.int .i64 r,.int .i64 u] 62))
           clear X T
           go_wp2_with fail
           refine (HSTT.out _).mono ?_
           rintro e w3 ⟨rfl,hb⟩
           have T3:=HT2.out.step hb
           have hbase:=T3.old.size
           obtain ⟨-,-,-,k3,-⟩:=T3.oc
           clear x0 x1 x2 x3 HT2 hb
           go_wp2_with fail
           go_region_law (first
             | (go_simp
                go_at_call 26
                refine (HPT.out _).mono ?_
                rintro e w4 ⟨rfl,rfl⟩
                have T4:=T3.drw (Drw.refl _).drew
                obtain ⟨-,-,-,k4,-⟩:=T4.oc)
             | (go_simp
                go_at_call 25
                refine (HSMM.out _).mono ?_
                rintro e w5 ⟨rfl,hd⟩
                have T5:=T4.drw hd
                have hb5:=T5.old.size
                obtain ⟨-,-,-,k5,-⟩:=T5.oc
                obtain ⟨-,-,-,k5',-⟩:=(T5.alloc (.cells #[.float .f32 z] 42)).oc
                clear hd)
             | (refine step_append_lies _ (by rfl) _ _ _ (by rfl) w.heap.size 42 iF _ 1 4 (Vp.und Tryz.underlying26) hiF hzF0 hzF1 hzF2 rfl (by omega) _ N ((preR s sm k l).map floV) (by rfl) (T5.S.alloc _) ⟨w5.heap.size,0,none⟩ 1 1 [floV z] (by rfl) (by rfl) (World.news_of_block (cs:=#[floV z]) (t:=42) (fr:=(0,0)) (heap_alloc_new w5 _)) (by simp [floV,Value.oneCell']) (by omega) (by unfold maxLen; omega) (by omega) (by simp; omega) (w5.heap.size + 1) (by simp) ?_
                intro g6 c6 w6 hown hgrow _ _
                obtain ⟨T6,k6,f6⟩:=(T5.alloc _).smooth hz hown hgrow))
           all_goals
             have HT6:=Lib.hid T6
             obtain ⟨-,-,-,-,k7⟩:=T6.oc
             obtain ⟨-,-,-,-,k8⟩:=(T6.alloc (.cells #[.int .i64 sT] 3)).oc
             have hb6:=T6.old.size
             clear T3 T4 T5 T6 k3 k4 k5 k5' k6 f6 hown hgrow
             generalize w6.setCell ⟨ob,3,none⟩ (.slice (some ⟨g6,0,none⟩) (N + 1) c6)=w7 at *
             go_wp2_with (at_builtin; refine wpList_append_lies _ rfl _ _ _ rfl w.heap.size 3 iI _ 1 8 (Vp.und Tryz.underlying27) hiI hzI0 hzI1 hzI2 rfl (by omega) _ N ((preR s st k l).map intV) rfl (HT6.out.M.alloc _) ⟨w7.heap.size,0,none⟩ 1 1 [intV sT] rfl rfl (World.news_of_block (cs:=#[intV sT]) (t:=3) (fr:=(0,0)) (heap_alloc_new w7 _)) (by simp [intV,Value.oneCell']) (by omega) (by unfold maxLen; omega) (by omega) (by simp; omega) (w7.heap.size + 1) (by simp) ?_; intro g8 c8 w8 hown hgrow _ _; obtain ⟨T8,k9,f9⟩:=(HT6.out.alloc _).mark ⟨y0,y1⟩ hown hgrow; have HT8:=Lib.hid T8; clear T8 hown hgrow)
             go_roundw
             case rel => exact ⟨l + 1,N + 1,g6,c6,g8,c8,by omega,by go_num,(by show N + 1=k * s + (l + 1); have:=HN.out; omega),(fun j hj => by
               by_cases e:j=l
               · rw [e]; exact HT'.out
               · exact HOL.out j (by omega)),(by
               show TM _ _ _ _ _ _ _ _ _ (preR s sm k (l + 1)) (preR s st k (l + 1)) _ _ _
               rw [← preR_succ,← preR_succ,HZ.out,HS.out]; exact HT8.out)⟩
             case measure => simp [intOf]; omega
       · obtain rfl:l=s:=by omega
         go_wp2
         go_roundw
         case rel => exact ⟨k + 1,N,gs,cs,gm,cm,by omega,by go_num,(by show N=(k + 1) * l; rw [Nat.succ_mul]; exact HN.out),(fun i j hi hj => by
           by_cases e:i=k
           · rw [e]; exact HOL.out j hj
           · exact HOK.out i j (by omega) hj),(by rw [← preR_row,← preR_row]; exact HT)⟩
         case measure => simp [intOf]; omega
   · obtain rfl:k=s:=by omega
     obtain ⟨c0,c1,c2,c3,c4⟩:=HT.out.rc
     obtain ⟨f0,f1,f2,f3,f4⟩:=HT.out.R.free5
     obtain ⟨o0,o1,o2,o3,o4⟩:=HT.out.oc
     have hne:=HT.out.ne
     go_wp2
     exact bodyPost_ret (v:=.tuple #[.agg #[.complex .f32 cx cy,.int .i64 d,.int .i64 k,.slice (some ⟨gs,0,none⟩) N cs,.slice (some ⟨gm,0,none⟩) N cm],.bool true]) (by simp [results,Tryz.f6,go_sem,c0,c1,c2,c3,c4]) rfl ⟨set5 HT.out.old (Nat.le_refl _) _ _ _ _ _,.inr ⟨HOK.out,_,_,rfl,HT.out.made HN.out _ _ _ _ _⟩⟩
end Go.Proofs.YthhfljldbfgpcaaGreatDoor
end

section
namespace Go.Proofs.YthhfljldbfgpcaaGreatDoor
open Go.RowKit
attribute [local go_sem ↓] Go.wp_at_zero Go.wp_at_succ
attribute [local go_sem] run_store_float run_store_complex
theorem TM.startV {w W:World} {rb:Nat} (cx cy:Nat) (deep size:Int) {cap:Nat} {C D:Array Value} (hm:cap ≤ maxLen) (hC:C.size=cap) (hD:D.size=cap) (R:Box w rb (tileC 0 0 0 0 (.slice none 0 0) (.slice none 0 0)) 29 W) (hr:w.heap.size ≤ rb) :
   TM w rb (W.heap.size + 1 + 1) cx cy deep size 0 0 [] [] (.slice (some ⟨W.heap.size,0,none⟩) 0 cap) (.slice (some ⟨W.heap.size + 1,0,none⟩) 0 cap) (((W.alloc (.cells C 42)).alloc (.cells D 3)).alloc (.cells (tileC cx cy deep size (.slice (some ⟨W.heap.size,0,none⟩) 0 cap) (.slice (some ⟨W.heap.size + 1,0,none⟩) 0 cap)) 29)):=by
 have hs:=R.old.size
 have hlt:=R.lt
 have new:∀ (W:World) (C:Array Value) (t:TypeId),(W.alloc (.cells C t)).heap[W.heap.size]?=some (.cells C t (0,0)):=fun W C t => heap_alloc_new W _
 have far:∀ (W:World) (C:Array Value) (t:TypeId) (k:Nat) (o:Obj),W.heap[k]?=some o → (W.alloc (.cells C t)).heap[k]?=some o:=fun W C t k o h => (Below.heap_alloc W _ k (Array.getElem?_eq_some_iff.1 h).1).trans h
 have n0:=new W C 42
 have n1:=new (W.alloc (.cells C 42)) D 3
 simp only [World.size_alloc] at n1
 refine ⟨?_,((R.alloc _).alloc _).alloc _,⟨by simp,.inr ⟨_,_,C,rfl,hs,far _ _ _ _ _ (far _ _ _ _ _ n0),Nat.zero_le _,hm,by simp [hC],by simp⟩⟩,⟨by simp,.inr ⟨_,_,D,rfl,by omega,far _ _ _ _ _ n1,Nat.zero_le _,hm,by simp [hD],by simp⟩⟩,(fun x hx => by cases hx),(fun x hx => by cases hx),by omega,hr,by omega⟩
 have:=(Box.new ((W.alloc (.cells C 42)).alloc (.cells D 3)) (tileC cx cy deep size (.slice (some ⟨W.heap.size,0,none⟩) 0 cap) (.slice (some ⟨W.heap.size + 1,0,none⟩) 0 cap)) 29).up (w0:=w) ((R.alloc _).alloc _).old
 simpa only [World.size_alloc] using this
theorem row_full {W:World} {B cap:Nat} {e:TypeId} {g:Nat} {xs:List Value} (h:W.ownsRow B e 1 (.slice (some ⟨g,0,none⟩) cap cap) cap xs):B ≤ g ∧ W.heap[g]?=some (.cells xs.toArray e (0,0)):=by
 obtain ⟨hl,h⟩:=h
 rcases h with ⟨h,_⟩ | ⟨g',c,cur,h1,h2,h3,h4,h5,h6,h7⟩
 · cases h
 · injection h1 with h1 _ h8
   injection h1 with h1
   injection h1 with h1
   subst h1 h8
   refine ⟨h2,?_⟩
   rw [← h7,h3]
   have:cur.toList.take (cap * 1)=cur.toList:=List.take_of_length_le (by simp [h6])
   rw [this]
theorem tileW_made {cx cy d s cap B:Nat} {gs gm:Nat} {xs:List Nat} {ys:List Int} {W:World} (hcap:s * s=cap) (h:Made B ((s:Int).toNat * (s:Int).toNat) xs ys (.slice (some ⟨gs,0,none⟩) cap cap) (.slice (some ⟨gm,0,none⟩) cap cap) W) :
   TileW cx cy d s xs ys B (.tuple #[.agg #[.complex .f32 cx cy,.int .i64 d,.int .i64 s,.slice (some ⟨gs,0,none⟩) cap cap,.slice (some ⟨gm,0,none⟩) cap cap],.bool true]) W:=by
 have e:(s:Int).toNat * (s:Int).toNat=cap:=by rw [Int.toNat_natCast]; exact hcap
 have hS:=h.S
 have hM:=h.M
 rw [e] at hS hM
 obtain ⟨b1,c1⟩:=row_full hS
 obtain ⟨b2,c2⟩:=row_full hM
 refine ⟨gs,gm,by rw [hcap]; rfl,b1,b2,fun x => ?_,c1,c2⟩
 rw [x,c2] at c1
 injection c1 with c1
 injection c1 with _ c1
 cases c1
def TileValV (w:World) (cx cy:Nat) (d s:Nat) (ok:Nat → Nat → Bool) (st:Nat → Nat → Int) (sm:Nat → Nat → Nat) (e:Ending) (w':World):Prop :=
 Below w.heap.size w w' ∧ (((∃ i j,i < s ∧ j < s ∧ ok i j=false) ∧ e=.returned zTileV) ∨
   ((∀ i j,i < s → j < s → ok i j=true) ∧ ∃ v,e=.returned v ∧ TileW cx cy d s (rowsOf s sm s) (rowsOf s st s) w.heap.size v w'))
set_option maxRecDepth 100000 in
set_option maxHeartbeats 8000000 in
theorem tileMakeV_val (cx cy d s:Nat) (most:Int) (hd10:d ≤ 10) (hs8:s ≤ 8) (hpl:placeB cx cy d s=true) {ok:Nat → Nat → Bool} {b0 b1 b2 b3:Nat → Nat → Int} {px py:Nat → Nat → Nat} {st:Nat → Nat → Int} {sm:Nat → Nat → Nat} (C:CellV cx cy d s most ok b0 b1 b2 b3 px py st sm) (w:World) :
   Calls Vp.prog 5 #[.complex .f32 cx cy,.int .i64 d,.int .i64 s,.int .i64 most] w (TileValV w cx cy d s ok st sm):=by
 have R:=Box.new w (tileC 0 0 0 0 (.slice none 0 0) (.slice none 0 0)) 29
 have HP:=Lib.hid (fun w => l7Place_isR cx cy d s w)
 rw [hpl] at HP
 have HCV:=Lib.hid C
 clear C hpl
 unfold tileC at R
 go_enter Vp.funcT,Vp.ntmpsT
 unfold Vp.guarded
 simp only [Vp.lay,Nat.reduceBEq,Bool.false_eq_true,if_false,if_true,Vp.guards,Vp.made]
 go_wp2_with fail
 refine (HP.out _).mono ?_
 rintro e w1 ⟨rfl,hd⟩
 have HR:=Lib.hid (R.step (hd.below _))
 clear R hd
 obtain ⟨iF,hiF,hzF0,hzF1,hzF2⟩:=info_parts infoF
 obtain ⟨iI,hiI,hzI0,hzI1,hzI2⟩:=info_parts infoI
 obtain ⟨cap,hcap⟩:∃ cap:Nat,s * s=cap:=⟨_,rfl⟩
 have hc64:cap ≤ 64:=by rw [← hcap]; exact Nat.mul_le_mul hs8 hs8
 have kss:((s * s:Nat):Int)=(s:Int) * s:=by simp
 have kc:wrap64 ((s:Int) * s)=(cap:Int):=by
   rw [← kss,hcap]
   exact w64 (by omega) (by omega)
 obtain ⟨cF,hcF,hF⟩:=run_make_0 (P:=Vp.prog) 26 42 iF _ (Vp.und Tryz.underlying26) hiF hzF0 cap (by omega) (by omega)
 obtain ⟨cI,hcI,hI⟩:=run_make_0 (P:=Vp.prog) 27 3 iI _ (Vp.und Tryz.underlying27) hiI hzI0 cap (by omega) (by omega)
 have kcs:((cap:Nat):Int)=(s:Int) * s:=by rw [← hcap]; simp
 have hF2:=hF
 have hI2:=hI
 simp only [kcs] at hF2 hI2
 have HT:=Lib.hid (TM.startV cx cy d s (show cap ≤ maxLen by unfold maxLen; omega) (show cF.size=cap by rw [hcF,hzF1]; omega) (show cI.size=cap by rw [hcI,hzI1]; omega) HR.out (Nat.le_refl _))
 unfold tileC at HT
 clear HR
 go_wp2
 clear hF hI hF2 hI2 kcs kc kss
 generalize w1.heap.size + 1 + 1=ob at *
 generalize w1.heap.size + 1=gm at *
 generalize w1.heap.size=gs at *
 go_loopw [11] (fun i wr => ∃ (k N:Nat),k ≤ s ∧ i=.int .i64 k ∧ Hid (N=k * s) ∧ Hid (∀ i j,i < k → j < s → ok i j=true) ∧ Hid (TM w w.heap.size ob cx cy d s N N (rowsOf s sm k) (rowsOf s st k) (.slice (some ⟨gs,0,none⟩) N cap) (.slice (some ⟨gm,0,none⟩) N cap) wr)) (fun i _ => (s - intOf i).toNat)
 case atStart => exact ⟨0,0,by omega,rfl,(by show 0=0 * s; simp),(fun i j h => by omega),HT⟩
 case round =>
   obtain ⟨k,N,hk,rfl,HN,HOK,HT⟩:=hrel
   obtain ⟨wo,rfl⟩:∃ wo,wo=wr:=⟨_,rfl⟩
   by_cases hks:k < s
   · go_wp2
     go_loopw [12] (fun j wr => ∃ (l N:Nat),l ≤ s ∧ j=.int .i64 l ∧ Hid (N=k * s + l) ∧ Hid (∀ j,j < l → ok k j=true) ∧ Hid (TM w w.heap.size ob cx cy d s N N (preR s sm k l) (preR s st k l) (.slice (some ⟨gs,0,none⟩) N cap) (.slice (some ⟨gm,0,none⟩) N cap) wr)) (fun j _ => (s - intOf j).toNat)
     case atStart => exact ⟨0,N,by omega,rfl,HN,(fun j h => by omega),by rw [preR_0,preR_0]; exact HT⟩
     case round =>
       clear HT HN
       obtain ⟨l,N,hl,rfl,HN,HOL,HT⟩:=hrel
       clear wo
       obtain ⟨wo,rfl⟩:∃ wo,wo=wr:=⟨_,rfl⟩
       by_cases hls:l < s
       · have hN72:N + 1 ≤ cap:=by
           have h2:=HN.out
           have h3:(k + 1) * s ≤ s * s:=Nat.mul_le_mul_right _ (by omega)
           rw [Nat.succ_mul] at h3
           omega
         have HC:=Lib.hid (HCV.out.box k l hks hls)
         have HST:=Lib.hid (HCV.out.state k l hks hls)
         have HPT:=Lib.hid (HCV.out.point k l hks hls)
         have HSM:=Lib.hid (HCV.out.smooth k l hks hls)
         have hz:=HCV.out.smlt k l
         obtain ⟨y0,y1⟩:=HCV.out.stbd k l
         obtain ⟨p,ep⟩:∃ p,b0 k l=p:=⟨_,rfl⟩
         obtain ⟨q,eq⟩:∃ p,b1 k l=p:=⟨_,rfl⟩
         obtain ⟨r,er⟩:∃ p,b2 k l=p:=⟨_,rfl⟩
         obtain ⟨u,eu⟩:∃ p,b3 k l=p:=⟨_,rfl⟩
         obtain ⟨t,et⟩:∃ p,ok k l=p:=⟨_,rfl⟩
         obtain ⟨x,ex⟩:∃ p,px k l=p:=⟨_,rfl⟩
         obtain ⟨y,ey⟩:∃ p,py k l=p:=⟨_,rfl⟩
         obtain ⟨z,ez⟩:∃ p,sm k l=p:=⟨_,rfl⟩
         obtain ⟨sT,eT⟩:∃ p,st k l=p:=⟨_,rfl⟩
         rw [ep,eq,er,eu,et] at HC
         rw [ep,eq,er,eu,et,eT] at HST
         rw [ex,ey] at HPT
         rw [ex,ey,ez,et] at HSM
         rw [ez] at hz
         rw [eT] at y0 y1
         have HZ:=Lib.hid ez
         have HS:=Lib.hid eT
         have HT':=Lib.hid et
         clear ep eq er eu et ex ey ez eT
         go_wp2_with fail
         refine (HC.out _).mono ?_
         rintro e w2 ⟨rfl,hb⟩
         have T:=HT.out.step hb
         clear HT hb HC
         cases t with
         | false =>
           replace T:=T.alloc (.cells #[.int .i64 p,.int .i64 q,.int .i64 r,.int .i64 u] 62)
           obtain ⟨c0,c1,c2,c3,c4⟩:=T.rc
           obtain ⟨f0,f1,f2,f3,f4⟩:=T.R.free5
           have HB:=Lib.hid T.old
           clear T
           go_wp2
           exact bodyPost_ret (v:=.tuple #[.agg #[.complex .f32 0 0,.int .i64 0,.int .i64 0,.slice none 0 0,.slice none 0 0],.bool false]) (by simp [results,Vp.resultsT,Tryz.f5,go_sem,c0,c1,c2,c3,c4]) rfl ⟨set5 HB.out (Nat.le_refl _) _ _ _ _ _,.inl ⟨⟨k,l,hks,hls,HT'.out⟩,rfl⟩⟩
         | true =>
           have HSTT:=Lib.hid (HST.out rfl)
           have HSMM:=Lib.hid (HSM.out rfl)
           clear HST HSM
           have X:=Box.new w2 #[.int .i64 p,.int .i64 q,.int .i64 r,.int .i64 u] 62
           have x0:=X.cell 0 _ rfl
           have x1:=X.cell 1 _ rfl
           have x2:=X.cell 2 _ rfl
           have x3:=X.cell 3 _ rfl
           have HT2:=Lib.hid (T.alloc (.cells #[.int .i64 p,.int .i64 q,.int .i64 r,.int .i64 u] 62))
           clear X T
           go_wp2_with fail
           refine (HSTT.out _).mono ?_
           rintro e w3 ⟨rfl,hb⟩
           have T3:=HT2.out.step hb
           have hbase:=T3.old.size
           obtain ⟨-,-,-,k3,-⟩:=T3.oc
           clear x0 x1 x2 x3 HT2 hb
           go_wp2_with fail
           go_region_law (first
             | (go_simp
                go_at_call 26
                refine (HPT.out _).mono ?_
                rintro e w4 ⟨rfl,rfl⟩
                have T4:=T3.drw (Drw.refl _).drew
                obtain ⟨-,-,-,k4,-⟩:=T4.oc)
             | (go_simp
                go_at_call 25
                refine (HSMM.out _).mono ?_
                rintro e w5 ⟨rfl,hd⟩
                have T5:=T4.drw hd
                have hb5:=T5.old.size
                obtain ⟨-,-,-,k5,-⟩:=T5.oc
                obtain ⟨-,-,-,k5',-⟩:=(T5.alloc (.cells #[.float .f32 z] 42)).oc
                clear hd)
             | (refine step_append_spare _ (by rfl) _ _ _ (by rfl) w.heap.size 42 iF 1 (Vp.und Tryz.underlying26) hiF hzF1 gs N cap ((preR s sm k l).map floV) (by rfl) (T5.S.alloc _) ⟨w5.heap.size,0,none⟩ 1 1 [floV z] (by rfl) (by rfl) (World.news_of_block (cs:=#[floV z]) (t:=42) (fr:=(0,0)) (heap_alloc_new w5 _)) (by simp [floV,Value.oneCell']) (by omega) ?_
                intro w6 hown hgrow
                obtain ⟨T6,k6,f6⟩:=(T5.alloc _).smooth hz hown hgrow))
           all_goals
             have HT6:=Lib.hid T6
             obtain ⟨-,-,-,-,k7⟩:=T6.oc
             obtain ⟨-,-,-,-,k8⟩:=(T6.alloc (.cells #[.int .i64 sT] 3)).oc
             have hb6:=T6.old.size
             clear T3 T4 T5 T6 k3 k4 k5 k5' k6 f6 hown hgrow
             generalize w6.setCell ⟨ob,3,none⟩ (.slice (some ⟨gs,0,none⟩) (N + 1) cap)=w7 at *
             go_wp2_with (at_builtin; refine wpList_append_own_spare _ rfl _ _ _ rfl w.heap.size 3 iI 1 (Vp.und Tryz.underlying27) hiI hzI1 gm N cap ((preR s st k l).map intV) rfl (HT6.out.M.alloc _) ⟨w7.heap.size,0,none⟩ 1 1 [intV sT] rfl rfl (World.news_of_block (cs:=#[intV sT]) (t:=3) (fr:=(0,0)) (heap_alloc_new w7 _)) (by simp [intV,Value.oneCell']) (by omega) ?_; intro w8 hown hgrow; obtain ⟨T8,k9,f9⟩:=(HT6.out.alloc _).mark ⟨y0,y1⟩ hown hgrow; have HT8:=Lib.hid T8; clear T8 hown hgrow)
             go_roundw
             case rel => exact ⟨l + 1,N + 1,by omega,by go_num,(by show N + 1=k * s + (l + 1); have:=HN.out; omega),(fun j hj => by
               by_cases e:j=l
               · rw [e]; exact HT'.out
               · exact HOL.out j (by omega)),(by
               show TM _ _ _ _ _ _ _ _ _ (preR s sm k (l + 1)) (preR s st k (l + 1)) _ _ _
               rw [← preR_succ,← preR_succ,HZ.out,HS.out]; exact HT8.out)⟩
             case measure => simp [intOf]; omega
       · obtain rfl:l=s:=by omega
         go_wp2
         go_roundw
         case rel => exact ⟨k + 1,N,by omega,by go_num,(by show N=(k + 1) * l; rw [Nat.succ_mul]; exact HN.out),(fun i j hi hj => by
           by_cases e:i=k
           · rw [e]; exact HOL.out j hj
           · exact HOK.out i j (by omega) hj),(by rw [← preR_row,← preR_row]; exact HT)⟩
         case measure => simp [intOf]; omega
   · obtain rfl:k=s:=by omega
     obtain ⟨c0,c1,c2,c3,c4⟩:=HT.out.rc
     obtain ⟨f0,f1,f2,f3,f4⟩:=HT.out.R.free5
     obtain ⟨o0,o1,o2,o3,o4⟩:=HT.out.oc
     have hne:=HT.out.ne
     go_wp2
     obtain rfl:cap=N:=by rw [← hcap]; exact HN.out.symm
     exact bodyPost_ret (v:=.tuple #[.agg #[.complex .f32 cx cy,.int .i64 d,.int .i64 k,.slice (some ⟨gs,0,none⟩) cap cap,.slice (some ⟨gm,0,none⟩) cap cap],.bool true]) (by simp [results,Vp.resultsT,Tryz.f5,go_sem,c0,c1,c2,c3,c4]) rfl ⟨set5 HT.out.old (Nat.le_refl _) _ _ _ _ _,.inr ⟨HOK.out,_,rfl,tileW_made hcap (HT.out.made HN.out _ _ _ _ _)⟩⟩
end Go.Proofs.YthhfljldbfgpcaaGreatDoor
end

section
namespace Go.Proofs.YthhfljldbfgpcaaGreatDoor
open Go.RowKit
attribute [local go_sem ↓] Go.wp_at_zero Go.wp_at_succ
attribute [local go_sem] run_store_float run_store_complex
set_option maxRecDepth 100000 in
set_option maxHeartbeats 4000000 in
theorem tileMake_no (cx cy:Nat) (deep size most:Int) (hpl:placeB cx cy deep size=false) (w:World) :
   Calls Vp.prog 6 #[.complex .f32 cx cy,.int .i64 deep,.int .i64 size,.int .i64 most] w fun e w' => e=.returned zTileV ∧ Below w.heap.size w w':=by
 have R:=Box.new w (tileC 0 0 0 0 (.slice none 0 0) (.slice none 0 0)) 29
 have HP:=Lib.hid (fun w => l7Place_isR cx cy deep size w)
 rw [hpl] at HP
 clear hpl
 unfold tileC at R
 go_enter Vp.func6,Tryz.ntmps6
 go_wp2_with fail
 refine (HP.out _).mono ?_
 rintro e w1 ⟨rfl,hd⟩
 replace R:=R.step (hd.below _)
 have c0:=R.cell 0 _ rfl
 have c1:=R.cell 1 _ rfl
 have c2:=R.cell 2 _ rfl
 have c3:=R.cell 3 _ rfl
 have c4:=R.cell 4 _ rfl
 have f0:=R.frozen 0
 have f1:=R.frozen 1
 have f2:=R.frozen 2
 have f3:=R.frozen 3
 have f4:=R.frozen 4
 have HB:=Lib.hid R.old
 clear R hd
 go_wp2
 exact bodyPost_ret (v:=.tuple #[.agg #[.complex .f32 0 0,.int .i64 0,.int .i64 0,.slice none 0 0,.slice none 0 0],.bool false]) (by simp [results,Tryz.f6,go_sem,c0,c1,c2,c3,c4]) rfl ⟨rfl,set5 HB.out (Nat.le_refl _) _ _ _ _ _⟩
set_option maxRecDepth 100000 in
set_option maxHeartbeats 4000000 in
theorem tileMakeV_no (cx cy:Nat) (deep size most:Int) (hpl:placeB cx cy deep size=false) (w:World) :
   Calls Vp.prog 5 #[.complex .f32 cx cy,.int .i64 deep,.int .i64 size,.int .i64 most] w fun e w' => e=.returned zTileV ∧ Below w.heap.size w w':=by
 have R:=Box.new w (tileC 0 0 0 0 (.slice none 0 0) (.slice none 0 0)) 29
 have HP:=Lib.hid (fun w => l7Place_isR cx cy deep size w)
 rw [hpl] at HP
 clear hpl
 unfold tileC at R
 go_enter Vp.funcT,Vp.ntmpsT
 unfold Vp.guarded
 simp only [Vp.lay,Nat.reduceBEq,Bool.false_eq_true,if_false,if_true,Vp.guards,Vp.made]
 go_wp2_with fail
 refine (HP.out _).mono ?_
 rintro e w1 ⟨rfl,hd⟩
 replace R:=R.step (hd.below _)
 have c0:=R.cell 0 _ rfl
 have c1:=R.cell 1 _ rfl
 have c2:=R.cell 2 _ rfl
 have c3:=R.cell 3 _ rfl
 have c4:=R.cell 4 _ rfl
 have f0:=R.frozen 0
 have f1:=R.frozen 1
 have f2:=R.frozen 2
 have f3:=R.frozen 3
 have f4:=R.frozen 4
 have HB:=Lib.hid R.old
 clear R hd
 go_wp2
 exact bodyPost_ret (v:=.tuple #[.agg #[.complex .f32 0 0,.int .i64 0,.int .i64 0,.slice none 0 0,.slice none 0 0],.bool false]) (by simp [results,Vp.resultsT,Tryz.f5,go_sem,c0,c1,c2,c3,c4]) rfl ⟨rfl,set5 HB.out (Nat.le_refl _) _ _ _ _ _⟩
end Go.Proofs.YthhfljldbfgpcaaGreatDoor
end

section
namespace Go.Proofs.YthhfljldbfgpcaaGreatDoor
namespace Flo
open Ieee
theorem near_bd {f:Format} {s:Bool} {mag:Nat} {place:Int} {a b:Nat} {T U:Int} (hT:Rep f T) (hU:Rep f U) (hp:place - f.leastPlace=(a:Int) - b)
   (h1:T * (2 ^ b:Nat) ≤ (if s then -(mag:Int) else mag) * (2 ^ a:Nat)) (h2:(if s then -(mag:Int) else mag) * (2 ^ a:Nat) ≤ U * (2 ^ b:Nat)) :
   Val f (f.nearest s mag place) (iv f (f.nearest s mag place)) ∧ T ≤ iv f (f.nearest s mag place) ∧ iv f (f.nearest s mag place) ≤ U:=by
 obtain ⟨rt,ht,et⟩:=hT
 obtain ⟨ru,hu,eu⟩:=hU
 have hb:(0:Int) < (2 ^ b:Nat):=by have:=Nat.two_pow_pos b; omega
 have hm:(0:Int) ≤ (mag:Int) * (2 ^ a:Nat):=Int.mul_nonneg (Int.natCast_nonneg _) (Int.natCast_nonneg _)
 cases s with
 | false =>
   simp only [Bool.false_eq_true,if_false] at h1 h2
   have hU0:0 ≤ U:=by
     rcases Int.lt_or_le U 0 with h | h
     · have:=Int.mul_neg_of_neg_of_pos h hb; omega
     · exact h
   have hu2:mag * 2 ^ a ≤ rv f ru * 2 ^ b:=by
     rw [eu]
     have e:(U.natAbs:Int)=U:=by omega
     have:((mag * 2 ^ a:Nat):Int) ≤ ((U.natAbs * 2 ^ b:Nat):Int):=by rw [Int.natCast_mul,Int.natCast_mul,e]; exact h2
     exact Int.ofNat_le.1 this
   have r1:=rnd_le (neg:=false) hp hu2
   have hw:=iv_word f false (rnd f false mag place) (by omega)
   rw [nearest_eq]
   have hv:iv f (f.word false (rnd f false mag place))=(rv f (rnd f false mag place):Int):=by rw [hw.2]; rfl
   refine ⟨⟨by rw [← nearest_eq]; exact Format.nearest_lt _ _ _ _,hw.1,rfl⟩,?_,?_⟩
   · rw [hv]
     rcases Int.lt_or_le 0 T with h | h
     · have ht2:rv f rt * 2 ^ b ≤ mag * 2 ^ a:=by
         rw [et]
         have e:(T.natAbs:Int)=T:=by omega
         have:((T.natAbs * 2 ^ b:Nat):Int) ≤ ((mag * 2 ^ a:Nat):Int):=by rw [Int.natCast_mul,Int.natCast_mul,e]; exact h1
         exact Int.ofNat_le.1 this
       have:=rv_mono f (rnd_ge (neg:=false) (Nat.le_of_lt ht) hp ht2)
       omega
     · omega
   · rw [hv]
     have:=rv_mono f r1
     omega
 | true =>
   simp only [if_true] at h1 h2
   rw [Int.neg_mul] at h1 h2
   have hT0:T ≤ 0:=by
     rcases Int.lt_or_le 0 T with h | h
     · have:=Int.mul_pos h hb; omega
     · exact h
   have ht2:mag * 2 ^ a ≤ rv f rt * 2 ^ b:=by
     rw [et]
     have e:(T.natAbs:Int)=-T:=by omega
     have:((mag * 2 ^ a:Nat):Int) ≤ ((T.natAbs * 2 ^ b:Nat):Int):=by rw [Int.natCast_mul,Int.natCast_mul,e,Int.neg_mul]; omega
     exact Int.ofNat_le.1 this
   have r1:=rnd_le (neg:=true) hp ht2
   have hw:=iv_word f true (rnd f true mag place) (by omega)
   rw [nearest_eq]
   have hv:iv f (f.word true (rnd f true mag place))=-(rv f (rnd f true mag place):Int):=by rw [hw.2]; rfl
   refine ⟨⟨by rw [← nearest_eq]; exact Format.nearest_lt _ _ _ _,hw.1,rfl⟩,?_,?_⟩
   · rw [hv]
     have:=rv_mono f r1
     omega
   · rw [hv]
     rcases Int.lt_or_le U 0 with h | h
     · have hu2:rv f ru * 2 ^ b ≤ mag * 2 ^ a:=by
         rw [eu]
         have e:(U.natAbs:Int)=-U:=by omega
         have:((U.natAbs * 2 ^ b:Nat):Int) ≤ ((mag * 2 ^ a:Nat):Int):=by rw [Int.natCast_mul,Int.natCast_mul,e,Int.neg_mul]; omega
         exact Int.ofNat_le.1 this
       have:=rv_mono f (rnd_ge (neg:=true) (Nat.le_of_lt hu) hp hu2)
       omega
     · omega
theorem add_between {f:Format} {x y:Nat} {a b T U:Int} (hx:Val f x a) (hy:Val f y b) (hT:Rep f T) (hU:Rep f U) (h1:T ≤ a + b) (h2:a + b ≤ U) :
   ∃ z,f.add x y=some z ∧ Val f z (iv f z) ∧ T ≤ iv f z ∧ iv f z ≤ U:=by
 unfold Format.add
 rw [read_fin hx.fin,read_fin hy.fin]
 have hi:signed (sgn f x) (rm f (rung f x)) (re f (rung f x))=a:=(signed_iv f x).trans hx.iv
 have hj:signed (sgn f y) (rm f (rung f y)) (re f (rung f y))=b:=(signed_iv f y).trans hy.iv
 generalize sgn f x=s at *
 generalize sgn f y=t at *
 generalize rm f (rung f x)=m at *
 generalize rm f (rung f y)=n at *
 generalize re f (rung f x)=i at *
 generalize re f (rung f y)=j at *
 simp only [Datum.sum,Option.map_some,Format.write]
 refine ⟨_,rfl,?_⟩
 obtain ⟨c,hc⟩:∃ c:Nat,min (f.leastPlace + (i:Int)) (f.leastPlace + (j:Int))=f.leastPlace + c:=⟨min i j,by omega⟩
 rw [hc]
 obtain ⟨i',hi'⟩:∃ i',i=i' + c:=⟨i - c,by omega⟩
 obtain ⟨j',hj'⟩:∃ j',j=j' + c:=⟨j - c,by omega⟩
 have e1:(f.leastPlace + (i:Int) - (f.leastPlace + c)).toNat=i':=by omega
 have e2:(f.leastPlace + (j:Int) - (f.leastPlace + c)).toNat=j':=by omega
 rw [e1,e2]
 rw [hi',signed_scale] at hi
 rw [hj',signed_scale] at hj
 generalize signed s m i'=p at *
 generalize signed t n j'=q at *
 have hsum:(p + q) * (2 ^ c:Nat)=a + b:=by rw [Int.add_mul,hi,hj]
 have hsg:(if (if p + q=0 then s && t else decide (p + q < 0)) then -((p + q).natAbs:Int) else ((p + q).natAbs:Int))=p + q:=by
   by_cases h0:p + q=0
   · rw [h0]; simp
   · rw [if_neg h0]
     by_cases hn:p + q < 0
     · rw [decide_eq_true hn,if_pos rfl]; omega
     · rw [decide_eq_false hn,if_neg (by decide)]; omega
 refine near_bd (a:=c) (b:=0) hT hU (by omega) ?_ ?_
 · rw [hsg,hsum]; simpa using h1
 · rw [hsg,hsum]; simpa using h2
end Flo
end Go.Proofs.YthhfljldbfgpcaaGreatDoor
end
