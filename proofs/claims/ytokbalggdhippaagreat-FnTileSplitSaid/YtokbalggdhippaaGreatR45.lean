/- Merged texts: JoiA, JoiB, JoiC, QuiK, JoiE. -/
import Derived.Test.YtokbalggdhippaaGreatR44
import Derived.Test.YtokbalggdhippaaGreatR42
import Derived.Test.YtokbalggdhippaaGreatR4
import Derived.Deep.RegionHeld3
import Derived.Test.YtokbalggdhippaaGreatR14
import Derived.Test.YtokbalggdhippaaGreatR5
import Derived.Test.YtokbalggdhippaaGreatR1
import Derived.BigQuiet
import Derived.Deep.RegionWith
import Derived.BigRegion
set_option linter.all false
section
namespace Go.Proofs.YtokbalggdhippaaGreat
open Go.RowKit Flo
structure JT where
 cx:Nat
 cy:Nat
 deep:Int
 size:Int
 a1:Option Addr
 c1:Nat
 a2:Option Addr
 c2:Nat
 xs:List Nat
 ys:List Int
def JT.cells (t:JT):List Value:=[.complex .f32 t.cx t.cy,.int .i64 t.deep,.int .i64 t.size,.slice t.a1 t.xs.length t.c1,.slice t.a2 t.ys.length t.c2]
def JT.Ok (t:JT) (B:Nat) (W:World):Prop:=TileV B t.a1 t.c1 t.a2 t.c2 t.cx t.cy t.deep t.size t.xs t.ys W
structure JIn (B g:Nat) (L:List JT) (W:World):Prop where
 cell:∀ (k j:Nat) (t:JT) (v:Value),L[k]?=some t → t.cells[j]?=some v → W.cell? ⟨g,k * 5 + j,none⟩=some v
 own:∀ t,t ∈ L → t.Ok B W
theorem JIn.cells5 {B g:Nat} {L:List JT} {W:World} (h:JIn B g L W) {k:Nat} {t:JT} (ht:L[k]?=some t) :
   W.cell? ⟨g,k * 5,none⟩=some (.complex .f32 t.cx t.cy) ∧ W.cell? ⟨g,k * 5 + 1,none⟩=some (.int .i64 t.deep) ∧ W.cell? ⟨g,k * 5 + 2,none⟩=some (.int .i64 t.size) ∧ W.cell? ⟨g,k * 5 + 3,none⟩=some (.slice t.a1 t.xs.length t.c1) ∧ W.cell? ⟨g,k * 5 + 4,none⟩=some (.slice t.a2 t.ys.length t.c2) :=
 ⟨h.cell k 0 t _ ht rfl,h.cell k 1 t _ ht rfl,h.cell k 2 t _ ht rfl,h.cell k 3 t _ ht rfl,h.cell k 4 t _ ht rfl⟩
theorem JIn.step {B g:Nat} {L:List JT} {W W':World} (h:JIn B g L W) (k:Below W.heap.size W W'):JIn B g L W' :=
 ⟨fun i j t v ht hv => by
   have h1:=h.cell i j t v ht hv
   exact (k.cell (p:=⟨g,i * 5 + j,none⟩) (World.block_lt_of_cell? W _ h1)).trans h1,fun t ht => TileV.step (h.own t ht) k⟩
def JT.of (t:TRec):JT:=⟨t.cx,t.cy,t.deep,t.size,some ⟨t.gs,0,none⟩,t.cs,some ⟨t.gm,0,none⟩,t.cm,t.xs,t.ys⟩
theorem TOwn.lens {B:Nat} {t:TRec} {W:World} (h:TOwn B t W):t.xs.length=t.n ∧ t.ys.length=t.n:=⟨h.made.lx,h.made.ly⟩
theorem TOwn.cells_of {B:Nat} {t:TRec} {W:World} (h:TOwn B t W):(JT.of t).cells=t.cells:=by
 obtain ⟨h1,h2⟩:=h.lens
 unfold JT.cells JT.of TRec.cells
 dsimp only
 rw [h1,h2]
theorem TOwn.ok {B:Nat} {t:TRec} {W:World} (h:TOwn B t W):(JT.of t).Ok B W:=by
 obtain ⟨h1,h2⟩:=h.lens
 have b1:=own_ge h.made.S
 have b2:=own_ge h.made.M
 exact ⟨sl_of_own h.made.S,sl_of_own h.made.M,by show t.xs.length ≤ t.cs; rw [h1]; exact h.ks,by show t.ys.length ≤ t.cm; rw [h2]; exact h.km,fun g o s e => by injection e with e; injection e with e; omega,fun g o s e => by injection e with e; injection e with e; omega,h.made.hx,fun y hy => by have:=h.made.hy y hy; omega,h.bx,h.by1,h.pl,h2,.inl (h1.trans h2.symm)⟩
theorem cellsL_at:∀ (L:List TRec) (k j:Nat) (t:TRec) (v:Value),L[k]?=some t → t.cells[j]?=some v → (cellsL L)[k * 5 + j]?=some v
 | [],k,j,t,v,h,_ => by simp at h
 | u :: L,0,j,t,v,h,hv => by
   have e:u=t:=by simpa using h
   subst e
   show (u.cells ++ cellsL L)[0 * 5 + j]?=_
   have hj:j < 5:=(List.getElem?_eq_some_iff.1 hv).1
   rw [List.getElem?_append_left (by show 0 * 5 + j < 5; omega),Nat.zero_mul,Nat.zero_add]
   exact hv
 | u :: L,k + 1,j,t,v,h,hv => by
   show (u.cells ++ cellsL L)[(k + 1) * 5 + j]?=_
   rw [List.getElem?_append_right (by show 5 ≤ (k + 1) * 5 + j; omega)]
   show (cellsL L)[(k + 1) * 5 + j - 5]?=_
   rw [show (k + 1) * 5 + j - 5=k * 5 + j by omega]
   exact cellsL_at L k j t v (by simpa using h) hv
theorem TList.jin {B:Nat} {L:List TRec} {g cap:Nat} {W:World} (h:TList B L (.slice (some ⟨g,0,none⟩) L.length cap) W):JIn B g (L.map JT.of) W:=by
 refine ⟨fun k j t v ht hv => ?_,fun t ht => ?_⟩
 · rw [List.getElem?_map] at ht
   obtain ⟨u,hu,rfl⟩:=Option.map_eq_some_iff.1 ht
   have hm:=List.mem_of_getElem? hu
   rw [(h.own u hm).cells_of] at hv
   have hk:k < L.length:=(List.getElem?_eq_some_iff.1 hu).1
   have hj:j < 5:=(List.getElem?_eq_some_iff.1 hv).1
   rw [h.row.cellAt (k * 5 + j) (by omega)]
   exact cellsL_at L k j u v hu hv
 · obtain ⟨u,hu,rfl⟩:=List.mem_map.1 ht
   exact (h.own u hu).ok
end Go.Proofs.YtokbalggdhippaaGreat
end

section
namespace Go.Proofs.YtokbalggdhippaaGreat
open Go.RowKit Flo
attribute [local go_sem] run_store_float run_store_complex
def QuartOk (cx cy d:Nat) (s:Int):Prop :=
 floatBits .mul .f32 (floatOfInt .f32 s) (sideF (d + 1))=some (farF d s) ∧ floatBits .add .f32 cx (farF d s)=some (addF cx (farF d s)) ∧ floatBits .add .f32 cy (farF d s)=some (addF cy (farF d s)) ∧ floatBits .add .f32 cx 0=some (addF cx 0) ∧ floatBits .add .f32 cy 0=some (addF cy 0)
theorem quart_ok {cx cy d:Nat} {A B s:Int} (hd:d ≤ 10) (hx:Pt cx (d + 1) A) (hy:Pt cy (d + 1) B) (hA:A.natAbs ≤ 16384) (hB:B.natAbs ≤ 16384) (hs:s.natAbs ≤ 100):QuartOk cx cy d s:=by
 have f:=farF_is (s:=s) hd (by omega)
 have z:=pt_zero (d + 1)
 have h1:=addF_is (by omega) hx f.2 (by omega)
 have h2:=addF_is (by omega) hy f.2 (by omega)
 have h3:=addF_is (by omega) hx z (by omega)
 have h4:=addF_is (by omega) hy z (by omega)
 exact ⟨f.1,h1.1,h2.1,h3.1,h4.1⟩
set_option maxRecDepth 100000 in
set_option maxHeartbeats 1000000 in
theorem quarterCorners_ok (cx cy d:Nat) (s:Int) (hd:d ≤ 10) (hq:QuartOk cx cy d s) (w:World) :
   Calls Vp.prog 37 #[.complex .f32 cx cy,.int .i64 d,.int .i64 s] w fun e w' => e=.returned (.agg (quartC cx cy d s)) ∧ Below w.heap.size w w':=by
 obtain ⟨h1,h2,h3,h4,h5⟩:=hq
 have R:=Box.new w #[.complex .f32 0 0,.complex .f32 0 0,.complex .f32 0 0,.complex .f32 0 0] 72
 have g0:=fun w => run_float_arith (P:=Vp.prog) w .mul 63 .f32 _ _ _ h1
 have g1:=fun w => run_complex_sum (P:=Vp.prog) w .add (.inl rfl) 23 .f32 cx cy (farF d s) 0 _ _ (by unfold cSumBits; rw [h2,h5]; rfl)
 have g2:=fun w => run_complex_sum (P:=Vp.prog) w .add (.inl rfl) 23 .f32 cx cy 0 (farF d s) _ _ (by unfold cSumBits; rw [h4,h3]; rfl)
 have g3:=fun w => run_complex_sum (P:=Vp.prog) w .add (.inl rfl) 23 .f32 cx cy (farF d s) (farF d s) _ _ (by unfold cSumBits; rw [h2,h3]; rfl)
 have HS:Hid (∀ w,Calls Vp.prog 59 #[.int .i64 ((d:Int) + 1)] w fun e w' => e=.returned (.float .f32 (sideF (d + 1))) ∧ w=w'):=fun w => sideOf_is (d + 1) (by omega) w
 unfold quartC
 clear h1 h2 h3 h4 h5
 generalize addF cx (farF d s)=x1 at *
 generalize addF cy (farF d s)=y1 at *
 generalize addF cx 0=x0 at *
 generalize addF cy 0=y0 at *
 generalize farF d s=f at *
 generalize sideF (d + 1)=sd at *
 have e1:IntKind.i64.wrap ((d:Int) + 1)=(d:Int) + 1:=IntWalk.i64_in _ (by omega)
 clear R
 go_enter Vp.func37,Tryz.ntmps37
 go_wp2_with (go_at_call 59; refine (HS.out _).mono ?_; rintro e w' ⟨rfl,rfl⟩)
 exact bodyPost_ret (v:=.agg #[.complex .f32 cx cy,.complex .f32 x1 y0,.complex .f32 x0 y1,.complex .f32 x1 y1]) (by simp [results,Tryz.f37,go_sem]) rfl ⟨rfl,(Below.refl _ _).alloc (Nat.le_refl _) _⟩
end Go.Proofs.YtokbalggdhippaaGreat
end

section
namespace Go.Proofs.YtokbalggdhippaaGreat
open Go.RowKit Flo
attribute [local go_sem] run_store_float run_store_complex
def gdB (t0 t:JT):Bool:=wellB t.size t.xs.length t.ys && decide (t.size=t0.size) && decide (t.deep=t0.deep) && !decide (t.deep=0)
def eqcB (x y p q:Nat):Bool:=(FloatKind.f32.format.order x p == some .eq) && (FloatKind.f32.format.order y q == some .eq)
def corB (t0:JT) (k:Nat) (t:JT):Bool:=eqcB t.cx t.cy (quart t0.cx t0.cy (t0.deep - 1).toNat t0.size k).1 (quart t0.cx t0.cy (t0.deep - 1).toNat t0.size k).2
structure Fit4 (L:List JT) (t0:JT):Prop where
 len:L.length=4
 hd:L[0]?=some t0
 gd:∀ (k:Nat) (t:JT),L[k]?=some t → gdB t0 t=true
 cor:∀ (k:Nat) (t:JT),L[k]?=some t → corB t0 k t=true
def placeJ (t0:JT):Bool:=placeB t0.cx t0.cy (t0.deep - 1) t0.size
theorem gdB_of {t0 t:JT} (h:gdB t0 t=true):wellB t.size t.xs.length t.ys=true ∧ t.size=t0.size ∧ t.deep=t0.deep ∧ t.deep ≠ 0:=by
 unfold gdB at h
 simp only [Bool.and_eq_true,decide_eq_true_eq,Bool.not_eq_true',decide_eq_false_iff_not] at h
 exact ⟨h.1.1.1,h.1.1.2,h.1.2,h.2⟩
theorem first_ok {t:JT} {B:Nat} {W:World} (h:t.Ok B W) (h0:t.deep ≠ 0):∃ d:Nat,t.deep=(d:Int) + 1 ∧ (t.deep - 1).toNat=d ∧ d ≤ 9 ∧ 1 ≤ t.size ∧ t.size ≤ 8 ∧ QuartOk t.cx t.cy d t.size ∧ t.cx < 4294967296 ∧ t.cy < 4294967296:=by
 obtain ⟨d',A,B',hd',hd,hA,hB,-,-,ha,hb⟩:=place_pts h.bx h.by1 h.pl
 obtain ⟨h1,h2,h3,h4⟩:=placeB_bd h.pl
 refine ⟨d' - 1,by omega,by omega,by omega,h3,h4,?_,h.bx,h.by1⟩
 have e:d'=d' - 1 + 1:=by omega
 rw [e] at hA hB
 exact quart_ok (by omega) hA hB (by omega) (by omega) (by omega)
set_option maxRecDepth 100000 in
theorem run_index_quart (cx cy d:Nat) (s:Int) (k:Nat) (h:k < 4) (w:World):(Instr.index 72 (.agg (quartC cx cy d s)) (.int .i64 k)).run Vp.prog w=.ok (.complex .f32 (quart cx cy d s k).1 (quart cx cy d s k).2) w:=by
 rcases (by omega:k=0 ∨ k=1 ∨ k=2 ∨ k=3) with rfl | rfl | rfl | rfl <;> kernel_rfl
set_option maxRecDepth 100000 in
set_option maxHeartbeats 4000000 in
theorem quartersWell_is (B g cap:Nat) (L:List JT) (t0:JT) (h0:L[0]?=some t0) (hl:L.length ≤ 4) (w:World) (hL:JIn B g L w) :
   Calls Vp.prog 40 #[.slice (some ⟨g,0,none⟩) L.length cap] w fun e w' => (∃ b,e=.returned (.bool b) ∧ (b=true ↔ Fit4 L t0 ∧ placeJ t0=true)) ∧ Below w.heap.size w w':=by
 obtain ⟨n,hn⟩:∃ n,L.length=n:=⟨_,rfl⟩
 have HN:=Lib.hid hn
 rw [hn] at hl ⊢
 by_cases h4:n=4
 · subst h4
   have hok:=hL.own t0 (List.mem_of_getElem? h0)
   have HOK:=Lib.hid hok
   have HL:=Lib.hid hL
   have H0:=Lib.hid h0
   obtain ⟨p0,p1,p2,p3,p4⟩:=hL.cells5 h0
   have HAT:Hid (∀ k,k < 4 → ∃ t,L[k]?=some t):=fun k hk => ⟨_,List.getElem?_eq_getElem (by omega)⟩
   clear hL hok h0 hn hl
   have X0:=Box.new w #[.complex .f32 t0.cx t0.cy,.int .i64 t0.deep,.int .i64 t0.size,.slice t0.a1 t0.xs.length t0.c1,.slice t0.a2 t0.ys.length t0.c2] 29
   have HX0:=Lib.hid X0
   clear X0
   go_enter Vp.func40,Tryz.ntmps40
   go_wp2
   go_loopw [16] (fun i wr => ∃ k:Nat,k ≤ 4 ∧ i=.int .i64 k ∧ Hid (Box w w.heap.size #[.complex .f32 t0.cx t0.cy,.int .i64 t0.deep,.int .i64 t0.size,.slice t0.a1 t0.xs.length t0.c1,.slice t0.a2 t0.ys.length t0.c2] 29 wr) ∧ Hid (∀ (j:Nat) (t:JT),j < k → L[j]?=some t → gdB t0 t=true)) (fun i _ => (4 - intOf i).toNat)
   case atStart => exact ⟨0,by omega,rfl,HX0,fun j t hj => by omega⟩
   case round =>
     clear HX0 p0 p1 p2 p3 p4
     obtain ⟨k,hk,rfl,HX,HG⟩:=hrel
     by_cases hlt:k < 4
     · obtain ⟨t,ht⟩:=HAT.out k hlt
       obtain ⟨p0,p1,p2,p3,p4⟩:=(HL.out.step HX.out.old).cells5 ht
       have T:=(HL.out.step HX.out.old).own t (List.mem_of_getElem? ht)
       obtain ⟨x0,x1,x2,x3,x4⟩:=HX.out.cells5
       have X1:=(Box.new wr #[.complex .f32 t.cx t.cy,.int .i64 t.deep,.int .i64 t.size,.slice t.a1 t.xs.length t.c1,.slice t.a2 t.ys.length t.c2] 29).up HX.out.old
       have HX1:=Lib.hid X1
       have HX2:=Lib.hid (HX.out.alloc (.cells #[.complex .f32 t.cx t.cy,.int .i64 t.deep,.int .i64 t.size,.slice t.a1 t.xs.length t.c1,.slice t.a2 t.ys.length t.c2] 29))
       have hlm:=T.lim
       have CW:=Lib.hid (implWell_is t.cx t.cy t.deep t.size T.bx T.by1 T.pl t.a1 t.a2 t.xs.length t.c1 t.c2 t.ys (by omega) _ (T.s2.alloc (.cells #[.complex .f32 t.cx t.cy,.int .i64 t.deep,.int .i64 t.size,.slice t.a1 t.xs.length t.c1,.slice t.a2 t.ys.length t.c2] 29)))
       clear hlm T X1
       go_wp2_with fail
       with_reducible refine CW.out.mono ?_
       rintro e w2 ⟨rfl,hd⟩
       have HT:=Lib.hid ht
       have HX3:=Lib.hid (HX2.out.step hd)
       have HY3:=HX1.out.step hd
       have HB:=Lib.hid HY3.old
       clear x0 x1 x2 x3 x4 p0 p1 p2 p3 p4 CW hd HX1 HX2 HX ht
       obtain ⟨x0,x1,x2,x3,x4⟩:=HX3.out.cells5
       obtain ⟨y0,y1,y2,y3,y4⟩:=HY3.cells5
       clear HY3
       cases hwb:wellB t.size t.xs.length t.ys with
       | false =>
         have HF:Hid (¬ Fit4 L t0):=fun h => by have:=(gdB_of (h.gd k t HT.out)).1; rw [hwb] at this; cases this
         clear hwb
         go_wp2
         go_ret
         exact ⟨⟨false,rfl,by simp; exact fun h => absurd h HF.out⟩,HB.out⟩
       | true =>
         by_cases e2:t.size=t0.size
         · have f2:(t.size != t0.size)=false:=by simpa using e2
           by_cases e3:t.deep=t0.deep
           · have f3:(t.deep != t0.deep)=false:=by simpa using e3
             by_cases e4:t.deep=0
             · have HF:Hid (¬ Fit4 L t0):=fun h => (gdB_of (h.gd k t HT.out)).2.2.2 e4
               have f4:(t.deep == 0)=true:=by simpa using e4
               clear hwb e2 e3 e4
               go_wp2
               go_ret
               exact ⟨⟨false,rfl,by simp; exact fun h => absurd h HF.out⟩,HB.out⟩
             · have f4:(t.deep == 0)=false:=by simpa using e4
               have HG2:Hid (∀ (j:Nat) (u:JT),j < k + 1 → L[j]?=some u → gdB t0 u=true):=fun j u hj hu => by
                 by_cases hjk:j=k
                 · subst hjk
                   obtain rfl:u=t:=Option.some.inj (hu.symm.trans HT.out)
                   unfold gdB
                   rw [hwb,decide_eq_true e2,decide_eq_true e3,decide_eq_false e4]
                   rfl
                 · exact HG.out j u (by omega) hu
               clear hwb e2 e3 e4 HG
               go_wp2
               go_roundw
               case rel => exact ⟨k + 1,by omega,by go_num,HX3,HG2⟩
               case measure => simp [intOf]; omega
           · have HF:Hid (¬ Fit4 L t0):=fun h => e3 (gdB_of (h.gd k t HT.out)).2.2.1
             have f3:(t.deep != t0.deep)=true:=by simpa using e3
             clear hwb e2 e3
             go_wp2
             go_ret
             exact ⟨⟨false,rfl,by simp; exact fun h => absurd h HF.out⟩,HB.out⟩
         · have HF:Hid (¬ Fit4 L t0):=fun h => e2 (gdB_of (h.gd k t HT.out)).2.1
           have f2:(t.size != t0.size)=true:=by simpa using e2
           clear hwb e2
           go_wp2
           go_ret
           exact ⟨⟨false,rfl,by simp; exact fun h => absurd h HF.out⟩,HB.out⟩
     · obtain rfl:k=4:=by omega
       obtain ⟨d,hd1,hd2,hd3,hs1,hs2,hq,hbx,hby⟩:=first_ok HOK.out (gdB_of (HG.out 0 t0 (by omega) H0.out)).2.2.2
       have CQ:Hid (∀ W,Calls Vp.prog 37 #[.complex .f32 t0.cx t0.cy,.int .i64 (t0.deep - 1),.int .i64 t0.size] W fun e w' => e=.returned (.agg (quartC t0.cx t0.cy d t0.size)) ∧ Below W.heap.size W w'):=fun W => by
         have:=quarterCorners_ok t0.cx t0.cy d t0.size (by omega) hq W
         rw [show (d:Int)=t0.deep - 1 by omega] at this
         exact this
       have CP:Hid (∀ W,Calls Vp.prog 33 #[.complex .f32 t0.cx t0.cy,.int .i64 (t0.deep - 1),.int .i64 t0.size] W fun e w' => e=.returned (.bool (placeJ t0)) ∧ W=w'):=fun W => placeWell_is t0.cx t0.cy (t0.deep - 1) t0.size hbx hby W
       have hb1:1 ≤ t0.deep ∧ t0.deep ≤ 10:=by omega
       have HD2:=Lib.hid hd2
       clear hd1 hd2 hd3 hs1 hs2 hq hbx hby hlt hk
       obtain ⟨x0,x1,x2,x3,x4⟩:=HX.out.cells5
       go_wp2_with fail
       with_reducible refine (CQ.out _).mono ?_
       rintro e w2 ⟨rfl,hd⟩
       have HX3:=Lib.hid (HX.out.step hd)
       clear hd HX x0 x1 x2 x3 x4 CQ
       go_wp2
       go_loopw [51] (fun i wr => ∃ k:Nat,k ≤ 4 ∧ i=.int .i64 k ∧ Hid (Box w w.heap.size #[.complex .f32 t0.cx t0.cy,.int .i64 t0.deep,.int .i64 t0.size,.slice t0.a1 t0.xs.length t0.c1,.slice t0.a2 t0.ys.length t0.c2] 29 wr) ∧ Hid (∀ (j:Nat) (t:JT),j < k → L[j]?=some t → corB t0 j t=true)) (fun i _ => (4 - intOf i).toNat)
       case atStart => exact ⟨0,by omega,rfl,HX3,fun j t hj => by omega⟩
       case round =>
         clear HX3
         obtain ⟨k,hk,rfl,HX,HC⟩:=hrel
         by_cases hlt:k < 4
         · obtain ⟨t,ht⟩:=HAT.out k hlt
           obtain ⟨p0,-⟩:=(HL.out.step HX.out.old).cells5 ht
           have hqk:=run_index_quart t0.cx t0.cy d t0.size k hlt
           have HT:=Lib.hid ht
           have HCB:Hid (corB t0 k t=eqcB t.cx t.cy (quart t0.cx t0.cy d t0.size k).1 (quart t0.cx t0.cy d t0.size k).2):=by
             show _=_
             unfold corB
             rw [HD2.out]
           clear ht
           generalize (quart t0.cx t0.cy d t0.size k).1=qx at *
           generalize (quart t0.cx t0.cy d t0.size k).2=qy at *
           cases hcb:eqcB t.cx t.cy qx qy with
           | false =>
             have HF:Hid (¬ Fit4 L t0):=fun h => by have:=h.cor k t HT.out; rw [HCB.out,hcb] at this; cases this
             have hcc:((FloatKind.f32.format.order t.cx qx == some .eq) && (FloatKind.f32.format.order t.cy qy == some .eq))=false:=hcb
             have HB:=Lib.hid HX.out.old
             clear hcb
             go_wp2
             go_ret
             exact ⟨⟨false,rfl,by simp; exact fun h => absurd h HF.out⟩,HB.out⟩
           | true =>
             have hcc:((FloatKind.f32.format.order t.cx qx == some .eq) && (FloatKind.f32.format.order t.cy qy == some .eq))=true:=hcb
             have HC2:Hid (∀ (j:Nat) (u:JT),j < k + 1 → L[j]?=some u → corB t0 j u=true):=fun j u hj hu => by
               by_cases hjk:j=k
               · subst hjk
                 obtain rfl:u=t:=Option.some.inj (hu.symm.trans HT.out)
                 exact HCB.out.trans hcb
               · exact HC.out j u (by omega) hu
             clear hcb HC
             go_wp2
             go_roundw
             case rel => exact ⟨k + 1,by omega,by go_num,HX,HC2⟩
             case measure => simp [intOf]; omega
         · obtain rfl:k=4:=by omega
           obtain ⟨x0,x1,x2,x3,x4⟩:=HX.out.cells5
           have HF:Hid (Fit4 L t0):=⟨HN.out,H0.out,fun k t h => HG.out k t (by have:=(List.getElem?_eq_some_iff.1 h).1; have:=HN.out; omega) h,fun k t h => HC.out k t (by have:=(List.getElem?_eq_some_iff.1 h).1; have:=HN.out; omega) h⟩
           have HB:=Lib.hid HX.out.old
           go_wp2_with fail
           with_reducible refine (CP.out _).mono ?_
           rintro e w3 ⟨rfl,rfl⟩
           go_wp2
           go_ret
           exact ⟨⟨_,rfl,⟨fun h => ⟨HF.out,h⟩,fun h => h.2⟩⟩,HB.out⟩
 · have hne:((n:Int) != 4)=true:=by simp; omega
   have HF:Hid (¬ Fit4 L t0):=fun h => h4 (HN.out.symm.trans h.len)
   go_enter Vp.func40,Tryz.ntmps40
   go_wp2
   go_ret
   exact ⟨⟨false,rfl,by simp; exact fun h => absurd h HF.out⟩,Below.refl _ _⟩
end Go.Proofs.YtokbalggdhippaaGreat
end

section
namespace Go.Proofs.YtokbalggdhippaaGreat
open Go.RowKit
structure Kw (w:World) where
 W:World
 h:Below w.heap.size w W
instance (w:World):Inhabited (Kw w):=⟨⟨w,Below.refl _ _⟩⟩
def Kw.step {w:World} (s:Kw w) {w':World} (k:Below s.W.heap.size s.W w'):Kw w:=⟨w',s.h.trans (k.mono s.h.size)⟩
theorem wp_region_kept {P:Program} {id:Nat} {Q:Exit → Act → World → Prop} {a:Act} {w:World} {l:List Oper} (hm:P.follows .mixedOrders=true) (hB:Region.lexB .any l.toArray=true)
   (h:wpQuiet P l.toArray (fun w' => ∃ s:Kw w,w'=s.W) (fun a' => ∀ w',(∃ s:Kw w,w'=s.W) → Q .normal a' w') l a):(Code.region id l.toArray true).wp P Q a w :=
 wp_region_quiet (C:=fun w' => ∃ s:Kw w,w'=s.W) hm hB ⟨⟨w.drew,(Below.refl _ _).drew⟩,rfl⟩ (by simpa using h)
end Go.Proofs.YtokbalggdhippaaGreat
end

section
namespace Go.Proofs.YtokbalggdhippaaGreat
open Go.RowKit Flo
attribute [local go_sem] run_store_float run_store_complex
def qN (n i j k:Nat):Nat:=(2 * i + k / 2) / n * 2 + (2 * j + k % 2) / n
def aN (n i j k:Nat):Nat:=(2 * i + k / 2) % n * n + (2 * j + k % 2) % n
def fcC (n i j k:Nat):Array Value:=#[.int .i64 (if 0 < k then qN n i j 0 else 0),.int .i64 (if 0 < k then aN n i j 0 else 0),.int .i64 (if 1 < k then qN n i j 1 else 0),.int .i64 (if 1 < k then aN n i j 1 else 0),
 .int .i64 (if 2 < k then qN n i j 2 else 0),.int .i64 (if 2 < k then aN n i j 2 else 0),.int .i64 (if 3 < k then qN n i j 3 else 0),.int .i64 (if 3 < k then aN n i j 3 else 0)]
structure FourN (n i j k kh km r cc rq cq rm cm r2 rn q at':Nat):Prop where
 q1:(k:Int).tdiv 2=kh
 q2:(k:Int).tmod 2=km
 q3:2 * (i:Int) + kh=r
 q4:2 * (j:Int) + km=cc
 q5:(r:Int).tdiv n=rq
 q6:(cc:Int).tdiv n=cq
 q7:(r:Int).tmod n=rm
 q8:(cc:Int).tmod n=cm
 w0:IntKind.i64.wrap (2 * (i:Int))=2 * (i:Int)
 w1:IntKind.i64.wrap (2 * (j:Int))=2 * (j:Int)
 u1:IntKind.i64.wrap ((rq:Int) * 2)=r2
 u2:IntKind.i64.wrap ((r2:Int) + cq)=q
 u3:IntKind.i64.wrap ((rm:Int) * n)=rn
 u4:IntKind.i64.wrap ((rn:Int) + cm)=at'
 v1:IntKind.i64.wrap (r:Int)=r
 v2:IntKind.i64.wrap (cc:Int)=cc
 v3:IntKind.i64.wrap (rq:Int)=rq
 v4:IntKind.i64.wrap (cq:Int)=cq
 v5:IntKind.i64.wrap (kh:Int)=kh
 z:¬ (n:Int)=0
 z2:¬ n=0
theorem fourN_is {n i j k:Nat} (h1:1 ≤ n) (h8:n ≤ 8) (hi:i < n) (hj:j < n) (hk:k < 4):∃ kh km r cc rq cq rm cm r2 rn,FourN n i j k kh km r cc rq cq rm cm r2 rn (qN n i j k) (aN n i j k):=by
 have b1:(2 * i + k / 2) / n < 2:=Nat.div_lt_of_lt_mul (by omega)
 have b2:(2 * j + k % 2) / n < 2:=Nat.div_lt_of_lt_mul (by omega)
 have b3:(2 * i + k / 2) % n < n:=Nat.mod_lt _ (by omega)
 have b4:(2 * j + k % 2) % n < n:=Nat.mod_lt _ (by omega)
 have b5:(2 * i + k / 2) % n * n ≤ 8 * 8:=Nat.mul_le_mul (by omega) h8
 refine ⟨k / 2,k % 2,2 * i + k / 2,2 * j + k % 2,(2 * i + k / 2) / n,(2 * j + k % 2) / n,(2 * i + k / 2) % n,(2 * j + k % 2) % n,(2 * i + k / 2) / n * 2,(2 * i + k / 2) % n * n,?_⟩
 unfold qN aN
 generalize hA:(2 * i + k / 2) / n=A at *
 generalize hB:(2 * j + k % 2) / n=B at *
 generalize hC:(2 * i + k / 2) % n=C at *
 generalize hD:(2 * j + k % 2) % n=D at *
 generalize hE:C * n=E at *
 refine ⟨rfl,rfl,by omega,by omega,?_,?_,?_,?_,?_,?_,?_,?_,?_,?_,?_,?_,?_,?_,?_,?_,?_⟩
 · rw [← hA]; rfl
 · rw [← hB]; rfl
 · rw [← hC]; rfl
 · rw [← hD]; rfl
 · exact IntWalk.i64_in _ (by omega)
 · exact IntWalk.i64_in _ (by omega)
 · rw [show ((A * 2:Nat):Int)=(A:Int) * 2 by omega]; exact IntWalk.i64_in _ (by omega)
 · rw [show ((A * 2 + B:Nat):Int)=((A * 2:Nat):Int) + B by omega]; exact IntWalk.i64_in _ (by omega)
 · rw [← Int.natCast_mul,hE]; exact IntWalk.i64_in _ (by omega)
 · rw [show ((E + D:Nat):Int)=(E:Int) + D by omega]; exact IntWalk.i64_in _ (by omega)
 · exact IntWalk.i64_in _ (by omega)
 · exact IntWalk.i64_in _ (by omega)
 · exact IntWalk.i64_in _ (by omega)
 · exact IntWalk.i64_in _ (by omega)
 · exact IntWalk.i64_in _ (by omega)
 · omega
 · omega
theorem Box.cells8 {w0 W:World} {b:Nat} {v0 v1 v2 v3 v4 v5 v6 v7:Value} {T:TypeId} (h:Box w0 b #[v0,v1,v2,v3,v4,v5,v6,v7] T W) :
   W.cell? ⟨b,0,none⟩=some v0 ∧ W.cell? ⟨b,1,none⟩=some v1 ∧ W.cell? ⟨b,2,none⟩=some v2 ∧ W.cell? ⟨b,3,none⟩=some v3 ∧ W.cell? ⟨b,4,none⟩=some v4 ∧ W.cell? ⟨b,5,none⟩=some v5 ∧ W.cell? ⟨b,6,none⟩=some v6 ∧ W.cell? ⟨b,7,none⟩=some v7 :=
 ⟨h.cell 0 _ rfl,h.cell 1 _ rfl,h.cell 2 _ rfl,h.cell 3 _ rfl,h.cell 4 _ rfl,h.cell 5 _ rfl,h.cell 6 _ rfl,h.cell 7 _ rfl⟩
theorem fcC_four (n i j:Nat):fcC n i j 4=#[.int .i64 (qN n i j 0),.int .i64 (aN n i j 0),.int .i64 (qN n i j 1),.int .i64 (aN n i j 1),.int .i64 (qN n i j 2),.int .i64 (aN n i j 2),.int .i64 (qN n i j 3),.int .i64 (aN n i j 3)]:=rfl
theorem fcC_zero (n i j:Nat):fcC n i j 0=#[.int .i64 0,.int .i64 0,.int .i64 0,.int .i64 0,.int .i64 0,.int .i64 0,.int .i64 0,.int .i64 0]:=rfl
theorem below8 {w W:World} (h:Below w.heap.size w W) {b:Nat} (hb:w.heap.size ≤ b) (u0 u1 u2 u3 u4 u5 u6 u7:Value) :
   Below w.heap.size w ((((((((W.setCell ⟨b,0,none⟩ u0).setCell ⟨b,1,none⟩ u1).setCell ⟨b,2,none⟩ u2).setCell ⟨b,3,none⟩ u3).setCell ⟨b,4,none⟩ u4).setCell ⟨b,5,none⟩ u5).setCell ⟨b,6,none⟩ u6).setCell ⟨b,7,none⟩ u7) :=
 ((((((((h.setCell (p:=⟨b,0,none⟩) hb _).setCell (p:=⟨b,1,none⟩) hb _).setCell (p:=⟨b,2,none⟩) hb _).setCell (p:=⟨b,3,none⟩) hb _).setCell (p:=⟨b,4,none⟩) hb _).setCell (p:=⟨b,5,none⟩) hb _).setCell (p:=⟨b,6,none⟩) hb _).setCell (p:=⟨b,7,none⟩) hb _)
theorem fcC_step {n i j k:Nat} (hk:k < 4) {w W:World} {b:Nat} {T:TypeId} (h:Box w b (fcC n i j k) T W) (hb:w.heap.size ≤ b) :
   Box w b (fcC n i j (k + 1)) T ((W.setCell ⟨b,k * 2,none⟩ (.int .i64 (qN n i j k))).setCell ⟨b,k * 2 + 1,none⟩ (.int .i64 (aN n i j k))):=by
 have h2:=(h.set hb (k * 2) (.int .i64 (qN n i j k))).set hb (k * 2 + 1) (.int .i64 (aN n i j k))
 rcases (by omega:k=0 ∨ k=1 ∨ k=2 ∨ k=3) with rfl | rfl | rfl | rfl <;> exact h2
set_option maxRecDepth 100000 in
theorem run_index_four (n i j k:Nat) (h:k < 4) (w:World):(Instr.index 80 (.agg (fcC n i j 4)) (.int .i64 k)).run Vp.prog w=.ok (.agg #[.int .i64 (qN n i j k),.int .i64 (aN n i j k)]) w:=by
 rcases (by omega:k=0 ∨ k=1 ∨ k=2 ∨ k=3) with rfl | rfl | rfl | rfl <;> kernel_rfl
set_option maxRecDepth 100000 in
set_option maxHeartbeats 4000000 in
theorem fourCells_is (n i j:Nat) (h1:1 ≤ n) (h8:n ≤ 8) (hi:i < n) (hj:j < n) (w:World) :
   Calls Vp.prog 41 #[.int .i64 n,.int .i64 i,.int .i64 j] w fun e w' => e=.returned (.agg (fcC n i j 4)) ∧ Below w.heap.size w w':=by
 have HN:=Lib.hid (fun k hk => fourN_is (n:=n) (i:=i) (j:=j) (k:=k) h1 h8 hi hj hk)
 have X0:=(Box.new (w.alloc (.cells (fcC n i j 0) 80)) (fcC n i j 0) 80).up ((Below.refl w.heap.size w).alloc (Nat.le_refl _) (.cells (fcC n i j 0) 80))
 have HX0:=Lib.hid X0
 have hin:(i:Int) ≤ 8 ∧ (j:Int) ≤ 8:=by omega
 have HR0:=Lib.hid ((Box.new w (fcC n i j 0) 80).alloc (.cells (fcC n i j 0) 80))
 rw [World.size_alloc] at HX0
 clear X0 h1 h8 hi hj
 go_enter Vp.func41,Tryz.ntmps41
 go_wp2
 go_loopw [11] (fun x wr => ∃ k:Nat,k ≤ 4 ∧ x=.int .i64 k ∧ Hid (Box w (w.heap.size + 1) (fcC n i j k) 80 wr) ∧ Hid (Box w w.heap.size (fcC n i j 0) 80 wr)) (fun x _ => (4 - intOf x).toNat)
 case atStart => exact ⟨0,by omega,rfl,HX0,HR0⟩
 case round =>
   clear HX0 HR0
   obtain ⟨k,hk,rfl,HX,HR⟩:=hrel
   by_cases hlt:k < 4
   · obtain ⟨kh,km,r,cc,rq,cq,rm,cm,r2,rn,⟨q1,q2,q3,q4,q5,q6,q7,q8,w0,w1,u1,u2,u3,u4,v1,v2,y1,y2,y3,z,z2⟩⟩:=HN.out k hlt
     have i1:(k:Int) < 4:=by omega
     have i0:(0:Int) ≤ k:=by omega
     have HXN:=Lib.hid (fun W (hd:Below wr.heap.size wr W) => fcC_step hlt (HX.out.step hd) (Nat.le_succ _))
     have HRN:=Lib.hid (fun W (hd:Below wr.heap.size wr W) => ((HR.out.step hd).other (p:=⟨w.heap.size + 1,k * 2,none⟩) (Nat.le_succ _) (by simp) (.int .i64 (qN n i j k))).other (p:=⟨w.heap.size + 1,k * 2 + 1,none⟩) (Nat.le_succ _) (by simp) (.int .i64 (aN n i j k)))
     have hfr:∀ m:Nat,wr.frozen? ⟨w.heap.size + 1,m,none⟩=false:=fun m => HX.out.frozen m
     obtain ⟨f0,f1⟩:(∃ v,wr.cell? ⟨w.heap.size + 1,k * 2,none⟩=some v) ∧ (∃ v,wr.cell? ⟨w.heap.size + 1,k * 2 + 1,none⟩=some v):=by
       rcases (by omega:k=0 ∨ k=1 ∨ k=2 ∨ k=3) with rfl | rfl | rfl | rfl <;> exact ⟨⟨_,HX.out.cell _ _ rfl⟩,⟨_,HX.out.cell _ _ rfl⟩⟩
     obtain ⟨v0,f0⟩:=f0
     obtain ⟨v3,f1⟩:=f1
     generalize qN n i j k=q at *
     generalize aN n i j k=at' at *
     go_upto_region 6 with fail
     go_region_with (fail)
     have HX3:=Lib.hid ((HXN.out wr (Below.refl _ _)).step ((Drw.refl _).drew.below _))
     have HR3:=Lib.hid ((HRN.out wr (Below.refl _ _)).step ((Drw.refl _).drew.below _))
     clear q1 q2 q3 q4 q5 q6 q7 q8 w0 w1 u1 u2 u3 u4 v1 v2 y1 y2 y3 z z2 f0 f1 hfr HXN HRN HX HR
     go_wp2
     go_roundw
     case rel => exact ⟨k + 1,by omega,by go_num,HX3,HR3⟩
     case measure => simp [intOf]; omega
   · obtain rfl:k=4:=by omega
     have HX4:=HX.out
     rw [fcC_four] at HX4
     have HR4:=HR.out
     rw [fcC_zero] at HR4
     have HB:=Lib.hid HR4.old
     obtain ⟨c0,c1,c2,c3,c4,c5,c6,c7⟩:=HX4.cells8
     have hfr:∀ m:Nat,wr.frozen? ⟨w.heap.size,m,none⟩=false:=fun m => HR.out.frozen m
     have f0:=hfr 0
     have f1:=hfr 1
     have f2:=hfr 2
     have f3:=hfr 3
     have f4:=hfr 4
     have f5:=hfr 5
     have f6:=hfr 6
     have f7:=hfr 7
     obtain ⟨r0,r1,r2,r3,r4,r5,r6,r7⟩:=HR4.cells8
     clear HX4 HR4 HX HR hfr
     go_wp2
     exact bodyPost_ret (v:=.agg #[.int .i64 (qN n i j 0),.int .i64 (aN n i j 0),.int .i64 (qN n i j 1),.int .i64 (aN n i j 1),.int .i64 (qN n i j 2),.int .i64 (aN n i j 2),.int .i64 (qN n i j 3),.int .i64 (aN n i j 3)]) (by simp [results,Tryz.f41,go_sem,r0,r1,r2,r3,r4,r5,r6,r7]) rfl ⟨rfl,below8 HB.out (Nat.le_refl _) _ _ _ _ _ _ _ _⟩
end Go.Proofs.YtokbalggdhippaaGreat
end
