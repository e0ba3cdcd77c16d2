/- Merged texts: JoiS, JoiU, BlB, BlC. -/
import Derived.Test.YtokbalggdhippaaGreatR44
import Derived.Test.YtokbalggdhippaaGreatR4
import Derived.Test.YtokbalggdhippaaGreatR10
import Derived.BigQuiet
import Derived.Test.YtokbalggdhippaaGreatR46
import Derived.Test.YtokbalggdhippaaGreatR42
import Derived.Deep.RegionWith
import Derived.Deep.RegionLaw
import Derived.Deep.AppendLies
import Derived.Deep.Cut
import Derived.Deep.CutRange
import Derived.Test.YtokbalggdhippaaGreatR45
import Derived.Test.YtokbalggdhippaaGreatR15
set_option linter.all false
section
namespace Go.Proofs.YtokbalggdhippaaGreat
open Go.RowKit Flo
attribute [local go_sem] run_store_float run_store_complex
theorem widen_finJ {x:Nat} {a:Int} (h:Val Ieee.single x a) {p:Nat} (hp:Al .f64 (widenC x) p):Val Ieee.double p (a * (2 ^ wup:Nat)):=by
 obtain ⟨y,hy,hv⟩:=widen_val h
 have e:widenC x=y:=by unfold widenC; rw [hy]; rfl
 rw [e] at hp
 rw [Al.same hp (val_nan (k:=.f64) hv)]
 exact hv
set_option maxHeartbeats 400000 in
theorem sameSingle_valJ {x y:Nat} {a b:Int} (hx:Val Ieee.single x a) (hy:Val Ieee.single y b) (w:World) :
   Calls Vp.prog 30 #[.complex .f32 x y,.complex .f32 x y] w fun e w' => e=.returned (.bool true) ∧ Drw w w':=by
 obtain ⟨p,q,w1,h1,p1,q1,d1,ap,aq⟩:=Flo.cwiden_al (P:=Vp.prog) 23 107 (by kernel_rfl) (Vp.und Tryz.underlying107) x y hx.lt hy.lt w
 obtain ⟨p',q',w2,h2,p1',q1',d2,ap',aq'⟩:=Flo.cwiden_al (P:=Vp.prog) 23 107 (by kernel_rfl) (Vp.und Tryz.underlying107) x y hx.lt hy.lt w1
 have n1:nan .f64 p=false:=val_nan (k:=.f64) (widen_finJ hx ap)
 have n2:nan .f64 q=false:=val_nan (k:=.f64) (widen_finJ hy aq)
 have e1:p'=p:=Al.same (ap.symm.trans ap') n1
 have e2:q'=q:=Al.same (aq.symm.trans aq') n2
 subst e1 e2
 have H1:=Lib.hid (alikeFloat_refl p' n1)
 have H2:=Lib.hid (alikeFloat_refl q' n2)
 have HD:=Lib.hid (d1.trans d2)
 clear n1 n2 ap aq ap' aq' d1 d2 hx hy
 go_enter Vp.func30,Tryz.ntmps30
 go_wp2_with fail
 go_enter Vp.func56,Tryz.ntmps56
 go_wp2_with fail
 refine (H1.out _).mono ?_
 rintro e w3 ⟨rfl,rfl⟩
 go_wp2_with fail
 refine (H2.out _).mono ?_
 rintro e w3 ⟨rfl,rfl⟩
 go_wp2
 go_ret
 exact ⟨rfl,HD.out⟩
set_option maxHeartbeats 400000 in
theorem sameSmall_al (x y:Nat) (hx:x < 4294967296) (h:Al .f32 x y) (w:World) :
   Calls Vp.prog 31 #[.float .f32 x,.float .f32 y] w fun e w' => e=.returned (.bool true) ∧ Drw w w':=by
 rcases h with rfl | ⟨n1,n2⟩
 · exact sameSmall_self x hx w
 · obtain ⟨p,hp,hpn⟩:=run_convert_nan64 63 109 (by kernel_rfl) (Vp.und Tryz.underlying109) n1 w
   obtain ⟨q,hq,hqn⟩:=run_convert_nan64 63 109 (by kernel_rfl) (Vp.und Tryz.underlying109) n2 w.drew
   have H:=Lib.hid (alikeFloat_nan p q hpn hqn)
   clear hpn hqn n1 n2
   go_enter Vp.func31,Tryz.ntmps31
   go_wp2_with (go_at_call 57; refine (H.out _).mono ?_; rintro e w' ⟨rfl,rfl⟩)
   go_ret
   exact ⟨rfl,(Drw.refl w).drew.drew⟩
set_option maxRecDepth 100000 in
set_option maxHeartbeats 2000000 in
theorem sameTile_al {cx cy:Nat} {da db:Int} (hcx:Val Ieee.single cx da) (hcy:Val Ieee.single cy db) (deep size:Int) (a1 b1 a2 b2:Option Addr) (c1 e1 c2 e2:Nat) (xs xs':List Nat) (ys:List Int) (n:Nat) (hn:n ≤ 1048576) (m:Nat) (hm:ys.length=m) (hmm:m ≤ 1048576) (hx:∀ k,k < n → ∃ x y,xs[k]?=some x ∧ xs'[k]?=some y ∧ x < 4294967296 ∧ Al .f32 x y) (w:World) (s1:Sl w a1 (xs.map floV)) (t1:Sl w b1 (xs'.map floV)) (s2:Sl w a2 (ys.map intV)) (t2:Sl w b2 (ys.map intV)) :
   Calls Vp.prog 10 #[.agg #[.complex .f32 cx cy,.int .i64 deep,.int .i64 size,.slice a1 n c1,.slice a2 m c2],.agg #[.complex .f32 cx cy,.int .i64 deep,.int .i64 size,.slice b1 n e1,.slice b2 m e2]] w fun e w' => e=.returned (.bool true) ∧ Below w.heap.size w w':=by
 subst hm
 have X0:Box w w.heap.size #[.complex .f32 cx cy,.int .i64 deep,.int .i64 size,.slice a1 n c1,.slice a2 ys.length c2] 29 ((w.alloc (.cells #[.complex .f32 cx cy,.int .i64 deep,.int .i64 size,.slice a1 n c1,.slice a2 ys.length c2] 29)).alloc (.cells #[.complex .f32 cx cy,.int .i64 deep,.int .i64 size,.slice b1 n e1,.slice b2 ys.length e2] 29)):=(Box.new w _ _).alloc _
 have X1:Box w (w.heap.size + 1) #[.complex .f32 cx cy,.int .i64 deep,.int .i64 size,.slice b1 n e1,.slice b2 ys.length e2] 29 ((w.alloc (.cells #[.complex .f32 cx cy,.int .i64 deep,.int .i64 size,.slice a1 n c1,.slice a2 ys.length c2] 29)).alloc (.cells #[.complex .f32 cx cy,.int .i64 deep,.int .i64 size,.slice b1 n e1,.slice b2 ys.length e2] 29)):=by
   have:=(Box.new (w.alloc (.cells #[.complex .f32 cx cy,.int .i64 deep,.int .i64 size,.slice a1 n c1,.slice a2 ys.length c2] 29)) #[.complex .f32 cx cy,.int .i64 deep,.int .i64 size,.slice b1 n e1,.slice b2 ys.length e2] 29).up (w0:=w) ((Below.refl _ _).alloc (Nat.le_refl _) _)
   rwa [World.size_alloc] at this
 have HX0:=Lib.hid X0
 have HX1:=Lib.hid X1
 have HA:=Lib.hid (s1.step X0.old)
 have HB:=Lib.hid (t1.step X0.old)
 have HS:=Lib.hid (fun W (k:Below w.heap.size w W) => sameInts_same a2 b2 c2 e2 ys hmm W (s2.step k) (t2.step k))
 have HC:=Lib.hid (fun W => sameSingle_valJ hcx hcy W)
 have HE:=Lib.hid (fun k (h:k < n) => show ∃ x y,x < 4294967296 ∧ Al .f32 x y ∧ (xs.map floV)[k]?=some (.float .f32 x) ∧ (xs'.map floV)[k]?=some (.float .f32 y) from by
   obtain ⟨x,y,h1,h2,h3,h4⟩:=hx k h
   exact ⟨x,y,h3,h4,by rw [List.getElem?_map,h1]; rfl,by rw [List.getElem?_map,h2]; rfl⟩)
 clear X0 X1 s1 t1 s2 t2 hcx hcy hx
 obtain ⟨r0,r1,r2,r3,r4⟩:=HX0.out.cells5
 obtain ⟨z0,z1,z2,z3,z4⟩:=HX1.out.cells5
 go_enter Vp.func10,Tryz.ntmps10
 go_wp2_with fail
 with_reducible refine (HC.out _).mono ?_
 rintro e w1 ⟨rfl,hd⟩
 have HX01:=Lib.hid (HX0.out.step (hd.below _))
 have HX11:=Lib.hid (HX1.out.step (hd.below _))
 have HA1:=Lib.hid (HA.out.drw hd)
 have HB1:=Lib.hid (HB.out.drw hd)
 clear hd HA HB HX0 HX1 r0 r1 r2 r3 r4 z0 z1 z2 z3 z4
 obtain ⟨r0,r1,r2,r3,r4⟩:=HX01.out.cells5
 obtain ⟨z0,z1,z2,z3,z4⟩:=HX11.out.cells5
 go_wp2
 go_loopw [5] (fun i wr => ∃ k:Nat,k ≤ n ∧ i=.int .i64 k ∧ Hid (Drw w1 wr)) (fun i _ => (n - intOf i).toNat)
 case atStart => exact ⟨0,by omega,rfl,Drw.refl _⟩
 case round =>
   obtain ⟨k,hk,rfl,HD⟩:=hrel
   have HY0:=Lib.hid (HX01.out.step (HD.out.below _))
   have HY1:=Lib.hid (HX11.out.step (HD.out.below _))
   clear r0 r1 r2 r3 r4 z0 z1 z2 z3 z4
   obtain ⟨r0,r1,r2,r3,r4⟩:=HY0.out.cells5
   obtain ⟨z0,z1,z2,z3,z4⟩:=HY1.out.cells5
   by_cases hlt:k < n
   · obtain ⟨x,y,hx,hal,hxe,hye⟩:=HE.out k hlt
     obtain ⟨b1,o1,rfl,hc1⟩:=(HA1.out.drw HD.out).at hxe
     obtain ⟨b2,o2,rfl,hc2⟩:=(HB1.out.drw HD.out).at hye
     have HF:=Lib.hid (fun W => sameSmall_al x y hx hal W)
     clear hxe hye hal
     go_upto_region 6 with fail
     go_quiet ((go_at_call 31; exact quiet_drw (HF.out _)))
     have HD2:=Lib.hid (HD.out.drewN nq)
     go_wp2
     go_roundw
     case rel => exact ⟨k + 1,by omega,by go_num,HD2⟩
     case measure => simp [intOf]; omega
   · have HO:=Lib.hid HY0.out.old
     go_wp2_with fail
     with_reducible refine (HS.out _ HO.out).mono ?_
     rintro e w2 ⟨rfl,hd⟩
     have HO2:=Lib.hid (HO.out.trans (hd.below _))
     go_wp2
     go_ret
     exact ⟨rfl,HO2.out⟩
end Go.Proofs.YtokbalggdhippaaGreat
end

section
namespace Go.Proofs.YtokbalggdhippaaGreat
open Go.RowKit Flo
theorem JoinRes.not {w w':World} {L:List JT} {t0:JT} {e:Ending} (h:JoinRes w L t0 e w') (hF:¬ FitW L t0):e=.returned (.tuple #[.agg #[.complex .f32 0 0,.int .i64 0,.int .i64 0,.slice none 0 0,.slice none 0 0],.bool false]) ∧ Below w.heap.size w w':=by
 obtain ⟨hb,⟨-,rfl⟩ | ⟨h,-⟩⟩:=h
 · exact ⟨rfl,hb⟩
 · exact absurd h hF
structure JOut (B:Nat) (L:List JT) (n:Nat) (a1:Option Addr) (c1:Nat) (a2:Option Addr) (c2:Nat) (xs:List Nat) (ys:List Int) (W:World):Prop where
 s1:Sl W a1 (xs.map floV)
 s2:Sl W a2 (ys.map intV)
 lx:xs.length=n * n
 ly:ys.length=n * n
 hx:∀ x,x ∈ xs → x < 4294967296
 hy:∀ y,y ∈ ys → -1 ≤ y ∧ y ≤ 1
 jx:JX (JXs L) n (n * n) xs
 jy:ys=jys (JYs L) n
theorem JOut.step {B n:Nat} {L:List JT} {a1:Option Addr} {c1:Nat} {a2:Option Addr} {c2:Nat} {xs:List Nat} {ys:List Int} {W W':World} (h:JOut B L n a1 c1 a2 c2 xs ys W) (k:Below W.heap.size W W'):JOut B L n a1 c1 a2 c2 xs ys W' :=
 ⟨h.s1.step k,h.s2.step k,h.lx,h.ly,h.hx,h.hy,h.jx,h.jy⟩
theorem JoinRes.fit {w w':World} {L:List JT} {t0:JT} {e:Ending} (h:JoinRes w L t0 e w') (hF:FitW L t0) {n:Nat} (hn:t0.size=n) (hn1:1 ≤ n):∃ a1 c1 a2 c2 xs ys,e=.returned (.tuple #[.agg #[.complex .f32 t0.cx t0.cy,.int .i64 (t0.deep - 1),.int .i64 n,.slice a1 (n * n) c1,.slice a2 (n * n) c2],.bool true]) ∧ JOut w.heap.size L n a1 c1 a2 c2 xs ys w' ∧ Below w.heap.size w w':=by
 obtain ⟨hb,⟨h,-⟩ | ⟨-,xs,ys,smv,mkv,rfl,M,hX,hY⟩⟩:=h
 · exact absurd hF h
 · rw [hn] at M hX hY ⊢
   rw [Int.toNat_natCast] at M hX hY
   have hp:0 < n * n:=Nat.mul_pos hn1 hn1
   obtain ⟨gs,cs,rfl,-,-⟩:=ownsRow_form M.S hp
   obtain ⟨gm,cm,rfl,-,-⟩:=ownsRow_form M.M hp
   exact ⟨_,cs,_,cm,xs,ys,rfl,⟨sl_of_own M.S,sl_of_own M.M,M.lx,M.ly,M.hx,M.hy,hX,hY⟩,hb⟩
end Go.Proofs.YtokbalggdhippaaGreat
end

section
namespace Go.Proofs.YtokbalggdhippaaGreat
open Go.RowKit Flo
attribute [local go_sem ↓] Go.wp_at_zero Go.wp_at_succ
attribute [local go_sem] run_store_float run_store_complex
def CutQ (wr:World) (px py:Nat) (d s most:Int) (pb x y:Nat) (dd ss:Int) (a1:Option Addr) (n1 c1:Nat) (a2:Option Addr) (n2 c2:Nat) (ok:Bool) (wx:World):Prop :=
 Below wr.heap.size wr wx ∧ wr.heap.size ≤ pb ∧ Box wr pb #[.complex .f32 x y,.int .i64 dd,.int .i64 ss,.slice a1 n1 c1,.slice a2 n2 c2] 29 wx ∧
   (ok=true → ∃ t:TRec,t.cx=px ∧ t.cy=py ∧ t.deep=d ∧ t.size=s ∧ (.agg #[.complex .f32 x y,.int .i64 dd,.int .i64 ss,.slice a1 n1 c1,.slice a2 n2 c2]:Value)=.agg t.cells.toArray ∧ TOwn wr.heap.size t wx ∧ TGood most t) ∧ (ok=false → ¬ MkP px py d s)
theorem cutA2 {wr w5:World} {px py:Nat} {d s most:Int} {x y:Nat} {dd ss:Int} {a1:Option Addr} {n1 c1:Nat} {a2:Option Addr} {n2 c2:Nat} {ok:Bool} (hM:MakeRes2 wr.drew px py d s most ok (.agg #[.complex .f32 x y,.int .i64 dd,.int .i64 ss,.slice a1 n1 c1,.slice a2 n2 c2]) w5) (hb:Below wr.drew.heap.size wr.drew w5) :
   CutQ wr px py d s most w5.heap.size x y dd ss a1 n1 c1 a2 n2 c2 ok (w5.alloc (.cells #[.complex .f32 x y,.int .i64 dd,.int .i64 ss,.slice a1 n1 c1,.slice a2 n2 c2] 29)):=by
 have h0:Below wr.heap.size wr wr.drew:=(Drw.refl _).drew.below _
 have h1:Below wr.heap.size wr w5:=h0.trans hb
 refine ⟨h1.alloc h1.size _,h1.size,(Box.new w5 _ _).up h1,fun hok => ?_,fun hok => (hM.1 hok).1⟩
 obtain ⟨t,e1,e2,e3,e4,e5,ht,hg⟩:=hM.2 hok
 exact ⟨t,e1,e2,e3,e4,e5,ht.step ((Below.refl _ _).alloc (Nat.le_refl _) _),hg⟩
theorem cutB2 {wr w5:World} {px py:Nat} {d s most:Int} {x y:Nat} {dd ss:Int} {a1:Option Addr} {n1 c1:Nat} {a2:Option Addr} {n2 c2:Nat} {ok:Bool}
   (hM:MakeRes2 ((wr.alloc (.cells #[.complex .f32 0 0,.int .i64 0,.int .i64 0,.slice none 0 0,.slice none 0 0] 29)).drew) px py d s most ok (.agg #[.complex .f32 x y,.int .i64 dd,.int .i64 ss,.slice a1 n1 c1,.slice a2 n2 c2]) w5)
   (hb:Below ((wr.alloc (.cells #[.complex .f32 0 0,.int .i64 0,.int .i64 0,.slice none 0 0,.slice none 0 0] 29)).drew).heap.size ((wr.alloc (.cells #[.complex .f32 0 0,.int .i64 0,.int .i64 0,.slice none 0 0,.slice none 0 0] 29)).drew) w5) :
   CutQ wr px py d s most wr.heap.size x y dd ss a1 n1 c1 a2 n2 c2 ok (((((w5.setCell ⟨wr.heap.size,0,none⟩ (.complex .f32 x y)).setCell ⟨wr.heap.size,1,none⟩ (.int .i64 dd)).setCell ⟨wr.heap.size,2,none⟩ (.int .i64 ss)).setCell ⟨wr.heap.size,3,none⟩ (.slice a1 n1 c1)).setCell ⟨wr.heap.size,4,none⟩ (.slice a2 n2 c2)):=by
 have X:Box wr wr.heap.size #[.complex .f32 0 0,.int .i64 0,.int .i64 0,.slice none 0 0,.slice none 0 0] 29 w5:=((Box.new wr _ _).step ((Drw.refl _).drew.below _)).step hb
 have Y:=X.set5 (Nat.le_refl _) (.complex .f32 x y) (.int .i64 dd) (.int .i64 ss) (.slice a1 n1 c1) (.slice a2 n2 c2)
 refine ⟨Y.old,Nat.le_refl _,Y,fun hok => ?_,fun hok => (hM.1 hok).1⟩
 obtain ⟨t,e1,e2,e3,e4,e5,ht,hg⟩:=hM.2 hok
 exact ⟨t,e1,e2,e3,e4,e5,(ht.mono (B':=wr.heap.size) (by simp)).far5 X (Nat.le_refl _) _ _ _ _ _,hg⟩
def SplitV (w:World) (cx cy d:Nat) (s most:Int) (e:Ending) (w':World):Prop :=
 ((∃ a0 c0,e=.returned (.tuple #[.slice a0 0 c0,.bool false]) ∧ ∃ k,k < 4 ∧ ¬ MkP (quart cx cy d s k).1 (quart cx cy d s k).2 ((d:Int) + 1) s) ∨ (∃ L v,e=.returned (.tuple #[v,.bool true]) ∧ TList w.heap.size L v w' ∧ L.length=4 ∧ ∀ k t,L[k]?=some t → t.cx=(quart cx cy d s k).1 ∧ t.cy=(quart cx cy d s k).2 ∧ t.deep=(d:Int) + 1 ∧ t.size=s ∧ TGood most t)) ∧ Below w.heap.size w w'
set_option maxRecDepth 100000 in
set_option maxHeartbeats 16000000 in
theorem specSplit_val (cx cy d:Nat) (s most:Int) (hx:cx < 4294967296) (hy:cy < 4294967296) (hp:placeB cx cy d s=true) (a a':Option Addr) (n c c':Nat) (ys:List Int) (hl:ys.length ≤ 1048576) (hwell:wellB s n ys=true) (w:World) (hs:Sl w a' (ys.map intV)) :
   Calls Vp.prog 14 #[.agg #[.complex .f32 cx cy,.int .i64 d,.int .i64 s,.slice a n c,.slice a' ys.length c'],.int .i64 most] w (SplitV w cx cy d s most):=by
 obtain ⟨d',A,B,hd',hd,hA,hB,-,-,ha,hb⟩:=place_pts hx hy hp
 obtain rfl:d=d':=by omega
 obtain ⟨h1,h2,h3,h4⟩:=placeB_bd hp
 have HWB:=Lib.hid hwell
 clear hwell
 have R:=Box.new w #[.complex .f32 cx cy,.int .i64 d,.int .i64 s,.slice a n c,.slice a' ys.length c'] 29
 have HW:=Lib.hid (fun W (hW:Below w.heap.size w W) => specWell_is cx cy d s hx hy hp a a' n c c' ys hl W (hs.step hW))
 have HC:=Lib.hid (fun W => l7Corners_is cx cy d A B s hd hA hB (by omega) (by omega) (by omega) a a' n c ys.length c' W)
 have HQ:=(quart_is (s:=s) hd hA hB (by omega) (by omega) (by omega)).2.2.2.2.2
 have HQ2:Hid (∀ k,k < 4 → (quart cx cy d s k).1 < 4294967296 ∧ (quart cx cy d s k).2 < 4294967296):=fun k hk => by
   obtain ⟨u,v,-,-,p1,p2⟩:=HQ k hk
   exact ⟨pt_lt p1,pt_lt p2⟩
 clear HQ hs hp hA hB hd'
 replace R:=R.alloc (.cells #[] 29)
 have HR:=Lib.hid R
 obtain ⟨r0,r1,r2,r3,r4⟩:=R.cells5
 have hwl:=R.lt
 clear R
 go_enter Vp.func14,Tryz.ntmps14
 go_wp2_with fail
 refine (HW.out _ HR.out.old).mono ?_
 rintro e w1 ⟨rfl,hd1⟩
 cases hwb:wellB s n ys with
 | false =>
   have:=HWB.out
   rw [hwb] at this
   cases this
 | true =>
   have HR1:=Lib.hid (HR.out.step hd1)
   have HO1:Hid (w1.ownsRow (w.heap.size + 1) 29 5 (.slice (some ⟨w.heap.size + 1,0,none⟩) 0 0) 0 []):=by
     have h0:=World.ownsRow_lit (e:=29) (size:=5) (base:=w.heap.size + 1) (w.alloc (.cells #[.complex .f32 cx cy,.int .i64 d,.int .i64 s,.slice a n c,.slice a' ys.length c'] 29)) #[] 0 (by simp) (by decide) rfl
     rw [World.size_alloc] at h0
     exact ownsRow_step h0 hd1
   obtain ⟨r0,r1,r2,r3,r4⟩:=HR1.out.cells5
   have hsz1:w.heap.size + 1 < w1.heap.size:=by have:=hd1.size; simp at this; omega
   clear hd1 hwb
   go_wp2_with fail
   refine (HC.out _).mono ?_
   rintro e w2 ⟨qb,rfl,hqb,hX⟩
   have HX:=Lib.hid (hX.up HR1.out.old)
   have HR2:=Lib.hid (HR1.out.step hX.old)
   have HT2:Hid (TList (w.heap.size + 1) [] (.slice (some ⟨w.heap.size + 1,0,none⟩) 0 0) w2):=⟨ownsRow_step HO1.out hX.old,fun t ht => by cases ht⟩
   have hqw:w.heap.size + 1 < qb:=by omega
   clear hX HR1 HO1 r0 r1 r2 r3 r4
   obtain ⟨iT,hiT,hzT0,hzT1,hzT2⟩:=info_parts infoT
   go_wp2
   go_loopw [6,8] (fun o i wr => ∃ (k g cap:Nat) (L:List TRec),k ≤ 4 ∧ i=.int .i64 k ∧ o=.slice (some ⟨g,0,none⟩) k cap ∧ Hid (L.length=k) ∧ Hid (Box w w.heap.size #[.complex .f32 cx cy,.int .i64 d,.int .i64 s,.slice a n c,.slice a' ys.length c'] 29 wr) ∧ Hid (Box w qb (quartC cx cy d s) 23 wr) ∧ Hid (TList (w.heap.size + 1) L (.slice (some ⟨g,0,none⟩) k cap) wr) ∧ Hid (∀ j t,L[j]?=some t → t.cx=(quart cx cy d s j).1 ∧ t.cy=(quart cx cy d s j).2 ∧ t.deep=(d:Int) + 1 ∧ t.size=s ∧ TGood most t)) (fun _ i _ => (4 - intOf i).toNat)
   case atStart => exact ⟨0,w.heap.size + 1,0,[],by omega,rfl,rfl,rfl,HR2.out,HX.out,HT2.out,fun j t h => by simp at h⟩
   case round =>
     clear HR2 HX HT2
     obtain ⟨k,g,cap,L,hk,rfl,rfl,HL,HR,HX,HT,HQL⟩:=hrel
     by_cases hlt:k < 4
     · have x0:=HX.out.cell k _ (quartC_at cx cy d s k hlt)
       obtain ⟨r0,r1,r2,r3,r4⟩:=HR.out.cells5
       have hq2:=HQ2.out k hlt
       have e1:IntKind.i64.wrap ((d:Int) + 1)=(d:Int) + 1:=IntWalk.i64_in _ (by omega)
       have HF:Hid (∀ W,Below wr.heap.size wr W → Box w w.heap.size #[.complex .f32 cx cy,.int .i64 d,.int .i64 s,.slice a n c,.slice a' ys.length c'] 29 W ∧ Box w qb (quartC cx cy d s) 23 W ∧ TList (w.heap.size + 1) L (.slice (some ⟨g,0,none⟩) k cap) W):=fun W h => ⟨HR.out.step h,HX.out.step h,HT.out.step h⟩
       have hszw:=HR.out.lt
       have hqx:=HX.out.lt
       generalize hpx:(quart cx cy d s k).1=px at *
       generalize hpy:(quart cx cy d s k).2=py at *
       have HPX:=Lib.hid hpx
       have HPY:=Lib.hid hpy
       clear hpx hpy
       go_upto_region 8 with fail
       go_cut [9,10] from 18 to 44 (fun p o wx => ∃ (pb x y:Nat) (dd ss:Int) (a1:Option Addr) (n1 c1:Nat) (a2:Option Addr) (n2 c2:Nat) (ok:Bool),p=.pointer (some ⟨pb,0,none⟩) ∧ o=.bool ok ∧ CutQ wr px py ((d:Int) + 1) s most pb x y dd ss a1 n1 c1 a2 n2 c2 ok wx)
       case first =>
         go_region_with (first
           | (go_at_call 29
              refine (specMakeC px py _ _ _ hq2.1 hq2.2 _).mono ?_
              rintro e w5 ⟨⟨x,y,dd,ss,a1,n1,c1,a2,n2,c2,ok,rfl,hM⟩,hb5⟩
              first
                | (have Z:=(Box.new wr.drew #[.complex .f32 0 0,.int .i64 0,.int .i64 0,.slice none 0 0,.slice none 0 0] 29).step hb5
                   have z0:w5.cell? ⟨wr.heap.size,0,none⟩=some (.complex .f32 0 0):=Z.cell 0 _ rfl
                   have z1:w5.cell? ⟨wr.heap.size,1,none⟩=some (.int .i64 0):=Z.cell 1 _ rfl
                   have z2:w5.cell? ⟨wr.heap.size,2,none⟩=some (.int .i64 0):=Z.cell 2 _ rfl
                   have z3:w5.cell? ⟨wr.heap.size,3,none⟩=some (.slice none 0 0):=Z.cell 3 _ rfl
                   have z4:w5.cell? ⟨wr.heap.size,4,none⟩=some (.slice none 0 0):=Z.cell 4 _ rfl
                   have f0:w5.frozen? ⟨wr.heap.size,0,none⟩=false:=Z.frozen 0
                   have f1:w5.frozen? ⟨wr.heap.size,1,none⟩=false:=Z.frozen 1
                   have f2:w5.frozen? ⟨wr.heap.size,2,none⟩=false:=Z.frozen 2
                   have f3:w5.frozen? ⟨wr.heap.size,3,none⟩=false:=Z.frozen 3
                   have f4:w5.frozen? ⟨wr.heap.size,4,none⟩=false:=Z.frozen 4
                   clear Z)
                | skip))
         all_goals
           go_wp2_with fail
           go_meet
           first
             | (with_reducible exact ⟨w5.heap.size,x,y,dd,ss,a1,n1,c1,a2,n2,c2,ok,rfl,rfl,cutA2 hM hb5⟩)
             | (with_reducible exact ⟨wr.heap.size,x,y,dd,ss,a1,n1,c1,a2,n2,c2,ok,rfl,rfl,cutB2 hM hb5⟩)
       case rest =>
         obtain ⟨pb,x,y,dd,ss,a1,n1,c1,a2,n2,c2,ok,rfl,rfl,hcutp⟩:=hcut
         obtain ⟨hbc,hpb,hbx,hres,hno⟩:=hcutp
         have HNO:=Lib.hid hno
         clear hno
         obtain ⟨R3,X3,T3⟩:=HF.out _ hbc
         have hres2:=Lib.hid hres
         have hsc:=R3.lt
         obtain ⟨p0,p1,p2,p3,p4⟩:=hbx.cells5
         have hpl:=hbx.lt
         have HR3:=Lib.hid R3
         have HX3:=Lib.hid X3
         have HT3:=Lib.hid T3
         clear hres hbc hbx R3 X3 T3 HF HR HX HT r0 r1 r2 r3 r4 x0 e1
         cases ok with
         | false =>
           have HB:=Lib.hid (HR3.out.old.alloc (by omega) (.cells #[] 29))
           go_wp2
           go_ret2
           exact ⟨.inl ⟨_,_,rfl,k,hlt,by rw [HPX.out,HPY.out]; exact HNO.out (by first | rfl | trivial)⟩,HB.out⟩
         | true =>
           obtain ⟨t,e1,e2,e3,e4,e5,ht,hgood⟩:=hres2.out rfl
           have HGD:=Lib.hid hgood
           clear hgood
           have HTo:=Lib.hid ht
           have HC5:Hid ([.complex .f32 x y,.int .i64 dd,.int .i64 ss,.slice a1 n1 c1,.slice a2 n2 c2]=t.cells):=by
             injection e5 with e5
             have:=congrArg Array.toList e5
             exact this
           have HE:Hid (t.cx=(quart cx cy d s k).1 ∧ t.cy=(quart cx cy d s k).2 ∧ t.deep=(d:Int) + 1 ∧ t.size=s ∧ TGood most t):=by
             refine ⟨e1.trans HPX.out.symm,e2.trans HPY.out.symm,e3,e4,HGD.out⟩
           have hbs:w.heap.size + 1 ≤ wc.heap.size:=by omega
           have HL2:Hid (∀ j t',(L ++ [t])[j]?=some t' → t'.cx=(quart cx cy d s j).1 ∧ t'.cy=(quart cx cy d s j).2 ∧ t'.deep=(d:Int) + 1 ∧ t'.size=s ∧ TGood most t'):=fun j t' hj => by
             have hLk:=HL.out
             by_cases hjk:j < L.length
             · rw [List.getElem?_append_left hjk] at hj
               exact HQL.out j t' hj
             · rw [List.getElem?_append_right (by omega)] at hj
               by_cases h0:j - L.length=0
               · rw [h0] at hj
                 injection hj with hj
                 obtain rfl:j=k:=by omega
                 rw [← hj]; exact HE.out
               · rw [List.getElem?_eq_none (by simp; omega)] at hj; cases hj
           clear e1 e2 e3 e4 e5 ht hres2
           go_wp2_with (at_builtin; refine wpList_append_lies _ rfl _ _ _ rfl (w.heap.size + 1) 29 iT _ 5 72 (Vp.und Tryz.underlying37) hiT hzT0 hzT1 hzT2 rfl (by omega) _ k (cellsL L) rfl (by rw [← HL.out]; have:=(HT3.out.row.alloc (.cells #[.complex .f32 x y,.int .i64 dd,.int .i64 ss,.slice a1 n1 c1,.slice a2 n2 c2] 29)); rw [HL.out] at this ⊢; exact this) ⟨wc.heap.size,0,none⟩ 1 1 [.complex .f32 x y,.int .i64 dd,.int .i64 ss,.slice a1 n1 c1,.slice a2 n2 c2] rfl rfl (World.news_of_block (cs:=#[.complex .f32 x y,.int .i64 dd,.int .i64 ss,.slice a1 n1 c1,.slice a2 n2 c2]) (t:=29) (fr:=(0,0)) (heap_alloc_new wc _)) (by intro u hu; simp only [List.mem_cons,List.not_mem_nil,or_false] at hu; rcases hu with rfl | rfl | rfl | rfl | rfl <;> rfl) (by omega) (by unfold maxLen; omega) (by omega) (by simp; omega) (wc.heap.size + 1) (by simp) ?_; intro g8 c8 w8 hown hgrow _ _)
           have T9:=HT3.out.step ((Below.refl _ _).alloc (Nat.le_refl _) (.cells #[.complex .f32 x y,.int .i64 dd,.int .i64 ss,.slice a1 n1 c1,.slice a2 n2 c2] 29))
           have R9:=HR3.out.alloc (.cells #[.complex .f32 x y,.int .i64 dd,.int .i64 ss,.slice a1 n1 c1,.slice a2 n2 c2] 29)
           have X9:=HX3.out.alloc (.cells #[.complex .f32 x y,.int .i64 dd,.int .i64 ss,.slice a1 n1 c1,.slice a2 n2 c2] 29)
           have t9:=HTo.out.step ((Below.refl _ _).alloc (Nat.le_refl _) (.cells #[.complex .f32 x y,.int .i64 dd,.int .i64 ss,.slice a1 n1 c1,.slice a2 n2 c2] 29))
           have hg:w.heap.size + 1 ≤ g:=own_ge T9.row
           have hrow:∀ j,(some g:Option Nat)=some j → w.heap.size ≤ j:=fun j hj => by injection hj with hj; omega
           have HR8:=Lib.hid (R9.grown (row:=some g) hgrow (fun e => by injection e with e; omega) hrow)
           have HX8:=Lib.hid (X9.grown (row:=some g) hgrow (ownsRow_ne T9.row X9.blk (by decide)) hrow)
           have HT8:Hid (TList (w.heap.size + 1) (L ++ [t]) (.slice (some ⟨g8,0,none⟩) (k + 1) c8) w8):=by
             refine ⟨?_,fun t' ht' => ?_⟩
             · rw [List.length_append,HL.out,cellsL_snoc,← HC5.out]
               exact hown
             · rcases List.mem_append.1 ht' with h | h
               · exact (T9.own t' h).grown T9.row hgrow
               · rw [List.mem_singleton] at h
                 rw [h]
                 exact (t9.grown T9.row hgrow).mono (by omega)
           clear T9 R9 X9 t9 hown hgrow
           go_roundw
           case rel => exact ⟨k + 1,g8,c8,L ++ [t],by omega,by go_num,rfl,by show (L ++ [t]).length=k + 1; rw [List.length_append,HL.out]; rfl,HR8,HX8,HT8,HL2⟩
           case measure => simp [intOf]; omega
     · have HT4:Hid (TList w.heap.size L (.slice (some ⟨g,0,none⟩) k cap) wr):=HT.out.mono (by omega)
       go_wp2
       go_ret2
       exact ⟨.inr ⟨L,_,rfl,HT4.out,by have:=HL.out; omega,HQL.out⟩,HR.out.old⟩
end Go.Proofs.YtokbalggdhippaaGreat
end

section
namespace Go.Proofs.YtokbalggdhippaaGreat
open Go.RowKit Flo
attribute [local go_sem ↓] Go.wp_at_zero Go.wp_at_succ
attribute [local go_sem] run_store_float run_store_complex
set_option maxRecDepth 100000 in
theorem index_quart (cx cy d:Nat) (s:Int) (k:Nat) (h:k < 4) (w:World):(Instr.index 72 (.agg (quartC cx cy d s)) (.int .i64 k)).run Vp.prog w=.ok (.complex .f32 (quart cx cy d s k).1 (quart cx cy d s k).2) w:=by
 rcases (by omega:k=0 ∨ k=1 ∨ k=2 ∨ k=3) with rfl | rfl | rfl | rfl <;> kernel_rfl
set_option maxRecDepth 100000 in
set_option maxHeartbeats 16000000 in
theorem implSplit_val (cx cy d:Nat) (s most:Int) (hx:cx < 4294967296) (hy:cy < 4294967296) (hp:placeB cx cy d s=true) (a a':Option Addr) (n c c':Nat) (ys:List Int) (hl:ys.length ≤ 1048576) (hwell:wellB s n ys=true) (w:World) (hs:Sl w a' (ys.map intV)) :
   Calls Vp.prog 13 #[.agg #[.complex .f32 cx cy,.int .i64 d,.int .i64 s,.slice a n c,.slice a' ys.length c'],.int .i64 most] w (SplitV w cx cy d s most):=by
 obtain ⟨d',A,B,hd',hd,hA,hB,-,-,ha,hb⟩:=place_pts hx hy hp
 obtain rfl:d=d':=by omega
 obtain ⟨h1,h2,h3,h4⟩:=placeB_bd hp
 have HW:=Lib.hid (fun W (hW:Below w.heap.size w W) => implWell_is cx cy d s hx hy hp a a' n c c' ys hl W (hs.step hW))
 rw [hwell] at HW
 have HQ:=(quart_is (s:=s) hd hA hB (by omega) (by omega) (by omega)).2.2.2.2.2
 have HQ2:Hid (∀ k,k < 4 → (quart cx cy d s k).1 < 4294967296 ∧ (quart cx cy d s k).2 < 4294967296):=fun k hk => by
   obtain ⟨u,v,-,-,p1,p2⟩:=HQ k hk
   exact ⟨pt_lt p1,pt_lt p2⟩
 have HC:=Lib.hid (fun W => quarterCorners_ok cx cy d s hd (quart_ok hd (pt_up hd hA) (pt_up hd hB) (by omega) (by omega) (by omega)) W)
 have R:=Box.new w #[.complex .f32 cx cy,.int .i64 d,.int .i64 s,.slice a n c,.slice a' ys.length c'] 29
 clear HQ hs hp hA hB hd' hwell
 have HR:=Lib.hid R
 obtain ⟨r0,r1,r2,r3,r4⟩:=R.cells5
 have hwl:=R.lt
 clear R
 obtain ⟨iT,hiT,hzT0,hzT1,hzT2⟩:=info_parts infoT
 obtain ⟨cT,hcT,hT⟩:=run_make_0 (P:=Vp.prog) 37 29 iT _ (Vp.und Tryz.underlying37) hiT hzT0 4 (by omega) (by omega)
 have hT4:∀ w:World,(Instr.makeSlice 37 (.int .i64 0) (.int .i64 4)).run Vp.prog w=.ok (.slice (some ⟨w.heap.size,0,none⟩) 0 4) (w.alloc (.cells cT 29)):=hT
 have hcT2:cT.size=4 * 5:=by rw [hcT,hzT1]
 go_enter Vp.func13,Tryz.ntmps13
 go_wp2_with fail
 refine (HW.out _ HR.out.old).mono ?_
 rintro e w1 ⟨rfl,hd1⟩
 have HR1:=Lib.hid ((HR.out.step hd1).alloc (.cells cT 29))
 have hsz1:w.heap.size < w1.heap.size:=(HR.out.step hd1).lt
 have HT1:Hid (TList (w.heap.size + 1) [] (.slice (some ⟨w1.heap.size,0,none⟩) 0 4) (w1.alloc (.cells cT 29))) :=
   ⟨⟨by simp [cellsL],.inr ⟨w1.heap.size,4,cT,rfl,hsz1,heap_alloc_new w1 _,by simp,by unfold maxLen; omega,hcT2,by simp [cellsL]⟩⟩,fun t ht => by cases ht⟩
 clear hd1 r0 r1 r2 r3 r4 HR HW
 obtain ⟨r0,r1,r2,r3,r4⟩:=HR1.out.cells5
 go_wp2_with fail
 refine (HC.out _).mono ?_
 rintro e w2 ⟨rfl,hd2⟩
 have HR2:=Lib.hid (HR1.out.step hd2)
 have HT2:=Lib.hid (HT1.out.step hd2)
 clear hd2 r0 r1 r2 r3 r4 HR1 HT1 HC hT hT4 hcT hcT2
 have HIX:=Lib.hid (index_quart cx cy d s)
 go_wp2
 generalize w1.heap.size=g0 at *
 go_loopw [6,23] (fun o i wr => ∃ (k g cap:Nat) (L:List TRec),k ≤ 4 ∧ i=.int .i64 k ∧ o=.slice (some ⟨g,0,none⟩) k cap ∧ Hid (L.length=k) ∧ Hid (Box w w.heap.size #[.complex .f32 cx cy,.int .i64 d,.int .i64 s,.slice a n c,.slice a' ys.length c'] 29 wr) ∧ Hid (TList (w.heap.size + 1) L (.slice (some ⟨g,0,none⟩) k cap) wr) ∧ Hid (∀ j t,L[j]?=some t → t.cx=(quart cx cy d s j).1 ∧ t.cy=(quart cx cy d s j).2 ∧ t.deep=(d:Int) + 1 ∧ t.size=s ∧ TGood most t)) (fun _ i _ => (4 - intOf i).toNat)
 case atStart => exact ⟨0,g0,4,[],by omega,rfl,rfl,rfl,HR2.out,HT2.out,fun j t h => by simp at h⟩
 case round =>
   clear HR2 HT2
   obtain ⟨k,g,cap,L,hk,rfl,rfl,HL,HR,HT,HQL⟩:=hrel
   obtain ⟨wo,rfl⟩:∃ wo,wo=wr:=⟨_,rfl⟩
   by_cases hlt:k < 4
   · have hix:=HIX.out k hlt
     obtain ⟨r0,r1,r2,r3,r4⟩:=HR.out.cells5
     have hq2:=HQ2.out k hlt
     have e1:IntKind.i64.wrap ((d:Int) + 1)=(d:Int) + 1:=IntWalk.i64_in _ (by omega)
     have hszw:=HR.out.lt
     generalize hpx:(quart cx cy d s k).1=px at *
     generalize hpy:(quart cx cy d s k).2=py at *
     have HPX:=Lib.hid hpx
     have HPY:=Lib.hid hpy
     clear hpx hpy
     go_wp2_with fail
     refine (implMakeC px py _ _ _ hq2.1 hq2.2 _).mono ?_
     rintro e w5 ⟨⟨x,y,dd,ss,a1,n1,c1,a2,n2,c2,ok,rfl,hM⟩,hb5⟩
     clear r0 r1 r2 r3 r4 hix e1
     have HB5:=Lib.hid hb5
     have HR5:=Lib.hid ((HR.out.step hb5).alloc (.cells #[.complex .f32 x y,.int .i64 dd,.int .i64 ss,.slice a1 n1 c1,.slice a2 n2 c2] 29))
     have HT5:=Lib.hid ((HT.out.step hb5).step ((Below.refl _ _).alloc (Nat.le_refl _) (.cells #[.complex .f32 x y,.int .i64 dd,.int .i64 ss,.slice a1 n1 c1,.slice a2 n2 c2] 29)))
     have hsz5:=hb5.size
     have Z:=Box.new w5 #[.complex .f32 x y,.int .i64 dd,.int .i64 ss,.slice a1 n1 c1,.slice a2 n2 c2] 29
     obtain ⟨p0,p1,p2,p3,p4⟩:=Z.cells5
     have HM:=Lib.hid hM
     clear hM hb5 Z
     cases ok with
     | false =>
       have HB:=Lib.hid (HR5.out.old.alloc (by simp; omega) (.cells #[] 29))
       have HNO:=Lib.hid (HM.out.1 rfl).1
       go_wp2
       go_ret2
       exact ⟨.inl ⟨_,_,rfl,k,hlt,by rw [HPX.out,HPY.out]; exact HNO.out⟩,HB.out⟩
     | true =>
       obtain ⟨t,e1,e2,e3,e4,e5,ht,hgood⟩:=HM.out.2 rfl
       have HTo:Hid (TOwn wo.heap.size t (w5.alloc (.cells #[.complex .f32 x y,.int .i64 dd,.int .i64 ss,.slice a1 n1 c1,.slice a2 n2 c2] 29))):=ht.step ((Below.refl _ _).alloc (Nat.le_refl _) _)
       have HC5:Hid ([.complex .f32 x y,.int .i64 dd,.int .i64 ss,.slice a1 n1 c1,.slice a2 n2 c2]=t.cells):=by
         injection e5 with e5
         have:=congrArg Array.toList e5
         exact this
       have HE:Hid (t.cx=(quart cx cy d s k).1 ∧ t.cy=(quart cx cy d s k).2 ∧ t.deep=(d:Int) + 1 ∧ t.size=s ∧ TGood most t):=by
         refine ⟨e1.trans HPX.out.symm,e2.trans HPY.out.symm,e3,e4,hgood⟩
       have hbs:w.heap.size + 1 ≤ w5.heap.size:=by omega
       have HL2:Hid (∀ j t',(L ++ [t])[j]?=some t' → t'.cx=(quart cx cy d s j).1 ∧ t'.cy=(quart cx cy d s j).2 ∧ t'.deep=(d:Int) + 1 ∧ t'.size=s ∧ TGood most t'):=fun j t' hj => by
         have hLk:=HL.out
         by_cases hjk:j < L.length
         · rw [List.getElem?_append_left hjk] at hj
           exact HQL.out j t' hj
         · rw [List.getElem?_append_right (by omega)] at hj
           by_cases h0:j - L.length=0
           · rw [h0] at hj
             injection hj with hj
             obtain rfl:j=k:=by omega
             rw [← hj]; exact HE.out
           · rw [List.getElem?_eq_none (by simp; omega)] at hj; cases hj
       clear e1 e2 e3 e4 e5 ht hgood HM
       go_wp2_with (at_builtin; go_must (refine wpList_append_lies _ rfl _ _ _ rfl (w.heap.size + 1) 29 iT _ 5 72 (Vp.und Tryz.underlying37) hiT hzT0 hzT1 hzT2 rfl (by omega) _ k (cellsL L) rfl (by rw [← HL.out]; have:=(HT5.out.row.alloc (.cells #[.complex .f32 x y,.int .i64 dd,.int .i64 ss,.slice a1 n1 c1,.slice a2 n2 c2] 29)); rw [HL.out] at this ⊢; exact this) ⟨w5.heap.size + 1,0,none⟩ 1 1 [.complex .f32 x y,.int .i64 dd,.int .i64 ss,.slice a1 n1 c1,.slice a2 n2 c2] rfl rfl (World.news_of_block (cs:=#[.complex .f32 x y,.int .i64 dd,.int .i64 ss,.slice a1 n1 c1,.slice a2 n2 c2]) (t:=29) (fr:=(0,0)) (by have:=heap_alloc_new (w5.alloc (.cells #[.complex .f32 x y,.int .i64 dd,.int .i64 ss,.slice a1 n1 c1,.slice a2 n2 c2] 29)) (.cells #[.complex .f32 x y,.int .i64 dd,.int .i64 ss,.slice a1 n1 c1,.slice a2 n2 c2] 29); rw [World.size_alloc] at this; exact this)) (by intro u hu; simp only [List.mem_cons,List.not_mem_nil,or_false] at hu; rcases hu with rfl | rfl | rfl | rfl | rfl <;> rfl) (by omega) (by unfold maxLen; omega) (by omega) (by simp; omega) (w5.heap.size + 1 + 1) (by simp) ?_); intro g8 c8 w8 hown hgrow _ _)
       have T9:=HT5.out.step ((Below.refl _ _).alloc (Nat.le_refl _) (.cells #[.complex .f32 x y,.int .i64 dd,.int .i64 ss,.slice a1 n1 c1,.slice a2 n2 c2] 29))
       have R9:=HR5.out.alloc (.cells #[.complex .f32 x y,.int .i64 dd,.int .i64 ss,.slice a1 n1 c1,.slice a2 n2 c2] 29)
       have t9:=HTo.out.step ((Below.refl _ _).alloc (Nat.le_refl _) (.cells #[.complex .f32 x y,.int .i64 dd,.int .i64 ss,.slice a1 n1 c1,.slice a2 n2 c2] 29))
       have hg:w.heap.size + 1 ≤ g:=own_ge T9.row
       have hrow:∀ j,(some g:Option Nat)=some j → w.heap.size ≤ j:=fun j hj => by injection hj with hj; omega
       have HR8:=Lib.hid (R9.grown (row:=some g) hgrow (fun e => by injection e with e; omega) hrow)
       have HT8:Hid (TList (w.heap.size + 1) (L ++ [t]) (.slice (some ⟨g8,0,none⟩) (k + 1) c8) w8):=by
         refine ⟨?_,fun t' ht' => ?_⟩
         · rw [List.length_append,HL.out,cellsL_snoc,← HC5.out]
           exact hown
         · rcases List.mem_append.1 ht' with h | h
           · exact (T9.own t' h).grown T9.row hgrow
           · rw [List.mem_singleton] at h
             rw [h]
             exact (t9.grown T9.row hgrow).mono (by omega)
       clear T9 R9 t9 hown hgrow
       go_roundw
       case rel => exact ⟨k + 1,g8,c8,L ++ [t],by omega,by go_num,rfl,by show (L ++ [t]).length=k + 1; rw [List.length_append,HL.out]; rfl,HR8,HT8,HL2⟩
       case measure => simp [intOf]; omega
   · have HT4:Hid (TList w.heap.size L (.slice (some ⟨g,0,none⟩) k cap) wo):=HT.out.mono (by omega)
     go_wp2
     go_ret2
     exact ⟨.inr ⟨L,_,rfl,HT4.out,by have:=HL.out; omega,HQL.out⟩,HR.out.old⟩
end Go.Proofs.YtokbalggdhippaaGreat
end
