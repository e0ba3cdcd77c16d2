/- Merged texts: MaI, MaJ, MaK, MaL. -/
import Derived.Test.YthhfljldbfgpcaaGreatDoorT41
set_option linter.all false
section
namespace Go.Proofs.YthhfljldbfgpcaaGreatDoor
open Go.RowKit Go.Conc Go.Proofs.YthhfljldbfgpcaaGreatDoor.Co Go.Proofs.YthhfljldbfgpcaaGreatDoor.Ok Go.Proofs.YthhfljldbfgpcaaGreatDoor.Lr Go.Proofs.YthhfljldbfgpcaaGreatDoor.Tl Go.Proofs.YthhfljldbfgpcaaGreatDoor.Bar
theorem tx_blind {w W:World} {rb ob cx cy d n cap N M gs gm:Nat} {xs:List Nat} {ys:List Int} (h:TX w rb ob cx cy d n cap N M gs gm xs ys W) (τ:Tape) (k:Nat):TX { w with tape:=τ,drawn:=k } rb ob cx cy d n cap N M gs gm xs ys { W with tape:=τ,drawn:=k } :=
 ⟨box_blind h.O τ k,box_blind h.R τ k,h.S,h.M,h.ne,h.hr,h.ho⟩
noncomputable def bM:Frame:=Go.Conc.base 5
noncomputable def tArgs (cx cy d n:Nat) (most:Int):Array Value:=#[.complex .f32 cx cy,.int .i64 d,.int .i64 n,.int .i64 most]
theorem tile_fn:∃ fn,Tryz.prog.funcs[5]?=some fn ∧ fn.body=some mBody ∧ fn.ntmps=71:=⟨_,Tryz.func5,by kernel_rfl,by kernel_rfl⟩
theorem enter_tile (args:Array Value):Frame.enter Tryz.prog 5 args .normal=bM.at ⟨args ++ Array.replicate (71 - args.size) undef,[]⟩ [.code mBody]:=by
 obtain ⟨fn,hf,hb,hn⟩:=tile_fn
 rw [enter_at args hf hb,hn]
 rfl
def V0 (W:World):World:={ W with heap:=W.heap.push (.cells #[] 0 (0,0)) }
theorem start_wr {W:World} (hN:Vp.prog.globals.size ≤ W.heap.size):WR (Xs W.heap.size fun _ => False) (fun _ _ => False) (V0 W) W :=
 { tape:=rfl,drawn:=rfl,os:=rfl,output:=rfl
   fn:=fun b b₁ b₂ h1 h2 => h1.elim
   inj:=fun b₁ b₂ b' h1 h2 => h1.elim
   glob:=fun g hg => by cases hg
   live:=fun b b' h hd _ => h.elim
   froz:=fun b b' h hd _ => h.elim
   dead:=fun b b' h _ => h.elim
   dlt:=fun b hb => by obtain rfl:b=W.heap.size:=hb; simp [V0]
   flt:=fun b hb => hb.elim
   low:=fun b b' h => h.elim
   nV:=by unfold V0; rw [Array.size_push]; exact Nat.le_succ_of_le hN
   nW:=hN }
theorem cutM_any (D F:Nat → Prop) (s:Code) (hs:bodyOf Tryz.prog 5=s):CdR (cx Vp.prog phs [] (Cuts Tryz.prog) D F) (cut [9,10,12] s) s:=by
 have h:=cutM_ok
 rw [hs] at h
 exact cut_cx [9,10,12] 5 (by simp [cuts]) s hs h
theorem cutM_is (p:Nat) (F:Nat → Prop):CdR (Xs p F) (cut [9,10,12] mBody) mBody:=cutM_any _ _ _ mBody_is
section
variable {cx cy d n:Nat} {most:Int} {a:Act} (hs:a.tmps.size=71) (h0:a.tmps[0]?=some (.complex .f32 cx cy)) (h1:a.tmps[1]?=some (.int .i64 d)) (h2:a.tmps[2]?=some (.int .i64 n)) (h3:a.tmps[3]?=some (.int .i64 most)) (hd:a.defers=[])
include hs h0 h1 h2 h3 hd
theorem made_is {ex ey:Nat} (hn:n ≤ 8) (h:∀ W,Calls Vp.prog 19 #[.complex .f32 cx cy,.int .i64 d,.int .i64 n] W fun e w' => e=.returned (.bool true) ∧ W=w') (hp:∀ W,Calls Vp.prog 20 #[.complex .f32 cx cy,.int .i64 d,.int .i64 n,.int .i64 n] W fun e w' => e=.returned (.complex .f32 ex ey) ∧ W=w')
   (hf1:(FloatKind.f32.format.order ex 1090519040 == some .gt)=false) (hf2:(FloatKind.f32.format.order ey 1090519040 == some .gt)=false) (w:World):HW Vp.prog [.code (cut [9,10,12] mBody)] (HMade cx cy d n most w) a w:=by
 obtain ⟨t,ds⟩:=a
 dsimp only at hs h0 h1 h2 h3 hd
 obtain ⟨y0,y1,y2,y3,y4,y5,y6,y7,y8,y9,y10,y11,y12,y13,y14,y15,y16,y17,y18,y19,y20,y21,y22,y23,y24,y25,y26,y27,y28,y29,y30,y31,y32,y33,y34,y35,y36,y37,y38,y39,y40,y41,y42,y43,y44,y45,y46,y47,y48,y49,y50,y51,y52,y53,y54,y55,y56,y57,y58,y59,y60,y61,y62,y63,y64,y65,y66,y67,y68,y69,y70,rfl⟩:=arr71 t hs
 cases h0; cases h1; cases h2; cases h3; subst hd
 apply hm_made hn h hp hf1 hf2
end
def PMade (W0:World) (cx cy d n:Nat) (most:Int) (L:Nat → Prop) (fr:Frame) (cs:List Frame) (W:World):Prop :=
 ∃ (B:Lk) (V w:World) (b':Frame) (a a':Act) (k':List Item) (c:Nat),cs=[] ∧ fr=b'.at (a'.put (some 48) (.chan (some c))) (.inRegion ops9 [1] :: k') ∧ WR (Xs W0.heap.size fun _ => False) B V W ∧ AR (Xs W0.heap.size fun _ => False) B a.tmps a'.tmps ∧ a'.defers=[] ∧
   TdR (Xs W0.heap.size fun _ => False) B [.code (.seq (.refuse "10") mF)] k' ∧ b'.kind=bM.kind ∧ b'.fn=bM.fn ∧ w.heap=(V0 W0).heap ∧ HMade cx cy d n most w [.code (.refuse "9"),.code (.seq (.refuse "10") mF)] a V ∧ L=Hot (Xs W0.heap.size fun _ => False) B ∧
   (∀ x y,B x y → W0.heap.size + 1 ≤ x ∧ W0.heap.size ≤ y ∧ y ≠ c) ∧ W.heap[c]?=some (.chan 0 #[] false 0 0 false) ∧ W0.heap.size ≤ c
theorem main_made {cx cy d n:Nat} {most:Int} {ex ey:Nat} (hn:n ≤ 8) (h:∀ W,Calls Vp.prog 19 #[.complex .f32 cx cy,.int .i64 d,.int .i64 n] W fun e w' => e=.returned (.bool true) ∧ W=w') (hp:∀ W,Calls Vp.prog 20 #[.complex .f32 cx cy,.int .i64 d,.int .i64 n,.int .i64 n] W fun e w' => e=.returned (.complex .f32 ex ey) ∧ W=w')
   (hf1:(FloatKind.f32.format.order ex 1090519040 == some .gt)=false) (hf2:(FloatKind.f32.format.order ey 1090519040 == some .gt)=false) {W0:World} (hN:Vp.prog.globals.size ≤ W0.heap.size) {base:List Frame} :
   Co Tryz.prog true base (fun _ => False) (PMade W0 cx cy d n most) (fun _ => False) (Frame.enter Tryz.prog 5 (tArgs cx cy d n most) .normal) [] W0:=by
 rw [enter_tile]
 generalize hT:tArgs cx cy d n most ++ Array.replicate (71 - (tArgs cx cy d n most).size) undef=T
 have hTs:T.size=71:=by rw [← hT]; simp [tArgs]
 have hT0:T[0]?=some (.complex .f32 cx cy):=by rw [← hT]; exact app_get rfl _
 have hT1:T[1]?=some (.int .i64 d):=by rw [← hT]; exact app_get rfl _
 have hT2:T[2]?=some (.int .i64 n):=by rw [← hT]; exact app_get rfl _
 have hT3:T[3]?=some (.int .i64 most):=by rw [← hT]; exact app_get rfl _
 have hTR:AR (Xs W0.heap.size fun _ => False) (fun _ _ => False) T T:=by
   rw [← hT]
   refine AR.append ⟨rfl,fun i v v' h1 h2 => ?_⟩ (AR.replicate _ undefR)
   rw [h1] at h2
   cases h2
   match i with
   | 0 => cases h1; exact .complex _ _ _
   | 1 => cases h1; exact .int _ _
   | 2 => cases h1; exact .int _ _
   | 3 => cases h1; exact .int _ _
   | i + 4 => cases h1
 have hh:Hot (Xs W0.heap.size fun _ => False) (fun _ _ => False)=fun _ => False:=by
   funext x; apply propext; exact ⟨fun ⟨b,h1,_⟩ => h1,fun h => h.elim⟩
 have st:=co_of_hw (m:=true) (base:=base) (whole_s W0.heap.size fun _ => False) cx_noT (H:=fun t a V => ∃ w,w.heap=(V0 W0).heap ∧ HMade cx cy d n most w t a V) (b:=bM) (a:=⟨T,[]⟩) (s:=[.code (cut [9,10,12] mBody)])
   (fun t a V τ k h => by
     obtain ⟨w,e,rb,ob,gs,gm,g1,g2,g3,g4,g5,g6,g7,g8,g9,g10⟩:=h
     exact ⟨{ w with tape:=τ,drawn:=k },e,rb,ob,gs,gm,g1,g2,g3,g4,g5,g6,g7,g8,g9,tx_blind g10 τ k⟩)
   (start_wr hN) (fr':=bM.at ⟨T,[]⟩ [.code mBody]) (fr_build hTR .nil (.cons (.code (cutM_is _ _)) .nil) rfl rfl)
   (fun τ k => (made_is (a:=⟨T,[]⟩) hTs hT0 hT1 hT2 hT3 rfl hn h hp hf1 hf2 { V0 W0 with tape:=τ,drawn:=k }).mono fun t a V h => ⟨_,rfl,h⟩)
 rw [hh,ice_none] at st
 refine st.bind ?_
 rintro L fr cs W1 ⟨B,x,τ,k,hg,⟨hxc,t,a1,hxf,w,hwe,hH⟩,hw,hf,hc,rfl,hn1,hm1⟩
 rw [hxc] at hc
 rw [hxf] at hf
 cases hc
 have hbl:∃ w:World,w.heap=(V0 W0).heap ∧ HMade cx cy d n most w t a1 (x.at τ k).V:=by
   obtain ⟨rb,ob,gs,gm,g1,g2,g3,g4,g5,g6,g7,g8,g9,g10⟩:=hH
   exact ⟨{ w with tape:=τ,drawn:=k },hwe,rb,ob,gs,gm,g1,g2,g3,g4,g5,g6,g7,g8,g9,tx_blind g10 τ k⟩
 clear hH hwe
 obtain ⟨w,hwe,hH⟩:=hbl
 generalize (x.at τ k).V=V at hw hH
 have et:t=[.code (.refuse "9"),.code (.seq (.refuse "10") mF)]:=by obtain ⟨_,_,_,_,h,_⟩:=hH; exact h
 have ed:a1.defers=[]:=by obtain ⟨_,_,_,_,_,_,h,_⟩:=hH; exact h
 subst et
 obtain ⟨e1,har,hds,htd,hk,hfn⟩:=fr_parts hf
 obtain ⟨d9,k',etd,hd9,hk'⟩:=td_refuse htd (by decide)
 obtain rfl:=cuts9 hd9
 rw [ed] at hds
 have hfd:fr.defers=[]:=by generalize fr.defers=q at hds; cases hds; rfl
 rw [etd,hfd] at e1
 rw [e1]
 have hke:fr.kind ≠ .early:=by rw [hk]; simp [bM,Go.Conc.base]
 have hlt:∀ b,Hot (Xs W0.heap.size fun _ => False) B b → b < W1.heap.size:=WH.hot ⟨V,rfl,hw⟩
 refine Co.region hlt fun W2 hr2 => ?_
 rw [size9]
 have hlt2:=lt_rely hlt hr2
 refine .go (fun W3 => fr.at (Act.put ⟨fr.tmps,[]⟩ (some 48) (.chan (some W3.heap.size))) (.inRegion ops9 [1] :: k')) (fun _ => []) (fun W3 => W3.alloc (.chan 0 #[] false 0 0 false)) (fun _ => #[]) (fun _ => Hot (Xs W0.heap.size fun _ => False) B) (fun W3 hr3 => ⟨step_make hke,?_⟩) fun W3 hr3 => .stop ?_
 · have hlt3:=lt_rely hlt2 hr3
   refine ⟨fun _ h => h,fun _ h => .inl h,fun b hb => by simpa using Nat.lt_succ_of_lt (hlt3 b hb),by simp,fun b hb _ => ?_,rfl,⟨rfl,rfl⟩,fun e he => by simp at he⟩
   show (W3.heap.push _)[b]?=_
   rw [Array.getElem?_push,if_neg (by omega)]
 · have hr13:Rely (Hot (Xs W0.heap.size fun _ => False) B) (fun _ => False) W1 W3:=rely_trans hr2 hr3
   have hra:Rely (Hot (Xs W0.heap.size fun _ => False) B) (fun _ => False) W1 (W3.alloc (.chan 0 #[] false 0 0 false)):=by
     refine ⟨Nat.le_trans hr13.1 (by simp),fun b hb => ?_,hr13.2.2.1,hr13.2.2.2⟩
     have hb':b < W3.heap.size:=by
       rcases hb with hb | hb
       · exact lt_rely hlt hr13 b hb
       · exact hb.elim
     show (W3.heap.push _)[b]?=_
     rw [Array.getElem?_push,if_neg (by omega)]
     exact hr13.2.1 b hb
   have hra:Rely (Hot (Xs W0.heap.size fun _ => False) B) (Ice (Xs W0.heap.size fun _ => False) B) W1 (W3.alloc (.chan 0 #[] false 0 0 false)):=by
     rw [ice_none]
     exact hra
   have hsz:W0.heap.size ≤ W3.heap.size:=Nat.le_trans hm1 hr13.1
   refine ⟨B,{ V with tape:=W3.tape,drawn:=W3.drawn },{ w with tape:=W3.tape,drawn:=W3.drawn },fr,a1,⟨fr.tmps,[]⟩,k',W3.heap.size,rfl,rfl,wr_rely hw hra,har,rfl,hk',hk,hfn,hwe,?_,rfl,fun x y hxy => ?_,?_,hsz⟩
   · obtain ⟨rb,ob,gs,gm,g1,g2,g3,g4,g5,g6,g7,g8,g9,g10⟩:=hH
     exact ⟨rb,ob,gs,gm,g1,g2,g3,g4,g5,g6,g7,g8,g9,tx_blind g10 _ _⟩
   · obtain ⟨h1,h2⟩:=(hg.2 x y hxy).resolve_left id
     refine ⟨by simpa [V0] using h1,h2,?_⟩
     have:=Nat.lt_of_lt_of_le (hw.ltW hxy) hr13.1
     omega
   · show (W3.heap.push _)[W3.heap.size]?=_
     simp
end Go.Proofs.YthhfljldbfgpcaaGreatDoor
end

section
namespace Go.Proofs.YthhfljldbfgpcaaGreatDoor
open Go.RowKit Go.Conc Go.Proofs.YthhfljldbfgpcaaGreatDoor.Co Go.Proofs.YthhfljldbfgpcaaGreatDoor.Ok Go.Proofs.YthhfljldbfgpcaaGreatDoor.Lr Go.Proofs.YthhfljldbfgpcaaGreatDoor.Tl Go.Proofs.YthhfljldbfgpcaaGreatDoor.Bar
theorem aloof_low {t:Trace} {B c:Nat} (hs:∀ op ∈ t,op.act.low B) (hc:B ≤ c):∀ i x,touchAt t i=some x → x.loc ≠ .obj c:=by
 intro i a ha hla
 obtain ⟨x,hx,hxa⟩:=touch_of ha
 have hlow:=hs x (Array.mem_of_getElem? hx)
 obtain ⟨loc,wr,kd⟩:=a
 have hlo:loc.low B:=by
   generalize x.act=act at hlow hxa
   cases act with
   | access e => cases hxa; exact hlow
   | mark m => cases m <;> first | (cases hxa; done) | (cases hxa; exact hlow)
   | _ => cases hxa
 dsimp only at hla
 subst hla
 have:c < B:=hlo
 omega
theorem ev_self {a:Act} {d:Nat} {v:Value} (h:d < a.tmps.size):(a.put (some d) v).eval (.tmp d)=v:=by simp [Act.eval,Act.put,Array.getD_eq_getD_getElem?,h]
theorem ev_ne {a:Act} {d j:Nat} {v:Value} (h:d ≠ j):(a.put (some d) v).eval (.tmp j)=a.eval (.tmp j):=by simp [Act.eval,Act.put,Array.getD_eq_getD_getElem?,Array.getElem?_setIfInBounds,h]
theorem ev_at {a:Act} {j:Nat} {v:Value} (h:a.tmps[j]?=some v):a.eval (.tmp j)=v:=by simp [Act.eval,Array.getD_eq_getD_getElem?,h]
def put7 (ch v0 v1 v2 v3:Value) (a:Act):Act:=((((((a.put (some 48) ch).put (some 12) ch).put (some 49) ch).put (some 50) v0).put (some 51) v1).put (some 52) v2).put (some 53) v3
theorem put7_size {ch v0 v1 v2 v3:Value} {a:Act}:(put7 ch v0 v1 v2 v3 a).tmps.size=a.tmps.size:=by simp [put7,put_size]
theorem put7_at {ch v0 v1 v2 v3:Value} {a:Act} {j:Nat} (h:j ≠ 12 ∧ (j < 48 ∨ 53 < j)):(put7 ch v0 v1 v2 v3 a).tmps[j]?=a.tmps[j]?:=by
 unfold put7
 rw [put_get (by omega),put_get (by omega),put_get (by omega),put_get (by omega),put_get (by omega),put_get (by omega),put_get (by omega)]
theorem put7_12 {ch v0 v1 v2 v3:Value} {a:Act} (h:a.tmps.size=71):(put7 ch v0 v1 v2 v3 a).tmps[12]?=some ch:=by
 unfold put7
 rw [put_get (by decide),put_get (by decide),put_get (by decide),put_get (by decide),put_get (by decide)]
 exact Array.getElem?_setIfInBounds_self_of_lt (by rw [put_size]; omega)
theorem put7_defers {ch v0 v1 v2 v3:Value} {a:Act}:(put7 ch v0 v1 v2 v3 a).defers=a.defers:=by simp only [put7,Act.put]
theorem put7_ev {ch v0 v1 v2 v3:Value} {a:Act} (h:a.tmps.size=71):(put7 ch v0 v1 v2 v3 a).eval (.tmp 49)=ch ∧ (put7 ch v0 v1 v2 v3 a).eval (.tmp 50)=v0 ∧ (put7 ch v0 v1 v2 v3 a).eval (.tmp 51)=v1 ∧ (put7 ch v0 v1 v2 v3 a).eval (.tmp 52)=v2 ∧ (put7 ch v0 v1 v2 v3 a).eval (.tmp 53)=v3:=by
 have hn:∀ (a:Act) (d j:Nat) (v x:Value),d ≠ j → a.eval (.tmp j)=x → (a.put (some d) v).eval (.tmp j)=x:=fun a d j v x e y => (ev_ne e).trans y
 have hz:∀ (a:Act) (d:Nat) (v:Value),a.tmps.size=71 → d < 71 → (a.put (some d) v).eval (.tmp d)=v:=fun a d v e l => ev_self (by omega)
 have sz:∀ (a:Act) (d:Nat) (v:Value),a.tmps.size=71 → (a.put (some d) v).tmps.size=71:=fun a d v e => put_size.trans e
 unfold put7
 have s1:=sz _ 48 ch h
 have s2:=sz _ 12 ch s1
 have s3:=sz _ 49 ch s2
 have s4:=sz _ 50 v0 s3
 have s5:=sz _ 51 v1 s4
 have s6:=sz _ 52 v2 s5
 exact ⟨hn _ _ _ _ _ (by decide) (hn _ _ _ _ _ (by decide) (hn _ _ _ _ _ (by decide) (hn _ _ _ _ _ (by decide) (hz _ _ _ s2 (by decide))))),hn _ _ _ _ _ (by decide) (hn _ _ _ _ _ (by decide) (hn _ _ _ _ _ (by decide) (hz _ _ _ s3 (by decide)))),hn _ _ _ _ _ (by decide) (hn _ _ _ _ _ (by decide) (hz _ _ _ s4 (by decide))),hn _ _ _ _ _ (by decide) (hz _ _ _ s5 (by decide)),hz _ _ _ s6 (by decide)⟩
theorem main_to_go {b':Frame} {a':Act} {e':Code} {c:Nat} {L:Nat → Prop} {W:World} {base:List Frame} {v0 v1 v2 v3:Value} (hk:b'.kind ≠ .early) (hs:a'.tmps.size=71) (h0:a'.tmps[0]?=some v0) (h1:a'.tmps[1]?=some v1) (h2:a'.tmps[2]?=some v2) (h3:a'.tmps[3]?=some v3) (hL:∀ b,L b → b < W.heap.size) :
   Co Tryz.prog true base (fun x => x=c) (fun L' fr cs W' => L'=L ∧ cs=[] ∧ Rely L (fun x => x=c) W W' ∧ fr=b'.at (put7 (.chan (some c)) v0 v1 v2 v3 a') (.inRegion ops10 [5] :: [.code e'])) L (b'.at (a'.put (some 48) (.chan (some c))) (.inRegion ops9 [1] :: [.code (.seq (.region 10 ops10 false) e')])) [] W:=by
 obtain ⟨o,ho,hop,hd,hg⟩:=op9_1
 obtain ⟨p0,i0,j0,d0,g0⟩:=op10_0
 obtain ⟨p1,i1,j1,d1,g1⟩:=op10_1
 obtain ⟨p2,i2,j2,d2,g2⟩:=op10_2
 obtain ⟨p3,i3,j3,d3,g3⟩:=op10_3
 obtain ⟨p4,i4,j4,d4,g4⟩:=op10_4
 refine Co.val ho hg hk (yields_assign hop) hL fun W1 r1 => ?_
 rw [ev_self (by omega),hd]
 have l1:=lt_rely hL r1
 refine Co.regionEnd l1 fun W2 r2 => ?_
 have l2:=lt_rely l1 r2
 refine Co.ctl l2 (fun _ => stepG_seq) fun W3 r3 => ?_
 have l3:=lt_rely l2 r3
 refine Co.region l3 fun W4 r4 => ?_
 have l4:=lt_rely l3 r4
 rw [size10]
 refine Co.val i0 g0 hk (yields_move j0) l4 fun W5 r5 => ?_
 have l5:=lt_rely l4 r5
 rw [ev_self (by rw [put_size]; omega),d0]
 refine Co.val i1 g1 hk (yields_move j1) l5 fun W6 r6 => ?_
 have l6:=lt_rely l5 r6
 rw [ev_ne (by decide),ev_ne (by decide),ev_ne (by decide),ev_at h0,d1]
 refine Co.val i2 g2 hk (yields_move j2) l6 fun W7 r7 => ?_
 have l7:=lt_rely l6 r7
 rw [ev_ne (by decide),ev_ne (by decide),ev_ne (by decide),ev_ne (by decide),ev_at h1,d2]
 refine Co.val i3 g3 hk (yields_move j3) l7 fun W8 r8 => ?_
 have l8:=lt_rely l7 r8
 rw [ev_ne (by decide),ev_ne (by decide),ev_ne (by decide),ev_ne (by decide),ev_ne (by decide),ev_at h2,d3]
 refine Co.val i4 g4 hk (yields_move j4) l8 fun W9 r9 => ?_
 rw [ev_ne (by decide),ev_ne (by decide),ev_ne (by decide),ev_ne (by decide),ev_ne (by decide),ev_ne (by decide),ev_at h3,d4]
 exact .stop ⟨rfl,rfl,rely_trans (rely_trans (rely_trans (rely_trans (rely_trans (rely_trans (rely_trans (rely_trans r1 r2) r3) r4) r5) r6) r7) r8) r9,rfl⟩
theorem wr_dead {p c:Nat} {F:Nat → Prop} {B:Lk} {V W:World} (hw:WR (Xs p F) B V W) (hp:∀ y,¬ B p y) (hc:∀ x,¬ B x c) (hV:∃ t,V.heap[p]?=some (.cells #[] t)) (hcW:c < W.heap.size) (hpN:Vp.prog.globals.size ≤ p) (hcN:Vp.prog.globals.size ≤ c):WR (Xs p F) (fun x y => B x y ∨ (x=p ∧ y=c)) V W:=by
 have hle:Le B (fun x y => B x y ∨ (x=p ∧ y=c)):=fun _ _ h => .inl h
 refine { tape:=hw.tape,drawn:=hw.drawn,os:=hw.os,output:=hw.output,fn:=?_,inj:=?_,glob:=?_,live:=?_,froz:=?_,dead:=?_,dlt:=hw.dlt,flt:=hw.flt,low:=?_,nV:=hw.nV,nW:=hw.nW }
 · rintro b b₁ b₂ (h1 | ⟨rfl,rfl⟩) (h2 | ⟨h3,rfl⟩)
   · exact hw.fn _ _ _ h1 h2
   · subst h3; exact absurd h1 (hp _)
   · exact absurd h2 (hp _)
   · rfl
 · rintro b₁ b₂ b' (h1 | ⟨rfl,rfl⟩) (h2 | ⟨rfl,h3⟩)
   · exact hw.inj _ _ _ h1 h2
   · subst h3; exact absurd h1 (hc _)
   · exact absurd h2 (hc _)
   · rfl
 · intro g hg
   cases hg
 · rintro b b' (h | ⟨rfl,rfl⟩) hd hf
   · obtain ⟨o,o',h1,h2,h3⟩:=hw.live b b' h hd hf
     exact ⟨o,o',h1,h2,h3.mono hle⟩
   · exact absurd rfl hd
 · rintro b b' (h | ⟨rfl,rfl⟩) hd hf
   · obtain ⟨x,x',t,t',f,h1,h2,h3⟩:=hw.froz b b' h hd hf
     exact ⟨x,x',t,t',f,h1,h2,⟨h3.1.mono hle,h3.2⟩⟩
   · exact absurd rfl hd
 · rintro b b' (h | ⟨rfl,rfl⟩) hd
   · exact hw.dead b b' h hd
   · exact ⟨hV,hcW⟩
 · rintro b b' (h | ⟨rfl,rfl⟩)
   · exact hw.low b b' h
   · have h1:(Xs b F).N ≤ b:=hpN
     have h2:(Xs b F).N ≤ b':=hcN
     omega
theorem hot_dead {p c:Nat} {F:Nat → Prop} {B:Lk}:Hot (Xs p F) (fun x y => B x y ∨ (x=p ∧ y=c))=Hot (Xs p F) B:=by
 funext x
 apply propext
 constructor
 · rintro ⟨b,h | ⟨rfl,rfl⟩,h2,h3⟩
   · exact ⟨b,h,h2,h3⟩
   · exact absurd rfl h2
 · rintro ⟨b,h,h2,h3⟩
   exact ⟨b,.inl h,h2,h3⟩
end Go.Proofs.YthhfljldbfgpcaaGreatDoor
end

section
namespace Go.Proofs.YthhfljldbfgpcaaGreatDoor
open Go.ConcN (sumTo)
open Go.RowKit Go.Conc Go.Proofs.YthhfljldbfgpcaaGreatDoor.Co Go.Proofs.YthhfljldbfgpcaaGreatDoor.Ok Go.Proofs.YthhfljldbfgpcaaGreatDoor.Lr Go.Proofs.YthhfljldbfgpcaaGreatDoor.Tl Go.Proofs.YthhfljldbfgpcaaGreatDoor.Bar
structure MS (p c m0:Nat) (F:Nat → Prop) (B:Lk) (V W:World) (a a':Act) (b':Frame) (s s':List Item):Prop where
 wr:WR (Xs p F) B V W
 fr:FrR (Xs p F) B (bM.at a s) (b'.at a' s')
 pc:B p c
 low:∀ x y,B x y → m0 ≤ y
theorem flat_at {X:Cx} {B:Lk} {p p':Array Value} (h:AR X B p p') {i:Nat} {v:Value} (hv:p[i]?=some v) (hf:(∃ k n m,v=.complex k n m) ∨ ∃ k n,v=.int k n):p'[i]?=some v:=by
 obtain ⟨v',h1,h2⟩:=ar_at h hv
 rcases hf with ⟨k,n,m,rfl⟩ | ⟨k,n,rfl⟩ <;> (cases h2; exact h1)
theorem phase_start {cx cy d n:Nat} {most:Int} {ex ey:Nat} (hn:n ≤ 8) (h:∀ W,Calls Vp.prog 19 #[.complex .f32 cx cy,.int .i64 d,.int .i64 n] W fun e w' => e=.returned (.bool true) ∧ W=w') (hp:∀ W,Calls Vp.prog 20 #[.complex .f32 cx cy,.int .i64 d,.int .i64 n,.int .i64 n] W fun e w' => e=.returned (.complex .f32 ex ey) ∧ W=w')
   (hf1:(FloatKind.f32.format.order ex 1090519040 == some .gt)=false) (hf2:(FloatKind.f32.format.order ey 1090519040 == some .gt)=false) {base:List Frame} {gs:Array Goroutine} {w:World} {sl:Option (Nat × Nat)} {t:Trace} {q:Nat → Nat}
   (hN:Vp.prog.globals.size ≤ w.heap.size) (h0:gs[0]?=some (G (Frame.enter Tryz.prog 5 (tArgs cx cy d n most) .normal) base)) (hL:Leavers Tryz.prog t gs q) (hP:Past (fun _ => False) w.heap.size t) :
   ∃ gs' w' sl' t' q' B V ww b' a a' e' c L rb ob gS gM,Ran Tryz.prog gs w sl t gs' w' sl' t' ∧ gs'.size=gs.size + 1 ∧ gs'[0]?=some (G (b'.at a' (.inRegion ops10 [] :: [.code e'])) base) ∧ gs'[gs.size]?=some (G (bornF (sArgs c cx cy d n most)) []) ∧
     Sit Tryz.prog c 0 gs.size w.heap.size w gs' w' t' q' L (fun _ => False) (fun _ => False) ∧ L=Hot (Xs w.heap.size fun _ => False) B ∧ MS w.heap.size c w.heap.size (fun _ => False) B V w' a a' b' [.code mF] [.code e'] ∧
     a.tmps.size=71 ∧ a.tmps[8]?=some (.pointer (some ⟨rb,0,none⟩)) ∧ a.tmps[11]?=some (.pointer (some ⟨ob,0,none⟩)) ∧ a.tmps[12]?=some (.chan (some w.heap.size)) ∧ a.defers=[] ∧ TX ww rb ob cx cy d n (n * n) 0 0 gS gM [] [] V:=by
 
 obtain ⟨N1,gs1,fr1,cs1,w1,W1,sl1,t1,q1,L1,a1,a2,a3,a4,a5,a6,a7,a8,a9,a10⟩:=co_beside2 (main_made (W0:=w) hn h hp hf1 hf2 hN (base:=base)) gs w sl t q h0 (rely_refl _ _ _) (fun _ h => h.elim) hL hP
 obtain ⟨B,V,ww,b',a,a',k',c,rfl,rfl,hw,har,had,htd,hbk,hbf,hwe,hH,rfl,hB,hch,hcw⟩:=a4
 have hch1:w1.heap[c]?=some (.chan 0 #[] false 0 0 false):=by rw [← a9 rfl]; exact hch
 have hc1:c < w1.heap.size:=(Array.getElem?_eq_some_iff.1 hch1).1
 have hnL:¬ Hot (Xs w.heap.size fun _ => False) B c:=fun ⟨x,h1,_⟩ => (hB x c h1).2.2 rfl
 have al1:=a10 c hnL (aloof_low hP.seen hcw)
 obtain ⟨rb,ob,gS,gM,g1,g2,g3,g4,g5,g6,g7,g8,g9,g10⟩:=hH
 clear g1
 have hlt1:∀ b,Hot (Xs w.heap.size fun _ => False) B b → b < w1.heap.size:=fun b hb => Nat.lt_of_lt_of_le (WH.hot ⟨V,rfl,hw⟩ b hb) a5.1
 
 obtain ⟨e',rfl,hce⟩:∃ e',k'=[.code (.seq (.region 10 ops10 false) e')] ∧ CdR (Xs w.heap.size fun _ => False) mF e':=by
   cases htd with
   | cons hx hk =>
     cases hk
     cases hx with
     | code hc =>
       obtain ⟨d10,e',ec,hd,he⟩:=hc
       obtain rfl:=cuts10 (hd.resolve_left (by decide))
       exact ⟨e',by rw [ec],he⟩
 have hke:b'.kind ≠ .early:=by rw [hbk]; simp [bM,Go.Conc.base]
 have hs':a'.tmps.size=71:=by rw [← har.1]; exact g2
 
 obtain ⟨N2,gs2,fr2,cs2,w2,W2,sl2,t2,q2,L2,b1,b2,b3,b4,b5,b6,b7,b8,b9,b10⟩:=co_beside2 (main_to_go (c:=c) (base:=base) (e':=e') (W:=w1) hke hs' (flat_at har g4 (.inl ⟨_,_,_,rfl⟩)) (flat_at har g5 (.inr ⟨_,_,rfl⟩)) (flat_at har g6 (.inr ⟨_,_,rfl⟩)) (flat_at har g7 (.inr ⟨_,_,rfl⟩)) hlt1)
   gs1 w1 sl1 t1 q1 a3 (rely_refl _ _ _) (fun x hx => by obtain rfl:x=c:=hx; exact hc1) a6 a7
 obtain ⟨rfl,rfl,hr12,rfl⟩:=b4
 have al2:=b10 c hnL al1
 have hr2:Rely (Hot (Xs w.heap.size fun _ => False) B) (fun x => x=c) w1 w2:=rely_trans hr12 b5
 have hch2:w2.heap[c]?=some (.chan 0 #[] false 0 0 false):=(hr2.2.1 c (.inr rfl)).trans hch1
 
 obtain ⟨N3,gs3,d3,sl3,t3,q3,c1,c2,c3,c4,c5,c6,d4,sl4,c7⟩:=picked0 (P:=Tryz.prog) (sumTo gs2.size q2) gs2 w2 sl2 t2 q2 rfl b3 b6 b7
 have al3:=c6 c al2
 have hleft:=a8.trans b8
 obtain ⟨gs4,ops,e1,e0,e2,e3,e4⟩:=sit_spawn (B0:=w.heap.size) (w0:=w) (w:=w2.at d4) (c:=c) (L:=Hot (Xs w.heap.size fun _ => False) B) (sl:=sl4) c3 (step_go hke) c4 c5 ⟨0,false,hch2⟩ al3
   (fun x hx => by
     have hx':=hx
     obtain ⟨y,hy,_⟩:=hx'
     exact ⟨(hB y x hy).2.1,(hB y x hy).2.2,Nat.lt_of_lt_of_le (hlt1 x hx) hr2.1⟩) hcw
   ⟨hleft.size,fun x hx => hleft.kept x hx (fun h => h),hleft.tape,hleft.os⟩
 have hsz:gs3.size=gs.size:=c2.trans (b2.trans a2)
 have hrun:Ran Tryz.prog gs w sl t gs4 (w2.at d4) sl4 (t3 ++ ops) :=
   (Ran.trans ⟨N1,a1⟩ (Ran.trans ⟨N2,b1⟩ ⟨N3,c1⟩)).trans (Ran.head (by rw [c7]; exact e1) .refl)
 have hV:V.heap[w.heap.size]?=some (.cells #[] 0 (0,0)):=by
   have hsz:ww.heap.size=w.heap.size + 1:=by rw [hwe]; simp [V0]
   rw [g10.O.old.block w.heap.size (by omega),hwe]
   show (w.heap.push _)[w.heap.size]?=_
   rw [Array.getElem?_push,if_pos rfl]
 have hw2:WR (Xs w.heap.size fun _ => False) B { V with tape:=w2.tape,drawn:=d4 } (w2.at d4):=by
   refine wr_rely (W2:=w2.at d4) hw ?_
   rw [ice_none]
   refine rely_trans a5 (rely_at ?_ d4)
   exact ⟨hr2.1,fun x hx => hr2.2.1 x (hx.elim .inl fun h => h.elim),hr2.2.2⟩
 have hw3:=wr_dead (c:=c) hw2 (fun y hy => by have:=(hB _ _ hy).1; omega) (fun x hx => (hB _ _ hx).2.2 rfl) ⟨0,hV⟩ (Array.getElem?_eq_some_iff.1 hch2).1 hN (Nat.le_trans hN hcw)
 have hle:Le B (fun x y => B x y ∨ (x=w.heap.size ∧ y=c)):=fun _ _ h => .inl h
 have hAR:AR (Xs w.heap.size fun _ => False) (fun x y => B x y ∨ (x=w.heap.size ∧ y=c)) (put7 (.chan (some w.heap.size)) (.complex .f32 cx cy) (.int .i64 d) (.int .i64 n) (.int .i64 most) a).tmps (put7 (.chan (some c)) (.complex .f32 cx cy) (.int .i64 d) (.int .i64 n) (.int .i64 most) a').tmps:=by
   have hch:VR (Xs w.heap.size fun _ => False) (fun x y => B x y ∨ (x=w.heap.size ∧ y=c)) (.chan (some w.heap.size)) (.chan (some c)):=.chan (.inr ⟨rfl,rfl⟩)
   unfold put7
   exact ar_put (ar_put (ar_put (ar_put (ar_put (ar_put (ar_put (har.mono hle) _ hch) _ hch) _ hch) _ (.complex _ _ _)) _ (.int _ _)) _ (.int _ _)) _ (.int _ _)
 refine ⟨gs4,w2.at d4,sl4,t3 ++ ops,q3,fun x y => B x y ∨ (x=w.heap.size ∧ y=c),{ V with tape:=w2.tape,drawn:=d4 },{ ww with tape:=w2.tape,drawn:=d4 },b',put7 (.chan (some w.heap.size)) (.complex .f32 cx cy) (.int .i64 d) (.int .i64 n) (.int .i64 most) a,put7 (.chan (some c)) (.complex .f32 cx cy) (.int .i64 d) (.int .i64 n) (.int .i64 most) a',e',c,Hot (Xs w.heap.size fun _ => False) B,rb,ob,gS,gM,hrun,by rw [e0,hsz],e2,?_,?_,hot_dead.symm,⟨hw3,?_,.inr ⟨rfl,rfl⟩,?_⟩,?_,?_,?_,?_,?_,tx_blind g10 _ _⟩
 · rw [← hsz,e3]
   obtain ⟨z1,z2,z3,z4,z5⟩:=put7_ev (ch:=.chan (some c)) (v0:=.complex .f32 cx cy) (v1:=.int .i64 d) (v2:=.int .i64 n) (v3:=.int .i64 most) hs'
   rw [z1,z2,z3,z4,z5]
   rfl
 · rw [← hsz]; exact e4
 · refine fr_build hAR ?_ (.cons (.code hce) .nil) hbk hbf
   rw [put7_defers,put7_defers,g3,had]
   exact .nil
 · rintro x y (hxy | ⟨_,rfl⟩)
   · exact (hB x y hxy).2.1
   · exact hcw
 · rw [put7_size]; exact g2
 · rw [put7_at (by omega)]; exact g8
 · rw [put7_at (by omega)]; exact g9
 · exact put7_12 g2
 · rw [put7_defers]; exact g3
end Go.Proofs.YthhfljldbfgpcaaGreatDoor
end

section
namespace Go.Proofs.YthhfljldbfgpcaaGreatDoor
open Go.RowKit Go.Conc Go.Proofs.YthhfljldbfgpcaaGreatDoor.Co Go.Proofs.YthhfljldbfgpcaaGreatDoor.Ok Go.Proofs.YthhfljldbfgpcaaGreatDoor.Lr Go.Proofs.YthhfljldbfgpcaaGreatDoor.Tl Go.Proofs.YthhfljldbfgpcaaGreatDoor.Bar
noncomputable def sRecv:List Item:=[.code mZ,.inLoop mY,.inBlock 0,.code (.seq mR16 .ret)]
def RecvP (p c m0 cx cy d n N:Nat) (xs:List Nat) (ys:List Int) (R L:Nat → Prop) (fr:Frame) (cs:List Frame) (W:World):Prop :=
 ∃ (F:Nat → Prop) (B:Lk) (V ww:World) (a a':Act) (b':Frame) (k':List Item) (rb ob gS gM:Nat),cs=[] ∧ fr=b'.at a' (.inRegion ops12 [0,1] :: k') ∧ MS p c m0 F B V W a a' b' sRecv k' ∧ MA rb ob (.chan (some p)) a ∧
   TX ww rb ob cx cy d n (n * n) N N gS gM xs ys V ∧ L=Hot (Xs p F) B ∧ R=Ice (Xs p F) B
theorem MS.rely {p c m0:Nat} {F:Nat → Prop} {B:Lk} {V W W2:World} {a a':Act} {b':Frame} {s s':List Item} (h:MS p c m0 F B V W a a' b' s s') (hr:Rely (Hot (Xs p F) B) (Ice (Xs p F) B) W W2):MS p c m0 F B { V with tape:=W2.tape,drawn:=W2.drawn } W2 a a' b' s s' :=
 ⟨wr_rely h.wr hr,h.fr,h.pc,h.low⟩
theorem MS.kind {p c m0:Nat} {F:Nat → Prop} {B:Lk} {V W:World} {a a':Act} {b':Frame} {s s':List Item} (h:MS p c m0 F B V W a a' b' s s'):b'.kind=bM.kind ∧ b'.fn=bM.fn ∧ AR (Xs p F) B a.tmps a'.tmps ∧ DsR (Xs p F) B a.defers a'.defers ∧ TdR (Xs p F) B s s':=by
 obtain ⟨_,h1,h2,h3,h4,h5⟩:=fr_parts h.fr
 exact ⟨h4,h5,h1,h2,h3⟩
theorem chan_at {p c:Nat} {F:Nat → Prop} {B:Lk} {V W:World} (hw:WR (Xs p F) B V W) (hpc:B p c) {q q':Array Value} (h:AR (Xs p F) B q q') {i:Nat} (hv:q[i]?=some (.chan (some p))):q'[i]?=some (.chan (some c)):=by
 obtain ⟨v',h1,h2⟩:=ar_at h hv
 cases h2 with
 | chan g => rw [hw.fn _ _ _ hpc g]; exact h1
theorem stretchM {p c m0 cx cy d n N:Nat} {xs:List Nat} {ys:List Int} {F:Nat → Prop} {B:Lk} {V W:World} {a a':Act} {b':Frame} {s s':List Item} {base:List Frame} {ww:World} {rb ob gS gM:Nat} (h:MS p c m0 F B V W a a' b' s s') (hm:m0 ≤ W.heap.size)
   (hh:∀ τ k,HW Vp.prog s (H12 cx cy d n rb ob (.chan (some p)) gS gM N xs ys { ww with tape:=τ,drawn:=k }) a { V with tape:=τ,drawn:=k }) :
   Co Tryz.prog true base (Ice (Xs p F) B) (fun L fr cs W => Stops Tryz.prog true base c (.recv zRow) fr cs ∧ RecvP p c m0 cx cy d n N xs ys (Ice (Xs p F) B) L fr cs W) (Hot (Xs p F) B) (b'.at a' s') [] W:=by
 refine (co_of_hw (m:=true) (base:=base) (whole_s p F) cx_noT (H:=fun t a V => ∃ ww,H12 cx cy d n rb ob (.chan (some p)) gS gM N xs ys ww t a V) (fun t a V τ k h => by
     obtain ⟨w,h1,h2,h3⟩:=h
     exact ⟨{ w with tape:=τ,drawn:=k },h1,h2,tx_blind h3 τ k⟩) h.wr h.fr fun τ k => (hh τ k).mono fun t a V x => ⟨_,x⟩).bind ?_
 rintro L fr cs W1 ⟨B1,x,τ,k,hg,⟨hxc,t,a1,hxf,w,hH⟩,hw,hf,hc,rfl,hn1,hm1⟩
 rw [hxc] at hc
 rw [hxf] at hf
 cases hc
 obtain ⟨rfl,hMA,hTX⟩:=hH
 have hTX':TX { w with tape:=τ,drawn:=k } rb ob cx cy d n (n * n) N N gS gM xs ys (x.at τ k).V:=tx_blind hTX τ k
 clear hTX
 generalize (x.at τ k).V=V1 at hw hTX'
 obtain ⟨e1,har,hds,htd,hk,hfn⟩:=fr_parts hf
 obtain ⟨d12,k',etd,hd12,hk'⟩:=td_refuse htd (by decide)
 obtain rfl:=cuts12 hd12
 rw [etd] at e1
 rw [e1]
 have hke:fr.kind ≠ .early:=by rw [hk]; simp [bM,Go.Conc.base]
 have hpc:B1 p c:=hg.1 _ _ h.pc
 have hIce:=ice_gr h.wr hg
 have hMS:MS p c m0 F B1 V1 W1 a1 ⟨fr.tmps,fr.defers⟩ fr sRecv k':=⟨hw,fr_build har hds hk' hk hfn,hpc,fun x y hxy => by
   rcases hg.2 x y hxy with h1 | ⟨_,h1⟩
   · exact h.low _ _ h1
   · exact Nat.le_trans hm h1⟩
 have hch:=chan_at hw hpc har hMA.t54
 refine Co.region (WH.hot ⟨V1,rfl,hw⟩) fun W2 hr2 => ?_
 rw [size12]
 rw [← hIce] at hr2
 refine .stop ⟨stops_recv hke (ev_at hch),F,B1,_,{ w with tape:=W2.tape,drawn:=W2.drawn },a1,⟨fr.tmps,fr.defers⟩,fr,k',rb,ob,gS,gM,rfl,rfl,hMS.rely hr2,hMA,tx_blind hTX' _ _,rfl,hIce.symm⟩
end Go.Proofs.YthhfljldbfgpcaaGreatDoor
end
