/- Merged texts: TilN, TilH, JoiP. -/
import Derived.Test.YtokbalggdhippaaGreatR43
import Derived.Deep.Cut
import Derived.Test.YtokbalggdhippaaGreatR14
import Derived.Test.YtokbalggdhippaaGreatR9
set_option linter.all false
section
namespace Go.Proofs.YtokbalggdhippaaGreat
open Go.RowKit
attribute [local go_sem ↓] Go.wp_at_zero Go.wp_at_succ
attribute [local go_sem] run_store_float run_store_complex
theorem LT.shutT {w0 W0:World} {b rb ob n gs cs gm cm cx cy p:Nat} {deep size:Int} {xs:List Nat} {ys:List Int} {W:World} (h:LT w0 W0 b rb ob n gs cs gm cm cx cy p deep size xs ys W) (v u0 u1 u2 u3 u4:Value) {P:Nat} (hP:p ≤ P) :
   TRows W0.heap.size n n xs ys (.slice (some ⟨gs,0,none⟩) n cs) (.slice (some ⟨gm,0,none⟩) n cm) ((((((W.setCell ⟨ob,3,none⟩ v).setCell ⟨rb,0,none⟩ u0).setCell ⟨rb,1,none⟩ u1).setCell ⟨rb,2,none⟩ u2).setCell ⟨rb,3,none⟩ u3).setCell ⟨rb,4,none⟩ u4) ∧
   (∃ p',p' ≤ P ∧ Rd w0 b p' ((((((W.setCell ⟨ob,3,none⟩ v).setCell ⟨rb,0,none⟩ u0).setCell ⟨rb,1,none⟩ u1).setCell ⟨rb,2,none⟩ u2).setCell ⟨rb,3,none⟩ u3).setCell ⟨rb,4,none⟩ u4)) ∧
   Only b W0 ((((((W.setCell ⟨ob,3,none⟩ v).setCell ⟨rb,0,none⟩ u0).setCell ⟨rb,1,none⟩ u1).setCell ⟨rb,2,none⟩ u2).setCell ⟨rb,3,none⟩ u3).setCell ⟨rb,4,none⟩ u4):=by
 have hr:=h.hr
 have ho:=h.ho
 have h00:=h.h0
 have hbb:=h.hb2
 have R:=h.R.other (p:=⟨ob,3,none⟩) (by simp; omega) h.ne v
 have T:=h.T.box h.O 3 v
 have D:=h.D.otherb (p:=⟨ob,3,none⟩) (by simp; omega) (by simp; omega) v
 have K:=h.K.farb (p:=⟨ob,3,none⟩) ho v
 refine ⟨T.box5 R (by omega) u0 u1 u2 u3 u4,⟨p,hP,?_⟩,?_⟩
 · exact ((((D.otherb (p:=⟨rb,0,none⟩) (by simp; omega) (by simp; omega) _).otherb (p:=⟨rb,1,none⟩) (by simp; omega) (by simp; omega) _).otherb (p:=⟨rb,2,none⟩) (by simp; omega) (by simp; omega) _).otherb (p:=⟨rb,3,none⟩) (by simp; omega) (by simp; omega) _).otherb (p:=⟨rb,4,none⟩) (by simp; omega) (by simp; omega) _
 · exact ((((K.farb (p:=⟨rb,0,none⟩) hr _).farb (p:=⟨rb,1,none⟩) hr _).farb (p:=⟨rb,2,none⟩) hr _).farb (p:=⟨rb,3,none⟩) hr _).farb (p:=⟨rb,4,none⟩) hr _
set_option maxRecDepth 100000 in
set_option maxHeartbeats 16000000 in
theorem l92Tile_own (w0:World) (b p:Nat) (hp:p ≤ 1000000) (W:World) (h:Rd w0 b p W) :
   Calls Vp.prog 36 #[.pointer (some ⟨b,0,none⟩)] W fun e w' => TileOut W.heap.size e w' ∧ (∃ p',p' ≤ p + 24 ∧ Rd w0 b p' w') ∧ Only b W w':=by
 obtain ⟨hb0,hb1⟩:=h.ownb
 have R:=(Box.new W #[.complex .f32 0 0,.int .i64 0,.int .i64 0,.slice none 0 0,.slice none 0 0] 29).up h.below
 have HR:=Lib.hid (h.step ((Below.refl _ _).alloc (Nat.le_refl _) (.cells #[.complex .f32 0 0,.int .i64 0,.int .i64 0,.slice none 0 0,.slice none 0 0] 29)))
 have hw:w0.heap.size ≤ W.heap.size:=h.below.size
 clear h
 go_enter Vp.func36,Tryz.ntmps36
 go_wp2_with fail
 refine (place_any w0 b p (by omega) _ HR.out).mono ?_
 rintro e w1 ⟨⟨x,y,d,s,m,rfl,hx,hy,m0,m1⟩,⟨p1,hp1,hD⟩,hO⟩
 replace R:=R.onlyb hO (by omega) hb0
 have K:=Lib.hid (((Only.refl b W).allocb (.cells #[.complex .f32 0 0,.int .i64 0,.int .i64 0,.slice none 0 0,.slice none 0 0] 29)).trans hO)
 have HR1:=Lib.hid hD
 have hs1:W.heap.size + 1 ≤ w1.heap.size:=by have:=hO.size; simpa using this
 clear hO HR hD
 go_wp2_with fail
 refine (tileMake_any x y d s m hx hy _).mono ?_
 rintro e w2 ⟨hbl,h | ⟨hpl,xs,ys,smv,mkv,rfl,hM⟩⟩
 · obtain ⟨-,rfl⟩:=h
   unfold tileV
   replace R:=(R.step hbl).alloc (.cells #[.complex .f32 0 0,.int .i64 0,.int .i64 0,.slice none 0 0,.slice none 0 0] 29)
   have O:=(Box.new w2 #[.complex .f32 0 0,.int .i64 0,.int .i64 0,.slice none 0 0,.slice none 0 0] 29).up (HR1.out.step hbl).below
   have HD:=Lib.hid ((HR1.out.step hbl).step ((Below.refl _ _).alloc (Nat.le_refl _) (.cells #[.complex .f32 0 0,.int .i64 0,.int .i64 0,.slice none 0 0,.slice none 0 0] 29)))
   have HK:=Lib.hid ((K.out.trans (Only.of_below hbl)).allocb (.cells #[.complex .f32 0 0,.int .i64 0,.int .i64 0,.slice none 0 0,.slice none 0 0] 29))
   have hs2:W.heap.size + 1 ≤ w2.heap.size:=by have:=hbl.size; omega
   clear hbl HR1 K
   go_wp2_with fail
   refine (tileMake_ok m _).mono ?_
   rintro e w3 ⟨hbl,h | ⟨hpl,xs,ys,smv,mkv,rfl,hM⟩⟩
   · exact absurd trivial h.1
   unfold tileV
   replace R:=R.step hbl
   replace O:=O.step hbl
   replace HD:=Lib.hid (HD.out.step hbl)
   replace HK:=Lib.hid (HK.out.trans (Only.of_below hbl))
   have hn:0 < (2:Int).toNat * (2:Int).toNat:=by decide
   obtain ⟨gs,cs,rfl,-,hcs⟩:=ownsRow_form hM.S hn
   obtain ⟨gm,cm,rfl,-,hcm⟩:=ownsRow_form hM.M hn
   obtain ⟨n,hNN⟩:∃ n,(2:Int).toNat * (2:Int).toNat=n:=⟨_,rfl⟩
   rw [hNN] at hM hcs hcm hn ⊢
   have HNN:Hid (n=(2:Int).toNat * (2:Int).toNat):=hNN.symm
   have HP:=Lib.hid hpl
   have hn0:0 < n:=hn
   have hn64:n ≤ 64:=by rw [HNN.out]; decide
   have hcx:3212836864 < 4294967296:=by decide
   have hcy:3212836864 < 4294967296:=by decide
   have hne:W.heap.size ≠ w2.heap.size:=by omega
   have T:=(hM.mono (B':=W.heap.size) (by simp; omega)).rows
   have L:LT w0 W b W.heap.size w2.heap.size n gs cs gm cm 3212836864 3212836864 p1 2 2 xs ys (((((w3.setCell ⟨w2.heap.size,0,none⟩ (.complex .f32 3212836864 3212836864)).setCell ⟨w2.heap.size,1,none⟩ (.int .i64 2)).setCell ⟨w2.heap.size,2,none⟩ (.int .i64 2)).setCell ⟨w2.heap.size,3,none⟩ (.slice (some ⟨gs,0,none⟩) n cs)).setCell ⟨w2.heap.size,4,none⟩ (.slice (some ⟨gm,0,none⟩) n cm)):=by
     refine ⟨O.set5 (by omega) _ _ _ _ _,?_,T.box5 O (by omega) _ _ _ _ _,?_,?_,hne,hb0,hb1,Nat.le_refl _,by omega,hw⟩
     · exact ((((R.other (p:=⟨w2.heap.size,0,none⟩) (by simp; omega) hne _).other (p:=⟨w2.heap.size,1,none⟩) (by simp; omega) hne _).other (p:=⟨w2.heap.size,2,none⟩) (by simp; omega) hne _).other (p:=⟨w2.heap.size,3,none⟩) (by simp; omega) hne _).other (p:=⟨w2.heap.size,4,none⟩) (by simp; omega) hne _
     · exact ((((HD.out.otherb (p:=⟨w2.heap.size,0,none⟩) (by simp; omega) (by simp; omega) _).otherb (p:=⟨w2.heap.size,1,none⟩) (by simp; omega) (by simp; omega) _).otherb (p:=⟨w2.heap.size,2,none⟩) (by simp; omega) (by simp; omega) _).otherb (p:=⟨w2.heap.size,3,none⟩) (by simp; omega) (by simp; omega) _).otherb (p:=⟨w2.heap.size,4,none⟩) (by simp; omega) (by simp; omega) _
     · exact ((((HK.out.farb (p:=⟨w2.heap.size,0,none⟩) (by simp; omega) _).farb (p:=⟨w2.heap.size,1,none⟩) (by simp; omega) _).farb (p:=⟨w2.heap.size,2,none⟩) (by simp; omega) _).farb (p:=⟨w2.heap.size,3,none⟩) (by simp; omega) _).farb (p:=⟨w2.heap.size,4,none⟩) (by simp; omega) _
   have HL:=Lib.hid L
   obtain ⟨o0,o1,o2,o3,o4⟩:=O.cells5
   obtain ⟨g0,g1,g2,g3,g4⟩:=O.free5
   clear hM hNN hpl hn T L O R HD HK hbl
   go_wp2_with fail
   refine (pick_any w0 b p1 16 (by omega) (by omega) _ HL.out.D).mono ?_
   rintro e w4 ⟨⟨r,rfl,r0,r1⟩,hD,hO⟩
   have L:=HL.out.pick hO hD
   clear hO hD HL
   have hs:=L.T.S.lt gs rfl
   by_cases c0:r=0
   · subst c0
     obtain ⟨o0,o1,o2,o3,o4⟩:=L.O.cells5
     obtain ⟨⟨q,k0⟩,k1⟩:=cellM L.T (j:=0) hn0
     have L2:=L.setM 0 (u:=2) (by omega)
     obtain ⟨o0',o1',o2',o3',o4'⟩:=L2.O.cells5
     obtain ⟨z0,z1,z2,z3,z4⟩:=L2.R.cells5
     obtain ⟨f0,f1,f2,f3,f4⟩:=L2.R.free5
     have HL2:=Lib.hid L2
     clear L L2
     go_wp2
     have HS:=HL2.out.shut (.complex .f32 3212836864 3212836864) (.int .i64 2) (.int .i64 2) (.slice (some ⟨gs,0,none⟩) n cs) (.slice (some ⟨gm,0,none⟩) n cm) (show p1 + 1 ≤ p + 24 by omega)
     exact bodyPost_ret (v:=.agg #[.complex .f32 3212836864 3212836864,.int .i64 2,.int .i64 2,.slice (some ⟨gs,0,none⟩) n cs,.slice (some ⟨gm,0,none⟩) n cm]) (by simp [results,Tryz.f36,go_sem,z0,z1,z2,z3,z4]) rfl ⟨TileOut.rows HS.1 hcx hcy HP.out HNN.out hcs hcm,HS.2⟩
   by_cases c1:r=1
   · subst c1
     obtain ⟨o0,o1,o2,o3,o4⟩:=L.O.cells5
     have g3:=L.O.frozen 3
     obtain ⟨z0,z1,z2,z3,z4⟩:=L.R.cells5
     obtain ⟨f0,f1,f2,f3,f4⟩:=L.R.free5
     have hne:=L.ne
     obtain ⟨l,rfl⟩:∃ l,n=l + 1:=⟨n - 1,by omega⟩
     obtain ⟨c,rfl⟩:∃ c,cs=c + 1:=⟨cs - 1,by omega⟩
     have HL2:=Lib.hid L
     clear L
     by_cases hc:c=0
     · obtain rfl:l=0:=by omega
       subst hc
       go_wp2
       have HS:=HL2.out.shutT (.slice (some ⟨gs,0,none⟩) 0 0) (.complex .f32 3212836864 3212836864) (.int .i64 2) (.int .i64 2) (.slice (some ⟨gs,0,none⟩) 0 0) (.slice (some ⟨gm,0,none⟩) (0 + 1) cm) (show p1 + 1 ≤ p + 24 by omega)
       exact bodyPost_ret (v:=.agg #[.complex .f32 3212836864 3212836864,.int .i64 2,.int .i64 2,.slice (some ⟨gs,0,none⟩) 0 0,.slice (some ⟨gm,0,none⟩) (0 + 1) cm]) (by simp [results,Tryz.f36,go_sem,z0,z1,z2,z3,z4]) rfl ⟨TileOut.tail HS.1 hcx hcy HP.out HNN.out hcs hcm rfl rfl (.inl ⟨rfl,rfl⟩),HS.2⟩
     · go_wp2
       have HS:=HL2.out.shutT (.slice (some ⟨gs,1,none⟩) l c) (.complex .f32 3212836864 3212836864) (.int .i64 2) (.int .i64 2) (.slice (some ⟨gs,1,none⟩) l c) (.slice (some ⟨gm,0,none⟩) (l + 1) cm) (show p1 + 1 ≤ p + 24 by omega)
       exact bodyPost_ret (v:=.agg #[.complex .f32 3212836864 3212836864,.int .i64 2,.int .i64 2,.slice (some ⟨gs,1,none⟩) l c,.slice (some ⟨gm,0,none⟩) (l + 1) cm]) (by simp [results,Tryz.f36,go_sem,z0,z1,z2,z3,z4]) rfl ⟨TileOut.tail HS.1 hcx hcy HP.out HNN.out hcs hcm rfl rfl (.inr rfl),HS.2⟩
   by_cases c2:r=2
   · subst c2
     obtain ⟨o0,o1,o2,o3,o4⟩:=L.O.cells5
     obtain ⟨x1,w5,hq,hx1,d5⟩:=Flo.arith_any (P:=Vp.prog) .quo (by simp) 63 .f32 0 0 w4
     have L5:=L.drw d5
     obtain ⟨⟨q,k0⟩,k1⟩:=cellS L5.T (j:=0) hn0
     have L2:=L5.setS 0 hx1
     obtain ⟨o0',o1',o2',o3',o4'⟩:=L2.O.cells5
     obtain ⟨z0,z1,z2,z3,z4⟩:=L2.R.cells5
     obtain ⟨f0,f1,f2,f3,f4⟩:=L2.R.free5
     have HL2:=Lib.hid L2
     clear L L2 L5 d5
     go_wp2
     have HS:=HL2.out.shut (.complex .f32 3212836864 3212836864) (.int .i64 2) (.int .i64 2) (.slice (some ⟨gs,0,none⟩) n cs) (.slice (some ⟨gm,0,none⟩) n cm) (show p1 + 1 ≤ p + 24 by omega)
     exact bodyPost_ret (v:=.agg #[.complex .f32 3212836864 3212836864,.int .i64 2,.int .i64 2,.slice (some ⟨gs,0,none⟩) n cs,.slice (some ⟨gm,0,none⟩) n cm]) (by simp [results,Tryz.f36,go_sem,z0,z1,z2,z3,z4]) rfl ⟨TileOut.rows HS.1 hcx hcy HP.out HNN.out hcs hcm,HS.2⟩
   by_cases c3:r=3
   · subst c3
     obtain ⟨o0,o1,o2,o3,o4⟩:=L.O.cells5
     have hneg:=fun w => Flo.run_neg (P:=Vp.prog) .f32 0 w
     generalize Op.negFloat .f32 0=nz at *
     obtain ⟨x1,w5,hq,hx1,d5⟩:=Flo.arith_any (P:=Vp.prog) .mul (by simp) 63 .f32 nz 1065353216 w4
     have L5:=L.drw d5
     obtain ⟨l,rfl⟩:∃ l,n=l + 1:=⟨n - 1,by omega⟩
     obtain ⟨⟨q,k0⟩,k1⟩:=cellS L5.T (j:=l) (by omega)
     have L2:=L5.setS l hx1
     obtain ⟨o0',o1',o2',o3',o4'⟩:=L2.O.cells5
     obtain ⟨z0,z1,z2,z3,z4⟩:=L2.R.cells5
     obtain ⟨f0,f1,f2,f3,f4⟩:=L2.R.free5
     have HL2:=Lib.hid L2
     clear L L2 L5 d5
     go_wp2
     have HS:=HL2.out.shut (.complex .f32 3212836864 3212836864) (.int .i64 2) (.int .i64 2) (.slice (some ⟨gs,0,none⟩) (l + 1) cs) (.slice (some ⟨gm,0,none⟩) (l + 1) cm) (show p1 + 1 ≤ p + 24 by omega)
     exact bodyPost_ret (v:=.agg #[.complex .f32 3212836864 3212836864,.int .i64 2,.int .i64 2,.slice (some ⟨gs,0,none⟩) (l + 1) cs,.slice (some ⟨gm,0,none⟩) (l + 1) cm]) (by simp [results,Tryz.f36,go_sem,z0,z1,z2,z3,z4]) rfl ⟨TileOut.rows HS.1 hcx hcy HP.out HNN.out hcs hcm,HS.2⟩
   by_cases c4:r=4
   · subst c4
     obtain ⟨o0,o1,o2,o3,o4⟩:=L.O.cells5
     have LD:=L.drw (Drw.refl _).drew
     go_wp2_with fail
     go_region_with (first
       | (go_at_call 26
          refine (pick_any w0 b (p1 + 1) 3 (by omega) (by omega) _ LD.D).mono ?_
          rintro e w5 ⟨⟨u,rfl,u0,u1⟩,hD,hO⟩
          have L5:=LD.pick hO hD
          have u3:u < 3:=by omega
          clear u1
          have hwr:IntKind.i64.wrap (u - 1)=u - 1:=IntWalk.i64_in _ (by omega)
          obtain ⟨-,-,-,-,o4'⟩:=L5.O.cells5
          obtain ⟨⟨q,k0⟩,k1⟩:=cellM L5.T (j:=0) hn0
          have L2:=L5.setM 0 (u:=u - 1) (by omega)
          clear hD hO))
     all_goals
       obtain ⟨o0',o1',o2',o3',o4''⟩:=L2.O.cells5
       obtain ⟨z0,z1,z2,z3,z4⟩:=L2.R.cells5
       obtain ⟨f0,f1,f2,f3,f4⟩:=L2.R.free5
       have HL2:=Lib.hid L2
       clear L L2 L5 LD k0 k1
       go_wp2
       have HS:=HL2.out.shut (.complex .f32 3212836864 3212836864) (.int .i64 2) (.int .i64 2) (.slice (some ⟨gs,0,none⟩) n cs) (.slice (some ⟨gm,0,none⟩) n cm) (show p1 + 1 + 1 ≤ p + 24 by omega)
       exact bodyPost_ret (v:=.agg #[.complex .f32 3212836864 3212836864,.int .i64 2,.int .i64 2,.slice (some ⟨gs,0,none⟩) n cs,.slice (some ⟨gm,0,none⟩) n cm]) (by simp [results,Tryz.f36,go_sem,z0,z1,z2,z3,z4]) rfl ⟨TileOut.rows HS.1 hcx hcy HP.out HNN.out hcs hcm,HS.2⟩
   have g0:(r == 0)=false:=by simpa using c0
   have g1:(r == 1)=false:=by simpa using c1
   have g2:(r == 2)=false:=by simpa using c2
   have g3:(r == 3)=false:=by simpa using c3
   have g4:(r == 4)=false:=by simpa using c4
   obtain ⟨o0,o1,o2,o3,o4⟩:=L.O.cells5
   obtain ⟨z0,z1,z2,z3,z4⟩:=L.R.cells5
   obtain ⟨f0,f1,f2,f3,f4⟩:=L.R.free5
   have HL2:=Lib.hid L
   clear L
   go_wp2
   have HS:=HL2.out.shut (.complex .f32 3212836864 3212836864) (.int .i64 2) (.int .i64 2) (.slice (some ⟨gs,0,none⟩) n cs) (.slice (some ⟨gm,0,none⟩) n cm) (show p1 + 1 ≤ p + 24 by omega)
   exact bodyPost_ret (v:=.agg #[.complex .f32 3212836864 3212836864,.int .i64 2,.int .i64 2,.slice (some ⟨gs,0,none⟩) n cs,.slice (some ⟨gm,0,none⟩) n cm]) (by simp [results,Tryz.f36,go_sem,z0,z1,z2,z3,z4]) rfl ⟨TileOut.rows HS.1 hcx hcy HP.out HNN.out hcs hcm,HS.2⟩
 · unfold tileV
   have hn:0 < s.toNat * s.toNat:=by
     have:=placeB_bd hpl
     exact Nat.mul_pos (by omega) (by omega)
   obtain ⟨gs,cs,rfl,-,hcs⟩:=ownsRow_form hM.S hn
   obtain ⟨gm,cm,rfl,-,hcm⟩:=ownsRow_form hM.M hn
   obtain ⟨n,hNN⟩:∃ n,s.toNat * s.toNat=n:=⟨_,rfl⟩
   rw [hNN] at hM hcs hcm hn ⊢
   have HNN:Hid (n=s.toNat * s.toNat):=hNN.symm
   have HP:=Lib.hid hpl
   have hn0:0 < n:=hn
   have hn64:n ≤ 64:=by
     have:=placeB_bd hpl
     rw [HNN.out]
     exact Nat.mul_le_mul (show s.toNat ≤ 8 by omega) (show s.toNat ≤ 8 by omega)
   have hcx:=hx
   have hcy:=hy
   have hs2:W.heap.size + 1 ≤ w2.heap.size:=by have:=hbl.size; omega
   have hne:W.heap.size ≠ w2.heap.size:=by omega
   have T:=(hM.mono (B':=W.heap.size) (by omega)).rows
   have L:LT w0 W b W.heap.size w2.heap.size n gs cs gm cm x y p1 d s xs ys (w2.alloc (.cells #[.complex .f32 x y,.int .i64 d,.int .i64 s,.slice (some ⟨gs,0,none⟩) n cs,.slice (some ⟨gm,0,none⟩) n cm] 29)) :=
     ⟨(Box.new w2 _ _).up (HR1.out.step hbl).below,(R.step hbl).alloc _,T.alloc _,(HR1.out.step hbl).step ((Below.refl _ _).alloc (Nat.le_refl _) _),(K.out.trans (Only.of_below hbl)).allocb _,hne,hb0,hb1,Nat.le_refl _,by omega,hw⟩
   have HL:=Lib.hid L
   clear hM hNN hpl hn T L R HR1 K hbl
   go_wp2_with fail
   refine (pick_any w0 b p1 16 (by omega) (by omega) _ HL.out.D).mono ?_
   rintro e w4 ⟨⟨r,rfl,r0,r1⟩,hD,hO⟩
   have L:=HL.out.pick hO hD
   clear hO hD HL
   have hs:=L.T.S.lt gs rfl
   by_cases c0:r=0
   · subst c0
     obtain ⟨o0,o1,o2,o3,o4⟩:=L.O.cells5
     obtain ⟨⟨q,k0⟩,k1⟩:=cellM L.T (j:=0) hn0
     have L2:=L.setM 0 (u:=2) (by omega)
     obtain ⟨o0',o1',o2',o3',o4'⟩:=L2.O.cells5
     obtain ⟨z0,z1,z2,z3,z4⟩:=L2.R.cells5
     obtain ⟨f0,f1,f2,f3,f4⟩:=L2.R.free5
     have HL2:=Lib.hid L2
     clear L L2
     go_wp2
     have HS:=HL2.out.shut (.complex .f32 x y) (.int .i64 d) (.int .i64 s) (.slice (some ⟨gs,0,none⟩) n cs) (.slice (some ⟨gm,0,none⟩) n cm) (show p1 + 1 ≤ p + 24 by omega)
     exact bodyPost_ret (v:=.agg #[.complex .f32 x y,.int .i64 d,.int .i64 s,.slice (some ⟨gs,0,none⟩) n cs,.slice (some ⟨gm,0,none⟩) n cm]) (by simp [results,Tryz.f36,go_sem,z0,z1,z2,z3,z4]) rfl ⟨TileOut.rows HS.1 hcx hcy HP.out HNN.out hcs hcm,HS.2⟩
   by_cases c1:r=1
   · subst c1
     obtain ⟨o0,o1,o2,o3,o4⟩:=L.O.cells5
     have g3:=L.O.frozen 3
     obtain ⟨z0,z1,z2,z3,z4⟩:=L.R.cells5
     obtain ⟨f0,f1,f2,f3,f4⟩:=L.R.free5
     have hne:=L.ne
     obtain ⟨l,rfl⟩:∃ l,n=l + 1:=⟨n - 1,by omega⟩
     obtain ⟨c,rfl⟩:∃ c,cs=c + 1:=⟨cs - 1,by omega⟩
     have HL2:=Lib.hid L
     clear L
     by_cases hc:c=0
     · obtain rfl:l=0:=by omega
       subst hc
       go_wp2
       have HS:=HL2.out.shutT (.slice (some ⟨gs,0,none⟩) 0 0) (.complex .f32 x y) (.int .i64 d) (.int .i64 s) (.slice (some ⟨gs,0,none⟩) 0 0) (.slice (some ⟨gm,0,none⟩) (0 + 1) cm) (show p1 + 1 ≤ p + 24 by omega)
       exact bodyPost_ret (v:=.agg #[.complex .f32 x y,.int .i64 d,.int .i64 s,.slice (some ⟨gs,0,none⟩) 0 0,.slice (some ⟨gm,0,none⟩) (0 + 1) cm]) (by simp [results,Tryz.f36,go_sem,z0,z1,z2,z3,z4]) rfl ⟨TileOut.tail HS.1 hcx hcy HP.out HNN.out hcs hcm rfl rfl (.inl ⟨rfl,rfl⟩),HS.2⟩
     · go_wp2
       have HS:=HL2.out.shutT (.slice (some ⟨gs,1,none⟩) l c) (.complex .f32 x y) (.int .i64 d) (.int .i64 s) (.slice (some ⟨gs,1,none⟩) l c) (.slice (some ⟨gm,0,none⟩) (l + 1) cm) (show p1 + 1 ≤ p + 24 by omega)
       exact bodyPost_ret (v:=.agg #[.complex .f32 x y,.int .i64 d,.int .i64 s,.slice (some ⟨gs,1,none⟩) l c,.slice (some ⟨gm,0,none⟩) (l + 1) cm]) (by simp [results,Tryz.f36,go_sem,z0,z1,z2,z3,z4]) rfl ⟨TileOut.tail HS.1 hcx hcy HP.out HNN.out hcs hcm rfl rfl (.inr rfl),HS.2⟩
   by_cases c2:r=2
   · subst c2
     obtain ⟨o0,o1,o2,o3,o4⟩:=L.O.cells5
     obtain ⟨x1,w5,hq,hx1,d5⟩:=Flo.arith_any (P:=Vp.prog) .quo (by simp) 63 .f32 0 0 w4
     have L5:=L.drw d5
     obtain ⟨⟨q,k0⟩,k1⟩:=cellS L5.T (j:=0) hn0
     have L2:=L5.setS 0 hx1
     obtain ⟨o0',o1',o2',o3',o4'⟩:=L2.O.cells5
     obtain ⟨z0,z1,z2,z3,z4⟩:=L2.R.cells5
     obtain ⟨f0,f1,f2,f3,f4⟩:=L2.R.free5
     have HL2:=Lib.hid L2
     clear L L2 L5 d5
     go_wp2
     have HS:=HL2.out.shut (.complex .f32 x y) (.int .i64 d) (.int .i64 s) (.slice (some ⟨gs,0,none⟩) n cs) (.slice (some ⟨gm,0,none⟩) n cm) (show p1 + 1 ≤ p + 24 by omega)
     exact bodyPost_ret (v:=.agg #[.complex .f32 x y,.int .i64 d,.int .i64 s,.slice (some ⟨gs,0,none⟩) n cs,.slice (some ⟨gm,0,none⟩) n cm]) (by simp [results,Tryz.f36,go_sem,z0,z1,z2,z3,z4]) rfl ⟨TileOut.rows HS.1 hcx hcy HP.out HNN.out hcs hcm,HS.2⟩
   by_cases c3:r=3
   · subst c3
     obtain ⟨o0,o1,o2,o3,o4⟩:=L.O.cells5
     have hneg:=fun w => Flo.run_neg (P:=Vp.prog) .f32 0 w
     generalize Op.negFloat .f32 0=nz at *
     obtain ⟨x1,w5,hq,hx1,d5⟩:=Flo.arith_any (P:=Vp.prog) .mul (by simp) 63 .f32 nz 1065353216 w4
     have L5:=L.drw d5
     obtain ⟨l,rfl⟩:∃ l,n=l + 1:=⟨n - 1,by omega⟩
     obtain ⟨⟨q,k0⟩,k1⟩:=cellS L5.T (j:=l) (by omega)
     have L2:=L5.setS l hx1
     obtain ⟨o0',o1',o2',o3',o4'⟩:=L2.O.cells5
     obtain ⟨z0,z1,z2,z3,z4⟩:=L2.R.cells5
     obtain ⟨f0,f1,f2,f3,f4⟩:=L2.R.free5
     have HL2:=Lib.hid L2
     clear L L2 L5 d5
     go_wp2
     have HS:=HL2.out.shut (.complex .f32 x y) (.int .i64 d) (.int .i64 s) (.slice (some ⟨gs,0,none⟩) (l + 1) cs) (.slice (some ⟨gm,0,none⟩) (l + 1) cm) (show p1 + 1 ≤ p + 24 by omega)
     exact bodyPost_ret (v:=.agg #[.complex .f32 x y,.int .i64 d,.int .i64 s,.slice (some ⟨gs,0,none⟩) (l + 1) cs,.slice (some ⟨gm,0,none⟩) (l + 1) cm]) (by simp [results,Tryz.f36,go_sem,z0,z1,z2,z3,z4]) rfl ⟨TileOut.rows HS.1 hcx hcy HP.out HNN.out hcs hcm,HS.2⟩
   by_cases c4:r=4
   · subst c4
     obtain ⟨o0,o1,o2,o3,o4⟩:=L.O.cells5
     have LD:=L.drw (Drw.refl _).drew
     go_wp2_with fail
     go_region_with (first
       | (go_at_call 26
          refine (pick_any w0 b (p1 + 1) 3 (by omega) (by omega) _ LD.D).mono ?_
          rintro e w5 ⟨⟨u,rfl,u0,u1⟩,hD,hO⟩
          have L5:=LD.pick hO hD
          have u3:u < 3:=by omega
          clear u1
          have hwr:IntKind.i64.wrap (u - 1)=u - 1:=IntWalk.i64_in _ (by omega)
          obtain ⟨-,-,-,-,o4'⟩:=L5.O.cells5
          obtain ⟨⟨q,k0⟩,k1⟩:=cellM L5.T (j:=0) hn0
          have L2:=L5.setM 0 (u:=u - 1) (by omega)
          clear hD hO))
     all_goals
       obtain ⟨o0',o1',o2',o3',o4''⟩:=L2.O.cells5
       obtain ⟨z0,z1,z2,z3,z4⟩:=L2.R.cells5
       obtain ⟨f0,f1,f2,f3,f4⟩:=L2.R.free5
       have HL2:=Lib.hid L2
       clear L L2 L5 LD k0 k1
       go_wp2
       have HS:=HL2.out.shut (.complex .f32 x y) (.int .i64 d) (.int .i64 s) (.slice (some ⟨gs,0,none⟩) n cs) (.slice (some ⟨gm,0,none⟩) n cm) (show p1 + 1 + 1 ≤ p + 24 by omega)
       exact bodyPost_ret (v:=.agg #[.complex .f32 x y,.int .i64 d,.int .i64 s,.slice (some ⟨gs,0,none⟩) n cs,.slice (some ⟨gm,0,none⟩) n cm]) (by simp [results,Tryz.f36,go_sem,z0,z1,z2,z3,z4]) rfl ⟨TileOut.rows HS.1 hcx hcy HP.out HNN.out hcs hcm,HS.2⟩
   have g0:(r == 0)=false:=by simpa using c0
   have g1:(r == 1)=false:=by simpa using c1
   have g2:(r == 2)=false:=by simpa using c2
   have g3:(r == 3)=false:=by simpa using c3
   have g4:(r == 4)=false:=by simpa using c4
   obtain ⟨o0,o1,o2,o3,o4⟩:=L.O.cells5
   obtain ⟨z0,z1,z2,z3,z4⟩:=L.R.cells5
   obtain ⟨f0,f1,f2,f3,f4⟩:=L.R.free5
   have HL2:=Lib.hid L
   clear L
   go_wp2
   have HS:=HL2.out.shut (.complex .f32 x y) (.int .i64 d) (.int .i64 s) (.slice (some ⟨gs,0,none⟩) n cs) (.slice (some ⟨gm,0,none⟩) n cm) (show p1 + 1 ≤ p + 24 by omega)
   exact bodyPost_ret (v:=.agg #[.complex .f32 x y,.int .i64 d,.int .i64 s,.slice (some ⟨gs,0,none⟩) n cs,.slice (some ⟨gm,0,none⟩) n cm]) (by simp [results,Tryz.f36,go_sem,z0,z1,z2,z3,z4]) rfl ⟨TileOut.rows HS.1 hcx hcy HP.out HNN.out hcs hcm,HS.2⟩
end Go.Proofs.YtokbalggdhippaaGreat
end

section
namespace Go.Proofs.YtokbalggdhippaaGreat
open Go.RowKit
attribute [local go_sem] run_store_float run_store_complex
theorem Sl.far {W:World} {a:Option Addr} {xs:List Value} (h:Sl W a xs) {p:Addr} (hne:∀ g o s,a=some ⟨g,o,s⟩ → g ≠ p.block) (v:Value):Sl (W.setCell p v) a xs:=by
 rcases h with h | ⟨b',off,hb,h⟩
 · exact .inl h
 · refine .inr ⟨b',off,hb,fun i u hu => ?_⟩
   rw [← h i u hu]
   exact World.cell?_of_block (Below.heap_setCell _ _ _ _ (by simpa using (hne _ _ _ hb)))
theorem Sl.far5 {W:World} {a:Option Addr} {xs:List Value} (h:Sl W a xs) {b:Nat} (hne:∀ g o s,a=some ⟨g,o,s⟩ → g ≠ b) (u0 u1 u2 u3 u4:Value) :
   Sl (((((W.setCell ⟨b,0,none⟩ u0).setCell ⟨b,1,none⟩ u1).setCell ⟨b,2,none⟩ u2).setCell ⟨b,3,none⟩ u3).setCell ⟨b,4,none⟩ u4) a xs :=
 ((((h.far (p:=⟨b,0,none⟩) hne u0).far (p:=⟨b,1,none⟩) hne u1).far (p:=⟨b,2,none⟩) hne u2).far (p:=⟨b,3,none⟩) hne u3).far (p:=⟨b,4,none⟩) hne u4
structure TileV (B:Nat) (a1:Option Addr) (c1:Nat) (a2:Option Addr) (c2 cx cy:Nat) (deep size:Int) (xs:List Nat) (ys:List Int) (w':World):Prop where
 s1:Sl w' a1 (xs.map floV)
 s2:Sl w' a2 (ys.map intV)
 k1:xs.length ≤ c1
 k2:ys.length ≤ c2
 n1:∀ g o s,a1=some ⟨g,o,s⟩ → B ≤ g
 n2:∀ g o s,a2=some ⟨g,o,s⟩ → B ≤ g
 hx:∀ x,x ∈ xs → x < 4294967296
 hy:∀ y,y ∈ ys → -1 ≤ y ∧ y ≤ 2
 bx:cx < 4294967296
 by1:cy < 4294967296
 pl:placeB cx cy deep size=true
 ly:ys.length=size.toNat * size.toNat
 lx:xs.length=ys.length ∨ xs.length + 1=ys.length
theorem TileV.step {B:Nat} {a1:Option Addr} {c1:Nat} {a2:Option Addr} {c2 cx cy:Nat} {deep size:Int} {xs:List Nat} {ys:List Int} {w w':World} (h:TileV B a1 c1 a2 c2 cx cy deep size xs ys w) (k:Below w.heap.size w w'):TileV B a1 c1 a2 c2 cx cy deep size xs ys w' :=
 ⟨h.s1.step k,h.s2.step k,h.k1,h.k2,h.n1,h.n2,h.hx,h.hy,h.bx,h.by1,h.pl,h.ly,h.lx⟩
theorem TileV.far5 {B:Nat} {a1:Option Addr} {c1:Nat} {a2:Option Addr} {c2 cx cy:Nat} {deep size:Int} {xs:List Nat} {ys:List Int} {w:World} (h:TileV B a1 c1 a2 c2 cx cy deep size xs ys w) {b:Nat} (hb:b < B) (u0 u1 u2 u3 u4:Value) :
   TileV B a1 c1 a2 c2 cx cy deep size xs ys (((((w.setCell ⟨b,0,none⟩ u0).setCell ⟨b,1,none⟩ u1).setCell ⟨b,2,none⟩ u2).setCell ⟨b,3,none⟩ u3).setCell ⟨b,4,none⟩ u4) :=
 ⟨h.s1.far5 (fun g o s e => by have:=h.n1 g o s e; omega) _ _ _ _ _,h.s2.far5 (fun g o s e => by have:=h.n2 g o s e; omega) _ _ _ _ _,h.k1,h.k2,h.n1,h.n2,h.hx,h.hy,h.bx,h.by1,h.pl,h.ly,h.lx⟩
theorem TileV.mono {B B':Nat} {a1:Option Addr} {c1:Nat} {a2:Option Addr} {c2 cx cy:Nat} {deep size:Int} {xs:List Nat} {ys:List Int} {w:World} (h:TileV B a1 c1 a2 c2 cx cy deep size xs ys w) (hB:B' ≤ B):TileV B' a1 c1 a2 c2 cx cy deep size xs ys w :=
 ⟨h.s1,h.s2,h.k1,h.k2,fun g o s e => Nat.le_trans hB (h.n1 g o s e),fun g o s e => Nat.le_trans hB (h.n2 g o s e),h.hx,h.hy,h.bx,h.by1,h.pl,h.ly,h.lx⟩
theorem Sl.only {w w':World} {a:Option Addr} {xs:List Value} {b:Nat} (h:Sl w a xs) (k:Only b w w') (hb:∀ g o s,a=some ⟨g,o,s⟩ → g ≠ b):Sl w' a xs:=by
 rcases h with h | ⟨b',off,ha,h⟩
 · exact .inl h
 · refine .inr ⟨b',off,ha,fun i v hv => ?_⟩
   have h1:=h i v hv
   exact (World.cell?_of_block (k.block _ (World.block_lt_of_cell? w _ h1) (hb _ _ _ ha))).trans h1
theorem TileV.only {B:Nat} {a1:Option Addr} {c1:Nat} {a2:Option Addr} {c2 cx cy:Nat} {deep size:Int} {xs:List Nat} {ys:List Int} {w w':World} {b:Nat} (h:TileV B a1 c1 a2 c2 cx cy deep size xs ys w) (k:Only b w w') (hb:b < B):TileV B a1 c1 a2 c2 cx cy deep size xs ys w' :=
 ⟨h.s1.only k (fun g o s e => by have:=h.n1 g o s e; omega),h.s2.only k (fun g o s e => by have:=h.n2 g o s e; omega),h.k1,h.k2,h.n1,h.n2,h.hx,h.hy,h.bx,h.by1,h.pl,h.ly,h.lx⟩
theorem TileV.lim {B:Nat} {a1:Option Addr} {c1:Nat} {a2:Option Addr} {c2 cx cy:Nat} {deep size:Int} {xs:List Nat} {ys:List Int} {w:World} (h:TileV B a1 c1 a2 c2 cx cy deep size xs ys w):1 ≤ size ∧ size ≤ 8 ∧ 0 ≤ deep ∧ deep ≤ 10 ∧ 1 ≤ ys.length ∧ ys.length ≤ 64 ∧ xs.length ≤ 64 ∧ (ys.length:Int)=size * size:=by
 obtain ⟨h1,h2,h3,h4⟩:=placeB_bd h.pl
 obtain ⟨s,rfl⟩:=Int.eq_ofNat_of_zero_le (show 0 ≤ size by omega)
 have hl:=h.ly
 rw [Int.toNat_natCast] at hl
 have h5:s * s ≤ 8 * 8:=Nat.mul_le_mul (by omega) (by omega)
 have h6:1 * 1 ≤ s * s:=Nat.mul_le_mul (by omega) (by omega)
 have h7:=h.lx
 refine ⟨h3,h4,h1,h2,by omega,by omega,by omega,?_⟩
 rw [hl]; simp
theorem TileOut.parts {B:Nat} {e:Ending} {w':World} (h:TileOut B e w'):∃ a1 c1 a2 c2 cx cy deep size xs ys,e=.returned (.agg #[.complex .f32 cx cy,.int .i64 deep,.int .i64 size,.slice a1 xs.length c1,.slice a2 ys.length c2]) ∧ TileV B a1 c1 a2 c2 cx cy deep size xs ys w':=by
 obtain ⟨v,cx,cy,deep,size,xs,ys,rfl,⟨⟨a1,c1,a2,c2,rfl,s1,s2,k1,k2,n1,n2⟩,hx,hy⟩,hcx,hcy,hp,hl,hxl⟩:=h
 exact ⟨a1,c1,a2,c2,cx,cy,deep,size,xs,ys,rfl,⟨s1,s2,k1,k2,n1,n2,hx,hy,hcx,hcy,hp,hl,hxl⟩⟩
def DrawnTileN (w:World) (e:Ending) (w':World):Prop :=
 (∃ a1 c1 a2 c2 cx cy deep size xs ys most,e=.returned (.tuple #[.agg #[.complex .f32 cx cy,.int .i64 deep,.int .i64 size,.slice a1 xs.length c1,.slice a2 ys.length c2],.int .i64 most]) ∧ 1 ≤ most ∧ most ≤ 30 ∧ TileV w.heap.size a1 c1 a2 c2 cx cy deep size xs ys w') ∧ Below w.heap.size w w'
set_option maxRecDepth 100000 in
set_option maxHeartbeats 2000000 in
theorem drawTileSplit_any (a:Option Addr) (c:Nat) (bs:List UInt8) (hn:bs.length ≤ 1048576) (hc:bs.length ≤ c) (w:World) (hs:Sl w a (bs.map byteV)) :
   Calls Vp.prog 12 #[.slice a bs.length c] w (DrawnTileN w):=by
 have R:=Box.new w #[.complex .f32 0 0,.int .i64 0,.int .i64 0,.slice none 0 0,.slice none 0 0] 29
 have H:=Lib.hid (open_any a c bs hn hc _ (hs.alloc (.cells #[.complex .f32 0 0,.int .i64 0,.int .i64 0,.slice none 0 0,.slice none 0 0] 29)))
 clear hs
 go_enter Vp.func12,Tryz.ntmps12
 go_wp2_with fail
 refine H.out.mono ?_
 rintro e w1 ⟨b,rfl,hb,hR⟩
 replace R:=R.step hR.below
 have hb1:w.heap.size < b:=by rw [hb]; simp
 obtain ⟨w0,hw0⟩:∃ w0,w0=w.alloc (.cells #[.complex .f32 0 0,.int .i64 0,.int .i64 0,.slice none 0 0,.slice none 0 0] 29):=⟨_,rfl⟩
 rw [← hw0] at hR
 have hw1:w.heap.size ≤ w0.heap.size:=by rw [hw0]; simp
 clear hb hw0
 have hbw:w.heap.size < w1.heap.size:=R.lt
 go_wp2_with fail
 refine (l92Tile_own _ b 0 (by omega) _ hR).mono ?_
 rintro e w2 ⟨hT,⟨p',hp',hR2⟩,hO⟩
 obtain ⟨hRb,hRb2⟩:=hR.ownb
 have hO':=hO.size
 replace R:=R.onlyb hO (by omega) (by omega)
 obtain ⟨a1,c1,a2,c2,cx,cy,deep,size,xs,ys,rfl,T⟩:=hT.parts
 have R2:=hR2.step ((Below.refl _ _).alloc (Nat.le_refl _) (.cells #[.complex .f32 cx cy,.int .i64 deep,.int .i64 size,.slice a1 xs.length c1,.slice a2 ys.length c2] 29))
 have X:=(Box.new w2 #[.complex .f32 cx cy,.int .i64 deep,.int .i64 size,.slice a1 xs.length c1,.slice a2 ys.length c2] 29).up R.old
 replace R:=R.alloc (.cells #[.complex .f32 cx cy,.int .i64 deep,.int .i64 size,.slice a1 xs.length c1,.slice a2 ys.length c2] 29)
 replace T:=T.step ((Below.refl _ _).alloc (Nat.le_refl _) (.cells #[.complex .f32 cx cy,.int .i64 deep,.int .i64 size,.slice a1 xs.length c1,.slice a2 ys.length c2] 29))
 obtain ⟨x0,x1,x2,x3,x4⟩:=X.cells5
 obtain ⟨r0,r1,r2,r3,r4⟩:=R.cells5
 obtain ⟨f0,f1,f2,f3,f4⟩:=R.free5
 have hwb:=R.lt
 clear H hR hR2 hT hO
 go_wp2_with fail
 have R2d:=R2.drw (Drw.refl _).drew
 have Xd:=X.step ((Drw.refl _).drew.below _)
 have Rd':=R.step ((Drw.refl _).drew.below _)
 have Td:=T.step ((Drw.refl _).drew.below _)
 have hbX:b < w2.heap.size:=by have:=hRb2; have:=hO'; omega
 clear R2 X R T
 go_region_with (first
   | (go_at_call 26
      refine (pick_any w0 b p' 30 (by omega) (by omega) _ R2d).mono ?_
      rintro e w5 ⟨⟨u,rfl,u0,u1⟩,hD,hO⟩
      have u2:u < 30:=by omega
      have X5:=Xd.onlyb hO (by omega) (by omega)
      have R5:=Rd'.onlyb hO (by omega) (by omega)
      have T5:=Td.only hO (by omega)
      have HT:Hid (TileV w.heap.size a1 c1 a2 c2 cx cy deep size xs ys (((((w5.setCell ⟨w.heap.size,0,none⟩ (.complex .f32 cx cy)).setCell ⟨w.heap.size,1,none⟩ (.int .i64 deep)).setCell ⟨w.heap.size,2,none⟩ (.int .i64 size)).setCell ⟨w.heap.size,3,none⟩ (.slice a1 xs.length c1)).setCell ⟨w.heap.size,4,none⟩ (.slice a2 ys.length c2))):=(T5.far5 (by omega) _ _ _ _ _).mono (by omega)
      obtain ⟨y0,y1,y2,y3,y4⟩:=X5.cells5
      obtain ⟨f0',f1',f2',f3',f4'⟩:=R5.free5
      obtain ⟨r0',r1',r2',r3',r4'⟩:=R5.cells5
      have R6:=R5.set5 (Nat.le_refl _) (.complex .f32 cx cy) (.int .i64 deep) (.int .i64 size) (.slice a1 xs.length c1) (.slice a2 ys.length c2)
      obtain ⟨z0,z1,z2,z3,z4⟩:=R6.cells5
      have HR6:=Lib.hid R6.old
      have hwr:IntKind.i64.wrap (1 + u)=1 + u:=IntWalk.i64_in _ (by omega)
      clear hD hO X5 R5 T5 R6 u1))
 all_goals
   go_wp2
   exact bodyPost_ret (v:=.tuple #[.agg #[.complex .f32 cx cy,.int .i64 deep,.int .i64 size,.slice a1 xs.length c1,.slice a2 ys.length c2],.int .i64 (1 + u)]) (by simp [results,Tryz.f12,go_sem,z0,z1,z2,z3,z4]) rfl ⟨⟨a1,c1,a2,c2,cx,cy,deep,size,xs,ys,1 + u,rfl,by omega,by omega,HT.out⟩,HR6.out⟩
end Go.Proofs.YtokbalggdhippaaGreat
end

section
namespace Go.Proofs.YtokbalggdhippaaGreat
def jq (n c k:Nat):Nat:=(2 * (c / n) + k / 2) / n * 2 + (2 * (c % n) + k % 2) / n
def jat (n c k:Nat):Nat:=(2 * (c / n) + k / 2) % n * n + (2 * (c % n) + k % 2) % n
theorem jq_all:∀ n:Fin 9,∀ c:Fin 64,∀ k:Fin 4,1 ≤ n.val → c.val < n.val * n.val → jq n.val c.val k.val < 4 ∧ jat n.val c.val k.val < n.val * n.val:=by decide +kernel
theorem jq_lt {n c k:Nat} (h1:1 ≤ n) (h8:n ≤ 8) (hc:c < n * n) (hk:k < 4):jq n c k < 4 ∧ jat n c k < n * n:=by
 have:n * n ≤ 8 * 8:=Nat.mul_le_mul h8 h8
 exact jq_all ⟨n,by omega⟩ ⟨c,by omega⟩ ⟨k,hk⟩ h1 hc
def jm (Y:Nat → List Int) (n c k:Nat):Int:=(Y (jq n c k)).getD (jat n c k) 0
def jmark (Y:Nat → List Int) (n c:Nat):Int:=if jm Y n c 0=jm Y n c 0 ∧ jm Y n c 1=jm Y n c 0 ∧ jm Y n c 2=jm Y n c 0 ∧ jm Y n c 3=jm Y n c 0 then jm Y n c 0 else 0
def jys (Y:Nat → List Int) (n:Nat):List Int:=(List.range (n * n)).map (jmark Y n)
def isM (Y:Nat → List Int) (v:Int) (p:Nat × Nat):Bool:=decide ((Y p.1).getD p.2 0=v)
theorem jys_at (Y:Nat → List Int) {n c:Nat} (h:c < n * n):(jys Y n)[c]?=some (jmark Y n c):=by
 unfold jys
 rw [List.getElem?_map,List.getElem?_range h]; rfl
theorem jmark_bd {Y:Nat → List Int} (hY:∀ q,∀ y,y ∈ Y q → -1 ≤ y ∧ y ≤ 1) (n c:Nat):-1 ≤ jmark Y n c ∧ jmark Y n c ≤ 1:=by
 have h0:-1 ≤ jm Y n c 0 ∧ jm Y n c 0 ≤ 1:=by
   unfold jm
   rw [List.getD_eq_getElem?_getD]
   cases h:(Y (jq n c 0))[jat n c 0]? with
   | none => exact ⟨by decide,by decide⟩
   | some y => exact hY _ y (List.mem_of_getElem? h)
 unfold jmark
 split
 · exact h0
 · omega
def jx (X:Nat → List Nat) (n c k:Nat):Nat:=(X (jq n c k)).getD (jat n c k) 0
def jmean (a b c d:Nat):Nat:=Flo.opC .quo .f32 (Flo.opC .add .f32 (Flo.opC .add .f32 a b) (Flo.opC .add .f32 c d)) 1082130432
def jsm (X:Nat → List Nat) (n c:Nat):Nat:=jmean (jx X n c 0) (jx X n c 1) (jx X n c 2) (jx X n c 3)
def JX (X:Nat → List Nat) (n:Nat) (m:Nat) (xs:List Nat):Prop:=xs.length=m ∧ ∀ c x,xs[c]?=some x → Flo.Al .f32 (jsm X n c) x ∧ x < 4294967296
theorem JX.snoc {X:Nat → List Nat} {n m:Nat} {xs:List Nat} (h:JX X n m xs) {x:Nat} (ha:Flo.Al .f32 (jsm X n m) x) (hx:x < 4294967296):JX X n (m + 1) (xs ++ [x]):=by
 refine ⟨by rw [List.length_append,h.1]; rfl,fun c y hy => ?_⟩
 by_cases hc:c < m
 · rw [List.getElem?_append_left (by rw [h.1]; exact hc)] at hy
   exact h.2 c y hy
 · rw [List.getElem?_append_right (by rw [h.1]; omega)] at hy
   by_cases h0:c - xs.length=0
   · rw [h0] at hy
     injection hy with hy
     have:=h.1
     obtain rfl:c=m:=by omega
     exact hy ▸ ⟨ha,hx⟩
   · rw [List.getElem?_eq_none (by simp; omega)] at hy; cases hy
theorem jys_snoc (Y:Nat → List Int) (n m:Nat):(List.range (m + 1)).map (jmark Y n)=(List.range m).map (jmark Y n) ++ [jmark Y n m]:=by
 rw [List.range_succ,List.map_append]; rfl
end Go.Proofs.YtokbalggdhippaaGreat
end
