/- Merged texts: JoiF, JoiG, LawT. -/
import Derived.Test.YtokbalggdhippaaGreatR45
import Derived.Test.YtokbalggdhippaaGreatR4
import Derived.ChangeKeysEq
import Derived.Deep.RegionWith
import Derived.Deep.RegionLaw
import Derived.Deep.Cut
import Derived.Deep.CutRange
import Derived.Deep.AppendLies
import Derived.Test.YtokbalggdhippaaGreatR14
set_option linter.all false
section
namespace Go.Proofs.YtokbalggdhippaaGreat
open Go.RowKit Flo
def JXs (L:List JT) (q:Nat):List Nat:=match L[q]? with | some t => t.xs | none => []
def JYs (L:List JT) (q:Nat):List Int:=match L[q]? with | some t => t.ys | none => []
theorem JXs_at {L:List JT} {q:Nat} {t:JT} (h:L[q]?=some t):JXs L q=t.xs:=by unfold JXs; rw [h]
theorem JYs_at {L:List JT} {q:Nat} {t:JT} (h:L[q]?=some t):JYs L q=t.ys:=by unfold JYs; rw [h]
def FitW (L:List JT) (t0:JT):Prop:=Fit4 L t0 ∧ placeJ t0=true
theorem Fit4.tile {L:List JT} {t0:JT} (h:Fit4 L t0) {q:Nat} (hq:q < 4):∃ t,L[q]?=some t:=⟨_,List.getElem?_eq_getElem (by rw [h.len]; exact hq)⟩
theorem Fit4.lens {L:List JT} {t0 t:JT} (h:Fit4 L t0) {n:Nat} (hn:t0.size=n) {q:Nat} (ht:L[q]?=some t):t.xs.length=n * n ∧ t.ys.length=n * n ∧ ∀ y,y ∈ t.ys → -1 ≤ y ∧ y ≤ 1:=by
 obtain ⟨h1,h2,-,-⟩:=gdB_of (h.gd q t ht)
 obtain ⟨e1,e2,e3⟩:=wellB_all h1
 rw [h2,hn] at e1
 have:t.xs.length=n * n:=by exact_mod_cast e1
 exact ⟨this,by omega,e3⟩
theorem Fit4.cell {L:List JT} {t0:JT} (h:Fit4 L t0) {n:Nat} (hn:t0.size=n) (h1:1 ≤ n) (h8:n ≤ 8) {c k:Nat} (hc:c < n * n) (hk:k < 4) :
   ∃ t,L[jq n c k]?=some t ∧ t.xs[jat n c k]?=some (jx (JXs L) n c k) ∧ t.ys[jat n c k]?=some (jm (JYs L) n c k) ∧ jq n c k < 4 ∧ jat n c k < n * n ∧ t.xs.length=n * n ∧ t.ys.length=n * n:=by
 obtain ⟨q1,q2⟩:=jq_lt h1 h8 hc hk
 obtain ⟨t,ht⟩:=h.tile q1
 obtain ⟨l1,l2,-⟩:=h.lens hn ht
 refine ⟨t,ht,?_,?_,q1,q2,l1,l2⟩
 · unfold jx; rw [JXs_at ht,List.getD_eq_getElem?_getD,List.getElem?_eq_getElem (by omega)]; rfl
 · unfold jm; rw [JYs_at ht,List.getD_eq_getElem?_getD,List.getElem?_eq_getElem (by omega)]; rfl
theorem Fit4.marks {L:List JT} {t0:JT} (h:Fit4 L t0) (q:Nat) (y:Int) (hy:y ∈ JYs L q):-1 ≤ y ∧ y ≤ 1:=by
 unfold JYs at hy
 split at hy
 · rename_i t ht
   exact (wellB_all (gdB_of (h.gd q t ht)).1).2.2 y hy
 · cases hy
def JoinRes (w:World) (L:List JT) (t0:JT) (e:Ending) (w':World):Prop :=
 Below w.heap.size w w' ∧ ((¬ FitW L t0 ∧ e=.returned (.tuple #[tileV 0 0 0 0 (.slice none 0 0) (.slice none 0 0),.bool false])) ∨
   (FitW L t0 ∧ ∃ xs ys smv mkv,e=.returned (.tuple #[tileV t0.cx t0.cy (t0.deep - 1) t0.size smv mkv,.bool true]) ∧ Made w.heap.size (t0.size.toNat * t0.size.toNat) xs ys smv mkv w' ∧ JX (JXs L) t0.size.toNat (t0.size.toNat * t0.size.toNat) xs ∧ ys=jys (JYs L) t0.size.toNat))
structure QM (w:World) (rb ob sb mb:Nat) (cx cy:Nat) (deep size:Int) (n m:Nat) (xs:List Nat) (ys:List Int) (smv mkv:Value) (sc mc:Array Value) (W:World):Prop where
 T:TM w rb ob cx cy deep size n m xs ys smv mkv W
 S:Box w sb sc 77 W
 M:Box w mb mc 78 W
 n1:rb ≠ sb
 n2:ob ≠ sb
 n3:rb ≠ mb
 n4:ob ≠ mb
 n5:sb ≠ mb
 hs:w.heap.size ≤ sb
 hm:w.heap.size ≤ mb
theorem TM.box {w:World} {rb ob cx cy n m:Nat} {deep size:Int} {xs:List Nat} {ys:List Int} {smv mkv:Value} {W:World} (h:TM w rb ob cx cy deep size n m xs ys smv mkv W) {b:Nat} {C:Array Value} {T:TypeId} (hb:Box w b C T W) (hf:63 ≠ T) (hi:3 ≠ T) (h1:rb ≠ b) (h2:ob ≠ b) (hw:w.heap.size ≤ b) (j:Nat) (u:Value) :
   TM w rb ob cx cy deep size n m xs ys smv mkv (W.setCell ⟨b,j,none⟩ u) :=
 ⟨h.O.other (p:=⟨b,j,none⟩) hw h2 u,h.R.other (p:=⟨b,j,none⟩) hw h1 u,ownsRow_set h.S hb.blk hf u,ownsRow_set h.M hb.blk hi u,h.hx,h.hy,h.ne,h.hr,h.ho⟩
theorem QM.step {w:World} {rb ob sb mb cx cy n m:Nat} {deep size:Int} {xs:List Nat} {ys:List Int} {smv mkv:Value} {sc mc:Array Value} {W W':World} (h:QM w rb ob sb mb cx cy deep size n m xs ys smv mkv sc mc W) (k:Below W.heap.size W W'):QM w rb ob sb mb cx cy deep size n m xs ys smv mkv sc mc W' :=
 ⟨h.T.step k,h.S.step k,h.M.step k,h.n1,h.n2,h.n3,h.n4,h.n5,h.hs,h.hm⟩
theorem QM.drw {w:World} {rb ob sb mb cx cy n m:Nat} {deep size:Int} {xs:List Nat} {ys:List Int} {smv mkv:Value} {sc mc:Array Value} {W W':World} (h:QM w rb ob sb mb cx cy deep size n m xs ys smv mkv sc mc W) (k:Drw W W'):QM w rb ob sb mb cx cy deep size n m xs ys smv mkv sc mc W':=h.step (k.below _)
theorem QM.setS {w:World} {rb ob sb mb cx cy n m:Nat} {deep size:Int} {xs:List Nat} {ys:List Int} {smv mkv:Value} {sc mc:Array Value} {W:World} (h:QM w rb ob sb mb cx cy deep size n m xs ys smv mkv sc mc W) (j:Nat) (u:Value):QM w rb ob sb mb cx cy deep size n m xs ys smv mkv (sc.setIfInBounds j u) mc (W.setCell ⟨sb,j,none⟩ u) :=
 ⟨h.T.box h.S (by decide) (by decide) h.n1 h.n2 h.hs j u,h.S.set h.hs j u,h.M.other (p:=⟨sb,j,none⟩) h.hs (fun e => h.n5 e.symm) u,h.n1,h.n2,h.n3,h.n4,h.n5,h.hs,h.hm⟩
theorem QM.setM {w:World} {rb ob sb mb cx cy n m:Nat} {deep size:Int} {xs:List Nat} {ys:List Int} {smv mkv:Value} {sc mc:Array Value} {W:World} (h:QM w rb ob sb mb cx cy deep size n m xs ys smv mkv sc mc W) (j:Nat) (u:Value):QM w rb ob sb mb cx cy deep size n m xs ys smv mkv sc (mc.setIfInBounds j u) (W.setCell ⟨mb,j,none⟩ u) :=
 ⟨h.T.box h.M (by decide) (by decide) h.n3 h.n4 h.hm j u,h.S.other (p:=⟨mb,j,none⟩) h.hm h.n5 u,h.M.set h.hm j u,h.n1,h.n2,h.n3,h.n4,h.n5,h.hs,h.hm⟩
def sfC (X:Nat → Nat) (k:Nat):Array Value:=#[.float .f32 (if 0 < k then X 0 else 0),.float .f32 (if 1 < k then X 1 else 0),.float .f32 (if 2 < k then X 2 else 0),.float .f32 (if 3 < k then X 3 else 0)]
def mfC (Y:Nat → Int) (k:Nat):Array Value:=#[.int .i64 (if 0 < k then Y 0 else 0),.int .i64 (if 1 < k then Y 1 else 0),.int .i64 (if 2 < k then Y 2 else 0),.int .i64 (if 3 < k then Y 3 else 0)]
theorem sfC_step (X:Nat → Nat) {k:Nat} (hk:k < 4):(sfC X k).setIfInBounds k (.float .f32 (X k))=sfC X (k + 1):=by
 rcases (by omega:k=0 ∨ k=1 ∨ k=2 ∨ k=3) with rfl | rfl | rfl | rfl <;> rfl
theorem mfC_step (Y:Nat → Int) {k:Nat} (hk:k < 4):(mfC Y k).setIfInBounds k (.int .i64 (Y k))=mfC Y (k + 1):=by
 rcases (by omega:k=0 ∨ k=1 ∨ k=2 ∨ k=3) with rfl | rfl | rfl | rfl <;> rfl
theorem sfC_at (X:Nat → Nat) (m:Nat) {k:Nat} (hk:k < 4):∃ v,(sfC X m)[k]?=some v:=by
 rcases (by omega:k=0 ∨ k=1 ∨ k=2 ∨ k=3) with rfl | rfl | rfl | rfl <;> exact ⟨_,rfl⟩
theorem mfC_at (Y:Nat → Int) (m:Nat) {k:Nat} (hk:k < 4):∃ v,(mfC Y m)[k]?=some v:=by
 rcases (by omega:k=0 ∨ k=1 ∨ k=2 ∨ k=3) with rfl | rfl | rfl | rfl <;> exact ⟨_,rfl⟩
theorem QM.both {w:World} {rb ob sb mb cx cy n m:Nat} {deep size:Int} {xs:List Nat} {ys:List Int} {smv mkv:Value} {X:Nat → Nat} {Y:Nat → Int} {k:Nat} (hk:k < 4) {W:World}
   (h:QM w rb ob sb mb cx cy deep size n m xs ys smv mkv (sfC X k) (mfC Y k) W) {W1 W2:World} (d1:Below (W.setCell ⟨sb,k,none⟩ (.float .f32 (X k))).heap.size (W.setCell ⟨sb,k,none⟩ (.float .f32 (X k))) W1) (d2:Below (W1.setCell ⟨mb,k,none⟩ (.int .i64 (Y k))).heap.size (W1.setCell ⟨mb,k,none⟩ (.int .i64 (Y k))) W2) :
   QM w rb ob sb mb cx cy deep size n m xs ys smv mkv (sfC X (k + 1)) (mfC Y (k + 1)) W2:=by
 have:=(((h.setS k (.float .f32 (X k))).step d1).setM k (.int .i64 (Y k))).step d2
 rw [sfC_step X hk,mfC_step Y hk] at this
 exact this
theorem TM.nilRows {w W:World} {rb ob:Nat} {cx cy:Nat} {deep size:Int} (R:Box w rb (tileC 0 0 0 0 (.slice none 0 0) (.slice none 0 0)) 29 W) (O:Box w ob (tileC cx cy deep size (.slice none 0 0) (.slice none 0 0)) 29 W) (hr:w.heap.size ≤ rb) (ho:w.heap.size ≤ ob) (hne:rb ≠ ob) :
   TM w rb ob cx cy deep size 0 0 [] [] (.slice none 0 0) (.slice none 0 0) W :=
 ⟨O,R,⟨rfl,.inl ⟨rfl,rfl⟩⟩,⟨rfl,.inl ⟨rfl,rfl⟩⟩,(fun x hx => by cases hx),(fun x hx => by cases hx),hne,hr,ho⟩
theorem JT.Ok.rows {t:JT} {B:Nat} {W:World} (h:t.Ok B W) {k x:Nat} {y:Int} (hx:t.xs[k]?=some x) (hy:t.ys[k]?=some y) :
   ∃ g1 o1 g2 o2,t.a1=some ⟨g1,o1,none⟩ ∧ t.a2=some ⟨g2,o2,none⟩ ∧ W.cell? ⟨g1,o1 + k,none⟩=some (.float .f32 x) ∧ W.cell? ⟨g2,o2 + k,none⟩=some (.int .i64 y):=by
 have e1:(t.xs.map floV)[k]?=some (.float .f32 x):=by rw [List.getElem?_map,hx]; rfl
 have e2:(t.ys.map intV)[k]?=some (.int .i64 y):=by rw [List.getElem?_map,hy]; rfl
 rcases h.s1 with s1 | ⟨g1,o1,a1,s1⟩
 · rw [s1] at e1; simp at e1
 rcases h.s2 with s2 | ⟨g2,o2,a2,s2⟩
 · rw [s2] at e2; simp at e2
 exact ⟨g1,o1,g2,o2,a1,a2,s1 k _ e1,s2 k _ e2⟩
theorem JoinRes.no {w w':World} {L:List JT} {t0:JT} (hb:Below w.heap.size w w') (h:¬ FitW L t0):JoinRes w L t0 (.returned (.tuple #[.agg #[.complex .f32 0 0,.int .i64 0,.int .i64 0,.slice none 0 0,.slice none 0 0],.bool false])) w':=⟨hb,.inl ⟨h,rfl⟩⟩
theorem JoinRes.yes {w w':World} {L:List JT} {t0:JT} {n N:Nat} (hn:t0.size=n) (hN:N=n * n) {xs:List Nat} {ys:List Int} {smv mkv:Value} {cx cy:Nat} {deep:Int} (h1:cx=t0.cx) (h2:cy=t0.cy) (h3:deep=t0.deep - 1) (hb:Below w.heap.size w w') (h:FitW L t0) (hm:Made w.heap.size ((n:Int).toNat * (n:Int).toNat) xs ys smv mkv w') (hx:JX (JXs L) n N xs) (hy:ys=(List.range N).map (jmark (JYs L) n)) :
   JoinRes w L t0 (.returned (.tuple #[.agg #[.complex .f32 cx cy,.int .i64 deep,.int .i64 n,smv,mkv],.bool true])) w':=by
 subst h1 h2 h3 hN
 refine ⟨hb,.inr ⟨h,xs,ys,smv,mkv,?_,?_,?_,?_⟩⟩
 · rw [hn]; rfl
 · rw [hn]; exact hm
 · rw [hn]; exact hx
 · rw [hn]; exact hy
set_option maxRecDepth 100000 in
theorem run_eq4 (a b c d e f g h:Int) (w:World):(Op.equalIn 10000 78 (.agg #[.int .i64 a,.int .i64 b,.int .i64 c,.int .i64 d]) (.agg #[.int .i64 e,.int .i64 f,.int .i64 g,.int .i64 h])).run Vp.prog w=.ok (decide (a=e ∧ b=f ∧ c=g ∧ d=h)) w:=by
 obtain ⟨iI,hiI,-,-,-⟩:=info_parts infoI
 have hi:Vp.prog.underlying 3=some (.int .i64):=by kernel_rfl
 have hp:Vp.prog.plainKey 3=true:=by kernel_rfl
 have hc:Vp.prog.cellsOf 3=1:=by kernel_rfl
 have hpt:∀ (xs:Array Value) (k:Nat) (v:Value),xs[k]?=some v → (part 3 xs k).run Vp.prog w=.ok v w:=fun xs k v hv => run_part_plain w hp hv
 rw [show (10000:Nat)=9999 + 1 by rfl,run_equalIn_array w 9999 _ _ (by kernel_rfl) hiI,hc,show List.range 4=[0,1,2,3] by rfl]
 have l0:=hpt #[.int .i64 a,.int .i64 b,.int .i64 c,.int .i64 d] 0 (.int .i64 a) rfl
 have l1:=hpt #[.int .i64 a,.int .i64 b,.int .i64 c,.int .i64 d] 1 (.int .i64 b) rfl
 have l2:=hpt #[.int .i64 a,.int .i64 b,.int .i64 c,.int .i64 d] 2 (.int .i64 c) rfl
 have l3:=hpt #[.int .i64 a,.int .i64 b,.int .i64 c,.int .i64 d] 3 (.int .i64 d) rfl
 have r0:=hpt #[.int .i64 e,.int .i64 f,.int .i64 g,.int .i64 h] 0 (.int .i64 e) rfl
 have r1:=hpt #[.int .i64 e,.int .i64 f,.int .i64 g,.int .i64 h] 1 (.int .i64 f) rfl
 have r2:=hpt #[.int .i64 e,.int .i64 f,.int .i64 g,.int .i64 h] 2 (.int .i64 g) rfl
 have r3:=hpt #[.int .i64 e,.int .i64 f,.int .i64 g,.int .i64 h] 3 (.int .i64 h) rfl
 have q:=fun x y => run_equalIn_int w 9998 3 .i64 .i64 x y hi
 generalize (#[.int .i64 a,.int .i64 b,.int .i64 c,.int .i64 d]:Array Value)=A at *
 generalize (#[.int .i64 e,.int .i64 f,.int .i64 g,.int .i64 h]:Array Value)=E at *
 clear hpt hc hp hi hiI
 by_cases h1:a=e
 · by_cases h2:b=f
   · by_cases h3:c=g
     · by_cases h4:d=h
       · simp [Op.eqItems,l0,l1,l2,l3,r0,r1,r2,r3,q,h1,h2,h3,h4]
       · simp [Op.eqItems,l0,l1,l2,l3,r0,r1,r2,r3,q,h1,h2,h3,h4]
     · simp [Op.eqItems,l0,l1,l2,r0,r1,r2,q,h1,h2,h3]
   · simp [Op.eqItems,l0,l1,r0,r1,q,h1,h2]
 · simp [Op.eqItems,l0,r0,q,h1]
end Go.Proofs.YtokbalggdhippaaGreat
end

section
namespace Go.Proofs.YtokbalggdhippaaGreat
open Go.RowKit Flo
attribute [local go_sem ↓] Go.wp_at_zero Go.wp_at_succ
attribute [local go_sem] run_store_float run_store_complex
set_option maxRecDepth 100000 in
set_option maxHeartbeats 16000000 in
theorem implJoin_is (B g cap:Nat) (L:List JT) (t0:JT) (h0:L[0]?=some t0) (hl:L.length ≤ 4) (w:World) (hL:JIn B g L w) :
   Calls Vp.prog 16 #[.slice (some ⟨g,0,none⟩) L.length cap] w (JoinRes w L t0):=by
 have CW:=Lib.hid (fun W (d:Below w.heap.size w W) => quartersWell_is B g cap L t0 h0 hl W (hL.step d))
 have hok:=hL.own t0 (List.mem_of_getElem? h0)
 have HOK:=Lib.hid hok
 have HL:=Lib.hid hL
 have H0:=Lib.hid h0
 have R:=Box.new w (tileC 0 0 0 0 (.slice none 0 0) (.slice none 0 0)) 29
 have HR:=Lib.hid R
 have hpos:0 < L.length:=(List.getElem?_eq_some_iff.1 h0).1
 have HLEN:Hid (Fit4 L t0 → L.length=4):=fun h => h.len
 generalize hln:L.length=ln at *
 clear R hL h0 hok hln
 obtain ⟨iF,hiF,hzF0,hzF1,hzF2⟩:=info_parts infoF
 obtain ⟨iI,hiI,hzI0,hzI1,hzI2⟩:=info_parts infoI
 go_enter Vp.func16,Tryz.ntmps16
 go_wp2_with fail
 refine (CW.out _ HR.out.old).mono ?_
 rintro e w1 ⟨⟨b,rfl,hb⟩,hd⟩
 have HFB:Hid (b=true ↔ FitW L t0):=hb
 replace HR:=Lib.hid (HR.out.step hd)
 unfold tileC at HR
 clear hb hd CW
 cases b with
 | false =>
   have HN:Hid (¬ FitW L t0):=fun h => by have:=HFB.out.2 h; cases this
   obtain ⟨c0,c1,c2,c3,c4⟩:=HR.out.cells5
   obtain ⟨f0,f1,f2,f3,f4⟩:=HR.out.free5
   have HB:=Lib.hid HR.out.old
   clear HR HFB
   go_wp2
   exact bodyPost_ret (v:=.tuple #[.agg #[.complex .f32 0 0,.int .i64 0,.int .i64 0,.slice none 0 0,.slice none 0 0],.bool false]) (by simp [results,Tryz.f16,go_sem,c0,c1,c2,c3,c4]) rfl (JoinRes.no (set5 HB.out (Nat.le_refl _) _ _ _ _ _) HN.out)
 | true =>
   have HF:=Lib.hid (HFB.out.1 rfl)
   have hfour:ln=4:=HLEN.out HF.out.1
   subst hfour
   obtain ⟨d,hd1,hd2,hd3,hs1,hs2,hq,hbx,hby⟩:=first_ok HOK.out (gdB_of (HF.out.1.gd 0 t0 H0.out)).2.2.2
   obtain ⟨n,hn⟩:=Int.eq_ofNat_of_zero_le (show 0 ≤ t0.size by omega)
   have HN:=Lib.hid hn
   have hn1:1 ≤ n:=by omega
   have hn8:n ≤ 8:=by omega
   have hdd:1 ≤ t0.deep ∧ t0.deep ≤ 10:=by omega
   have hw1:IntKind.i64.wrap (t0.deep - 1)=t0.deep - 1:=IntWalk.i64_in _ (by omega)
   obtain ⟨x0,x1,x2,x3,x4⟩:=(HL.out.step HR.out.old).cells5 H0.out
   rw [Nat.zero_mul] at x0
   rw [Nat.zero_mul,Nat.zero_add] at x1 x2
   rw [hn] at x2
   have hgl:g < w1.heap.size:=World.block_lt_of_cell? w1 ⟨g,1,none⟩ x1
   obtain ⟨dj,hdj⟩:∃ dj,dj=t0.deep - 1:=⟨_,rfl⟩
   have HDJ:=Lib.hid hdj
   rw [← hdj] at hw1
   replace hdj:t0.deep - 1=dj:=hdj.symm
   obtain ⟨cx,hcx⟩:∃ cx,t0.cx=cx:=⟨_,rfl⟩
   obtain ⟨cy,hcy⟩:∃ cy,t0.cy=cy:=⟨_,rfl⟩
   have HCX:=Lib.hid hcx
   have HCY:=Lib.hid hcy
   rw [hcx,hcy] at x0
   obtain ⟨td,htd⟩:∃ td,t0.deep=td:=⟨_,rfl⟩
   rw [htd] at x1 hdj
   clear hd1 hd2 hd3 hs1 hs2 hq hbx hby hn HFB hcx hcy htd hdd HLEN hpos
   go_upto_region 4 with fail
   go_cut [5] from 22 to 32 (fun p wx => p=.pointer (some ⟨w1.heap.size,0,none⟩) ∧ Hid (TM w w.heap.size w1.heap.size cx cy dj n 0 0 [] [] (.slice none 0 0) (.slice none 0 0) wx))
   case first =>
     have HT:Hid (TM w w.heap.size w1.heap.size cx cy dj n 0 0 [] [] (.slice none 0 0) (.slice none 0 0) ((w1.alloc (.cells #[.complex .f32 cx cy,.int .i64 dj,.int .i64 n,.slice none 0 0,.slice none 0 0] 29)).drew)) :=
       (TM.nilRows (HR.out.alloc _) ((Box.new w1 _ _).up HR.out.old) (Nat.le_refl _) HR.out.old.size (by have:=HR.out.lt; omega)).drw (Drw.refl _).drew
     go_region_with (fail)
     all_goals
       go_wp2_with fail
       go_meet
       with_reducible exact ⟨rfl,HT⟩
   case rest =>
     obtain ⟨rfl,HT⟩:=hcut
     have HKR:=Lib.hid HR.out.lt
     clear HR x0 x1 x2 x3 x4 hgl hw1 hdj
     generalize w1.heap.size=ob at *
     obtain ⟨nn,hnn⟩:∃ nn:Nat,n * n=nn:=⟨_,rfl⟩
     have HNN:=Lib.hid hnn
     have hnnb:nn ≤ 64:=by have:n * n ≤ 8 * 8:=Nat.mul_le_mul hn8 hn8; omega
     have hnni:(n:Int) * n=(nn:Int):=by rw [← Int.natCast_mul,hnn]
     have hnnw:IntKind.i64.wrap (nn:Int)=nn:=IntWalk.i64_in _ (by omega)
     clear hnn
     have HX0:Hid (JX (JXs L) n 0 []):=⟨rfl,fun c x h => by simp at h⟩
     go_upto_region 6 with fail
     clear hnni hnnw
     go_loopw [36] (fun x wr => ∃ (N:Nat) (a1 a2:Option Addr) (cs cm:Nat) (xs:List Nat) (ys:List Int),N ≤ nn ∧ x=.int .i64 N ∧ Hid (TM w w.heap.size ob cx cy dj n N N xs ys (.slice a1 N cs) (.slice a2 N cm) wr) ∧ Hid (JX (JXs L) n N xs) ∧ Hid (ys=(List.range N).map (jmark (JYs L) n))) (fun x _ => (nn - intOf x).toNat)
     case atStart => exact ⟨0,none,none,0,0,[],[],by omega,rfl,HT,HX0,rfl⟩
     case round =>
       clear HT HX0
       obtain ⟨N,a1,a2,cs,cm,xs,ys,hN,rfl,HT,HX,HY⟩:=hrel
       by_cases hlt:N < nn
       · have HFC:=Lib.hid (fun k (hk:k < 4) => HF.out.1.cell HN.out hn1 hn8 (c:=N) (k:=k) (by have:=HNN.out; omega) hk)
         have HFOUR:=Lib.hid (fun W => fourCells_is n (N / n) (N % n) hn1 hn8 (Nat.div_lt_of_lt_mul (by have:=HNN.out; omega)) (Nat.mod_lt _ (by omega)) W)
         obtain ⟨i,hi⟩:∃ i,i=N / n:=⟨_,rfl⟩
         obtain ⟨j,hj⟩:∃ j,j=N % n:=⟨_,rfl⟩
         rw [← hi,← hj] at HFOUR
         have e1:(N:Int).tdiv n=i:=by rw [hi]; rfl
         have e2:(N:Int).tmod n=j:=by rw [hj]; rfl
         have e3:IntKind.i64.wrap (i:Int)=i:=IntWalk.i64_in _ (by have:=Nat.div_le_self N n; omega)
         have z1:¬ (n:Int)=0:=by omega
         have z2:¬ n=0:=by omega
         have HI:=Lib.hid hi
         have HJ:=Lib.hid hj
         have hob:ob < wr.heap.size:=HT.out.O.lt
         have hrb:w.heap.size < wr.heap.size:=HT.out.R.lt
         have HQ:Hid (QM w w.heap.size ob wr.heap.size (wr.heap.size + 1) cx cy dj n N N xs ys (.slice a1 N cs) (.slice a2 N cm) (sfC (jx (JXs L) n N) 0) (mfC (jm (JYs L) n N) 0) ((wr.alloc (.cells #[.float .f32 0,.float .f32 0,.float .f32 0,.float .f32 0] 77)).alloc (.cells #[.int .i64 0,.int .i64 0,.int .i64 0,.int .i64 0] 78))):=by
           have ho:=HT.out.old
           have h1:=(Box.new wr (sfC (jx (JXs L) n N) 0) 77).up ho
           have h2:=(Box.new (wr.alloc (.cells (sfC (jx (JXs L) n N) 0) 77)) (mfC (jm (JYs L) n N) 0) 78).up (ho.alloc ho.size _)
           rw [World.size_alloc] at h2
           exact ⟨(HT.out.alloc _).alloc _,h1.alloc _,h2,by omega,by omega,by omega,by omega,by omega,by omega,by omega⟩
         clear hi hj HT
         go_upto_region 10 with fail
         generalize hsb:wr.heap.size=sb at *
         generalize (wr.alloc (.cells #[.float .f32 0,.float .f32 0,.float .f32 0,.float .f32 0] 77)).alloc (.cells #[.int .i64 0,.int .i64 0,.int .i64 0,.int .i64 0] 78)=w5 at *
         have CF:Hid (∀ s:Kw w5,Calls Vp.prog 41 #[.int .i64 n,.int .i64 i,.int .i64 j] s.W fun e w' => e=.returned (.agg (fcC n i j 4)) ∧ ∃ s':Kw w5,w'=s'.W):=fun s => by
           refine (HFOUR.out s.W).mono ?_
           rintro e w' ⟨rfl,hd⟩
           exact ⟨rfl,s.step hd,rfl⟩
         refine wp_region_kept (by kernel_rfl) (by kernel_rfl) ?_
         repeat (go_big_quiet_step ((go_at_call 41; exact CF.out _)))
         refine wpQuiet_nil ?_
         rintro _ ⟨sq,rfl⟩
         replace HQ:=Lib.hid (HQ.out.step sq.h)
         generalize sq.W=w6 at *
         clear sq CF HFOUR e1 e2 e3 z1 z2 hsb
         go_wp2
         go_loopw [47] (fun x wr => ∃ k:Nat,k ≤ 4 ∧ x=.int .i64 k ∧ Hid (QM w w.heap.size ob sb (sb + 1) cx cy dj n N N xs ys (.slice a1 N cs) (.slice a2 N cm) (sfC (jx (JXs L) n N) k) (mfC (jm (JYs L) n N) k) wr)) (fun x _ => (4 - intOf x).toNat)
         case atStart => exact ⟨0,by omega,rfl,HQ⟩
         case round =>
           clear HQ
           obtain ⟨k,hk,rfl,HQ⟩:=hrel
           by_cases hlk:k < 4
           · obtain ⟨t,ht,hx,hy,hq4,hqn,hlx,hly⟩:=HFC.out k hlk
             have hrun:=run_index_four n i j k hlk
             have HQS:=Lib.hid (fun (W:World) (d:Below wr.heap.size wr W) => (HQ.out.step d))
             have JO:=HL.out.own t (List.mem_of_getElem? ht)
             obtain ⟨g1,o1,g2,o2,ha1,ha2,hc1,hc2⟩:=JO.rows hx hy
             obtain ⟨p0,p1,p2,p3,p4⟩:=HL.out.cells5 ht
             rw [ha1,hlx] at p3
             rw [ha2,hly] at p4
             have hqe:jq n N k=qN n i j k:=by rw [HI.out,HJ.out]; rfl
             have hae:jat n N k=aN n i j k:=by rw [HI.out,HJ.out]; rfl
             rw [hqe] at p0 p1 p2 p3 p4 hq4
             rw [hae] at hc1 hc2 hqn
             rw [HNN.out] at p3 p4 hqn
             generalize qN n i j k=q at *
             generalize aN n i j k=at' at *
             have hgl:g < w.heap.size:=World.block_lt_of_cell? w ⟨g,q * 5 + 3,none⟩ p3
             have hg1:g1 < w.heap.size:=World.block_lt_of_cell? w ⟨g1,o1 + at',none⟩ hc1
             have hg2:g2 < w.heap.size:=World.block_lt_of_cell? w ⟨g2,o2 + at',none⟩ hc2
             have hsl:sb < wr.heap.size:=HQ.out.S.lt
             have hml:sb + 1 < wr.heap.size:=HQ.out.M.lt
             obtain ⟨v1,hv1⟩:=sfC_at (jx (JXs L) n N) k hlk
             obtain ⟨v2,hv2⟩:=mfC_at (jm (JYs L) n N) k hlk
             have s1:=HQ.out.S.cell k _ hv1
             have s2:=HQ.out.M.cell k _ hv2
             have f1:=HQ.out.S.frozen k
             have f2:=HQ.out.M.frozen k
             have b1:(q:Int) < 4:=by omega
             have b2:(0:Int) ≤ q:=by omega
             have b3:(at':Int) < nn:=by omega
             have b4:(0:Int) ≤ at':=by omega
             have b5:(k:Int) < 4:=by omega
             have b6:(0:Int) ≤ k:=by omega
             clear JO ht hx hy ha1 ha2 hqe hae hv1 hv2 hlx hly p0 p1 p2
             generalize hjx:jx (JXs L) n N k=xk at *
             generalize hjm:jm (JYs L) n N k=yk at *
             go_upto_region 13 with fail
             have d0:Below wr.heap.size wr (wr.alloc (.cells #[.int .i64 q,.int .i64 at'] 79)):=(Below.refl _ _).alloc (Nat.le_refl _) _
             have A:=Box.new wr #[.int .i64 q,.int .i64 at'] 79
             generalize wr.alloc (.cells #[.int .i64 q,.int .i64 at'] 79)=wa at *
             have hwa:wr.heap.size < wa.heap.size:=A.lt
             generalize wr.heap.size=ab at *
             have a0:wa.cell? ⟨ab,0,none⟩=some (.int .i64 q):=A.cell 0 _ rfl
             have a1':wa.cell? ⟨ab,1,none⟩=some (.int .i64 at'):=A.cell 1 _ rfl
             have HQA:=Lib.hid (HQS.out _ d0)
             have dw:=HQA.out.T.old
             have hsw:=HQA.out.hs
             have p3':wa.cell? ⟨g,q * 5 + 3,none⟩=_:=(dw.cell hgl).trans p3
             have p4':wa.cell? ⟨g,q * 5 + 4,none⟩=_:=(dw.cell hgl).trans p4
             have hc1':wa.cell? ⟨g1,o1 + at',none⟩=_:=(dw.cell hg1).trans hc1
             have hc2':wa.cell? ⟨g2,o2 + at',none⟩=_:=(dw.cell hg2).trans hc2
             have s1':=(d0.cell (p:=⟨sb,k,none⟩) hsl).trans s1
             have s2':=(d0.cell (p:=⟨sb + 1,k,none⟩) hml).trans s2
             have f1':=HQA.out.S.frozen k
             have f2':=HQA.out.M.frozen k
             clear p3 p4 hc1 hc2 s1 s2 f1 f2 HQS HQ A d0 dw
             go_cut [] from 51 to 62 (fun wx => wx=(wa.setCell ⟨sb,k,none⟩ (.float .f32 xk)).drew)
             case first =>
               go_region_with (fail)
               all_goals
                 go_wp2_with fail
                 go_meet
                 with_reducible exact rfl
             case rest =>
               subst hcut
               go_upto_region 14 with fail
               have HQ3:Hid (QM w w.heap.size ob sb (sb + 1) cx cy dj n N N xs ys (.slice a1 N cs) (.slice a2 N cm) (sfC (jx (JXs L) n N) (k + 1)) (mfC (jm (JYs L) n N) (k + 1)) ((wa.setCell ⟨sb,k,none⟩ (.float .f32 xk)).drew.setCell ⟨sb + 1,k,none⟩ (.int .i64 yk)).drew):=by
                 subst hjx hjm
                 exact HQA.out.both hlk ((Drw.refl _).drew.below _) ((Drw.refl _).drew.below _)
               go_region_with (fail)
               all_goals
                 clear HQA p3' p4' hc1' hc2' s1' s2' f1' f2' a0 a1' b1 b2 b3 b4 hjx hjm
                 go_wp2
                 go_roundw
                 case rel => exact ⟨k + 1,by omega,by go_num,HQ3⟩
                 case measure => simp [intOf]; omega
           · obtain rfl:k=4:=by omega
             have Q:=HQ.out
             obtain ⟨sx0,sx1,sx2,sx3⟩:(wr.cell? ⟨sb,0,none⟩=some (.float .f32 (jx (JXs L) n N 0))) ∧ (wr.cell? ⟨sb,1,none⟩=some (.float .f32 (jx (JXs L) n N 1))) ∧ (wr.cell? ⟨sb,2,none⟩=some (.float .f32 (jx (JXs L) n N 2))) ∧ (wr.cell? ⟨sb,3,none⟩=some (.float .f32 (jx (JXs L) n N 3))):=⟨Q.S.cell 0 _ rfl,Q.S.cell 1 _ rfl,Q.S.cell 2 _ rfl,Q.S.cell 3 _ rfl⟩
             obtain ⟨lo,w7,r1,hlo,D1,A1⟩:=Flo.arith_al (P:=Vp.prog) .add (by simp) 63 .f32 (jx (JXs L) n N 0) (jx (JXs L) n N 1) wr
             have Q7:=Q.drw D1
             have sy2:w7.cell? ⟨sb,2,none⟩=some (.float .f32 (jx (JXs L) n N 2)):=Q7.S.cell 2 _ rfl
             have sy3:w7.cell? ⟨sb,3,none⟩=some (.float .f32 (jx (JXs L) n N 3)):=Q7.S.cell 3 _ rfl
             obtain ⟨hi,w8,r2,hhi,D2,A2⟩:=Flo.arith_al (P:=Vp.prog) .add (by simp) 63 .f32 (jx (JXs L) n N 2) (jx (JXs L) n N 3) w7
             have Q8:=Q7.drw D2
             have m0:w8.cell? ⟨sb + 1,0,none⟩=some (.int .i64 (jm (JYs L) n N 0)):=Q8.M.cell 0 _ rfl
             have m1:w8.cell? ⟨sb + 1,1,none⟩=some (.int .i64 (jm (JYs L) n N 1)):=Q8.M.cell 1 _ rfl
             have m2:w8.cell? ⟨sb + 1,2,none⟩=some (.int .i64 (jm (JYs L) n N 2)):=Q8.M.cell 2 _ rfl
             have m3:w8.cell? ⟨sb + 1,3,none⟩=some (.int .i64 (jm (JYs L) n N 3)):=Q8.M.cell 3 _ rfl
             have HJM:Hid (jmark (JYs L) n N=if jm (JYs L) n N 0=jm (JYs L) n N 0 ∧ jm (JYs L) n N 1=jm (JYs L) n N 0 ∧ jm (JYs L) n N 2=jm (JYs L) n N 0 ∧ jm (JYs L) n N 3=jm (JYs L) n N 0 then jm (JYs L) n N 0 else 0):=rfl
             obtain ⟨md,w9,r3,hmd,D3,A3⟩:=Flo.arith_al (P:=Vp.prog) .add (by simp) 63 .f32 lo hi w8
             have Q9:=Q8.drw D3
             obtain ⟨z,w10,r4,hz,D4,A4⟩:=Flo.arith_al (P:=Vp.prog) .quo (by simp) 63 .f32 md 1082130432 w9
             have Q10:=Q9.drw D4
             have HZ:Hid (Al .f32 (jsm (JXs L) n N) z ∧ z < 4294967296):=by
               refine ⟨?_,hz⟩
               unfold jsm jmean
               rw [opC_al A1 A2,opC_al A3 (.inl rfl)]
               exact A4
             have k8:w8.cell? ⟨ob,3,none⟩=some (.slice a1 N cs):=Q8.T.oc.2.2.2.1
             have HQ8:=Lib.hid Q8
             have HQ10:=Lib.hid Q10
             have HD:=Lib.hid (D3.trans D4)
             have hb10:=Q10.T.old.size
             generalize jx (JXs L) n N 0=y0 at *
             generalize jx (JXs L) n N 1=y1 at *
             generalize jx (JXs L) n N 2=y2 at *
             generalize jx (JXs L) n N 3=y3 at *
             generalize jm (JYs L) n N 0=u0 at *
             generalize jm (JYs L) n N 1=u1 at *
             generalize jm (JYs L) n N 2=u2 at *
             generalize jm (JYs L) n N 3=u3 at *
             clear Q Q7 Q8 Q9 Q10 D1 D2 D3 D4 A1 A2 A3 A4 hlo hhi hmd hz HQ HFC
             have heq:=run_eq4 u0 u1 u2 u3 u0 u0 u0 u0 w8
             have heg:∀ (op:BinOp) (x y:Operand) (xs ys:Array Value) (W:World),(eqGuard op 78 x y (.agg xs) (.agg ys)).run Vp.prog W=.ok () W:=fun op x y xs ys W => run_eqGuard_agg W op _ x y xs ys (by kernel_rfl)
             have HMB:Hid (-1 ≤ jmark (JYs L) n N ∧ jmark (JYs L) n N ≤ 1):=jmark_bd (fun q y hy => HF.out.1.marks q y hy) n N
             by_cases hc:u0=u0 ∧ u1=u0 ∧ u2=u0 ∧ u3=u0
             · have HMK:Hid (jmark (JYs L) n N=u0):=by have:=HJM.out; rw [if_pos hc] at this; exact this
               rw [decide_eq_true hc] at heq
               clear hc HJM
               go_upto_region 21 with fail
               have hmk:-1 ≤ (u0:Int) ∧ (u0:Int) ≤ 1:=HMK.out ▸ HMB.out
               go_upto_region 22 with (at_builtin; refine wpList_append_lies _ rfl _ _ _ rfl w.heap.size 63 iF _ 1 4 (Vp.und Tryz.underlying26) hiF hzF0 hzF1 hzF2 rfl (by omega) _ N (xs.map floV) rfl (HQ10.out.T.S.alloc _) ⟨w10.heap.size,0,none⟩ 1 1 [floV z] rfl rfl (World.news_of_block (cs:=#[floV z]) (t:=63) (fr:=(0,0)) (heap_alloc_new w10 _)) (by simp [floV,Value.oneCell']) (by omega) (by unfold maxLen; omega) (by omega) (by simp; omega) (w10.heap.size + 1) (by simp) ?_; intro g6 c6 w11 hown hgrow _ _; obtain ⟨T6,k6,f6⟩:=(HQ10.out.T.alloc _).smooth HZ.out.2 hown hgrow; have HT6:=Lib.hid T6; clear T6 hown hgrow)
               obtain ⟨-,-,-,-,k7⟩:=HT6.out.oc
               obtain ⟨-,-,-,-,k8'⟩:=(HT6.out.alloc (.cells #[.int .i64 u0] 3)).oc
               have hb6:=HT6.out.old.size
               have hob6:=HT6.out.O.lt
               clear k6 f6 k8 heq heg r1 r2 r3 r4 sx0 sx1 sx2 sx3 sy2 sy3 m0 m1 m2 m3 hb10
               generalize w11.setCell ⟨ob,3,none⟩ (.slice (some ⟨g6,0,none⟩) (N + 1) c6)=w12 at *
               go_wp2_with (at_builtin; refine wpList_append_lies _ rfl _ _ _ rfl w.heap.size 3 iI _ 1 8 (Vp.und Tryz.underlying27) hiI hzI0 hzI1 hzI2 rfl (by omega) _ N (ys.map intV) rfl (HT6.out.M.alloc _) ⟨w12.heap.size,0,none⟩ 1 1 [intV u0] rfl rfl (World.news_of_block (cs:=#[intV u0]) (t:=3) (fr:=(0,0)) (heap_alloc_new w12 _)) (by simp [intV,Value.oneCell']) (by omega) (by unfold maxLen; omega) (by omega) (by simp; omega) (w12.heap.size + 1) (by simp) ?_; intro g8 c8 w13 hown hgrow _ _; obtain ⟨T8,k9,f9⟩:=(HT6.out.alloc _).mark hmk hown hgrow; have HT8:=Lib.hid T8; clear T8 hown hgrow)
               go_roundw
               case rel => exact ⟨N + 1,some ⟨g6,0,none⟩,some ⟨g8,0,none⟩,c6,c8,xs ++ [z],ys ++ [u0],by omega,by go_num,HT8,HX.out.snoc HZ.out.1 HZ.out.2,(by have:=jys_snoc (JYs L) n N; rw [HMK.out,← HY.out] at this; exact this.symm)⟩
               case measure => simp [intOf]; omega
             · have HMK:Hid (jmark (JYs L) n N=0):=by have:=HJM.out; rw [if_neg hc] at this; exact this
               rw [decide_eq_false hc] at heq
               clear hc HJM
               go_upto_region 21 with fail
               have hmk:-1 ≤ (0:Int) ∧ (0:Int) ≤ 1:=HMK.out ▸ HMB.out
               go_upto_region 22 with (at_builtin; refine wpList_append_lies _ rfl _ _ _ rfl w.heap.size 63 iF _ 1 4 (Vp.und Tryz.underlying26) hiF hzF0 hzF1 hzF2 rfl (by omega) _ N (xs.map floV) rfl (HQ10.out.T.S.alloc _) ⟨w10.heap.size,0,none⟩ 1 1 [floV z] rfl rfl (World.news_of_block (cs:=#[floV z]) (t:=63) (fr:=(0,0)) (heap_alloc_new w10 _)) (by simp [floV,Value.oneCell']) (by omega) (by unfold maxLen; omega) (by omega) (by simp; omega) (w10.heap.size + 1) (by simp) ?_; intro g6 c6 w11 hown hgrow _ _; obtain ⟨T6,k6,f6⟩:=(HQ10.out.T.alloc _).smooth HZ.out.2 hown hgrow; have HT6:=Lib.hid T6; clear T6 hown hgrow)
               obtain ⟨-,-,-,-,k7⟩:=HT6.out.oc
               obtain ⟨-,-,-,-,k8'⟩:=(HT6.out.alloc (.cells #[.int .i64 0] 3)).oc
               have hb6:=HT6.out.old.size
               have hob6:=HT6.out.O.lt
               clear k6 f6 k8 heq heg r1 r2 r3 r4 sx0 sx1 sx2 sx3 sy2 sy3 m0 m1 m2 m3 hb10
               generalize w11.setCell ⟨ob,3,none⟩ (.slice (some ⟨g6,0,none⟩) (N + 1) c6)=w12 at *
               go_wp2_with (at_builtin; refine wpList_append_lies _ rfl _ _ _ rfl w.heap.size 3 iI _ 1 8 (Vp.und Tryz.underlying27) hiI hzI0 hzI1 hzI2 rfl (by omega) _ N (ys.map intV) rfl (HT6.out.M.alloc _) ⟨w12.heap.size,0,none⟩ 1 1 [intV 0] rfl rfl (World.news_of_block (cs:=#[intV 0]) (t:=3) (fr:=(0,0)) (heap_alloc_new w12 _)) (by simp [intV,Value.oneCell']) (by omega) (by unfold maxLen; omega) (by omega) (by simp; omega) (w12.heap.size + 1) (by simp) ?_; intro g8 c8 w13 hown hgrow _ _; obtain ⟨T8,k9,f9⟩:=(HT6.out.alloc _).mark hmk hown hgrow; have HT8:=Lib.hid T8; clear T8 hown hgrow)
               go_roundw
               case rel => exact ⟨N + 1,some ⟨g6,0,none⟩,some ⟨g8,0,none⟩,c6,c8,xs ++ [z],ys ++ [0],by omega,by go_num,HT8,HX.out.snoc HZ.out.1 HZ.out.2,(by have:=jys_snoc (JYs L) n N; rw [HMK.out,← HY.out] at this; exact this.symm)⟩
               case measure => simp [intOf]; omega
       · obtain rfl:N=nn:=by omega
         obtain ⟨c0,c1,c2,c3,c4⟩:=HT.out.rc
         obtain ⟨f0,f1,f2,f3,f4⟩:=HT.out.R.free5
         obtain ⟨o0,o1,o2,o3,o4⟩:=HT.out.oc
         have hne:=HT.out.ne
         go_wp2
         exact bodyPost_ret (v:=.tuple #[.agg #[.complex .f32 cx cy,.int .i64 dj,.int .i64 n,.slice a1 N cs,.slice a2 N cm],.bool true]) (by simp [results,Tryz.f16,go_sem,c0,c1,c2,c3,c4]) rfl (JoinRes.yes HN.out HNN.out.symm HCX.out.symm HCY.out.symm HDJ.out (set5 HT.out.old (Nat.le_refl _) _ _ _ _ _) HF.out (HT.out.made HNN.out.symm _ _ _ _ _) HX.out HY.out)
end Go.Proofs.YtokbalggdhippaaGreat
end

section
namespace Go.Proofs.YtokbalggdhippaaGreat
open Go.RowKit
set_option maxHeartbeats 1000000 in
theorem sameInts_same (a b:Option Addr) (ca cb:Nat) (xs:List Int) (hn:xs.length ≤ 1048576) (w:World) (ha:Sl w a (xs.map intV)) (hb:Sl w b (xs.map intV)) :
   Calls Vp.prog 32 #[.slice a xs.length ca,.slice b xs.length cb] w fun e w' => e=.returned (.bool true) ∧ Drw w w':=by
 obtain ⟨n,hnn⟩:∃ n,xs.length=n:=⟨_,rfl⟩
 have HX:Hid (∀ k,k < n → ∃ x,(xs.map intV)[k]?=some (.int .i64 x)):=fun k h => ⟨xs[k]'(by omega),by rw [List.getElem?_map,List.getElem?_eq_getElem (by omega)]; rfl⟩
 have HA:=Lib.hid ha
 have HB:=Lib.hid hb
 rw [hnn] at hn ⊢
 clear ha hb hnn
 go_enter Vp.func32,Tryz.ntmps32
 go_wp2
 go_loopw [5] (fun i wr => ∃ k:Nat,k ≤ n ∧ i=.int .i64 k ∧ Hid (Drw w wr)) (fun i _ => (n - intOf i).toNat)
 case atStart => exact ⟨0,by omega,rfl,Drw.refl _⟩
 case round =>
   obtain ⟨k,hk,rfl,HD⟩:=hrel
   by_cases hlt:k < n
   · obtain ⟨x,hx⟩:=HX.out k hlt
     obtain ⟨b1,o1,rfl,hc1⟩:=(HA.out.drw HD.out).at hx
     obtain ⟨b2,o2,rfl,hc2⟩:=(HB.out.drw HD.out).at hx
     clear hx
     go_upto_region 6 with fail
     go_quiet (fail)
     have HD2:=Lib.hid (HD.out.drewN nq)
     go_wp2
     go_roundw
     case rel => exact ⟨k + 1,by omega,by go_num,HD2⟩
     case measure => simp [intOf]; omega
   · go_wp2
     go_ret
     exact ⟨rfl,HD.out⟩
end Go.Proofs.YtokbalggdhippaaGreat
end
