/- Merged texts: TsB, TsC, TsD. -/
import Derived.Test.YtokbalggdhippaaGreatR49
import Derived.Test.YtokbalggdhippaaGreatR45
import Derived.Test.YtokbalggdhippaaGreatR44
set_option linter.all false
section
namespace Go.Proofs.YtokbalggdhippaaGreat
open Go.RowKit Flo
attribute [local go_sem ↓] Go.wp_at_zero Go.wp_at_succ
attribute [local go_sem] run_store_float run_store_complex
set_option maxRecDepth 100000 in
set_option maxHeartbeats 4000000 in
theorem sameTiles_nil (a b:Option Addr) (c c':Nat) (w:World):Calls Vp.prog 15 #[.slice a 0 c,.slice b 0 c'] w fun e w' => e=.returned (.bool true) ∧ w=w':=by
 go_enter Vp.func15,Tryz.ntmps15
 go_wp2
 go_loopw [5] (fun i wr => i=.int .i64 0 ∧ w=wr) (fun i _ => (0 - intOf i).toNat)
 case atStart => exact ⟨rfl,rfl⟩
 case round =>
   obtain ⟨rfl,rfl⟩:=hrel
   go_wp2
   go_ret
   exact ⟨rfl,(by first | rfl | trivial)⟩
def TLs (B g cap:Nat) (L:List TRec) (W:World):Prop:=TList B L (.slice (some ⟨g,0,none⟩) L.length cap) W
set_option maxRecDepth 100000 in
set_option maxHeartbeats 8000000 in
theorem sameTiles_is (B B' g g' cap cap':Nat) (most:Int) (L M:List TRec) (hl:L.length=4) (hm:M.length=4) (w:World) (hL:TLs B g cap L w) (hM:TLs B' g' cap' M w)
   (hp:∀ (k:Nat) (t u:TRec),L[k]?=some t → M[k]?=some u → TGood most t ∧ TGood most u ∧ t.cx=u.cx ∧ t.cy=u.cy ∧ t.deep=u.deep ∧ t.size=u.size) :
   Calls Vp.prog 15 #[.slice (some ⟨g,0,none⟩) 4 cap,.slice (some ⟨g',0,none⟩) 4 cap'] w fun e w' => e=.returned (.bool true) ∧ Below w.heap.size w w':=by
 have HL:=Lib.hid hL
 have HM:=Lib.hid hM
 have HP:=Lib.hid hp
 have HA:Hid (∀ k,k < 4 → ∃ t u,L[k]?=some t ∧ M[k]?=some u):=fun k hk => ⟨_,_,List.getElem?_eq_getElem (by omega),List.getElem?_eq_getElem (by omega)⟩
 clear hL hM hp hl hm
 go_enter Vp.func15,Tryz.ntmps15
 go_wp2
 go_loopw [5] (fun i wr => ∃ k:Nat,k ≤ 4 ∧ i=.int .i64 k ∧ Hid (Below w.heap.size w wr)) (fun i _ => (4 - intOf i).toNat)
 case atStart => exact ⟨0,by omega,rfl,Below.refl _ _⟩
 case round =>
   obtain ⟨k,hk,rfl,HB⟩:=hrel
   by_cases hlt:k < 4
   · obtain ⟨t,u,ht,hu⟩:=HA.out k hlt
     obtain ⟨g1,g2,e1,e2,e3,e4⟩:=HP.out k t u ht hu
     have HT:=Lib.hid ht
     have HU:=Lib.hid hu
     obtain ⟨c0,c1,c2,c3,c4⟩:(∀ s:Kw wr,s.W.cell? ⟨g,k * 5,none⟩=some (.complex .f32 t.cx t.cy)) ∧ (∀ s:Kw wr,s.W.cell? ⟨g,k * 5 + 1,none⟩=some (.int .i64 t.deep)) ∧ (∀ s:Kw wr,s.W.cell? ⟨g,k * 5 + 2,none⟩=some (.int .i64 t.size)) ∧ (∀ s:Kw wr,s.W.cell? ⟨g,k * 5 + 3,none⟩=some (.slice (some ⟨t.gs,0,none⟩) t.n t.cs)) ∧ (∀ s:Kw wr,s.W.cell? ⟨g,k * 5 + 4,none⟩=some (.slice (some ⟨t.gm,0,none⟩) t.n t.cm)):=by
       have J:=fun s:Kw wr => TList.cells ((HL.out.step HB.out).step s.h) HT.out
       exact ⟨fun s => (J s).1,fun s => (J s).2.1,fun s => (J s).2.2.1,fun s => (J s).2.2.2.1,fun s => (J s).2.2.2.2⟩
     obtain ⟨d0,d1,d2,d3,d4⟩:(∀ s:Kw wr,s.W.cell? ⟨g',k * 5,none⟩=some (.complex .f32 u.cx u.cy)) ∧ (∀ s:Kw wr,s.W.cell? ⟨g',k * 5 + 1,none⟩=some (.int .i64 u.deep)) ∧ (∀ s:Kw wr,s.W.cell? ⟨g',k * 5 + 2,none⟩=some (.int .i64 u.size)) ∧ (∀ s:Kw wr,s.W.cell? ⟨g',k * 5 + 3,none⟩=some (.slice (some ⟨u.gs,0,none⟩) u.n u.cs)) ∧ (∀ s:Kw wr,s.W.cell? ⟨g',k * 5 + 4,none⟩=some (.slice (some ⟨u.gm,0,none⟩) u.n u.cm)):=by
       have J:=fun s:Kw wr => TList.cells ((HM.out.step HB.out).step s.h) HU.out
       exact ⟨fun s => (J s).1,fun s => (J s).2.1,fun s => (J s).2.2.1,fun s => (J s).2.2.2.1,fun s => (J s).2.2.2.2⟩
     have CW:Hid (∀ s:Kw wr,Calls Vp.prog 10 #[.agg #[.complex .f32 t.cx t.cy,.int .i64 t.deep,.int .i64 t.size,.slice (some ⟨t.gs,0,none⟩) t.n t.cs,.slice (some ⟨t.gm,0,none⟩) t.n t.cm],.agg #[.complex .f32 u.cx u.cy,.int .i64 u.deep,.int .i64 u.size,.slice (some ⟨u.gs,0,none⟩) u.n u.cs,.slice (some ⟨u.gm,0,none⟩) u.n u.cm]] s.W fun e w' => e=.returned (.bool true) ∧ ∃ s':Kw wr,w'=s'.W):=fun s => by
       refine (sameRecs (((HL.out.step HB.out).step s.h).own t (List.mem_of_getElem? HT.out)) (((HM.out.step HB.out).step s.h).own u (List.mem_of_getElem? HU.out)) g1 g2 e1 e2 e3 e4).mono ?_
       rintro e w' ⟨rfl,hd⟩
       exact ⟨rfl,s.step hd,rfl⟩
     have i1:(k:Int) < 4:=by omega
     have i0:(0:Int) ≤ k:=by omega
     clear g1 g2 e1 e2 e3 e4 ht hu
     go_upto_region 6 with fail
     refine wp_region_kept (by kernel_rfl) (by kernel_rfl) ?_
     repeat (go_big_quiet_step ((go_at_call 10; exact CW.out _)))
     refine wpQuiet_nil ?_
     rintro _ ⟨sq,rfl⟩
     have HB3:=Lib.hid (HB.out.trans (sq.h.mono HB.out.size))
     go_wp2
     go_roundw
     case rel => exact ⟨k + 1,by omega,by go_num,HB3⟩
     case measure => simp [intOf]; omega
   · go_wp2
     go_ret
     exact ⟨rfl,HB.out⟩
def SplitNo (w:World) (e:Ending) (w':World):Prop:=(∃ a0 c0,e=.returned (.tuple #[.slice a0 0 c0,.bool false])) ∧ Below w.heap.size w w'
set_option maxRecDepth 100000 in
set_option maxHeartbeats 4000000 in
theorem specSplit_no (cx cy d:Nat) (s most:Int) (hx:cx < 4294967296) (hy:cy < 4294967296) (hp:placeB cx cy d s=true) (a a':Option Addr) (n c c':Nat) (ys:List Int) (hl:ys.length ≤ 1048576) (hwell:wellB s n ys=false) (w:World) (hs:Sl w a' (ys.map intV)) :
   Calls Vp.prog 14 #[.agg #[.complex .f32 cx cy,.int .i64 d,.int .i64 s,.slice a n c,.slice a' ys.length c'],.int .i64 most] w (SplitNo w):=by
 have R:=(Box.new w #[.complex .f32 cx cy,.int .i64 d,.int .i64 s,.slice a n c,.slice a' ys.length c'] 29).alloc (.cells #[] 29)
 have HW:=Lib.hid (fun W (hW:Below w.heap.size w W) => specWell_is cx cy d s hx hy hp a a' n c c' ys hl W (hs.step hW))
 rw [hwell] at HW
 clear hwell hs hp
 have HR:=Lib.hid R
 obtain ⟨r0,r1,r2,r3,r4⟩:=R.cells5
 have hwl:=R.lt
 clear R
 go_enter Vp.func14,Tryz.ntmps14
 go_wp2_with fail
 refine (HW.out _ HR.out.old).mono ?_
 rintro e w1 ⟨rfl,hd1⟩
 have HB:=Lib.hid (HR.out.step hd1).old
 clear hd1 r0 r1 r2 r3 r4
 go_wp2
 go_ret2
 exact ⟨⟨_,_,rfl⟩,by first | exact HB.out | exact HB.out.alloc HB.out.size _⟩
set_option maxRecDepth 100000 in
set_option maxHeartbeats 4000000 in
theorem implSplit_no (cx cy d:Nat) (s most:Int) (hx:cx < 4294967296) (hy:cy < 4294967296) (hp:placeB cx cy d s=true) (a a':Option Addr) (n c c':Nat) (ys:List Int) (hl:ys.length ≤ 1048576) (hwell:wellB s n ys=false) (w:World) (hs:Sl w a' (ys.map intV)) :
   Calls Vp.prog 13 #[.agg #[.complex .f32 cx cy,.int .i64 d,.int .i64 s,.slice a n c,.slice a' ys.length c'],.int .i64 most] w (SplitNo w):=by
 have R:=Box.new w #[.complex .f32 cx cy,.int .i64 d,.int .i64 s,.slice a n c,.slice a' ys.length c'] 29
 have HW:=Lib.hid (fun W (hW:Below w.heap.size w W) => implWell_is cx cy d s hx hy hp a a' n c c' ys hl W (hs.step hW))
 rw [hwell] at HW
 clear hwell hs hp
 have HR:=Lib.hid R
 obtain ⟨r0,r1,r2,r3,r4⟩:=R.cells5
 have hwl:=R.lt
 clear R
 go_enter Vp.func13,Tryz.ntmps13
 go_wp2_with fail
 refine (HW.out _ HR.out.old).mono ?_
 rintro e w1 ⟨rfl,hd1⟩
 have HB:=Lib.hid (HR.out.step hd1).old
 clear hd1 r0 r1 r2 r3 r4
 go_wp2
 go_ret2
 exact ⟨⟨_,_,rfl⟩,by first | exact HB.out | exact HB.out.alloc HB.out.size _⟩
end Go.Proofs.YtokbalggdhippaaGreat
end

section
namespace Go.Proofs.YtokbalggdhippaaGreat
open Go.RowKit Flo
theorem TOwn.well {B:Nat} {t:TRec} {W:World} {most:Int} (h:TOwn B t W) (g:TGood most t):wellB t.size t.xs.length t.ys=true:=by
 obtain ⟨d,s,hd,hs,hn,s1,s8,d10⟩:=g.n
 obtain ⟨l1,l2⟩:=h.lens
 refine wellB_ok (by rw [l1,hn,hs]; simp) (by rw [l2,l1]) fun j hj => ?_
 have:=h.made.hy t.ys[j] (List.getElem_mem hj)
 unfold markB inB
 simp only [Bool.and_eq_true,decide_eq_true_eq]
 exact this
structure FourT (cx cy d:Nat) (s most:Int) (L:List TRec):Prop where
 len:L.length=4
 at_:∀ (k:Nat) (t:TRec),L[k]?=some t → t.cx=(quart cx cy d s k).1 ∧ t.cy=(quart cx cy d s k).2 ∧ t.deep=(d:Int) + 1 ∧ t.size=s ∧ TGood most t
theorem FourT.mkp {cx cy d:Nat} {s most:Int} {L:List TRec} (h:FourT cx cy d s most L) (k:Nat) (hk:k < 4):MkP (quart cx cy d s k).1 (quart cx cy d s k).2 ((d:Int) + 1) s:=by
 obtain ⟨t,ht⟩:∃ t,L[k]?=some t:=⟨_,List.getElem?_eq_getElem (by rw [h.len]; exact hk)⟩
 obtain ⟨e1,e2,e3,e4,d',s',a,b,h1,h2,h3,-,-⟩:=h.at_ k t ht
 exact ⟨d',s',a,b,by omega,by omega,by rw [← e1,← e2]; exact h3⟩
theorem FourT.pair {cx cy d:Nat} {s most:Int} {L M:List TRec} (h:FourT cx cy d s most L) (g:FourT cx cy d s most M) (k:Nat) (t u:TRec) (ht:L[k]?=some t) (hu:M[k]?=some u):TGood most t ∧ TGood most u ∧ t.cx=u.cx ∧ t.cy=u.cy ∧ t.deep=u.deep ∧ t.size=u.size:=by
 obtain ⟨a1,a2,a3,a4,a5⟩:=h.at_ k t ht
 obtain ⟨b1,b2,b3,b4,b5⟩:=g.at_ k u hu
 exact ⟨a5,b5,a1.trans b1.symm,a2.trans b2.symm,a3.trans b3.symm,a4.trans b4.symm⟩
theorem FourT.d9 {cx cy d:Nat} {s most:Int} {L:List TRec} (h:FourT cx cy d s most L):d ≤ 9:=by
 obtain ⟨d',s',a,b,h1,h2,h3⟩:=h.mkp 0 (by omega)
 have:=h3.d10
 omega
theorem FourT.fit {cx cy d:Nat} {s most:Int} {L:List TRec} {B g cap:Nat} {W:World} (h:FourT cx cy d s most L) (hp:placeB cx cy d s=true) (hL:TLs B g cap L W) {t0:TRec} (h0:L[0]?=some t0):FitW (L.map JT.of) (JT.of t0):=by
 obtain ⟨a1,a2,a3,a4,a5⟩:=h.at_ 0 t0 h0
 have e1:(JT.of t0).cx=cx:=a1
 have e2:(JT.of t0).cy=cy:=a2
 have e3:(JT.of t0).deep=(d:Int) + 1:=a3
 have e4:(JT.of t0).size=s:=a4
 refine ⟨⟨by rw [List.length_map]; exact h.len,by rw [List.getElem?_map,h0]; rfl,fun k t ht => ?_,fun k t ht => ?_⟩,?_⟩
 · rw [List.getElem?_map] at ht
   obtain ⟨u,hu,rfl⟩:=Option.map_eq_some_iff.1 ht
   obtain ⟨b1,b2,b3,b4,b5⟩:=h.at_ k u hu
   have hw:=(hL.own u (List.mem_of_getElem? hu)).well b5
   unfold gdB
   rw [e3,e4]
   show (wellB u.size u.xs.length u.ys && decide (u.size=s) && decide (u.deep=(d:Int) + 1) && !decide (u.deep=0))=true
   rw [hw,decide_eq_true b4,decide_eq_true b3,decide_eq_false (by omega)]
   rfl
 · rw [List.getElem?_map] at ht
   obtain ⟨u,hu,rfl⟩:=Option.map_eq_some_iff.1 ht
   obtain ⟨b1,b2,b3,b4,d',s',a,b,g1,g2,g3,-,-⟩:=h.at_ k u hu
   unfold corB
   rw [e1,e2,e3,e4,show ((d:Int) + 1 - 1).toNat=d from by omega,← b1,← b2]
   unfold eqcB
   show ((FloatKind.f32.format.order u.cx u.cx == some .eq) && (FloatKind.f32.format.order u.cy u.cy == some .eq))=true
   have q1:=order_eq_val (k:=.f32) g3.px g3.px
   have q2:=order_eq_val (k:=.f32) g3.py g3.py
   rw [q1,q2]
   simp
 · unfold placeJ
   rw [e1,e2,e3,e4,show ((d:Int) + 1 - 1)=d from by omega]
   exact hp
structure Whl (cx cy d:Nat) (s:Int) (most:Int) (ok:Bool) (zs:List Int):Prop where
 len:zs.length ≤ 64
 ok1:0 < zs.length → ok=true
 at_:∀ (k:Nat) (y:Int),zs[k]?=some y → ∃ (s':Nat) (A B:Int),s=s' ∧ MkT cx cy d s' A B ∧ k < s' * s' ∧ y=stT A B d most (k / s') (k % s')
theorem whole_of {w w':World} {cx cy d:Nat} {s most:Int} {ok:Bool} {x y:Nat} {dd ss:Int} {a1:Option Addr} {n1 c1:Nat} {a2:Option Addr} {n2 c2:Nat} (h:MakeRes2 w cx cy d s most ok (.agg #[.complex .f32 x y,.int .i64 dd,.int .i64 ss,.slice a1 n1 c1,.slice a2 n2 c2]) w') :
   ∃ zs:List Int,n2=zs.length ∧ Sl w' a2 (zs.map intV) ∧ Whl cx cy d s most ok zs:=by
 cases ok with
 | false =>
   obtain ⟨-,e⟩:=h.1 rfl
   injection e with e
   have e:=congrArg Array.toList e
   simp only [List.cons.injEq,and_true,Value.slice.injEq] at e
   obtain ⟨-,-,-,-,rfl,rfl,rfl⟩:=e
   exact ⟨[],rfl,.inl rfl,by decide,fun h => by simp at h,fun k y h => by simp at h⟩
 | true =>
   obtain ⟨t,e1,e2,e3,e4,e5,ht,d',s',A,B,g1,g2,g3,g4,g5⟩:=h.2 rfl
   injection e5 with e5
   have e5:=congrArg Array.toList e5
   unfold TRec.cells at e5
   simp only [List.cons.injEq,and_true,Value.slice.injEq] at e5
   obtain ⟨-,-,-,-,rfl,rfl,rfl⟩:=e5
   obtain ⟨l1,l2⟩:=ht.lens
   have hs8:=g3.s8
   have hl:t.ys.length=s' * s':=by rw [g5,rowsOf_len]
   have hss:s' * s' ≤ 64:=Nat.mul_le_mul hs8 hs8
   refine ⟨t.ys,l2.symm,sl_of_own ht.made.M,by omega,fun _ => rfl,fun k y hk => ?_⟩
   have hk':k < s' * s':=by rw [← hl]; exact (List.getElem?_eq_some_iff.1 hk).1
   obtain rfl:d'=d:=by omega
   refine ⟨s',A,B,by omega,?_,hk',?_⟩
   · rw [← e1,← e2]; exact g3
   · rw [g5,rowsOf_get s' _ hk'] at hk
     exact (Option.some.inj hk).symm
theorem FourT.mark {cx cy d:Nat} {s most:Int} {L:List TRec} (h:FourT cx cy d s most L) (hm:most ≤ 30) {ok:Bool} {zs:List Int} (hw:Whl cx cy d s most ok zs) {n:Nat} (hn:s=n) {k:Nat} {y:Int} (hk:zs[k]?=some y) (hy:y ≠ 0):(jys (JYs (L.map JT.of)) n)[k]?=some y:=by
 obtain ⟨s',A,B,e,hM,hk',rfl⟩:=hw.at_ k y hk
 obtain rfl:s'=n:=by omega
 rw [jys_at _ hk']
 have hmm:(mostN most).toNat ≤ 31:=by unfold mostN; omega
 have d9:=h.d9
 rw [join_mark hmm hM (fun q hq => ?_) hk' hy]
 obtain ⟨t,ht⟩:∃ t,L[q]?=some t:=⟨_,List.getElem?_eq_getElem (by rw [h.len]; exact hq)⟩
 have hJ:(L.map JT.of)[q]?=some (JT.of t):=by rw [List.getElem?_map,ht]; rfl
 rw [JYs_at hJ]
 obtain ⟨b1,b2,b3,b4,b5⟩:=h.at_ q t ht
 rw [e] at b1 b2 b4
 exact four_rows d9 hM.s8 hM.px hM.py hM.ha hM.hb hq b5 b1 b2 b3 b4
end Go.Proofs.YtokbalggdhippaaGreat
end

section
namespace Go.Proofs.YtokbalggdhippaaGreat
open Go.RowKit Flo
attribute [local go_sem ↓] Go.wp_at_zero Go.wp_at_succ
attribute [local go_sem] run_store_float run_store_complex
theorem SplitV.parts {w w':World} {cx cy d:Nat} {s most:Int} {e:Ending} (h:SplitV w cx cy d s most e w') :
   (∃ a0 c0,e=.returned (.tuple #[.slice a0 0 c0,.bool false]) ∧ (∃ k,k < 4 ∧ ¬ MkP (quart cx cy d s k).1 (quart cx cy d s k).2 ((d:Int) + 1) s) ∧ Below w.heap.size w w') ∨
   (∃ (L:List TRec) (g cap:Nat),e=.returned (.tuple #[.slice (some ⟨g,0,none⟩) 4 cap,.bool true]) ∧ TLs w.heap.size g cap L w' ∧ FourT cx cy d s most L ∧ Below w.heap.size w w'):=by
 obtain ⟨⟨a0,c0,rfl,k,hk,hno⟩ | ⟨L,v,rfl,hL,hl,hat⟩,hb⟩:=h
 · exact .inl ⟨a0,c0,rfl,⟨k,hk,hno⟩,hb⟩
 · obtain ⟨g,cap,rfl,-,-⟩:=ownsRow_form hL.row (by omega)
   refine .inr ⟨L,g,cap,by rw [hl],hL,⟨hl,hat⟩,hb⟩
theorem one_none {cx cy d:Nat} {s most:Int} {L:List TRec} (h:FourT cx cy d s most L) (g:∃ k,k < 4 ∧ ¬ MkP (quart cx cy d s k).1 (quart cx cy d s k).2 ((d:Int) + 1) s):False:=by
 obtain ⟨k,hk,hno⟩:=g
 exact hno (h.mkp k hk)
set_option maxRecDepth 100000 in
set_option maxHeartbeats 16000000 in
theorem FnTileSplit_walk (w:World) (a:Option Addr) (c:Nat) (bs:List UInt8) (_:bs.length ≤ maxLen) (hc:bs.length ≤ c) (hs:Sl w a (bs.map byteV)) :
   Calls Vp.prog 4 #[.slice a bs.length c] w fun e _ => e=.returned (.bool true):=by
 by_cases hb:1048576 < bs.length
 · go_enter Vp.func4,Tryz.ntmps4
   go_wp2
   go_ret
   rfl
 have H:=Lib.hid (drawTileSplit_any a c bs (by omega) hc w hs)
 clear hs
 go_enter Vp.func4,Tryz.ntmps4
 go_wp2_with fail
 refine H.out.mono ?_
 rintro e w1 ⟨⟨a1,c1,a2,c2,cx,cy,deep,size,xs,ys,most,rfl,m0,m1,T⟩,hd⟩
 obtain ⟨l1,l2,l3,l4,l5,l6,l7,l8⟩:=T.lim
 obtain ⟨d,rfl⟩:=Int.eq_ofNat_of_zero_le l3
 have T1:=T.step ((Below.refl _ _).alloc (Nat.le_refl _) (.cells #[.complex .f32 cx cy,.int .i64 d,.int .i64 size,.slice a1 xs.length c1,.slice a2 ys.length c2] 29))
 have HT:=Lib.hid T1
 have X:=Box.new w1 #[.complex .f32 cx cy,.int .i64 d,.int .i64 size,.slice a1 xs.length c1,.slice a2 ys.length c2] 29
 have HX:=Lib.hid X
 obtain ⟨x0,x1,x2,x3,x4⟩:=X.cells5
 have HSN:=Lib.hid (fun (hwb:wellB size xs.length ys=false) (W:World) (k:Sl W a2 (ys.map intV)) => specSplit_no cx cy d size most T.bx T.by1 T.pl a1 a2 xs.length c1 c2 ys (by omega) hwb W k)
 have HSV:=Lib.hid (fun (hwb:wellB size xs.length ys=true) (W:World) (k:Sl W a2 (ys.map intV)) => specSplit_val cx cy d size most T.bx T.by1 T.pl a1 a2 xs.length c1 c2 ys (by omega) hwb W k)
 have HIN:=Lib.hid (fun (hwb:wellB size xs.length ys=false) (W:World) (k:Sl W a2 (ys.map intV)) => implSplit_no cx cy d size most T.bx T.by1 T.pl a1 a2 xs.length c1 c2 ys (by omega) hwb W k)
 have HIV:=Lib.hid (fun (hwb:wellB size xs.length ys=true) (W:World) (k:Sl W a2 (ys.map intV)) => implSplit_val cx cy d size most T.bx T.by1 T.pl a1 a2 xs.length c1 c2 ys (by omega) hwb W k)
 have HMC:=Lib.hid (fun W => implMakeC cx cy d size most T.bx T.by1 W)
 have HM1:=Lib.hid m1
 have HLm:=Lib.hid l1
 have HLm2:=Lib.hid l2
 clear H hd T T1 X m0 m1 l1 l2 l3 l4 l5 l6 l7 l8
 have HNIL:=Lib.hid sameTiles_nil
 cases hwb:wellB size xs.length ys with
 | false =>
   have HI:=Lib.hid (HIN.out hwb _ HT.out.s2)
   have HS:=Lib.hid (fun W => HSN.out hwb W)
   clear hwb HSN HSV HIN HIV
   go_wp2_with fail
   refine HI.out.mono ?_
   rintro e w2 ⟨⟨a0,c0,rfl⟩,hb2⟩
   have HX2:=Lib.hid (HX.out.step hb2)
   have HT2:=Lib.hid (HT.out.step hb2)
   clear x0 x1 x2 x3 x4 hb2
   obtain ⟨x0,x1,x2,x3,x4⟩:=HX2.out.cells5
   go_wp2_with fail
   refine (HS.out _ HT2.out.s2).mono ?_
   rintro e w3 ⟨⟨a0',c0',rfl⟩,hb3⟩
   clear x0 x1 x2 x3 x4 hb3
   go_wp2_with fail
   refine (HNIL.out _ _ _ _ _).mono ?_
   rintro e w4 ⟨rfl,rfl⟩
   go_wp2_with fail
   refine (HNIL.out _ _ _ _ _).mono ?_
   rintro e w4 ⟨rfl,rfl⟩
   go_wp2
   go_ret
   rfl
 | true =>
   have HI:=Lib.hid (HIV.out hwb _ HT.out.s2)
   have HS:=Lib.hid (fun W => HSV.out hwb W)
   clear hwb HSN HSV HIN HIV
   go_wp2_with fail
   refine HI.out.mono ?_
   intro e w2 h2
   obtain ⟨a0,c0,rfl,hno,hb2⟩ | ⟨L,g,cap,rfl,hL,hF,hb2⟩:=h2.parts
   · have HNO:=Lib.hid hno
     have HX2:=Lib.hid (HX.out.step hb2)
     have HT2:=Lib.hid (HT.out.step hb2)
     clear x0 x1 x2 x3 x4 hb2 h2 hno
     obtain ⟨x0,x1,x2,x3,x4⟩:=HX2.out.cells5
     go_wp2_with fail
     refine (HS.out _ HT2.out.s2).mono ?_
     intro e w3 h3
     obtain ⟨a0',c0',rfl,-,hb3⟩ | ⟨L,g,cap,rfl,hL,hF,hb3⟩:=h3.parts
     · clear x0 x1 x2 x3 x4 hb3 h3
       go_wp2_with fail
       refine (HNIL.out _ _ _ _ _).mono ?_
       rintro e w4 ⟨rfl,rfl⟩
       go_wp2_with fail
       refine (HNIL.out _ _ _ _ _).mono ?_
       rintro e w4 ⟨rfl,rfl⟩
       go_wp2
       go_ret
       rfl
     · exact (one_none hF HNO.out).elim
   · have HF:=Lib.hid hF
     have HL:=Lib.hid hL
     have HX2:=Lib.hid (HX.out.step hb2)
     have HT2:=Lib.hid (HT.out.step hb2)
     clear x0 x1 x2 x3 x4 hb2 h2 hL hF
     obtain ⟨x0,x1,x2,x3,x4⟩:=HX2.out.cells5
     go_wp2_with fail
     refine (HS.out _ HT2.out.s2).mono ?_
     intro e w3 h3
     obtain ⟨a0',c0',rfl,hno,-⟩ | ⟨M,g',cap',rfl,hM,hG,hb3⟩:=h3.parts
     · exact (one_none HF.out hno).elim
     · have HX3:=Lib.hid (HX2.out.step hb3)
       have HL3:Hid (TLs _ g cap L w3):=TList.step HL.out hb3
       have HC:=Lib.hid (sameTiles_is _ _ g g' cap cap' most L M HF.out.len hG.len w3 HL3.out hM fun k t u ht hu => HF.out.pair hG k t u ht hu)
       clear x0 x1 x2 x3 x4 hb3 h3 hM hG
       go_wp2_with fail
       refine HC.out.mono ?_
       rintro e w4 ⟨rfl,hb4⟩
       have HX4:=Lib.hid (HX3.out.step hb4)
       have HL4:Hid (TLs _ g cap L w4):=TList.step HL3.out hb4
       clear hb4 HC HX3 HL3 HX2 HL HS HI HX
       obtain ⟨x0,x1,x2,x3,x4⟩:=HX4.out.cells5
       go_wp2_with fail
       refine (HMC.out _).mono ?_
       rintro e w5 ⟨⟨x,y,dd,ss,b1,n1,e1,b2,n2,e2,ok,rfl,hM⟩,hb5⟩
       obtain ⟨zs,rfl,hz,hW⟩:=whole_of hM
       have Y:=Box.new w5 #[.complex .f32 x y,.int .i64 dd,.int .i64 ss,.slice b1 n1 e1,.slice b2 zs.length e2] 29
       have k5:Below w5.heap.size w5 (w5.alloc (.cells #[.complex .f32 x y,.int .i64 dd,.int .i64 ss,.slice b1 n1 e1,.slice b2 zs.length e2] 29)):=(Below.refl _ _).alloc (Nat.le_refl _) _
       have HY:=Lib.hid Y
       have HZ:=Lib.hid (hz.step k5)
       have HW:=Lib.hid hW
       have HL5:Hid (TLs _ g cap L (w5.alloc (.cells #[.complex .f32 x y,.int .i64 dd,.int .i64 ss,.slice b1 n1 e1,.slice b2 zs.length e2] 29))):=TList.step (TList.step HL4.out hb5) k5
       obtain ⟨t0,ht0⟩:∃ t,L[0]?=some t:=⟨_,List.getElem?_eq_getElem (by rw [HF.out.len]; omega)⟩
       have HFT:=Lib.hid (HF.out.fit HT.out.pl HL5.out ht0)
       have HJ:=implJoin_is _ g cap (L.map JT.of) (JT.of t0) (by rw [List.getElem?_map,ht0]; rfl) (by rw [List.length_map,HF.out.len]; omega) _ (TList.jin HL5.out)
       rw [List.length_map,HF.out.len] at HJ
       obtain ⟨n,hn⟩:=Int.eq_ofNat_of_zero_le (show 0 ≤ size by have:=HLm.out; omega)
       have HN:=Lib.hid hn
       have hn1:1 ≤ n:=by have:=HLm.out; omega
       have HT0:Hid ((JT.of t0).size=n):=by
         have:=(HF.out.at_ 0 t0 ht0).2.2.2.1
         exact this.trans hn
       replace HJ:=Lib.hid HJ
       clear x0 x1 x2 x3 x4 hM hb5 hz hW Y k5 HL4 HX4 ht0 hn HMC
       obtain ⟨y0,y1,y2,y3,y4⟩:=HY.out.cells5
       go_wp2_with fail
       refine HJ.out.mono ?_
       intro e w6 h6
       obtain ⟨f1,q1,f2,q2,us,vs,rfl,hO,hb6⟩:=h6.fit HFT.out HT0.out hn1
       generalize (JT.of t0).cx=jx at *
       generalize (JT.of t0).cy=jy at *
       generalize (JT.of t0).deep - 1=jd at *
       have k6:Below w6.heap.size w6 (w6.alloc (.cells #[.complex .f32 jx jy,.int .i64 jd,.int .i64 n,.slice f1 (n * n) q1,.slice f2 (n * n) q2] 29)):=(Below.refl _ _).alloc (Nat.le_refl _) _
       have HY7:=Lib.hid ((HY.out.step hb6).step k6)
       have HZ7:=Lib.hid ((HZ.out.step hb6).step k6)
       have HJ7:=Lib.hid (Box.new w6 #[.complex .f32 jx jy,.int .i64 jd,.int .i64 n,.slice f1 (n * n) q1,.slice f2 (n * n) q2] 29)
       have HV7:=Lib.hid (hO.s2.step k6)
       have HVL:=Lib.hid hO.ly
       have HL7:Hid (TLs _ g cap L (w6.alloc (.cells #[.complex .f32 jx jy,.int .i64 jd,.int .i64 n,.slice f1 (n * n) q1,.slice f2 (n * n) q2] 29))):=TList.step (TList.step HL5.out hb6) k6
       have HMK:Hid (∀ (k:Nat) (y:Int),zs[k]?=some y → y ≠ 0 → vs[k]?=some y):=fun k y hk hy => by
         rw [hO.jy]
         exact HF.out.mark HM1.out HW.out HN.out hk hy
       have HNN:Hid (∀ (k:Nat),k < zs.length → k < n * n):=fun k hk => by
         obtain ⟨s',A,B,e,-,h,-⟩:=HW.out.at_ k zs[k] (List.getElem?_eq_getElem hk)
         have:=HN.out
         obtain rfl:s'=n:=by omega
         exact h
       have HZL:=Lib.hid HW.out.len
       have hn8:n ≤ 8:=by have:=HLm2.out; have:=HN.out; omega
       have HNM:Hid (n * n ≤ 64):=Nat.mul_le_mul hn8 hn8
       obtain ⟨nn,hnn⟩:∃ nn,nn=n * n:=⟨_,rfl⟩
       rw [← hnn] at HY7 HZ7 HJ7 HV7 HVL HL7 HNN HNM ⊢
       clear h6 hO hb6 k6 HFT HT0 HJ HL5 HY HZ y0 y1 y2 y3 y4 hnn hn1 hn8
       obtain ⟨y0,y1,y2,y3,y4⟩:=HY7.out.cells5
       go_wp2
       generalize w6.alloc (.cells #[.complex .f32 jx jy,.int .i64 jd,.int .i64 n,.slice f1 nn q1,.slice f2 nn q2] 29)=W7 at *
       generalize w5.heap.size=yb at *
       generalize w6.heap.size=jb at *
       go_loopw [13] (fun i wr => ∃ k:Nat,k ≤ zs.length ∧ i=.int .i64 k ∧ Hid (Below W7.heap.size W7 wr)) (fun i _ => (zs.length - intOf i).toNat)
       case atStart => exact ⟨0,by omega,rfl,Below.refl _ _⟩
       case round =>
         obtain ⟨k,hk,rfl,HB⟩:=hrel
         have HY8:=HY7.out.step HB.out
         clear y0 y1 y2 y3 y4
         obtain ⟨y0,y1,y2,y3,y4⟩:=HY8.cells5
         clear HY8
         have hzl:=HZL.out
         by_cases hlt:k < zs.length
         · obtain rfl:ok=true:=HW.out.ok1 (by omega)
           obtain ⟨y,hy⟩:∃ y,zs[k]?=some y:=⟨_,List.getElem?_eq_getElem hlt⟩
           have hkn:=HNN.out k hlt
           have hnm:=HNM.out
           obtain ⟨z,hz⟩:∃ z,vs[k]?=some z:=⟨_,List.getElem?_eq_getElem (by rw [HVL.out]; exact hkn)⟩
           have HYZ:Hid (y ≠ 0 → z=y):=fun h => by
             have:=HMK.out k y hy h
             rw [hz] at this
             exact Option.some.inj this
           have hyv:(zs.map intV)[k]?=some (intV y):=by rw [List.getElem?_map,hy]; rfl
           have hzv:(vs.map intV)[k]?=some (intV z):=by rw [List.getElem?_map,hz]; rfl
           obtain ⟨b2b,b2o,hb2,hcy⟩:=(HZ7.out.step HB.out).at hyv
           obtain ⟨f2b,f2o,hf2,hcz⟩:=(HV7.out.step HB.out).at hzv
           have hcy':∀ s:Kw wr,s.W.cell? ⟨b2b,b2o + k,none⟩=some (.int .i64 y):=fun s => (s.h.cell (p:=⟨b2b,b2o + k,none⟩) (World.block_lt_of_cell? wr _ hcy)).trans hcy
           have hcz':∀ s:Kw wr,s.W.cell? ⟨f2b,f2o + k,none⟩=some (.int .i64 z):=fun s => (s.h.cell (p:=⟨f2b,f2o + k,none⟩) (World.block_lt_of_cell? wr _ hcz)).trans hcz
           have hy4:∀ s:Kw wr,s.W.cell? ⟨yb,4,none⟩=some (.slice (some ⟨b2b,b2o,none⟩) zs.length e2):=fun s => by
             rw [← hb2]
             exact ((HY7.out.step HB.out).step s.h).cells5.2.2.2.2
           have hj4:∀ s:Kw wr,s.W.cell? ⟨jb,4,none⟩=some (.slice (some ⟨f2b,f2o,none⟩) nn q2):=fun s => by
             rw [← hf2]
             exact ((HJ7.out.step HB.out).step s.h).cells5.2.2.2.2
           clear hb2 hf2 hcy hcz hyv hzv hy hz
           have i1:(k:Int) < zs.length:=by omega
           have i2:(k:Int) < nn:=by omega
           have i0:(0:Int) ≤ k:=by omega
           by_cases hy0:y=0
           · subst hy0
             clear hkn hlt
             go_upto_region 13 with fail
             refine wp_region_kept (by kernel_rfl) (by kernel_rfl) ?_
             repeat (go_big_quiet_step (fail))
             refine wpQuiet_nil ?_
             rintro _ ⟨sq,rfl⟩
             have HB3:=Lib.hid (HB.out.trans (sq.h.mono HB.out.size))
             go_wp2
             go_roundw
             case rel => exact ⟨k + 1,by omega,by go_num,HB3⟩
             case measure => simp [intOf]; omega
           · obtain rfl:z=y:=HYZ.out hy0
             have hne:(z != 0)=true:=by simpa using hy0
             clear hkn hlt hy0 HYZ
             go_upto_region 13 with fail
             refine wp_region_kept (by kernel_rfl) (by kernel_rfl) ?_
             repeat (go_big_quiet_step (fail))
             refine wpQuiet_nil ?_
             rintro _ ⟨sq,rfl⟩
             have HB3:=Lib.hid (HB.out.trans (sq.h.mono HB.out.size))
             go_wp2
             go_roundw
             case rel => exact ⟨k + 1,by omega,by go_num,HB3⟩
             case measure => simp [intOf]; omega
         · 
           obtain ⟨t3,ht3⟩:∃ t,L[3]?=some t:=⟨_,List.getElem?_eq_getElem (by rw [HF.out.len]; omega)⟩
           have hLr:TLs _ g cap L wr:=TList.step HL7.out HB.out
           obtain ⟨p0,p1,p2,p3,p4⟩:=TList.cells hLr ht3
           have o3:=hLr.own t3 (List.mem_of_getElem? ht3)
           obtain ⟨-,-,-,-,hg3⟩:=HF.out.at_ 3 t3 ht3
           obtain ⟨l3,l4⟩:=o3.lens
           obtain ⟨d3,s3,-,-,hn3,-,h83,-⟩:=hg3.n
           have h64:s3 * s3 ≤ 64:=Nat.mul_le_mul h83 h83
           have CW:=implWell_is t3.cx t3.cy t3.deep t3.size o3.bx o3.by1 o3.pl (some ⟨t3.gs,0,none⟩) (some ⟨t3.gm,0,none⟩) t3.n t3.cs t3.cm t3.ys (by omega) wr (sl_of_own o3.made.M)
           have hwl:wellB t3.size t3.n t3.ys=true:=by have:=o3.well hg3; rwa [l3] at this
           rw [l4,hwl] at CW
           replace CW:=Lib.hid CW
           clear hLr ht3 o3 hg3 l3 l4 hn3 h83 h64 hwl d3 s3
           go_wp2_with fail
           refine CW.out.mono ?_
           rintro e w8 ⟨rfl,-⟩
           go_wp2
           go_ret
           rfl
end Go.Proofs.YtokbalggdhippaaGreat
end
