/- Merged texts: BiW, RegI. -/
import Derived.Test.YthhfljldbfgpcaaGreatDoorT10
import Derived.Deep.CutRange
import Derived.Test.YthhfljldbfgpcaaGreatDoorT1
import Derived.Orders
import Derived.OrdersHeld
set_option linter.all false
section
namespace Go.Proofs.YthhfljldbfgpcaaGreatDoor
open Go.RowKit
theorem run_fieldH (x y:Int) (w:World):(Instr.field 81 (.agg #[.int .i64 x,.int .i64 y]) 1).run Vp.prog w=.ok (.int .i64 y) w:=by kernel_rfl
set_option maxRecDepth 100000 in
set_option maxHeartbeats 4000000 in
theorem implDisc_is (a b c d:Int) (hv:boxOK a b c d=true) (w:World):Calls Vp.prog 73 #[.agg #[.int .i64 a,.int .i64 b,.int .i64 c,.int .i64 d]] w fun e w' => e=.returned (.tuple #[.int .i64 (discB ⟨a,b,c,d⟩),.bool true]) ∧ Below w.heap.size w w':=by
 have X:=Box.new w #[.int .i64 a,.int .i64 b,.int .i64 c,.int .i64 d] 62
 obtain ⟨b1,b2,b3,b4⟩:=coarse_bd (x:=⟨a,b,c,d⟩) hv
 have HV:=Lib.hid (implValid_is a b c d)
 rw [hv] at HV
 have HC:=Lib.hid (coarse_is a b c d hv)
 have HX:Hid (discB ⟨a,b,c,d⟩=sqHi ((Bx.coarse ⟨a,b,c,d⟩).a + 4096) ((Bx.coarse ⟨a,b,c,d⟩).b + 4096) + sqHi (Bx.coarse ⟨a,b,c,d⟩).c (Bx.coarse ⟨a,b,c,d⟩).d - 1048576):=rfl
 generalize discB ⟨a,b,c,d⟩=R at *
 generalize (Bx.coarse ⟨a,b,c,d⟩).a=p at *
 generalize (Bx.coarse ⟨a,b,c,d⟩).b=q at *
 generalize (Bx.coarse ⟨a,b,c,d⟩).c=r at *
 generalize (Bx.coarse ⟨a,b,c,d⟩).d=s at *
 have l3:=sqHi_bd (l:=p + 4096) (h:=q + 4096) (k:=40000) (by omega) (by omega) (by omega) (by omega)
 have l4:=sqHi_bd (l:=r) (h:=s) (k:=40000) (by omega) (by omega) (by omega) (by omega)
 have HP:=Lib.hid (spPlus_is p q 4096 4096 (by omega) (by omega) (by omega) (by omega) (by omega) (by omega) (by omega) (by omega))
 have HN:=Lib.hid (spNorm_is (p + 4096) (q + 4096) r s (by omega) (by omega) (by omega) (by omega) (by omega) (by omega) (by omega) (by omega))
 have h:=HX.out
 have hn:nHi ⟨p + 4096,q + 4096,r,s⟩=sqHi (p + 4096) (q + 4096) + sqHi r s:=rfl
 rw [hn] at HN
 generalize p + 4096=P at *
 generalize q + 4096=Q at *
 generalize nLo ⟨P,Q,r,s⟩=lo at *
 generalize sqHi P Q=s2 at *
 generalize sqHi r s=s4 at *
 have k1:wrap64 (s2 + s4 - 1048576)=R:=by rw [h]; exact w64 (by omega) (by omega)
 generalize s2 + s4=S at *
 clear HX h hn l3 l4 b1 b2 b3 b4 hv
 have x0:=X.cell 0 _ rfl
 have x1:=X.cell 1 _ rfl
 have x2:=X.cell 2 _ rfl
 have x3:=X.cell 3 _ rfl
 go_enter Vp.func73,Tryz.ntmps73
 go_wp2_with fail
 refine (HV.out _).mono ?_
 rintro e w1 ⟨rfl,hb⟩
 clear x0 x1 x2 x3
 replace X:=X.step hb
 clear hb
 have x0:=X.cell 0 _ rfl
 have x1:=X.cell 1 _ rfl
 have x2:=X.cell 2 _ rfl
 have x3:=X.cell 3 _ rfl
 go_wp2_with fail
 refine (HC.out _).mono ?_
 rintro e w2 ⟨rfl,hb⟩
 clear x0 x1 x2 x3
 have hX:=X.old.trans (hb.mono X.old.size)
 have Y:=(Box.new w2 #[.int .i64 p,.int .i64 q,.int .i64 r,.int .i64 s] 83).up hX
 have hyl:w.heap.size ≤ w2.heap.size:=hX.size
 clear hb X hX
 have y0:=Y.cell 0 _ rfl
 have y1:=Y.cell 1 _ rfl
 have y2:=Y.cell 2 _ rfl
 have y3:=Y.cell 3 _ rfl
 go_wp2_with fail
 refine (HP.out _).mono ?_
 rintro e w3 ⟨rfl,hb⟩
 clear y0 y1 y2 y3
 replace Y:=Y.step hb
 clear hb
 have y0:=Y.cell 0 _ rfl
 have y1:=Y.cell 1 _ rfl
 have y2:=Y.cell 2 _ rfl
 have y3:=Y.cell 3 _ rfl
 have f0:=Y.frozen 0
 have f1:=Y.frozen 1
 have f2:=Y.frozen 2
 have f3:=Y.frozen 3
 have HYs:Hid (Box w w2.heap.size #[.int .i64 P,.int .i64 Q,.int .i64 r,.int .i64 s] 83 ((w3.setCell ⟨w2.heap.size,0,none⟩ (.int .i64 P)).setCell ⟨w2.heap.size,1,none⟩ (.int .i64 Q))):=(Y.set hyl 0 (.int .i64 P)).set hyl 1 (.int .i64 Q)
 have z0:=HYs.out.cell 0 _ rfl
 have z1:=HYs.out.cell 1 _ rfl
 have z2:=HYs.out.cell 2 _ rfl
 have z3:=HYs.out.cell 3 _ rfl
 clear Y
 go_wp2_with fail
 refine (HN.out _).mono ?_
 rintro e w4 ⟨rfl,hb⟩
 have HB:=Lib.hid (HYs.out.step hb).old
 clear hb
 have FH:=run_fieldH lo S
 go_wp2
 exact bodyPost_ret (v:=.tuple #[.int .i64 R,.bool true]) (by simp [results,Tryz.f73,go_sem,k1]) rfl ⟨rfl,HB.out⟩
set_option maxRecDepth 100000 in
set_option maxHeartbeats 8000000 in
theorem implCard_is (a b c d:Int) (hv:boxOK a b c d=true) (w:World):Calls Vp.prog 72 #[.agg #[.int .i64 a,.int .i64 b,.int .i64 c,.int .i64 d]] w fun e w' => e=.returned (.tuple #[.int .i64 (cardB ⟨a,b,c,d⟩),.bool true]) ∧ Below w.heap.size w w':=by
 have X:=Box.new w #[.int .i64 a,.int .i64 b,.int .i64 c,.int .i64 d] 62
 obtain ⟨b1,b2,b3,b4⟩:=coarse_bd (x:=⟨a,b,c,d⟩) hv
 have HV:=Lib.hid (implValid_is a b c d)
 rw [hv] at HV
 have HC:=Lib.hid (coarse_is a b c d hv)
 have HX:Hid (cardB ⟨a,b,c,d⟩=(if cardG ⟨a,b,c,d⟩ < 0 then sqLo ((Bx.coarse ⟨a,b,c,d⟩).a - 1024) ((Bx.coarse ⟨a,b,c,d⟩).b - 1024) + sqLo (Bx.coarse ⟨a,b,c,d⟩).c (Bx.coarse ⟨a,b,c,d⟩).d else sqHi ((Bx.coarse ⟨a,b,c,d⟩).a - 1024) ((Bx.coarse ⟨a,b,c,d⟩).b - 1024) + sqHi (Bx.coarse ⟨a,b,c,d⟩).c (Bx.coarse ⟨a,b,c,d⟩).d) * cardG ⟨a,b,c,d⟩ - sqLo (Bx.coarse ⟨a,b,c,d⟩).c (Bx.coarse ⟨a,b,c,d⟩).d * 4194304):=rfl
 have HG:Hid (cardG ⟨a,b,c,d⟩=sqHi ((Bx.coarse ⟨a,b,c,d⟩).a - 1024) ((Bx.coarse ⟨a,b,c,d⟩).b - 1024) + sqHi (Bx.coarse ⟨a,b,c,d⟩).c (Bx.coarse ⟨a,b,c,d⟩).d + ((Bx.coarse ⟨a,b,c,d⟩).b - 1024) * 4096):=rfl
 generalize cardB ⟨a,b,c,d⟩=RR at *
 generalize cardG ⟨a,b,c,d⟩=G at *
 generalize (Bx.coarse ⟨a,b,c,d⟩).a=p at *
 generalize (Bx.coarse ⟨a,b,c,d⟩).b=q at *
 generalize (Bx.coarse ⟨a,b,c,d⟩).c=r at *
 generalize (Bx.coarse ⟨a,b,c,d⟩).d=s at *
 have l1:=sqLo_bd (l:=p - 1024) (h:=q - 1024) (k:=33792) (by omega) (by omega)
 have l2:=sqLo_bd (l:=r) (h:=s) (k:=33792) (by omega) (by omega)
 have l3:=sqHi_bd (l:=p - 1024) (h:=q - 1024) (k:=33792) (by omega) (by omega) (by omega) (by omega)
 have l4:=sqHi_bd (l:=r) (h:=s) (k:=33792) (by omega) (by omega) (by omega) (by omega)
 have HL:=Lib.hid (spLess_is p q 1024 1024 (by omega) (by omega) (by omega) (by omega) (by omega) (by omega) (by omega) (by omega))
 have HQ:=Lib.hid (spSquare_is (p - 1024) (q - 1024) (by omega) (by omega) (by omega) (by omega))
 have HR:=Lib.hid (spSquare_is r s (by omega) (by omega) (by omega) (by omega))
 have h:=HX.out
 have g:=HG.out
 obtain ⟨P,eP⟩:∃ x,p - 1024=x:=⟨_,rfl⟩
 obtain ⟨Q,eQ⟩:∃ x,q - 1024=x:=⟨_,rfl⟩
 have bQ:-40000 ≤ Q ∧ Q ≤ 40000:=by omega
 rw [eP,eQ] at h g l3 l1 HL HQ
 generalize sqHi P Q=s2 at *
 generalize sqHi r s=s4 at *
 generalize sqLo P Q=s1 at *
 generalize sqLo r s=s3 at *
 have HP:=Lib.hid (spPlus_is s1 s2 s3 s4 (by omega) (by omega) (by omega) (by omega) (by omega) (by omega) (by omega) (by omega))
 obtain ⟨S,e3⟩:∃ x,s2 + s4=x:=⟨_,rfl⟩
 obtain ⟨S0,e4⟩:∃ x,s1 + s3=x:=⟨_,rfl⟩
 rw [e3,e4] at HP
 obtain ⟨K,k5,e5⟩:∃ x,wrap64 (Q * 4096)=x ∧ Q * 4096=x:=⟨_,w64 (by omega) (by omega),rfl⟩
 rw [e3,e4] at h
 rw [e3,e5] at g
 have k6:wrap64 (S + K)=G:=by rw [g]; exact w64 (by omega) (by omega)
 have bS:0 ≤ S ∧ S ≤ 2283798528:=by omega
 have bS0:0 ≤ S0 ∧ S0 ≤ 2283798528:=by omega
 have bG:-2283798528 ≤ G ∧ G ≤ 2500000000:=by omega
 have ym:∀ x:Int,0 ≤ x → x ≤ 2283798528 → -5800000000000000000 ≤ x * G ∧ x * G ≤ 5800000000000000000:=fun x h0 h1 => by
   rcases Int.le_total 0 G with hg | hg
   · have:=Int.mul_nonneg h0 hg
     have:=Int.mul_le_mul h1 bG.2 hg (by omega)
     omega
   · have h2:=Int.mul_nonneg h0 (show 0 ≤ -G by omega)
     have h3:=Int.mul_le_mul h1 (show -G ≤ 2283798528 by omega) (by omega) (by omega)
     rw [Int.mul_neg] at h2 h3
     omega
 have y1:=ym S bS.1 bS.2
 have y2:=ym S0 bS0.1 bS0.2
 obtain ⟨T,k8,e8⟩:∃ x,wrap64 (s3 * 4194304)=x ∧ s3 * 4194304=x:=⟨_,w64 (by omega) (by omega),rfl⟩
 rw [e8] at h
 rw [Int.mul_comm S] at y1
 rw [Int.mul_comm S0] at y2
 obtain ⟨M,k9,e9⟩:∃ x,wrap64 (G * S)=x ∧ G * S=x:=⟨_,w64 (by omega) (by omega),rfl⟩
 obtain ⟨M0,k10,e10⟩:∃ x,wrap64 (G * S0)=x ∧ G * S0=x:=⟨_,w64 (by omega) (by omega),rfl⟩
 have k11:¬ G < 0 → wrap64 (M - T)=RR:=fun hg => by rw [h,if_neg hg,Int.mul_comm,e9]; exact w64 (by omega) (by omega)
 have k12:G < 0 → wrap64 (M0 - T)=RR:=fun hg => by rw [h,if_pos hg,Int.mul_comm,e10]; exact w64 (by omega) (by omega)
 have HW11:=Lib.hid k11
 have HW12:=Lib.hid k12
 clear HX HG h g l1 l2 l3 l4 eP eQ e3 e4 e5 e8 e9 e10 b1 b2 b3 b4 y1 y2 ym bS bS0 bG k11 k12 bQ hv
 have x0:=X.cell 0 _ rfl
 have x1:=X.cell 1 _ rfl
 have x2:=X.cell 2 _ rfl
 have x3:=X.cell 3 _ rfl
 go_enter Vp.func72,Tryz.ntmps72
 go_wp2_with fail
 refine (HV.out _).mono ?_
 rintro e w1 ⟨rfl,hb⟩
 clear x0 x1 x2 x3
 replace X:=X.step hb
 clear hb
 have x0:=X.cell 0 _ rfl
 have x1:=X.cell 1 _ rfl
 have x2:=X.cell 2 _ rfl
 have x3:=X.cell 3 _ rfl
 go_wp2_with fail
 refine (HC.out _).mono ?_
 rintro e w2 ⟨rfl,hb⟩
 clear x0 x1 x2 x3
 have hX:=X.old.trans (hb.mono X.old.size)
 have Y:=((Box.new w2 #[.int .i64 p,.int .i64 q,.int .i64 r,.int .i64 s] 83).up hX).alloc (.cells #[.int .i64 1024,.int .i64 1024] 81)
 have Q5:=(Box.new (w2.alloc (.cells #[.int .i64 p,.int .i64 q,.int .i64 r,.int .i64 s] 83)) #[.int .i64 1024,.int .i64 1024] 81).up (w0:=w) (hX.alloc hX.size _)
 have hyl:w.heap.size ≤ w2.heap.size:=hX.size
 clear hb X hX
 have y0:=Y.cell 0 _ rfl
 have y1:=Y.cell 1 _ rfl
 have y2:=Y.cell 2 _ rfl
 have y3:=Y.cell 3 _ rfl
 have q0:=Q5.cell 0 _ rfl
 have q1:=Q5.cell 1 _ rfl
 go_wp2_with fail
 refine (HL.out _).mono ?_
 rintro e w3 ⟨rfl,hb⟩
 clear y0 y1 y2 y3 q0 q1 Q5
 replace Y:=Y.step hb
 clear hb
 have U:=(Box.new w3 #[.int .i64 P,.int .i64 Q] 81).up Y.old
 have hul:w.heap.size ≤ w3.heap.size:=Y.old.size
 replace Y:=Y.alloc (.cells #[.int .i64 P,.int .i64 Q] 81)
 have y0:=Y.cell 0 _ rfl
 have y1:=Y.cell 1 _ rfl
 have y2:=Y.cell 2 _ rfl
 have y3:=Y.cell 3 _ rfl
 go_wp2_with fail
 refine (HR.out _).mono ?_
 rintro e w4 ⟨rfl,hb⟩
 clear y0 y1 y2 y3 Y
 replace U:=U.step hb
 clear hb
 have V:=(Box.new w4 #[.int .i64 s3,.int .i64 s4] 81).up U.old
 have hvl:w.heap.size ≤ w4.heap.size:=U.old.size
 have huv:w3.heap.size < w4.heap.size:=U.lt
 replace U:=U.alloc (.cells #[.int .i64 s3,.int .i64 s4] 81)
 go_upto_region 7 with fail
 generalize w3.heap.size=ub at *
 generalize w4.heap.size=vb at *
 generalize w4.alloc (.cells #[.int .i64 s3,.int .i64 s4] 81)=W at *
 have hub:ub < W.drew.heap.size:=U.lt
 have hvb:vb < W.drew.heap.size:=V.lt
 have HU:Hid (∀ W',Below W.drew.heap.size W.drew W' → Box w ub #[.int .i64 P,.int .i64 Q] 81 W'):=fun W' h => (U.step ((Drw.refl _).drew.below _)).step h
 have HVV:Hid (∀ W',Below W.drew.heap.size W.drew W' → Box w vb #[.int .i64 s3,.int .i64 s4] 81 W'):=fun W' h => (V.step ((Drw.refl _).drew.below _)).step h
 have HW:Hid (∀ W',Below W.drew.heap.size W.drew W' → Below w.heap.size w W'):=fun W' h => (HU.out W' h).old
 have hbk:=Below.refl W.drew.heap.size W.drew
 have hzl:w.heap.size ≤ W.drew.heap.size:=U.old.size
 have HUd:Hid (∀ o,Box w ub #[.int .i64 P,.int .i64 Q] 81 (W.alloc o).drew):=fun o => (U.alloc o).step ((Drw.refl _).drew.below _)
 have HVd:Hid (∀ o,Box w vb #[.int .i64 s3,.int .i64 s4] 81 (W.alloc o).drew):=fun o => (V.alloc o).step ((Drw.refl _).drew.below _)
 have H0:Hid (∀ o,Below W.drew.heap.size W.drew (W.alloc o).drew):=fun o => (Below.refl _ W.drew).alloc (Nat.le_refl _) o
 have HWW:Hid (Below w.heap.size w W):=U.old
 clear U V
 go_cut [8] from 24 to 27 (fun t wx => ∃ eb:Nat,t=.pointer (some ⟨eb,0,none⟩) ∧ Hid (Box w eb #[.int .i64 S0,.int .i64 S] 81 wx ∧ Box w ub #[.int .i64 P,.int .i64 Q] 81 wx ∧ Box w vb #[.int .i64 s3,.int .i64 s4] 81 wx))
 case first =>
   go_region_held3 (fun w' => w'.cell? ⟨ub,0,none⟩=some (.int .i64 P) ∧ w'.cell? ⟨ub,1,none⟩=some (.int .i64 Q) ∧ w'.cell? ⟨vb,0,none⟩=some (.int .i64 s3) ∧ w'.cell? ⟨vb,1,none⟩=some (.int .i64 s4)) (((first | dsimp only | skip); first | (with_reducible exact ⟨(HU.out _ hbk).cell 0 _ rfl,(HU.out _ hbk).cell 1 _ rfl,(HVV.out _ hbk).cell 0 _ rfl,(HVV.out _ hbk).cell 1 _ rfl⟩) | (with_reducible exact ⟨((HU.out _ hbk).alloc _).cell 0 _ rfl,((HU.out _ hbk).alloc _).cell 1 _ rfl,((HVV.out _ hbk).alloc _).cell 0 _ rfl,((HVV.out _ hbk).alloc _).cell 1 _ rfl⟩) | (with_reducible exact ⟨(HUd.out _).cell 0 _ rfl,(HUd.out _).cell 1 _ rfl,(HVd.out _).cell 0 _ rfl,(HVd.out _).cell 1 _ rfl⟩) | (with_reducible exact ⟨((HU.out _ hbk).other2 hrl hne _ _).cell 0 _ rfl,((HU.out _ hbk).other2 hrl hne _ _).cell 1 _ rfl,((HVV.out _ hbk).other2 hrl hne2 _ _).cell 0 _ rfl,((HVV.out _ hbk).other2 hrl hne2 _ _).cell 1 _ rfl⟩))) (first
     | (go_at_call 94; (with_reducible refine (HQ.out _).mono ?_); rintro e w' ⟨rfl,hb⟩; first | (replace hbk:=hbk.trans (hb.mono hbk.size); first | (replace R:=R.step hb; have r0:=R.cell 0 _ rfl; have r1:=R.cell 1 _ rfl; have f0:=R.frozen 0; have f1:=R.frozen 1) | skip) | (have R:=((Box.new _ #[.int .i64 0,.int .i64 0] 81).step hb).up (HW.out _ hbk); have hne:ub ≠ _:=Nat.ne_of_lt (Nat.lt_of_lt_of_le hub hbk.size); have hne2:vb ≠ _:=Nat.ne_of_lt (Nat.lt_of_lt_of_le hvb hbk.size); have hrl:=Nat.le_trans hzl hbk.size; replace hbk:=(hbk.alloc hbk.size _).trans (hb.mono (hbk.alloc hbk.size _).size); have r0:=R.cell 0 _ rfl; have r1:=R.cell 1 _ rfl; have f0:=R.frozen 0; have f1:=R.frozen 1) | (have R:=(((Box.new W #[.int .i64 0,.int .i64 0] 81).step ((Drw.refl _).drew.below _)).step hb).up HWW.out; have hne:ub ≠ W.heap.size:=Nat.ne_of_lt hub; have hne2:vb ≠ W.heap.size:=Nat.ne_of_lt hvb; have hrl:w.heap.size ≤ W.heap.size:=hzl; replace hbk:=(H0.out _).trans (hb.mono (H0.out _).size); have r0:=R.cell 0 _ rfl; have r1:=R.cell 1 _ rfl; have f0:=R.frozen 0; have f1:=R.frozen 1); clear hb)
     | (go_at_call 95; (with_reducible refine (HP.out _).mono ?_); rintro e w' ⟨rfl,hb⟩; first | (replace hbk:=hbk.trans (hb.mono hbk.size); first | (replace R:=R.step hb; have r0:=R.cell 0 _ rfl; have r1:=R.cell 1 _ rfl; have f0:=R.frozen 0; have f1:=R.frozen 1) | skip) | (have R:=((Box.new _ #[.int .i64 0,.int .i64 0] 81).step hb).up (HW.out _ hbk); have hne:ub ≠ _:=Nat.ne_of_lt (Nat.lt_of_lt_of_le hub hbk.size); have hne2:vb ≠ _:=Nat.ne_of_lt (Nat.lt_of_lt_of_le hvb hbk.size); have hrl:=Nat.le_trans hzl hbk.size; replace hbk:=(hbk.alloc hbk.size _).trans (hb.mono (hbk.alloc hbk.size _).size); have r0:=R.cell 0 _ rfl; have r1:=R.cell 1 _ rfl; have f0:=R.frozen 0; have f1:=R.frozen 1) | (have R:=(((Box.new W #[.int .i64 0,.int .i64 0] 81).step ((Drw.refl _).drew.below _)).step hb).up HWW.out; have hne:ub ≠ W.heap.size:=Nat.ne_of_lt hub; have hne2:vb ≠ W.heap.size:=Nat.ne_of_lt hvb; have hrl:w.heap.size ≤ W.heap.size:=hzl; replace hbk:=(H0.out _).trans (hb.mono (H0.out _).size); have r0:=R.cell 0 _ rfl; have r1:=R.cell 1 _ rfl; have f0:=R.frozen 0; have f1:=R.frozen 1); clear hb))
   all_goals
     go_wp2_with fail
     go_meet
     first
       | exact ⟨_,rfl,(Box.new _ _ _).up (HW.out _ hbk),(HU.out _ hbk).alloc _,(HVV.out _ hbk).alloc _⟩
       | exact ⟨_,rfl,(R.set (by omega) 0 (.int .i64 S0)).set (by omega) 1 (.int .i64 S),(HU.out _ hbk).other2 (by omega) hne _ _,(HVV.out _ hbk).other2 (by omega) hne2 _ _⟩
 case rest =>
   obtain ⟨eb,rfl,HCC⟩:=hcut
   clear HU HVV HW hbk HUd HVd H0 HWW hub hvb hzl HQ HR HL HP
   obtain ⟨E,U,V⟩:=HCC.out
   clear HCC
   have e0:=E.cell 0 _ rfl
   have e1:=E.cell 1 _ rfl
   have u1:=U.cell 1 _ rfl
   have v0:=V.cell 0 _ rfl
   have HB:=Lib.hid E.old
   clear E U V
   by_cases hg:G < 0
   · have k13:=HW12.out (by omega)
     go_wp2
     exact bodyPost_ret (v:=.tuple #[.int .i64 RR,.bool true]) (by simp [results,Tryz.f72,go_sem,k5,k6,k8,k9,k10,k13]) rfl ⟨rfl,HB.out⟩
   · have k13:=HW11.out (by omega)
     go_wp2
     exact bodyPost_ret (v:=.tuple #[.int .i64 RR,.bool true]) (by simp [results,Tryz.f72,go_sem,k5,k6,k8,k9,k10,k13]) rfl ⟨rfl,HB.out⟩
end Go.Proofs.YthhfljldbfgpcaaGreatDoor
end

section
namespace Go.Proofs.YthhfljldbfgpcaaGreatDoor
open Go.RowKit
theorem getD_setB (l:Array Bool) (i j:Nat) (d:Bool) (hi:i < l.size):(l.setIfInBounds i true).getD j d=if j=i then true else l.getD j d:=by
 simp only [Array.getD_eq_getD_getElem?]
 by_cases h:j=i
 · subst h
   rw [if_pos rfl,Array.getElem?_setIfInBounds_self_of_lt hi]
   rfl
 · rw [if_neg h,Array.getElem?_setIfInBounds_ne (fun e => h e.symm)]
theorem all_listed {md:Region.Mode} {ops:Array Oper} {l:Array Bool} (hsz:l.size=ops.size) (hac:∀ (i:Nat) (o:Oper),ops[i]?=some o → ∀ e ∈ o.after,e.on < i) (hr:Region.ready md ops l=[]) :
   ∀ n i,i < n → i < ops.size → l.getD i false=true
 | 0,i,h,_ => absurd h (by omega)
 | n + 1,i,h,hi => by
   by_cases hin:i < n
   · exact all_listed hsz hac hr n i hin hi
   · obtain rfl:i=n:=by omega
     cases hl:l.getD i false with
     | true => rfl
     | false =>
       exfalso
       have ho:ops[i]?=some ops[i]:=Array.getElem?_eq_getElem hi
       have hm:i ∈ Region.ready md ops l:=by
         refine mem_ready.2 ⟨?_,_,ho,fun e he _ => ?_⟩
         · rw [Array.getD_eq_getD_getElem?,Array.getElem?_eq_getElem (by omega)] at hl ⊢
           exact hl
         · have hlt:=hac i _ ho e he
           exact all_listed hsz hac hr i e.on hlt (by omega)
       rw [hr] at hm
       cases hm
def unl (n:Nat) (l:Array Bool):Nat:=((List.range n).filter (fun i => !l.getD i true)).length
theorem unl_set {n:Nat} {l:Array Bool} (hsz:l.size=n) {i:Nat} (hi:i < n) (hl:l.getD i true=false):unl n (l.setIfInBounds i true) < unl n l:=by
 unfold unl
 have e:((List.range n).filter (fun j => !(l.setIfInBounds i true).getD j true))=((List.range n).filter (fun j => !l.getD j true)).filter (fun j => decide (j ≠ i)):=by
   rw [List.filter_filter]
   refine List.filter_congr fun j _ => ?_
   rw [getD_setB l i j true (by omega)]
   by_cases h:j=i
   · subst h; simp
   · simp [h]
 rw [e]
 have hm:i ∈ (List.range n).filter (fun j => !l.getD j true):=by
   rw [List.mem_filter]
   exact ⟨List.mem_range.2 hi,by rw [hl]; rfl⟩
 have hlt:=List.length_filter_lt_length_iff_exists (p:=fun j => decide (j ≠ i)) (l:=(List.range n).filter (fun j => !l.getD j true))
 exact hlt.2 ⟨i,hm,by simp⟩
theorem wpAny_inv {P:Program} {md:Region.Mode} {ops:Array Oper} {Q:Exit → Act → World → Prop} (Inv:(Nat → Bool) → Act → World → Prop) (hac:∀ (i:Nat) (o:Oper),ops[i]?=some o → ∀ e ∈ o.after,e.on < i)
   (hstep:∀ D a w,Inv D a w → ∀ (i:Nat) (o:Oper),ops[i]?=some o → D i=false → (∀ e ∈ o.after,Region.binds md e=true → D e.on=true) →
     if Region.wanted o (yielded ops a.tmps)=true then o.wp P a w (fun a' w' => Inv (fun j => if j=i then true else D j) a' w') Q else Inv (fun j => if j=i then true else D j) (a.put o.dst undef) w)
   (hend:∀ D a w,Inv D a w → (∀ i,i < ops.size → D i=true) → Q .normal a w) :
   ∀ (fuel:Nat) (l:Array Bool) (a:Act) (w:World),l.size=ops.size → Inv (fun j => l.getD j false) a w → unl ops.size l ≤ fuel → wpAny P md ops Q fuel l a w
 | 0,l,a,w,hsz,hI,hf => by
   have hall:∀ i,i < ops.size → l.getD i true=true:=by
     intro i hi
     cases h:l.getD i true with
     | true => rfl
     | false =>
       have:=unl_set hsz hi h
       omega
   refine ⟨List.eq_nil_iff_forall_not_mem.2 fun j hj => ?_,hend _ a w hI fun i hi => ?_⟩
   · obtain ⟨h0,o,ho,_⟩:=mem_ready.1 hj
     have hj2:=(Array.getElem?_eq_some_iff.1 ho).1
     rw [hall j hj2] at h0
     cases h0
   · have:=hall i hi
     rw [Array.getD_eq_getD_getElem?,Array.getElem?_eq_getElem (by omega)] at this ⊢
     exact this
 | fuel + 1,l,a,w,hsz,hI,hf => by
   refine ⟨fun hr => hend _ a w hI fun i hi => all_listed hsz hac hr (i + 1) i (by omega) hi,fun i hi => ?_⟩
   obtain ⟨h0,o,ho,hall⟩:=mem_ready.1 hi
   have hilt:=(Array.getElem?_eq_some_iff.1 ho).1
   have h1:l.getD i false=false:=by
     rw [Array.getD_eq_getD_getElem?,Array.getElem?_eq_getElem (by omega)] at h0 ⊢
     exact h0
   have hs:=hstep _ a w hI i o ho h1 hall
   have hfun:(fun j => if j=i then true else l.getD j false)=fun j => (l.setIfInBounds i true).getD j false:=by
     funext j
     rw [getD_setB l i j false (by omega)]
   rw [hfun] at hs
   have hlt:=unl_set hsz hilt h0
   have hnext:∀ a' w',Inv (fun j => (l.setIfInBounds i true).getD j false) a' w' → wpAny P md ops Q fuel (l.setIfInBounds i true) a' w':=fun a' w' h => wpAny_inv Inv hac hstep hend fuel _ a' w' (by rw [Array.size_setIfInBounds]; exact hsz) h (by omega)
   unfold wpOp
   rw [ho]
   simp only
   split
   · rename_i hw
     rw [if_pos hw] at hs
     exact .inl (Oper.wp_mono hnext hs)
   · rename_i hw
     rw [if_neg hw] at hs
     exact hnext _ _ hs
theorem wp_region_inv {P:Program} {ops:Array Oper} {Q:Exit → Act → World → Prop} {id:Nat} {a:Act} {w:World} (hm:P.follows .mixedOrders=true) (Inv:(Nat → Bool) → Act → World → Prop) (hac:∀ (i:Nat) (o:Oper),ops[i]?=some o → ∀ e ∈ o.after,e.on < i)
   (h0:Inv (fun _ => false) a { w with drawn:=w.drawn + 1 })
   (hstep:∀ D a w,Inv D a w → ∀ (i:Nat) (o:Oper),ops[i]?=some o → D i=false → (∀ e ∈ o.after,Region.binds .any e=true → D e.on=true) →
     if Region.wanted o (yielded ops a.tmps)=true then o.wp P a w (fun a' w' => Inv (fun j => if j=i then true else D j) a' w') Q else Inv (fun j => if j=i then true else D j) (a.put o.dst undef) w)
   (hend:∀ D a w,Inv D a w → (∀ i,i < ops.size → D i=true) → Q .normal a w):(Code.region id ops true).wp P Q a w:=by
 refine wp_region_any hm (wpAny_inv Inv hac hstep hend _ _ _ _ (by simp) ?_ ?_)
 · have e:(fun j => (Array.replicate ops.size false).getD j false)=fun _ => false:=by
     funext j
     rw [Array.getD_eq_getD_getElem?,Array.getElem?_replicate]
     split <;> rfl
   rw [e]
   exact h0
 · unfold unl
   refine Nat.le_trans (List.length_filter_le _ _) ?_
   rw [List.length_range]
   exact Nat.le_refl _
end Go.Proofs.YthhfljldbfgpcaaGreatDoor
end
