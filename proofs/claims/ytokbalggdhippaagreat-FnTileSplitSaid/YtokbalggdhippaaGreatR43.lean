/- Merged texts: Rd, RdF, TilP, TilL. -/
import Derived.Test.YtokbalggdhippaaGreatR3
import Derived.Test.YtokbalggdhippaaGreatRows
import Derived.Laws.BitsAllLaws
import Derived.Deep.Cut
import Derived.Test.YtokbalggdhippaaGreatR2
import Derived.Test.YtokbalggdhippaaGreatR42
import Derived.Test.YtokbalggdhippaaGreatR14
import Derived.Deep.RegionWith
set_option linter.all false
section
namespace Go.Proofs.YtokbalggdhippaaGreat
open Go.RowKit
theorem xor_pos (a b:Nat) (ha:a < 9223372036854775808) (hb:b < 9223372036854775808):bits .xor .i64 (a:Int) (b:Int)=((a ^^^ b:Nat):Int):=by
 have hx:a ^^^ b < 2 ^ 63:=Nat.xor_lt_two_pow (by omega) (by omega)
 show IntKind.i64.wrap ((BitVec.ofInt 64 (a:Int) ^^^ BitVec.ofInt 64 (b:Int)).toNat:Int)=_
 rw [BitVec.toNat_xor,ofInt_u64 a (by omega),ofInt_u64 b (by omega)]
 simp [IntKind.wrap,IntKind.bits,IntKind.signed]
 omega
theorem xor_i64 (a b:Int) (ha:0 ≤ a) (ha2:a < 9223372036854775808) (hb:0 ≤ b) (hb2:b < 9223372036854775808):∃ x,bits .xor .i64 a b=x ∧ 0 ≤ x ∧ x < 9223372036854775808:=by
 obtain ⟨A,rfl⟩:=Int.eq_ofNat_of_zero_le ha
 obtain ⟨B,rfl⟩:=Int.eq_ofNat_of_zero_le hb
 refine ⟨_,xor_pos A B (by omega) (by omega),by omega,?_⟩
 have hx:A ^^^ B < 2 ^ 63:=Nat.xor_lt_two_pow (by omega) (by omega)
 omega
structure Only (b:Nat) (w w':World):Prop where
 os:w'.os=w.os
 tape:w'.tape=w.tape
 output:w'.output=w.output
 size:w.heap.size ≤ w'.heap.size
 block:∀ k,k < w.heap.size → k ≠ b → w'.heap[k]?=w.heap[k]?
theorem Only.refl (b:Nat) (w:World):Only b w w:=⟨rfl,rfl,rfl,Nat.le_refl _,fun _ _ _ => rfl⟩
theorem Only.trans {b:Nat} {u v w:World} (h:Only b u v) (k:Only b v w):Only b u w :=
 ⟨k.os.trans h.os,k.tape.trans h.tape,k.output.trans h.output,Nat.le_trans h.size k.size,fun i hi hne => (k.block i (Nat.lt_of_lt_of_le hi h.size) hne).trans (h.block i hi hne)⟩
theorem Only.of_below {b:Nat} {u v:World} (h:Below u.heap.size u v):Only b u v:=⟨h.os,h.tape,h.output,h.size,fun i hi _ => h.block i hi⟩
theorem Only.setCell {b:Nat} {u v:World} (h:Only b u v) (j:Nat) (x:Value):Only b u (v.setCell ⟨b,j,none⟩ x):=by
 refine h.trans ⟨rfl,rfl,rfl,by simp,fun i _ hne => Below.heap_setCell _ _ _ _ (by simpa using hne)⟩
theorem Only.below {b:Nat} {u v:World} (h:Only b u v) (B:Nat) (hB:B ≤ u.heap.size) (hb:B ≤ b):Below B u v:=⟨h.os,h.tape,h.output,h.size,fun i hi => h.block i (by omega) (by omega)⟩
def Rd (w0:World) (b:Nat) (p:Nat) (W:World):Prop :=
 ∃ (a:Option Addr) (c:Nat) (bs:List UInt8),Box w0 b #[.slice a bs.length c,.int .i64 p] 98 W ∧ Sl w0 a (bs.map byteV) ∧ w0.heap.size ≤ b ∧ bs.length ≤ 2000
theorem Rd.below {w0:World} {b p:Nat} {W:World} (h:Rd w0 b p W):Below w0.heap.size w0 W:=by
 obtain ⟨_,_,_,h,_⟩:=h; exact h.old
theorem Rd.step {w0:World} {b p:Nat} {W W':World} (h:Rd w0 b p W) (k:Below W.heap.size W W'):Rd w0 b p W':=by
 obtain ⟨a,c,bs,h,r⟩:=h; exact ⟨a,c,bs,h.step k,r⟩
theorem Rd.drw {w0:World} {b p:Nat} {W W':World} (h:Rd w0 b p W) (k:Drw W W'):Rd w0 b p W':=h.step (k.below _)
theorem byte_le (x:UInt8):(x.toNat:Int) ≤ 255:=by have:=x.toNat_lt; omega
set_option maxHeartbeats 1000000 in
theorem pick_any (w0:World) (b p:Nat) (k:Int) (hp:p ≤ 1099511627776) (hk:k ≤ 1099511627776) (W:World) (h:Rd w0 b p W) :
   Calls Vp.prog 26 #[.pointer (some ⟨b,0,none⟩),.int .i64 k] W fun e w' => (∃ r:Int,e=.returned (.int .i64 r) ∧ 0 ≤ r ∧ (r < k ∨ r=0)) ∧ Rd w0 b (p + 1) w' ∧ Only b W w':=by
 obtain ⟨a,c,bs,hB,hS,hb,hn⟩:=h
 have c0:=hB.cell 0 _ rfl
 have c1:=hB.cell 1 _ rfl
 have f1:=hB.frozen 1
 have hlt:=hB.lt
 obtain ⟨q,hq⟩:∃ q:Int,q=(p:Int) + 1:=⟨_,rfl⟩
 have B2:=hB.set hb 1 (.int .i64 q)
 have O2:=(Only.refl b W).setCell 1 (.int .i64 q)
 have S2:=Lib.hid (hS.step B2.old)
 have HR:Hid (∀ W',Drw (W.setCell ⟨b,1,none⟩ (.int .i64 q)) W' → Rd w0 b (p + 1) W' ∧ Only b W W'):=fun W' hd => by
   refine ⟨⟨a,c,bs,?_,hS,hb,hn⟩,O2.trans (Only.of_below (hd.below _))⟩
   rw [show ((p + 1:Nat):Int)=q by omega]
   exact B2.step (hd.below _)
 have hlt2:=B2.lt
 have d0:=B2.cell 0 _ rfl
 have d1:=B2.cell 1 _ rfl
 clear B2 O2 hS hB
 obtain ⟨n,hN⟩:∃ n,bs.length=n:=⟨_,rfl⟩
 rw [hN] at hn d0 d1
 have HN:=Lib.hid hN
 clear hN
 go_enter Vp.func26,Tryz.ntmps26
 go_upto_region 2 with fail
 rw [← hq]
 generalize W.setCell ⟨b,1,none⟩ (.int .i64 q)=W1 at *
 clear c0 c1 f1 hlt
 by_cases hk1:k < 1
 · go_wp2
   go_ret
   exact ⟨⟨0,rfl,by omega,.inr rfl⟩,HR.out _ (Drw.refl _)⟩
 by_cases hn0:n=0
 · subst hn0
   go_wp2
   go_ret
   exact ⟨⟨0,rfl,by omega,.inr rfl⟩,HR.out _ (Drw.refl _)⟩
 have hnb:((n:Int) == 0)=false:=by simpa using hn0
 by_cases hpn:q - 1 < n
 · have hpl:p < bs.length:=by rw [HN.out]; omega
   have hx:(bs.map byteV)[p]?=some (byteV (bs[p])):=by rw [List.getElem?_map,List.getElem?_eq_getElem hpl]; rfl
   obtain ⟨ab,ao,rfl,hc⟩:=S2.out.at hx
   have hle:=byte_le bs[p]
   unfold byteV at hc
   clear hx S2
   generalize bs[p]=x at *
   have hx0:(0:Int) ≤ x.toNat:=by omega
   generalize (x.toNat:Int)=y at *
   have hkb:(k == 0)=false:=by simp; omega
   obtain ⟨r,hr⟩:∃ r,y.tmod k=r:=⟨_,rfl⟩
   have r0:0 ≤ r:=by rw [← hr]; exact Int.tmod_nonneg _ (by omega)
   have r1:r < k:=by rw [← hr]; exact Int.tmod_lt_of_pos _ (by omega)
   go_wp2
   go_ret
   exact ⟨⟨r,rfl,r0,.inl r1⟩,HR.out _ (Drw.refl _)⟩
 · have hnp:(0:Int) < n:=by omega
   have hpn':decide ((p:Int) < n)=false:=by simp; omega
   have hpn2:decide (p < n)=false:=by simp; omega
   obtain ⟨i,hi⟩:∃ i,(p:Int).tmod n=i:=⟨_,rfl⟩
   obtain ⟨j,hj⟩:∃ j,((p:Int) * 7 + 3).tmod n=j:=⟨_,rfl⟩
   obtain ⟨l,hl⟩:∃ l,(p:Int).tdiv n=l:=⟨_,rfl⟩
   have i1:0 ≤ i:=by rw [← hi]; exact Int.tmod_nonneg _ (by omega)
   have i2:i < n:=by rw [← hi]; exact Int.tmod_lt_of_pos _ hnp
   have j1:0 ≤ j:=by rw [← hj]; exact Int.tmod_nonneg _ (by omega)
   have j2:j < n:=by rw [← hj]; exact Int.tmod_lt_of_pos _ hnp
   have l1:0 ≤ l:=by rw [← hl]; exact Int.tdiv_nonneg (by omega) (by omega)
   have l2:l ≤ p:=by rw [← hl,Int.tdiv_eq_ediv_of_nonneg (by omega)]; exact Int.ediv_le_self _ (by omega)
   have hx1:(bs.map byteV)[i.toNat]?=some (byteV (bs[i.toNat]'(by rw [HN.out]; omega))):=by rw [List.getElem?_map,List.getElem?_eq_getElem (by rw [HN.out]; omega)]; rfl
   have hx2:(bs.map byteV)[j.toNat]?=some (byteV (bs[j.toNat]'(by rw [HN.out]; omega))):=by rw [List.getElem?_map,List.getElem?_eq_getElem (by rw [HN.out]; omega)]; rfl
   obtain ⟨ab,ao,rfl,hc1⟩:=S2.out.at hx1
   obtain ⟨ab',ao',he,hc2⟩:=S2.out.at hx2
   obtain ⟨rfl,rfl⟩:ab=ab' ∧ ao=ao':=by injection he with he; injection he with h1 h2 _; exact ⟨h1,h2⟩
   have b1:=byte_le (bs[i.toNat]'(by rw [HN.out]; omega))
   have b2:=byte_le (bs[j.toNat]'(by rw [HN.out]; omega))
   unfold byteV at hc1 hc2
   have b3:(0:Int) ≤ ((bs[i.toNat]'(by rw [HN.out]; omega)).toNat:Int):=by omega
   have b4:(0:Int) ≤ ((bs[j.toNat]'(by rw [HN.out]; omega)).toNat:Int):=by omega
   clear hx1 hx2 he S2
   generalize ((bs[i.toNat]'(by rw [HN.out]; omega)).toNat:Int)=y1 at *
   generalize ((bs[j.toNat]'(by rw [HN.out]; omega)).toNat:Int)=y2 at *
   go_upto_region 7 with fail
   go_quiet (fail)
   obtain ⟨x,hx⟩:∃ x,x=y1 * 131 + y2 * 1117 + (p:Int) * 29 + l * 53:=⟨_,rfl⟩
   have x0:0 ≤ x:=by omega
   have x1:x < 9223372036854775808:=by omega
   rw [← hx]
   obtain ⟨u,hu⟩:∃ u,x.tdiv 64=u:=⟨_,rfl⟩
   have u0:0 ≤ u:=by rw [← hu]; exact Int.tdiv_nonneg (by omega) (by omega)
   have u1:u ≤ x:=by rw [← hu,Int.tdiv_eq_ediv_of_nonneg (by omega)]; exact Int.ediv_le_self _ (by omega)
   obtain ⟨v,hv,v0,v1⟩:=xor_i64 x u x0 x1 u0 (by omega)
   obtain ⟨r,hr⟩:∃ r,v.tmod k=r:=⟨_,rfl⟩
   have r0:0 ≤ r:=by rw [← hr]; exact Int.tmod_nonneg _ (by omega)
   have r1:r < k:=by rw [← hr]; exact Int.tmod_lt_of_pos _ (by omega)
   have hkb:(k == 0)=false:=by simp; omega
   clear hx hi hj hl hc1 hc2 d0 d1
   go_wp2
   go_ret
   exact ⟨⟨r,rfl,r0,.inl r1⟩,HR.out _ ((Drw.refl _).drewN _)⟩
theorem open_any (a:Option Addr) (c:Nat) (bs:List UInt8) (hn:bs.length ≤ 1048576) (hc:bs.length ≤ c) (w:World) (hs:Sl w a (bs.map byteV)) :
   Calls Vp.prog 24 #[.slice a bs.length c] w fun e w' => ∃ b,e=.returned (.pointer (some ⟨b,0,none⟩)) ∧ b=w.heap.size ∧ Rd w b 0 w':=by
 obtain ⟨n,hN⟩:∃ n,bs.length=n:=⟨_,rfl⟩
 by_cases h:2000 < n
 · have HR:Hid (Rd w w.heap.size 0 (w.alloc (.cells #[.slice a 2000 c,.int .i64 0] 98))):=by
     have hl:(bs.take 2000).length=2000:=by simp; omega
     refine ⟨a,c,bs.take 2000,?_,?_,Nat.le_refl _,by omega⟩
     · rw [hl]; exact Box.new w _ _
     · rcases hs with hs | ⟨b,o,ha,hs⟩
       · simp at hs; simp [hs] at hN; omega
       · refine .inr ⟨b,o,ha,fun i v hv => ?_⟩
         refine hs i v ?_
         rw [List.map_take,List.getElem?_take] at hv
         split at hv
         · exact hv
         · cases hv
   obtain ⟨ab,ao,rfl⟩:∃ ab ao,a=some ⟨ab,ao,none⟩:=by
     rcases hs with hs | ⟨b,o,ha,hs⟩
     · simp at hs; simp [hs] at hN; omega
     · exact ⟨b,o,ha⟩
   rw [hN] at hn hc ⊢
   have hc2:2000 ≤ c:=by omega
   have hc3:(2000:Int) ≤ c:=by omega
   clear hN hs
   go_enter Vp.func24,Tryz.ntmps24
   go_wp2
   go_ret
   exact ⟨_,rfl,rfl,HR.out⟩
 · have HR:Hid (Rd w w.heap.size 0 (w.alloc (.cells #[.slice a n c,.int .i64 0] 98))) :=
     ⟨a,c,bs,by rw [hN]; exact Box.new w _ _,hs,Nat.le_refl _,by omega⟩
   rw [hN]
   clear hs
   rw [hN] at hn hc
   clear hN
   go_enter Vp.func24,Tryz.ntmps24
   go_wp2
   go_ret
   exact ⟨_,rfl,rfl,HR.out⟩
end Go.Proofs.YtokbalggdhippaaGreat
end

section
namespace Go.Proofs.YtokbalggdhippaaGreat
open Go.RowKit
set_option maxHeartbeats 2000000 in
theorem part_any (w0:World) (b p:Nat) (hp:p ≤ 1099511627000) (W:World) (h:Rd w0 b p W) :
   Calls Vp.prog 97 #[.pointer (some ⟨b,0,none⟩)] W fun e w' => (∃ x,e=.returned (.float .f64 x) ∧ x < 18446744073709551616) ∧ (∃ p',p' ≤ p + 3 ∧ Rd w0 b p' w') ∧ Only b W w':=by
 go_enter Vp.func97,Tryz.ntmps97
 go_wp2_with fail
 refine (pick_any w0 b p 24 (by omega) (by omega) _ h).mono ?_
 rintro e w1 ⟨⟨r,rfl,r0,r1⟩,hR,hO⟩
 have HR:=Lib.hid hR
 have HO:=Lib.hid hO
 have HF:Hid (∀ x w',x < 18446744073709551616 → Drw w1 w' → (∃ y,Ending.returned (.float .f64 x)=.returned (.float .f64 y) ∧ y < 18446744073709551616) ∧ (∃ p',p' ≤ p + 3 ∧ Rd w0 b p' w') ∧ Only b W w') :=
   fun x w' hx hd => ⟨⟨x,rfl,hx⟩,⟨p + 1,by omega,hR.drw hd⟩,hO.trans (Only.of_below (hd.below _))⟩
 clear hR hO h
 by_cases h0:r=0
 · subst h0; go_wp2; go_ret; exact HF.out _ _ (by omega) (Drw.refl _)
 by_cases h1:r=1
 · subst h1
   obtain ⟨z,w2,hz,hz2,hd⟩:=Flo.arith_any (P:=Vp.prog) .mul (by simp) 109 .f64 (Op.negFloat .f64 0) 4607182418800017408 w1
   have hn:=fun w => Flo.run_neg (P:=Vp.prog) .f64 0 w
   generalize Op.negFloat .f64 0=q at *
   go_wp2; go_ret; exact HF.out _ _ hz2 hd
 by_cases h2:r=2
 · subst h2
   obtain ⟨z,w2,hz,hz2,hd⟩:=Flo.arith_any (P:=Vp.prog) .quo (by simp) 109 .f64 4607182418800017408 0 w1
   go_wp2; go_ret; exact HF.out _ _ hz2 hd
 by_cases h3:r=3
 · subst h3
   obtain ⟨z,w2,hz,hz2,hd⟩:=Flo.arith_any (P:=Vp.prog) .quo (by simp) 109 .f64 0 0 w1
   go_wp2; go_ret; exact HF.out _ _ hz2 hd
 by_cases h4:r=4
 · subst h4
   obtain ⟨z,w2,hz,hz2,hd⟩:=Flo.arith_any (P:=Vp.prog) .quo (by simp) 109 .f64 13830554455654793216 0 w1
   go_wp2; go_ret; exact HF.out _ _ hz2 hd
 by_cases h5:r=5
 · subst h5; go_wp2; go_ret; exact HF.out _ _ (by omega) (Drw.refl _)
 by_cases h6:r=6
 · subst h6; go_wp2; go_ret; exact HF.out _ _ (by omega) (Drw.refl _)
 by_cases h7:r=7
 · subst h7; go_wp2; go_ret; exact HF.out _ _ (by omega) (Drw.refl _)
 by_cases h8:r=8
 · subst h8; go_wp2; go_ret; exact HF.out _ _ (by omega) (Drw.refl _)
 by_cases h9:r=9
 · subst h9; go_wp2; go_ret; exact HF.out _ _ (by omega) (Drw.refl _)
 have g0:(r == 0)=false:=by simpa using h0
 have g1:(r == 1)=false:=by simpa using h1
 have g2:(r == 2)=false:=by simpa using h2
 have g3:(r == 3)=false:=by simpa using h3
 have g4:(r == 4)=false:=by simpa using h4
 have g5:(r == 5)=false:=by simpa using h5
 have g6:(r == 6)=false:=by simpa using h6
 have g7:(r == 7)=false:=by simpa using h7
 have g8:(r == 8)=false:=by simpa using h8
 have g9:(r == 9)=false:=by simpa using h9
 clear HF
 go_wp2_with fail
 refine (pick_any w0 b (p + 1) 65 (by omega) (by omega) _ HR.out).mono ?_
 rintro e w2 ⟨⟨x,rfl,x0,x1⟩,hR2,hO2⟩
 have HR2:=Lib.hid hR2
 have HO2:=Lib.hid (HO.out.trans hO2)
 clear hR2 hO2 HR HO
 go_wp2_with fail
 refine (pick_any w0 b (p + 1 + 1) 7 (by omega) (by omega) _ HR2.out).mono ?_
 rintro e w3 ⟨⟨y,rfl,y0,y1⟩,hR3,hO3⟩
 have HR3:=Lib.hid hR3
 have HO3:=Lib.hid (HO2.out.trans hO3)
 clear hR3 hO3 HR2 HO2
 have HF:Hid (∀ x w',x < 18446744073709551616 → Drw w3 w' → (∃ y,Ending.returned (.float .f64 x)=.returned (.float .f64 y) ∧ y < 18446744073709551616) ∧ (∃ p',p' ≤ p + 3 ∧ Rd w0 b p' w') ∧ Only b W w') :=
   fun x w' hx hd => ⟨⟨x,rfl,hx⟩,⟨p + 1 + 1 + 1,by omega,HR3.out.drw hd⟩,HO3.out.trans (Only.of_below (hd.below _))⟩
 clear HR3 HO3
 have key:=fun q => Flo.arith_any (P:=Vp.prog) .quo (by simp) 109 .f64 (floatOfInt .f64 (x - 32)) (floatOfInt .f64 q) w3
 rcases (by omega:y=0 ∨ y=1 ∨ y=2 ∨ y=3 ∨ y=4 ∨ y=5 ∨ y=6) with rfl | rfl | rfl | rfl | rfl | rfl | rfl
 · obtain ⟨z,w4,hz,hz2,hd⟩:=key 1
   clear key; go_wp2; go_ret; exact HF.out _ _ hz2 hd
 · obtain ⟨z,w4,hz,hz2,hd⟩:=key 2
   clear key; go_wp2; go_ret; exact HF.out _ _ hz2 hd
 · obtain ⟨z,w4,hz,hz2,hd⟩:=key 4
   clear key; go_wp2; go_ret; exact HF.out _ _ hz2 hd
 · obtain ⟨z,w4,hz,hz2,hd⟩:=key 8
   clear key; go_wp2; go_ret; exact HF.out _ _ hz2 hd
 · obtain ⟨z,w4,hz,hz2,hd⟩:=key 16
   clear key; go_wp2; go_ret; exact HF.out _ _ hz2 hd
 · obtain ⟨z,w4,hz,hz2,hd⟩:=key 32
   clear key; go_wp2; go_ret; exact HF.out _ _ hz2 hd
 · obtain ⟨z,w4,hz,hz2,hd⟩:=key 64
   clear key; go_wp2; go_ret; exact HF.out _ _ hz2 hd
end Go.Proofs.YtokbalggdhippaaGreat
end

section
namespace Go.Proofs.YtokbalggdhippaaGreat
open Go.RowKit
set_option maxHeartbeats 1000000 in
theorem wide_any (w0:World) (b p:Nat) (hp:p ≤ 1099511626000) (W:World) (h:Rd w0 b p W) :
   Calls Vp.prog 76 #[.pointer (some ⟨b,0,none⟩)] W fun e w' => (∃ x y,e=.returned (.complex .f64 x y) ∧ x < 18446744073709551616 ∧ y < 18446744073709551616) ∧ (∃ p',p' ≤ p + 6 ∧ Rd w0 b p' w') ∧ Only b W w':=by
 go_enter Vp.func76,Tryz.ntmps76
 go_wp2_with fail
 refine (part_any w0 b p (by omega) _ h).mono ?_
 rintro e w1 ⟨⟨x,rfl,hx⟩,⟨p1,hp1,hR⟩,hO⟩
 have HO:=Lib.hid hO
 clear hO h
 go_wp2_with fail
 refine (part_any w0 b p1 (by omega) _ hR).mono ?_
 rintro e w2 ⟨⟨y,rfl,hy⟩,⟨p2,hp2,hR2⟩,hO2⟩
 have HR2:=Lib.hid hR2
 have HO2:=Lib.hid (HO.out.trans hO2)
 clear hO2 hR hR2
 go_wp2
 go_ret
 exact ⟨⟨x,y,rfl,hx,hy⟩,⟨p2,by omega,HR2.out⟩,HO2.out⟩
set_option maxRecDepth 100000 in
set_option maxHeartbeats 4000000 in
theorem corner_any (w0:World) (b p d:Nat) (hd:d ≤ 4) (hp:p ≤ 1099511620000) (W:World) (h:Rd w0 b p W) :
   Calls Vp.prog 50 #[.pointer (some ⟨b,0,none⟩),.int .i64 d] W fun e w' => (∃ x y,e=.returned (.complex .f32 x y) ∧ x < 4294967296 ∧ y < 4294967296) ∧ (∃ p',p' ≤ p + 10 ∧ Rd w0 b p' w') ∧ Only b W w':=by
 obtain ⟨q,hq⟩:∃ q:Int,wrap64 (2 ^ d)=q:=⟨_,rfl⟩
 have hqb:1 ≤ q ∧ q ≤ 16:=by
   rcases (by omega:d=0 ∨ d=1 ∨ d=2 ∨ d=3 ∨ d=4) with rfl | rfl | rfl | rfl | rfl
   · have:wrap64 (2 ^ 0)=1:=by kernel_rfl
     omega
   · have:wrap64 (2 ^ 1)=2:=by kernel_rfl
     omega
   · have:wrap64 (2 ^ 2)=4:=by kernel_rfl
     omega
   · have:wrap64 (2 ^ 3)=8:=by kernel_rfl
     omega
   · have:wrap64 (2 ^ 4)=16:=by kernel_rfl
     omega
 obtain ⟨q1,q2⟩:=hqb
 obtain ⟨u,hu⟩:∃ u,(5 * q) % 251=u:=⟨_,rfl⟩
 obtain ⟨v,hv⟩:∃ v,(3 * q) % 251=v:=⟨_,rfl⟩
 have u1:0 ≤ u:=by omega
 have u2:u ≤ 251:=by omega
 have v1:0 ≤ v:=by omega
 have v2:v ≤ 251:=by omega
 go_enter Vp.func50,Tryz.ntmps50
 go_wp2_with fail
 refine (pick_any w0 b p (u + 1) (by omega) (by omega) _ h).mono ?_
 rintro e w1 ⟨⟨r,rfl,r0,r1⟩,hR,hO⟩
 obtain ⟨x1,w1',h1,_,d1⟩:=Flo.arith_any (P:=Vp.prog) .quo (by simp) 63 .f32 (floatOfInt .f32 r) (floatOfInt .f32 q) w1
 have HR:=Lib.hid (hR.drw d1)
 have HO:=Lib.hid (hO.trans (Only.of_below (d1.below _)))
 clear hR hO d1 h
 go_wp2_with fail
 refine (pick_any w0 b (p + 1) (v + 1) (by omega) (by omega) _ HR.out).mono ?_
 rintro e w2 ⟨⟨r',rfl,r0',r1'⟩,hR,hO⟩
 obtain ⟨x2,w2',h2,_,d2⟩:=Flo.arith_any (P:=Vp.prog) .quo (by simp) 63 .f32 (floatOfInt .f32 r') (floatOfInt .f32 q) w2
 have HR2:=Lib.hid (hR.drw d2)
 have HO2:=Lib.hid (HO.out.trans (hO.trans (Only.of_below (d2.below _))))
 clear hR hO d2 h1 HR HO
 go_wp2_with fail
 refine (pick_any w0 b (p + 1 + 1) 20 (by omega) (by omega) _ HR2.out).mono ?_
 rintro e w3 ⟨⟨r3,rfl,r30,r31⟩,hR,hO⟩
 have HR3:=Lib.hid hR
 have HO3:=Lib.hid (HO2.out.trans hO)
 clear hR hO h2 HR2 HO2 hq hu hv
 by_cases h3:r3=0
 · subst h3
   go_wp2_with fail
   refine (wide_any w0 b (p + 1 + 1 + 1) (by omega) _ HR3.out).mono ?_
   rintro e w4 ⟨⟨x,y,rfl,hx,hy⟩,⟨p4,hp4,hR⟩,hO⟩
   obtain ⟨a,c,w5,h5,ha,hc,d5⟩:=Flo.cconvert_any (P:=Vp.prog) 107 23 .f64 .f32 (by kernel_rfl) (Vp.und Tryz.underlying23) x y hx hy w4
   have HR5:=Lib.hid (hR.drw d5)
   have HO5:=Lib.hid (HO3.out.trans (hO.trans (Only.of_below (d5.below _))))
   clear hR hO d5 hx hy HR3 HO3
   go_wp2
   go_ret
   exact ⟨⟨a,c,rfl,ha,hc⟩,⟨p4,by omega,HR5.out⟩,HO5.out⟩
 · have h3':(r3 == 0)=false:=by simpa using h3
   obtain ⟨x3,w4,h4,hx3,d4⟩:=Flo.arith_any (P:=Vp.prog) .sub (by simp) 63 .f32 x1 1073741824 w3
   obtain ⟨x4,w5,h5,_,d5⟩:=Flo.arith_any (P:=Vp.prog) .sub (by simp) 63 .f32 x2 1069547520 w4
   have HR5:=Lib.hid (HR3.out.drw (d4.trans d5))
   have HO5:=Lib.hid (HO3.out.trans (Only.of_below ((d4.trans d5).below _)))
   clear d4 d5 HR3 HO3
   go_wp2_with fail
   refine (pick_any w0 b (p + 1 + 1 + 1) 2 (by omega) (by omega) _ HR5.out).mono ?_
   rintro e w6 ⟨⟨r6,rfl,r60,r61⟩,hR,hO⟩
   obtain ⟨x5,w7,h7,_,d7⟩:=Flo.arith_any (P:=Vp.prog) .mul (by simp) 63 .f32 1056964608 (floatOfInt .f32 r6) w6
   obtain ⟨x6,w8,h8,hx6,d8⟩:=Flo.arith_any (P:=Vp.prog) .add (by simp) 63 .f32 x4 x5 w7
   have HR8:=Lib.hid (hR.drw (d7.trans d8))
   have HO8:=Lib.hid (HO5.out.trans (hO.trans (Only.of_below ((d7.trans d8).below _))))
   clear hR hO d7 d8 HR5 HO5 h4 h5
   go_wp2
   go_ret
   exact ⟨⟨x3,x6,rfl,hx3,hx6⟩,⟨p + 1 + 1 + 1 + 1,by omega,HR8.out⟩,HO8.out⟩
set_option maxRecDepth 100000 in
set_option maxHeartbeats 4000000 in
theorem place_any (w0:World) (b p:Nat) (hp:p ≤ 1099511610000) (W:World) (h:Rd w0 b p W) :
   Calls Vp.prog 25 #[.pointer (some ⟨b,0,none⟩)] W fun e w' => (∃ (x y:Nat) (d s m:Int),e=.returned (.tuple #[.complex .f32 x y,.int .i64 d,.int .i64 s,.int .i64 m]) ∧ x < 4294967296 ∧ y < 4294967296 ∧ 1 ≤ m ∧ m ≤ 31) ∧ (∃ p',p' ≤ p + 20 ∧ Rd w0 b p' w') ∧ Only b W w':=by
 go_enter Vp.func25,Tryz.ntmps25
 go_wp2_with fail
 refine (pick_any w0 b p 5 (by omega) (by omega) _ h).mono ?_
 rintro e w1 ⟨⟨r,rfl,r0,r1⟩,hR,hO⟩
 have HO:=Lib.hid hO
 obtain ⟨d,rfl⟩:=Int.eq_ofNat_of_zero_le r0
 have hd:d ≤ 4:=by omega
 clear h hO r0 r1
 go_wp2_with fail
 refine (corner_any w0 b (p + 1) d hd (by omega) _ hR).mono ?_
 rintro e w2 ⟨⟨x,y,rfl,hx,hy⟩,⟨p2,hp2,hR2⟩,hO⟩
 have HO2:=Lib.hid (HO.out.trans hO)
 clear hO HO hR
 go_wp2_with fail
 refine (pick_any w0 b p2 4 (by omega) (by omega) _ hR2).mono ?_
 rintro e w3 ⟨⟨s,rfl,s0,s1⟩,hR3,hO⟩
 have HO3:=Lib.hid (HO2.out.trans hO)
 clear hO HO2 hR2
 go_wp2_with fail
 refine (pick_any w0 b (p2 + 1) 24 (by omega) (by omega) _ hR3).mono ?_
 rintro e w4 ⟨⟨k,rfl,k0,k1⟩,hR4,hO⟩
 have HO4:=Lib.hid (HO3.out.trans hO)
 have HK:=Lib.hid (pick_any w0 b (p2 + 1 + 1) 30 (by omega) (by omega) w4 hR4)
 clear hO HO3 hR3 hR4
 have fin:∀ (x y:Nat) (d s m:Int) w',x < 4294967296 → y < 4294967296 → 0 ≤ m → (m < 30 ∨ m=0) → Rd w0 b (p2 + 1 + 1 + 1) w' → Only b w4 w' → (∃ (x' y':Nat) (d' s' m':Int),Ending.returned (.tuple #[.complex .f32 x y,.int .i64 d,.int .i64 s,.int .i64 (1 + m)])=.returned (.tuple #[.complex .f32 x' y',.int .i64 d',.int .i64 s',.int .i64 m']) ∧ x' < 4294967296 ∧ y' < 4294967296 ∧ 1 ≤ m' ∧ m' ≤ 31) ∧ (∃ p',p' ≤ p + 20 ∧ Rd w0 b p' w') ∧ Only b W w' :=
   fun x y d s m w' h1 h2 h3 h4 h5 h6 => ⟨⟨x,y,d,s,1 + m,rfl,h1,h2,by omega,by omega⟩,⟨_,by omega,h5⟩,HO4.out.trans h6⟩
 have HF:=Lib.hid fin
 clear fin
 by_cases c0:k=0
 · subst c0
   go_wp2_with fail
   refine HK.out.mono ?_
   rintro e w5 ⟨⟨m,rfl,m0,m1⟩,hR5,hO⟩
   have H5:=Lib.hid (And.intro hR5 hO)
   clear hR5 hO
   go_wp2
   exact bodyPost_ret (v:=.tuple #[.complex .f32 x y,.int .i64 d,.int .i64 9,.int .i64 (1 + m)]) (by simp [results,Tryz.f25,go_sem]) rfl (HF.out _ _ _ _ _ _ hx hy m0 m1 H5.out.1 H5.out.2)
 by_cases c1:k=1
 · subst c1
   go_wp2_with fail
   refine HK.out.mono ?_
   rintro e w5 ⟨⟨m,rfl,m0,m1⟩,hR5,hO⟩
   have H5:=Lib.hid (And.intro hR5 hO)
   clear hR5 hO
   go_wp2
   exact bodyPost_ret (v:=.tuple #[.complex .f32 x y,.int .i64 11,.int .i64 (1 + s),.int .i64 (1 + m)]) (by simp [results,Tryz.f25,go_sem]) rfl (HF.out _ _ _ _ _ _ hx hy m0 m1 H5.out.1 H5.out.2)
 by_cases c2:k=2
 · subst c2
   go_wp2_with fail
   refine HK.out.mono ?_
   rintro e w5 ⟨⟨m,rfl,m0,m1⟩,hR5,hO⟩
   have H5:=Lib.hid (And.intro hR5 hO)
   clear hR5 hO
   go_wp2
   exact bodyPost_ret (v:=.tuple #[.complex .f32 1082130432 1082130432,.int .i64 d,.int .i64 (1 + s),.int .i64 (1 + m)]) (by simp [results,Tryz.f25,go_sem]) rfl (HF.out _ _ _ _ _ _ (by omega) (by omega) m0 m1 H5.out.1 H5.out.2)
 have g0:(k == 0)=false:=by simpa using c0
 have g1:(k == 1)=false:=by simpa using c1
 have g2:(k == 2)=false:=by simpa using c2
 go_wp2_with fail
 refine HK.out.mono ?_
 rintro e w5 ⟨⟨m,rfl,m0,m1⟩,hR5,hO⟩
 have H5:=Lib.hid (And.intro hR5 hO)
 clear hR5 hO
 go_wp2
 exact bodyPost_ret (v:=.tuple #[.complex .f32 x y,.int .i64 d,.int .i64 (1 + s),.int .i64 (1 + m)]) (by simp [results,Tryz.f25,go_sem]) rfl (HF.out _ _ _ _ _ _ hx hy m0 m1 H5.out.1 H5.out.2)
end Go.Proofs.YtokbalggdhippaaGreat
end

section
namespace Go.Proofs.YtokbalggdhippaaGreat
open Go.RowKit
attribute [local go_sem ↓] Go.wp_at_zero Go.wp_at_succ
attribute [local go_sem] run_store_float run_store_complex
theorem ret_of {w w':World} {cx cy:Nat} {deep size most:Int} {e:Ending} (hx:cx < 4294967296) (hy:cy < 4294967296) (good:Prop) (hg:good → MkP cx cy deep size) (h:OneRes w cx cy deep size most e w'):TileRet w cx cy deep size good e w':=by
 obtain ⟨⟨x,y,d,s,a1,n1,c1,a2,n2,c2,ok,rfl,hM⟩,hb⟩:=h
 cases ok with
 | false =>
   obtain ⟨hno,e⟩:=hM.1 rfl
   rw [e]
   exact TileRet.no hb (fun g => hno (hg g))
 | true =>
   obtain ⟨t,rfl,rfl,rfl,rfl,e,ht,-⟩:=hM.2 rfl
   rw [e]
   exact TileRet.yes hb ht.pl ht.made
theorem tileMake_any (cx cy:Nat) (deep size most:Int) (hx:cx < 4294967296) (hy:cy < 4294967296) (w:World) :
   Calls Vp.prog 29 #[.complex .f32 cx cy,.int .i64 deep,.int .i64 size,.int .i64 most] w (TileRet w cx cy deep size False) :=
 (specMakeC cx cy deep size most hx hy w).mono fun _ _ h => ret_of hx hy False (fun h => h.elim) h
theorem tileMake_ok (most:Int) (w:World) :
   Calls Vp.prog 29 #[.complex .f32 3212836864 3212836864,.int .i64 2,.int .i64 2,.int .i64 most] w (TileRet w 3212836864 3212836864 2 2 True):=by
 have hp:placeB 3212836864 3212836864 2 2=true:=by
   have h1:Flo.wholeB 3212836864 2=true:=by decide +kernel
   unfold placeB
   rw [show (2:Int).toNat=2 by rfl,h1]
   decide
 have hv:Flo.Pt 3212836864 2 (-4):=by
   refine ⟨by decide,by unfold Flo.fin; decide,?_⟩
   decide +kernel
 exact (specMakeC 3212836864 3212836864 2 2 most (by decide) (by decide) w).mono fun _ _ h => ret_of (by decide) (by decide) True (fun _ => ⟨2,2,-4,-4,rfl,rfl,by decide,by decide,hp,by decide,by decide,by decide,hv,hv,by decide,by decide,by decide,by decide⟩) h
theorem Only.allocb {b:Nat} {u v:World} (h:Only b u v) (o:Obj):Only b u (v.alloc o):=h.trans (Only.of_below ((Below.refl _ _).alloc (Nat.le_refl _) o))
theorem Only.farb {b:Nat} {u v:World} (h:Only b u v) {p:Addr} (hp:u.heap.size ≤ p.block) (x:Value):Only b u (v.setCell p x) :=
 ⟨h.os,h.tape,h.output,by rw [size_set]; exact h.size,fun k hk hne => (Below.heap_setCell v p x k (by omega)).trans (h.block k hk hne)⟩
theorem Box.onlyb {w0 W W':World} {b b':Nat} {C:Array Value} {T:TypeId} (h:Box w0 b' C T W) (k:Only b W W') (hne:b' ≠ b) (hb:w0.heap.size ≤ b):Box w0 b' C T W' :=
 ⟨(k.block b' h.lt hne).trans h.blk,h.old.trans (k.below _ h.old.size hb)⟩
theorem Rd.ownb {w0:World} {b p:Nat} {W:World} (h:Rd w0 b p W):w0.heap.size ≤ b ∧ b < W.heap.size:=by
 obtain ⟨_,_,_,h,_,h2,_⟩:=h; exact ⟨h2,h.lt⟩
theorem Rd.otherb {w0:World} {b q:Nat} {W:World} (h:Rd w0 b q W) {p:Addr} (hp:w0.heap.size ≤ p.block) (hne:b ≠ p.block) (v:Value):Rd w0 b q (W.setCell p v):=by
 obtain ⟨a,c,bs,h,r⟩:=h; exact ⟨a,c,bs,h.other hp hne v,r⟩
theorem ownsRow_only {w w':World} {base:Nat} {e:TypeId} {size:Nat} {v:Value} {n:Nat} {xs:List Value} {b:Nat} (h:w.ownsRow base e size v n xs) (k:Only b w w') (hb:b < base):w'.ownsRow base e size v n xs :=
 h.kept (row:=some b) ⟨k.os,k.tape,k.output,k.size,fun i hi hne => k.block i hi (fun e => hne (by rw [e]))⟩ (by
   cases hv:v.ownBlock with
   | none => exact .inl rfl
   | some q => right; intro he; injection he with he; have:=(h.lt q hv).1; omega)
theorem TRows.only {B n m:Nat} {xs:List Nat} {ys:List Int} {smv mkv:Value} {W W':World} {b:Nat} (h:TRows B n m xs ys smv mkv W) (k:Only b W W') (hb:b < B):TRows B n m xs ys smv mkv W' :=
 ⟨ownsRow_only h.S k hb,ownsRow_only h.M k hb,h.hx,h.hy⟩
structure LT (w0 W0:World) (b rb ob n gs cs gm cm cx cy p:Nat) (deep size:Int) (xs:List Nat) (ys:List Int) (W:World):Prop where
 O:Box w0 ob #[.complex .f32 cx cy,.int .i64 deep,.int .i64 size,.slice (some ⟨gs,0,none⟩) n cs,.slice (some ⟨gm,0,none⟩) n cm] 29 W
 R:Box w0 rb #[.complex .f32 0 0,.int .i64 0,.int .i64 0,.slice none 0 0,.slice none 0 0] 29 W
 T:TRows W0.heap.size n n xs ys (.slice (some ⟨gs,0,none⟩) n cs) (.slice (some ⟨gm,0,none⟩) n cm) W
 D:Rd w0 b p W
 K:Only b W0 W
 ne:rb ≠ ob
 hb:w0.heap.size ≤ b
 hb2:b < W0.heap.size
 hr:W0.heap.size ≤ rb
 ho:W0.heap.size ≤ ob
 h0:w0.heap.size ≤ W0.heap.size
theorem LT.pick {w0 W0:World} {b rb ob n gs cs gm cm cx cy p p':Nat} {deep size:Int} {xs:List Nat} {ys:List Int} {W W':World} (h:LT w0 W0 b rb ob n gs cs gm cm cx cy p deep size xs ys W) (k:Only b W W') (hD:Rd w0 b p' W'):LT w0 W0 b rb ob n gs cs gm cm cx cy p' deep size xs ys W' :=
 ⟨h.O.onlyb k (by have:=h.ho; have:=h.hb2; omega) h.hb,h.R.onlyb k (by have:=h.hr; have:=h.hb2; omega) h.hb,h.T.only k h.hb2,hD,h.K.trans k,h.ne,h.hb,h.hb2,h.hr,h.ho,h.h0⟩
theorem LT.drw {w0 W0:World} {b rb ob n gs cs gm cm cx cy p:Nat} {deep size:Int} {xs:List Nat} {ys:List Int} {W W':World} (h:LT w0 W0 b rb ob n gs cs gm cm cx cy p deep size xs ys W) (k:Drw W W'):LT w0 W0 b rb ob n gs cs gm cm cx cy p deep size xs ys W' :=
 h.pick (Only.of_below (k.below _)) (h.D.drw k)
theorem LT.setM {w0 W0:World} {b rb ob n gs cs gm cm cx cy p:Nat} {deep size:Int} {xs:List Nat} {ys:List Int} {W:World} (h:LT w0 W0 b rb ob n gs cs gm cm cx cy p deep size xs ys W) (j:Nat) {u:Int} (hu:-1 ≤ u ∧ u ≤ 2):LT w0 W0 b rb ob n gs cs gm cm cx cy p deep size xs (ys.set j u) (W.setCell ⟨gm,j,none⟩ (.int .i64 u)):=by
 have n1:=ownsRow_ne h.T.M h.O.blk (by decide)
 have n2:=ownsRow_ne h.T.M h.R.blk (by decide)
 have hg:=(h.T.M.lt gm rfl).1
 have hbb:=h.hb2
 have h00:=h.h0
 simp only [Value.ownBlock,ne_eq,Option.some.injEq] at n1 n2
 exact ⟨h.O.other (p:=⟨gm,j,none⟩) (by simp; omega) (fun e => n1 e.symm) _,h.R.other (p:=⟨gm,j,none⟩) (by simp; omega) (fun e => n2 e.symm) _,h.T.setM j hu,h.D.otherb (p:=⟨gm,j,none⟩) (by simp; omega) (by simp; omega) _,h.K.farb (p:=⟨gm,j,none⟩) hg _,h.ne,h.hb,h.hb2,h.hr,h.ho,h.h0⟩
theorem LT.setS {w0 W0:World} {b rb ob n gs cs gm cm cx cy p:Nat} {deep size:Int} {xs:List Nat} {ys:List Int} {W:World} (h:LT w0 W0 b rb ob n gs cs gm cm cx cy p deep size xs ys W) (j:Nat) {u:Nat} (hu:u < 4294967296):LT w0 W0 b rb ob n gs cs gm cm cx cy p deep size (xs.set j u) ys (W.setCell ⟨gs,j,none⟩ (.float .f32 u)):=by
 have n1:=ownsRow_ne h.T.S h.O.blk (by decide)
 have n2:=ownsRow_ne h.T.S h.R.blk (by decide)
 have hg:=(h.T.S.lt gs rfl).1
 have hbb:=h.hb2
 have h00:=h.h0
 simp only [Value.ownBlock,ne_eq,Option.some.injEq] at n1 n2
 exact ⟨h.O.other (p:=⟨gs,j,none⟩) (by simp; omega) (fun e => n1 e.symm) _,h.R.other (p:=⟨gs,j,none⟩) (by simp; omega) (fun e => n2 e.symm) _,h.T.setS j hu,h.D.otherb (p:=⟨gs,j,none⟩) (by simp; omega) (by simp; omega) _,h.K.farb (p:=⟨gs,j,none⟩) hg _,h.ne,h.hb,h.hb2,h.hr,h.ho,h.h0⟩
theorem LT.shut {w0 W0:World} {b rb ob n gs cs gm cm cx cy p:Nat} {deep size:Int} {xs:List Nat} {ys:List Int} {W:World} (h:LT w0 W0 b rb ob n gs cs gm cm cx cy p deep size xs ys W) (u0 u1 u2 u3 u4:Value) {P:Nat} (hP:p ≤ P) :
   TRows W0.heap.size n n xs ys (.slice (some ⟨gs,0,none⟩) n cs) (.slice (some ⟨gm,0,none⟩) n cm) (((((W.setCell ⟨rb,0,none⟩ u0).setCell ⟨rb,1,none⟩ u1).setCell ⟨rb,2,none⟩ u2).setCell ⟨rb,3,none⟩ u3).setCell ⟨rb,4,none⟩ u4) ∧
   (∃ p',p' ≤ P ∧ Rd w0 b p' (((((W.setCell ⟨rb,0,none⟩ u0).setCell ⟨rb,1,none⟩ u1).setCell ⟨rb,2,none⟩ u2).setCell ⟨rb,3,none⟩ u3).setCell ⟨rb,4,none⟩ u4)) ∧
   Only b W0 (((((W.setCell ⟨rb,0,none⟩ u0).setCell ⟨rb,1,none⟩ u1).setCell ⟨rb,2,none⟩ u2).setCell ⟨rb,3,none⟩ u3).setCell ⟨rb,4,none⟩ u4):=by
 have hr:=h.hr
 have h00:=h.h0
 have hbb:=h.hb2
 refine ⟨h.T.box5 h.R (by omega) u0 u1 u2 u3 u4,⟨p,hP,?_⟩,?_⟩
 · exact ((((h.D.otherb (p:=⟨rb,0,none⟩) (by simp; omega) (by simp; omega) _).otherb (p:=⟨rb,1,none⟩) (by simp; omega) (by simp; omega) _).otherb (p:=⟨rb,2,none⟩) (by simp; omega) (by simp; omega) _).otherb (p:=⟨rb,3,none⟩) (by simp; omega) (by simp; omega) _).otherb (p:=⟨rb,4,none⟩) (by simp; omega) (by simp; omega) _
 · exact ((((h.K.farb (p:=⟨rb,0,none⟩) hr _).farb (p:=⟨rb,1,none⟩) hr _).farb (p:=⟨rb,2,none⟩) hr _).farb (p:=⟨rb,3,none⟩) hr _).farb (p:=⟨rb,4,none⟩) hr _
end Go.Proofs.YtokbalggdhippaaGreat
end
