/- Merged texts: JoiS, BlS, Dyq, TilZ, Dyb, TptA. -/
import Derived.Test.YthhfljldbfgpcaaGreatDoorT48
import Derived.Test.YthhfljldbfgpcaaGreatDoorT18
import Derived.Test.YthhfljldbfgpcaaGreatDoorT9
import Derived.BigQuiet
import Derived.Test.YthhfljldbfgpcaaGreatDoorT2
import Derived.Test.YthhfljldbfgpcaaGreatDoorT4
import Derived.Lib.TrailingZeros
import Derived.Test.YthhfljldbfgpcaaGreatDoorT19
import Derived.Deep.RegionHeld3
set_option linter.all false
section
namespace Go.Proofs.YthhfljldbfgpcaaGreatDoor
open Go.RowKit Flo
attribute [local go_sem] run_store_float run_store_complex
theorem widen_finJ {x:Nat} {a:Int} (h:Val Ieee.single x a) {p:Nat} (hp:Al .f64 (widenC x) p):Val Ieee.double p (a * (2 ^ wup:Nat)):=by
 obtain ⟨y,hy,hv⟩:=widen_val h
 have e:widenC x=y:=by unfold widenC; rw [hy]; rfl
 rw [e] at hp
 rw [Al.same hp (val_nan (k:=.f64) hv)]
 exact hv
set_option maxHeartbeats 400000 in
theorem sameSingle_valJ {x y:Nat} {a b:Int} (hx:Val Ieee.single x a) (hy:Val Ieee.single y b) (w:World) :
   Calls Vp.prog 27 #[.complex .f32 x y,.complex .f32 x y] w fun e w' => e=.returned (.bool true) ∧ Drw w w':=by
 obtain ⟨p,q,w1,h1,p1,q1,d1,ap,aq⟩:=Flo.cwiden_al (P:=Vp.prog) 23 39 (by kernel_rfl) (Vp.und Tryz.underlying39) x y hx.lt hy.lt w
 obtain ⟨p',q',w2,h2,p1',q1',d2,ap',aq'⟩:=Flo.cwiden_al (P:=Vp.prog) 23 39 (by kernel_rfl) (Vp.und Tryz.underlying39) x y hx.lt hy.lt w1
 have n1:nan .f64 p=false:=val_nan (k:=.f64) (widen_finJ hx ap)
 have n2:nan .f64 q=false:=val_nan (k:=.f64) (widen_finJ hy aq)
 have e1:p'=p:=Al.same (ap.symm.trans ap') n1
 have e2:q'=q:=Al.same (aq.symm.trans aq') n2
 subst e1 e2
 have H1:=Lib.hid (alikeFloat_refl p' n1)
 have H2:=Lib.hid (alikeFloat_refl q' n2)
 have HD:=Lib.hid (d1.trans d2)
 clear n1 n2 ap aq ap' aq' d1 d2 hx hy
 go_enter Vp.func27,Tryz.ntmps27
 go_wp2_with fail
 go_enter Vp.func61,Tryz.ntmps61
 go_wp2_with fail
 refine (H1.out _).mono ?_
 rintro e w3 ⟨rfl,rfl⟩
 go_wp2_with fail
 refine (H2.out _).mono ?_
 rintro e w3 ⟨rfl,rfl⟩
 go_wp2
 go_ret
 exact ⟨rfl,HD.out⟩
set_option maxHeartbeats 400000 in
theorem sameSmall_al (x y:Nat) (hx:x < 4294967296) (h:Al .f32 x y) (w:World) :
   Calls Vp.prog 11 #[.float .f32 x,.float .f32 y] w fun e w' => e=.returned (.bool true) ∧ Drw w w':=by
 rcases h with rfl | ⟨n1,n2⟩
 · exact sameSmall_self x hx w
 · obtain ⟨p,hp,hpn⟩:=run_convert_nan64 42 68 (by kernel_rfl) (Vp.und Tryz.underlying68) n1 w
   obtain ⟨q,hq,hqn⟩:=run_convert_nan64 42 68 (by kernel_rfl) (Vp.und Tryz.underlying68) n2 w.drew
   have H:=Lib.hid (alikeFloat_nan p q hpn hqn)
   clear hpn hqn n1 n2
   go_enter Vp.func11,Tryz.ntmps11
   go_wp2_with (go_at_call 35; refine (H.out _).mono ?_; rintro e w' ⟨rfl,rfl⟩)
   go_ret
   exact ⟨rfl,(Drw.refl w).drew.drew⟩
set_option maxRecDepth 100000 in
set_option maxHeartbeats 2000000 in
theorem sameTile_al {cx cy:Nat} {da db:Int} (hcx:Val Ieee.single cx da) (hcy:Val Ieee.single cy db) (deep size:Int) (a1 b1 a2 b2:Option Addr) (c1 e1 c2 e2:Nat) (xs xs':List Nat) (ys:List Int) (n:Nat) (hn:n ≤ 1048576) (m:Nat) (hm:ys.length=m) (hmm:m ≤ 1048576) (hx:∀ k,k < n → ∃ x y,xs[k]?=some x ∧ xs'[k]?=some y ∧ x < 4294967296 ∧ Al .f32 x y) (w:World) (s1:Sl w a1 (xs.map floV)) (t1:Sl w b1 (xs'.map floV)) (s2:Sl w a2 (ys.map intV)) (t2:Sl w b2 (ys.map intV)) :
   Calls Vp.prog 7 #[.agg #[.complex .f32 cx cy,.int .i64 deep,.int .i64 size,.slice a1 n c1,.slice a2 m c2],.agg #[.complex .f32 cx cy,.int .i64 deep,.int .i64 size,.slice b1 n e1,.slice b2 m e2]] w fun e w' => e=.returned (.bool true) ∧ Below w.heap.size w w':=by
 subst hm
 have X0:Box w w.heap.size #[.complex .f32 cx cy,.int .i64 deep,.int .i64 size,.slice a1 n c1,.slice a2 ys.length c2] 29 ((w.alloc (.cells #[.complex .f32 cx cy,.int .i64 deep,.int .i64 size,.slice a1 n c1,.slice a2 ys.length c2] 29)).alloc (.cells #[.complex .f32 cx cy,.int .i64 deep,.int .i64 size,.slice b1 n e1,.slice b2 ys.length e2] 29)):=(Box.new w _ _).alloc _
 have X1:Box w (w.heap.size + 1) #[.complex .f32 cx cy,.int .i64 deep,.int .i64 size,.slice b1 n e1,.slice b2 ys.length e2] 29 ((w.alloc (.cells #[.complex .f32 cx cy,.int .i64 deep,.int .i64 size,.slice a1 n c1,.slice a2 ys.length c2] 29)).alloc (.cells #[.complex .f32 cx cy,.int .i64 deep,.int .i64 size,.slice b1 n e1,.slice b2 ys.length e2] 29)):=by
   have:=(Box.new (w.alloc (.cells #[.complex .f32 cx cy,.int .i64 deep,.int .i64 size,.slice a1 n c1,.slice a2 ys.length c2] 29)) #[.complex .f32 cx cy,.int .i64 deep,.int .i64 size,.slice b1 n e1,.slice b2 ys.length e2] 29).up (w0:=w) ((Below.refl _ _).alloc (Nat.le_refl _) _)
   rwa [World.size_alloc] at this
 have HX0:=Lib.hid X0
 have HX1:=Lib.hid X1
 have HA:=Lib.hid (s1.step X0.old)
 have HB:=Lib.hid (t1.step X0.old)
 have HS:=Lib.hid (fun W (k:Below w.heap.size w W) => sameInts_same a2 b2 c2 e2 ys hmm W (s2.step k) (t2.step k))
 have HC:=Lib.hid (fun W => sameSingle_valJ hcx hcy W)
 have HE:=Lib.hid (fun k (h:k < n) => show ∃ x y,x < 4294967296 ∧ Al .f32 x y ∧ (xs.map floV)[k]?=some (.float .f32 x) ∧ (xs'.map floV)[k]?=some (.float .f32 y) from by
   obtain ⟨x,y,h1,h2,h3,h4⟩:=hx k h
   exact ⟨x,y,h3,h4,by rw [List.getElem?_map,h1]; rfl,by rw [List.getElem?_map,h2]; rfl⟩)
 clear X0 X1 s1 t1 s2 t2 hcx hcy hx
 obtain ⟨r0,r1,r2,r3,r4⟩:=HX0.out.cells5
 obtain ⟨z0,z1,z2,z3,z4⟩:=HX1.out.cells5
 go_enter Vp.func7,Tryz.ntmps7
 go_wp2_with fail
 with_reducible refine (HC.out _).mono ?_
 rintro e w1 ⟨rfl,hd⟩
 have HX01:=Lib.hid (HX0.out.step (hd.below _))
 have HX11:=Lib.hid (HX1.out.step (hd.below _))
 have HA1:=Lib.hid (HA.out.drw hd)
 have HB1:=Lib.hid (HB.out.drw hd)
 clear hd HA HB HX0 HX1 r0 r1 r2 r3 r4 z0 z1 z2 z3 z4
 obtain ⟨r0,r1,r2,r3,r4⟩:=HX01.out.cells5
 obtain ⟨z0,z1,z2,z3,z4⟩:=HX11.out.cells5
 go_wp2
 go_loopw [5] (fun i wr => ∃ k:Nat,k ≤ n ∧ i=.int .i64 k ∧ Hid (Drw w1 wr)) (fun i _ => (n - intOf i).toNat)
 case atStart => exact ⟨0,by omega,rfl,Drw.refl _⟩
 case round =>
   obtain ⟨k,hk,rfl,HD⟩:=hrel
   have HY0:=Lib.hid (HX01.out.step (HD.out.below _))
   have HY1:=Lib.hid (HX11.out.step (HD.out.below _))
   clear r0 r1 r2 r3 r4 z0 z1 z2 z3 z4
   obtain ⟨r0,r1,r2,r3,r4⟩:=HY0.out.cells5
   obtain ⟨z0,z1,z2,z3,z4⟩:=HY1.out.cells5
   by_cases hlt:k < n
   · obtain ⟨x,y,hx,hal,hxe,hye⟩:=HE.out k hlt
     obtain ⟨b1,o1,rfl,hc1⟩:=(HA1.out.drw HD.out).at hxe
     obtain ⟨b2,o2,rfl,hc2⟩:=(HB1.out.drw HD.out).at hye
     have HF:=Lib.hid (fun W => sameSmall_al x y hx hal W)
     clear hxe hye hal
     go_upto_region 6 with fail
     go_quiet ((go_at_call 11; exact quiet_drw (HF.out _)))
     have HD2:=Lib.hid (HD.out.drewN nq)
     go_wp2
     go_roundw
     case rel => exact ⟨k + 1,by omega,by go_num,HD2⟩
     case measure => simp [intOf]; omega
   · have HO:=Lib.hid HY0.out.old
     go_wp2_with fail
     with_reducible refine (HS.out _ HO.out).mono ?_
     rintro e w2 ⟨rfl,hd⟩
     have HO2:=Lib.hid (HO.out.trans (hd.below _))
     go_wp2
     go_ret
     exact ⟨rfl,HO2.out⟩
theorem sameTile_zero (w:World):Calls Vp.prog 7 #[.agg #[.complex .f32 0 0,.int .i64 0,.int .i64 0,.slice none 0 0,.slice none 0 0],.agg #[.complex .f32 0 0,.int .i64 0,.int .i64 0,.slice none 0 0,.slice none 0 0]] w fun e w' => e=.returned (.bool true) ∧ Below w.heap.size w w':=by
 have hz:Val Ieee.single 0 0:=⟨by decide,by unfold Flo.fin; decide,by decide +kernel⟩
 exact sameTile_al hz hz 0 0 none none none none 0 0 0 0 [] [] [] 0 (by decide) 0 rfl (by decide) (fun k h => by omega) w (.inl rfl) (.inl rfl) (.inl rfl) (.inl rfl)
end Go.Proofs.YthhfljldbfgpcaaGreatDoor
end

section
namespace Go.Proofs.YthhfljldbfgpcaaGreatDoor
open Go.RowKit Flo
attribute [local go_sem ↓] Go.wp_at_zero Go.wp_at_succ
attribute [local go_sem] run_store_float run_store_complex
theorem TOwn.well {B:Nat} {t:TRec} {W:World} {most:Int} (h:TOwn B t W) (g:TGood most t):wellB t.size t.xs.length t.ys=true:=by
 obtain ⟨d,s,hd,hs,hn,s1,s8,d10⟩:=g.n
 obtain ⟨l1,l2⟩:=h.lens
 refine wellB_ok (by rw [l1,hn,hs]; simp) (by rw [l2,l1]) fun j hj => ?_
 have:=h.made.hy t.ys[j] (List.getElem_mem hj)
 unfold markB inB
 simp only [Bool.and_eq_true,decide_eq_true_eq]
 exact this
theorem sameRecs {most:Int} {t u:TRec} {B B':Nat} {W:World} (ht:TOwn B t W) (hu:TOwn B' u W) (gt:TGood most t) (gu:TGood most u) (ex:t.cx=u.cx) (ey:t.cy=u.cy) (ed:t.deep=u.deep) (es:t.size=u.size) :
   Calls Vp.prog 7 #[.agg #[.complex .f32 t.cx t.cy,.int .i64 t.deep,.int .i64 t.size,.slice (some ⟨t.gs,0,none⟩) t.n t.cs,.slice (some ⟨t.gm,0,none⟩) t.n t.cm],.agg #[.complex .f32 u.cx u.cy,.int .i64 u.deep,.int .i64 u.size,.slice (some ⟨u.gs,0,none⟩) u.n u.cs,.slice (some ⟨u.gm,0,none⟩) u.n u.cm]] W fun e w' => e=.returned (.bool true) ∧ Below W.heap.size W w':=by
 obtain ⟨e1,e2⟩:=gt.same gu ex ey ed es
 have en:u.n=t.n:=by unfold TRec.n; rw [es]
 obtain ⟨d,s,a,b,h1,h2,h3,-,-⟩:=gt
 obtain ⟨d',s',k1,k2,k3,k4,k5,k6⟩:=gu.n
 have hn:t.n ≤ 64:=by
   rw [← en,k3]
   exact Nat.mul_le_mul k5 k5
 obtain ⟨l1,l2⟩:=ht.lens
 have S1:=sl_of_own ht.made.S
 have S2:=sl_of_own ht.made.M
 have T1:=sl_of_own hu.made.S
 have T2:=sl_of_own hu.made.M
 rw [← e1] at T1
 rw [← e2] at T2
 rw [← ex,← ey,← ed,← es,en]
 exact sameTile_al h3.px h3.py t.deep t.size _ _ _ _ t.cs u.cs t.cm u.cm t.xs t.xs t.ys t.n (by omega) t.n l2 (by omega) (fun k hk => ⟨t.xs[k]'(by omega),t.xs[k]'(by omega),List.getElem?_eq_getElem (by omega),List.getElem?_eq_getElem (by omega),ht.made.hx _ (List.getElem_mem _),Al.refl _ _⟩) W S1 T1 S2 T2
end Go.Proofs.YthhfljldbfgpcaaGreatDoor
end

section
namespace Go.Proofs.YthhfljldbfgpcaaGreatDoor
open Flo
def SplitOf (A:Int) (d:Nat) (o p:Int):Prop:=(A=0 ∧ o=0 ∧ p=0) ∨ ∃ j:Nat,j ≤ 16 ∧ A=o * (2 ^ j:Nat) ∧ p=(j:Int) - d ∧ o % 2=1
theorem pow_cut {a n b m:Nat} (h:a * 2 ^ n=(2 * b + 1) * 2 ^ m):∃ j,m=n + j ∧ a=(2 * b + 1) * 2 ^ j:=by
 rcases Nat.lt_or_ge m n with h1 | h1
 · obtain ⟨t,rfl⟩:∃ t,n=m + (t + 1):=⟨n - m - 1,by omega⟩
   rw [Nat.pow_add,Nat.mul_comm (2 ^ m),← Nat.mul_assoc] at h
   have:=Nat.eq_of_mul_eq_mul_right (Nat.two_pow_pos m) h
   rw [Nat.pow_succ,← Nat.mul_assoc] at this
   omega
 · obtain ⟨j,rfl⟩:∃ j,m=n + j:=⟨m - n,by omega⟩
   rw [Nat.pow_add,Nat.mul_comm (2 ^ n),← Nat.mul_assoc] at h
   exact ⟨j,rfl,Nat.eq_of_mul_eq_mul_right (Nat.two_pow_pos n) h⟩
theorem pow_small {j b:Nat} (h:(2 * b + 1) * 2 ^ j ≤ 65536):j ≤ 16:=by
 rcases Nat.lt_or_ge 16 j with h1 | h1
 · have h2:2 ^ 17 ≤ 2 ^ j:=Nat.pow_le_pow_right (by omega) h1
   have h3:1 * 2 ^ j ≤ (2 * b + 1) * 2 ^ j:=Nat.mul_le_mul_right _ (by omega)
   omega
 · exact h1
theorem val_sgn {z:Nat} {v:Int} (h:Val Ieee.double z v):(v < 0 → sgn Ieee.double z=true) ∧ (0 < v → sgn Ieee.double z=false):=by
 have hiv:=h.iv
 unfold iv at hiv
 constructor
 · intro hv
   cases hs:sgn Ieee.double z
   · rw [hs] at hiv
     simp only [Bool.false_eq_true,if_false] at hiv
     omega
   · rfl
 · intro hv
   cases hs:sgn Ieee.double z
   · rfl
   · rw [hs] at hiv
     simp only [if_true] at hiv
     omega
theorem split_plain {z:Nat} {A:Int} {d:Nat} (hd:d ≤ 11) (hA:A.natAbs ≤ 65536) (hz:Val Ieee.double z (A * (2 ^ (u64 - d):Nat))) :
   (A=0 ∧ z % 9223372036854775808 / 4503599627370496=0 ∧ z % 4503599627370496=0) ∨
   (0 < z % 9223372036854775808 / 4503599627370496 ∧ z % 9223372036854775808 / 4503599627370496 < 2047 ∧ ∃ o j:Nat,z % 4503599627370496 + 4503599627370496=2 ^ Lib.ctz 64 (z % 4503599627370496 + 4503599627370496) * (2 * o + 1) ∧ Lib.ctz 64 (z % 4503599627370496 + 4503599627370496) < 64 ∧
     Lib.ctz 64 (z % 4503599627370496 + 4503599627370496) + z % 9223372036854775808 / 4503599627370496=1075 - d + j ∧ j ≤ 16 ∧ 2 * o + 1 ≤ 65536 ∧
     ((A < 0 ∧ z / 9223372036854775808=1 ∧ A=-(2 * o + 1:Int) * (2 ^ j:Nat)) ∨ (0 < A ∧ z / 9223372036854775808=0 ∧ A=(2 * o + 1:Int) * (2 ^ j:Nat)))):=by
 obtain ⟨h1,h2,h3,h4⟩:=split_bits hz
 obtain ⟨s1,s2⟩:=val_sgn hz
 have hm:z % 4503599627370496 < 4503599627370496:=Nat.mod_lt _ (by omega)
 generalize z % 9223372036854775808 / 4503599627370496=e at *
 generalize z % 4503599627370496=m at *
 generalize z / 9223372036854775808=s at *
 have hP:0 < 2 ^ (u64 - d):=Nat.two_pow_pos _
 have hP52:2 ^ 52 ≤ 2 ^ (u64 - d):=Nat.pow_le_pow_right (by omega) (by rw [u64_eq]; omega)
 rw [Int.natAbs_mul,Int.natAbs_natCast] at h2
 by_cases hA0:A=0
 · left
   subst hA0
   have:0 < 2 ^ (e - 1):=Nat.two_pow_pos _
   simp only [Int.natAbs_zero,Nat.zero_mul] at h2
   have h5:=(Nat.mul_eq_zero.1 h2.symm).resolve_right (by omega)
   split at h5
   · exact ⟨rfl,‹_›,h5⟩
   · omega
 · right
   have he:e ≠ 0:=by
     rintro rfl
     rw [if_pos rfl] at h2
     simp only [Nat.zero_sub,Nat.pow_zero,Nat.mul_one] at h2
     have:1 * 2 ^ (u64 - d) ≤ A.natAbs * 2 ^ (u64 - d):=Nat.mul_le_mul_right _ (by omega)
     omega
   rw [if_neg he] at h2
   obtain ⟨o,ho,hk⟩:=Lib.ctzFrom_spec 64 (m + 4503599627370496) (by omega) (by omega)
   have hc:Lib.ctz 64 (m + 4503599627370496)=Lib.ctzFrom 64 (m + 4503599627370496):=by unfold Lib.ctz; rw [if_neg (by omega)]
   rw [← hc] at ho hk
   generalize Lib.ctz 64 (m + 4503599627370496)=k at *
   have h6:A.natAbs * 2 ^ (u64 - d)=(2 * o + 1) * 2 ^ (k + (e - 1)):=by
     rw [h2,ho,Nat.pow_add,Nat.mul_comm (2 ^ k),Nat.mul_assoc]
   obtain ⟨j,hj,ha⟩:=pow_cut h6
   have hj16:j ≤ 16:=pow_small (b:=o) (by omega)
   have ho2:2 * o + 1 ≤ 65536:=by
     have:(2 * o + 1) * 1 ≤ (2 * o + 1) * 2 ^ j:=Nat.mul_le_mul_left _ (Nat.two_pow_pos j)
     omega
   refine ⟨by omega,h4,o,j,ho,hk,by rw [u64_eq] at hj; omega,hj16,ho2,?_⟩
   have hpos:(0:Int) < (2 ^ (u64 - d):Nat):=Int.ofNat_lt.2 hP
   have ha2:(A.natAbs:Int)=(2 * o + 1:Int) * (2 ^ j:Nat):=by rw [ha]; simp
   rcases Int.lt_or_lt_of_ne hA0 with h | h
   · left
     rw [s1 (Int.mul_neg_of_neg_of_pos h hpos)] at h3
     refine ⟨h,h3,?_⟩
     rw [Int.neg_mul,← ha2]
     omega
   · right
     rw [s2 (Int.mul_pos h hpos)] at h3
     refine ⟨h,h3,?_⟩
     rw [← ha2]
     omega
theorem u64_and_mask (a m:Nat) (ha:a < 18446744073709551616) (hm:m ≤ 63):bits .and .u64 (a:Int) ((2 ^ m - 1:Nat):Int)=((a % 2 ^ m:Nat):Int):=by
 have hp:2 ^ m ≤ 2 ^ 63:=Nat.pow_le_pow_right (by omega) hm
 have hp0:0 < 2 ^ m:=Nat.two_pow_pos m
 have hlt:a % 2 ^ m < 2 ^ m:=Nat.mod_lt _ hp0
 show IntKind.u64.wrap ((BitVec.ofInt 64 a &&& BitVec.ofInt 64 ((2 ^ m - 1:Nat):Int)).toNat:Int)=_
 rw [BitVec.toNat_and,BitVec.toNat_ofInt,BitVec.toNat_ofInt]
 rw [show ((a:Int) % (2 ^ 64:Nat)).toNat=a by omega,show (((2 ^ m - 1:Nat):Int) % (2 ^ 64:Nat)).toNat=2 ^ m - 1 by omega,Nat.and_two_pow_sub_one_eq_mod]
 generalize a % 2 ^ m=r at *
 simp [IntKind.wrap,IntKind.bits,IntKind.signed]
 omega
theorem i64_and_mask (a m:Nat) (ha:a < 9223372036854775808) (hm:m ≤ 62):bits .and .i64 (a:Int) ((2 ^ m - 1:Nat):Int)=((a % 2 ^ m:Nat):Int):=by
 have hp:2 ^ m ≤ 2 ^ 62:=Nat.pow_le_pow_right (by omega) hm
 have hp0:0 < 2 ^ m:=Nat.two_pow_pos m
 have hlt:a % 2 ^ m < 2 ^ m:=Nat.mod_lt _ hp0
 show IntKind.i64.wrap ((BitVec.ofInt 64 a &&& BitVec.ofInt 64 ((2 ^ m - 1:Nat):Int)).toNat:Int)=_
 rw [BitVec.toNat_and,BitVec.toNat_ofInt,BitVec.toNat_ofInt]
 rw [show ((a:Int) % (2 ^ 64:Nat)).toNat=a by omega,show (((2 ^ m - 1:Nat):Int) % (2 ^ 64:Nat)).toNat=2 ^ m - 1 by omega,Nat.and_two_pow_sub_one_eq_mod]
 generalize a % 2 ^ m=r at *
 simp [IntKind.wrap,IntKind.bits,IntKind.signed]
 omega
theorem u64_or_top (a m:Nat) (ha:a < 2 ^ m) (hm:m ≤ 62):bits .or .u64 (a:Int) ((2 ^ m:Nat):Int)=((a + 2 ^ m:Nat):Int):=by
 have hp:2 ^ m ≤ 2 ^ 62:=Nat.pow_le_pow_right (by omega) hm
 show IntKind.u64.wrap ((BitVec.ofInt 64 a ||| BitVec.ofInt 64 ((2 ^ m:Nat):Int)).toNat:Int)=_
 rw [BitVec.toNat_or,BitVec.toNat_ofInt,BitVec.toNat_ofInt]
 rw [show ((a:Int) % (2 ^ 64:Nat)).toNat=a by omega,show (((2 ^ m:Nat):Int) % (2 ^ 64:Nat)).toNat=2 ^ m by omega]
 have e:=Nat.two_pow_add_eq_or_of_lt ha 1
 rw [Nat.mul_one] at e
 rw [Nat.or_comm,← e]
 generalize 2 ^ m=P at *
 simp [IntKind.wrap,IntKind.bits,IntKind.signed]
 omega
end Go.Proofs.YthhfljldbfgpcaaGreatDoor
end

section
namespace Go.Proofs.YthhfljldbfgpcaaGreatDoor
open Go.RowKit Flo
set_option maxRecDepth 100000 in
set_option maxHeartbeats 1000000 in
theorem implTPoint_good (cx cy:Nat) (deep size:Int) (hx:cx < 4294967296) (hy:cy < 4294967296) (hp:placeB cx cy deep size=true) (a a':Option Addr) (n c c':Nat) (ys:List Int) (hl:ys.length ≤ 1048576) (row col:Int) (r0:0 ≤ row) (r1:row < size) (l0:0 ≤ col) (l1:col < size) (w:World) (hs:Sl w a' (ys.map intV)) (hw:wellB size n ys=true) :
   Calls Vp.prog 8 #[.agg #[.complex .f32 cx cy,.int .i64 deep,.int .i64 size,.slice a n c,.slice a' ys.length c'],.int .i64 row,.int .i64 col] w fun e w' => e=.returned (.tuple #[.complex .f32 (ptC cx cy deep row col).1 (ptC cx cy deep row col).2,.bool true]) ∧ Below w.heap.size w w':=by
 have B:=Box.new w #[.complex .f32 cx cy,.int .i64 deep,.int .i64 size,.slice a n c,.slice a' ys.length c'] 29
 have HW:=Lib.hid (implWell_is cx cy deep size hx hy hp a a' n c c' ys hl _ (hs.alloc (.cells #[.complex .f32 cx cy,.int .i64 deep,.int .i64 size,.slice a n c,.slice a' ys.length c'] 29)))
 rw [hw] at HW
 obtain ⟨h1,h2,h3,h4⟩:=placeB_bd hp
 have HP:=Lib.hid (implPoint_is cx cy deep size hx hy hp row col (by omega) (by omega))
 clear hp hs hw
 have d1:decide (row < 0)=false:=by simp; omega
 have d2:decide (size ≤ row)=false:=by simp; omega
 have d3:decide (col < 0)=false:=by simp; omega
 have d4:decide (size ≤ col)=false:=by simp; omega
 generalize (ptC cx cy deep row col).1=px at *
 generalize (ptC cx cy deep row col).2=py at *
 go_enter Vp.func8,Tryz.ntmps8
 go_wp2_with fail
 refine HW.out.mono ?_
 rintro e w1 ⟨rfl,hd⟩
 replace B:=B.step hd
 have b0:=B.cell 0 (.complex .f32 cx cy) rfl
 have b1:=B.cell 1 (.int .i64 deep) rfl
 have b2:=B.cell 2 (.int .i64 size) rfl
 have HB:=Lib.hid B.old
 clear hd HW B
 go_wp2_with fail
 refine (HP.out _).mono ?_
 rintro e w2 ⟨rfl,rfl⟩
 go_wp2
 go_ret2
 exact ⟨rfl,HB.out⟩
end Go.Proofs.YthhfljldbfgpcaaGreatDoor
end

section
namespace Go.Proofs.YthhfljldbfgpcaaGreatDoor
open Go.RowKit Flo
theorem two52:(2:Nat) ^ 52=4503599627370496:=by decide
theorem mask52 (z:Nat) (hz:z < 18446744073709551616):bits .and .u64 (z:Int) 4503599627370495=((z % 4503599627370496:Nat):Int):=by
 have h:=u64_and_mask z 52 hz (by omega)
 rw [two52] at h
 exact h
theorem mask11 (z:Nat) (hz:z < 9223372036854775808):bits .and .i64 (z:Int) 2047=((z % 2048:Nat):Int):=by
 have h:=i64_and_mask z 11 hz (by omega)
 rw [show (2:Nat) ^ 11=2048 by decide] at h
 exact h
theorem top52 (z:Nat) (hz:z < 4503599627370496):bits .or .u64 (z:Int) 4503599627370496=((z + 4503599627370496:Nat):Int):=by
 have h:=u64_or_top z 52 (by rw [two52]; exact hz) (by omega)
 rw [two52] at h
 exact h
theorem bits64_run (z:Nat) (w:World):(callFunc 63 #[.float .f64 z]).run Vp.prog w=.ok (.value (.int .u64 z)) w:=by
 kernel_rfl
set_option maxHeartbeats 2000000 in
theorem splitFloat_is {z:Nat} {A:Int} {d:Nat} (hd:d ≤ 11) (hA:A.natAbs ≤ 65536) (hz:Val Ieee.double z (A * (2 ^ (u64 - d):Nat))) (w:World) (hT:Tab w) :
   Calls Vp.prog 31 #[.float .f64 z] w fun e w' => (∃ o p,e=.returned (.tuple #[.int .i64 o,.int .i64 p]) ∧ SplitOf A d o p) ∧ w=w':=by
 have hr:=fun w => bits64_run z w
 have hlt:z < 18446744073709551616:=hz.lt
 have hs:=split_plain hd hA hz
 have b1:bits .and .u64 (z:Int) 4503599627370495=((z % 4503599627370496:Nat):Int):=mask52 z hlt
 have b2:bits .and .i64 ((z / 4503599627370496:Nat):Int) 2047=((z / 4503599627370496 % 2048:Nat):Int):=mask11 _ (by omega)
 have e2:z / 4503599627370496 % 2048=z % 9223372036854775808 / 4503599627370496:=by omega
 rw [e2] at b2
 have hm:z % 4503599627370496 < 4503599627370496:=Nat.mod_lt _ (by omega)
 have b3:bits .or .u64 ((z % 4503599627370496:Nat):Int) 4503599627370496=((z % 4503599627370496 + 4503599627370496:Nat):Int):=top52 _ hm
 have hTZ:=Lib.hid (tz64_any (z % 4503599627370496 + 4503599627370496) (by omega) (by omega) w hT)
 have q1:(z:Int) / 4503599627370496=((z / 4503599627370496:Nat):Int):=rfl
 have q2:(z:Int) / 9223372036854775808=((z / 9223372036854775808:Nat):Int):=rfl
 have q3:IntKind.i64.wrap ((z / 4503599627370496:Nat):Int)=((z / 4503599627370496:Nat):Int):=IntWalk.i64_in _ (by omega)
 clear e2 hz
 generalize z % 9223372036854775808 / 4503599627370496=e at *
 generalize z % 4503599627370496=m at *
 generalize z / 9223372036854775808=s at *
 generalize z / 4503599627370496=t at *
 rcases hs with ⟨hA0,rfl,rfl⟩ | ⟨he0,he1,o,j,ho,hk,hj,hj16,ho2,hs⟩
 · have HR:=Lib.hid hA0
   clear hA0 hTZ b3
   go_enter Vp.func31,Tryz.ntmps31
   go_wp2_with fail
   go_ret2
   exact ⟨⟨_,_,rfl,.inl ⟨HR.out,rfl,rfl⟩⟩,rfl⟩
 · have d1:((e:Int) == 0)=false:=by simp; omega
   have d2:(((m + 4503599627370496:Nat):Int) == 0)=false:=by simp; omega
   have HO:=Lib.hid ho
   have HJ:=Lib.hid hj
   have HA:=Lib.hid hs
   have HD:=Lib.hid (And.intro hk (And.intro he0 he1))
   clear ho hj hs
   generalize hM:m + 4503599627370496=M at *
   clear hM hm hk
   go_enter Vp.func31,Tryz.ntmps31
   go_wp2_with fail
   refine hTZ.out.mono ?_
   rintro e1 w1 ⟨rfl,rfl⟩
   generalize Lib.ctz 64 M=k at *
   have hk:k < 64:=HD.out.1
   have hq:(M:Int) / 2 ^ k=((2 * o + 1:Nat):Int):=by
     rw [show (2:Int) ^ k=((2 ^ k:Nat):Int) by simp,← Int.natCast_ediv,HO.out,Nat.mul_div_cancel_left _ (Nat.two_pow_pos k)]
   have hsh:Op.shift .shr .u64 (M:Int) .i64 (k:Int)=pure (.int .u64 (2 * o + 1)):=by
     rw [shift_shr .u64 .i64 _ _ (by omega) (by show (k:Int) ≤ 64; omega),Int.toNat_natCast,hq]
     rfl
   have hw:(e:Int) - 1075 + k=(j:Int) - d:=by
     have:=HD.out
     have:=HJ.out
     omega
   have HW:=Lib.hid hw
   clear hw hq hk
   go_upto_region 12 with fail
   have hk:k < 64:=HD.out.1
   go_wp2_with fail
   · rename_i hs0
     go_ret2
     refine ⟨⟨_,_,rfl,?_⟩,rfl⟩
     rw [HW.out]
     rcases HA.out with ⟨h1,h2,h3⟩ | ⟨h1,h2,h3⟩
     · exact .inr ⟨j,hj16,h3,rfl,by omega⟩
     · rw [h2] at hs0
       exact absurd hs0 (by decide)
   · rename_i hs0
     go_ret2
     refine ⟨⟨_,_,rfl,?_⟩,rfl⟩
     rw [HW.out]
     rcases HA.out with ⟨h1,h2,h3⟩ | ⟨h1,h2,h3⟩
     · rw [h2] at hs0
       exact absurd hs0 (by decide)
     · exact .inr ⟨j,hj16,h3,rfl,by omega⟩
set_option maxHeartbeats 1000000 in
theorem raisePart_zero (u:Int) (w:World):Calls Vp.prog 32 #[.int .i64 0,.int .i64 u] w fun e w' => e=.returned (.tuple #[.int .i64 0,.bool true]) ∧ w=w':=by
 go_enter Vp.func32,Tryz.ntmps32
 go_wp2_with fail
 go_ret2
 exact ⟨rfl,rfl⟩
theorem raise_bd {o:Int} {u:Nat} (hu:u ≤ 16) (hb:(o * 2 ^ u).natAbs ≤ 65536):wrap64 (o * 2 ^ u)=o * 2 ^ u ∧ decide (o < wrap64 (-(1073741824 / 2 ^ u)))=false ∧ decide ((1073741824:Int) / 2 ^ u < o)=false:=by
 refine ⟨IntWalk.wrap64_in _ (by omega),?_⟩
 rw [show (2:Int) ^ u=((2 ^ u:Nat):Int) by simp] at *
 have hp:2 ^ u ≤ 2 ^ 16:=Nat.pow_le_pow_right (by omega) hu
 have hp0:0 < 2 ^ u:=Nat.two_pow_pos u
 have h1:((1073741824 / 2 ^ u:Nat):Int)=1073741824 / ((2 ^ u:Nat):Int):=by simp
 rw [← h1]
 have h2:1073741824 / 2 ^ 16 ≤ 1073741824 / 2 ^ u:=Nat.div_le_div_left hp hp0
 have h3:1073741824 / 2 ^ u ≤ 1073741824:=Nat.div_le_self _ _
 rw [Int.natAbs_mul,Int.natAbs_natCast] at hb
 have h4:o.natAbs ≤ 1073741824 / 2 ^ u:=(Nat.le_div_iff_mul_le hp0).2 (by omega)
 rw [IntWalk.wrap64_in _ (by omega)]
 generalize 1073741824 / 2 ^ u=Q at *
 simp only [decide_eq_false_iff_not]
 omega
set_option maxHeartbeats 1000000 in
theorem raisePart_is (o:Int) (u:Nat) (ho:o ≠ 0) (hu:u ≤ 16) (hb:(o * 2 ^ u).natAbs ≤ 65536) (w:World):Calls Vp.prog 32 #[.int .i64 o,.int .i64 u] w fun e w' => e=.returned (.tuple #[.int .i64 (o * 2 ^ u),.bool true]) ∧ w=w':=by
 have d1:(o == 0)=false:=by simp [ho]
 have d2:decide ((30:Int) < u)=false:=by simp; omega
 obtain ⟨h1,h2,h3⟩:=raise_bd hu hb
 have h4:min u 64=u:=by omega
 have h5:u % 64=u:=by omega
 clear hb ho hu
 go_enter Vp.func32,Tryz.ntmps32
 go_wp2_with fail
 go_ret2
 exact ⟨by rw [h1]; rfl,rfl⟩
set_option maxHeartbeats 400000 in
theorem isNaN_fin {z:Nat} {A:Int} (hz:Val Ieee.double z A) (w:World):Calls Vp.prog 29 #[.float .f64 z] w fun e w' => e=.returned (.bool false) ∧ w=w':=by
 have h:(FloatKind.f64.format.order z z != some .eq)=false:=by
   have:=order_eq_val (k:=.f64) hz hz
   simp only [decide_true,beq_iff_eq] at this
   rw [this]
   rfl
 clear hz
 go_enter Vp.func29,Tryz.ntmps29
 go_wp2
 go_ret
 exact ⟨rfl,rfl⟩
theorem frombits_run (z:Nat) (w:World):(callFunc 87 #[.int .u64 z]).run Vp.prog w=.ok (.value (.float .f64 z)) w:=by
 kernel_rfl
set_option maxHeartbeats 400000 in
theorem abs_is (z:Nat) (hz:z < 18446744073709551616) (w:World):Calls Vp.prog 62 #[.float .f64 z] w fun e w' => e=.returned (.float .f64 (z % 9223372036854775808)) ∧ w=w':=by
 have b1:=fun w => bits64_run z w
 have b2:=andNot_sign z hz
 have b3:=fun w => frombits_run (z % 9223372036854775808) w
 generalize z % 9223372036854775808=y at *
 go_enter Vp.func62,Tryz.ntmps62
 go_wp2
 go_ret
 exact ⟨rfl,rfl⟩
set_option maxHeartbeats 400000 in
theorem isInf_fin {z:Nat} {A:Int} (hz:Val Ieee.double z A) (hA:A.natAbs ≤ 8192 * 2 ^ u64) (w:World):Calls Vp.prog 30 #[.float .f64 z,.int .i64 0] w fun e w' => e=.returned (.bool false) ∧ w=w':=by
 have h:(FloatKind.f64.format.order (z % 9223372036854775808) 9218868437227405311 == some .gt)=false:=by
   have h:=abs_val hz
   rw [signWeight64] at h
   rw [order_gt_val (k:=.f64) h max_val]
   have h4:=Nat.le_trans hA max_ge
   simp only [decide_eq_false_iff_not]
   exact Int.not_lt.2 (Int.ofNat_le.2 h4)
 have HB:=Lib.hid (fun w => abs_is z hz.lt w)
 clear hz hA
 generalize z % 9223372036854775808=y at *
 go_enter Vp.func30,Tryz.ntmps30
 go_wp2_with (go_at_call 62; refine (HB.out _).mono ?_; rintro e w' ⟨rfl,rfl⟩)
 go_ret
 exact ⟨rfl,rfl⟩
def Raise (o u X:Int):Prop:=(o=0 ∧ X=0) ∨ (o ≠ 0 ∧ ∃ n:Nat,u=n ∧ n ≤ 16 ∧ X=o * 2 ^ n ∧ X.natAbs ≤ 65536)
theorem raise_one {A o p:Int} {d S:Nat} (hA:A.natAbs ≤ 65536) (h:SplitOf A d o p) (hS:S ≤ d) (hp:-p ≤ S):∃ X,Raise o (p + S) X ∧ A=X * (2 ^ (d - S):Nat) ∧ X.natAbs ≤ 65536:=by
 rcases h with ⟨h1,h2,h3⟩ | ⟨j,h1,h2,h3,h4⟩
 · exact ⟨0,.inl ⟨h2,rfl⟩,by rw [h1,Int.zero_mul],by decide⟩
 · obtain ⟨n,hn⟩:∃ n:Nat,p + S=n:=⟨(p + S).toNat,by omega⟩
   have hjn:j=n + (d - S):=by omega
   have hX:A=o * 2 ^ n * (2 ^ (d - S):Nat):=by
     rw [h2,hjn,Nat.pow_add,Int.natCast_mul,Int.mul_assoc]
     simp
   have hb:(o * 2 ^ n).natAbs ≤ 65536:=by
     have h5:=congrArg Int.natAbs hX
     rw [Int.natAbs_mul,Int.natAbs_natCast] at h5
     have h6:(o * 2 ^ n).natAbs * 1 ≤ (o * 2 ^ n).natAbs * 2 ^ (d - S):=Nat.mul_le_mul_left _ (Nat.two_pow_pos _)
     omega
   exact ⟨o * 2 ^ n,.inr ⟨by omega,n,hn,by omega,rfl,hb⟩,hX,hb⟩
theorem split_bd {A o p:Int} {d:Nat} (hA:A.natAbs ≤ 65536) (h:SplitOf A d o p):-(d:Int) ≤ p ∧ p ≤ 16 ∧ o.natAbs ≤ 65536:=by
 rcases h with ⟨h1,h2,h3⟩ | ⟨j,h1,h2,h3,h4⟩
 · omega
 · refine ⟨by omega,by omega,?_⟩
   have h5:o.natAbs * 2 ^ j=A.natAbs:=by rw [h2,Int.natAbs_mul,Int.natAbs_natCast]
   have h6:o.natAbs * 1 ≤ o.natAbs * 2 ^ j:=Nat.mul_le_mul_left _ (Nat.two_pow_pos _)
   omega
theorem raisePart_any {o u X:Int} (h:Raise o u X) (w:World):Calls Vp.prog 32 #[.int .i64 o,.int .i64 u] w fun e w' => e=.returned (.tuple #[.int .i64 X,.bool true]) ∧ w=w':=by
 rcases h with ⟨h1,h2⟩ | ⟨h1,n,h2,h3,h4,h5⟩
 · rw [h1,h2]; exact raisePart_zero u w
 · rw [h2,h4]; rw [h4] at h5; exact raisePart_is o n h1 h3 h5 w
set_option maxRecDepth 100000 in
set_option maxHeartbeats 2000000 in
theorem dyadOf_is {x y:Nat} {A B:Int} {d:Nat} (hd:d ≤ 11) (hA:A.natAbs ≤ 8192) (hB:B.natAbs ≤ 8192) (hx:Val Ieee.double x (A * (2 ^ (u64 - d):Nat))) (hy:Val Ieee.double y (B * (2 ^ (u64 - d):Nat))) (w:World) (hT:Tab w) :
   Calls Vp.prog 9 #[.complex .f64 x y] w fun e w' => e=.returned (.tuple #[.agg #[.int .i64 (lowT A B d).1,.int .i64 (lowT A B d).2.1,.int .i64 (lowT A B d).2.2],.bool true]) ∧ Below w.heap.size w w':=by
 have hbd:∀ Z:Int,Z.natAbs ≤ 8192 → (Z * (2 ^ (u64 - d):Nat)).natAbs ≤ 8192 * 2 ^ u64:=fun Z hZ => by
   rw [Int.natAbs_mul,Int.natAbs_natCast]
   exact Nat.mul_le_mul hZ (Nat.pow_le_pow_right (by omega) (Nat.sub_le _ _))
 have N1:=Lib.hid (fun w => isNaN_fin hx w)
 have N2:=Lib.hid (fun w => isNaN_fin hy w)
 have I1:=Lib.hid (fun w => isInf_fin hx (hbd A hA) w)
 have I2:=Lib.hid (fun w => isInf_fin hy (hbd B hB) w)
 have R:=Box.new w #[.int .i64 0,.int .i64 0,.int .i64 0] 36
 have hT1:=hT.step (((Below.refl w.heap.size w).alloc (Nat.le_refl _) (.cells #[.int .i64 0,.int .i64 0,.int .i64 0] 36)))
 have S1:=Lib.hid (splitFloat_is hd (by omega) hx _ hT1)
 have S2:=Lib.hid (splitFloat_is hd (by omega) hy _ hT1)
 have HR:=Lib.hid R
 clear hx hy hT hT1 R hbd
 obtain ⟨u0,u1,u2,hv⟩:∃ u0 u1 u2,lowT A B d=(u0,u1,u2):=⟨_,_,_,rfl⟩
 have HV:=Lib.hid hv
 rw [hv]
 clear hv
 go_enter Vp.func9,Tryz.ntmps9
 go_wp2_with fail
 refine (N1.out _).mono ?_
 rintro e w1 ⟨rfl,rfl⟩
 go_wp2_with fail
 refine (I1.out _).mono ?_
 rintro e w1 ⟨rfl,rfl⟩
 go_wp2_with fail
 refine (N2.out _).mono ?_
 rintro e w1 ⟨rfl,rfl⟩
 go_wp2_with fail
 refine (I2.out _).mono ?_
 rintro e w1 ⟨rfl,rfl⟩
 go_wp2_with fail
 refine S1.out.mono ?_
 rintro e w1 ⟨⟨o1,p1,rfl,P1⟩,rfl⟩
 go_wp2_with fail
 refine S2.out.mono ?_
 rintro e w1 ⟨⟨o2,p2,rfl,P2⟩,rfl⟩
 clear N1 N2 I1 I2 S1 S2
 have q1:=split_bd (by omega) P1
 have q2:=split_bd (by omega) P2
 have P1:=Lib.hid P1
 have P2:=Lib.hid P2
 go_upto_region 7 with fail
 generalize hM:(if (if p1 < 0 then -p1 else 0) < -p2 then -p2 else if p1 < 0 then -p1 else 0)=M
 obtain ⟨S,hS,hSd,k1,k2⟩:∃ S:Nat,M=S ∧ S ≤ d ∧ -p1 ≤ S ∧ -p2 ≤ S:=by
   refine ⟨M.toNat,?_⟩
   rw [← hM]
   split <;> split <;> omega
 subst hS
 clear hM
 obtain ⟨X,r1,a1,b1⟩:=raise_one (by omega) P1.out hSd k1
 obtain ⟨Y,r2,a2,b2⟩:=raise_one (by omega) P2.out hSd k2
 have G1:=Lib.hid (fun w => raisePart_any r1 w)
 have G2:=Lib.hid (fun w => raisePart_any r2 w)
 have hl:lowT A B d=lowT X Y S:=by
   have:=lowT_up X Y S (d - S)
   rw [← a1,← a2,show S + (d - S)=d by omega] at this
   exact this
 have gd:=fun w => dyadMake_is X Y S (by omega) (by omega) (by omega) w
 rw [← hl,HV.out] at gd
 have GD:=Lib.hid gd
 clear gd HV
 clear r1 a1 r2 a2 hl P1 P2 k1 k2
 go_wp2_with fail
 refine (G1.out _).mono ?_
 rintro e w1 ⟨rfl,rfl⟩
 go_wp2_with fail
 refine (G2.out _).mono ?_
 rintro e w1 ⟨rfl,rfl⟩
 go_wp2_with fail
 refine (GD.out _).mono ?_
 rintro e w1 ⟨rfl,hd1⟩
 have HR1:=HR.out.step hd1
 obtain ⟨r0,r1,r2⟩:=HR1.cells3
 obtain ⟨g0,g1,g2⟩:=HR1.free3
 have HZ:=Lib.hid (HR1.set3 (Nat.le_refl _) (.int .i64 u0) (.int .i64 u1) (.int .i64 u2))
 clear hd1 HR1 HR G1 G2 GD
 go_wp2
 exact bodyPost_ret (v:=.tuple #[.agg #[.int .i64 u0,.int .i64 u1,.int .i64 u2],.bool true]) (by simp [results,Tryz.f9,go_sem,r0,r1,r2]) rfl ⟨rfl,HZ.out.old⟩
end Go.Proofs.YthhfljldbfgpcaaGreatDoor
end

section
namespace Go.Proofs.YthhfljldbfgpcaaGreatDoor
open Go.RowKit Flo
theorem widen_fin {x:Nat} {a:Int} (h:Val Ieee.single x a) {p:Nat} (hp:Al .f64 (widenC x) p):Val Ieee.double p (a * (2 ^ wup:Nat)):=by
 obtain ⟨y,hy,hv⟩:=widen_val h
 have e:widenC x=y:=by unfold widenC; rw [hy]; rfl
 rw [e] at hp
 rw [Al.same hp (val_nan (k:=.f64) hv)]
 exact hv
theorem implWiden_val {x y:Nat} {a b:Int} (hx:Val Ieee.single x a) (hy:Val Ieee.single y b) (w:World) :
   Calls Vp.prog 10 #[.complex .f32 x y] w fun e w' => (∃ p q,e=.returned (.complex .f64 p q) ∧ Val Ieee.double p (a * (2 ^ wup:Nat)) ∧ Val Ieee.double q (b * (2 ^ wup:Nat))) ∧ Drw w w':=by
 refine (implWiden_al x y hx.lt hy.lt w).mono ?_
 rintro e w1 ⟨⟨p,q,rfl,p1,q1,ap,aq⟩,hd⟩
 exact ⟨⟨p,q,rfl,widen_fin hx ap,widen_fin hy aq⟩,hd⟩
end Go.Proofs.YthhfljldbfgpcaaGreatDoor
end
