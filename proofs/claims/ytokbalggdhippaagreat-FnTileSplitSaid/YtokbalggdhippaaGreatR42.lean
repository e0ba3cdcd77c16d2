/- Merged texts: BkE, SplA, SplW, BlA. -/
import Derived.Test.YtokbalggdhippaaGreatR36
import Derived.Test.YtokbalggdhippaaGreatR39
import Derived.Test.YtokbalggdhippaaGreatR40
import Derived.Test.YtokbalggdhippaaGreatR11
import Derived.Test.YtokbalggdhippaaGreatR41
import Derived.Test.YtokbalggdhippaaGreatR38
import Derived.Test.YtokbalggdhippaaGreatR14
import Derived.Deep.Cut
import Derived.Deep.DrawnRows
import Derived.Deep.RegionWith
import Derived.Deep.RegionLaw
import Derived.Deep.AppendLies
import Derived.Deep.CutRange
set_option linter.all false
section
namespace Go.Proofs.YtokbalggdhippaaGreat
open Go.RowKit Go.Conc Go.Proofs.YtokbalggdhippaaGreat.Co Go.Proofs.YtokbalggdhippaaGreat.Ok Go.Proofs.YtokbalggdhippaaGreat.Lr Go.Proofs.YtokbalggdhippaaGreat.Tl Go.Proofs.YtokbalggdhippaaGreat.Bar
theorem lim_split {d:Nat} (hd:d ≤ 11):(134217728:Int)=((8 * 2 ^ d:Nat):Int) * ((2 ^ (24 - d):Nat):Int):=by
 rw [← Int.natCast_mul,Nat.mul_assoc,← Nat.pow_add,show d + (24 - d)=24 from by omega]
 rfl
theorem step_le {d:Nat} (hd:d ≤ 11) (x:Int):x * ((2 ^ (24 - d):Nat):Int) ≤ 134217728 ↔ x ≤ ((8 * 2 ^ d:Nat):Int):=by
 have hp:(0:Int) < ((2 ^ (24 - d):Nat):Int):=by have:=Nat.two_pow_pos (24 - d); omega
 rw [lim_split hd]
 exact ⟨fun h => Int.le_of_mul_le_mul_right h hp,fun h => Int.mul_le_mul_of_nonneg_right h (Int.le_of_lt hp)⟩
theorem step_ge {d:Nat} (hd:d ≤ 11) {x:Int} (h:-((8 * 2 ^ d:Nat):Int) ≤ x):-134217728 ≤ x * ((2 ^ (24 - d):Nat):Int):=by
 have hp:(0:Int) < ((2 ^ (24 - d):Nat):Int):=by have:=Nat.two_pow_pos (24 - d); omega
 have:=Int.mul_le_mul_of_nonneg_right h (Int.le_of_lt hp)
 rw [Int.neg_mul,← lim_split hd] at this
 exact this
def fx (c d:Nat) (j:Int):Nat:=Flo.opC .add .f32 c (Flo.opC .mul .f32 (floatOfInt .f32 j) (Flo.sideF d))
theorem fx_runs {c d:Nat} {A:Int} (hd:d ≤ 11) (hc:Flo.Pt (c % 4294967296) d A) (hA:A.natAbs ≤ 60000) (j:Int) (hj:j.natAbs ≤ 5000) :
   floatBits .mul .f32 (floatOfInt .f32 j) (Flo.sideF d)=some (Flo.opC .mul .f32 (floatOfInt .f32 j) (Flo.sideF d)) ∧ floatBits .add .f32 c (Flo.opC .mul .f32 (floatOfInt .f32 j) (Flo.sideF d))=some (fx c d j) ∧ Flo.Pt (fx c d j) d (A + j):=by
 obtain ⟨p,x,e1,e2,h⟩:=Flo.point_pt hd hc (by omega) j (by omega)
 rw [Flo.addM] at e2
 have h1:Flo.opC .mul .f32 (floatOfInt .f32 j) (Flo.sideF d)=p:=by unfold Flo.opC; rw [e1]; rfl
 have h2:fx c d j=x:=by unfold fx; rw [h1]; unfold Flo.opC; rw [e2]; rfl
 rw [h1,h2]
 exact ⟨e1,e2,h⟩
theorem pt_bd {x d:Nat} {n:Int} (hd:d ≤ 11) (h:Flo.Pt x d n) (hn:n.natAbs ≤ 8 * 2 ^ d):Flo.Bd 8 x:=by
 refine ⟨by rw [h.iv]; exact h,?_⟩
 rw [h.iv,Int.natAbs_mul,Int.natAbs_natCast,Flo.pow_split hd]
 calc n.natAbs * 2 ^ (Flo.u32 - d) ≤ 8 * 2 ^ d * 2 ^ (Flo.u32 - d):=Nat.mul_le_mul_right _ hn
   _=8 * (2 ^ (Flo.u32 - d) * 2 ^ d):=by rw [Nat.mul_assoc,Nat.mul_comm (2 ^ d)]
def cA (a:Int) (d j:Nat):Int:=(a + j) * ((2 ^ (24 - d):Nat):Int)
def cIn (a b:Int) (d i j:Nat):Bool:=decide (cA a d j ≤ 134217728 ∧ cA b d i ≤ 134217728)
def cB (a b:Int) (d i j:Nat) (z:Int):Int:=if cIn a b d i j=true then z else 0
def cOk (a b:Int) (d i j:Nat):Bool:=cIn a b d i j && boxOK (cB a b d i j (cA a d j)) (cB a b d i j (cA a d j) + ((2 ^ (24 - d):Nat):Int)) (cB a b d i j (cA b d i)) (cB a b d i j (cA b d i) + ((2 ^ (24 - d):Nat):Int))
def bxC (a b:Int) (d i j:Nat):Bx:=⟨cA a d j,cA a d j + ((2 ^ (24 - d):Nat):Int),cA b d i,cA b d i + ((2 ^ (24 - d):Nat):Int)⟩
theorem cA_next (a:Int) (d j:Nat):cA a d j + ((2 ^ (24 - d):Nat):Int)=(a + j + 1) * ((2 ^ (24 - d):Nat):Int):=by unfold cA; rw [Int.add_mul (a + j),Int.one_mul]
theorem cOk_iff {a b:Int} {d:Nat} (hd:d ≤ 11) (ha:a.natAbs ≤ 4 * 2 ^ d) (hb:b.natAbs ≤ 4 * 2 ^ d) (i j:Nat) :
   cOk a b d i j=true ↔ a + j + 1 ≤ ((8 * 2 ^ d:Nat):Int) ∧ b + i + 1 ≤ ((8 * 2 ^ d:Nat):Int):=by
 have g1:-134217728 ≤ cA a d j:=step_ge hd (by omega)
 have g2:-134217728 ≤ cA b d i:=step_ge hd (by omega)
 have n1:=cA_next a d j
 have n2:=cA_next b d i
 have s1:=step_le hd (a + j + 1)
 have s2:=step_le hd (b + i + 1)
 rw [← n1] at s1
 rw [← n2] at s2
 have hp:(0:Int) < ((2 ^ (24 - d):Nat):Int):=by have:=Nat.two_pow_pos (24 - d); omega
 rw [← s1,← s2]
 unfold cOk cB cIn boxOK inB
 generalize cA a d j=A at *
 generalize cA b d i=B at *
 generalize ((2 ^ (24 - d):Nat):Int)=S at *
 simp only [Bool.and_eq_true,decide_eq_true_eq]
 by_cases h:A ≤ 134217728 ∧ B ≤ 134217728
 · rw [if_pos h,if_pos h]; omega
 · rw [if_neg h,if_neg h]; omega
theorem cOk_box {a b:Int} {d:Nat} {i j:Nat} (h:cOk a b d i j=true):cB a b d i j (cA a d j)=cA a d j ∧ cB a b d i j (cA b d i)=cA b d i ∧ (bxC a b d i j).ok=true:=by
 unfold cOk at h
 rw [Bool.and_eq_true] at h
 obtain ⟨h1,h2⟩:=h
 have e:∀ z,cB a b d i j z=z:=fun z => by unfold cB; rw [if_pos h1]
 rw [e,e] at h2
 exact ⟨e _,e _,h2⟩
theorem eight_val:Flo.Val Ieee.single 1090519040 (8 * (2 ^ Flo.u32:Nat)):=by
 refine ⟨by decide,by unfold Flo.fin; decide,?_⟩
 rw [Flo.u32_eq]
 unfold Flo.iv
 have h1:Flo.sgn Ieee.single 1090519040=false:=by decide
 have h2:Flo.rv Ieee.single (Flo.rung Ieee.single 1090519040)=8 * 2 ^ 149:=by decide +kernel
 rw [h1,h2]; simp
theorem far_iff {x d:Nat} {n:Int} (hd:d ≤ 11) (h:Flo.Pt x d n):(FloatKind.f32.format.order x 1090519040 == some .gt)=decide (((8 * 2 ^ d:Nat):Int) < n):=by
 rw [Flo.order_gt_val (k:=.f32) h eight_val,Bool.eq_iff_iff,decide_eq_true_eq,decide_eq_true_eq]
 have hp:(0:Int) < ((2 ^ (Flo.u32 - d):Nat):Int):=by have:=Nat.two_pow_pos (Flo.u32 - d); omega
 have e:(8:Int) * ((2 ^ Flo.u32:Nat):Int)=((8 * 2 ^ d:Nat):Int) * ((2 ^ (Flo.u32 - d):Nat):Int):=by
   rw [Flo.pow_split hd,Int.natCast_mul,Int.natCast_mul,Int.mul_assoc,Int.mul_comm ((2 ^ (Flo.u32 - d):Nat):Int)]
   rfl
 rw [e]
 exact ⟨fun h => Int.lt_of_mul_lt_mul_right h (Int.le_of_lt hp),fun h => Int.mul_lt_mul_of_pos_right h hp⟩
theorem stB_bd (x:Bx) (M:Nat):-1 ≤ stB x M ∧ stB x M ≤ 1:=by
 unfold stB
 split
 · omega
 · split <;> omega
theorem smC_lt (c d:Nat) (n:Int):smC c d n < 4294967296:=by
 unfold smC
 split
 · omega
 · exact Flo.opC_lt
def stT (a b:Int) (d:Nat) (most:Int) (i j:Nat):Int:=stB (bxC a b d i j) (mostN most).toNat
def smT (cx cy d:Nat) (most:Int) (i j:Nat):Nat:=smC (fx cx d j) (fx cy d i) most
section
variable {cx cy d s:Nat} {a b:Int} (most:Int) (hd:d ≤ 10) (hs:s ≤ 8) (hx:Flo.Pt (cx % 4294967296) d a) (hy:Flo.Pt (cy % 4294967296) d b) (ha:a.natAbs ≤ 4 * 2 ^ d) (hb:b.natAbs ≤ 4 * 2 ^ d)
include hd hs hx hy ha hb
theorem cellV_ok:CellV cx cy d s most (fun i j => cOk a b d i j) (fun i j => cB a b d i j (cA a d j)) (fun i j => cB a b d i j (cA a d j) + ((2 ^ (24 - d):Nat):Int)) (fun i j => cB a b d i j (cA b d i)) (fun i j => cB a b d i j (cA b d i) + ((2 ^ (24 - d):Nat):Int))
   (fun _ j => fx cx d j) (fun i _ => fx cy d i) (stT a b d most) (smT cx cy d most):=by
 have hpd:2 ^ d ≤ 1024:=Nat.le_trans (Nat.pow_le_pow_right (by omega) hd) (show 2 ^ 10 ≤ 1024 by decide)
 have run:∀ (c:Nat) (A:Int) (j:Nat),Flo.Pt (c % 4294967296) d A → A.natAbs ≤ 4 * 2 ^ d → j < s → _:=fun c A j h hA hj => fx_runs (c:=c) (by omega) h (by omega) (j:Int) (by omega)
 have hbd:∀ i j,i < s → j < s → cOk a b d i j=true → Flo.Bd 8 (fx cx d j) ∧ Flo.Bd 8 (fx cy d i):=fun i j hi hj h => by
   have h:=(cOk_iff (by omega) ha hb i j).1 h
   exact ⟨pt_bd (by omega) (run cx a j hx ha hj).2.2 (by omega),pt_bd (by omega) (run cy b i hy hb hi).2.2 (by omega)⟩
 refine ⟨fun i j hi hj W => ?_,fun i j hi hj ho W => ?_,fun i j hi hj W => ?_,fun i j hi hj ho W => ?_,fun i j => smC_lt _ _ _,fun i j => stB_bd _ _⟩
 · obtain ⟨e1,e2,hp⟩:=run cx a j hx ha hj
   obtain ⟨e3,e4,hq⟩:=run cy b i hy hb hi
   have hP:=Lib.hid (fun w => l7Point_is cx cy d i j (by omega) e1 e3 e2 e4 w)
   have hO:=Lib.hid (fun w => boxOf_all (fx cx d j) (fx cy d i) d (a + j) (b + i) (cA a d j) (cA b d i) (by omega) hp hq (by omega) (by omega) rfl rfl (step_ge (by omega) (by omega)) (step_ge (by omega) (by omega)) w)
   have g1:-134217728 ≤ cA a d j:=step_ge (by omega) (by omega)
   have g2:-134217728 ≤ cA b d i:=step_ge (by omega) (by omega)
   have hS0:0 < 2 ^ (24 - d):=Nat.two_pow_pos _
   have hS:(2 ^ (24 - d):Nat) ≤ 2 ^ 24:=Nat.pow_le_pow_right (by omega) (by omega)
   cases hin:cIn a b d i j with
   | true =>
     have hin':cA a d j ≤ 134217728 ∧ cA b d i ≤ 134217728:=by unfold cIn at hin; simpa using hin
     have hb2:∀ z,cB a b d i j z=z:=fun z => by unfold cB; rw [if_pos hin]
     have hO2:Hid (∀ w,Calls Vp.prog 78 #[.complex .f32 (fx cx d j) (fx cy d i)] w fun e w' => e=.returned (.tuple #[.agg #[.int .i64 (cA a d j),.int .i64 (cA a d j),.int .i64 (cA b d i),.int .i64 (cA b d i)],.bool true]) ∧ Below w.heap.size w w'):=fun w => (hO.out w).mono fun e w' ⟨h1,h2⟩ => ⟨by rw [h1]; unfold ofV; rw [if_pos hin'],h2⟩
     have:=l7Box_of cx cy d _ _ i j _ _ _ _ _ _ _ true (side_steps d (by omega)) (by omega) (w64 (by omega) (by omega)) (w64 (by omega) (by omega)) hP hO2 W
     simp only [hb2,cOk,hin]
     exact this
   | false =>
     have hin':¬ (cA a d j ≤ 134217728 ∧ cA b d i ≤ 134217728):=by unfold cIn at hin; simpa using hin
     have hb2:∀ z,cB a b d i j z=0:=fun z => by unfold cB; rw [if_neg (by rw [hin]; simp)]
     have hO2:Hid (∀ w,Calls Vp.prog 78 #[.complex .f32 (fx cx d j) (fx cy d i)] w fun e w' => e=.returned (.tuple #[.agg #[.int .i64 0,.int .i64 0,.int .i64 0,.int .i64 0],.bool false]) ∧ Below w.heap.size w w'):=fun w => (hO.out w).mono fun e w' ⟨h1,h2⟩ => ⟨by rw [h1]; unfold ofV; rw [if_neg hin'],h2⟩
     have:=l7Box_of cx cy d _ _ i j _ _ _ _ _ _ _ false (side_steps d (by omega)) (by omega) (w64 (by omega) (by omega)) (w64 (by omega) (by omega)) hP hO2 W
     simp only [hb2,cOk,hin]
     exact this
 · obtain ⟨e1,e2,e3⟩:=cOk_box ho

   rw [e1,e2]
   exact cellState_is _ _ _ _ most e3 W
 · obtain ⟨e1,e2,-⟩:=run cx a j hx ha hj
   obtain ⟨e3,e4,-⟩:=run cy b i hy hb hi
   exact l7Point_is cx cy d i j (by omega) e1 e3 e2 e4 W
 · obtain ⟨h1,h2⟩:=hbd i j hi hj ho
   exact specSmooth_is _ _ most h1 h2 W
theorem cellOK_ok (hok:∀ i j,i < s → j < s → cOk a b d i j=true):CellOK cx cy d s most (fun _ j => fx cx d j) (fun i _ => fx cy d i) (fun i j => .agg #[.int .i64 (cA a d j),.int .i64 (cA a d j + ((2 ^ (24 - d):Nat):Int)),.int .i64 (cA b d i),.int .i64 (cA b d i + ((2 ^ (24 - d):Nat):Int))]) (stT a b d most) (smT cx cy d most):=by
 have hpd:2 ^ d ≤ 1024:=Nat.le_trans (Nat.pow_le_pow_right (by omega) hd) (show 2 ^ 10 ≤ 1024 by decide)
 have run:∀ (c:Nat) (A:Int) (j:Nat),Flo.Pt (c % 4294967296) d A → A.natAbs ≤ 4 * 2 ^ d → j < s → _:=fun c A j h hA hj => fx_runs (c:=c) (by omega) h (by omega) (j:Int) (by omega)
 refine ⟨fun i j hi hj W => ?_,fun i j hi hj W => ?_,fun i j hi hj W => ?_,fun i j hi hj W => ?_⟩
 · obtain ⟨e1,e2,-⟩:=run cx a j hx ha hj
   obtain ⟨e3,e4,-⟩:=run cy b i hy hb hi
   exact pointOf_is cx cy d i j (by omega) e1 e3 e2 e4 W
 · have h:=(cOk_iff (by omega) ha hb i j).1 (hok i j hi hj)
   have n1:=cA_next a d j
   have n2:=cA_next b d i
   have s1:=step_le (d:=d) (by omega) (a + j + 1)
   have s2:=step_le (d:=d) (by omega) (b + i + 1)
   rw [← n1] at s1
   rw [← n2] at s2
   exact boxOfCell_is _ _ d (a + j) (b + i) _ _ _ (by omega) (run cx a j hx ha hj).2.2 (run cy b i hy hb hi).2.2 (by omega) (by omega) rfl rfl rfl (step_ge (by omega) (by omega)) (s1.2 h.1) (step_ge (by omega) (by omega)) (s2.2 h.2) W
 · obtain ⟨-,-,e3⟩:=cOk_box (hok i j hi hj)
   exact implCell_is _ _ _ _ most e3 W
 · have h:=(cOk_iff (by omega) ha hb i j).1 (hok i j hi hj)
   exact implSmooth_is _ _ most (pt_bd (by omega) (run cx a j hx ha hj).2.2 (by omega)) (pt_bd (by omega) (run cy b i hy hb hi).2.2 (by omega)) W
end
theorem placePts {cx cy:Nat} {deep size:Int} (h:placeB cx cy deep size=true):∃ (d s:Nat) (a b:Int),deep=d ∧ size=s ∧ d ≤ 10 ∧ 1 ≤ s ∧ s ≤ 8 ∧ Flo.Pt (cx % 4294967296) d a ∧ Flo.Pt (cy % 4294967296) d b ∧ a.natAbs ≤ 4 * 2 ^ d ∧ b.natAbs ≤ 4 * 2 ^ d:=by
 obtain ⟨h1,h2,h3,h4⟩:=placeB_bd h
 obtain ⟨d,rfl⟩:=Int.eq_ofNat_of_zero_le h1
 obtain ⟨s,rfl⟩:=Int.eq_ofNat_of_zero_le (show 0 ≤ size by omega)
 unfold placeB at h
 rw [Bool.and_eq_true,Bool.and_eq_true,Int.toNat_natCast,← Flo.wholeB_mod cx,← Flo.wholeB_mod cy] at h
 obtain ⟨a,hx,ha⟩:=Flo.whole_pt (Nat.mod_lt cx (by decide)) (by omega) h.1.2
 obtain ⟨b,hy,hb⟩:=Flo.whole_pt (Nat.mod_lt cy (by decide)) (by omega) h.2
 exact ⟨d,s,a,b,rfl,rfl,by omega,by omega,by omega,hx,hy,ha,hb⟩
theorem all_iff {a b:Int} {d s:Nat} (hd:d ≤ 11) (h1:1 ≤ s) (ha:a.natAbs ≤ 4 * 2 ^ d) (hb:b.natAbs ≤ 4 * 2 ^ d) :
   (∀ i j,i < s → j < s → cOk a b d i j=true) ↔ a + s ≤ ((8 * 2 ^ d:Nat):Int) ∧ b + s ≤ ((8 * 2 ^ d:Nat):Int):=by
 constructor
 · intro h
   have:=(cOk_iff hd ha hb (s - 1) (s - 1)).1 (h _ _ (by omega) (by omega))
   omega
 · intro h i j hi hj
   exact (cOk_iff hd ha hb i j).2 (by omega)
theorem hmno {cx cy:Nat} {deep size most:Int} (h:∀ W,Calls Vp.prog 33 #[.complex .f32 cx cy,.int .i64 deep,.int .i64 size] W fun e w' => e=.returned (.bool false) ∧ W=w') (a:Act) (hs:a.tmps.size=71) (h0:a.tmps[0]?=some (.complex .f32 cx cy)) (h1:a.tmps[1]?=some (.int .i64 deep)) (h2:a.tmps[2]?=some (.int .i64 size)) (h3:a.tmps[3]?=some (.int .i64 most)) (hd:a.defers=[]) (w:World) :
   HW Vp.prog [.code (cut [9,10,12] mBody)] (HRet 0 0 0 0 false [] [] w) a w:=by
 obtain ⟨t,ds⟩:=a
 dsimp only at hs h0 h1 h2 h3 hd
 obtain ⟨y0,y1,y2,y3,y4,y5,y6,y7,y8,y9,y10,y11,y12,y13,y14,y15,y16,y17,y18,y19,y20,y21,y22,y23,y24,y25,y26,y27,y28,y29,y30,y31,y32,y33,y34,y35,y36,y37,y38,y39,y40,y41,y42,y43,y44,y45,y46,y47,y48,y49,y50,y51,y52,y53,y54,y55,y56,y57,y58,y59,y60,y61,y62,y63,y64,y65,y66,y67,y68,y69,y70,rfl⟩:=arr71 t hs
 cases h0; cases h1; cases h2; cases h3; subst hd
 apply hm_noplace (d:=0) (n:=0) (xs:=[]) (ys:=[]) h
theorem hmfar {cx cy d n:Nat} {most:Int} {ex ey:Nat} (h:∀ W,Calls Vp.prog 33 #[.complex .f32 cx cy,.int .i64 d,.int .i64 n] W fun e w' => e=.returned (.bool true) ∧ W=w') (hp:∀ W,Calls Vp.prog 34 #[.complex .f32 cx cy,.int .i64 d,.int .i64 n,.int .i64 n] W fun e w' => e=.returned (.complex .f32 ex ey) ∧ W=w')
   (hf:(FloatKind.f32.format.order ex 1090519040 == some .gt || FloatKind.f32.format.order ey 1090519040 == some .gt)=true) (a:Act) (hs:a.tmps.size=71) (h0:a.tmps[0]?=some (.complex .f32 cx cy)) (h1:a.tmps[1]?=some (.int .i64 d)) (h2:a.tmps[2]?=some (.int .i64 n)) (h3:a.tmps[3]?=some (.int .i64 most)) (hd:a.defers=[]) (w:World) :
   HW Vp.prog [.code (cut [9,10,12] mBody)] (HRet 0 0 0 0 false [] [] w) a w:=by
 obtain ⟨t,ds⟩:=a
 dsimp only at hs h0 h1 h2 h3 hd
 obtain ⟨y0,y1,y2,y3,y4,y5,y6,y7,y8,y9,y10,y11,y12,y13,y14,y15,y16,y17,y18,y19,y20,y21,y22,y23,y24,y25,y26,y27,y28,y29,y30,y31,y32,y33,y34,y35,y36,y37,y38,y39,y40,y41,y42,y43,y44,y45,y46,y47,y48,y49,y50,y51,y52,y53,y54,y55,y56,y57,y58,y59,y60,y61,y62,y63,y64,y65,y66,y67,y68,y69,y70,rfl⟩:=arr71 t hs
 cases h0; cases h1; cases h2; cases h3; subst hd
 have:=hm_far (most:=most) h hp hf y4 y5 y6 y7 y8 y9 y10 y11 y12 y13 y14 y15 y16 y17 y18 y19 y20 y21 y22 y23 y24 y25 y26 y27 y28 y29 y30 y31 y32 y33 y34 y35 y36 y37 y38 y39 y40 y41 y42 y43 y44 y45 y46 y47 y48 y49 y50 y51 y52 y53 y54 y55 y56 y57 y58 y59 y60 y61 y62 y63 y64 y65 y66 y67 y68 y69 y70 w [] []
 exact this
theorem vals:Vals:=by
 intro cx cy deep size most
 have hpw:=fun W => placeWell_isR cx cy deep size W
 cases hpl:placeB cx cy deep size with
 | false =>
   rw [hpl] at hpw
   exact .inl ⟨hmno hpw,fun V => tileMakeV_no cx cy deep size most hpl V⟩
 | true =>
   rw [hpl] at hpw
   obtain ⟨d,s,a,b,rfl,rfl,hd,h1,h8,hx,hy,ha,hb⟩:=placePts hpl
   have hpd:2 ^ d ≤ 1024:=Nat.le_trans (Nat.pow_le_pow_right (by omega) hd) (show 2 ^ 10 ≤ 1024 by decide)
   have hV:=fun V => tileMakeV_val cx cy d s most hd h8 hpl (cellV_ok most hd h8 hx hy ha hb) V
   obtain ⟨e1,e2,hpx⟩:=fx_runs (c:=cx) (by omega) hx (by omega) (s:Int) (by omega)
   obtain ⟨e3,e4,hpy⟩:=fx_runs (c:=cy) (by omega) hy (by omega) (s:Int) (by omega)
   have hpt:=fun W => pointOf_is cx cy d s s (by omega) e1 e3 e2 e4 W
   have f1:=far_iff (by omega) hpx
   have f2:=far_iff (by omega) hpy
   have hall:=all_iff (d:=d) (by omega) h1 ha hb
   by_cases hg:a + s ≤ ((8 * 2 ^ d:Nat):Int) ∧ b + s ≤ ((8 * 2 ^ d:Nat):Int)
   · rw [decide_eq_false (by omega)] at f1 f2
     have hok:=hall.2 hg
     refine .inr ⟨d,s,_,_,_,_,_,_,_,rfl,rfl,h8,by omega,cellOK_ok most hd h8 hx hy ha hb hok,hpw,hpt,f1,f2,fun V => (hV V).mono ?_⟩
     rintro e V' ⟨hbl,⟨⟨i,j,hi,hj,hno⟩,-⟩ | ⟨-,v,rfl,ht⟩⟩
     · have hno:cOk a b d i j=false:=hno
       have:=hok i j hi hj
       rw [hno] at this
       cases this
     · exact ⟨v,rfl,ht,hbl⟩
   · refine .inl ⟨hmfar hpw hpt ?_,fun V => (hV V).mono ?_⟩
     · rw [f1,f2,Bool.or_eq_true,decide_eq_true_eq,decide_eq_true_eq]
       omega
     · rintro e V' ⟨hbl,⟨-,rfl⟩ | ⟨hok,-⟩⟩
       · exact ⟨rfl,hbl⟩
       · exact absurd (hall.1 hok) hg
end Go.Proofs.YtokbalggdhippaaGreat
end

section
namespace Go.Proofs.YtokbalggdhippaaGreat
open Go.RowKit Flo
def addF (x y:Nat):Nat:=(floatBits .add .f32 x y).getD 0
def farF (d:Nat) (s:Int):Nat:=(floatBits .mul .f32 (floatOfInt .f32 s) (sideF (d + 1))).getD 0
def quart (cx cy d:Nat) (s:Int):Nat → Nat × Nat
 | 0 => (cx,cy)
 | 1 => (addF cx (farF d s),addF cy 0)
 | 2 => (addF cx 0,addF cy (farF d s))
 | _ => (addF cx (farF d s),addF cy (farF d s))
theorem pt_up {x d:Nat} {n:Int} (hd:d ≤ 10) (h:Pt x d n):Pt x (d + 1) (2 * n):=by
 unfold Pt at h ⊢
 have e:(2 ^ (u32 - d):Nat)=2 ^ (u32 - (d + 1)) * 2:=by
   rw [← Nat.pow_succ]; congr 1; rw [u32_eq]; omega
 have e2:2 * n * ((2 ^ (u32 - (d + 1)):Nat):Int)=n * ((2 ^ (u32 - d):Nat):Int):=by
   rw [e,Int.natCast_mul,Int.mul_comm 2 n,Int.mul_assoc]
   congr 1
   rw [Int.mul_comm]; rfl
 rw [e2]; exact h
theorem pt_zero (d:Nat):Pt 0 d 0:=by
 unfold Pt
 rw [Int.zero_mul]
 exact ⟨by decide,by unfold fin; decide,by decide⟩
theorem addF_is {d x y:Nat} {a b:Int} (hd:d ≤ 11) (hx:Pt x d a) (hy:Pt y d b) (h:(a + b).natAbs < 16777216):floatBits .add .f32 x y=some (addF x y) ∧ Pt (addF x y) d (a + b):=by
 obtain ⟨z,h1,h2⟩:=sum_pt hd hx hy h
 unfold addF
 rw [h1]
 exact ⟨rfl,h2⟩
theorem farF_is {d:Nat} {s:Int} (hd:d ≤ 10) (hs:s.natAbs ≤ 65536):floatBits .mul .f32 (floatOfInt .f32 s) (sideF (d + 1))=some (farF d s) ∧ Pt (farF d s) (d + 1) s:=by
 obtain ⟨p,h1,h2⟩:=sides_pt (d + 1) (by omega) s hs
 unfold farF
 rw [h1]
 exact ⟨rfl,h2⟩
theorem quart_is {cx cy d:Nat} {A B s:Int} (hd:d ≤ 10) (hx:Pt cx d A) (hy:Pt cy d B) (hA:A.natAbs ≤ 8192) (hB:B.natAbs ≤ 8192) (hs:s.natAbs ≤ 100) :
   floatBits .mul .f32 (floatOfInt .f32 s) (sideF (d + 1))=some (farF d s) ∧ floatBits .add .f32 cx (farF d s)=some (addF cx (farF d s)) ∧ floatBits .add .f32 cy (farF d s)=some (addF cy (farF d s)) ∧ floatBits .add .f32 cx 0=some (addF cx 0) ∧ floatBits .add .f32 cy 0=some (addF cy 0) ∧
   (∀ k,k < 4 → ∃ a b:Int,(a=0 ∨ a=s) ∧ (b=0 ∨ b=s) ∧ Pt (quart cx cy d s k).1 (d + 1) (2 * A + a) ∧ Pt (quart cx cy d s k).2 (d + 1) (2 * B + b)):=by
 have f:=farF_is (s:=s) hd (by omega)
 have x2:=pt_up hd hx
 have y2:=pt_up hd hy
 have z:=pt_zero (d + 1)
 have h1:=addF_is (by omega) x2 f.2 (by omega)
 have h2:=addF_is (by omega) y2 f.2 (by omega)
 have h3:=addF_is (by omega) x2 z (by omega)
 have h4:=addF_is (by omega) y2 z (by omega)
 refine ⟨f.1,h1.1,h2.1,h3.1,h4.1,fun k hk => ?_⟩
 rcases (by omega:k=0 ∨ k=1 ∨ k=2 ∨ k=3) with rfl | rfl | rfl | rfl
 · exact ⟨0,0,.inl rfl,.inl rfl,by rw [Int.add_zero]; exact x2,by rw [Int.add_zero]; exact y2⟩
 · exact ⟨s,0,.inr rfl,.inl rfl,h1.2,h4.2⟩
 · exact ⟨0,s,.inl rfl,.inr rfl,h3.2,h2.2⟩
 · exact ⟨s,s,.inr rfl,.inr rfl,h1.2,h2.2⟩
def quartC (cx cy d:Nat) (s:Int):Array Value:=#[.complex .f32 cx cy,.complex .f32 (addF cx (farF d s)) (addF cy 0),.complex .f32 (addF cx 0) (addF cy (farF d s)),.complex .f32 (addF cx (farF d s)) (addF cy (farF d s))]
theorem quartC_at (cx cy d:Nat) (s:Int) (k:Nat) (h:k < 4):(quartC cx cy d s)[k]?=some (.complex .f32 (quart cx cy d s k).1 (quart cx cy d s k).2):=by
 rcases (by omega:k=0 ∨ k=1 ∨ k=2 ∨ k=3) with rfl | rfl | rfl | rfl <;> rfl
set_option maxRecDepth 100000 in
set_option maxHeartbeats 1000000 in
theorem l7Corners_is (cx cy d:Nat) (A B s:Int) (hd:d ≤ 10) (hx:Pt cx d A) (hy:Pt cy d B) (hA:A.natAbs ≤ 8192) (hB:B.natAbs ≤ 8192) (hs:s.natAbs ≤ 100) (ua ub:Option Addr) (un uc vn vc:Nat) (w:World) :
   Calls Vp.prog 39 #[.agg #[.complex .f32 cx cy,.int .i64 d,.int .i64 s,.slice ua un uc,.slice ub vn vc]] w fun e w' => ∃ b,e=.returned (.slice (some ⟨b,0,none⟩) 4 4) ∧ w.heap.size ≤ b ∧ Box w b (quartC cx cy d s) 23 w':=by
 obtain ⟨h1,h2,h3,h4,h5,-⟩:=quart_is hd hx hy hA hB hs
 have R:=Box.new w #[.complex .f32 cx cy,.int .i64 d,.int .i64 s,.slice ua un uc,.slice ub vn vc] 29
 have g0:=fun w => run_float_arith (P:=Vp.prog) w .mul 63 .f32 _ _ _ h1
 have g1:=fun w => run_complex_sum (P:=Vp.prog) w .add (.inl rfl) 23 .f32 cx cy (farF d s) 0 _ _ (by unfold cSumBits; rw [h2,h5]; rfl)
 have g2:=fun w => run_complex_sum (P:=Vp.prog) w .add (.inl rfl) 23 .f32 cx cy 0 (farF d s) _ _ (by unfold cSumBits; rw [h4,h3]; rfl)
 have g3:=fun w => run_complex_sum (P:=Vp.prog) w .add (.inl rfl) 23 .f32 cx cy (farF d s) (farF d s) _ _ (by unfold cSumBits; rw [h2,h3]; rfl)
 have HS:Hid (∀ w,Calls Vp.prog 63 #[.int .i64 ((d:Int) + 1)] w fun e w' => e=.returned (.float .f32 (sideF (d + 1))) ∧ w=w'):=fun w => l7Side_is (d + 1) (by omega) w
 unfold quartC
 clear h1 h2 h3 h4 h5 hx hy hA hB
 generalize addF cx (farF d s)=x1 at *
 generalize addF cy (farF d s)=y1 at *
 generalize addF cx 0=x0 at *
 generalize addF cy 0=y0 at *
 generalize farF d s=f at *
 generalize sideF (d + 1)=sd at *
 obtain ⟨r0,r1,r2,r3,r4⟩:=R.cells5
 have e1:IntKind.i64.wrap ((d:Int) + 1)=(d:Int) + 1:=IntWalk.i64_in _ (by omega)
 go_enter Vp.func39,Tryz.ntmps39
 go_upto_region 1 with fail
 go_quiet ((go_at_call 63; exact quiet_eq (HS.out _)))
 clear e1
 have R2:=R.step ((Drw.refl _).drewN nq |>.below _)
 obtain ⟨t0,t1,t2,t3,t4⟩:=R2.cells5
 have HB:=Lib.hid R2.old
 have hsz:=R2.old.size
 clear R R2
 have X:=(Box.new ((w.alloc (.cells #[.complex .f32 cx cy,.int .i64 d,.int .i64 s,.slice ua un uc,.slice ub vn vc] 29)).drewN nq) #[.complex .f32 cx cy,.complex .f32 x1 y0,.complex .f32 x0 y1,.complex .f32 x1 y1] 23).up HB.out
 rw [show ((w.alloc (.cells #[.complex .f32 cx cy,.int .i64 d,.int .i64 s,.slice ua un uc,.slice ub vn vc] 29)).drewN nq).heap.size=w.heap.size + 1 by simp] at X
 have HX:=Lib.hid X
 clear X
 go_wp2
 go_ret
 exact ⟨w.heap.size + 1,rfl,by omega,HX.out⟩
end Go.Proofs.YtokbalggdhippaaGreat
end

section
namespace Go.Proofs.YtokbalggdhippaaGreat
open Go.RowKit Flo
attribute [local go_sem ↓] Go.wp_at_zero Go.wp_at_succ
attribute [local go_sem] run_store_float run_store_complex
structure TRec where
 cx:Nat
 cy:Nat
 deep:Int
 size:Int
 gs:Nat
 cs:Nat
 gm:Nat
 cm:Nat
 xs:List Nat
 ys:List Int
def TRec.n (t:TRec):Nat:=t.size.toNat * t.size.toNat
def TRec.cells (t:TRec):List Value:=[.complex .f32 t.cx t.cy,.int .i64 t.deep,.int .i64 t.size,.slice (some ⟨t.gs,0,none⟩) t.n t.cs,.slice (some ⟨t.gm,0,none⟩) t.n t.cm]
structure TOwn (B:Nat) (t:TRec) (W:World):Prop where
 made:Made B t.n t.xs t.ys (.slice (some ⟨t.gs,0,none⟩) t.n t.cs) (.slice (some ⟨t.gm,0,none⟩) t.n t.cm) W
 pl:placeB t.cx t.cy t.deep t.size=true
 bx:t.cx < 4294967296
 by1:t.cy < 4294967296
 ks:t.n ≤ t.cs
 km:t.n ≤ t.cm
theorem TOwn.step {B:Nat} {t:TRec} {W W':World} (h:TOwn B t W) (k:Below W.heap.size W W'):TOwn B t W':=⟨h.made.step k,h.pl,h.bx,h.by1,h.ks,h.km⟩
theorem TOwn.mono {B B':Nat} {t:TRec} {W:World} (h:TOwn B t W) (hB:B' ≤ B):TOwn B' t W:=⟨h.made.mono hB,h.pl,h.bx,h.by1,h.ks,h.km⟩
theorem infoT:(Vp.prog.info? 29).map (fun i => (i.zero,i.size,i.bytes))=some (some (.agg #[.complex .f32 0 0,.int .i64 0,.int .i64 0,.slice none 0 0,.slice none 0 0]),5,72):=by kernel_rfl
theorem TOwn.grown {B B':Nat} {t:TRec} {W W':World} {v:Value} {n:Nat} {cs:List Value} (h:TOwn B t W) (ho:W.ownsRow B' 29 5 v n cs) (hg:W.grownBy W' v.ownBlock):TOwn B t W' :=
 ⟨⟨h.made.S.kept hg (ownsRow_apart h.made.S ho (by decide)),h.made.M.kept hg (ownsRow_apart h.made.M ho (by decide)),h.made.lx,h.made.ly,h.made.hx,h.made.hy⟩,h.pl,h.bx,h.by1,h.ks,h.km⟩
def cellsL (L:List TRec):List Value:=L.flatMap TRec.cells
theorem cellsL_snoc (L:List TRec) (t:TRec):cellsL (L ++ [t])=cellsL L ++ t.cells:=by unfold cellsL; rw [List.flatMap_append,List.flatMap_singleton]
structure TList (B:Nat) (L:List TRec) (v:Value) (W:World):Prop where
 row:W.ownsRow B 29 5 v L.length (cellsL L)
 own:∀ t,t ∈ L → TOwn B t W
theorem TList.step {B:Nat} {L:List TRec} {v:Value} {W W':World} (h:TList B L v W) (k:Below W.heap.size W W'):TList B L v W':=⟨ownsRow_step h.row k,fun t ht => (h.own t ht).step k⟩
theorem Made.far {B n:Nat} {xs:List Nat} {ys:List Int} {smv mkv:Value} {W:World} (h:Made B n xs ys smv mkv W) {w0:World} {b:Nat} {C:Array Value} (hb:Box w0 b C 29 W) (j:Nat) (u:Value):Made B n xs ys smv mkv (W.setCell ⟨b,j,none⟩ u):=h.set hb.blk j u
theorem TOwn.far {B:Nat} {t:TRec} {W:World} (h:TOwn B t W) {w0:World} {b:Nat} {C:Array Value} (hb:Box w0 b C 29 W) (j:Nat) (u:Value):TOwn B t (W.setCell ⟨b,j,none⟩ u):=⟨h.made.far hb j u,h.pl,h.bx,h.by1,h.ks,h.km⟩
theorem TOwn.far5 {B:Nat} {t:TRec} {W w0:World} (h:TOwn B t W) {b:Nat} {v0 v1 v2 v3 v4:Value} (hb:Box w0 b #[v0,v1,v2,v3,v4] 29 W) (hw:w0.heap.size ≤ b) (u0 u1 u2 u3 u4:Value) :
   TOwn B t (((((W.setCell ⟨b,0,none⟩ u0).setCell ⟨b,1,none⟩ u1).setCell ⟨b,2,none⟩ u2).setCell ⟨b,3,none⟩ u3).setCell ⟨b,4,none⟩ u4):=by
 have b1:=hb.set hw 0 u0
 have b2:=b1.set hw 1 u1
 have b3:=b2.set hw 2 u2
 have b4:=b3.set hw 3 u3
 exact ((((h.far hb 0 u0).far b1 1 u1).far b2 2 u2).far b3 3 u3).far b4 4 u4
theorem ownsRow_mono {w:World} {base base':Nat} {e:TypeId} {size:Nat} {v:Value} {n:Nat} {xs:List Value} (h:w.ownsRow base e size v n xs) (hB:base' ≤ base):w.ownsRow base' e size v n xs:=by
 obtain ⟨s1,s2⟩:=h
 refine ⟨s1,?_⟩
 rcases s2 with h | ⟨g,cap,cur,h1,h2,r⟩
 · exact .inl h
 · exact .inr ⟨g,cap,cur,h1,Nat.le_trans hB h2,r⟩
theorem TList.mono {B B':Nat} {L:List TRec} {v:Value} {W:World} (h:TList B L v W) (hB:B' ≤ B):TList B' L v W:=⟨ownsRow_mono h.row hB,fun t ht => (h.own t ht).mono hB⟩
end Go.Proofs.YtokbalggdhippaaGreat
end

section
namespace Go.Proofs.YtokbalggdhippaaGreat
open Go.RowKit Flo
structure MkT (cx cy d s:Nat) (a b:Int):Prop where
 hx:cx < 4294967296
 hy:cy < 4294967296
 pl:placeB cx cy d s=true
 d10:d ≤ 10
 s1:1 ≤ s
 s8:s ≤ 8
 px:Pt cx d a
 py:Pt cy d b
 ha:a.natAbs ≤ 4 * 2 ^ d
 hb:b.natAbs ≤ 4 * 2 ^ d
 ga:a + s ≤ ((8 * 2 ^ d:Nat):Int)
 gb:b + s ≤ ((8 * 2 ^ d:Nat):Int)
def MkP (cx cy:Nat) (deep size:Int):Prop:=∃ (d s:Nat) (a b:Int),deep=d ∧ size=s ∧ MkT cx cy d s a b
theorem pt_inj {x d:Nat} {a b:Int} (h:Pt x d a) (g:Pt x d b):a=b:=by
 have e:=h.iv.symm.trans g.iv
 have hp:((2 ^ (u32 - d):Nat):Int) ≠ 0:=by have:=Nat.two_pow_pos (u32 - d); omega
 exact Int.eq_of_mul_eq_mul_right hp e
def TGood (most:Int) (t:TRec):Prop:=∃ (d s:Nat) (a b:Int),t.deep=d ∧ t.size=s ∧ MkT t.cx t.cy d s a b ∧ t.xs=rowsOf s (smT t.cx t.cy d most) s ∧ t.ys=rowsOf s (stT a b d most) s
theorem TGood.same {most:Int} {t u:TRec} (h:TGood most t) (g:TGood most u) (ex:t.cx=u.cx) (ey:t.cy=u.cy) (ed:t.deep=u.deep) (es:t.size=u.size):t.xs=u.xs ∧ t.ys=u.ys:=by
 obtain ⟨d,s,a,b,h1,h2,h3,h4,h5⟩:=h
 obtain ⟨d',s',a',b',g1,g2,g3,g4,g5⟩:=g
 obtain rfl:d=d':=by omega
 obtain rfl:s=s':=by omega
 have hx:=h3.px
 have hy:=h3.py
 rw [ex] at hx
 rw [ey] at hy
 obtain rfl:=pt_inj hx g3.px
 obtain rfl:=pt_inj hy g3.py
 rw [h4,h5,g4,g5,ex,ey]
 exact ⟨rfl,rfl⟩
def MakeRes2 (w:World) (cx cy:Nat) (deep size most:Int) (ok:Bool) (v:Value) (w':World):Prop :=
 (ok=false → ¬ MkP cx cy deep size ∧ v=.agg #[.complex .f32 0 0,.int .i64 0,.int .i64 0,.slice none 0 0,.slice none 0 0]) ∧ (ok=true → ∃ t:TRec,t.cx=cx ∧ t.cy=cy ∧ t.deep=deep ∧ t.size=size ∧ v=.agg t.cells.toArray ∧ TOwn w.heap.size t w' ∧ TGood most t)
def OneRes (w:World) (cx cy:Nat) (deep size most:Int) (e:Ending) (w':World):Prop :=
 (∃ (x y:Nat) (d s:Int) (a1:Option Addr) (n1 c1:Nat) (a2:Option Addr) (n2 c2:Nat) (ok:Bool),e=.returned (.tuple #[.agg #[.complex .f32 x y,.int .i64 d,.int .i64 s,.slice a1 n1 c1,.slice a2 n2 c2],.bool ok]) ∧ MakeRes2 w cx cy deep size most ok (.agg #[.complex .f32 x y,.int .i64 d,.int .i64 s,.slice a1 n1 c1,.slice a2 n2 c2]) w') ∧ Below w.heap.size w w'
theorem mkP_place {cx cy:Nat} {deep size:Int} (h:MkP cx cy deep size):placeB cx cy deep size=true:=by
 obtain ⟨d,s,a,b,rfl,rfl,h⟩:=h
 exact h.pl
theorem one_no {w w':World} {cx cy:Nat} {deep size most:Int} (h:¬ MkP cx cy deep size) (hb:Below w.heap.size w w'):OneRes w cx cy deep size most (.returned zTileV) w' :=
 ⟨⟨0,0,0,0,none,0,0,none,0,0,false,rfl,fun _ => ⟨h,rfl⟩,fun h => by cases h⟩,hb⟩
theorem one_yes {w w':World} {cx cy d s:Nat} {a b most:Int} (h:MkT cx cy d s a b) {smv mkv:Value} (hM:Made w.heap.size (s * s) (rowsOf s (smT cx cy d most) s) (rowsOf s (stT a b d most) s) smv mkv w') (hb:Below w.heap.size w w') :
   OneRes w cx cy d s most (.returned (.tuple #[.agg #[.complex .f32 cx cy,.int .i64 d,.int .i64 s,smv,mkv],.bool true])) w':=by
 have hn:0 < s * s:=Nat.mul_pos h.s1 h.s1
 obtain ⟨gs,cs,rfl,-,hcs⟩:=ownsRow_form hM.S hn
 obtain ⟨gm,cm,rfl,-,hcm⟩:=ownsRow_form hM.M hn
 refine ⟨⟨cx,cy,d,s,_,_,cs,_,_,cm,true,rfl,(fun h => by cases h),fun _ => ⟨⟨cx,cy,d,s,gs,cs,gm,cm,rowsOf s (smT cx cy d most) s,rowsOf s (stT a b d most) s⟩,rfl,rfl,rfl,rfl,?_,⟨?_,h.pl,h.hx,h.hy,?_,?_⟩,d,s,a,b,rfl,rfl,h,rfl,rfl⟩⟩,hb⟩
 · simp [TRec.cells,TRec.n]
 · simpa [TRec.n] using hM
 · simpa [TRec.n] using hcs
 · simpa [TRec.n] using hcm
def MakeC (f:Nat):Prop:=∀ (cx cy:Nat) (deep size most:Int),cx < 4294967296 → cy < 4294967296 → ∀ w,Calls Vp.prog f #[.complex .f32 cx cy,.int .i64 deep,.int .i64 size,.int .i64 most] w (OneRes w cx cy deep size most)
theorem place_mk {cx cy:Nat} {deep size:Int} (hx:cx < 4294967296) (hy:cy < 4294967296) (h:placeB cx cy deep size=true):∃ (d s:Nat) (a b:Int),deep=d ∧ size=s ∧ d ≤ 10 ∧ 1 ≤ s ∧ s ≤ 8 ∧ Pt cx d a ∧ Pt cy d b ∧ a.natAbs ≤ 4 * 2 ^ d ∧ b.natAbs ≤ 4 * 2 ^ d:=by
 obtain ⟨d,s,a,b,h1,h2,h3,h4,h5,h6,h7,h8,h9⟩:=placePts h
 rw [Nat.mod_eq_of_lt hx] at h6
 rw [Nat.mod_eq_of_lt hy] at h7
 exact ⟨d,s,a,b,h1,h2,h3,h4,h5,h6,h7,h8,h9⟩
theorem rows_made {B n:Nat} {xs:List Nat} {ys:List Int} {gs gm cap:Nat} {W:World} (hS:B ≤ gs) (hM:B ≤ gm) (hs:W.heap[gs]?=some (.cells (xs.map floV).toArray 63 (0,0))) (hm:W.heap[gm]?=some (.cells (ys.map intV).toArray 3 (0,0)))
   (lx:xs.length=n) (ly:ys.length=n) (hn:n=cap) (hc:cap ≤ 64) (hx:∀ x,x ∈ xs → x < 4294967296) (hy:∀ y,y ∈ ys → -1 ≤ y ∧ y ≤ 1):Made B n xs ys (.slice (some ⟨gs,0,none⟩) cap cap) (.slice (some ⟨gm,0,none⟩) cap cap) W:=by
 subst hn
 refine ⟨⟨by simp [lx],.inr ⟨gs,n,_,rfl,hS,hs,Nat.le_refl _,by unfold maxLen; omega,by simp [lx],?_⟩⟩,⟨by simp [ly],.inr ⟨gm,n,_,rfl,hM,hm,Nat.le_refl _,by unfold maxLen; omega,by simp [ly],?_⟩⟩,lx,ly,hx,hy⟩
 · exact List.take_of_length_le (by simp [lx])
 · exact List.take_of_length_le (by simp [ly])
theorem rowsOf_mem {α:Type} {s:Nat} {f:Nat → Nat → α} {n:Nat} {x:α} (h:x ∈ rowsOf s f n):∃ i j,x=f i j:=by
 unfold rowsOf at h
 rw [List.mem_flatMap] at h
 obtain ⟨i,_,h⟩:=h
 rw [List.mem_map] at h
 obtain ⟨j,_,h⟩:=h
 exact ⟨i,j,h.symm⟩
theorem specMakeC:MakeC 29:=by
 intro cx cy deep size most hx hy w
 cases hpl:placeB cx cy deep size with
 | false =>
   refine (tileMake_no cx cy deep size most hpl w).mono ?_
   rintro e w' ⟨rfl,hb⟩
   exact one_no (fun h => by rw [mkP_place h] at hpl; cases hpl) hb
 | true =>
   obtain ⟨d,s,a,b,rfl,rfl,hd,h1,h8,px,py,ha,hb⟩:=place_mk hx hy hpl
   refine (tileMake_val cx cy d s most hd h8 hpl (cellV_ok most hd h8 (by rw [Nat.mod_eq_of_lt hx]; exact px) (by rw [Nat.mod_eq_of_lt hy]; exact py) ha hb) w).mono ?_
   have hall:=all_iff (d:=d) (by omega) h1 ha hb
   rintro e w' ⟨hbl,⟨⟨i,j,hi,hj,hno⟩,rfl⟩ | ⟨hok,smv,mkv,rfl,hM⟩⟩
   · refine one_no ?_ hbl
     rintro ⟨d',s',a',b',e1,e2,h⟩
     obtain rfl:d=d':=by omega
     obtain rfl:s=s':=by omega
     obtain rfl:=pt_inj px h.px
     obtain rfl:=pt_inj py h.py
     have:=hall.2 ⟨h.ga,h.gb⟩ i j hi hj
     have hno:cOk a b d i j=false:=hno
     rw [hno] at this
     cases this
   · have hg:=hall.1 hok
     exact one_yes ⟨hx,hy,hpl,hd,h1,h8,px,py,ha,hb,hg.1,hg.2⟩ hM hbl
theorem implMakeC:MakeC 11:=by
 intro cx cy deep size most hx hy w
 cases hpl:placeB cx cy deep size with
 | false =>
   refine (tileMakeV_no cx cy deep size most hpl w).mono ?_
   rintro e w' ⟨rfl,hb⟩
   exact one_no (fun h => by rw [mkP_place h] at hpl; cases hpl) hb
 | true =>
   obtain ⟨d,s,a,b,rfl,rfl,hd,h1,h8,px,py,ha,hb⟩:=place_mk hx hy hpl
   refine (tileMakeV_val cx cy d s most hd h8 hpl (cellV_ok most hd h8 (by rw [Nat.mod_eq_of_lt hx]; exact px) (by rw [Nat.mod_eq_of_lt hy]; exact py) ha hb) w).mono ?_
   have hall:=all_iff (d:=d) (by omega) h1 ha hb
   rintro e w' ⟨hbl,⟨⟨i,j,hi,hj,hno⟩,rfl⟩ | ⟨hok,v,rfl,⟨gS,gM,rfl,l1,l2,l3,c1,c2⟩⟩⟩
   · refine one_no ?_ hbl
     rintro ⟨d',s',a',b',e1,e2,h⟩
     obtain rfl:d=d':=by omega
     obtain rfl:s=s':=by omega
     obtain rfl:=pt_inj px h.px
     obtain rfl:=pt_inj py h.py
     have:=hall.2 ⟨h.ga,h.gb⟩ i j hi hj
     have hno:cOk a b d i j=false:=hno
     rw [hno] at this
     cases this
   · have hg:=hall.1 hok
     have hss:s * s ≤ 64:=Nat.mul_le_mul h8 h8
     have hM:=rows_made l1 l2 c1 c2 (rowsOf_len s (smT cx cy d most) s) (rowsOf_len s (stT a b d most) s) rfl hss (fun x h => by obtain ⟨i,j,rfl⟩:=rowsOf_mem h; exact smC_lt _ _ _) (fun y h => by obtain ⟨i,j,rfl⟩:=rowsOf_mem h; exact stB_bd _ _)
     exact one_yes ⟨hx,hy,hpl,hd,h1,h8,px,py,ha,hb,hg.1,hg.2⟩ hM hbl
end Go.Proofs.YtokbalggdhippaaGreat
end
