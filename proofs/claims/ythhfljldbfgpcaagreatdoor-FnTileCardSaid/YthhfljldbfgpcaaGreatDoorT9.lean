/- Merged texts: TilX. -/
import Derived.Test.YthhfljldbfgpcaaGreatDoorT4
import Derived.Test.YthhfljldbfgpcaaGreatDoorT8
set_option linter.all false
section
namespace Go.Proofs.YthhfljldbfgpcaaGreatDoor
open Go.RowKit Flo
def stS (c d:Nat) (p:Nat × Nat):Nat × Nat :=
 (opC .add .f32 (narrowC (sqRe (widenC p.1) (widenC p.2))) c,opC .add .f32 (narrowC (sqIm (widenC p.1) (widenC p.2))) d)
def orbS (c d:Nat):Nat → Nat × Nat
 | 0 => (0,0)
 | k + 1 => stS c d (orbS c d k)
def okS (c d k:Nat):Bool:=le4 (normC (widenC (orbS c d k).1) (widenC (orbS c d k).2))
theorem orbS_lt (c d k:Nat):(orbS c d k).1 < 4294967296 ∧ (orbS c d k).2 < 4294967296:=by
 cases k with
 | zero => exact ⟨show 0 < 4294967296 by omega,show 0 < 4294967296 by omega⟩
 | succ k => exact ⟨by rw [← pow32]; exact opC_lt,by rw [← pow32]; exact opC_lt⟩
def IsEsc (ok:Nat → Bool) (n:Int) (r:Int):Prop :=
 (∃ k:Nat,r=k ∧ (k:Int) ≤ n ∧ ok k=false ∧ ∀ j,j < k → ok j=true) ∨ (r=-1 ∧ ∀ j:Nat,(j:Int) ≤ n → ok j=true)
theorem IsEsc.eq {ok:Nat → Bool} {n r s:Int} (h:IsEsc ok n r) (g:IsEsc ok n s):r=s:=by
 rcases h with ⟨k,rfl,hk,h1,h2⟩ | ⟨rfl,h1⟩
 · rcases g with ⟨l,rfl,hl,g1,g2⟩ | ⟨rfl,g1⟩
   · rcases Nat.lt_trichotomy k l with h | h | h
     · rw [g2 k h] at h1; cases h1
     · rw [h]
     · rw [h2 l h] at g1; cases g1
   · rw [g1 k hk] at h1; cases h1
 · rcases g with ⟨l,rfl,hl,g1,g2⟩ | ⟨rfl,g1⟩
   · rw [h1 l hl] at g1; cases g1
   · rfl
set_option maxHeartbeats 400000 in
theorem specSquare_al (x y:Nat) (w:World):Calls Vp.prog 110 #[.complex .f64 x y] w fun e w' => (∃ a b,e=.returned (.complex .f64 a b) ∧ a < 18446744073709551616 ∧ b < 18446744073709551616 ∧ Al .f64 (sqRe x y) a ∧ Al .f64 (sqIm x y) b) ∧ Drw w w':=by
 obtain ⟨x1,w1,h1,_,d1,a1⟩:=Flo.arith_al (P:=Vp.prog) .mul (by simp) 68 .f64 x x w
 obtain ⟨x2,w2,h2,_,d2,a2⟩:=Flo.arith_al (P:=Vp.prog) .mul (by simp) 68 .f64 y y w1
 obtain ⟨a,w3,h3,ha,d3,a3⟩:=Flo.arith_al (P:=Vp.prog) .sub (by simp) 68 .f64 x1 x2 w2
 obtain ⟨x4,w4,h4,_,d4,a4⟩:=Flo.arith_al (P:=Vp.prog) .mul (by simp) 68 .f64 x y w3
 obtain ⟨b,w5,h5,hb,d5,a5⟩:=Flo.arith_al (P:=Vp.prog) .mul (by simp) 68 .f64 4611686018427387904 x4 w4
 have HD:=Lib.hid ((((d1.trans d2).trans d3).trans d4).trans d5)
 have HA:Hid (Al .f64 (sqRe x y) a):=by rw [show sqRe x y=opC .sub .f64 x1 x2 from opC_al a1 a2]; exact a3
 have HB:Hid (Al .f64 (sqIm x y) b):=by rw [show sqIm x y=opC .mul .f64 4611686018427387904 x4 from opC_al (Al.refl _ _) a4]; exact a5
 clear d1 d2 d3 d4 d5 a1 a2 a3 a4 a5
 go_enter Vp.func110,Tryz.ntmps110
 go_wp2
 go_ret
 exact ⟨⟨a,b,rfl,ha,hb,HA.out,HB.out⟩,HD.out⟩
set_option maxHeartbeats 400000 in
theorem specNorm_al (x y:Nat) (w:World):Calls Vp.prog 59 #[.complex .f64 x y] w fun e w' => (∃ a,e=.returned (.float .f64 a) ∧ a < 18446744073709551616 ∧ Al .f64 (normC x y) a) ∧ Drw w w':=by
 obtain ⟨x1,w1,h1,_,d1,a1⟩:=Flo.arith_al (P:=Vp.prog) .mul (by simp) 68 .f64 x x w
 obtain ⟨x2,w2,h2,_,d2,a2⟩:=Flo.arith_al (P:=Vp.prog) .mul (by simp) 68 .f64 y y w1
 obtain ⟨a,w3,h3,ha,d3,a3⟩:=Flo.arith_al (P:=Vp.prog) .add (by simp) 68 .f64 x1 x2 w2
 have HD:=Lib.hid ((d1.trans d2).trans d3)
 have HA:Hid (Al .f64 (normC x y) a):=by rw [show normC x y=opC .add .f64 x1 x2 from opC_al a1 a2]; exact a3
 clear d1 d2 d3 a1 a2 a3
 go_enter Vp.func59,Tryz.ntmps59
 go_wp2
 go_ret
 exact ⟨⟨a,rfl,ha,HA.out⟩,HD.out⟩
set_option maxHeartbeats 400000 in
theorem implSquare_al (x y:Nat) (w:World):Calls Vp.prog 90 #[.complex .f64 x y] w fun e w' => (∃ a b,e=.returned (.complex .f64 a b) ∧ a < 18446744073709551616 ∧ b < 18446744073709551616 ∧ Al .f64 (sqRe x y) a ∧ Al .f64 (sqIm x y) b) ∧ Drw w w':=by
 obtain ⟨x1,w1,h1,_,d1,a1⟩:=Flo.arith_al (P:=Vp.prog) .mul (by simp) 68 .f64 x x w
 obtain ⟨x2,w2,h2,_,d2,a2⟩:=Flo.arith_al (P:=Vp.prog) .mul (by simp) 68 .f64 y y w1
 obtain ⟨a,w3,h3,ha,d3,a3⟩:=Flo.arith_al (P:=Vp.prog) .sub (by simp) 68 .f64 x1 x2 w2
 obtain ⟨x4,w4,h4,_,d4,a4⟩:=Flo.arith_al (P:=Vp.prog) .mul (by simp) 68 .f64 x y w3
 obtain ⟨b,w5,h5,hb,d5,a5⟩:=Flo.arith_al (P:=Vp.prog) .mul (by simp) 68 .f64 4611686018427387904 x4 w4
 have HD:=Lib.hid ((((d1.trans d2).trans d3).trans d4).trans d5)
 have HA:Hid (Al .f64 (sqRe x y) a):=by rw [show sqRe x y=opC .sub .f64 x1 x2 from opC_al a1 a2]; exact a3
 have HB:Hid (Al .f64 (sqIm x y) b):=by rw [show sqIm x y=opC .mul .f64 4611686018427387904 x4 from opC_al (Al.refl _ _) a4]; exact a5
 clear d1 d2 d3 d4 d5 a1 a2 a3 a4 a5
 go_enter Vp.func90,Tryz.ntmps90
 go_wp2
 go_ret
 exact ⟨⟨a,b,rfl,ha,hb,HA.out,HB.out⟩,HD.out⟩
set_option maxHeartbeats 400000 in
theorem implNorm_al (x y:Nat) (w:World):Calls Vp.prog 68 #[.complex .f64 x y] w fun e w' => (∃ a,e=.returned (.float .f64 a) ∧ a < 18446744073709551616 ∧ Al .f64 (normC x y) a) ∧ Drw w w':=by
 obtain ⟨x1,w1,h1,_,d1,a1⟩:=Flo.arith_al (P:=Vp.prog) .mul (by simp) 68 .f64 x x w
 obtain ⟨x2,w2,h2,_,d2,a2⟩:=Flo.arith_al (P:=Vp.prog) .mul (by simp) 68 .f64 y y w1
 obtain ⟨a,w3,h3,ha,d3,a3⟩:=Flo.arith_al (P:=Vp.prog) .add (by simp) 68 .f64 x1 x2 w2
 have HD:=Lib.hid ((d1.trans d2).trans d3)
 have HA:Hid (Al .f64 (normC x y) a):=by rw [show normC x y=opC .add .f64 x1 x2 from opC_al a1 a2]; exact a3
 clear d1 d2 d3 a1 a2 a3
 go_enter Vp.func68,Tryz.ntmps68
 go_wp2
 go_ret
 exact ⟨⟨a,rfl,ha,HA.out⟩,HD.out⟩
def mostN (n:Int):Int:=max 0 (min 400 n)
theorem mostN_bd (n:Int):0 ≤ mostN n ∧ mostN n ≤ 400:=by unfold mostN; omega
set_option maxHeartbeats 400000 in
theorem l3Most_is (n:Int) (w:World):Calls Vp.prog 82 #[.int .i64 n] w fun e w' => e=.returned (.int .i64 (mostN n)) ∧ w=w':=by
 go_enter Vp.func82,Tryz.ntmps82
 go_wp2
 all_goals
   go_ret
   exact ⟨ret_int (by unfold mostN; omega),rfl⟩
theorem le4_al {x y:Nat} (h:Al .f64 x y):le4 x=le4 y:=by
 unfold le4
 rw [show FloatKind.f64.format.order x 4616189618054758400=FloatKind.f64.format.order y 4616189618054758400 from h.order (Al.refl _ _)]
theorem normC_al {x y x' y':Nat} (h:Al .f64 x x') (g:Al .f64 y y'):normC x y=normC x' y':=by
 unfold normC
 rw [show opC .mul .f64 x x=opC .mul .f64 x' x' from opC_al h h,show opC .mul .f64 y y=opC .mul .f64 y' y' from opC_al g g]
theorem sqRe_al {x y x' y':Nat} (h:Al .f64 x x') (g:Al .f64 y y'):sqRe x y=sqRe x' y':=by
 unfold sqRe
 rw [show opC .mul .f64 x x=opC .mul .f64 x' x' from opC_al h h,show opC .mul .f64 y y=opC .mul .f64 y' y' from opC_al g g]
theorem sqIm_al {x y x' y':Nat} (h:Al .f64 x x') (g:Al .f64 y y'):sqIm x y=sqIm x' y':=by
 unfold sqIm
 rw [show opC .mul .f64 x y=opC .mul .f64 x' y' from opC_al h g]
theorem fin_num {x:Nat} (h:fin Ieee.single x):nan .f32 x=false:=by
 unfold nan FloatKind.decode
 show (Ieee.single.read x).isNaN=false
 rw [read_fin h]; rfl
theorem Al.same {k:FloatKind} {x a:Nat} (h:Al k x a) (g:nan k x=false):a=x:=by
 rcases h with rfl | ⟨h1,_⟩
 · rfl
 · rw [g] at h1; cases h1
set_option maxHeartbeats 400000 in
theorem specSqS_al (x y:Nat) (hx:x < 4294967296) (hy:y < 4294967296) (hok:le4 (normC (widenC x) (widenC y))=true) (w:World) :
   Calls Vp.prog 104 #[.complex .f32 x y] w fun e w' => (∃ a b,e=.returned (.complex .f32 a b) ∧ a < 4294967296 ∧ b < 4294967296 ∧ Al .f32 (narrowC (sqRe (widenC x) (widenC y))) a ∧ Al .f32 (narrowC (sqIm (widenC x) (widenC y))) b) ∧ Drw w w':=by
 have HO:=Lib.hid (step_ok hx hy hok)
 obtain ⟨p,q,w1,h1,_,_,d1,ap,aq⟩:=Flo.cwiden_al (P:=Vp.prog) 23 39 (by kernel_rfl) (Vp.und Tryz.underlying39) x y hx hy w
 have H1:=Lib.hid d1
 have HA:=Lib.hid (sqRe_al ap aq)
 have HB:=Lib.hid (sqIm_al ap aq)
 clear d1 hx hy hok ap aq
 go_enter Vp.func104,Tryz.ntmps104
 go_wp2_with fail
 refine (specSquare_al p q _).mono ?_
 rintro e w2 ⟨⟨a,b,rfl,ha,hb,aa,ab⟩,hd⟩
 rw [← HA.out] at aa
 rw [← HB.out] at ab
 obtain ⟨u,v,w3,h3,hu,hv,d3,au,av⟩:=Flo.cnarrow_al (P:=Vp.prog) 39 23 (by kernel_rfl) (Vp.und Tryz.underlying23) a b (aa.narrows HO.out.1) (ab.narrows HO.out.2) w2
 rw [← narrowC_al aa] at au
 rw [← narrowC_al ab] at av
 have HD:=Lib.hid ((H1.out.trans hd).trans d3)
 have HU:=Lib.hid au
 have HV:=Lib.hid av
 clear hd d3 h1 H1 au av aa ab
 go_wp2
 go_ret
 exact ⟨⟨u,v,rfl,hu,hv,HU.out,HV.out⟩,HD.out⟩
set_option maxHeartbeats 400000 in
theorem specStepS_al (x y c d:Nat) (hx:x < 4294967296) (hy:y < 4294967296) (hok:le4 (normC (widenC x) (widenC y))=true) (w:World) :
   Calls Vp.prog 86 #[.complex .f32 x y,.complex .f32 c d] w fun e w' => (∃ a b,e=.returned (.complex .f32 a b) ∧ a < 4294967296 ∧ b < 4294967296 ∧ Al .f32 (stS c d (x,y)).1 a ∧ Al .f32 (stS c d (x,y)).2 b) ∧ Drw w w':=by
 go_enter Vp.func86,Tryz.ntmps86
 go_wp2_with fail
 refine (specSqS_al x y hx hy hok _).mono ?_
 rintro e w2 ⟨⟨a,b,rfl,ha,hb,aa,ab⟩,hd⟩
 obtain ⟨u,v,w3,h3,hu,hv,d3,au,av⟩:=Flo.csum_al (P:=Vp.prog) 23 .f32 a b c d w2
 have HU:Hid (Al .f32 (stS c d (x,y)).1 u):=by rw [show (stS c d (x,y)).1=opC .add .f32 a c from opC_al aa (Al.refl _ _)]; exact au
 have HV:Hid (Al .f32 (stS c d (x,y)).2 v):=by rw [show (stS c d (x,y)).2=opC .add .f32 b d from opC_al ab (Al.refl _ _)]; exact av
 have HD:=Lib.hid (hd.trans d3)
 clear hd d3 au av aa ab hok
 go_wp2
 go_ret
 exact ⟨⟨u,v,rfl,hu,hv,HU.out,HV.out⟩,HD.out⟩
set_option maxHeartbeats 400000 in
theorem inWidthW_al (x y:Nat) (hx:x < 4294967296) (hy:y < 4294967296) (w:World) :
   Calls Vp.prog 34 #[.complex .f32 x y] w fun e w' => (∃ p q,e=.returned (.complex .f64 p q) ∧ p < 18446744073709551616 ∧ q < 18446744073709551616 ∧ Al .f64 (widenC x) p ∧ Al .f64 (widenC y) q) ∧ Drw w w':=by
 obtain ⟨p,q,w1,h1,p1,q1,d1,ap,aq⟩:=Flo.cwiden_al (P:=Vp.prog) 23 39 (by kernel_rfl) (Vp.und Tryz.underlying39) x y hx hy w
 have H1:=Lib.hid d1
 have HA:=Lib.hid ap
 have HB:=Lib.hid aq
 clear d1 ap aq
 go_enter Vp.func34,Tryz.ntmps34
 go_wp2
 go_ret
 exact ⟨⟨p,q,rfl,p1,q1,HA.out,HB.out⟩,H1.out⟩
set_option maxHeartbeats 400000 in
theorem implWiden_al (x y:Nat) (hx:x < 4294967296) (hy:y < 4294967296) (w:World) :
   Calls Vp.prog 10 #[.complex .f32 x y] w fun e w' => (∃ p q,e=.returned (.complex .f64 p q) ∧ p < 18446744073709551616 ∧ q < 18446744073709551616 ∧ Al .f64 (widenC x) p ∧ Al .f64 (widenC y) q) ∧ Drw w w':=by
 go_enter Vp.func10,Tryz.ntmps10
 go_wp2_with fail
 refine (inWidthW_al x y hx hy _).mono ?_
 rintro e w1 ⟨⟨p,q,rfl,p1,q1,ap,aq⟩,hd⟩
 have H1:=Lib.hid hd
 have HA:=Lib.hid ap
 have HB:=Lib.hid aq
 clear hd ap aq
 go_wp2
 go_ret
 exact ⟨⟨p,q,rfl,p1,q1,HA.out,HB.out⟩,H1.out⟩
set_option maxHeartbeats 400000 in
theorem inWidthS_al (x y:Nat) (hx:nan .f64 x=true ∨ ∃ u,floatToFloatBits .f64 x .f32=some u) (hy:nan .f64 y=true ∨ ∃ u,floatToFloatBits .f64 y .f32=some u) (w:World) :
   Calls Vp.prog 105 #[.complex .f64 x y] w fun e w' => (∃ p q,e=.returned (.complex .f32 p q) ∧ p < 4294967296 ∧ q < 4294967296 ∧ Al .f32 (narrowC x) p ∧ Al .f32 (narrowC y) q) ∧ Drw w w':=by
 obtain ⟨p,q,w1,h1,p1,q1,d1,ap,aq⟩:=Flo.cnarrow_al (P:=Vp.prog) 39 23 (by kernel_rfl) (Vp.und Tryz.underlying23) x y hx hy w
 have H1:=Lib.hid d1
 have HA:=Lib.hid ap
 have HB:=Lib.hid aq
 clear d1 ap aq hx hy
 go_enter Vp.func105,Tryz.ntmps105
 go_wp2
 go_ret
 exact ⟨⟨p,q,rfl,p1,q1,HA.out,HB.out⟩,H1.out⟩
set_option maxHeartbeats 400000 in
theorem implNarrow_al (x y:Nat) (hx:nan .f64 x=true ∨ ∃ u,floatToFloatBits .f64 x .f32=some u) (hy:nan .f64 y=true ∨ ∃ u,floatToFloatBits .f64 y .f32=some u) (w:World) :
   Calls Vp.prog 89 #[.complex .f64 x y] w fun e w' => (∃ p q,e=.returned (.complex .f32 p q) ∧ p < 4294967296 ∧ q < 4294967296 ∧ Al .f32 (narrowC x) p ∧ Al .f32 (narrowC y) q) ∧ Drw w w':=by
 have HX:=Lib.hid hx
 have HY:=Lib.hid hy
 clear hx hy
 go_enter Vp.func89,Tryz.ntmps89
 go_wp2_with fail
 refine (inWidthS_al x y HX.out HY.out _).mono ?_
 rintro e w1 ⟨⟨p,q,rfl,p1,q1,ap,aq⟩,hd⟩
 have H1:=Lib.hid hd
 have HA:=Lib.hid ap
 have HB:=Lib.hid aq
 clear hd ap aq
 go_wp2
 go_ret
 exact ⟨⟨p,q,rfl,p1,q1,HA.out,HB.out⟩,H1.out⟩
set_option maxHeartbeats 400000 in
theorem implSqS_al (x y:Nat) (hx:x < 4294967296) (hy:y < 4294967296) (hok:le4 (normC (widenC x) (widenC y))=true) (w:World) :
   Calls Vp.prog 69 #[.complex .f32 x y] w fun e w' => (∃ a b,e=.returned (.complex .f32 a b) ∧ a < 4294967296 ∧ b < 4294967296 ∧ Al .f32 (narrowC (sqRe (widenC x) (widenC y))) a ∧ Al .f32 (narrowC (sqIm (widenC x) (widenC y))) b) ∧ Drw w w':=by
 have HO:=Lib.hid (step_ok hx hy hok)
 have HI:=Lib.hid (implWiden_al x y hx hy)
 clear hok hx hy
 go_enter Vp.func69,Tryz.ntmps69
 go_wp2_with fail
 refine (HI.out _).mono ?_
 rintro e w1 ⟨⟨p,q,rfl,-,-,ap,aq⟩,hd⟩
 have H1:=Lib.hid hd
 have HA:=Lib.hid (sqRe_al ap aq)
 have HB:=Lib.hid (sqIm_al ap aq)
 clear hd ap aq
 go_wp2_with fail
 refine (implSquare_al p q _).mono ?_
 rintro e w2 ⟨⟨a,b,rfl,ha,hb,aa,ab⟩,hd⟩
 rw [← HA.out] at aa
 rw [← HB.out] at ab
 have H2:=Lib.hid (H1.out.trans hd)
 have HX:=Lib.hid (aa.narrows HO.out.1)
 have HY:=Lib.hid (ab.narrows HO.out.2)
 have HAA:=Lib.hid aa
 have HAB:=Lib.hid ab
 clear hd aa ab H1
 go_wp2_with fail
 refine (implNarrow_al a b HX.out HY.out _).mono ?_
 rintro e w3 ⟨⟨u,v,rfl,hu,hv,au,av⟩,hd⟩
 rw [← narrowC_al HAA.out] at au
 rw [← narrowC_al HAB.out] at av
 have HD:=Lib.hid (H2.out.trans hd)
 have HU:=Lib.hid au
 have HV:=Lib.hid av
 clear hd au av H2
 go_wp2
 go_ret
 exact ⟨⟨u,v,rfl,hu,hv,HU.out,HV.out⟩,HD.out⟩
set_option maxHeartbeats 400000 in
theorem implStepS_al (x y c d:Nat) (hx:x < 4294967296) (hy:y < 4294967296) (hok:le4 (normC (widenC x) (widenC y))=true) (w:World) :
   Calls Vp.prog 37 #[.complex .f32 x y,.complex .f32 c d] w fun e w' => (∃ a b,e=.returned (.complex .f32 a b) ∧ a < 4294967296 ∧ b < 4294967296 ∧ Al .f32 (stS c d (x,y)).1 a ∧ Al .f32 (stS c d (x,y)).2 b) ∧ Drw w w':=by
 go_enter Vp.func37,Tryz.ntmps37
 go_wp2_with fail
 refine (implSqS_al x y hx hy hok _).mono ?_
 rintro e w2 ⟨⟨a,b,rfl,ha,hb,aa,ab⟩,hd⟩
 obtain ⟨u,v,w3,h3,hu,hv,d3,au,av⟩:=Flo.csum_al (P:=Vp.prog) 23 .f32 a b c d w2
 have HU:Hid (Al .f32 (stS c d (x,y)).1 u):=by rw [show (stS c d (x,y)).1=opC .add .f32 a c from opC_al aa (Al.refl _ _)]; exact au
 have HV:Hid (Al .f32 (stS c d (x,y)).2 v):=by rw [show (stS c d (x,y)).2=opC .add .f32 b d from opC_al ab (Al.refl _ _)]; exact av
 have HD:=Lib.hid (hd.trans d3)
 clear hd d3 au av aa ab hok
 go_wp2
 go_ret
 exact ⟨⟨u,v,rfl,hu,hv,HU.out,HV.out⟩,HD.out⟩
end Go.Proofs.YthhfljldbfgpcaaGreatDoor
end
