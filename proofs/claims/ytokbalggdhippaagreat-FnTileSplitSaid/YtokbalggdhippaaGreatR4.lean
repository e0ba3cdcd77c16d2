/- Merged texts: TilA, TilD, Same, LawS, TilM, TilE, BoxT, FloN. -/
import Derived.Test.YtokbalggdhippaaGreatR2
import Derived.Test.YtokbalggdhippaaGreatR3
import Derived.Test.YtokbalggdhippaaGreatRows
import Derived.Test.YtokbalggdhippaaGreatR1
import Derived.Laws.OwnMore
import Derived.OwnWalk
import Derived.Deep.AppendLies
import Derived.Deep.RegionWith
import Derived.Deep.DrawnRows
import Derived.Deep.Cut
import Derived.Outline
import Derived.Laws.BitsAllLaws
set_option linter.all false
section
namespace Go.Proofs.YtokbalggdhippaaGreat
open Go.RowKit
theorem side_bits (d:Nat) (h:d ≤ 11):floatBits .quo .f32 1065353216 (floatOfInt .f32 (wrap64 (2 ^ d)))=some (Flo.sideF d):=by
 rcases (by omega:d=0 ∨ d=1 ∨ d=2 ∨ d=3 ∨ d=4 ∨ d=5 ∨ d=6 ∨ d=7 ∨ d=8 ∨ d=9 ∨ d=10 ∨ d=11) with rfl | rfl | rfl | rfl | rfl | rfl | rfl | rfl | rfl | rfl | rfl | rfl <;> kernel_rfl
set_option maxHeartbeats 400000 in
theorem l7Side_is (d:Nat) (hd:d ≤ 11) (w:World):Calls Vp.prog 63 #[.int .i64 d] w fun e w' => e=.returned (.float .f32 (Flo.sideF d)) ∧ w=w':=by
 obtain ⟨q,hq⟩:∃ q:Int,wrap64 (2 ^ d)=q:=⟨_,rfl⟩
 have hz:∀ w,(binOp .quo 63 (.float .f32 1065353216) (.float .f32 (floatOfInt .f32 q))).run Vp.prog w=.ok (.float .f32 (Flo.sideF d)) w:=fun w =>
   run_float_arith w _ _ _ _ _ _ (by rw [← hq]; exact side_bits d hd)
 generalize Flo.sideF d=r at *
 go_enter Vp.func63,Tryz.ntmps63
 go_wp2
 go_ret
 exact ⟨rfl,rfl⟩
set_option maxHeartbeats 400000 in
theorem sideOf_is (d:Nat) (hd:d ≤ 11) (w:World):Calls Vp.prog 59 #[.int .i64 d] w fun e w' => e=.returned (.float .f32 (Flo.sideF d)) ∧ w=w':=by
 obtain ⟨q,hq⟩:∃ q:Int,wrap64 (2 ^ d)=q:=⟨_,rfl⟩
 have hz:∀ w,(binOp .quo 63 (.float .f32 1065353216) (.float .f32 (floatOfInt .f32 q))).run Vp.prog w=.ok (.float .f32 (Flo.sideF d)) w:=fun w =>
   run_float_arith w _ _ _ _ _ _ (by rw [← hq]; exact side_bits d hd)
 generalize Flo.sideF d=r at *
 go_enter Vp.func59,Tryz.ntmps59
 go_wp2
 go_ret
 exact ⟨rfl,rfl⟩
end Go.Proofs.YtokbalggdhippaaGreat
end

section
namespace Go.Proofs.YtokbalggdhippaaGreat
open Go.RowKit
theorem wrap_pow (d:Nat) (h:d ≤ 11):wrap64 (2 ^ d)=((2 ^ d:Nat):Int):=by
 rcases (by omega:d=0 ∨ d=1 ∨ d=2 ∨ d=3 ∨ d=4 ∨ d=5 ∨ d=6 ∨ d=7 ∨ d=8 ∨ d=9 ∨ d=10 ∨ d=11) with rfl | rfl | rfl | rfl | rfl | rfl | rfl | rfl | rfl | rfl | rfl | rfl <;> kernel_rfl
set_option maxRecDepth 100000 in
set_option maxHeartbeats 1000000 in
theorem l7Whole_is (x d:Nat) (hx:x < 4294967296) (hd:d ≤ 11) (w:World):Calls Vp.prog 77 #[.float .f32 x,.int .i64 d] w fun e w' => e=.returned (.bool (Flo.wholeB x d)) ∧ Drw w w':=by
 have hdp:2 ^ d ≤ 2 ^ 11:=Nat.pow_le_pow_right (by omega) hd
 obtain ⟨q,hq⟩:∃ q:Int,wrap64 (2 ^ d)=q:=⟨_,rfl⟩
 have hqd:((2 ^ d:Nat):Int)=q:=by rw [← hq,wrap_pow d hd]
 cases h4:Flo.inFour x with
 | false =>
   have hw:Flo.wholeB x d=false:=by unfold Flo.wholeB; rw [h4]; rfl
   rw [hw]
   obtain ⟨y,w1,h1,_,d1⟩:=Flo.arith_any (P:=Vp.prog) .mul (by simp) 63 .f32 x (floatOfInt .f32 q) w
   have HD:=Lib.hid d1
   unfold Flo.inFour at h4
   clear d1 hqd hdp hw
   cases b1:(FloatKind.f32.format.order x 3229614080 == some .gt || FloatKind.f32.format.order x 3229614080 == some .eq) with
   | false =>
     clear h4
     go_enter Vp.func77,Tryz.ntmps77
     go_wp2
     go_ret
     exact ⟨rfl,HD.out⟩
   | true =>
     rw [b1,Bool.true_and] at h4
     go_enter Vp.func77,Tryz.ntmps77
     go_wp2
     go_ret
     exact ⟨rfl,HD.out⟩
 | true =>
   obtain ⟨y,n,h1,h2,-,-,h3⟩:=Flo.whole_steps hx hd h4
   have hw:Flo.wholeB x d=(FloatKind.f32.format.order (floatOfInt .f32 n) y == some .eq):=by unfold Flo.wholeB; rw [h4,h3]; rfl
   rw [hw]
   rw [hqd] at h1
   have g1:∀ w,(binOp .mul 63 (.float .f32 x) (.float .f32 (floatOfInt .f32 q))).run Vp.prog w=.ok (.float .f32 y) w:=fun w => run_float_arith w .mul _ .f32 _ _ _ h1
   have g2:∀ w,(convert 63 3 (.float .f32 y)).run Vp.prog w=.ok (.int .i64 n) w:=fun w => run_convert_float_int w _ _ .f32 .i64 _ _ (by kernel_rfl) (Vp.und Tryz.underlying3) h2
   unfold Flo.inFour at h4
   rw [Bool.and_eq_true] at h4
   obtain ⟨b1,b2⟩:=h4
   clear h1 h2 h3 hw hqd hdp
   cases b3:(FloatKind.f32.format.order (floatOfInt .f32 n) y == some .eq) with
   | false =>
     go_enter Vp.func77,Tryz.ntmps77
     go_wp2
     go_ret
     exact ⟨rfl,Drw.refl _⟩
   | true =>
     go_enter Vp.func77,Tryz.ntmps77
     go_wp2
     go_ret
     exact ⟨rfl,Drw.refl _⟩
def placeB (cx cy:Nat) (deep size:Int):Bool:=inB deep 0 10 && inB size 1 8 && Flo.wholeB cx deep.toNat && Flo.wholeB cy deep.toNat
theorem placeB_bd {cx cy:Nat} {deep size:Int} (h:placeB cx cy deep size=true):0 ≤ deep ∧ deep ≤ 10 ∧ 1 ≤ size ∧ size ≤ 8:=by
 unfold placeB inB at h
 simp only [Bool.and_eq_true,decide_eq_true_eq] at h
 omega
set_option maxHeartbeats 1000000 in
theorem l7Place_is (cx cy:Nat) (deep size:Int) (hx:cx < 4294967296) (hy:cy < 4294967296) (w:World):Calls Vp.prog 51 #[.complex .f32 cx cy,.int .i64 deep,.int .i64 size] w fun e w' => e=.returned (.bool (placeB cx cy deep size)) ∧ Drw w w':=by
 unfold placeB
 cases h1:inB deep 0 10 with
 | false =>
   go_enter Vp.func51,Tryz.ntmps51
   go_wp2_with (go_at_call 44; refine (l6In_any _ _ _ _).mono ?_; rintro e w' ⟨rfl,rfl⟩)
   go_ret
   exact ⟨rfl,Drw.refl _⟩
 | true =>
   cases h2:inB size 1 8 with
   | false =>
     go_enter Vp.func51,Tryz.ntmps51
     go_wp2_with (go_at_call 44; refine (l6In_any _ _ _ _).mono ?_; rintro e w' ⟨rfl,rfl⟩)
     go_ret
     exact ⟨rfl,Drw.refl _⟩
   | true =>
     obtain ⟨d,rfl,hd⟩:∃ d:Nat,deep=d ∧ d ≤ 11:=by
       unfold inB at h1
       simp only [Bool.and_eq_true,decide_eq_true_eq] at h1
       exact ⟨deep.toNat,by omega,by omega⟩
     rw [Int.toNat_natCast]
     have HX:=Lib.hid (fun w => l7Whole_is cx d hx hd w)
     have HY:=Lib.hid (fun w => l7Whole_is cy d hy hd w)
     cases h3:Flo.wholeB cx d with
     | false =>
       rw [h3] at HX
       go_enter Vp.func51,Tryz.ntmps51
       go_wp2_with (first | (go_at_call 44; refine (l6In_any _ _ _ _).mono ?_; rintro e w' ⟨rfl,rfl⟩) | (go_at_call 77; refine (HX.out _).mono ?_; rintro e w1 ⟨rfl,d1⟩; have H1:=Lib.hid d1; clear d1))
       go_ret
       exact ⟨rfl,H1.out⟩
     | true =>
       rw [h3] at HX
       cases h4:Flo.wholeB cy d with
       | false =>
         rw [h4] at HY
         go_enter Vp.func51,Tryz.ntmps51
         go_wp2_with (first | (go_at_call 44; refine (l6In_any _ _ _ _).mono ?_; rintro e w' ⟨rfl,rfl⟩) | (go_at_call 77; refine (HX.out _).mono ?_; rintro e w1 ⟨rfl,d1⟩; have H1:=Lib.hid d1; clear d1 HX) | (go_at_call 77; refine (HY.out _).mono ?_; rintro e w2 ⟨rfl,d1⟩; have H2:=Lib.hid (H1.out.trans d1); clear d1))
         go_ret
         exact ⟨rfl,H2.out⟩
       | true =>
         rw [h4] at HY
         go_enter Vp.func51,Tryz.ntmps51
         go_wp2_with (first | (go_at_call 44; refine (l6In_any _ _ _ _).mono ?_; rintro e w' ⟨rfl,rfl⟩) | (go_at_call 77; refine (HX.out _).mono ?_; rintro e w1 ⟨rfl,d1⟩; have H1:=Lib.hid d1; clear d1 HX) | (go_at_call 77; refine (HY.out _).mono ?_; rintro e w2 ⟨rfl,d1⟩; have H2:=Lib.hid (H1.out.trans d1); clear d1))
         go_ret
         exact ⟨rfl,H2.out⟩
end Go.Proofs.YtokbalggdhippaaGreat
end

section
namespace Go.Proofs.YtokbalggdhippaaGreat
open Go.RowKit
theorem run_convert_nan64 (src dst:TypeId) (hs:(Vp.prog.underlying src).isSome=true) (hd:Vp.prog.underlying dst=some (.float .f64)) {b:Nat} (h:Flo.nan .f32 b=true) (w:World) :
   ∃ y,(convert src dst (.float .f32 b)).run Vp.prog w=.ok (.float .f64 y) w.drew ∧ Flo.nan .f64 y=true :=
 ⟨_,Flo.run_convert_nan src dst .f32 .f64 b (by decide) hs hd h w,Flo.nanC_nan _ _ _⟩
set_option maxHeartbeats 400000 in
theorem alikeFloat_refl (a:Nat) (h:Flo.nan .f64 a=false) (w:World) :
   Calls Vp.prog 57 #[.float .f64 a,.float .f64 a] w fun e w' => e=.returned (.bool true) ∧ w=w':=by
 obtain ⟨r,hr,hr2⟩:=Flo.quo_number Flo.one64 h
 have hs:(FloatKind.f64.format.order a a == some .eq)=true:=by rw [Flo.order_self h]; rfl
 have hs':(FloatKind.f64.format.order a a != some .eq)=false:=by rw [Flo.order_self h]; rfl
 have hq:=fun w => run_float_arith (P:=Vp.prog) w .quo 109 .f64 _ _ _ hr
 have hz:(FloatKind.f64.format.order r r == some .eq)=true:=by rw [Flo.order_self hr2]; rfl
 clear h hr hr2
 go_enter Vp.func57,Tryz.ntmps57
 go_wp2
 go_ret
 exact ⟨rfl,rfl⟩
set_option maxHeartbeats 400000 in
theorem sameSmall_refl (x:Nat) (hx:x < 4294967296) (h:Flo.nan .f32 x=false) (w:World) :
   Calls Vp.prog 31 #[.float .f32 x,.float .f32 x] w fun e w' => e=.returned (.bool true) ∧ w=w':=by
 obtain ⟨y,hy,hy2⟩:=Flo.widen_any (by rw [Flo.pow32]; exact hx) h
 have hc:=fun w => run_convert_float_float (P:=Vp.prog) w 63 109 .f32 .f64 x y (by kernel_rfl) (Vp.und Tryz.underlying109) hy
 have H:=Lib.hid (alikeFloat_refl y hy2)
 clear hy hy2 h
 go_enter Vp.func31,Tryz.ntmps31
 go_wp2_with (go_at_call 57; refine (H.out _).mono ?_; rintro e w' ⟨rfl,rfl⟩)
 go_ret
 exact ⟨rfl,rfl⟩
set_option maxHeartbeats 400000 in
theorem alikeFloat_nan (a b:Nat) (ha:Flo.nan .f64 a=true) (hb:Flo.nan .f64 b=true) (w:World) :
   Calls Vp.prog 57 #[.float .f64 a,.float .f64 b] w fun e w' => e=.returned (.bool true) ∧ w=w':=by
 have h1:(FloatKind.f64.format.order a a != some .eq)=true:=by rw [Flo.order_nan_left a ha]; rfl
 have h2:(FloatKind.f64.format.order b b != some .eq)=true:=by rw [Flo.order_nan_left b hb]; rfl
 clear ha hb
 go_enter Vp.func57,Tryz.ntmps57
 go_wp2
 go_ret
 exact ⟨rfl,rfl⟩
set_option maxHeartbeats 400000 in
theorem sameSmall_self (x:Nat) (hx:x < 4294967296) (w:World) :
   Calls Vp.prog 31 #[.float .f32 x,.float .f32 x] w fun e w' => e=.returned (.bool true) ∧ Drw w w':=by
 by_cases h:Flo.nan .f32 x=true
 · have h1:=run_convert_nan64 63 109 (by kernel_rfl) (Vp.und Tryz.underlying109) h w
   have h2:=run_convert_nan64 63 109 (by kernel_rfl) (Vp.und Tryz.underlying109) h w.drew
   obtain ⟨y,hy,hyn⟩:=h1
   obtain ⟨z,hz,hzn⟩:=h2
   have H:=Lib.hid (alikeFloat_nan y z hyn hzn)
   clear hyn hzn h
   go_enter Vp.func31,Tryz.ntmps31
   go_wp2_with (go_at_call 57; refine (H.out _).mono ?_; rintro e w' ⟨rfl,rfl⟩)
   go_ret
   exact ⟨rfl,(Drw.refl w).drew.drew⟩
 · exact (sameSmall_refl x hx (by simpa using h) w).mono fun e w' h => ⟨h.1,Drw.of_eq h.2⟩
end Go.Proofs.YtokbalggdhippaaGreat
end

section
namespace Go.Proofs.YtokbalggdhippaaGreat
open Go.RowKit
theorem run_store_float (P:Program) (w:World) (a:Addr) (m:Mode) (k:FloatKind) (b:Nat):(store a (.float k b) m).run P w=stored P w a (.float k b) m:=run_store P w a _ m rfl
theorem run_store_complex (P:Program) (w:World) (a:Addr) (m:Mode) (k:FloatKind) (x y:Nat):(store a (.complex k x y) m).run P w=stored P w a (.complex k x y) m:=run_store P w a _ m rfl
attribute [local go_sem] run_store_float run_store_complex
end Go.Proofs.YtokbalggdhippaaGreat
end

section
namespace Go.Proofs.YtokbalggdhippaaGreat
open Go.RowKit
def floV (x:Nat):Value:=.float .f32 x
def intV (x:Int):Value:=.int .i64 x
def tileV (cx cy:Nat) (deep size:Int) (sm mk:Value):Value:=.agg #[.complex .f32 cx cy,.int .i64 deep,.int .i64 size,sm,mk]
def tileC (cx cy:Nat) (deep size:Int) (sm mk:Value):Array Value:=#[.complex .f32 cx cy,.int .i64 deep,.int .i64 size,sm,mk]
theorem infoF:(Vp.prog.info? 63).map (fun i => (i.zero,i.size,i.bytes))=some (some (.float .f32 0),1,4):=by kernel_rfl
theorem infoI:(Vp.prog.info? 3).map (fun i => (i.zero,i.size,i.bytes))=some (some (.int .i64 0),1,8):=by kernel_rfl
theorem ownsRow_ne {w:World} {base:Nat} {e:TypeId} {size:Nat} {v:Value} {n:Nat} {xs:List Value} (h:w.ownsRow base e size v n xs) {b:Nat} {C:Array Value} {T:TypeId} (hb:w.heap[b]?=some (.cells C T (0,0))) (hne:e ≠ T):v.ownBlock ≠ some b:=by
 rcases h.2 with ⟨rfl,_⟩ | ⟨g,cap,cur,rfl,_,hg,_⟩
 · simp [Value.ownBlock]
 · intro he
   simp [Value.ownBlock] at he
   subst he
   rw [hg] at hb
   injection hb with hb
   injection hb with _ hb _
   exact hne hb
theorem ownsRow_apart {w:World} {base base':Nat} {e e':TypeId} {size size':Nat} {v v':Value} {n n':Nat} {xs xs':List Value} (h:w.ownsRow base e size v n xs) (h':w.ownsRow base' e' size' v' n' xs') (hne:e ≠ e'):v.ownBlock=none ∨ v.ownBlock ≠ v'.ownBlock:=by
 rcases h'.2 with ⟨rfl,_⟩ | ⟨g,cap,cur,rfl,_,hg,_⟩
 · cases hv:v.ownBlock
   · exact .inl rfl
   · exact .inr (by simp [Value.ownBlock])
 · exact .inr (ownsRow_ne h hg hne)
theorem ownsRow_step {w w':World} {base:Nat} {e:TypeId} {size:Nat} {v:Value} {n:Nat} {xs:List Value} (h:w.ownsRow base e size v n xs) (k:Below w.heap.size w w'):w'.ownsRow base e size v n xs :=
 h.kept ⟨k.os,k.tape,k.output,k.size,fun i hi _ => k.block i hi⟩ (row:=none) (by cases hv:v.ownBlock <;> simp)
theorem Box.grown {w0 W W':World} {b:Nat} {C:Array Value} {T:TypeId} (h:Box w0 b C T W) {row:Option Nat} (hg:W.grownBy W' row) (hne:row ≠ some b) (hrow:∀ k,row=some k → w0.heap.size ≤ k):Box w0 b C T W' :=
 ⟨(hg.block b h.lt (fun e => hne e.symm)).trans h.blk,h.old.grown hg h.old.size hrow⟩
structure TM (w:World) (rb ob:Nat) (cx cy:Nat) (deep size:Int) (n m:Nat) (xs:List Nat) (ys:List Int) (smv mkv:Value) (W:World):Prop where
 O:Box w ob (tileC cx cy deep size smv mkv) 29 W
 R:Box w rb (tileC 0 0 0 0 (.slice none 0 0) (.slice none 0 0)) 29 W
 S:W.ownsRow w.heap.size 63 1 smv n (xs.map floV)
 M:W.ownsRow w.heap.size 3 1 mkv m (ys.map intV)
 hx:∀ x,x ∈ xs → x < 4294967296
 hy:∀ y,y ∈ ys → -1 ≤ y ∧ y ≤ 1
 ne:rb ≠ ob
 hr:w.heap.size ≤ rb
 ho:w.heap.size ≤ ob
theorem TM.step {w:World} {rb ob cx cy n m:Nat} {deep size:Int} {xs:List Nat} {ys:List Int} {smv mkv:Value} {W W':World} (h:TM w rb ob cx cy deep size n m xs ys smv mkv W) (k:Below W.heap.size W W'):TM w rb ob cx cy deep size n m xs ys smv mkv W' :=
 ⟨h.O.step k,h.R.step k,ownsRow_step h.S k,ownsRow_step h.M k,h.hx,h.hy,h.ne,h.hr,h.ho⟩
theorem TM.alloc {w:World} {rb ob cx cy n m:Nat} {deep size:Int} {xs:List Nat} {ys:List Int} {smv mkv:Value} {W:World} (h:TM w rb ob cx cy deep size n m xs ys smv mkv W) (o:Obj):TM w rb ob cx cy deep size n m xs ys smv mkv (W.alloc o) :=
 h.step ((Below.refl _ _).alloc (Nat.le_refl _) o)
theorem TM.drw {w:World} {rb ob cx cy n m:Nat} {deep size:Int} {xs:List Nat} {ys:List Int} {smv mkv:Value} {W W':World} (h:TM w rb ob cx cy deep size n m xs ys smv mkv W) (k:Drw W W'):TM w rb ob cx cy deep size n m xs ys smv mkv W':=h.step (k.below _)
theorem TM.old {w:World} {rb ob cx cy n m:Nat} {deep size:Int} {xs:List Nat} {ys:List Int} {smv mkv:Value} {W:World} (h:TM w rb ob cx cy deep size n m xs ys smv mkv W):Below w.heap.size w W:=h.O.old
theorem ownsRow_set {w:World} {base:Nat} {e:TypeId} {size:Nat} {v:Value} {n:Nat} {xs:List Value} (h:w.ownsRow base e size v n xs) {b j:Nat} {C:Array Value} {T:TypeId} (hb:w.heap[b]?=some (.cells C T (0,0))) (hne:e ≠ T) (u:Value):(w.setCell ⟨b,j,none⟩ u).ownsRow base e size v n xs :=
 ownsRow_setCell_other h (ownsRow_ne h hb hne) u
theorem Box.cells5 {w0 W:World} {b:Nat} {v0 v1 v2 v3 v4:Value} {T:TypeId} (h:Box w0 b #[v0,v1,v2,v3,v4] T W) :
   W.cell? ⟨b,0,none⟩=some v0 ∧ W.cell? ⟨b,1,none⟩=some v1 ∧ W.cell? ⟨b,2,none⟩=some v2 ∧ W.cell? ⟨b,3,none⟩=some v3 ∧ W.cell? ⟨b,4,none⟩=some v4 :=
 ⟨h.cell 0 _ rfl,h.cell 1 _ rfl,h.cell 2 _ rfl,h.cell 3 _ rfl,h.cell 4 _ rfl⟩
theorem Box.free5 {w0 W:World} {b:Nat} {C:Array Value} {T:TypeId} (h:Box w0 b C T W) :
   W.frozen? ⟨b,0,none⟩=false ∧ W.frozen? ⟨b,1,none⟩=false ∧ W.frozen? ⟨b,2,none⟩=false ∧ W.frozen? ⟨b,3,none⟩=false ∧ W.frozen? ⟨b,4,none⟩=false :=
 ⟨h.frozen 0,h.frozen 1,h.frozen 2,h.frozen 3,h.frozen 4⟩
theorem TM.oc {w:World} {rb ob cx cy n m:Nat} {deep size:Int} {xs:List Nat} {ys:List Int} {smv mkv:Value} {W:World} (h:TM w rb ob cx cy deep size n m xs ys smv mkv W) :
   W.cell? ⟨ob,0,none⟩=some (.complex .f32 cx cy) ∧ W.cell? ⟨ob,1,none⟩=some (.int .i64 deep) ∧ W.cell? ⟨ob,2,none⟩=some (.int .i64 size) ∧ W.cell? ⟨ob,3,none⟩=some smv ∧ W.cell? ⟨ob,4,none⟩=some mkv:=h.O.cells5
theorem TM.rc {w:World} {rb ob cx cy n m:Nat} {deep size:Int} {xs:List Nat} {ys:List Int} {smv mkv:Value} {W:World} (h:TM w rb ob cx cy deep size n m xs ys smv mkv W) :
   W.cell? ⟨rb,0,none⟩=some (.complex .f32 0 0) ∧ W.cell? ⟨rb,1,none⟩=some (.int .i64 0) ∧ W.cell? ⟨rb,2,none⟩=some (.int .i64 0) ∧ W.cell? ⟨rb,3,none⟩=some (.slice none 0 0) ∧ W.cell? ⟨rb,4,none⟩=some (.slice none 0 0):=h.R.cells5
theorem TM.smooth {w:World} {rb ob cx cy n m:Nat} {deep size:Int} {xs:List Nat} {ys:List Int} {smv mkv v':Value} {W W':World} (h:TM w rb ob cx cy deep size n m xs ys smv mkv W) {z:Nat} (hz:z < 4294967296) (hown:W'.ownsRow w.heap.size 63 1 v' (n + 1) (xs.map floV ++ [floV z])) (hg:W.grownBy W' smv.ownBlock) :
   TM w rb ob cx cy deep size (n + 1) m (xs ++ [z]) ys v' mkv (W'.setCell ⟨ob,3,none⟩ v') ∧ W'.cell? ⟨ob,3,none⟩=some smv ∧ W'.frozen? ⟨ob,3,none⟩=false:=by
 have hrow:∀ k,smv.ownBlock=some k → w.heap.size ≤ k:=fun k hk => (h.S.lt k hk).1
 have O:=h.O.grown hg (ownsRow_ne h.S h.O.blk (by decide)) hrow
 have R:=h.R.grown hg (ownsRow_ne h.S h.R.blk (by decide)) hrow
 have M:=h.M.kept hg (ownsRow_apart h.M h.S (by decide))
 refine ⟨⟨?_,R.other (p:=⟨ob,3,none⟩) h.ho h.ne _,?_,ownsRow_set M O.blk (by decide) _,?_,h.hy,h.ne,h.hr,h.ho⟩,O.cell 3 _ rfl,O.frozen 3⟩
 · have:=O.set h.ho 3 v'
   exact this
 · rw [List.map_append]
   exact ownsRow_set hown O.blk (by decide) _
 · intro x hx
   rcases List.mem_append.1 hx with hx | hx
   · exact h.hx x hx
   · rw [List.mem_singleton] at hx; rw [hx]; exact hz
theorem TM.mark {w:World} {rb ob cx cy n m:Nat} {deep size:Int} {xs:List Nat} {ys:List Int} {smv mkv v':Value} {W W':World} (h:TM w rb ob cx cy deep size n m xs ys smv mkv W) {z:Int} (hz:-1 ≤ z ∧ z ≤ 1) (hown:W'.ownsRow w.heap.size 3 1 v' (m + 1) (ys.map intV ++ [intV z])) (hg:W.grownBy W' mkv.ownBlock) :
   TM w rb ob cx cy deep size n (m + 1) xs (ys ++ [z]) smv v' (W'.setCell ⟨ob,4,none⟩ v') ∧ W'.cell? ⟨ob,4,none⟩=some mkv ∧ W'.frozen? ⟨ob,4,none⟩=false:=by
 have hrow:∀ k,mkv.ownBlock=some k → w.heap.size ≤ k:=fun k hk => (h.M.lt k hk).1
 have O:=h.O.grown hg (ownsRow_ne h.M h.O.blk (by decide)) hrow
 have R:=h.R.grown hg (ownsRow_ne h.M h.R.blk (by decide)) hrow
 have S:=h.S.kept hg (ownsRow_apart h.S h.M (by decide))
 refine ⟨⟨?_,R.other (p:=⟨ob,4,none⟩) h.ho h.ne _,ownsRow_set S O.blk (by decide) _,?_,h.hx,?_,h.ne,h.hr,h.ho⟩,O.cell 4 _ rfl,O.frozen 4⟩
 · have:=O.set h.ho 4 v'
   exact this
 · rw [List.map_append]
   exact ownsRow_set hown O.blk (by decide) _
 · intro y hy
   rcases List.mem_append.1 hy with hy | hy
   · exact h.hy y hy
   · rw [List.mem_singleton] at hy; rw [hy]; exact hz
theorem TM.start {w W:World} {rb:Nat} (cx cy:Nat) (deep size:Int) (R:Box w rb (tileC 0 0 0 0 (.slice none 0 0) (.slice none 0 0)) 29 W) (hr:w.heap.size ≤ rb) :
   TM w rb (W.heap.size + 1 + 1) cx cy deep size 0 0 [] [] (.slice (some ⟨W.heap.size,0,none⟩) 0 0) (.slice (some ⟨W.heap.size + 1,0,none⟩) 0 0) (((W.alloc (.cells #[] 63)).alloc (.cells #[] 3)).alloc (.cells (tileC cx cy deep size (.slice (some ⟨W.heap.size,0,none⟩) 0 0) (.slice (some ⟨W.heap.size + 1,0,none⟩) 0 0)) 29)):=by
 have hs:=R.old.size
 have hlt:=R.lt
 refine ⟨?_,((R.alloc _).alloc _).alloc _,?_,?_,(fun x hx => by cases hx),(fun x hx => by cases hx),by omega,hr,by omega⟩
 · have:=(Box.new ((W.alloc (.cells #[] 63)).alloc (.cells #[] 3)) (tileC cx cy deep size (.slice (some ⟨W.heap.size,0,none⟩) 0 0) (.slice (some ⟨W.heap.size + 1,0,none⟩) 0 0)) 29).up (w0:=w) ((R.alloc _).alloc _).old
   simpa only [World.size_alloc] using this
 · have:=World.ownsRow_lit (e:=63) (size:=1) (base:=w.heap.size) W #[] 0 hs (by decide) rfl
   exact (this.alloc _).alloc _
 · have:=World.ownsRow_lit (e:=3) (size:=1) (base:=w.heap.size) (W.alloc (.cells #[] 63)) #[] 0 (by simp; omega) (by decide) rfl
   rw [World.size_alloc] at this
   exact this.alloc _
structure Made (B n:Nat) (xs:List Nat) (ys:List Int) (smv mkv:Value) (W:World):Prop where
 S:W.ownsRow B 63 1 smv n (xs.map floV)
 M:W.ownsRow B 3 1 mkv n (ys.map intV)
 lx:xs.length=n
 ly:ys.length=n
 hx:∀ x,x ∈ xs → x < 4294967296
 hy:∀ y,y ∈ ys → -1 ≤ y ∧ y ≤ 1
theorem Made.set {B n:Nat} {xs:List Nat} {ys:List Int} {smv mkv:Value} {W:World} (h:Made B n xs ys smv mkv W) {b:Nat} {C:Array Value} (hb:W.heap[b]?=some (.cells C 29 (0,0))) (j:Nat) (u:Value):Made B n xs ys smv mkv (W.setCell ⟨b,j,none⟩ u) :=
 ⟨ownsRow_set h.S hb (by decide) u,ownsRow_set h.M hb (by decide) u,h.lx,h.ly,h.hx,h.hy⟩
theorem TM.made {w:World} {rb ob cx cy n:Nat} {deep size:Int} {s:Nat} {xs:List Nat} {ys:List Int} {smv mkv:Value} {W:World} (h:TM w rb ob cx cy deep size n n xs ys smv mkv W) (hn:n=s * s) (u0 u1 u2 u3 u4:Value) :
   Made w.heap.size ((s:Int).toNat * (s:Int).toNat) xs ys smv mkv (((((W.setCell ⟨rb,0,none⟩ u0).setCell ⟨rb,1,none⟩ u1).setCell ⟨rb,2,none⟩ u2).setCell ⟨rb,3,none⟩ u3).setCell ⟨rb,4,none⟩ u4):=by
 have lx:xs.length=n:=by have:=h.S.1; simpa using this
 have ly:ys.length=n:=by have:=h.M.1; simpa using this
 have m0:Made w.heap.size n xs ys smv mkv W:=⟨h.S,h.M,lx,ly,h.hx,h.hy⟩
 have b0:=h.R
 have b1:=b0.set h.hr 0 u0
 have b2:=b1.set h.hr 1 u1
 have b3:=b2.set h.hr 2 u2
 have b4:=b3.set h.hr 3 u3
 rw [Int.toNat_natCast,← hn]
 exact ((((m0.set b0.blk 0 u0).set b1.blk 1 u1).set b2.blk 2 u2).set b3.blk 3 u3).set b4.blk 4 u4
theorem Made.step {B n:Nat} {xs:List Nat} {ys:List Int} {smv mkv:Value} {W W':World} (h:Made B n xs ys smv mkv W) (k:Below W.heap.size W W'):Made B n xs ys smv mkv W' :=
 ⟨ownsRow_step h.S k,ownsRow_step h.M k,h.lx,h.ly,h.hx,h.hy⟩
theorem Made.mono {B B' n:Nat} {xs:List Nat} {ys:List Int} {smv mkv:Value} {W:World} (h:Made B n xs ys smv mkv W) (hB:B' ≤ B):Made B' n xs ys smv mkv W:=by
 obtain ⟨⟨s1,s2⟩,⟨m1,m2⟩,r1,r2,r3,r4⟩:=h
 refine ⟨⟨s1,?_⟩,⟨m1,?_⟩,r1,r2,r3,r4⟩
 · rcases s2 with h | ⟨g,cap,cur,h1,h2,r⟩
   · exact .inl h
   · exact .inr ⟨g,cap,cur,h1,Nat.le_trans hB h2,r⟩
 · rcases m2 with h | ⟨g,cap,cur,h1,h2,r⟩
   · exact .inl h
   · exact .inr ⟨g,cap,cur,h1,Nat.le_trans hB h2,r⟩
def TileRet (w:World) (cx cy:Nat) (deep size:Int) (good:Prop) (e:Ending) (w':World):Prop :=
 Below w.heap.size w w' ∧ ((¬ good ∧ e=.returned (.tuple #[tileV 0 0 0 0 (.slice none 0 0) (.slice none 0 0),.bool false])) ∨
   (placeB cx cy deep size=true ∧ ∃ xs ys smv mkv,e=.returned (.tuple #[tileV cx cy deep size smv mkv,.bool true]) ∧ Made w.heap.size (size.toNat * size.toNat) xs ys smv mkv w'))
theorem set5 {w W:World} (h:Below w.heap.size w W) {b:Nat} (hb:w.heap.size ≤ b) (u0 u1 u2 u3 u4:Value) :
   Below w.heap.size w (((((W.setCell ⟨b,0,none⟩ u0).setCell ⟨b,1,none⟩ u1).setCell ⟨b,2,none⟩ u2).setCell ⟨b,3,none⟩ u3).setCell ⟨b,4,none⟩ u4) :=
 ((((h.setCell (p:=⟨b,0,none⟩) hb _).setCell (p:=⟨b,1,none⟩) hb _).setCell (p:=⟨b,2,none⟩) hb _).setCell (p:=⟨b,3,none⟩) hb _).setCell (p:=⟨b,4,none⟩) hb _
theorem TileRet.no {w:World} {cx cy:Nat} {deep size:Int} {good:Prop} {w':World} (hb:Below w.heap.size w w') (hg:¬ good):TileRet w cx cy deep size good (.returned (.tuple #[.agg #[.complex .f32 0 0,.int .i64 0,.int .i64 0,.slice none 0 0,.slice none 0 0],.bool false])) w' :=
 ⟨hb,.inl ⟨hg,rfl⟩⟩
theorem TileRet.yes {w:World} {cx cy:Nat} {deep size:Int} {good:Prop} {w':World} {xs:List Nat} {ys:List Int} {smv mkv:Value} (hb:Below w.heap.size w w') (hp:placeB cx cy deep size=true) (hm:Made w.heap.size (size.toNat * size.toNat) xs ys smv mkv w') :
   TileRet w cx cy deep size good (.returned (.tuple #[.agg #[.complex .f32 cx cy,.int .i64 deep,.int .i64 size,smv,mkv],.bool true])) w' :=
 ⟨hb,.inr ⟨hp,xs,ys,smv,mkv,rfl,hm⟩⟩
end Go.Proofs.YtokbalggdhippaaGreat
end

section
namespace Go.Proofs.YtokbalggdhippaaGreat
open Go.RowKit
attribute [local go_sem ↓] Go.wp_at_zero Go.wp_at_succ
set_option maxHeartbeats 400000 in
theorem l7Point_is (cx cy d:Nat) (i j:Int) (hd:d ≤ 11) {p q x y:Nat} (h1:floatBits .mul .f32 (floatOfInt .f32 j) (Flo.sideF d)=some p) (h2:floatBits .mul .f32 (floatOfInt .f32 i) (Flo.sideF d)=some q)
   (h3:floatBits .add .f32 cx p=some x) (h4:floatBits .add .f32 cy q=some y) (w:World) :
   Calls Vp.prog 55 #[.complex .f32 cx cy,.int .i64 d,.int .i64 i,.int .i64 j] w fun e w' => e=.returned (.complex .f32 x y) ∧ w=w':=by
 have g1:=fun w => run_float_arith (P:=Vp.prog) w .mul 63 .f32 _ _ _ h1
 have g2:=fun w => run_float_arith (P:=Vp.prog) w .mul 63 .f32 _ _ _ h2
 have g3:=fun w => run_complex_sum (P:=Vp.prog) w .add (.inl rfl) 23 .f32 cx cy p q x y (by unfold cSumBits; rw [h3,h4]; rfl)
 have HS:=Lib.hid (fun w => l7Side_is d hd w)
 clear h1 h2 h3 h4
 generalize Flo.sideF d=r at *
 go_enter Vp.func55,Tryz.ntmps55
 go_wp2_with (go_at_call 63; refine (HS.out _).mono ?_; rintro e w' ⟨rfl,rfl⟩)
 go_ret
 exact ⟨rfl,rfl⟩
set_option maxHeartbeats 400000 in
theorem pointOf_is (cx cy d:Nat) (i j:Int) (hd:d ≤ 11) {p q x y:Nat} (h1:floatBits .mul .f32 (floatOfInt .f32 j) (Flo.sideF d)=some p) (h2:floatBits .mul .f32 (floatOfInt .f32 i) (Flo.sideF d)=some q)
   (h3:floatBits .add .f32 cx p=some x) (h4:floatBits .add .f32 cy q=some y) (w:World) :
   Calls Vp.prog 34 #[.complex .f32 cx cy,.int .i64 d,.int .i64 i,.int .i64 j] w fun e w' => e=.returned (.complex .f32 x y) ∧ w=w':=by
 have g1:=fun w => run_float_arith (P:=Vp.prog) w .mul 63 .f32 _ _ _ h1
 have g2:=fun w => run_float_arith (P:=Vp.prog) w .mul 63 .f32 _ _ _ h2
 have g3:=fun w => run_complex_sum (P:=Vp.prog) w .add (.inl rfl) 23 .f32 cx cy p q x y (by unfold cSumBits; rw [h3,h4]; rfl)
 have HS:=Lib.hid (fun w => sideOf_is d hd w)
 clear h1 h2 h3 h4
 generalize Flo.sideF d=r at *
 go_enter Vp.func34,Tryz.ntmps34
 go_wp2_with (go_at_call 59; refine (HS.out _).mono ?_; rintro e w' ⟨rfl,rfl⟩)
 go_ret
 exact ⟨rfl,rfl⟩
set_option maxRecDepth 100000 in
set_option maxHeartbeats 1000000 in
theorem l4Steps_val (x d:Nat) (n N:Int) (hd:d ≤ 11) (hx:Flo.Pt x d n) (hn:n.natAbs ≤ 65536) (hN:N=n * (2 ^ (24 - d):Nat)) (h1:-134217728 ≤ N) (h2:N ≤ 134217728) (w:World) :
   Calls Vp.prog 98 #[.float .f32 x] w fun e w' => e=.returned (.tuple #[.int .i64 N,.int .i64 N,.bool true]) ∧ w=w':=by
 obtain ⟨y1,y,e1,e2,hv,e3⟩:=Flo.steps_pt hd hx hn
 rw [← hN] at hv e3
 obtain ⟨b1,b2,b3,b4⟩:=Flo.steps_tests (by omega) hv
 rw [decide_eq_true h1] at b1
 rw [decide_eq_true h2] at b2
 have g1:=fun w => run_convert_float_float (P:=Vp.prog) w 63 109 .f32 .f64 _ _ (by kernel_rfl) (Vp.und Tryz.underlying109) e1
 have g2:=fun w => run_float_arith (P:=Vp.prog) w .mul 109 .f64 _ _ _ e2
 have g3:=fun w => run_convert_float_int (P:=Vp.prog) w 109 3 .f64 .i64 _ _ (by kernel_rfl) (Vp.und Tryz.underlying3) e3
 clear e1 e2 e3 hv hx hn hN h1 h2 hd
 go_enter Vp.func98,Tryz.ntmps98
 go_wp2
 go_ret3
 exact ⟨rfl,rfl⟩
set_option maxHeartbeats 1000000 in
theorem l4Done_val (a b c d:Int) (hv:boxOK a b c d=true) (w:World):Calls Vp.prog 99 #[.agg #[.int .i64 a,.int .i64 b,.int .i64 c,.int .i64 d]] w fun e w' => e=.returned (.tuple #[.agg #[.int .i64 a,.int .i64 b,.int .i64 c,.int .i64 d],.bool true]) ∧ Below w.heap.size w w':=by
 have X0:Box w w.heap.size #[.int .i64 a,.int .i64 b,.int .i64 c,.int .i64 d] 101 ((w.alloc (.cells #[.int .i64 a,.int .i64 b,.int .i64 c,.int .i64 d] 101)).alloc (.cells #[.int .i64 0,.int .i64 0,.int .i64 0,.int .i64 0] 101)):=(Box.new w _ _).alloc _
 have X1:Box w (w.heap.size + 1) #[.int .i64 0,.int .i64 0,.int .i64 0,.int .i64 0] 101 ((w.alloc (.cells #[.int .i64 a,.int .i64 b,.int .i64 c,.int .i64 d] 101)).alloc (.cells #[.int .i64 0,.int .i64 0,.int .i64 0,.int .i64 0] 101)):=by
   have:=(Box.new (w.alloc (.cells #[.int .i64 a,.int .i64 b,.int .i64 c,.int .i64 d] 101)) #[.int .i64 0,.int .i64 0,.int .i64 0,.int .i64 0] 101).up (w0:=w) ((Below.refl _ _).alloc (Nat.le_refl _) _)
   rwa [World.size_alloc] at this
 have HF:Hid (∀ W,Below w.heap.size w W → ∀ u0 u1 u2 u3,Below w.heap.size w ((((W.setCell ⟨w.heap.size + 1,0,none⟩ u0).setCell ⟨w.heap.size + 1,1,none⟩ u1).setCell ⟨w.heap.size + 1,2,none⟩ u2).setCell ⟨w.heap.size + 1,3,none⟩ u3)):=fun W h u0 u1 u2 u3 =>
   (((h.setCell (p:=⟨w.heap.size + 1,0,none⟩) (by simp) _).setCell (p:=⟨w.heap.size + 1,1,none⟩) (by simp) _).setCell (p:=⟨w.heap.size + 1,2,none⟩) (by simp) _).setCell (p:=⟨w.heap.size + 1,3,none⟩) (by simp) _
 go_enter Vp.func99,Tryz.ntmps99
 go_wp2_with fail
 refine (boxValid_any a b c d _).mono ?_
 rw [hv]
 rintro e w1 ⟨rfl,hb⟩
 replace X0:=X0.step hb
 replace X1:=X1.step hb
 clear hb
 have x0:=X0.cell 0 _ rfl
 have x1:=X0.cell 1 _ rfl
 have x2:=X0.cell 2 _ rfl
 have x3:=X0.cell 3 _ rfl
 have c0:=X1.cell 0 _ rfl
 have c1:=X1.cell 1 _ rfl
 have c2:=X1.cell 2 _ rfl
 have c3:=X1.cell 3 _ rfl
 have f0:=X1.frozen 0
 have f1:=X1.frozen 1
 have f2:=X1.frozen 2
 have f3:=X1.frozen 3
 have HB:=Lib.hid X1.old
 clear X0 X1
 go_wp2
 exact bodyPost_ret (v:=.tuple #[.agg #[.int .i64 a,.int .i64 b,.int .i64 c,.int .i64 d],.bool true]) (by simp [results,Tryz.f99,go_sem,c0,c1,c2,c3]) rfl ⟨rfl,HF.out _ HB.out _ _ _ _⟩
set_option maxHeartbeats 1000000 in
theorem boxOf_val (x y d:Nat) (a b A B:Int) (hd:d ≤ 11) (hx:Flo.Pt x d a) (hy:Flo.Pt y d b) (ha:a.natAbs ≤ 65536) (hb:b.natAbs ≤ 65536) (hA:A=a * (2 ^ (24 - d):Nat)) (hB:B=b * (2 ^ (24 - d):Nat))
   (h1:-134217728 ≤ A) (h2:A ≤ 134217728) (h3:-134217728 ≤ B) (h4:B ≤ 134217728) (w:World) :
   Calls Vp.prog 78 #[.complex .f32 x y] w fun e w' => e=.returned (.tuple #[.agg #[.int .i64 A,.int .i64 A,.int .i64 B,.int .i64 B],.bool true]) ∧ Below w.heap.size w w':=by
 have X:=Box.new w #[.int .i64 0,.int .i64 0,.int .i64 0,.int .i64 0] 101
 have HF:Hid (∀ W,Below w.heap.size w W → ∀ u0 u1 u2 u3,Below w.heap.size w ((((W.setCell ⟨w.heap.size,0,none⟩ u0).setCell ⟨w.heap.size,1,none⟩ u1).setCell ⟨w.heap.size,2,none⟩ u2).setCell ⟨w.heap.size,3,none⟩ u3)):=fun W h u0 u1 u2 u3 =>
   (((h.setCell (p:=⟨w.heap.size,0,none⟩) (Nat.le_refl _) _).setCell (p:=⟨w.heap.size,1,none⟩) (Nat.le_refl _) _).setCell (p:=⟨w.heap.size,2,none⟩) (Nat.le_refl _) _).setCell (p:=⟨w.heap.size,3,none⟩) (Nat.le_refl _) _
 have HX:=Lib.hid (fun w => l4Steps_val x d a A hd hx ha hA h1 h2 w)
 have HY:=Lib.hid (fun w => l4Steps_val y d b B hd hy hb hB h3 h4 w)
 have HV:Hid (boxOK A A B B=true):=by
   show boxOK A A B B=true
   unfold boxOK inB
   simp only [Bool.and_eq_true,decide_eq_true_eq]
   omega
 clear hx hy hA hB ha hb
 go_enter Vp.func78,Tryz.ntmps78
 go_wp2_with fail
 refine (HX.out _).mono ?_
 rintro e w1 ⟨rfl,rfl⟩
 go_wp2_with fail
 refine (HY.out _).mono ?_
 rintro e w1 ⟨rfl,rfl⟩
 go_wp2_with fail
 refine (l4Done_val A A B B HV.out _).mono ?_
 rintro e w3 ⟨rfl,hb⟩
 replace X:=X.step hb
 clear hb
 have c0:=X.cell 0 _ rfl
 have c1:=X.cell 1 _ rfl
 have c2:=X.cell 2 _ rfl
 have c3:=X.cell 3 _ rfl
 have f0:=X.frozen 0
 have f1:=X.frozen 1
 have f2:=X.frozen 2
 have f3:=X.frozen 3
 have HB:=Lib.hid X.old
 clear X
 go_wp2
 exact bodyPost_ret (v:=.tuple #[.agg #[.int .i64 A,.int .i64 A,.int .i64 B,.int .i64 B],.bool true]) (by simp [results,Tryz.f78,go_sem,c0,c1,c2,c3]) rfl ⟨rfl,HF.out _ HB.out _ _ _ _⟩
theorem side_steps (d:Nat) (hd:d ≤ 11):(16777216:Int) / 2 ^ d=(2 ^ (24 - d):Nat):=by
 rcases (by omega:d=0 ∨ d=1 ∨ d=2 ∨ d=3 ∨ d=4 ∨ d=5 ∨ d=6 ∨ d=7 ∨ d=8 ∨ d=9 ∨ d=10 ∨ d=11) with rfl | rfl | rfl | rfl | rfl | rfl | rfl | rfl | rfl | rfl | rfl | rfl <;> rfl
end Go.Proofs.YtokbalggdhippaaGreat
end

section
namespace Go.Proofs.YtokbalggdhippaaGreat
open Go.RowKit
def boxV (x y z u:Int):Value:=.agg #[.int .i64 x,.int .i64 y,.int .i64 z,.int .i64 u]
end Go.Proofs.YtokbalggdhippaaGreat
end

section
namespace Go.Proofs.YtokbalggdhippaaGreat
namespace Flo
open Ieee
theorem neg_neg (k:FloatKind) (x:Nat):Op.negFloat k (Op.negFloat k x)=x:=by
 unfold Op.negFloat
 rw [Nat.xor_assoc,Nat.xor_self,Nat.xor_zero]
end Flo
end Go.Proofs.YtokbalggdhippaaGreat
end
