/- Merged texts: FloB, AngP, AngV, Sl, BoxS, TilA, TilD, TilF, Dya. -/
import Derived.Test.YthhfljldbfgpcaaGreatDoorT2
import Derived.WalkKit
import Derived.Test.YthhfljldbfgpcaaGreatDoorT3
import Derived.Test.YthhfljldbfgpcaaGreatDoorRows
import Derived.Test.YthhfljldbfgpcaaGreatDoorT1
import Derived.Laws.MakeOwn
import Derived.Lib.FrozenHead
import Derived.Deep.RegionWith
import Derived.Outline
import Derived.Deep.Cut
set_option linter.all false
section
namespace Go.Proofs.YthhfljldbfgpcaaGreatDoor.Flo
open Go.RowKit
theorem conv_any {P:Program} (s k:FloatKind) (x:Nat) (hx:x < 2 ^ s.format.width) (w:World) :
   ∃ z w',(Conv.floatToFloat s x k).run P w=.ok (.float k z) w' ∧ z < 2 ^ k.format.width ∧ Drw w w':=by
 by_cases hsk:s=k
 · subst hsk
   exact ⟨x,w,by simp [Conv.floatToFloat],hx,Drw.refl w⟩
 · cases hd:s.decode x with
   | nan sg f =>
     refine ⟨(Question.nanConv k x).cut (w.tape w.drawn (Question.nanConv k x)),w.drew,?_,?_,(Drw.refl w).drew⟩
     · simp [Conv.floatToFloat,hsk,hd]
       intro hf; simp [Question.forced] at hf
     · cases k
       · exact cut_conv32 _ _
       · show (_ % 2) * 2 ^ 63 + 0x7ff0000000000000 + 1 + (_ / 2) % (2 ^ 52 - 1) < 2 ^ 64
         omega
   | infinity sg =>
     exact ⟨k.encode (.infinity sg),w,by simp [Conv.floatToFloat,hsk,hd],Ieee.Format.write_lt _ _,Drw.refl w⟩
   | number sg m e =>
     by_cases hi:(k.decode (k.encode (.number sg m e))).isInfinity=true
     · refine ⟨(Question.floatToFloat x).cut (w.tape w.drawn (Question.floatToFloat x)),w.drew,?_,?_,(Drw.refl w).drew⟩
       · simp [Conv.floatToFloat,hsk,hd,hi]
         intro hf; simp [Question.forced] at hf
       · cases k
         · exact Nat.mod_lt _ (by decide)
         · exact Nat.lt_trans (Nat.mod_lt _ (by decide)) (by decide:2 ^ 32 < 2 ^ 64)
     · exact ⟨k.encode (.number sg m e),w,by simp [Conv.floatToFloat,hsk,hd,hi],Ieee.Format.write_lt _ _,Drw.refl w⟩
theorem cconvert_any {P:Program} (src dst:TypeId) (s k:FloatKind) (hs:(P.underlying src).isSome=true) (hd:P.underlying dst=some (.complex k)) (x y:Nat) (hx:x < 2 ^ s.format.width) (hy:y < 2 ^ s.format.width) (w:World) :
   ∃ re im w',(convert src dst (.complex s x y)).run P w=.ok (.complex k re im) w' ∧ re < 2 ^ k.format.width ∧ im < 2 ^ k.format.width ∧ Drw w w':=by
 obtain ⟨u,hs'⟩:=Option.isSome_iff_exists.1 hs
 obtain ⟨z,w1,h1,hz,d1⟩:=conv_any (P:=P) s k x hx w
 obtain ⟨z2,w2,h2,hz2,d2⟩:=conv_any (P:=P) s k y hy w1
 refine ⟨z,z2,w2,?_,hz,hz2,d1.trans d2⟩
 cases u <;> simp [convert,run_underlying hs',run_underlying hd,Conv.complexToComplex,h1,h2]
end Go.Proofs.YthhfljldbfgpcaaGreatDoor.Flo
end

section
namespace Go.Proofs.YthhfljldbfgpcaaGreatDoor
def inB (n lo hi:Int):Bool:=decide (lo ≤ n) && decide (n ≤ hi)
theorem inB_yes {n lo hi:Int} (h1:lo ≤ n) (h2:n ≤ hi):inB n lo hi=true:=by simp [inB,h1,h2]
theorem inB_no {n lo hi:Int} (h:¬ (lo ≤ n ∧ n ≤ hi)):inB n lo hi=false:=by
 cases e:inB n lo hi
 · rfl
 · simp only [inB,Bool.and_eq_true,decide_eq_true_eq] at e; exact absurd e h
end Go.Proofs.YthhfljldbfgpcaaGreatDoor
end

section
namespace Go.Proofs.YthhfljldbfgpcaaGreatDoor
open Go.RowKit
set_option maxHeartbeats 400000 in
theorem l6In_any (n lo hi:Int) (w:World):Calls Vp.prog 51 #[.int .i64 n,.int .i64 lo,.int .i64 hi] w fun e w' => e=.returned (.bool (inB n lo hi)) ∧ w=w':=by
 by_cases h1:lo ≤ n
 · by_cases h2:n ≤ hi
   · rw [inB_yes h1 h2]
     have h2':¬ hi < n:=by omega
     go_enter Vp.func51,Tryz.ntmps51
     go_wp2
     go_ret
     exact ⟨rfl,rfl⟩
   · rw [inB_no (by omega)]
     go_enter Vp.func51,Tryz.ntmps51
     go_wp2
     go_ret
     exact ⟨rfl,rfl⟩
 · rw [inB_no (by omega)]
   go_enter Vp.func51,Tryz.ntmps51
   go_wp2
   go_ret
   exact ⟨rfl,rfl⟩
end Go.Proofs.YthhfljldbfgpcaaGreatDoor
end

section
namespace Go.Proofs.YthhfljldbfgpcaaGreatDoor
open Go.RowKit
def byteV (x:UInt8):Value:=.int .u8 x.toNat
def Sl (W:World) (a:Option Addr) (xs:List Value):Prop:=xs=[] ∨ ∃ b off,a=some ⟨b,off,none⟩ ∧ ∀ i v,xs[i]?=some v → W.cell? ⟨b,off + i,none⟩=some v
theorem Sl.nil (W:World) (a:Option Addr):Sl W a []:=.inl rfl
theorem Sl.step {W W':World} {a:Option Addr} {xs:List Value} (h:Sl W a xs) (k:Below W.heap.size W W'):Sl W' a xs:=by
 rcases h with h | ⟨b,off,ha,h⟩
 · exact .inl h
 · refine .inr ⟨b,off,ha,fun i v hv => ?_⟩
   have h1:=h i v hv
   exact (k.cell (p:=⟨b,off + i,none⟩) (World.block_lt_of_cell? W _ h1)).trans h1
theorem Sl.drw {W W':World} {a:Option Addr} {xs:List Value} (h:Sl W a xs) (k:Drw W W'):Sl W' a xs:=h.step (k.below _)
theorem Sl.alloc {W:World} {a:Option Addr} {xs:List Value} (h:Sl W a xs) (o:Obj):Sl (W.alloc o) a xs:=h.step ((Below.refl _ _).alloc (Nat.le_refl _) _)
theorem Sl.at {W:World} {a:Option Addr} {xs:List Value} {i:Nat} {v:Value} (h:Sl W a xs) (hv:xs[i]?=some v):∃ b off,a=some ⟨b,off,none⟩ ∧ W.cell? ⟨b,off + i,none⟩=some v:=by
 rcases h with h | ⟨b,off,ha,h⟩
 · subst h; simp at hv
 · exact ⟨b,off,ha,h i v hv⟩
theorem Box.set {w0 W:World} {b:Nat} {C:Array Value} {T:TypeId} (h:Box w0 b C T W) (hb:w0.heap.size ≤ b) (j:Nat) (v:Value):Box w0 b (C.setIfInBounds j v) T (W.setCell ⟨b,j,none⟩ v):=by
 refine ⟨?_,h.old.setCell (p:=⟨b,j,none⟩) hb v⟩
 obtain ⟨hlt,he⟩:=Array.getElem?_eq_some_iff.1 h.blk
 show (W.heap.modify b _)[b]?=_
 rw [Array.getElem?_eq_getElem (by rw [Array.size_modify]; exact hlt),Array.getElem_modify_self,he]
 rfl
theorem Box.other {w0 W:World} {b:Nat} {C:Array Value} {T:TypeId} (h:Box w0 b C T W) {p:Addr} (hp:w0.heap.size ≤ p.block) (hne:b ≠ p.block) (v:Value):Box w0 b C T (W.setCell p v) :=
 ⟨(Below.heap_setCell W p v b hne).trans h.blk,h.old.setCell hp v⟩
theorem Box.up {w0 w1 W:World} {b:Nat} {C:Array Value} {T:TypeId} (h:Box w1 b C T W) (k:Below w0.heap.size w0 w1):Box w0 b C T W :=
 ⟨h.blk,k.trans (h.old.mono k.size)⟩
end Go.Proofs.YthhfljldbfgpcaaGreatDoor
end

section
namespace Go.Proofs.YthhfljldbfgpcaaGreatDoor
open Go.RowKit
def boxOK (a b c d:Int):Bool:=inB a (-134217728) b && inB b a 134217728 && inB c (-134217728) d && inB d c 134217728
set_option maxHeartbeats 1000000 in
theorem boxValid_any (a b c d:Int) (w:World):Calls Vp.prog 54 #[.agg #[.int .i64 a,.int .i64 b,.int .i64 c,.int .i64 d]] w fun e w' => e=.returned (.bool (boxOK a b c d)) ∧ Below w.heap.size w w':=by
 have X:=Box.new w #[.int .i64 a,.int .i64 b,.int .i64 c,.int .i64 d] 62
 have x0:=X.cell 0 _ rfl
 have x1:=X.cell 1 _ rfl
 have x2:=X.cell 2 _ rfl
 have x3:=X.cell 3 _ rfl
 have HB:=Lib.hid X.old
 clear X
 unfold boxOK
 cases h1:inB a (-134217728) b with
 | false =>
   go_enter Vp.func54,Tryz.ntmps54
   go_wp2_with (go_at_call 51; refine (l6In_any _ _ _ _).mono ?_; rintro e w' ⟨rfl,rfl⟩)
   go_ret
   exact ⟨rfl,HB.out⟩
 | true =>
   cases h2:inB b a 134217728 with
   | false =>
     go_enter Vp.func54,Tryz.ntmps54
     go_wp2_with (go_at_call 51; refine (l6In_any _ _ _ _).mono ?_; rintro e w' ⟨rfl,rfl⟩)
     go_ret
     exact ⟨rfl,HB.out⟩
   | true =>
     cases h3:inB c (-134217728) d with
     | false =>
       go_enter Vp.func54,Tryz.ntmps54
       go_wp2_with (go_at_call 51; refine (l6In_any _ _ _ _).mono ?_; rintro e w' ⟨rfl,rfl⟩)
       go_ret
       exact ⟨rfl,HB.out⟩
     | true =>
       cases h4:inB d c 134217728 with
       | false =>
         go_enter Vp.func54,Tryz.ntmps54
         go_wp2_with (go_at_call 51; refine (l6In_any _ _ _ _).mono ?_; rintro e w' ⟨rfl,rfl⟩)
         go_ret
         exact ⟨rfl,HB.out⟩
       | true =>
         go_enter Vp.func54,Tryz.ntmps54
         go_wp2_with (go_at_call 51; refine (l6In_any _ _ _ _).mono ?_; rintro e w' ⟨rfl,rfl⟩)
         go_ret
         exact ⟨rfl,HB.out⟩
end Go.Proofs.YthhfljldbfgpcaaGreatDoor
end

section
namespace Go.Proofs.YthhfljldbfgpcaaGreatDoor
open Go.RowKit
theorem side_bits (d:Nat) (h:d ≤ 11):floatBits .quo .f32 1065353216 (floatOfInt .f32 (wrap64 (2 ^ d)))=some (Flo.sideF d):=by
 rcases (by omega:d=0 ∨ d=1 ∨ d=2 ∨ d=3 ∨ d=4 ∨ d=5 ∨ d=6 ∨ d=7 ∨ d=8 ∨ d=9 ∨ d=10 ∨ d=11) with rfl | rfl | rfl | rfl | rfl | rfl | rfl | rfl | rfl | rfl | rfl | rfl <;> kernel_rfl
set_option maxHeartbeats 400000 in
theorem l7Side_is (d:Nat) (hd:d ≤ 11) (w:World):Calls Vp.prog 60 #[.int .i64 d] w fun e w' => e=.returned (.float .f32 (Flo.sideF d)) ∧ w=w':=by
 obtain ⟨q,hq⟩:∃ q:Int,wrap64 (2 ^ d)=q:=⟨_,rfl⟩
 have hz:∀ w,(binOp .quo 42 (.float .f32 1065353216) (.float .f32 (floatOfInt .f32 q))).run Vp.prog w=.ok (.float .f32 (Flo.sideF d)) w:=fun w =>
   run_float_arith w _ _ _ _ _ _ (by rw [← hq]; exact side_bits d hd)
 generalize Flo.sideF d=r at *
 go_enter Vp.func60,Tryz.ntmps60
 go_wp2
 go_ret
 exact ⟨rfl,rfl⟩
set_option maxHeartbeats 400000 in
theorem sideOf_is (d:Nat) (hd:d ≤ 11) (w:World):Calls Vp.prog 49 #[.int .i64 d] w fun e w' => e=.returned (.float .f32 (Flo.sideF d)) ∧ w=w':=by
 obtain ⟨q,hq⟩:∃ q:Int,wrap64 (2 ^ d)=q:=⟨_,rfl⟩
 have hz:∀ w,(binOp .quo 42 (.float .f32 1065353216) (.float .f32 (floatOfInt .f32 q))).run Vp.prog w=.ok (.float .f32 (Flo.sideF d)) w:=fun w =>
   run_float_arith w _ _ _ _ _ _ (by rw [← hq]; exact side_bits d hd)
 generalize Flo.sideF d=r at *
 go_enter Vp.func49,Tryz.ntmps49
 go_wp2
 go_ret
 exact ⟨rfl,rfl⟩
end Go.Proofs.YthhfljldbfgpcaaGreatDoor
end

section
namespace Go.Proofs.YthhfljldbfgpcaaGreatDoor
open Go.RowKit
theorem wrap_pow (d:Nat) (h:d ≤ 11):wrap64 (2 ^ d)=((2 ^ d:Nat):Int):=by
 rcases (by omega:d=0 ∨ d=1 ∨ d=2 ∨ d=3 ∨ d=4 ∨ d=5 ∨ d=6 ∨ d=7 ∨ d=8 ∨ d=9 ∨ d=10 ∨ d=11) with rfl | rfl | rfl | rfl | rfl | rfl | rfl | rfl | rfl | rfl | rfl | rfl <;> kernel_rfl
def placeB (cx cy:Nat) (deep size:Int):Bool:=inB deep 0 10 && inB size 1 8 && Flo.wholeB cx deep.toNat && Flo.wholeB cy deep.toNat
theorem placeB_bd {cx cy:Nat} {deep size:Int} (h:placeB cx cy deep size=true):0 ≤ deep ∧ deep ≤ 10 ∧ 1 ≤ size ∧ size ≤ 8:=by
 unfold placeB inB at h
 simp only [Bool.and_eq_true,decide_eq_true_eq] at h
 omega
end Go.Proofs.YthhfljldbfgpcaaGreatDoor
end

section
namespace Go.Proofs.YthhfljldbfgpcaaGreatDoor
open Go.RowKit
theorem cut_down (neg:Bool) (t drop:Nat):Ieee.Toward.down.cut neg (t * 2 ^ drop) drop=t:=by
 unfold Ieee.Toward.cut
 simp only []
 by_cases hd:drop ≤ (t * 2 ^ drop).log2 + 2
 · rw [Nat.min_eq_left hd,Nat.one_shiftLeft,Nat.mul_div_cancel _ (Nat.two_pow_pos _),Nat.mul_mod_left]; simp
 · have h0:t=0:=by
     rcases Nat.eq_zero_or_pos t with h | h
     · exact h
     · exfalso
       have hlt:t * 2 ^ drop < 2 ^ ((t * 2 ^ drop).log2 + 1):=Nat.lt_log2_self
       have h2:2 ^ ((t * 2 ^ drop).log2 + 1) ≤ 2 ^ drop:=Nat.pow_le_pow_right (by omega) (by omega)
       have h3:=Nat.mul_le_mul_right (2 ^ drop) h
       omega
   subst h0; simp
theorem floor_val {z:Nat} {A:Int} (hz:Flo.Val Ieee.double z (A * (2 ^ Flo.u64:Nat))) :
   ∃ s m e,FloatKind.f64.decode z=.number s m e ∧ Flo.Val Ieee.double (FloatKind.f64.encode ((Ieee.Datum.number s m e).integral .down)) (A * (2 ^ Flo.u64:Nat)):=by
 refine ⟨_,_,_,Flo.read_fin hz.fin,?_⟩
 have hd:=Flo.val_digits hz
 rw [Int.natAbs_mul,Int.natAbs_natCast] at hd
 have hm:Ieee.Toward.down.cut (Flo.sgn Ieee.double z) (Flo.rm Ieee.double (Flo.rung Ieee.double z) <<< (Ieee.double.leastPlace + Flo.re Ieee.double (Flo.rung Ieee.double z)).toNat) (-(Ieee.double.leastPlace + (Flo.re Ieee.double (Flo.rung Ieee.double z):Int))).toNat=A.natAbs:=by
   rw [Flo.least64]
   generalize Flo.re Ieee.double (Flo.rung Ieee.double z)=e at *
   generalize Flo.rm Ieee.double (Flo.rung Ieee.double z)=m at *
   generalize Flo.sgn Ieee.double z=s at *
   rcases Nat.le_total Flo.u64 e with h | h
   · obtain ⟨r,rfl⟩:∃ r,e=r + Flo.u64:=⟨e - Flo.u64,by omega⟩
     have e1:(-(Flo.u64:Int) + ((r + Flo.u64:Nat):Int)).toNat=r:=by omega
     have e2:(-(-(Flo.u64:Int) + ((r + Flo.u64:Nat):Int))).toNat=0:=by omega
     rw [e1,e2]
     rw [Nat.pow_add,← Nat.mul_assoc] at hd
     have hA:=Nat.eq_of_mul_eq_mul_right (Nat.two_pow_pos Flo.u64) hd
     have:=cut_down s A.natAbs 0
     rw [Nat.pow_zero,Nat.mul_one] at this
     rw [Nat.shiftLeft_eq,← hA]; exact this
   · obtain ⟨r,hr⟩:∃ r,Flo.u64=r + e:=⟨Flo.u64 - e,by omega⟩
     have e1:(-(Flo.u64:Int) + (e:Int)).toNat=0:=by omega
     have e2:(-(-(Flo.u64:Int) + (e:Int))).toNat=r:=by omega
     rw [e1,e2]
     rw [hr,Nat.pow_add,← Nat.mul_assoc] at hd
     have hA:=Nat.eq_of_mul_eq_mul_right (Nat.two_pow_pos e) hd
     rw [Nat.shiftLeft_zero,← hA]
     exact cut_down s A.natAbs r
 show Flo.Val Ieee.double (Ieee.double.nearest (Flo.sgn Ieee.double z) (Ieee.Toward.down.cut (Flo.sgn Ieee.double z) (Flo.rm Ieee.double (Flo.rung Ieee.double z) <<< (Ieee.double.leastPlace + Flo.re Ieee.double (Flo.rung Ieee.double z)).toNat) (-(Ieee.double.leastPlace + (Flo.re Ieee.double (Flo.rung Ieee.double z):Int))).toNat) 0) _
 rw [hm]
 have hiv:=hz.iv
 unfold Flo.iv at hiv
 refine Flo.nearest_val (a:=Flo.u64) (b:=0) hz.rep (by rw [Flo.least64]; omega) (by rw [Int.natAbs_mul,Int.natAbs_natCast,Nat.pow_zero,Nat.mul_one]) (fun hneg => ?_) (fun hpos => ?_)
 · cases hs:Flo.sgn Ieee.double z
   · rw [hs] at hiv
     simp only [Bool.false_eq_true,if_false] at hiv
     omega
   · rfl
 · cases hs:Flo.sgn Ieee.double z
   · rfl
   · rw [hs] at hiv
     simp only [if_true] at hiv
     omega
theorem toIntegral_num (z:Nat) (s:Bool) (m:Nat) (e:Int) (hd:FloatKind.f64.decode z=.number s m e):Go.Extern.MathFloor.toIntegral "math.archFloor" .down #[.float .f64 z]=pure (.float .f64 (FloatKind.f64.encode ((Ieee.Datum.number s m e).integral .down))):=by
 show (match FloatKind.f64.decode z with | .nan s t => _ | d => pure (Value.float .f64 (FloatKind.f64.encode (d.integral .down))))=_
 rw [hd]
theorem archFloor_run (z:Nat) (w:World):(callFunc 100 #[.float .f64 z]).run Vp.prog w=(do let v ← Go.Extern.MathFloor.toIntegral "math.archFloor" .down #[.float .f64 z]; pure (Next.value v)).run Vp.prog w:=by
 kernel_rfl
set_option maxRecDepth 100000 in
theorem mathFloor_is (z:Nat) (A:Int) (hz:Flo.Val Ieee.double z (A * (2 ^ Flo.u64:Nat))) (w:World):Calls Vp.prog 77 #[.float .f64 z] w fun e w' => (∃ y,e=.returned (.float .f64 y) ∧ Flo.Val Ieee.double y (A * (2 ^ Flo.u64:Nat))) ∧ w=w':=by
 obtain ⟨s,m,e,hd,hv⟩:=floor_val hz
 have hr:∀ w,(callFunc 100 #[.float .f64 z]).run Vp.prog w=.ok (.value (.float .f64 (FloatKind.f64.encode ((Ieee.Datum.number s m e).integral .down)))) w:=fun w => by
   rw [archFloor_run,toIntegral_num z s m e hd]
   rfl
 have HV:=Lib.hid hv
 generalize FloatKind.f64.encode ((Ieee.Datum.number s m e).integral .down)=y at *
 clear hz hv hd
 go_enter Vp.func77,Tryz.ntmps77
 go_wp2
 go_ret
 exact ⟨⟨y,rfl,HV.out⟩,rfl⟩
set_option maxRecDepth 100000 in
set_option maxHeartbeats 1000000 in
theorem cornerWell_ok (x d:Nat) (hx:x < 4294967296) (hd:d ≤ 11) (h:Flo.wholeB x d=true) (w:World):Calls Vp.prog 48 #[.float .f32 x,.int .i64 d] w fun e w' => e=.returned (.bool true) ∧ w=w':=by
 obtain ⟨A,hA,hb⟩:=Flo.whole_pt hx hd h
 have hdp:2 ^ d ≤ 2 ^ 11:=Nat.pow_le_pow_right (by omega) hd
 obtain ⟨y1,h1,v1⟩:=Flo.widen_val hA
 have hD:Flo.Val Ieee.double (floatOfInt .f64 ((2 ^ d:Nat):Int)) (((2 ^ d:Nat):Int) * (2 ^ Flo.u64:Nat)):=Flo.ofInt_val (k:=.f64) Flo.least64 _ (by rw [Int.natAbs_natCast]; show _ < 2 * Ieee.double.binade; rw [Flo.double_binade]; omega) (by show (Flo.u64 + 2) * Ieee.double.binade ≤ Ieee.double.infRung; rw [Flo.double_inf,Flo.u64_eq]; exact Nat.mul_le_mul_right _ (by omega))
 have hrep:Flo.Rep Ieee.double (A * (2 ^ Flo.u64:Nat)):=by
   refine Flo.rep_gen (m:=A.natAbs) (e:=Flo.u64) (by rw [Int.natAbs_mul,Int.natAbs_natCast]) (by rw [Flo.double_binade]; omega) ?_
   rw [Flo.double_inf,Flo.u64_eq]
   exact Nat.mul_le_mul_right _ (by omega)
 have hc:A * (2 ^ (Flo.u32 - d):Nat) * (2 ^ Flo.wup:Nat) * (((2 ^ d:Nat):Int) * (2 ^ Flo.u64:Nat))=A * (2 ^ Flo.u64:Nat) * (2 ^ Flo.u64:Nat):=by
   have e:(2 ^ (Flo.u32 - d) * 2 ^ Flo.wup * 2 ^ d:Nat)=2 ^ Flo.u64:=by
     rw [← Nat.pow_add,← Nat.pow_add]
     congr 1
     rw [Flo.u32_eq,Flo.wup_eq,Flo.u64_eq]; omega
   have e2:((2 ^ (Flo.u32 - d):Nat):Int) * (2 ^ Flo.wup:Nat) * (2 ^ d:Nat)=(2 ^ Flo.u64:Nat):=by
     have:=congrArg (fun x:Nat => (x:Int)) e
     simp only [Int.natCast_mul] at this
     exact this
   generalize ((2 ^ (Flo.u32 - d):Nat):Int)=P at *
   generalize ((2 ^ Flo.wup:Nat):Int)=Q at *
   generalize ((2 ^ Flo.u64:Nat):Int)=R at *
   generalize ((2 ^ d:Nat):Int)=S at *
   calc A * P * Q * (S * R)=A * (P * Q * S) * R:=by simp only [Int.mul_assoc]
     _=A * R * R:=by rw [e2]
 obtain ⟨y,hy,v2⟩:=Flo.mul_val (f:=Ieee.double) (c:=A * (2 ^ Flo.u64:Nat)) Flo.least64 v1 hD hc hrep
 have hF:=Lib.hid (mathFloor_is y A v2)
 have hee:Hid (∀ t,Flo.Val Ieee.double t (A * (2 ^ Flo.u64:Nat)) → (FloatKind.f64.format.order y t == some .eq)=true):=fun t ht => by rw [Flo.order_eq_val (k:=.f64) v2 ht]; simp
 obtain ⟨q,hq⟩:∃ q:Int,wrap64 (2 ^ d)=q:=⟨_,rfl⟩
 have hqd:((2 ^ d:Nat):Int)=q:=by rw [← hq,wrap_pow d hd]
 rw [hqd] at hy
 have g1:=fun w => run_convert_float_float (P:=Vp.prog) w 42 68 .f32 .f64 _ _ (by kernel_rfl) (Vp.und Tryz.underlying68) h1
 have g2:=fun w => run_float_arith (P:=Vp.prog) w .mul 68 .f64 _ _ _ hy
 have hw:=Flo.inFour_val hx (by unfold Flo.wholeB at h; rw [Bool.and_eq_true] at h; exact h.1)
 have t1:(FloatKind.f32.format.order 3229614080 x == some .lt || FloatKind.f32.format.order 3229614080 x == some .eq)=true:=by
   rw [Flo.order_lt_val (k:=.f32) Flo.minus_four_val hw.1,Flo.order_eq_val (k:=.f32) Flo.minus_four_val hw.1]
   have:=hw.2
   simp only [Bool.or_eq_true,decide_eq_true_eq]
   generalize 2 ^ Flo.u32=U at *
   omega
 have t2:(FloatKind.f32.format.order x 1082130432 == some .lt || FloatKind.f32.format.order x 1082130432 == some .eq)=true:=by
   unfold Flo.wholeB Flo.inFour at h
   rw [Bool.and_eq_true,Bool.and_eq_true] at h
   exact h.1.2
 clear h hA hb hdp h1 v1 hD hrep hc hy v2 hqd hw hx
 go_enter Vp.func48,Tryz.ntmps48
 go_wp2_with (go_at_call 77; refine (hF.out _).mono ?_; rintro e w' ⟨⟨t,rfl,ht⟩,rfl⟩; have hte:=hee.out t ht; clear ht)
 go_ret
 exact ⟨rfl,rfl⟩
set_option maxRecDepth 100000 in
set_option maxHeartbeats 1000000 in
theorem placeWell_ok (cx cy:Nat) (deep size:Int) (hx:cx < 4294967296) (hy:cy < 4294967296) (h:placeB cx cy deep size=true) (w:World):Calls Vp.prog 19 #[.complex .f32 cx cy,.int .i64 deep,.int .i64 size] w fun e w' => e=.returned (.bool true) ∧ w=w':=by
 obtain ⟨h1,h2,h3,h4⟩:=placeB_bd h
 obtain ⟨d,rfl⟩:=Int.eq_ofNat_of_zero_le h1
 unfold placeB at h
 rw [Bool.and_eq_true,Bool.and_eq_true,Int.toNat_natCast] at h
 have hX:=Lib.hid (cornerWell_ok cx d hx (by omega) h.1.2)
 have hY:=Lib.hid (cornerWell_ok cy d hy (by omega) h.2)
 clear h
 have a1:decide ((d:Int) < 0)=false:=by simp
 have a2:decide (10 < (d:Int))=false:=by simpa using h2
 have a3:decide (size < 1)=false:=by simpa using h3
 have a4:decide (8 < size)=false:=by simpa using h4
 go_enter Vp.func19,Tryz.ntmps19
 go_wp2_with (first | (go_at_call 48; (with_reducible refine (hX.out _).mono ?_); rintro e w' ⟨rfl,rfl⟩) | (go_at_call 48; (with_reducible refine (hY.out _).mono ?_); rintro e w' ⟨rfl,rfl⟩))
 go_ret
 exact ⟨rfl,rfl⟩
end Go.Proofs.YthhfljldbfgpcaaGreatDoor
end

section
namespace Go.Proofs.YthhfljldbfgpcaaGreatDoor
open Go.RowKit Flo
set_option maxHeartbeats 400000 in
theorem even_is (a b s:Int) (ha:a.natAbs ≤ 4611686018427387904) (hb:b.natAbs ≤ 4611686018427387904) (w:World):Calls Vp.prog 65 #[.agg #[.int .i64 a,.int .i64 b,.int .i64 s]] w fun e w' => e=.returned (.bool (evenB a b)) ∧ Below w.heap.size w w':=by
 have e1:=and_one a (by omega) (by omega)
 have e2:=and_one b (by omega) (by omega)
 have HB:Hid (Below w.heap.size w (w.alloc (.cells #[.int .i64 a,.int .i64 b,.int .i64 s] 36))):=(Below.refl _ _).alloc (Nat.le_refl _) _
 have HE:Hid (evenB a b=(decide (a % 2=0) && decide (b % 2=0))):=by
   show _=_
   unfold evenB
   rw [Bool.decide_and]
 by_cases h1:a % 2=0
 · by_cases h2:b % 2=0
   · have HK:Hid (evenB a b=true):=by rw [HE.out,decide_eq_true h1,decide_eq_true h2]; rfl
     go_enter Vp.func65,Tryz.ntmps65
     go_wp2
     go_ret
     exact ⟨ret_bool HK.out.symm,HB.out⟩
   · have HK:Hid (evenB a b=false):=by rw [HE.out,decide_eq_false h2,Bool.and_false]; rfl
     have h3:(b % 2 == 0)=false:=by simp [h2]
     go_enter Vp.func65,Tryz.ntmps65
     go_wp2
     go_ret
     exact ⟨ret_bool HK.out.symm,HB.out⟩
 · have HK:Hid (evenB a b=false):=by rw [HE.out,decide_eq_false h1,Bool.false_and]; rfl
   have h3:(a % 2 == 0)=false:=by simp [h1]
   go_enter Vp.func65,Tryz.ntmps65
   go_wp2
   go_ret
   exact ⟨ret_bool HK.out.symm,HB.out⟩
set_option maxHeartbeats 1000000 in
theorem valid_ok (a b s:Int) (hv:dyadB a b s=true) (w:World):Calls Vp.prog 42 #[.agg #[.int .i64 a,.int .i64 b,.int .i64 s]] w fun e w' => e=.returned (.bool true) ∧ Below w.heap.size w w':=by
 unfold dyadB at hv
 rw [Bool.and_eq_true,decide_eq_true_eq,Bool.or_eq_true,decide_eq_true_eq,Bool.not_eq_true'] at hv
 obtain ⟨⟨h1,h2,h3,h4,h5,h6⟩,h7⟩:=hv
 have B:=Box.new w #[.int .i64 a,.int .i64 b,.int .i64 s] 36
 have c0:=B.cell 0 (.int .i64 a) rfl
 have c1:=B.cell 1 (.int .i64 b) rfl
 have c2:=B.cell 2 (.int .i64 s) rfl
 have HB:=Lib.hid B
 have HE:=Lib.hid (even_is a b s (by omega) (by omega))
 have d1:decide (a < -1073741824)=false:=by simp; omega
 have d2:decide (1073741824 < a)=false:=by simp; omega
 have d3:decide (b < -1073741824)=false:=by simp; omega
 have d4:decide (1073741824 < b)=false:=by simp; omega
 have d5:decide (s < 0)=false:=by simp; omega
 have d6:decide (60 < s)=false:=by simp; omega
 clear B
 by_cases h8:s=0
 · have d7:(s == 0)=true:=by simp [h8]
   clear h7 h8
   go_enter Vp.func42,Tryz.ntmps42
   go_wp2
   go_ret
   exact ⟨rfl,HB.out.old⟩
 · have d7:(s == 0)=false:=by simp [h8]
   have hev:evenB a b=false:=by rcases h7 with h | h; exact absurd h h8; exact h
   rw [hev] at HE
   clear h7 h8 hev
   go_enter Vp.func42,Tryz.ntmps42
   go_wp2_with (go_at_call 65; refine (HE.out _).mono ?_; rintro e w1 ⟨rfl,hd⟩; have HB2:=Lib.hid (HB.out.step hd).old; clear hd)
   go_ret
   exact ⟨rfl,HB2.out⟩
theorem lowT_even (m n:Int) (k:Nat):lowT (2 * m) (2 * n) (k + 1)=lowT m n k:=by
 show (if _ ∧ _ then _ else _)=_
 rw [if_pos ⟨by omega,by omega⟩,show 2 * m / 2=m by omega,show 2 * n / 2=n by omega]
theorem lowT_stop {X Y:Int} {k:Nat} (h:evenB X Y=false):lowT X Y k=(X,Y,k):=by
 cases k with
 | zero => rfl
 | succ k =>
   unfold evenB at h
   rw [decide_eq_false_iff_not] at h
   show (if _ ∧ _ then _ else _)=_
   rw [if_neg h]
theorem Box.set3 {w0 W:World} {b:Nat} {v0 v1 v2:Value} {T:TypeId} (h:Box w0 b #[v0,v1,v2] T W) (hb:w0.heap.size ≤ b) (u0 u1 u2:Value) :
   Box w0 b #[u0,u1,u2] T (((W.setCell ⟨b,0,none⟩ u0).setCell ⟨b,1,none⟩ u1).setCell ⟨b,2,none⟩ u2):=((h.set hb 0 u0).set hb 1 u1).set hb 2 u2
theorem Box.other3 {w0 W:World} {b:Nat} {C:Array Value} {T:TypeId} (h:Box w0 b C T W) {p:Nat} (hp:w0.heap.size ≤ p) (hne:b ≠ p) (u0 u1 u2:Value) :
   Box w0 b C T (((W.setCell ⟨p,0,none⟩ u0).setCell ⟨p,1,none⟩ u1).setCell ⟨p,2,none⟩ u2):=((h.other (p:=⟨p,0,none⟩) hp hne u0).other (p:=⟨p,1,none⟩) hp hne u1).other (p:=⟨p,2,none⟩) hp hne u2
theorem Box.cells3 {w0 W:World} {b:Nat} {v0 v1 v2:Value} {T:TypeId} (h:Box w0 b #[v0,v1,v2] T W):W.cell? ⟨b,0,none⟩=some v0 ∧ W.cell? ⟨b,1,none⟩=some v1 ∧ W.cell? ⟨b,2,none⟩=some v2:=⟨h.cell 0 _ rfl,h.cell 1 _ rfl,h.cell 2 _ rfl⟩
theorem Box.free3 {w0 W:World} {b:Nat} {C:Array Value} {T:TypeId} (h:Box w0 b C T W):W.frozen? ⟨b,0,none⟩=false ∧ W.frozen? ⟨b,1,none⟩=false ∧ W.frozen? ⟨b,2,none⟩=false:=⟨h.frozen 0,h.frozen 1,h.frozen 2⟩
set_option maxRecDepth 100000 in
set_option maxHeartbeats 2000000 in
theorem dyadMake_is (X Y:Int) (d:Nat) (hX:X.natAbs ≤ 1073741824) (hY:Y.natAbs ≤ 1073741824) (hd:d ≤ 60) (w:World) :
   Calls Vp.prog 33 #[.int .i64 X,.int .i64 Y,.int .i64 d] w fun e w' => e=.returned (.tuple #[.agg #[.int .i64 (lowT X Y d).1,.int .i64 (lowT X Y d).2.1,.int .i64 (lowT X Y d).2.2],.bool true]) ∧ Below w.heap.size w w':=by
 have HV:=Lib.hid (low_valid hX hY hd)
 have R0:=(Box.new w #[.int .i64 0,.int .i64 0,.int .i64 0] 36).alloc (.cells #[.int .i64 X,.int .i64 Y,.int .i64 d] 36)
 have O0:=(Box.new (w.alloc (.cells #[.int .i64 0,.int .i64 0,.int .i64 0] 36)) #[.int .i64 X,.int .i64 Y,.int .i64 d] 36).up ((Below.refl w.heap.size w).alloc (Nat.le_refl _) _)
 rw [show (w.alloc (.cells #[.int .i64 0,.int .i64 0,.int .i64 0] 36)).heap.size=w.heap.size + 1 by simp] at O0
 have HR:=Lib.hid R0
 have HO:=Lib.hid O0
 have d1:decide ((d:Int) < 0)=false:=by simp
 have d2:decide ((120:Int) < d)=false:=by simp; omega
 have d3:decide (X < -4611686018427387904)=false:=by simp; omega
 have d4:decide (4611686018427387904 < X)=false:=by simp; omega
 have d5:decide (Y < -4611686018427387904)=false:=by simp; omega
 have d6:decide (4611686018427387904 < Y)=false:=by simp; omega
 clear R0 O0
 go_enter Vp.func33,Tryz.ntmps33
 go_wp2
 clear d1 d2 d3 d4 d5 d6
 go_loopw [41] (fun _ wr => ∃ (x y:Int) (k:Nat),k ≤ d ∧ x.natAbs ≤ 1073741824 ∧ y.natAbs ≤ 1073741824 ∧ Hid (lowT x y k=lowT X Y d) ∧ Hid (Box w (w.heap.size + 1) #[.int .i64 x,.int .i64 y,.int .i64 k] 36 wr) ∧ Hid (Box w w.heap.size #[.int .i64 0,.int .i64 0,.int .i64 0] 36 wr)) (fun _ wr => (intOf ((wr.cell? ⟨w.heap.size + 1,2,none⟩).getD undef)).toNat)
 case atStart => exact ⟨X,Y,d,by omega,hX,hY,rfl,HO.out,HR.out⟩
 case round =>
   obtain ⟨x,y,k,hk,hx,hy,HL,HB,HR⟩:=hrel
   obtain ⟨c0,c1,c2⟩:=HB.out.cells3
   obtain ⟨f0,f1,f2⟩:=HB.out.free3
   have HE:=Lib.hid (even_is x y k (by omega) (by omega))
   obtain ⟨r0,r1,r2⟩:=HR.out.cells3
   obtain ⟨g0,g1,g2⟩:=HR.out.free3
   have HF:Hid (∀ W,Below wr.heap.size wr W → Box w (w.heap.size + 1) #[.int .i64 x,.int .i64 y,.int .i64 k] 36 W ∧ Box w w.heap.size #[.int .i64 0,.int .i64 0,.int .i64 0] 36 W):=fun W h => ⟨HB.out.step h,HR.out.step h⟩
   have HDONE:Hid (evenB x y=false ∨ k=0 → lowT X Y d=(x,y,k) ∧ dyadB x y k=true):=fun h => by
     have e:lowT X Y d=(x,y,k):=by
       rw [← HL.out]
       rcases h with h | h
       · exact lowT_stop h
       · rw [h]; rfl
     have v:=HV.out
     rw [e] at v
     exact ⟨e,v⟩
   rcases Nat.eq_zero_or_pos k with h0 | h0
   · obtain ⟨he,hv⟩:=HDONE.out (.inr h0)
     subst h0
     have HEQ:=Lib.hid he
     have HVV:=Lib.hid (valid_ok x y 0 hv)
     have HB1:Hid (Box w (w.heap.size + 1) #[.int .i64 x,.int .i64 y,.int .i64 0] 36 wr):=HB
     have HF1:Hid (∀ W,Below wr.heap.size wr W → Box w (w.heap.size + 1) #[.int .i64 x,.int .i64 y,.int .i64 0] 36 W ∧ Box w w.heap.size #[.int .i64 0,.int .i64 0,.int .i64 0] 36 W):=HF
     clear HF HB
     have HF:=HF1
     have HB:=HB1
     clear HF1 HB1
     have c2:wr.cell? ⟨w.heap.size + 1,2,none⟩=some (.int .i64 0):=c2
     clear HDONE HL he hv HE
     go_wp2_with fail
     refine (HVV.out _).mono ?_
     rintro e w1 ⟨rfl,hd⟩
     obtain ⟨HB2,HR2⟩:=HF.out _ hd
     obtain ⟨q0,q1,q2⟩:=HB2.cells3
     obtain ⟨r0,r1,r2⟩:=HR2.cells3
     obtain ⟨g0,g1,g2⟩:=HR2.free3
     have HZ:=Lib.hid (HR2.set3 (Nat.le_refl _) (.int .i64 x) (.int .i64 y) (.int .i64 0))
     clear hd HB2 HR2 HF HB HR
     go_wp2
     exact bodyPost_ret (v:=.tuple #[.agg #[.int .i64 x,.int .i64 y,.int .i64 0],.bool true]) (by simp [results,Tryz.f33,go_sem,r0,r1,r2]) rfl ⟨by rw [HEQ.out]; rfl,HZ.out.old⟩
   · have d1:decide ((0:Int) < k)=true:=by simp; omega
     cases hE:evenB x y with
     | false =>
       obtain ⟨he,hv⟩:=HDONE.out (.inl hE)
       have HEQ:=Lib.hid he
       have HVV:=Lib.hid (valid_ok x y k hv)
       rw [hE] at HE
       clear HDONE HL he hv hE
       go_wp2_with fail
       refine (HE.out _).mono ?_
       rintro e w1 ⟨rfl,hd⟩
       have HD2:=Lib.hid (HF.out _ hd)
       have HD3:=Lib.hid hd
       obtain ⟨q0,q1,q2⟩:=HD2.out.1.cells3
       clear hd
       go_wp2_with fail
       refine (HVV.out _).mono ?_
       rintro e w2 ⟨rfl,hd⟩
       have hd2:=hd.mono HD3.out.size
       have hd:=HD3.out.trans hd2
       obtain ⟨HB2,HR2⟩:=HF.out _ hd
       clear q0 q1 q2
       obtain ⟨q0,q1,q2⟩:=HB2.cells3
       obtain ⟨r0,r1,r2⟩:=HR2.cells3
       obtain ⟨g0,g1,g2⟩:=HR2.free3
       have HZ:=Lib.hid (HR2.set3 (Nat.le_refl _) (.int .i64 x) (.int .i64 y) (.int .i64 k))
       clear hd HB2 HR2 HF HB HR HD2 HD3 hd2
       go_wp2
       exact bodyPost_ret (v:=.tuple #[.agg #[.int .i64 x,.int .i64 y,.int .i64 k],.bool true]) (by simp [results,Tryz.f33,go_sem,r0,r1,r2]) rfl ⟨by rw [HEQ.out],HZ.out.old⟩
     | true =>
       have hev:=hE
       unfold evenB at hev
       rw [decide_eq_true_eq] at hev
       obtain ⟨m,rfl⟩:∃ m,x=2 * m:=⟨x / 2,by omega⟩
       obtain ⟨n,rfl⟩:∃ n,y=2 * n:=⟨y / 2,by omega⟩
       obtain ⟨k,rfl⟩:∃ k',k=k' + 1:=⟨k - 1,by omega⟩
       have t1:(2 * m).tdiv 2=m:=Int.mul_tdiv_cancel_left m (by decide)
       have t2:(2 * n).tdiv 2=n:=Int.mul_tdiv_cancel_left n (by decide)
       have t3:((k + 1:Nat):Int) - 1=k:=by omega
       have HL2:=Lib.hid ((lowT_even m n k).symm.trans HL.out)
       rw [hE] at HE
       clear HDONE hE hev h0 HL
       go_wp2_with (go_at_call 65; refine (HE.out _).mono ?_; rintro e w1 ⟨rfl,hd⟩; have HB2:=Lib.hid (HF.out _ hd).1; have HR2:=Lib.hid (HF.out _ hd).2; obtain ⟨q0,q1,q2⟩:=HB2.out.cells3; obtain ⟨g0,g1,g2⟩:=HB2.out.free3; clear hd)
       have b0:=HB2.out.lt
       refine ⟨⟨m,n,k,by omega,by omega,by omega,HL2,HB2.out.set3 (by omega) _ _ _,HR2.out.other3 (by omega) (by omega) _ _ _⟩,?_⟩
       rw [((HB2.out.set3 (by omega) (.int .i64 m) (.int .i64 n) (.int .i64 k)).cells3).2.2,c2]
       simp [intOf]
end Go.Proofs.YthhfljldbfgpcaaGreatDoor
end
