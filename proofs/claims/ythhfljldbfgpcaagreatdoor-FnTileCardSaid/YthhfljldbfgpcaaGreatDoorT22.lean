/- Merged texts: BkB, LrA. -/
import Derived.Test.YthhfljldbfgpcaaGreatDoorT21
import Derived.Test.YthhfljldbfgpcaaGreatDoorT19
import Derived.Test.YthhfljldbfgpcaaGreatDoorT12
import Derived.Conc.Own
import Derived.Conc.Events
set_option linter.all false
section
namespace Go.Proofs.YthhfljldbfgpcaaGreatDoor
open Go.RowKit
attribute [local go_sem ↓] Go.wp_at_zero Go.wp_at_succ
set_option maxRecDepth 100000 in
set_option maxHeartbeats 1000000 in
theorem l4Steps_bad (x d:Nat) (n N:Int) (hd:d ≤ 11) (hx:Flo.Pt x d n) (hn:n.natAbs ≤ 65536) (hN:N=n * (2 ^ (24 - d):Nat)) (h2:¬ N ≤ 134217728) (w:World) :
   Calls Vp.prog 78 #[.float .f32 x] w fun e w' => e=.returned (.tuple #[.int .i64 0,.int .i64 0,.bool false]) ∧ w=w':=by
 obtain ⟨y1,y,e1,e2,hv,e3⟩:=Flo.steps_pt hd hx hn
 rw [← hN] at hv e3
 have hNb:N.natAbs ≤ 1099511627776:=by
   rw [hN,Int.natAbs_mul,Int.natAbs_natCast]
   have h1:(2:Nat) ^ (24 - d) ≤ 2 ^ 24:=Nat.pow_le_pow_right (by omega) (by omega)
   exact Nat.mul_le_mul hn h1
 obtain ⟨b1,b2,b3,b4⟩:=Flo.steps_tests hNb hv
 rw [decide_eq_true (show -134217728 ≤ N by omega)] at b1
 rw [decide_eq_false h2] at b2
 have g1:=fun w => run_convert_float_float (P:=Vp.prog) w 42 68 .f32 .f64 _ _ (by kernel_rfl) (Vp.und Tryz.underlying68) e1
 have g2:=fun w => run_float_arith (P:=Vp.prog) w .mul 68 .f64 _ _ _ e2
 clear e1 e2 e3 hv hx hn hN hNb h2 hd b3 b4
 go_enter Vp.func78,Tryz.ntmps78
 go_wp2
 go_ret3
 exact ⟨rfl,rfl⟩
def ofV (A B:Int):Value:=if A ≤ 134217728 ∧ B ≤ 134217728 then .tuple #[.agg #[.int .i64 A,.int .i64 A,.int .i64 B,.int .i64 B],.bool true] else .tuple #[.agg #[.int .i64 0,.int .i64 0,.int .i64 0,.int .i64 0],.bool false]
set_option maxHeartbeats 4000000 in
theorem boxOf_all (x y d:Nat) (a b A B:Int) (hd:d ≤ 11) (hx:Flo.Pt x d a) (hy:Flo.Pt y d b) (ha:a.natAbs ≤ 65536) (hb:b.natAbs ≤ 65536) (hA:A=a * (2 ^ (24 - d):Nat)) (hB:B=b * (2 ^ (24 - d):Nat))
   (h1:-134217728 ≤ A) (h3:-134217728 ≤ B) (w:World) :
   Calls Vp.prog 53 #[.complex .f32 x y] w fun e w' => e=.returned (ofV A B) ∧ Below w.heap.size w w':=by
 by_cases h2:A ≤ 134217728
 · by_cases h4:B ≤ 134217728
   · unfold ofV; rw [if_pos ⟨h2,h4⟩]
     exact boxOf_val x y d a b A B hd hx hy ha hb hA hB h1 h2 h3 h4 w
   · have HV:Hid (ofV A B=.tuple #[.agg #[.int .i64 0,.int .i64 0,.int .i64 0,.int .i64 0],.bool false]):=by
       show _=_; unfold ofV; rw [if_neg (fun h => h4 h.2)]
     rw [HV.out]
     have X:=Box.new w #[.int .i64 0,.int .i64 0,.int .i64 0,.int .i64 0] 62
     have HX:=Lib.hid (fun w => l4Steps_val x d a A hd hx ha hA h1 h2 w)
     have HY:=Lib.hid (fun w => l4Steps_bad y d b B hd hy hb hB h4 w)
     have f0:=X.frozen 0
     have f1:=X.frozen 1
     have f2:=X.frozen 2
     have f3:=X.frozen 3
     have c0:=X.cell 0 _ rfl
     have c1:=X.cell 1 _ rfl
     have c2:=X.cell 2 _ rfl
     have c3:=X.cell 3 _ rfl
     have HB:=Lib.hid X.old
     clear hx hy hA hB ha hb HV X
     go_enter Vp.func53,Tryz.ntmps53
     go_wp2_with fail
     refine (HX.out _).mono ?_
     rintro e w1 ⟨rfl,rfl⟩
     go_wp2_with fail
     refine (HY.out _).mono ?_
     rintro e w1 ⟨rfl,rfl⟩
     go_wp2
     exact bodyPost_ret (v:=.tuple #[.agg #[.int .i64 0,.int .i64 0,.int .i64 0,.int .i64 0],.bool false]) (by simp [results,Tryz.f53,go_sem]) rfl ⟨rfl,HB.out⟩
 · have HV:Hid (ofV A B=.tuple #[.agg #[.int .i64 0,.int .i64 0,.int .i64 0,.int .i64 0],.bool false]):=by
     show _=_; unfold ofV; rw [if_neg (fun h => h2 h.1)]
   rw [HV.out]
   have X:=Box.new w #[.int .i64 0,.int .i64 0,.int .i64 0,.int .i64 0] 62
   have HX:=Lib.hid (fun w => l4Steps_bad x d a A hd hx ha hA h2 w)
   obtain ⟨P,Q,t,HY⟩:∃ (P Q:Int) (t:Bool),Hid (∀ w,Calls Vp.prog 78 #[.float .f32 y] w fun e w' => e=.returned (.tuple #[.int .i64 P,.int .i64 Q,.bool t]) ∧ w=w'):=by
     by_cases h4:B ≤ 134217728
     · exact ⟨B,B,true,fun w => l4Steps_val y d b B hd hy hb hB h3 h4 w⟩
     · exact ⟨0,0,false,fun w => l4Steps_bad y d b B hd hy hb hB h4 w⟩
   have f0:=X.frozen 0
   have f1:=X.frozen 1
   have f2:=X.frozen 2
   have f3:=X.frozen 3
   have c0:=X.cell 0 _ rfl
   have c1:=X.cell 1 _ rfl
   have c2:=X.cell 2 _ rfl
   have c3:=X.cell 3 _ rfl
   have HB:=Lib.hid X.old
   clear hx hy hA hB ha hb HV X
   go_enter Vp.func53,Tryz.ntmps53
   go_wp2_with fail
   refine (HX.out _).mono ?_
   rintro e w1 ⟨rfl,rfl⟩
   go_wp2_with fail
   refine (HY.out _).mono ?_
   rintro e w1 ⟨rfl,rfl⟩
   go_wp2
   exact bodyPost_ret (v:=.tuple #[.agg #[.int .i64 0,.int .i64 0,.int .i64 0,.int .i64 0],.bool false]) (by simp [results,Tryz.f53,go_sem]) rfl ⟨rfl,HB.out⟩
set_option maxHeartbeats 4000000 in
theorem l7Box_of (cx cy d x y:Nat) (i j P0 P1 P2 P3 A2 B2 S:Int) (v:Bool) (hsd:(16777216:Int) / 2 ^ d=S) (hd:d ≤ 11) (k1:wrap64 (P1 + S)=A2) (k2:wrap64 (P3 + S)=B2)
   (HP:Hid (∀ w,Calls Vp.prog 26 #[.complex .f32 cx cy,.int .i64 d,.int .i64 i,.int .i64 j] w fun e w' => e=.returned (.complex .f32 x y) ∧ w=w'))
   (HO:Hid (∀ w,Calls Vp.prog 53 #[.complex .f32 x y] w fun e w' => e=.returned (.tuple #[.agg #[.int .i64 P0,.int .i64 P1,.int .i64 P2,.int .i64 P3],.bool v]) ∧ Below w.heap.size w w')) (w:World) :
   Calls Vp.prog 23 #[.complex .f32 cx cy,.int .i64 d,.int .i64 i,.int .i64 j] w fun e w' => e=.returned (.tuple #[.agg #[.int .i64 P0,.int .i64 A2,.int .i64 P2,.int .i64 B2],.bool (v && boxOK P0 A2 P2 B2)]) ∧ Below w.heap.size w w':=by
 have R:=Box.new w #[.int .i64 0,.int .i64 0,.int .i64 0,.int .i64 0] 62
 go_enter Vp.func23,Tryz.ntmps23
 go_wp2_with fail
 refine (HP.out _).mono ?_
 rintro e w1 ⟨rfl,rfl⟩
 go_wp2_with fail
 refine (HO.out _).mono ?_
 rintro e w2 ⟨rfl,hb⟩
 replace R:=R.step hb
 clear hb HP HO
 have X:=(Box.new w2 #[.int .i64 P0,.int .i64 P1,.int .i64 P2,.int .i64 P3] 62).up R.old
 have hne:w2.heap.size ≠ w.heap.size:=by have:=R.lt; omega
 have hxb:w.heap.size ≤ w2.heap.size:=R.old.size
 replace R:=R.alloc (.cells #[.int .i64 P0,.int .i64 P1,.int .i64 P2,.int .i64 P3] 62)
 have x1:=X.cell 1 _ rfl
 have x3:=X.cell 3 _ rfl
 have f1:=X.frozen 1
 have f3:=X.frozen 3
 go_upto_region 5 with fail
 clear x1 x3 f1 f3 X
 have X:=(Box.new w2 #[.int .i64 P0,.int .i64 A2,.int .i64 P2,.int .i64 B2] 62).up (w0:=w) (by have:=R.old; exact ⟨this.os,this.tape,this.output,hxb,fun k hk => by rw [← this.block k hk]; exact (Below.heap_alloc _ _ _ (by omega)).symm⟩)
 replace R:Box w w.heap.size #[.int .i64 0,.int .i64 0,.int .i64 0,.int .i64 0] 62 (w2.alloc (.cells #[.int .i64 P0,.int .i64 A2,.int .i64 P2,.int .i64 B2] 62)):=by
   refine ⟨?_,X.old⟩
   have:=R.blk
   rw [Below.heap_alloc _ _ _ (by have:=R.lt; simp at this; omega)] at this
   rw [Below.heap_alloc _ _ _ (by have:=R.lt; simp at this; omega)]
   exact this
 clear hsd k1 k2
 generalize w2.heap.size=xb at *
 generalize w2.alloc (.cells #[.int .i64 P0,.int .i64 A2,.int .i64 P2,.int .i64 B2] 62)=W at *
 have HF:Hid (∀ W,Below w.heap.size w W → ∀ u0 u1 u2 u3,Below w.heap.size w ((((W.setCell ⟨w.heap.size,0,none⟩ u0).setCell ⟨w.heap.size,1,none⟩ u1).setCell ⟨w.heap.size,2,none⟩ u2).setCell ⟨w.heap.size,3,none⟩ u3)):=fun W h u0 u1 u2 u3 =>
   (((h.setCell (p:=⟨w.heap.size,0,none⟩) (Nat.le_refl _) _).setCell (p:=⟨w.heap.size,1,none⟩) (Nat.le_refl _) _).setCell (p:=⟨w.heap.size,2,none⟩) (Nat.le_refl _) _).setCell (p:=⟨w.heap.size,3,none⟩) (Nat.le_refl _) _
 have x0:=X.cell 0 _ rfl
 have x1:=X.cell 1 _ rfl
 have x2:=X.cell 2 _ rfl
 have x3:=X.cell 3 _ rfl
 replace R:=R.step ((Drw.refl _).drew.below _)
 have HBV:=Lib.hid (fun W => boxValid_any P0 A2 P2 B2 W)
 cases v with
 | true =>
   go_region_with (first
     | (go_at_call 54
        refine (HBV.out _).mono ?_
        rintro e w3 ⟨rfl,hb⟩
        replace X:=X.step (((Drw.refl _).drew.below _).trans hb)
        replace R:=R.step hb
        have x0:=X.cell 0 _ rfl
        have x1:=X.cell 1 _ rfl
        have x2:=X.cell 2 _ rfl
        have x3:=X.cell 3 _ rfl
        have c0:=R.cell 0 _ rfl
        have c1:=R.cell 1 _ rfl
        have c2:=R.cell 2 _ rfl
        have c3:=R.cell 3 _ rfl
        have f0:=R.frozen 0
        have f1:=R.frozen 1
        have f2:=R.frozen 2
        have f3:=R.frozen 3
        have HB:=Lib.hid R.old))
   all_goals
     go_wp2
     exact bodyPost_ret (v:=.tuple #[.agg #[.int .i64 P0,.int .i64 A2,.int .i64 P2,.int .i64 B2],.bool (true && boxOK P0 A2 P2 B2)]) (by simp [results,Tryz.f23,go_sem,c0,c1,c2,c3,Bool.true_and]) rfl ⟨rfl,HF.out _ HB.out _ _ _ _⟩
 | false =>
   have c0:W.cell? ⟨w.heap.size,0,none⟩=some (.int .i64 0):=R.cell 0 _ rfl
   have c1:W.cell? ⟨w.heap.size,1,none⟩=some (.int .i64 0):=R.cell 1 _ rfl
   have c2:W.cell? ⟨w.heap.size,2,none⟩=some (.int .i64 0):=R.cell 2 _ rfl
   have c3:W.cell? ⟨w.heap.size,3,none⟩=some (.int .i64 0):=R.cell 3 _ rfl
   have f0:W.frozen? ⟨w.heap.size,0,none⟩=false:=R.frozen 0
   have f1:W.frozen? ⟨w.heap.size,1,none⟩=false:=R.frozen 1
   have f2:W.frozen? ⟨w.heap.size,2,none⟩=false:=R.frozen 2
   have f3:W.frozen? ⟨w.heap.size,3,none⟩=false:=R.frozen 3
   have HB:=Lib.hid R.old
   go_region_with fail
   all_goals
     go_wp2
     exact bodyPost_ret (v:=.tuple #[.agg #[.int .i64 P0,.int .i64 A2,.int .i64 P2,.int .i64 B2],.bool false]) (by simp [results,Tryz.f23,go_sem,c0,c1,c2,c3]) rfl ⟨rfl,HF.out _ HB.out _ _ _ _⟩
end Go.Proofs.YthhfljldbfgpcaaGreatDoor
end

section
namespace Go.Proofs.YthhfljldbfgpcaaGreatDoor.Lr
abbrev Lk:=Nat → Nat → Prop
def Le (B B':Lk):Prop:=∀ b b',B b b' → B' b b'
theorem Le.refl (B:Lk):Le B B:=fun _ _ h => h
theorem Le.trans {A B C:Lk} (h:Le A B) (k:Le B C):Le A C:=fun b b' x => k b b' (h b b' x)
structure Cx where
 C:FuncId → Prop
 M:String → Prop
 As:Prop
 T:FuncId → Prop
 K:Oper → Prop
 D:Nat → Prop
 F:Nat → Prop
 G:Nat → Prop
 N:Nat
 R:String → Code → Prop
 Dn:Prop
 L:Nat → Nat
 Mv:TypeId → Nat → Nat → Prop
 Z:TypeId → Prop
 lf:∀ b,L b ≠ 0 → F b
 Ar:Nat → Nat → Prop
 asG:As → G N
def AdR (X:Cx) (B:Lk) (a a':Addr):Prop:=(B a.block a'.block ∧ ¬ X.D a.block) ∧ (a'.off=a.off ∧ X.L a.block ≤ a.off) ∧ a'.spot=a.spot
theorem AdR.mono {X:Cx} {B B':Lk} (h:Le B B') {a a':Addr} (k:AdR X B a a'):AdR X B' a a':=⟨⟨h _ _ k.1.1,k.1.2⟩,k.2⟩
theorem AdR.add {X:Cx} {B:Lk} {a a':Addr} (k:AdR X B a a') (n:Nat):AdR X B (a.add n) (a'.add n):=by
 unfold Addr.add
 split
 · exact k
 · exact ⟨k.1,⟨by simp [k.2.1.1],Nat.le_trans k.2.1.2 (Nat.le_add_right _ _)⟩,rfl⟩
inductive FnR (X:Cx) (B:Lk):Fn → Fn → Prop
 | func (f:FuncId):X.C f → ¬ X.T f → FnR X B (.func f) (.func f)
 | method (n:String):X.M n → FnR X B (.method n) (.method n)
 | methodOf (t:TypeId) (n:String):X.M n → FnR X B (.methodOf t n) (.methodOf t n)
 | yield (l l':Nat):B l l' → FnR X B (.yield l) (.yield l')
theorem FnR.mono {X:Cx} {B B':Lk} (h:Le B B') {f f':Fn} (k:FnR X B f f'):FnR X B' f f':=by
 cases k with
 | func f c t => exact .func f c t
 | method n c => exact .method n c
 | methodOf t n c => exact .methodOf t n c
 | yield l l' c => exact .yield l l' (h _ _ c)
inductive VR (X:Cx) (B:Lk):Value → Value → Prop
 | bool (b:Bool):VR X B (.bool b) (.bool b)
 | int (k:IntKind) (n:Int):VR X B (.int k n) (.int k n)
 | float (k:FloatKind) (n:Nat):VR X B (.float k n) (.float k n)
 | complex (k:FloatKind) (n m:Nat):VR X B (.complex k n m) (.complex k n m)
 | string (s:ByteArray):VR X B (.string s) (.string s)
 | pnil:VR X B (.pointer none) (.pointer none)
 | ptr {a a':Addr}:AdR X B a a' → VR X B (.pointer (some a)) (.pointer (some a'))
 | snil (l c:Nat):VR X B (.slice none l c) (.slice none l c)
 | slice {a a':Addr} (l c:Nat):AdR X B a a' → VR X B (.slice (some a) l c) (.slice (some a') l c)
 | mnil:VR X B (.map none) (.map none)
 | map {r r':Nat}:B r r' → VR X B (.map (some r)) (.map (some r'))
 | cnil:VR X B (.chan none) (.chan none)
 | chan {r r':Nat}:B r r' → VR X B (.chan (some r)) (.chan (some r'))
 | func {f f':Fn} {p p' q q':Array Value}:FnR X B f f' → p.size=p'.size → (∀ (i:Nat) v v',p[i]?=some v → p'[i]?=some v' → VR X B v v') →
     q.size=q'.size → (∀ (i:Nat) v v',q[i]?=some v → q'[i]?=some v' → VR X B v v') → VR X B (.func f p q) (.func f' p' q')
 | nilFunc:VR X B .nilFunc .nilFunc
 | iface (t:TypeId) {v v':Value}:VR X B v v' → VR X B (.iface t v) (.iface t v')
 | nilIface:VR X B .nilIface .nilIface
 | agg {p p':Array Value}:p.size=p'.size → (∀ (i:Nat) v v',p[i]?=some v → p'[i]?=some v' → VR X B v v') → VR X B (.agg p) (.agg p')
 | tuple {p p':Array Value}:p.size=p'.size → (∀ (i:Nat) v v',p[i]?=some v → p'[i]?=some v' → VR X B v v') → VR X B (.tuple p) (.tuple p')
theorem VR.mono {X:Cx} {B B':Lk} (h:Le B B') {v v':Value} (k:VR X B v v'):VR X B' v v':=by
 induction k with
 | bool b => exact .bool b
 | int k n => exact .int k n
 | float k n => exact .float k n
 | complex k n m => exact .complex k n m
 | string s => exact .string s
 | pnil => exact .pnil
 | ptr a => exact .ptr (a.mono h)
 | snil l c => exact .snil l c
 | slice l c a => exact .slice l c (a.mono h)
 | mnil => exact .mnil
 | map r => exact .map (h _ _ r)
 | cnil => exact .cnil
 | chan r => exact .chan (h _ _ r)
 | func f hp _ hq _ ip iq => exact .func (f.mono h) hp ip hq iq
 | nilFunc => exact .nilFunc
 | iface t _ i => exact .iface t i
 | nilIface => exact .nilIface
 | agg hp _ i => exact .agg hp i
 | tuple hp _ i => exact .tuple hp i
def AR (X:Cx) (B:Lk) (p p':Array Value):Prop:=p.size=p'.size ∧ ∀ (i:Nat) v v',p[i]?=some v → p'[i]?=some v' → VR X B v v'
theorem AR.mono {X:Cx} {B B':Lk} (h:Le B B') {p p':Array Value} (k:AR X B p p'):AR X B' p p':=⟨k.1,fun i v v' a b => (k.2 i v v' a b).mono h⟩
theorem AR.agg {X:Cx} {B:Lk} {p p':Array Value} (k:AR X B p p'):VR X B (.agg p) (.agg p'):=.agg k.1 k.2
theorem AR.tuple {X:Cx} {B:Lk} {p p':Array Value} (k:AR X B p p'):VR X B (.tuple p) (.tuple p'):=.tuple k.1 k.2
def Flat (X:Cx) (v:Value):Prop:=∀ B,VR X B v v
theorem AR.get {X:Cx} {B:Lk} {p p':Array Value} (k:AR X B p p') (i:Nat):(∃ v v',p[i]?=some v ∧ p'[i]?=some v' ∧ VR X B v v') ∨ (p[i]?=none ∧ p'[i]?=none):=by
 rcases Nat.lt_or_ge i p.size with h | h
 · have h':i < p'.size:=k.1 ▸ h
   exact .inl ⟨p[i],p'[i],Array.getElem?_eq_getElem h,Array.getElem?_eq_getElem h',k.2 i _ _ (Array.getElem?_eq_getElem h) (Array.getElem?_eq_getElem h')⟩
 · exact .inr ⟨Array.getElem?_eq_none h,Array.getElem?_eq_none (k.1 ▸ h)⟩
theorem AR.nil {X:Cx} {B:Lk}:AR X B #[] #[]:=⟨rfl,fun i v v' a _ => by simp at a⟩
theorem AR.push {X:Cx} {B:Lk} {p p':Array Value} (k:AR X B p p') {v v':Value} (h:VR X B v v'):AR X B (p.push v) (p'.push v'):=by
 refine ⟨by simp [k.1],fun i a b ha hb => ?_⟩
 rw [Array.getElem?_push] at ha hb
 rw [← k.1] at hb
 split at ha
 · rename_i hi
   rw [if_pos hi] at hb
   cases ha; cases hb; exact h
 · rename_i hi
   rw [if_neg hi] at hb
   exact k.2 i a b ha hb
theorem AR.one {X:Cx} {B:Lk} {v v':Value} (h:VR X B v v'):AR X B #[v] #[v']:=AR.push AR.nil h
theorem AR.append {X:Cx} {B:Lk} {p p' q q':Array Value} (k:AR X B p p') (l:AR X B q q'):AR X B (p ++ q) (p' ++ q'):=by
 refine ⟨by simp [k.1,l.1],fun i a b ha hb => ?_⟩
 rw [Array.getElem?_append] at ha hb
 rw [← k.1] at hb
 split at ha
 · rename_i hi
   rw [if_pos hi] at hb
   exact k.2 i a b ha hb
 · rename_i hi
   rw [if_neg hi] at hb
   exact l.2 _ a b ha hb
theorem AR.set {X:Cx} {B:Lk} {p p':Array Value} (k:AR X B p p') (i:Nat) {v v':Value} (h:VR X B v v'):AR X B (p.setIfInBounds i v) (p'.setIfInBounds i v'):=by
 refine ⟨by simp [k.1],fun j a b ha hb => ?_⟩
 rw [Array.getElem?_setIfInBounds] at ha hb
 rw [← k.1] at hb
 split at ha
 · rename_i hi
   rw [if_pos hi] at hb
   split at ha
   · rename_i hl
     rw [if_pos hl] at hb
     cases ha; cases hb; exact h
   · cases ha
 · rename_i hi
   rw [if_neg hi] at hb
   exact k.2 j a b ha hb
theorem AR.extract {X:Cx} {B:Lk} {p p':Array Value} (k:AR X B p p') (i j:Nat):AR X B (p.extract i j) (p'.extract i j):=by
 refine ⟨by simp [k.1],fun n a b ha hb => ?_⟩
 rw [Array.getElem?_extract] at ha hb
 rw [← k.1] at hb
 split at ha
 · rename_i hi
   rw [if_pos hi] at hb
   exact k.2 _ a b ha hb
 · cases ha
theorem AR.map {X:Cx} {B:Lk} {ι:Type} (l:Array ι) {f g:ι → Value} (h:∀ x ∈ l,VR X B (f x) (g x)):AR X B (l.map f) (l.map g):=by
 refine ⟨by simp,fun i a b ha hb => ?_⟩
 simp only [Array.getElem?_map,Option.map_eq_some_iff] at ha hb
 obtain ⟨x,hx,rfl⟩:=ha
 obtain ⟨y,hy,rfl⟩:=hb
 cases hx.symm.trans hy
 exact h x (Array.mem_of_getElem? hx)
theorem AR.replicate {X:Cx} {B:Lk} (n:Nat) {v v':Value} (h:VR X B v v'):AR X B (Array.replicate n v) (Array.replicate n v'):=by
 refine ⟨by simp,fun i a b ha hb => ?_⟩
 rw [Array.getElem?_replicate] at ha hb
 split at ha
 · rename_i hi
   rw [if_pos hi] at hb
   cases ha; cases hb; exact h
 · cases ha
theorem AR.getD {X:Cx} {B:Lk} {p p':Array Value} (k:AR X B p p') (i:Nat) {d d':Value} (h:VR X B d d'):VR X B (p.getD i d) (p'.getD i d'):=by
 rw [Array.getD_eq_getD_getElem?,Array.getD_eq_getD_getElem?]
 rcases k.get i with ⟨v,v',h1,h2,h3⟩ | ⟨h1,h2⟩
 · rw [h1,h2]; exact h3
 · rw [h1,h2]; exact h
theorem undefR {X:Cx} {B:Lk}:VR X B undef undef:=.tuple rfl (fun i v v' a _ => by simp at a)
theorem VR.cells {X:Cx} {B:Lk} {v v':Value} (h:VR X B v v'):AR X B v.cells v'.cells:=by
 cases h with
 | agg h1 h2 => exact ⟨h1,h2⟩
 | _ => exact AR.one (by constructor <;> assumption)
inductive LR (X:Cx) (B:Lk):List Value → List Value → Prop
 | nil:LR X B [] []
 | cons {v v':Value} {l l':List Value}:VR X B v v' → LR X B l l' → LR X B (v :: l) (v' :: l')
theorem LR.of {X:Cx} {B:Lk}:∀ {l l':List Value},l.length=l'.length → (∀ (i:Nat) v v',l[i]?=some v → l'[i]?=some v' → VR X B v v') → LR X B l l'
 | [],[],_,_ => .nil
 | v :: l,v' :: l',hl,h => .cons (h 0 v v' rfl rfl) (LR.of (by simpa using hl) fun i a b ha hb => h (i + 1) a b (by simpa using ha) (by simpa using hb))
 | [],_ :: _,hl,_ => by simp at hl
 | _ :: _,[],hl,_ => by simp at hl
theorem AR.toList {X:Cx} {B:Lk} {p p':Array Value} (k:AR X B p p'):LR X B p.toList p'.toList :=
 LR.of (by simpa using k.1) fun i v v' a b => k.2 i v v' (by simpa using a) (by simpa using b)
theorem LR.mono {X:Cx} {B B':Lk} (h:Le B B') {l l':List Value} (k:LR X B l l'):LR X B' l l':=by
 induction k with
 | nil => exact .nil
 | cons a _ ih => exact .cons (a.mono h) ih
def BiOk:Builtin → Bool
 | .append | .cap | .close | .complex | .imag | .len | .max | .min | .real => true
 | _ => false
inductive TgR (X:Cx) (B:Lk):Target → Target → Prop
 | fn {f f':Fn} {p p':Array Value}:FnR X B f f' → AR X B p p' → TgR X B (.fn f p) (.fn f' p')
 | nil:TgR X B .nil .nil
 | builtin (b:Builtin) (ts:Array TypeId) (t:TypeId) (cs:Array Bool):BiOk b=true → TgR X B (.builtin b ts t cs) (.builtin b ts t cs)
 | collected {r r':Nat}:B r r' → TgR X B (.collected r) (.collected r')
theorem TgR.mono {X:Cx} {B B':Lk} (h:Le B B') {t t':Target} (k:TgR X B t t'):TgR X B' t t':=by
 cases k with
 | fn f p => exact .fn (f.mono h) (p.mono h)
 | nil => exact .nil
 | builtin b ts t cs h => exact .builtin b ts t cs h
 | collected r => exact .collected (h _ _ r)
def DfR (X:Cx) (B:Lk) (d d':Deferred):Prop:=TgR X B d.target d'.target ∧ AR X B d.args d'.args
theorem DfR.mono {X:Cx} {B B':Lk} (h:Le B B') {d d':Deferred} (k:DfR X B d d'):DfR X B' d d':=⟨k.1.mono h,k.2.mono h⟩
inductive DsR (X:Cx) (B:Lk):List Deferred → List Deferred → Prop
 | nil:DsR X B [] []
 | cons {d d':Deferred} {l l':List Deferred}:(X.Dn ∨ ∃ r,d.target=.collected r) → DfR X B d d' → DsR X B l l' → DsR X B (d :: l) (d' :: l')
theorem DsR.mono {X:Cx} {B B':Lk} (h:Le B B') {l l':List Deferred} (k:DsR X B l l'):DsR X B' l l':=by
 induction k with
 | nil => exact .nil
 | cons q a _ ih => exact .cons q (a.mono h) ih
theorem DsR.append {X:Cx} {B:Lk} {l l' m m':List Deferred} (h:DsR X B l l') (k:DsR X B m m'):DsR X B (l ++ m) (l' ++ m'):=by
 induction h with
 | nil => exact k
 | cons q a _ ih => exact .cons q a ih
def OpdOk (X:Cx):Operand → Prop
 | .tmp _ => True
 | .const v => Flat X v
 | .global g => X.G g
 | .func f => X.C f ∧ ¬ X.T f
def CdR (X:Cx):Code → Code → Prop
 | .refuse why,d => why = "unsupported: a function without a Go body is entered" ∨ X.R why d
 | .region id ops q,d => d=.region id ops q ∧ ∀ o ∈ ops,X.K o
 | .seq a b,d => ∃ a' b',d=.seq a' b' ∧ CdR X a a' ∧ CdR X b b'
 | .cond c a b,d => ∃ a' b',d=.cond c a' b' ∧ OpdOk X c ∧ CdR X a a' ∧ CdR X b b'
 | .rangeFunc f p a b,d => ∃ a' b',d=.rangeFunc f p a' b' ∧ OpdOk X f ∧ CdR X a a' ∧ CdR X b b'
 | .block i c,d => ∃ c',d=.block i c' ∧ CdR X c c'
 | .loop c,d => ∃ c',d=.loop c' ∧ CdR X c c'
 | .scope c,d => ∃ c',d=.scope c' ∧ CdR X c c'
 | .goto _,_ => False
 | .skip,d => d=.skip
 | .ret,d => d=.ret
 | .exit i,d => d=.exit i
 | .label i,d => d=.label i
structure LpR (X:Cx) (B:Lk) (l l':Loop):Prop where
 state:l'.state=l.state
 pending:l'.pending=l.pending
 pok:∀ c,l.pending=some c → CdR X c c
 fn:l'.fn=l.fn
 tmps:AR X B l.tmps l'.tmps
 params:l'.params=l.params
 assign:CdR X l.assign l'.assign
 body:CdR X l.body l'.body
 defers:B l.defers l'.defers
theorem LpR.mono {X:Cx} {B B':Lk} (h:Le B B') {l l':Loop} (k:LpR X B l l'):LpR X B' l l' :=
 ⟨k.state,k.pending,k.pok,k.fn,k.tmps.mono h,k.params,k.assign,k.body,h _ _ k.defers⟩
inductive ObR (X:Cx) (B:Lk):Obj → Obj → Prop
 | cells {c c':Array Value} (t:TypeId) (f:Nat × Nat):AR X B c c' → ObR X B (.cells c t f) (.cells c' t f)
 | chan (cap:Nat) {b b':Array Value} (cl:Bool) (s r:Nat) (tm:Bool):AR X B b b' → ObR X B (.chan cap b cl s r tm) (.chan cap b' cl s r tm)
 | number {a a':Addr} (l:Bool):AdR X B a a' → ObR X B (.number a l) (.number a' l)
 | stringIter (s:ByteArray) (p:Nat):ObR X B (.stringIter s p) (.stringIter s p)
 | loop {l l':Loop}:LpR X B l l' → ObR X B (.loop l) (.loop l')
 | dnone:ObR X B (.deferred none) (.deferred none)
 | dsome {l l':List Deferred}:DsR X B l l' → ObR X B (.deferred (some l)) (.deferred (some l'))
theorem ObR.mono {X:Cx} {B B':Lk} (h:Le B B') {o o':Obj} (k:ObR X B o o'):ObR X B' o o':=by
 cases k with
 | cells t f a => exact .cells t f (a.mono h)
 | chan cap cl s r tm a => exact .chan cap cl s r tm (a.mono h)
 | number l a => exact .number l (a.mono h)
 | stringIter s p => exact .stringIter s p
 | loop a => exact .loop (a.mono h)
 | dnone => exact .dnone
 | dsome a => exact .dsome (a.mono h)
def PR (X:Cx) (B:Lk) (l:Nat) (p p':Array Value):Prop:=p.size ≤ p'.size ∧ ∀ (i:Nat) v v',l ≤ i → p[i]?=some v → p'[i]?=some v' → VR X B v v'
theorem PR.mono {X:Cx} {B B':Lk} (h:Le B B') {l:Nat} {p p':Array Value} (k:PR X B l p p'):PR X B' l p p':=⟨k.1,fun i v v' g a b => (k.2 i v v' g a b).mono h⟩
theorem AR.part {X:Cx} {B:Lk} {p p':Array Value} (k:AR X B p p') (l:Nat):PR X B l p p':=⟨Nat.le_of_eq k.1,fun i v v' _ a b => k.2 i v v' a b⟩
theorem PR.get {X:Cx} {B:Lk} {l:Nat} {p p':Array Value} (k:PR X B l p p') (i:Nat) (h:l ≤ i):(∃ v v',p[i]?=some v ∧ p'[i]?=some v' ∧ VR X B v v') ∨ p[i]?=none:=by
 rcases Nat.lt_or_ge i p.size with g | g
 · have h':i < p'.size:=Nat.lt_of_lt_of_le g k.1
   exact .inl ⟨p[i],p'[i],Array.getElem?_eq_getElem g,Array.getElem?_eq_getElem h',k.2 i _ _ h (Array.getElem?_eq_getElem g) (Array.getElem?_eq_getElem h')⟩
 · exact .inr (Array.getElem?_eq_none g)
def TyR (X:Cx) (b:Nat) (t t':TypeId) (n:Nat):Prop:=(X.L b ≠ 0 ∧ X.N ≤ b ∧ X.Z t) ∨ ((X.L b=0 ∨ b < X.N) ∧ t'=t ∧ (X.L b=0 ∨ X.Mv t n (X.L b)))
theorem TyR.same {X:Cx} {b:Nat} {t:TypeId} {n:Nat} (h:X.L b=0):TyR X b t t n:=.inr ⟨.inl h,rfl,.inl h⟩
structure WR (X:Cx) (B:Lk) (V W:World):Prop where
 tape:W.tape=V.tape
 drawn:W.drawn=V.drawn
 os:W.os=V.os
 output:W.output=V.output
 fn:∀ b b₁ b₂,B b b₁ → B b b₂ → b₁=b₂
 inj:∀ b₁ b₂ b',B b₁ b' → B b₂ b' → b₁=b₂
 glob:∀ g,X.G g → B g g
 live:∀ b b',B b b' → ¬ X.D b → ¬ X.F b → ∃ o o',V.heap[b]?=some o ∧ W.heap[b']?=some o' ∧ ObR X B o o'
 froz:∀ b b',B b b' → ¬ X.D b → X.F b → ∃ c c' t t' f,V.heap[b]?=some (.cells c t (0,c.size)) ∧ W.heap[b']?=some (.cells c' t' f) ∧ PR X B (X.L b) c c' ∧ TyR X b t t' c.size
 dead:∀ b b',B b b' → X.D b → (∃ t,V.heap[b]?=some (.cells #[] t)) ∧ b' < W.heap.size
 dlt:∀ b,X.D b → b < V.heap.size
 flt:∀ b,X.F b → b < V.heap.size
 low:∀ b b',B b b' → (b < X.N ↔ b' < X.N)
 nV:X.N ≤ V.heap.size
 nW:X.N ≤ W.heap.size
theorem WR.ltV {X:Cx} {B:Lk} {V W:World} (h:WR X B V W) {b b':Nat} (k:B b b'):b < V.heap.size:=by
 by_cases d:X.D b
 · exact h.dlt b d
 · by_cases f:X.F b
   · exact h.flt b f
   · obtain ⟨o,o',e,_⟩:=h.live b b' k d f
     exact (Array.getElem?_eq_some_iff.1 e).1
theorem WR.ltW {X:Cx} {B:Lk} {V W:World} (h:WR X B V W) {b b':Nat} (k:B b b'):b' < W.heap.size:=by
 by_cases d:X.D b
 · exact (h.dead b b' k d).2
 · by_cases f:X.F b
   · obtain ⟨_,_,_,_,_,_,e,_⟩:=h.froz b b' k d f
     exact (Array.getElem?_eq_some_iff.1 e).1
   · obtain ⟨o,o',_,e,_⟩:=h.live b b' k d f
     exact (Array.getElem?_eq_some_iff.1 e).1
structure Ext (X:Cx) (B:Lk) (V W:World) (B':Lk) (V' W':World):Prop where
 le:Le B B'
 new:∀ b b',B' b b' → B b b' ∨ (V.heap.size ≤ b ∧ W.heap.size ≤ b')
 sizeV:V.heap.size ≤ V'.heap.size
 sizeW:W.heap.size ≤ W'.heap.size
 tape:W'.tape=W.tape
 osV:V'.os=V.os ∧ V'.output=V.output
 kept:∀ b',b' < W.heap.size → (∀ b,B b b' → X.D b ∨ X.F b) → W'.heap[b']?=W.heap[b']?
theorem Ext.refl (X:Cx) (B:Lk) (V W:World):Ext X B V W B V W:=⟨Le.refl _,fun _ _ h => .inl h,Nat.le_refl _,Nat.le_refl _,rfl,⟨rfl,rfl⟩,fun _ _ _ => rfl⟩
theorem Ext.trans {X:Cx} {B B' B'':Lk} {V V' V'' W W' W'':World} (h:Ext X B V W B' V' W') (k:Ext X B' V' W' B'' V'' W''):Ext X B V W B'' V'' W'' where
 le:=h.le.trans k.le
 new b b' x:=by
   rcases k.new b b' x with y | ⟨y1,y2⟩
   · exact h.new b b' y
   · exact .inr ⟨Nat.le_trans h.sizeV y1,Nat.le_trans h.sizeW y2⟩
 sizeV:=Nat.le_trans h.sizeV k.sizeV
 sizeW:=Nat.le_trans h.sizeW k.sizeW
 tape:=k.tape.trans h.tape
 osV:=⟨k.osV.1.trans h.osV.1,k.osV.2.trans h.osV.2⟩
 kept b' hb hd:=by
   rw [k.kept b' (Nat.lt_of_lt_of_le hb h.sizeW) (fun b x => ?_)]
   · exact h.kept b' hb hd
   · rcases h.new b b' x with y | ⟨_,y⟩
     · exact hd b y
     · omega
def EvOk (X:Cx) (B:Lk) (e:Event):Prop :=
 match e.loc with
 | .cell a => (∃ b,B b a.block ∧ ¬ X.D b ∧ (e.write=true → ¬ X.F b)) ∧ e.sync=false
 | .obj r => (∃ b,B b r ∧ ¬ X.D b ∧ ¬ X.F b)
 | .mark m => m=.noRoom ∨ ∃ f,m=.extern f
 | _ => False
theorem EvOk.mono {X:Cx} {B B':Lk} (h:Le B B') {e:Event} (k:EvOk X B e):EvOk X B' e:=by
 unfold EvOk at *
 split <;> simp_all only
 · obtain ⟨⟨b,h1,h2⟩,h3⟩:=k
   exact ⟨⟨b,h _ _ h1,h2⟩,trivial⟩
 · obtain ⟨b,h1,h2⟩:=k
   exact ⟨b,h _ _ h1,h2⟩
end Go.Proofs.YthhfljldbfgpcaaGreatDoor.Lr
end
