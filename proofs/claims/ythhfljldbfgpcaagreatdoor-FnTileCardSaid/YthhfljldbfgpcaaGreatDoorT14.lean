/- Merged texts: TilY, BiY. -/
import Derived.Test.YthhfljldbfgpcaaGreatDoorT9
import Derived.Test.YthhfljldbfgpcaaGreatDoorT13
import Derived.Lib.FrozenHead
import Derived.Shelf.Abstract
import Derived.Test.YthhfljldbfgpcaaGreatDoorT12
import Derived.Test.YthhfljldbfgpcaaGreatDoorT10
import Derived.Sort.QuietThIn
set_option linter.all false
section
namespace Go.Proofs.YthhfljldbfgpcaaGreatDoor
open Go.RowKit Flo
attribute [local go_sem] Oper.semAt_some
theorem run_st_float (P:Program) (w:World) (a:Addr) (m:Mode) (k:FloatKind) (b:Nat):(store a (.float k b) m).run P w=stored P w a (.float k b) m:=run_store P w a _ m rfl
attribute [local go_sem] run_st_float
theorem Drw.grown {a b:World} (h:Drw a b) {row:Option Nat}:a.grownBy b row:=by
 obtain ⟨n,rfl⟩:=h
 exact ⟨rfl,rfl,rfl,Nat.le_refl _,fun _ _ _ => rfl⟩
set_option maxHeartbeats 400000 in
theorem stepsOf_is (n:Int) (w:World):Calls Vp.prog 66 #[.int .i64 n] w fun e w' => e=.returned (.int .i64 (mostN n)) ∧ w=w':=by
 go_enter Vp.func66,Tryz.ntmps66
 go_wp2
 all_goals
   go_ret
   exact ⟨ret_int (by unfold mostN; omega),rfl⟩
set_option maxHeartbeats 400000 in
theorem orbitS_any (c d g:Nat) (w:World):Calls Vp.prog 67 #[.complex .f32 c d,.func (.func g) #[] #[]] w fun e w' => e=.returned (.func (.func 88) #[] #[.pointer (some ⟨w.heap.size + 1,0,none⟩),.pointer (some ⟨w.heap.size,0,none⟩)]) ∧ (w.alloc (.cells #[.complex .f32 c d] 23)).alloc (.cells #[.func (.func g) #[] #[]] 78)=w':=by
 go_enter Vp.func67,Tryz.ntmps67
 go_wp2
 go_ret
 exact ⟨rfl,rfl⟩
structure OrbS (Bc:Nat) (c d:Nat) (k:Nat) (A:World):Prop where
 num:A.heap[Bc]?=some (.cells #[.complex .f32 c d] 23 (0,0))
 stp:A.heap[Bc + 1]?=some (.cells #[.func (.func 37) #[] #[]] 78 (0,0))
 ok:∀ j,j < k → okS c d j=true
def YldS (c d:Nat) (k:Nat) (v:Array Value):Prop:=∃ x y:Nat,v=#[.int .i64 k,.complex .f32 x y] ∧ x < 4294967296 ∧ y < 4294967296 ∧ Al .f32 (orbS c d k).1 x ∧ Al .f32 (orbS c d k).2 y
set_option maxHeartbeats 1000000 in
theorem orbS_iters (n c d Bc N:Nat) (hn:1 ≤ n) (hN:N ≤ 1048576) :
   ItersR Fence.wide n Vp.prog 88 #[.pointer (some ⟨Bc + 1,0,none⟩),.pointer (some ⟨Bc,0,none⟩)] (YldS c d) (fun _ => False) N (OrbS Bc c d):=by
 intro l J Jx W hJb hJg hY hJ0
 refine callsIn_of_wp Vp.func88 rfl trivial ?_ rfl
 simp only [Tryz.ntmps88,List.size_toArray,List.length_cons,List.length_nil,Nat.reduceAdd,Nat.reduceSub,Array.replicate_succ,Array.replicate_zero,List.push_toArray,List.append_toArray,List.nil_append,List.cons_append]
 gi_wp2
 gi_loopw [4,5] (fun z i wr => ∃ k x y:Nat,k ≤ N ∧ i=.int .i64 k ∧ z=.complex .f32 x y ∧ x < 4294967296 ∧ y < 4294967296 ∧ Hid (Al .f32 (orbS c d k).1 x ∧ Al .f32 (orbS c d k).2 y) ∧ J k wr) (fun _ i _ => (N + 1 - intOf i).toNat)
 case atStart => exact ⟨0,0,0,Nat.zero_le _,rfl,rfl,by omega,by omega,⟨Al.refl _ _,Al.refl _ _⟩,hJ0⟩
 case round =>
   obtain ⟨k,x,y,hk,rfl,rfl,hx,hy,HA,hJ⟩:=hrel
   obtain ⟨fn,tmps,assign,body,hy',hR⟩:=hY k _ wr hk ⟨x,y,rfl,hx,hy,HA.out.1,HA.out.2⟩ hJ
   gi_wp2
   refine hR.mono ?_
   rintro e W3 (⟨rfl,hkN,hJ3⟩ | ⟨rfl,hJx⟩)
   · have K:=hJb _ _ hJ3
     have c0:W3.cell? ⟨Bc,0,none⟩=some (.complex .f32 c d):=by rw [Lib.cell_of_heap K.num]; rfl
     have c1:W3.cell? ⟨Bc + 1,0,none⟩=some (.func (.func 37) #[] #[]):=by rw [Lib.cell_of_heap K.stp]; rfl
     have ho:=K.ok k (by omega)
     unfold okS at ho
     have e1:=Al.same HA.out.1 (fin_num (fin_left ho))
     have e2:=Al.same HA.out.2 (fin_num (fin_right ho))
     have HP:Hid ((x,y)=orbS c d k):=by show _=_; rw [e1,e2]
     rw [← e1,← e2] at ho
     have HO:=Lib.hid ho
     clear ho e1 e2 HA K
     gi_wp2_with (refine ⟨trivial,?_⟩; gi_at_call 37; refine (callsIn_wide.2 (implStepS_al x y c d hx hy HO.out _)).mono ?_; rintro e W4 ⟨⟨a,b,rfl,ha,hb,aa,ab⟩,hd⟩; have HQ:Hid (Al .f32 (orbS c d (k + 1)).1 a ∧ Al .f32 (orbS c d (k + 1)).2 b):=(by rw [HP.out] at aa ab; exact ⟨aa,ab⟩); have HJ4:=Lib.hid (hJg (k + 1) W3 W4 hJ3 hd.grown); clear aa ab hd)
     go_roundw
     case rel => exact ⟨k + 1,a,b,by omega,by go_num,rfl,ha,hb,HQ,HJ4.out⟩
     case measure => simp [intOf]; omega
   · gi_wp2
     go_end0
     exact ⟨⟨_,rfl⟩,.inl ⟨k,hk,hJx⟩⟩
theorem own_blk {W W':World} {row:Option Nat} {k:Nat} {o:Obj} (hk:W.heap[k]?=some o) (ho:o.isCells=true) (hg:W.grownBy W' row) (hr:∀ r,row=some r → ∃ o:Obj,W.heap[r]?=some o ∧ o.isCells=false):W'.heap[k]?=some o:=by
 refine (hg.block k (Array.getElem?_eq_some_iff.1 hk).1 (fun e => ?_)).trans hk
 obtain ⟨o',h1,h2⟩:=hr k e.symm
 rw [hk] at h1
 cases h1
 rw [ho] at h2
 cases h2
def EscS (c d:Nat) (n:Int) (w:World) (e:Ending) (w':World):Prop :=
 (∃ (k:Int) (nm:Nat),e=.returned (.tuple #[.int .i64 k,.float .f64 nm]) ∧ IsEsc (okS c d) (mostN n) k ∧ nm < 18446744073709551616 ∧ (0 ≤ k → Al .f64 (normC (widenC (orbS c d k.toNat).1) (widenC (orbS c d k.toNat).2)) nm)) ∧ Below w.heap.size w w'
structure EscInvS (w:World) (c d M k:Nat) (W:World):Prop where
 r0:W.heap[w.heap.size]?=some (.cells #[.int .i64 0] 3 (0,0))
 r1:W.heap[w.heap.size + 1]?=some (.cells #[.float .f64 0] 68 (0,0))
 las:W.heap[w.heap.size + 1 + 1]?=some (.cells #[.int .i64 M] 3 (0,0))
 orb:OrbS (w.heap.size + 1 + 1 + 1) c d k W
 old:Below w.heap.size w W
theorem EscInvS.own {w:World} {c d M B:Nat} (hB:w.heap.size ≤ B):OwnFrom B (EscInvS w c d M):=by
 intro k W W' row h hg hr
 have hr':∀ r,row=some r → ∃ o:Obj,W.heap[r]?=some o ∧ o.isCells=false:=fun r e => (hr r e).2
 exact ⟨own_blk h.r0 rfl hg hr',own_blk h.r1 rfl hg hr',own_blk h.las rfl hg hr',⟨own_blk h.orb.num rfl hg hr',own_blk h.orb.stp rfl hg hr',h.orb.ok⟩,h.old.grown hg h.old.size (fun j e => Nat.le_trans hB (hr j e).1)⟩
structure EscRetS (w:World) (c d M k:Nat) (W:World):Prop where
 ex:∃ nm:Nat,W.heap[w.heap.size]?=some (.cells #[.int .i64 k] 3 (0,0)) ∧ W.heap[w.heap.size + 1]?=some (.cells #[.float .f64 nm] 68 (0,0)) ∧ nm < 18446744073709551616 ∧ Al .f64 (normC (widenC (orbS c d k).1) (widenC (orbS c d k).2)) nm
 no:okS c d k=false
 ok:∀ j,j < k → okS c d j=true
 le:k ≤ M
 old:Below w.heap.size w W
theorem EscRetS.own {w:World} {c d M B:Nat} (hB:w.heap.size ≤ B):OwnFrom B (EscRetS w c d M):=by
 intro k W W' row h hg hr
 have hr':∀ r,row=some r → ∃ o:Obj,W.heap[r]?=some o ∧ o.isCells=false:=fun r e => (hr r e).2
 obtain ⟨⟨nm,a,b,e⟩,h1,h2,h3,h4⟩:=h
 exact ⟨⟨nm,own_blk a rfl hg hr',own_blk b rfl hg hr',e⟩,h1,h2,h3,h4.grown hg h4.size (fun j e => Nat.le_trans hB (hr j e).1)⟩
theorem EscInvS.start (w:World) (c d M:Nat):EscInvS w c d M 0 (((((w.alloc (.cells #[.int .i64 0] 3)).alloc (.cells #[.float .f64 0] 68)).alloc (.cells #[.int .i64 M] 3)).alloc (.cells #[.complex .f32 c d] 23)).alloc (.cells #[.func (.func 37) #[] #[]] 78)):=by
 have new:∀ (W:World) (C:Array Value) (t:TypeId),(W.alloc (.cells C t)).heap[W.heap.size]?=some (.cells C t (0,0)):=fun W C t => World.alloc_heap_new W _
 have far:∀ (W:World) (C:Array Value) (t:TypeId) (k:Nat) (o:Obj),W.heap[k]?=some o → (W.alloc (.cells C t)).heap[k]?=some o:=fun W C t k o h => (Below.heap_alloc W _ k (Array.getElem?_eq_some_iff.1 h).1).trans h
 have n0:=new w #[.int .i64 0] 3
 have n1:=new (w.alloc (.cells #[.int .i64 0] 3)) #[.float .f64 0] 68
 have n2:=new ((w.alloc (.cells #[.int .i64 0] 3)).alloc (.cells #[.float .f64 0] 68)) #[.int .i64 M] 3
 have n3:=new (((w.alloc (.cells #[.int .i64 0] 3)).alloc (.cells #[.float .f64 0] 68)).alloc (.cells #[.int .i64 M] 3)) #[.complex .f32 c d] 23
 have n4:=new ((((w.alloc (.cells #[.int .i64 0] 3)).alloc (.cells #[.float .f64 0] 68)).alloc (.cells #[.int .i64 M] 3)).alloc (.cells #[.complex .f32 c d] 23)) #[.func (.func 37) #[] #[]] 78
 simp only [World.size_alloc] at n1 n2 n3 n4
 refine ⟨far _ _ _ _ _ (far _ _ _ _ _ (far _ _ _ _ _ (far _ _ _ _ _ n0))),far _ _ _ _ _ (far _ _ _ _ _ (far _ _ _ _ _ n1)),far _ _ _ _ _ (far _ _ _ _ _ n2),⟨far _ _ _ _ _ n3,n4,fun j hj => by omega⟩,?_⟩
 exact (((((Below.refl _ w).alloc (Nat.le_refl _) _).alloc (by simp) _).alloc (by simp; omega) _).alloc (by simp; omega) _).alloc (by simp; omega) _
def EscXS (w:World) (c d M:Nat) (cd:Code) (k:Nat) (W:World):Prop:=(cd=Code.exit 0 ∧ k=M + 1 ∧ EscInvS w c d M k W) ∨ (cd=Code.ret ∧ EscRetS w c d M k W)
theorem EscXS.own {w:World} {c d M B:Nat} (hB:w.heap.size ≤ B) (cd:Code):OwnFrom B (EscXS w c d M cd):=by
 intro k W W' row h hg hr
 rcases h with ⟨h1,h2,h3⟩ | ⟨h1,h3⟩
 · exact .inl ⟨h1,h2,EscInvS.own hB k W W' row h3 hg hr⟩
 · exact .inr ⟨h1,EscRetS.own hB k W W' row h3 hg hr⟩
set_option maxRecDepth 100000 in
set_option maxHeartbeats 1000000 in
theorem escS_is (c d:Nat) (n:Int) (w:World):Calls Vp.prog 36 #[.complex .f32 c d,.int .i64 n,.func (.func 37) #[] #[]] w (EscS c d n w):=by
 obtain ⟨M,hM,hM4⟩:∃ M:Nat,mostN n=M ∧ M ≤ 400:=by
   have:=mostN_bd n
   exact ⟨(mostN n).toNat,by omega,by omega⟩
 have HS:=Lib.hid (stepsOf_is n)
 rw [hM] at HS
 have H0:=Lib.hid (EscInvS.start w c d M)
 have HM:=Lib.hid hM
 clear hM
 refine (callsIn_wide (n:=3)).1 ?_
 refine callsIn_of_wp_marks Vp.func36 rfl trivial ?_ rfl
 simp only [Tryz.ntmps36,List.size_toArray,List.length_cons,List.length_nil,Nat.reduceAdd,Nat.reduceSub,Array.replicate_succ,Array.replicate_zero,List.push_toArray,List.append_toArray,List.nil_append,List.cons_append]
 gi_wp2_with (first | (refine ⟨trivial,?_⟩; gi_at_call 66; refine (callsIn_wide.2 (HS.out _)).mono ?_; rintro e w1 ⟨rfl,rfl⟩) | (refine ⟨trivial,?_⟩; gi_at_call 67; refine (callsIn_wide.2 (orbitS_any _ _ _ _)).mono ?_; rintro e w1 ⟨rfl,rfl⟩))
 refine wpIn_scope ?_
 gi_wp2_with (first | (refine ⟨trivial,?_⟩; gi_at_call 66; refine (callsIn_wide.2 (HS.out _)).mono ?_; rintro e w1 ⟨rfl,rfl⟩) | (refine ⟨trivial,?_⟩; gi_at_call 67; refine (callsIn_wide.2 (orbitS_any _ _ _ _)).mono ?_; rintro e w1 ⟨rfl,rfl⟩))
 refine wpIn_label ?_
 gi_wp2_with (first | (refine ⟨trivial,?_⟩; gi_at_call 66; refine (callsIn_wide.2 (HS.out _)).mono ?_; rintro e w1 ⟨rfl,rfl⟩) | (refine ⟨trivial,?_⟩; gi_at_call 67; refine (callsIn_wide.2 (orbitS_any _ _ _ _)).mono ?_; rintro e w1 ⟨rfl,rfl⟩))
 refine wpIn_iterR rfl (by decide) (gf:=88) (lb:=#[.pointer (some ⟨w.heap.size + 1 + 1 + 1 + 1,0,none⟩),.pointer (some ⟨w.heap.size + 1 + 1 + 1,0,none⟩)]) ?g0 trivial (enters_of Vp.func88 (by kernel_rfl) rfl)
   (orbS_iters _ c d (w.heap.size + 1 + 1 + 1) (M + 1) (by decide) (by omega)) (fun k v h => by obtain ⟨x,y,rfl,-⟩:=h; rfl) (EscInvS w c d M) (EscXS w c d M)
   (EscInvS.own (by simp; omega)) (EscXS.own (by simp; omega)) (fun k A h => h.orb) H0.out
   (fun k v => { tmps:=#[.complex .f32 c d,.int .i64 n,.func (.func 37) #[] #[],undef,undef,undef,.pointer (some ⟨w.heap.size,0,none⟩),.pointer (some ⟨w.heap.size + 1,0,none⟩),.pointer (some ⟨w.heap.size + 1 + 1,0,none⟩),v.getD 0 undef,v.getD 1 undef,undef,.int .i64 n,.int .i64 M,.complex .f32 c d,.func (.func 37) #[] #[],
     .func (.func 88) #[] #[.pointer (some ⟨w.heap.size + 1 + 1 + 1 + 1,0,none⟩),.pointer (some ⟨w.heap.size + 1 + 1 + 1,0,none⟩)],v.getD 0 undef,v.getD 1 undef,undef,undef,undef,undef,undef,undef,undef,undef,undef,undef,undef],defers:=[] })
   ?assign ?body ?done ?stop
 case g0 => rfl
 case assign =>
   rintro l k v W K ⟨x,y,rfl,-⟩ hK
   gi_wp2
   exact hK
 case body =>
   rintro l k v W hk ⟨x,y,rfl,hx,hy,ax,ay⟩ h
   have c0:W.cell? ⟨w.heap.size + 1 + 1,0,none⟩=some (.int .i64 M):=by rw [Lib.cell_of_heap h.las]; rfl
   by_cases hkm:k=M + 1
   · subst hkm
     have HX:Hid (EscXS w c d M (Code.exit 0) (M + 1) W):=.inl ⟨rfl,rfl,h⟩
     clear h ax ay
     gi_wp2
     exact ⟨KeepsFrom.refl _ _,HX.out⟩
   · have hkM:k ≤ M:=by omega
     have HH:=Lib.hid h
     have HAX:=Lib.hid ax
     have HAY:=Lib.hid ay
     have hk1:((k:Int) ≤ M):=by omega
     clear h ax ay hkm
     gi_wp2_with fail
     refine ⟨trivial,?_⟩
     refine (CallsIn.inRound l (callsIn_wide.2 (inWidthW_al x y hx hy W))).mono ?_
     rintro e W2 ⟨⟨p,q,rfl,-,-,ap,aq⟩,hd⟩
     have HP:=Lib.hid (normC_al ap aq)
     have HD:=Lib.hid hd
     clear ap aq hd
     gi_wp2_with fail
     refine ⟨trivial,?_⟩
     refine (CallsIn.inRound l (callsIn_wide.2 (implNorm_al p q W2))).mono ?_
     rintro e W3 ⟨⟨m,rfl,hm,am⟩,hd⟩
     have HD3:=Lib.hid (HD.out.trans hd)
     have HN:Hid (Al .f64 (normC (widenC (orbS c d k).1) (widenC (orbS c d k).2)) m):=by
       show Al _ _ _
       rw [widenC_al HAX.out,widenC_al HAY.out,HP.out]; exact am
     clear am hd HD
     have I3:=EscInvS.own (c:=c) (d:=d) (M:=M) (Nat.le_refl _) k W W3 none HH.out HD3.out.grown (fun r e => by cases e)
     have HK:Hid (le4 m=okS c d k):=by
       show _=_
       unfold okS
       exact (le4_al HN.out).symm
     have hb:=HK.out
     unfold le4 at hb
     have HKF:Hid (∀ W' B,w.heap.size + 1 < B → (∀ j,j ≠ w.heap.size → j ≠ w.heap.size + 1 → W3.heap[j]?=W'.heap[j]?) → W3.heap.size ≤ W'.heap.size → KeepsFrom B W W'):=fun W' B hB h1 h2 => by
       have hh:=HD3.out.heap
       refine ⟨by rw [← hh]; exact h2,fun j o hj ho _ => ?_⟩
       rw [← h1 j (by omega) (by omega),hh]; exact ho
     cases ho:okS c d k with
     | false =>
       rw [ho] at hb
       have B0:Box w w.heap.size #[.int .i64 0] 3 W3:=⟨I3.r0,I3.old⟩
       have B1:Box w (w.heap.size + 1) #[.float .f64 0] 68 W3:=⟨I3.r1,I3.old⟩
       have c0:=B0.cell 0 _ rfl
       have f0:=B0.frozen 0
       have c1:=B1.cell 0 _ rfl
       have f1:=B1.frozen 0
       have D0:=(B0.set (Nat.le_refl _) 0 (.int .i64 k)).other (p:=⟨w.heap.size + 1,0,none⟩) (by simp) (by simp) (.float .f64 m)
       have D1:=(B1.other (p:=⟨w.heap.size,0,none⟩) (by simp) (by simp) (.int .i64 k)).set (by simp) 0 (.float .f64 m)
       have HX:Hid (EscXS w c d M Code.ret k ((W3.setCell ⟨w.heap.size,0,none⟩ (.int .i64 k)).setCell ⟨w.heap.size + 1,0,none⟩ (.float .f64 m))):=.inr ⟨rfl,⟨⟨m,D0.blk,D1.blk,hm,HN.out⟩,ho,I3.orb.ok,hkM,D1.old⟩⟩
       have HKK:Hid (∀ B,w.heap.size + 1 < B → KeepsFrom B W ((W3.setCell ⟨w.heap.size,0,none⟩ (.int .i64 k)).setCell ⟨w.heap.size + 1,0,none⟩ (.float .f64 m))):=fun B hB => HKF.out _ B hB (fun j h1 h2 => ((Below.heap_setCell _ _ _ _ (by simpa using h2)).trans (Below.heap_setCell _ _ _ _ (by simpa using h1))).symm) (by simp)
       have hlt1:=B1.lt
       clear ho HK HH I3 B0 B1 D0 D1 HKF
       gi_wp2
       exact ⟨HKK.out _ (by simp),HX.out⟩
     | true =>
       rw [ho] at hb
       have HI:Hid (EscInvS w c d M (k + 1) W3):=⟨I3.r0,I3.r1,I3.las,⟨I3.orb.num,I3.orb.stp,fun j hj => by
         by_cases e:j=k
         · rw [e]; exact ho
         · exact I3.orb.ok j (by omega)⟩,I3.old⟩
       have HKK:=Lib.hid (fun B (hB:w.heap.size + 1 < B) => HKF.out W3 B hB (fun _ _ _ => rfl) (Nat.le_refl _))
       clear ho HK HH I3 HKF
       gi_wp2
       exact ⟨HKK.out _ (by simp),by omega,HI.out⟩
 case done =>
   intro D k W hD hk hf
   exact hf.elim
 case stop =>
   rintro D cd k W hD hk h hdef
   rcases h with ⟨rfl,rfl,h⟩ | ⟨rfl,h⟩
   · have B0:Box w w.heap.size #[.int .i64 0] 3 W:=⟨h.r0,h.old⟩
     have B1:Box w (w.heap.size + 1) #[.float .f64 0] 68 W:=⟨h.r1,h.old⟩
     have c0:=B0.cell 0 _ rfl
     have f0:=B0.frozen 0
     have c1:=B1.cell 0 _ rfl
     have f1:=B1.frozen 0
     have hlt1:=B1.lt
     have D0:=(B0.set (Nat.le_refl _) 0 (.int .i64 (-1))).other (p:=⟨w.heap.size + 1,0,none⟩) (by simp) (by simp) (.float .f64 0)
     have D1:=(B1.other (p:=⟨w.heap.size,0,none⟩) (by simp) (by simp) (.int .i64 (-1))).set (by simp) 0 (.float .f64 0)
     have HD0:=Lib.hid D0
     have HD1:=Lib.hid D1
     have HO:=Lib.hid h.orb.ok
     clear h B0 B1 D0 D1
     gi_wp2
     rw [Exit.noGoto_ret]
     have hDlt:w.heap.size + 1 < D:=by simp at hD; omega
     have hdef':((W.setCell ⟨w.heap.size,0,none⟩ (.int .i64 (-1))).setCell ⟨w.heap.size + 1,0,none⟩ (.float .f64 0)).heap[D]?=some (.deferred (some [])):=((Below.heap_setCell _ _ _ _ (by simp; omega)).trans (Below.heap_setCell _ _ _ _ (by simp; omega))).trans hdef
     have z0:(((W.setCell ⟨w.heap.size,0,none⟩ (.int .i64 (-1))).setCell ⟨w.heap.size + 1,0,none⟩ (.float .f64 0)).putObj D (.deferred none)).cell? ⟨w.heap.size,0,none⟩=some (.int .i64 (-1)):=(World.cell?_of_block (World.putObj_heap_other (by simp; omega))).trans (HD0.out.cell 0 _ rfl)
     have z1:(((W.setCell ⟨w.heap.size,0,none⟩ (.int .i64 (-1))).setCell ⟨w.heap.size + 1,0,none⟩ (.float .f64 0)).putObj D (.deferred none)).cell? ⟨w.heap.size + 1,0,none⟩=some (.float .f64 0):=(World.cell?_of_block (World.putObj_heap_other (by simp; omega))).trans (HD1.out.cell 0 _ rfl)
     refine ⟨by simp,.inl ⟨_,_,rfl,run_takeDeferred hdef',?_⟩⟩
     refine ⟨.tuple #[.int .i64 (-1),.float .f64 0],by simp [results,Tryz.f36,go_sem,z0,z1],?_⟩
     refine ⟨⟨-1,0,rfl,.inr ⟨rfl,fun j hj => HO.out j (by have:=HM.out; omega)⟩,by omega,fun h => by omega⟩,?_⟩
     exact HD1.out.old.grown (grownBy_putObj' _ D _) (by have:=HD1.out.old.size; exact this) (fun j e => by cases e; omega)
   · obtain ⟨⟨nm,b0,b1,hnm,hal⟩,hno,hok,hle,hold⟩:=h
     have HB0:Hid (Box w w.heap.size #[.int .i64 k] 3 W):=⟨b0,hold⟩
     have HB1:Hid (Box w (w.heap.size + 1) #[.float .f64 nm] 68 W):=⟨b1,hold⟩
     have HE:Hid (IsEsc (okS c d) (mostN n) k):=.inl ⟨k,rfl,by have:=HM.out; omega,hno,hok⟩
     have HA:=Lib.hid hal
     clear b0 b1 hold hal hno hok
     gi_wp2
     rw [Exit.noGoto_ret]
     have hDlt:w.heap.size + 1 < D:=by simp at hD; omega
     have z0:(W.putObj D (.deferred none)).cell? ⟨w.heap.size,0,none⟩=some (.int .i64 k):=(World.cell?_of_block (World.putObj_heap_other (by simp; omega))).trans (HB0.out.cell 0 _ rfl)
     have z1:(W.putObj D (.deferred none)).cell? ⟨w.heap.size + 1,0,none⟩=some (.float .f64 nm):=(World.cell?_of_block (World.putObj_heap_other (by simp; omega))).trans (HB1.out.cell 0 _ rfl)
     refine ⟨by simp,.inl ⟨_,_,rfl,run_takeDeferred hdef,?_⟩⟩
     refine ⟨.tuple #[.int .i64 k,.float .f64 nm],by simp [results,Tryz.f36,go_sem,z0,z1],?_⟩
     refine ⟨⟨k,nm,rfl,HE.out,hnm,fun _ => by rw [Int.toNat_natCast]; exact HA.out⟩,?_⟩
     exact HB1.out.old.grown (grownBy_putObj' _ D _) HB1.out.old.size (fun j e => by cases e; omega)
def escN (ok:Nat → Bool) (M:Nat):Int:=match (List.range (M + 1)).find? (fun k => !ok k) with | some k => k | none => -1
theorem escN_is (ok:Nat → Bool) (M:Nat):IsEsc ok M (escN ok M):=by
 unfold escN
 cases h:(List.range (M + 1)).find? (fun k => !ok k) with
 | none =>
   refine .inr ⟨rfl,fun j hj => ?_⟩
   have:=(List.find?_eq_none.1 h) j (List.mem_range.2 (by omega))
   simpa using this
 | some k =>
   have h1:=List.mem_of_find?_eq_some h
   have h2:=List.find?_some h
   rw [List.mem_range] at h1
   refine .inl ⟨k,rfl,by omega,by simpa using h2,fun j hj => ?_⟩
   obtain ⟨_,us,vs,hab,hall⟩:=List.find?_eq_some_iff_append.1 h
   have hl:us.length=k:=by
     have h3:(List.range (M + 1))[us.length]?=some k:=by rw [hab]; simp
     rw [List.getElem?_range (by
       have:=congrArg List.length hab
       simp at this
       omega)] at h3
     injection h3
   have h4:j ∈ us:=by
     have h5:(List.range (M + 1))[j]?=some j:=List.getElem?_range (by omega)
     rw [hab,List.getElem?_append_left (by omega)] at h5
     exact List.mem_of_getElem? h5
   simpa using hall j h4
theorem IsEsc.num {ok:Nat → Bool} {M:Nat} {r:Int} (h:IsEsc ok M r):r=escN ok M:=h.eq (escN_is ok M)
theorem IsEsc.most {ok:Nat → Bool} {n r:Int} (h:IsEsc ok (mostN n) r):r=escN ok (mostN n).toNat:=by
 have hb:=mostN_bd n
 have e:mostN n=((mostN n).toNat:Nat):=by omega
 rw [e] at h
 exact h.num
end Go.Proofs.YthhfljldbfgpcaaGreatDoor
end

section
namespace Go.Proofs.YthhfljldbfgpcaaGreatDoor
open Go.RowKit
theorem orb_up {x z:Bx} {k:Nat} {p q r s p2 q2 r2 s2:Int} (h1:orbB x k=some z) (h:z.sq=⟨p,q,r,s⟩) (g:(⟨p + x.a,q + x.b,r + x.c,s + x.d⟩:Bx)=⟨p2,q2,r2,s2⟩) (o1:boxOK p q r s=true) (o2:boxOK p2 q2 r2 s2=true) :
   orbB x (k + 1)=some ⟨p2,q2,r2,s2⟩:=by
 show (orbB x k).bind _=_
 rw [h1]
 show Bx.next x z=_
 unfold Bx.next
 rw [h,if_pos (show Bx.ok ⟨p,q,r,s⟩=true from o1),show Bx.add ⟨p,q,r,s⟩ x=⟨p2,q2,r2,s2⟩ from g,if_pos (show Bx.ok ⟨p2,q2,r2,s2⟩=true from o2)]
theorem set_grown (W:World) (a:Addr) (v:Value):W.grownBy (W.setCell a v) (some a.block) :=
 have h:Below 0 W (W.setCell a v):=(Below.refl 0 W).setCell (Nat.zero_le _) v
 ⟨h.os,h.tape,h.output,h.size,fun k _ hk => Below.heap_setCell _ _ _ _ (fun e => hk (by rw [e]))⟩
theorem grown_trans {A B C:World} {row:Option Nat} (h:A.grownBy B row) (k:B.grownBy C row):A.grownBy C row :=
 ⟨k.os.trans h.os,k.tape.trans h.tape,k.output.trans h.output,Nat.le_trans h.size k.size,fun j hj hr => (k.block j (Nat.lt_of_lt_of_le hj h.size) hr).trans (h.block j hj hr)⟩
theorem set4_grown (W:World) (b:Nat) (u0 u1 u2 u3:Value):W.grownBy ((((W.setCell ⟨b,0,none⟩ u0).setCell ⟨b,1,none⟩ u1).setCell ⟨b,2,none⟩ u2).setCell ⟨b,3,none⟩ u3) (some b) :=
 grown_trans (grown_trans (grown_trans (set_grown W ⟨b,0,none⟩ u0) (set_grown _ ⟨b,1,none⟩ u1)) (set_grown _ ⟨b,2,none⟩ u2)) (set_grown _ ⟨b,3,none⟩ u3)
theorem fill4_blk {W:World} {b:Nat} {v0 v1 v2 v3:Value} {T:TypeId} (h:W.heap[b]?=some (.cells #[v0,v1,v2,v3] T (0,0))) (u0 u1 u2 u3:Value) :
   ((((W.setCell ⟨b,0,none⟩ u0).setCell ⟨b,1,none⟩ u1).setCell ⟨b,2,none⟩ u2).setCell ⟨b,3,none⟩ u3).heap[b]?=some (.cells #[u0,u1,u2,u3] T (0,0)) :=
 (Box.fill4 (w0:={ W with heap:=#[] }) ⟨h,⟨rfl,rfl,rfl,by simp,fun k hk => by simp at hk⟩⟩ (by simp) u0 u1 u2 u3).blk
set_option maxHeartbeats 400000 in
theorem boxesOf_any (a b c d:Int) (w:World):Calls Vp.prog 97 #[.agg #[.int .i64 a,.int .i64 b,.int .i64 c,.int .i64 d]] w fun e w' => e=.returned (.func (.func 106) #[] #[.pointer (some ⟨w.heap.size,0,none⟩)]) ∧ w.alloc (.cells #[.int .i64 a,.int .i64 b,.int .i64 c,.int .i64 d] 62)=w':=by
 go_enter Vp.func97,Tryz.ntmps97
 go_wp2
 go_ret
 exact ⟨rfl,rfl⟩
def OrbK (Bc:Nat) (a b c d:Int) (_:Nat) (A:World):Prop:=A.heap[Bc]?=some (.cells #[.int .i64 a,.int .i64 b,.int .i64 c,.int .i64 d] 62 (0,0))
def YldK (x:Bx) (k:Nat) (v:Array Value):Prop:=∃ p q r s:Int,v=#[.int .i64 k,.agg #[.int .i64 p,.int .i64 q,.int .i64 r,.int .i64 s]] ∧ orbB x k=some ⟨p,q,r,s⟩
set_option maxRecDepth 100000 in
set_option maxHeartbeats 4000000 in
theorem boxes_iters (n:Nat) (a b c d:Int) (Bc N:Nat) (hv:boxOK a b c d=true) (hn:1 ≤ n) (hN:N ≤ 1048576) :
   ItersK Fence.wide n Vp.prog 106 #[.pointer (some ⟨Bc,0,none⟩)] (YldK ⟨a,b,c,d⟩) (fun k => orbB ⟨a,b,c,d⟩ k=none) N (OrbK Bc a b c d):=by
 intro l J Jx W hl hJb hJg hY hJ0
 have HV:=Lib.hid hv
 clear hv
 have hbl:Bc < W.heap.size:=(Array.getElem?_eq_some_iff.1 (hJb 0 W hJ0)).1
 have HJA:Hid (∀ k A o,J k A → J k (A.alloc o)):=fun k A o h => hJg k A _ none h (World.grownBy_alloc A o none) (fun r e => by cases e)
 have HJB:Hid (∀ k A B,J k A → Below A.heap.size A B → J k B):=fun k A B h hb => hJg k A B none h (below_grownBy hb none) (fun r e => by cases e)
 have HJS:Hid (∀ k A u0 u1 u2 u3,J k A → J k ((((A.setCell ⟨W.heap.size,0,none⟩ u0).setCell ⟨W.heap.size,1,none⟩ u1).setCell ⟨W.heap.size,2,none⟩ u2).setCell ⟨W.heap.size,3,none⟩ u3)):=fun k A u0 u1 u2 u3 h => hJg k A _ _ h (set4_grown A W.heap.size u0 u1 u2 u3) (fun r e => by cases e; exact Nat.le_refl _)
 refine callsIn_of_wp Vp.func106 rfl trivial ?_ rfl
 simp only [Tryz.ntmps106,List.size_toArray,List.length_cons,List.length_nil,Nat.reduceAdd,Nat.reduceSub,Array.replicate_succ,Array.replicate_zero,List.push_toArray,List.append_toArray,List.nil_append,List.cons_append]
 have hJ1:=HJA.out 0 W (.cells #[.int .i64 0,.int .i64 0,.int .i64 0,.int .i64 0] 62) hJ0
 have hZ1:(W.alloc (.cells #[.int .i64 0,.int .i64 0,.int .i64 0,.int .i64 0] 62)).heap[W.heap.size]?=some (.cells #[.int .i64 0,.int .i64 0,.int .i64 0,.int .i64 0] 62 (0,0)):=World.alloc_heap_new W _
 gi_wp2
 gi_loopw [4] (fun i wr => ∃ (k:Nat) (p q r s:Int),k ≤ N ∧ i=.int .i64 k ∧ J k wr ∧ wr.heap[W.heap.size]?=some (.cells #[.int .i64 p,.int .i64 q,.int .i64 r,.int .i64 s] 62 (0,0)) ∧ Hid (orbB ⟨a,b,c,d⟩ k=some ⟨p,q,r,s⟩)) (fun i _ => (N + 1 - intOf i).toNat)
 case atStart => exact ⟨0,0,0,0,0,Nat.zero_le _,rfl,hJ1,hZ1,rfl⟩
 case round =>
   clear hJ0 hJ1 hZ1
   obtain ⟨k,p,q,r,s,hk,rfl,hJ,hZ,HO⟩:=hrel
   have Z:Box wr W.heap.size #[.int .i64 p,.int .i64 q,.int .i64 r,.int .i64 s] 62 wr:=⟨hZ,Below.refl _ _⟩
   have z0:=Z.cell 0 _ rfl
   have z1:=Z.cell 1 _ rfl
   have z2:=Z.cell 2 _ rfl
   have z3:=Z.cell 3 _ rfl
   have hlt:=Z.lt
   clear Z
   have hz:boxOK p q r s=true:=orbB_ok HO.out
   obtain ⟨fn,tmps,assign,body,hy',hR⟩:=hY k _ wr hk ⟨p,q,r,s,rfl,HO.out⟩ hJ
   have HSQ:=Lib.hid (implSquare_is p q r s hz)
   obtain ⟨p1,q1,r1,s1,t1,hx1,hok1,hc1⟩:=done_cases (Bx.sq ⟨p,q,r,s⟩)
   rw [hx1] at HSQ
   have HAD:=Lib.hid (implAdd_is p1 q1 r1 s1 a b c d hok1 HV.out)
   obtain ⟨p2,q2,r2,s2,t2,hx2,hok2,hc2⟩:=done_cases ⟨p1 + a,q1 + b,r1 + c,s1 + d⟩
   rw [hx2] at HAD
   have HC1:=Lib.hid hc1
   have HC2:=Lib.hid hc2
   have HO1:=Lib.hid hok1
   have HO2:=Lib.hid hok2
   clear hx1 hx2 hok1 hok2 hc1 hc2 hz
   gi_wp2
   refine hR.mono ?_
   rintro e W3 (⟨rfl,hkN,hal,hJ3⟩ | ⟨rfl,hJx⟩)
   · have Z:Box W3 W.heap.size #[.int .i64 p,.int .i64 q,.int .i64 r,.int .i64 s] 62 W3:=⟨(hal.blk _ (by omega) hlt).trans hZ,Below.refl _ _⟩
     have X:Box W3 Bc #[.int .i64 a,.int .i64 b,.int .i64 c,.int .i64 d] 62 W3:=⟨hJb _ _ hJ3,Below.refl _ _⟩
     clear z0 z1 z2 z3 hJ hZ hy' hR hal
     have z0:=Z.cell 0 _ rfl
     have z1:=Z.cell 1 _ rfl
     have z2:=Z.cell 2 _ rfl
     have z3:=Z.cell 3 _ rfl
     have HJ:=Lib.hid hJ3
     clear hJ3
     gi_wp2_with fail
     refine ⟨trivial,?_⟩
     refine (callsIn_wide.2 (HSQ.out _)).mono ?_
     rintro e w4 ⟨rfl,hb⟩
     clear z0 z1 z2 z3
     replace X:=X.step hb
     replace Z:=Z.step hb
     replace HJ:=Lib.hid (HJB.out _ _ _ HJ.out hb)
     clear hb
     have S:=(Box.new w4 #[.int .i64 p1,.int .i64 q1,.int .i64 r1,.int .i64 s1] 62).up X.old
     replace X:=X.alloc (.cells #[.int .i64 p1,.int .i64 q1,.int .i64 r1,.int .i64 s1] 62)
     replace Z:=Z.alloc (.cells #[.int .i64 p1,.int .i64 q1,.int .i64 r1,.int .i64 s1] 62)
     replace HJ:=Lib.hid (HJA.out _ _ (.cells #[.int .i64 p1,.int .i64 q1,.int .i64 r1,.int .i64 s1] 62) HJ.out)
     have y0:=S.cell 0 _ rfl
     have y1:=S.cell 1 _ rfl
     have y2:=S.cell 2 _ rfl
     have y3:=S.cell 3 _ rfl
     have x0:=X.cell 0 _ rfl
     have x1:=X.cell 1 _ rfl
     have x2:=X.cell 2 _ rfl
     have x3:=X.cell 3 _ rfl
     cases t1 with
     | false =>
       have HE:Hid (orbB ⟨a,b,c,d⟩ (k + 1)=none):=by
         show (orbB ⟨a,b,c,d⟩ k).bind _=none
         rw [HO.out]
         exact next_none1 (HC1.out.resolve_left (fun h => by cases h.1)).2
       clear X Z S
       gi_wp2
       exact bodyPost_ret (results_none rfl _ _ _) rfl ⟨⟨_,rfl⟩,.inr ⟨k + 1,by omega,HE.out,HJ.out⟩⟩
     | true =>
       gi_wp2_with fail
       refine ⟨trivial,?_⟩
       refine (callsIn_wide.2 (HAD.out _)).mono ?_
       rintro e w5 ⟨rfl,hb⟩
       clear x0 x1 x2 x3 y0 y1 y2 y3 S X
       replace Z:=Z.step hb
       replace HJ:=Lib.hid (HJB.out _ _ _ HJ.out hb)
       clear hb
       have Nn:=(Box.new w5 #[.int .i64 p2,.int .i64 q2,.int .i64 r2,.int .i64 s2] 62).up Z.old
       replace Z:=Z.alloc (.cells #[.int .i64 p2,.int .i64 q2,.int .i64 r2,.int .i64 s2] 62)
       replace HJ:=Lib.hid (HJA.out _ _ (.cells #[.int .i64 p2,.int .i64 q2,.int .i64 r2,.int .i64 s2] 62) HJ.out)
       cases t2 with
       | false =>
         have HE:Hid (orbB ⟨a,b,c,d⟩ (k + 1)=none):=by
           show (orbB ⟨a,b,c,d⟩ k).bind _=none
           rw [HO.out]
           exact next_none2 (HC1.out.resolve_right (fun h => by cases h.1)).2 (HC2.out.resolve_left (fun h => by cases h.1)).2
         clear Z Nn
         gi_wp2
         exact bodyPost_ret (results_none rfl _ _ _) rfl ⟨⟨_,rfl⟩,.inr ⟨k + 1,by omega,HE.out,HJ.out⟩⟩
       | true =>
         have HI2:Hid (orbB ⟨a,b,c,d⟩ (k + 1)=some ⟨p2,q2,r2,s2⟩):=orb_up HO.out (HC1.out.resolve_right (fun h => by cases h.1)).2 (HC2.out.resolve_right (fun h => by cases h.1)).2 HO1.out HO2.out
         have n0:=Nn.cell 0 _ rfl
         have n1:=Nn.cell 1 _ rfl
         have n2:=Nn.cell 2 _ rfl
         have n3:=Nn.cell 3 _ rfl
         have z0:=Z.cell 0 _ rfl
         have z1:=Z.cell 1 _ rfl
         have z2:=Z.cell 2 _ rfl
         have z3:=Z.cell 3 _ rfl
         have f0:=Z.frozen 0
         have f1:=Z.frozen 1
         have f2:=Z.frozen 2
         have f3:=Z.frozen 3
         have HZZ:=Lib.hid Z.blk
         clear Z Nn
         gi_wp2
         go_roundw
         case rel => exact ⟨k + 1,p2,q2,r2,s2,by omega,by go_num,HJS.out _ _ _ _ _ _ HJ.out,fill4_blk HZZ.out _ _ _ _,HI2⟩
         case measure => simp [intOf]; omega
   · gi_wp2
     go_end0
     exact ⟨⟨_,rfl⟩,.inl ⟨k,hk,hJx⟩⟩
end Go.Proofs.YthhfljldbfgpcaaGreatDoor
end
