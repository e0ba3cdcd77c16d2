/- Merged texts: BiZ, BjA. -/
import Derived.Test.YthhfljldbfgpcaaGreatDoorT14
import Derived.RegionIn
import Derived.Test.YthhfljldbfgpcaaGreatDoorT11
set_option linter.all false
section
namespace Go.Proofs.YthhfljldbfgpcaaGreatDoor
open Go.RowKit
attribute [local go_sem] Oper.semAt_some
structure EscK (w:World) (lb:Nat) (a b c d:Int) (M k:Nat) (W:World):Prop where
 las:W.heap[lb]?=some (.cells #[.int .i64 M] 3 (0,0))
 par:∃ y:Int,W.heap[lb + 1]?=some (.cells #[.int .i64 y] 3 (0,0))
 who:W.heap[lb + 1 + 1]?=some (.cells #[.int .i64 (-1)] 3 (0,0))
 orb:OrbK (lb + 1 + 1 + 1) a b c d k W
 no:∀ i,i < k → outB ⟨a,b,c,d⟩ i=false
 old:Below w.heap.size w W
theorem far_blk {W W':World} {row:Option Nat} {B k:Nat} {o:Obj} (hk:W.heap[k]?=some o) (hg:W.grownBy W' row) (hr:∀ r,row=some r → B ≤ r) (hB:k < B):W'.heap[k]?=some o :=
 (hg.block k (Array.getElem?_eq_some_iff.1 hk).1 (fun e => by have:=hr k e.symm; omega)).trans hk
theorem EscK.own {w:World} {lb:Nat} {a b c d:Int} {M B:Nat} (hl:w.heap.size ≤ lb) (hB:lb + 1 + 1 + 1 < B):OwnAll B (EscK w lb a b c d M):=by
 intro k W W' row h hg hr
 obtain ⟨y,hp⟩:=h.par
 exact ⟨far_blk h.las hg hr (by omega),⟨y,far_blk hp hg hr (by omega)⟩,far_blk h.who hg hr (by omega),far_blk h.orb hg hr hB,h.no,h.old.grown hg h.old.size (fun j e => by have:=hr j e; omega)⟩
theorem EscK.start {w w1:World} (hb:Below w.heap.size w w1) (a b c d:Int) (M:Nat):EscK w w1.heap.size a b c d M 0 ((((w1.alloc (.cells #[.int .i64 M] 3)).alloc (.cells #[.int .i64 (-1)] 3)).alloc (.cells #[.int .i64 (-1)] 3)).alloc (.cells #[.int .i64 a,.int .i64 b,.int .i64 c,.int .i64 d] 62)):=by
 have new:∀ (W:World) (C:Array Value) (t:TypeId),(W.alloc (.cells C t)).heap[W.heap.size]?=some (.cells C t (0,0)):=fun W C t => World.alloc_heap_new W _
 have far:∀ (W:World) (C:Array Value) (t:TypeId) (k:Nat) (o:Obj),W.heap[k]?=some o → (W.alloc (.cells C t)).heap[k]?=some o:=fun W C t k o h => (Below.heap_alloc W _ k (Array.getElem?_eq_some_iff.1 h).1).trans h
 have n0:=new w1 #[.int .i64 M] 3
 have n1:=new (w1.alloc (.cells #[.int .i64 M] 3)) #[.int .i64 (-1)] 3
 have n2:=new ((w1.alloc (.cells #[.int .i64 M] 3)).alloc (.cells #[.int .i64 (-1)] 3)) #[.int .i64 (-1)] 3
 have n3:=new (((w1.alloc (.cells #[.int .i64 M] 3)).alloc (.cells #[.int .i64 (-1)] 3)).alloc (.cells #[.int .i64 (-1)] 3)) #[.int .i64 a,.int .i64 b,.int .i64 c,.int .i64 d] 62
 simp only [World.size_alloc] at n1 n2 n3
 refine ⟨far _ _ _ _ _ (far _ _ _ _ _ (far _ _ _ _ _ n0)),⟨-1,far _ _ _ _ _ (far _ _ _ _ _ n1)⟩,far _ _ _ _ _ n2,n3,fun j hj => by omega,?_⟩
 have:=hb.size
 exact (((hb.alloc this _).alloc (by simp; omega) _).alloc (by simp; omega) _).alloc (by simp; omega) _
structure EscL (w:World) (lb:Nat) (x:Bx) (M:Nat) (W:World):Prop where
 res:∃ y z:Int,W.heap[lb + 1]?=some (.cells #[.int .i64 y] 3 (0,0)) ∧ W.heap[lb + 1 + 1]?=some (.cells #[.int .i64 z] 3 (0,0)) ∧ EscOK x M z
 old:Below w.heap.size w W
def EscXK (w:World) (lb:Nat) (x:Bx) (M:Nat) (cd:Code) (_:Nat) (W:World):Prop:=cd=Code.exit 0 ∧ EscL w lb x M W
theorem EscXK.own {w:World} {lb:Nat} {x:Bx} {M B:Nat} (hl:w.heap.size ≤ lb) (hB:lb + 1 + 1 + 1 < B) (cd:Code):OwnFrom B (EscXK w lb x M cd):=by
 rintro k W W' row ⟨h0,⟨y,z,h1,h2,h3⟩,h4⟩ hg hr
 have hr:=fun r e => (hr r e).1
 exact ⟨h0,⟨y,z,far_blk h1 hg hr (by omega),far_blk h2 hg hr (by omega),h3⟩,h4.grown hg h4.size (fun j e => by have:=hr j e; omega)⟩
def EscA (w:World) (lb:Nat) (a b c d n:Int) (M:Nat) (k:Nat) (_:Array Value) (a₁:Act) (W:World):Prop :=
 ∃ (tb:Nat) (p q r s:Int),a₁={ tmps:=#[.agg #[.int .i64 a,.int .i64 b,.int .i64 c,.int .i64 d],.int .i64 n,.pointer (some ⟨w.heap.size,0,none⟩),undef,.int .i64 0,.int .i64 0,.bool false,.pointer (some ⟨lb,0,none⟩),.pointer (some ⟨lb + 1,0,none⟩),.pointer (some ⟨lb + 1 + 1,0,none⟩),.int .i64 k,.pointer (some ⟨tb,0,none⟩),undef,.agg #[.int .i64 a,.int .i64 b,.int .i64 c,.int .i64 d],.bool true,.bool false,.int .i64 n,.int .i64 M,.agg #[.int .i64 a,.int .i64 b,.int .i64 c,.int .i64 d],.func (.func 106) #[] #[.pointer (some ⟨lb + 1 + 1 + 1,0,none⟩)],.int .i64 k,.agg #[.int .i64 p,.int .i64 q,.int .i64 r,.int .i64 s],undef,undef,undef,undef,undef,undef,undef,undef,undef,undef,undef,undef,undef,undef,undef,undef,undef,undef,undef,undef],defers:=[] } ∧ lb + 1 + 1 + 1 < tb ∧ W.heap[tb]?=some (.cells #[.int .i64 p,.int .i64 q,.int .i64 r,.int .i64 s] 62 (0,0)) ∧ orbB ⟨a,b,c,d⟩ k=some ⟨p,q,r,s⟩ ∧ EscK w lb a b c d M k W
theorem EscA.own {w:World} {lb:Nat} {a b c d n:Int} {M B:Nat} (hl:w.heap.size ≤ lb) (hB:lb + 1 + 1 + 1 < B) (v:Array Value) (a₁:Act):OwnFrom B (fun k W => EscA w lb a b c d n M k v a₁ W):=by
 rintro k W W' row ⟨tb,p,q,r,s,h1,h2,h3,h4,h5⟩ hg hr
 exact ⟨tb,p,q,r,s,h1,h2,own_blk h3 rfl hg (fun r e => (hr r e).2),h4,(EscK.own hl hB).from k W W' row h5 hg hr⟩
set_option maxRecDepth 100000 in
set_option maxHeartbeats 4000000 in
theorem implBoxEsc_is (a b c d n:Int) (hv:boxOK a b c d=true) (w:World):Calls Vp.prog 74 #[.agg #[.int .i64 a,.int .i64 b,.int .i64 c,.int .i64 d],.int .i64 n] w fun e w' => (∃ (x y:Int),e=.returned (.tuple #[.int .i64 x,.int .i64 y,.bool true]) ∧ EscOK ⟨a,b,c,d⟩ (mostN n).toNat y) ∧ Below w.heap.size w w':=by
 obtain ⟨M,hM,hM4⟩:∃ M:Nat,mostN n=M ∧ M ≤ 400:=by
   have:=mostN_bd n
   exact ⟨(mostN n).toNat,by omega,by omega⟩
 have HMM:Hid ((mostN n).toNat=M):=by show (mostN n).toNat=M; omega
 rw [HMM.out]
 have HS:=Lib.hid (stepsOf_is n)
 rw [hM] at HS
 have HVA:=Lib.hid (implValid_is a b c d)
 rw [hv] at HVA
 have HV:=Lib.hid hv
 clear hM HMM hv
 have X:=Box.new w #[.int .i64 a,.int .i64 b,.int .i64 c,.int .i64 d] 62
 have x0:=X.cell 0 _ rfl
 have x1:=X.cell 1 _ rfl
 have x2:=X.cell 2 _ rfl
 have x3:=X.cell 3 _ rfl
 refine (callsIn_wide (n:=3)).1 ?_
 refine callsIn_of_wp_marks Vp.func74 rfl trivial ?_ rfl
 simp only [Tryz.ntmps74,List.size_toArray,List.length_cons,List.length_nil,Nat.reduceAdd,Nat.reduceSub,Array.replicate_succ,Array.replicate_zero,List.push_toArray,List.append_toArray,List.nil_append,List.cons_append]
 gi_wp2_with fail
 refine ⟨trivial,?_⟩
 refine (callsIn_wide.2 (HVA.out _)).mono ?_
 rintro e w1 ⟨rfl,hb⟩
 clear x0 x1 x2 x3
 replace X:=X.step hb
 clear hb
 gi_wp2_with fail
 refine ⟨trivial,?_⟩
 refine (callsIn_wide.2 (HS.out _)).mono ?_
 rintro e w2 ⟨rfl,rfl⟩
 obtain ⟨lb,hlb⟩:∃ lb,w1.heap.size=lb:=⟨_,rfl⟩
 have hbw:=X.old
 have hXl:w.heap.size ≤ lb:=by have:=hbw.size; omega
 replace X:=((X.alloc (.cells #[.int .i64 M] 3)).alloc (.cells #[.int .i64 (-1)] 3)).alloc (.cells #[.int .i64 (-1)] 3)
 have x0:=X.cell 0 _ rfl
 have x1:=X.cell 1 _ rfl
 have x2:=X.cell 2 _ rfl
 have x3:=X.cell 3 _ rfl
 gi_wp2_with fail
 refine ⟨trivial,?_⟩
 refine (callsIn_wide.2 (boxesOf_any a b c d _)).mono ?_
 rintro e w2 ⟨rfl,rfl⟩
 have H0:=Lib.hid (EscK.start hbw a b c d M)
 rw [hlb] at H0
 clear x0 x1 x2 x3 X
 gi_wp2_with fail
 refine wpIn_iterK rfl (by decide) (gf:=106) (lb:=#[.pointer (some ⟨lb + 1 + 1 + 1,0,none⟩)]) ?g0 trivial (enters_of Vp.func106 (by kernel_rfl) rfl)
   (boxes_iters _ a b c d (lb + 1 + 1 + 1) (M + 1) HV.out (by decide) (by omega)) (fun k v h => by obtain ⟨p,q,r,s,rfl,-⟩:=h; rfl) (EscK w lb a b c d M) (EscXK w lb ⟨a,b,c,d⟩ M)
   (EscK.own hXl (by simp [hlb])) (EscXK.own hXl (by simp [hlb])) (fun k A h => h.orb) H0.out (EscA w lb a b c d n M) (EscA.own hXl (by simp [hlb]))
   ?assign ?body ?done ?stop
 case g0 => rfl
 case assign =>
   rintro l k v W K hk ⟨p,q,r,s,rfl,ho⟩ h hK
   have HK:=Lib.hid hK
   have HH:=Lib.hid h
   have HO:=Lib.hid ho
   clear h ho hK
   gi_wp2
   refine HK.out _ _ ?_ ⟨W.heap.size,p,q,r,s,rfl,?_,World.alloc_heap_new W _,HO.out,?_⟩
   · exact Aloft.grown (World.grownBy_alloc W _ none) (fun r e => by cases e)
   · exact (Array.getElem?_eq_some_iff.1 HH.out.orb).1
   · exact (EscK.own hXl (Nat.lt_succ_self _)) k W _ none HH.out (World.grownBy_alloc W _ none) (fun r e => by cases e)
 case body =>
   rintro l k v a₁ W hk - ⟨tb,p,q,r,s,rfl,htb,hT,ho,h⟩
   obtain ⟨y,hp⟩:=h.par
   have B0:Box w lb #[.int .i64 M] 3 W:=⟨h.las,h.old⟩
   have c0:=B0.cell 0 _ rfl
   clear B0
   by_cases hkm:k=M + 1
   · subst hkm
     have HX:Hid (EscXK w lb ⟨a,b,c,d⟩ M (Code.exit 0) (M + 1) W):=⟨rfl,⟨y,-1,hp,h.who,EscOK.full (by omega) h.no⟩,h.old⟩
     clear h hp hT ho
     gi_wp2
     exact ⟨Aloft.refl _ _,HX.out⟩
   · have hkM:k ≤ M:=by omega
     have hk1:((k:Int) ≤ M):=by omega
     clear hkm
     have hz:boxOK p q r s=true:=orbB_ok ho
     have hzB:=Bx.bd (x:=⟨p,q,r,s⟩) hz
     dsimp only at hzB
     obtain ⟨g1,g2,g3,g4,g5,g6⟩:=hzB
     have HSP:=Lib.hid (boxSpans_is p q r s)
     have HNO:=Lib.hid (spNorm_is p q r s (by omega) (by omega) (by omega) (by omega) (by omega) (by omega) (by omega) (by omega))
     obtain ⟨lo,elo⟩:∃ x,nLo ⟨p,q,r,s⟩=x:=⟨_,rfl⟩
     obtain ⟨hi,ehi⟩:∃ x,nHi ⟨p,q,r,s⟩=x:=⟨_,rfl⟩
     rw [elo,ehi] at HNO
     have ELO:=Lib.hid elo
     clear elo ehi hz g1 g2 g3 g4 g5 g6
     have HO:=Lib.hid ho
     have T7:Box w tb #[.int .i64 p,.int .i64 q,.int .i64 r,.int .i64 s] 62 W:=⟨hT,h.old⟩
     have t0:=T7.cell 0 _ rfl
     have t1:=T7.cell 1 _ rfl
     have t2:=T7.cell 2 _ rfl
     have t3:=T7.cell 3 _ rfl
     clear T7 hT ho hp
     have HH:=Lib.hid h
     clear h
     gi_wp2_with fail
     refine ⟨trivial,?_⟩
     refine (CallsIn.inRound l (callsIn_wide.2 (HSP.out W))).mono ?_
     rintro e W2 ⟨rfl,hb2⟩
     gi_wp2_with fail
     refine ⟨trivial,?_⟩
     refine (CallsIn.inRound l (callsIn_wide.2 (HNO.out W2))).mono ?_
     rintro e W3 ⟨rfl,hb3⟩
     have hb:=hb2.trans (hb3.mono hb2.size)
     have hI:=EscK.own hXl (Nat.lt_succ_self _) k W W3 none HH.out (below_grownBy hb none) (fun r e => by cases e)
     have hlt3:=(Array.getElem?_eq_some_iff.1 hI.orb).1
     have hJ:=hI
     have hal:Aloft (lb + 1 + 1 + 1) W W3:=Aloft.of_below hb
     have HAL:=Lib.hid hal
     clear t0 t1 t2 t3 c0 hb2 hb3 hb HH hal
     obtain ⟨y,hp⟩:=hJ.par
     have U:Box w W3.heap.size #[.int .i64 lo,.int .i64 hi] 81 (W3.alloc (.cells #[.int .i64 lo,.int .i64 hi] 81)):=(Box.new W3 _ _).up hI.old
     have B1:Box w (lb + 1) #[.int .i64 y] 3 W3:=⟨hp,hJ.old⟩
     have B2:Box w (lb + 1 + 1) #[.int .i64 (-1)] 3 W3:=⟨hJ.who,hJ.old⟩
     have hsz:W3.heap.size < (W3.alloc (.cells #[.int .i64 lo,.int .i64 hi] 81)).heap.size:=U.lt
     have hne1:lb + 1 < W3.heap.size:=by omega
     have hne2:lb + 1 + 1 < W3.heap.size:=by omega
     have u0:=U.cell 0 _ rfl
     have u1:=U.cell 1 _ rfl
     have y0:=B1.cell 0 _ rfl
     have f1:=B1.frozen 0
     have f2:=B2.frozen 0
     have z0:=B2.cell 0 _ rfl
     have U':=Box.new (W3.setCell ⟨lb + 1,0,none⟩ (.int .i64 k)) #[.int .i64 lo,.int .i64 hi] 81
     simp only [World.size_setCell] at U'
     have v0:=U'.cell 0 _ rfl
     have v1:=U'.cell 1 _ rfl
     clear U B1 B2 U' hI hp
     have HJ:=Lib.hid hJ
     clear hJ
     
     have HS1:Hid (∀ W',EscK w lb a b c d M k W' → EscK w lb a b c d M k (W'.setCell ⟨lb + 1,0,none⟩ (.int .i64 k))):=fun W' h => by
       obtain ⟨y',hy'⟩:=h.par
       have hB:Box w (lb + 1) #[.int .i64 y'] 3 W':=⟨hy',h.old⟩
       refine ⟨(Below.heap_setCell _ _ _ _ (by simp <;> omega)).trans h.las,⟨k,(hB.set (by omega) 0 (.int .i64 k)).blk⟩,(Below.heap_setCell _ _ _ _ (by simp <;> omega)).trans h.who,(Below.heap_setCell _ _ _ _ (by simp <;> omega)).trans h.orb,h.no,h.old.setCell (p:=⟨lb + 1,0,none⟩) (by simp; omega) _⟩
     have HS2:Hid (∀ W',EscK w lb a b c d M k W' → (1125899906842624:Int) < lo → EscXK w lb ⟨a,b,c,d⟩ M (Code.exit 0) k (W'.setCell ⟨lb + 1 + 1,0,none⟩ (.int .i64 k))):=fun W' h hlo => by
       obtain ⟨y',hy'⟩:=h.par
       have hB:Box w (lb + 1 + 1) #[.int .i64 (-1)] 3 W':=⟨h.who,h.old⟩
       exact ⟨rfl,⟨y',k,(Below.heap_setCell _ _ _ _ (by simp <;> omega)).trans hy',(hB.set (by omega) 0 (.int .i64 k)).blk,EscOK.hit hkM HO.out (by rw [ELO.out]; exact hlo)⟩,h.old.setCell (p:=⟨lb + 1 + 1,0,none⟩) (by simp; omega) _⟩
     have HS3:Hid (∀ W',EscK w lb a b c d M k W' → ¬ (1125899906842624:Int) < lo → EscK w lb a b c d M (k + 1) W'):=fun W' h hlo => by
       refine ⟨h.las,h.par,h.who,h.orb,fun i hi => ?_,h.old⟩
       by_cases e:i=k
       · rw [e]; exact out_not HO.out (by rw [ELO.out]; exact hlo)
       · exact h.no i (by omega)
     have HA1:Hid (∀ (W':World) (v:Value),Aloft (lb + 1 + 1 + 1) W' (W'.setCell ⟨lb + 1,0,none⟩ v)):=fun W' v => Aloft.grown (set_grown W' _ v) (fun r e => by cases e; show lb + 1 < _; omega)
     have HA2:Hid (∀ (W':World) (v:Value),Aloft (lb + 1 + 1 + 1) W' (W'.setCell ⟨lb + 1 + 1,0,none⟩ v)):=fun W' v => Aloft.grown (set_grown W' _ v) (fun r e => by cases e; show lb + 1 + 1 < _; omega)
     have HKA:Hid (∀ k W' o,EscK w lb a b c d M k W' → EscK w lb a b c d M k (W'.alloc o)):=fun k W' o h => EscK.own hXl (Nat.lt_succ_self _) k W' _ none h (World.grownBy_alloc W' _ none) (fun r e => by cases e)
     have HXA:Hid (∀ k W' o,EscXK w lb ⟨a,b,c,d⟩ M (Code.exit 0) k W' → EscXK w lb ⟨a,b,c,d⟩ M (Code.exit 0) k (W'.alloc o)):=fun k W' o h => EscXK.own hXl (Nat.lt_succ_self _) _ k W' _ none h (World.grownBy_alloc W' _ none) (fun r e => by cases e)
     have HA0:Hid (∀ (W':World) (o:Obj),Aloft (lb + 1 + 1 + 1) W' (W'.alloc o)):=fun W' o => Aloft.grown (World.grownBy_alloc W' _ none) (fun r e => by cases e)
     by_cases hlo:(1125899906842624:Int) < lo
     · have HLO:=Lib.hid hlo
       by_cases hy:y < 0
       · by_cases hh:(1125899906842624:Int) < hi
         · gi_wp2
           exact ⟨(((HAL.out.trans (HA1.out _ _)).trans (HA2.out _ _)).trans (HA0.out _ _)).up (by simp [hlb]),HXA.out _ _ _ (HS2.out _ (HS1.out _ HJ.out) HLO.out)⟩
         · gi_wp2
           exact ⟨((HAL.out.trans (HA2.out _ _)).trans (HA0.out _ _)).up (by simp [hlb]),HXA.out _ _ _ (HS2.out _ HJ.out HLO.out)⟩
       · gi_wp2
         exact ⟨((HAL.out.trans (HA2.out _ _)).trans (HA0.out _ _)).up (by simp [hlb]),HXA.out _ _ _ (HS2.out _ HJ.out HLO.out)⟩
     · have HLO:=Lib.hid hlo
       by_cases hy:y < 0
       · by_cases hh:(1125899906842624:Int) < hi
         · gi_wp2
           exact ⟨((HAL.out.trans (HA1.out _ _)).trans (HA0.out _ _)).up (by simp [hlb]),by omega,HKA.out _ _ _ (HS3.out _ (HS1.out _ HJ.out) HLO.out)⟩
         · gi_wp2
           exact ⟨(HAL.out.trans (HA0.out _ _)).up (by simp [hlb]),by omega,HKA.out _ _ _ (HS3.out _ HJ.out HLO.out)⟩
       · gi_wp2
         exact ⟨(HAL.out.trans (HA0.out _ _)).up (by simp [hlb]),by omega,HKA.out _ _ _ (HS3.out _ HJ.out HLO.out)⟩
 case done =>
   intro D k W hD hk hf h hdef
   obtain ⟨y,hp⟩:=h.par
   have HL:Hid (EscL w lb ⟨a,b,c,d⟩ M W):=⟨⟨y,-1,hp,h.who,.inr ⟨whB_no fun i _ => by
     rcases Nat.lt_or_ge i k with g | g
     · exact h.no i g
     · exact orb_none hf i g,rfl⟩⟩,h.old⟩
   clear h hp
   obtain ⟨⟨y,z,h1,h2,h3⟩,h4⟩:=HL.out
   have B1:Box w (lb + 1) #[.int .i64 y] 3 W:=⟨h1,h4⟩
   have B2:Box w (lb + 1 + 1) #[.int .i64 z] 3 W:=⟨h2,h4⟩
   have y0:=B1.cell 0 _ rfl
   have z0:=B2.cell 0 _ rfl
   have HE:=Lib.hid h3
   have HO:=Lib.hid h4
   clear HL h1 h2 h3 h4 B1 B2
   gi_wp2
   gi_region
   all_goals gi_wp2
   all_goals
     refine ⟨by simp,.inl ⟨_,_,rfl,run_takeDeferred (by first | exact hdef | exact (Drw.refl _).drew.heap ▸ hdef),?_⟩⟩
     refine ⟨.tuple #[.int .i64 y,.int .i64 z,.bool true],by simp [results,Tryz.f74,go_sem],?_⟩
     exact ⟨⟨y,z,rfl,HE.out⟩,(HO.out.trans ((Drw.refl W).drew.below _)).grown (row:=some D) (grownBy_putObj' _ D _) HO.out.size (fun j e => by injection e with e; simp [hlb] at hD; omega)⟩
 case stop =>
   rintro D cd k W hD hk ⟨rfl,h⟩ hdef
   have HL:=Lib.hid h
   clear h
   obtain ⟨⟨y,z,h1,h2,h3⟩,h4⟩:=HL.out
   have B1:Box w (lb + 1) #[.int .i64 y] 3 W:=⟨h1,h4⟩
   have B2:Box w (lb + 1 + 1) #[.int .i64 z] 3 W:=⟨h2,h4⟩
   have y0:=B1.cell 0 _ rfl
   have z0:=B2.cell 0 _ rfl
   have HE:=Lib.hid h3
   have HO:=Lib.hid h4
   clear HL h1 h2 h3 h4 B1 B2
   gi_wp2
   gi_region
   all_goals gi_wp2
   all_goals
     refine ⟨by simp,.inl ⟨_,_,rfl,run_takeDeferred (by first | exact hdef | exact (Drw.refl _).drew.heap ▸ hdef),?_⟩⟩
     refine ⟨.tuple #[.int .i64 y,.int .i64 z,.bool true],by simp [results,Tryz.f74,go_sem],?_⟩
     exact ⟨⟨y,z,rfl,HE.out⟩,(HO.out.trans ((Drw.refl W).drew.below _)).grown (row:=some D) (grownBy_putObj' _ D _) HO.out.size (fun j e => by injection e with e; simp [hlb] at hD; omega)⟩
end Go.Proofs.YthhfljldbfgpcaaGreatDoor
end

section
namespace Go.Proofs.YthhfljldbfgpcaaGreatDoor
open Go.RowKit
set_option maxHeartbeats 4000000 in
theorem implCell_is (a b c d n:Int) (hv:boxOK a b c d=true) (w:World):Calls Vp.prog 41 #[.agg #[.int .i64 a,.int .i64 b,.int .i64 c,.int .i64 d],.int .i64 n] w fun e w' => e=.returned (.tuple #[.int .i64 (stB ⟨a,b,c,d⟩ (mostN n).toNat),.bool true]) ∧ Below w.heap.size w w':=by
 have HCA:=Lib.hid (implCard_is a b c d hv)
 have HDI:=Lib.hid (implDisc_is a b c d hv)
 have HES:=Lib.hid (implBoxEsc_is a b c d n hv)
 have HST:Hid (∀ S,stB ⟨a,b,c,d⟩ (mostN n).toNat=S → S=if cardB ⟨a,b,c,d⟩ ≤ 0 ∨ discB ⟨a,b,c,d⟩ ≤ 0 then 1 else if whB ⟨a,b,c,d⟩ (mostN n).toNat=true then -1 else 0):=fun S h => h.symm
 obtain ⟨S,hS⟩:∃ S,stB ⟨a,b,c,d⟩ (mostN n).toNat=S:=⟨_,rfl⟩
 have HS:=Lib.hid (HST.out S hS)
 rw [hS]
 clear hS HST hv
 generalize cardB ⟨a,b,c,d⟩=x at *
 generalize discB ⟨a,b,c,d⟩=y at *
 have X:=Box.new w #[.int .i64 a,.int .i64 b,.int .i64 c,.int .i64 d] 62
 have x0:=X.cell 0 _ rfl
 have x1:=X.cell 1 _ rfl
 have x2:=X.cell 2 _ rfl
 have x3:=X.cell 3 _ rfl
 go_enter Vp.func41,Tryz.ntmps41
 go_wp2_with fail
 refine (HCA.out _).mono ?_
 rintro e w1 ⟨rfl,hb⟩
 clear x0 x1 x2 x3
 replace X:=X.step hb
 clear hb
 have x0:=X.cell 0 _ rfl
 have x1:=X.cell 1 _ rfl
 have x2:=X.cell 2 _ rfl
 have x3:=X.cell 3 _ rfl
 go_wp2_with fail
 refine (HDI.out _).mono ?_
 rintro e w2 ⟨rfl,hb⟩
 clear x0 x1 x2 x3
 replace X:=X.step hb
 clear hb
 have hs:=HS.out
 by_cases hx:x ≤ 0
 · rw [if_pos (.inl hx)] at hs
   subst hs
   have HB:=Lib.hid X.old
   clear X
   go_wp2
   exact bodyPost_ret (v:=.tuple #[.int .i64 1,.bool true]) (by simp [results,Tryz.f41,go_sem]) rfl ⟨rfl,HB.out⟩
 · by_cases hy:y ≤ 0
   · rw [if_pos (.inr hy)] at hs
     subst hs
     have HB:=Lib.hid X.old
     clear X
     go_wp2
     exact bodyPost_ret (v:=.tuple #[.int .i64 1,.bool true]) (by simp [results,Tryz.f41,go_sem]) rfl ⟨rfl,HB.out⟩
   · rw [if_neg (by omega)] at hs
     have x0:=X.cell 0 _ rfl
     have x1:=X.cell 1 _ rfl
     have x2:=X.cell 2 _ rfl
     have x3:=X.cell 3 _ rfl
     have hs':=Lib.hid hs
     clear hs
     go_wp2_with fail
     refine (HES.out _).mono ?_
     rintro e w3 ⟨⟨u,k,rfl,hk⟩,hb⟩
     have HK:=Lib.hid hk
     clear hk
     have HB:=Lib.hid (X.step hb).old
     clear x0 x1 x2 x3 X hb
     have hs:=hs'.out
     clear hs'
     by_cases hk:k=-1
     · rw [if_neg (by rcases HK.out with h | h; · omega
                      · rw [h.1]; simp)] at hs
       subst hs
       go_wp2
       exact bodyPost_ret (v:=.tuple #[.int .i64 0,.bool true]) (by simp [results,Tryz.f41,go_sem]) rfl ⟨rfl,HB.out⟩
     · rw [if_pos (by rcases HK.out with h | h; · exact h.1
                      · omega)] at hs
       subst hs
       go_wp2
       exact bodyPost_ret (v:=.tuple #[.int .i64 (-1),.bool true]) (by simp [results,Tryz.f41,go_sem]) rfl ⟨rfl,HB.out⟩
end Go.Proofs.YthhfljldbfgpcaaGreatDoor
end
