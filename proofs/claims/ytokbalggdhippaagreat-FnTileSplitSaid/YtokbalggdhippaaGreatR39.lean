/- Merged texts: BiZ, BjA, FloM, FlE. -/
import Derived.Test.YtokbalggdhippaaGreatR38
import Derived.RegionIn
import Derived.Test.YtokbalggdhippaaGreatR12
import Derived.Test.YtokbalggdhippaaGreatR9
import Derived.Test.YtokbalggdhippaaGreatR10
import Derived.Test.YtokbalggdhippaaGreatR2
set_option linter.all false
section
namespace Go.Proofs.YtokbalggdhippaaGreat
open Go.RowKit
attribute [local go_sem] Oper.semAt_some
structure EscK (w:World) (lb:Nat) (a b c d:Int) (M k:Nat) (W:World):Prop where
 las:W.heap[lb]?=some (.cells #[.int .i64 M] 3 (0,0))
 par:∃ y:Int,W.heap[lb + 1]?=some (.cells #[.int .i64 y] 3 (0,0))
 who:W.heap[lb + 1 + 1]?=some (.cells #[.int .i64 (-1)] 3 (0,0))
 orb:OrbK (lb + 1 + 1 + 1) a b c d k W
 no:∀ i,i < k → outB ⟨a,b,c,d⟩ i=false
 old:Below w.heap.size w W
theorem far_blk {W W':World} {row:Option Nat} {B k:Nat} {o:Obj} (hk:W.heap[k]?=some o) (hg:W.grownBy W' row) (hr:∀ r,row=some r → B ≤ r) (hB:k < B):W'.heap[k]?=some o :=
 (hg.block k (Array.getElem?_eq_some_iff.1 hk).1 (fun e => by have:=hr k e.symm; omega)).trans hk
theorem EscK.own {w:World} {lb:Nat} {a b c d:Int} {M B:Nat} (hl:w.heap.size ≤ lb) (hB:lb + 1 + 1 + 1 < B):OwnAll B (EscK w lb a b c d M):=by
 intro k W W' row h hg hr
 obtain ⟨y,hp⟩:=h.par
 exact ⟨far_blk h.las hg hr (by omega),⟨y,far_blk hp hg hr (by omega)⟩,far_blk h.who hg hr (by omega),far_blk h.orb hg hr hB,h.no,h.old.grown hg h.old.size (fun j e => by have:=hr j e; omega)⟩
theorem EscK.start {w w1:World} (hb:Below w.heap.size w w1) (a b c d:Int) (M:Nat):EscK w w1.heap.size a b c d M 0 ((((w1.alloc (.cells #[.int .i64 M] 3)).alloc (.cells #[.int .i64 (-1)] 3)).alloc (.cells #[.int .i64 (-1)] 3)).alloc (.cells #[.int .i64 a,.int .i64 b,.int .i64 c,.int .i64 d] 101)):=by
 have new:∀ (W:World) (C:Array Value) (t:TypeId),(W.alloc (.cells C t)).heap[W.heap.size]?=some (.cells C t (0,0)):=fun W C t => World.alloc_heap_new W _
 have far:∀ (W:World) (C:Array Value) (t:TypeId) (k:Nat) (o:Obj),W.heap[k]?=some o → (W.alloc (.cells C t)).heap[k]?=some o:=fun W C t k o h => (Below.heap_alloc W _ k (Array.getElem?_eq_some_iff.1 h).1).trans h
 have n0:=new w1 #[.int .i64 M] 3
 have n1:=new (w1.alloc (.cells #[.int .i64 M] 3)) #[.int .i64 (-1)] 3
 have n2:=new ((w1.alloc (.cells #[.int .i64 M] 3)).alloc (.cells #[.int .i64 (-1)] 3)) #[.int .i64 (-1)] 3
 have n3:=new (((w1.alloc (.cells #[.int .i64 M] 3)).alloc (.cells #[.int .i64 (-1)] 3)).alloc (.cells #[.int .i64 (-1)] 3)) #[.int .i64 a,.int .i64 b,.int .i64 c,.int .i64 d] 101
 simp only [World.size_alloc] at n1 n2 n3
 refine ⟨far _ _ _ _ _ (far _ _ _ _ _ (far _ _ _ _ _ n0)),⟨-1,far _ _ _ _ _ (far _ _ _ _ _ n1)⟩,far _ _ _ _ _ n2,n3,fun j hj => by omega,?_⟩
 have:=hb.size
 exact (((hb.alloc this _).alloc (by simp; omega) _).alloc (by simp; omega) _).alloc (by simp; omega) _
structure EscL (w:World) (lb:Nat) (x:Bx) (M:Nat) (W:World):Prop where
 res:∃ y z:Int,W.heap[lb + 1]?=some (.cells #[.int .i64 y] 3 (0,0)) ∧ W.heap[lb + 1 + 1]?=some (.cells #[.int .i64 z] 3 (0,0)) ∧ EscOK x M z
 old:Below w.heap.size w W
def EscXK (w:World) (lb:Nat) (x:Bx) (M:Nat) (cd:Code) (_:Nat) (W:World):Prop:=cd=Code.exit 0 ∧ EscL w lb x M W
theorem EscXK.own {w:World} {lb:Nat} {x:Bx} {M B:Nat} (hl:w.heap.size ≤ lb) (hB:lb + 1 + 1 + 1 < B) (cd:Code):OwnFrom B (EscXK w lb x M cd):=by
 rintro k W W' row ⟨h0,⟨y,z,h1,h2,h3⟩,h4⟩ hg hr
 have hr:=fun r e => (hr r e).1
 exact ⟨h0,⟨y,z,far_blk h1 hg hr (by omega),far_blk h2 hg hr (by omega),h3⟩,h4.grown hg h4.size (fun j e => by have:=hr j e; omega)⟩
def EscA (w:World) (lb:Nat) (a b c d n:Int) (M:Nat) (k:Nat) (_:Array Value) (a₁:Act) (W:World):Prop :=
 ∃ (tb:Nat) (p q r s:Int),a₁={ tmps:=#[.agg #[.int .i64 a,.int .i64 b,.int .i64 c,.int .i64 d],.int .i64 n,.pointer (some ⟨w.heap.size,0,none⟩),undef,.int .i64 0,.int .i64 0,.bool false,.pointer (some ⟨lb,0,none⟩),.pointer (some ⟨lb + 1,0,none⟩),.pointer (some ⟨lb + 1 + 1,0,none⟩),.int .i64 k,.pointer (some ⟨tb,0,none⟩),undef,.agg #[.int .i64 a,.int .i64 b,.int .i64 c,.int .i64 d],.bool true,.bool false,.int .i64 n,.int .i64 M,.agg #[.int .i64 a,.int .i64 b,.int .i64 c,.int .i64 d],.func (.func 140) #[] #[.pointer (some ⟨lb + 1 + 1 + 1,0,none⟩)],.int .i64 k,.agg #[.int .i64 p,.int .i64 q,.int .i64 r,.int .i64 s],undef,undef,undef,undef,undef,undef,undef,undef,undef,undef,undef,undef,undef,undef,undef,undef,undef,undef,undef,undef],defers:=[] } ∧ lb + 1 + 1 + 1 < tb ∧ W.heap[tb]?=some (.cells #[.int .i64 p,.int .i64 q,.int .i64 r,.int .i64 s] 101 (0,0)) ∧ orbB ⟨a,b,c,d⟩ k=some ⟨p,q,r,s⟩ ∧ EscK w lb a b c d M k W
theorem EscA.own {w:World} {lb:Nat} {a b c d n:Int} {M B:Nat} (hl:w.heap.size ≤ lb) (hB:lb + 1 + 1 + 1 < B) (v:Array Value) (a₁:Act):OwnFrom B (fun k W => EscA w lb a b c d n M k v a₁ W):=by
 rintro k W W' row ⟨tb,p,q,r,s,h1,h2,h3,h4,h5⟩ hg hr
 exact ⟨tb,p,q,r,s,h1,h2,own_blk h3 rfl hg (fun r e => (hr r e).2),h4,(EscK.own hl hB).from k W W' row h5 hg hr⟩
set_option maxRecDepth 100000 in
set_option maxHeartbeats 4000000 in
theorem implBoxEsc_is (a b c d n:Int) (hv:boxOK a b c d=true) (w:World):Calls Vp.prog 88 #[.agg #[.int .i64 a,.int .i64 b,.int .i64 c,.int .i64 d],.int .i64 n] w fun e w' => (∃ (x y:Int),e=.returned (.tuple #[.int .i64 x,.int .i64 y,.bool true]) ∧ EscOK ⟨a,b,c,d⟩ (mostN n).toNat y) ∧ Below w.heap.size w w':=by
 obtain ⟨M,hM,hM4⟩:∃ M:Nat,mostN n=M ∧ M ≤ 400:=by
   have:=mostN_bd n
   exact ⟨(mostN n).toNat,by omega,by omega⟩
 have HMM:Hid ((mostN n).toNat=M):=by show (mostN n).toNat=M; omega
 rw [HMM.out]
 have HS:=Lib.hid (stepsOf_is n)
 rw [hM] at HS
 have HVA:=Lib.hid (implValid_is a b c d)
 rw [hv] at HVA
 have HV:=Lib.hid hv
 clear hM HMM hv
 have X:=Box.new w #[.int .i64 a,.int .i64 b,.int .i64 c,.int .i64 d] 101
 have x0:=X.cell 0 _ rfl
 have x1:=X.cell 1 _ rfl
 have x2:=X.cell 2 _ rfl
 have x3:=X.cell 3 _ rfl
 refine (callsIn_wide (n:=3)).1 ?_
 refine callsIn_of_wp_marks Vp.func88 rfl trivial ?_ rfl
 simp only [Tryz.ntmps88,List.size_toArray,List.length_cons,List.length_nil,Nat.reduceAdd,Nat.reduceSub,Array.replicate_succ,Array.replicate_zero,List.push_toArray,List.append_toArray,List.nil_append,List.cons_append]
 gi_wp2_with fail
 refine ⟨trivial,?_⟩
 refine (callsIn_wide.2 (HVA.out _)).mono ?_
 rintro e w1 ⟨rfl,hb⟩
 clear x0 x1 x2 x3
 replace X:=X.step hb
 clear hb
 gi_wp2_with fail
 refine ⟨trivial,?_⟩
 refine (callsIn_wide.2 (HS.out _)).mono ?_
 rintro e w2 ⟨rfl,rfl⟩
 obtain ⟨lb,hlb⟩:∃ lb,w1.heap.size=lb:=⟨_,rfl⟩
 have hbw:=X.old
 have hXl:w.heap.size ≤ lb:=by have:=hbw.size; omega
 replace X:=((X.alloc (.cells #[.int .i64 M] 3)).alloc (.cells #[.int .i64 (-1)] 3)).alloc (.cells #[.int .i64 (-1)] 3)
 have x0:=X.cell 0 _ rfl
 have x1:=X.cell 1 _ rfl
 have x2:=X.cell 2 _ rfl
 have x3:=X.cell 3 _ rfl
 gi_wp2_with fail
 refine ⟨trivial,?_⟩
 refine (callsIn_wide.2 (boxesOf_any a b c d _)).mono ?_
 rintro e w2 ⟨rfl,rfl⟩
 have H0:=Lib.hid (EscK.start hbw a b c d M)
 rw [hlb] at H0
 clear x0 x1 x2 x3 X
 gi_wp2_with fail
 refine wpIn_iterK rfl (by decide) (gf:=140) (lb:=#[.pointer (some ⟨lb + 1 + 1 + 1,0,none⟩)]) ?g0 trivial (enters_of Vp.func140 (by kernel_rfl) rfl)
   (boxes_iters _ a b c d (lb + 1 + 1 + 1) (M + 1) HV.out (by decide) (by omega)) (fun k v h => by obtain ⟨p,q,r,s,rfl,-⟩:=h; rfl) (EscK w lb a b c d M) (EscXK w lb ⟨a,b,c,d⟩ M)
   (EscK.own hXl (by simp [hlb])) (EscXK.own hXl (by simp [hlb])) (fun k A h => h.orb) H0.out (EscA w lb a b c d n M) (EscA.own hXl (by simp [hlb]))
   ?assign ?body ?done ?stop
 case g0 => rfl
 case assign =>
   rintro l k v W K hk ⟨p,q,r,s,rfl,ho⟩ h hK
   have HK:=Lib.hid hK
   have HH:=Lib.hid h
   have HO:=Lib.hid ho
   clear h ho hK
   gi_wp2
   refine HK.out _ _ ?_ ⟨W.heap.size,p,q,r,s,rfl,?_,World.alloc_heap_new W _,HO.out,?_⟩
   · exact Aloft.grown (World.grownBy_alloc W _ none) (fun r e => by cases e)
   · exact (Array.getElem?_eq_some_iff.1 HH.out.orb).1
   · exact (EscK.own hXl (Nat.lt_succ_self _)) k W _ none HH.out (World.grownBy_alloc W _ none) (fun r e => by cases e)
 case body =>
   rintro l k v a₁ W hk - ⟨tb,p,q,r,s,rfl,htb,hT,ho,h⟩
   obtain ⟨y,hp⟩:=h.par
   have B0:Box w lb #[.int .i64 M] 3 W:=⟨h.las,h.old⟩
   have c0:=B0.cell 0 _ rfl
   clear B0
   by_cases hkm:k=M + 1
   · subst hkm
     have HX:Hid (EscXK w lb ⟨a,b,c,d⟩ M (Code.exit 0) (M + 1) W):=⟨rfl,⟨y,-1,hp,h.who,EscOK.full (by omega) h.no⟩,h.old⟩
     clear h hp hT ho
     gi_wp2
     exact ⟨Aloft.refl _ _,HX.out⟩
   · have hkM:k ≤ M:=by omega
     have hk1:((k:Int) ≤ M):=by omega
     clear hkm
     have hz:boxOK p q r s=true:=orbB_ok ho
     have hzB:=Bx.bd (x:=⟨p,q,r,s⟩) hz
     dsimp only at hzB
     obtain ⟨g1,g2,g3,g4,g5,g6⟩:=hzB
     have HSP:=Lib.hid (boxSpans_is p q r s)
     have HNO:=Lib.hid (spNorm_is p q r s (by omega) (by omega) (by omega) (by omega) (by omega) (by omega) (by omega) (by omega))
     obtain ⟨lo,elo⟩:∃ x,nLo ⟨p,q,r,s⟩=x:=⟨_,rfl⟩
     obtain ⟨hi,ehi⟩:∃ x,nHi ⟨p,q,r,s⟩=x:=⟨_,rfl⟩
     rw [elo,ehi] at HNO
     have ELO:=Lib.hid elo
     clear elo ehi hz g1 g2 g3 g4 g5 g6
     have HO:=Lib.hid ho
     have T7:Box w tb #[.int .i64 p,.int .i64 q,.int .i64 r,.int .i64 s] 101 W:=⟨hT,h.old⟩
     have t0:=T7.cell 0 _ rfl
     have t1:=T7.cell 1 _ rfl
     have t2:=T7.cell 2 _ rfl
     have t3:=T7.cell 3 _ rfl
     clear T7 hT ho hp
     have HH:=Lib.hid h
     clear h
     gi_wp2_with fail
     refine ⟨trivial,?_⟩
     refine (CallsIn.inRound l (callsIn_wide.2 (HSP.out W))).mono ?_
     rintro e W2 ⟨rfl,hb2⟩
     gi_wp2_with fail
     refine ⟨trivial,?_⟩
     refine (CallsIn.inRound l (callsIn_wide.2 (HNO.out W2))).mono ?_
     rintro e W3 ⟨rfl,hb3⟩
     have hb:=hb2.trans (hb3.mono hb2.size)
     have hI:=EscK.own hXl (Nat.lt_succ_self _) k W W3 none HH.out (below_grownBy hb none) (fun r e => by cases e)
     have hlt3:=(Array.getElem?_eq_some_iff.1 hI.orb).1
     have hJ:=hI
     have hal:Aloft (lb + 1 + 1 + 1) W W3:=Aloft.of_below hb
     have HAL:=Lib.hid hal
     clear t0 t1 t2 t3 c0 hb2 hb3 hb HH hal
     obtain ⟨y,hp⟩:=hJ.par
     have U:Box w W3.heap.size #[.int .i64 lo,.int .i64 hi] 163 (W3.alloc (.cells #[.int .i64 lo,.int .i64 hi] 163)):=(Box.new W3 _ _).up hI.old
     have B1:Box w (lb + 1) #[.int .i64 y] 3 W3:=⟨hp,hJ.old⟩
     have B2:Box w (lb + 1 + 1) #[.int .i64 (-1)] 3 W3:=⟨hJ.who,hJ.old⟩
     have hsz:W3.heap.size < (W3.alloc (.cells #[.int .i64 lo,.int .i64 hi] 163)).heap.size:=U.lt
     have hne1:lb + 1 < W3.heap.size:=by omega
     have hne2:lb + 1 + 1 < W3.heap.size:=by omega
     have u0:=U.cell 0 _ rfl
     have u1:=U.cell 1 _ rfl
     have y0:=B1.cell 0 _ rfl
     have f1:=B1.frozen 0
     have f2:=B2.frozen 0
     have z0:=B2.cell 0 _ rfl
     have U':=Box.new (W3.setCell ⟨lb + 1,0,none⟩ (.int .i64 k)) #[.int .i64 lo,.int .i64 hi] 163
     simp only [World.size_setCell] at U'
     have v0:=U'.cell 0 _ rfl
     have v1:=U'.cell 1 _ rfl
     clear U B1 B2 U' hI hp
     have HJ:=Lib.hid hJ
     clear hJ
     
     have HS1:Hid (∀ W',EscK w lb a b c d M k W' → EscK w lb a b c d M k (W'.setCell ⟨lb + 1,0,none⟩ (.int .i64 k))):=fun W' h => by
       obtain ⟨y',hy'⟩:=h.par
       have hB:Box w (lb + 1) #[.int .i64 y'] 3 W':=⟨hy',h.old⟩
       refine ⟨(Below.heap_setCell _ _ _ _ (by simp <;> omega)).trans h.las,⟨k,(hB.set (by omega) 0 (.int .i64 k)).blk⟩,(Below.heap_setCell _ _ _ _ (by simp <;> omega)).trans h.who,(Below.heap_setCell _ _ _ _ (by simp <;> omega)).trans h.orb,h.no,h.old.setCell (p:=⟨lb + 1,0,none⟩) (by simp; omega) _⟩
     have HS2:Hid (∀ W',EscK w lb a b c d M k W' → (1125899906842624:Int) < lo → EscXK w lb ⟨a,b,c,d⟩ M (Code.exit 0) k (W'.setCell ⟨lb + 1 + 1,0,none⟩ (.int .i64 k))):=fun W' h hlo => by
       obtain ⟨y',hy'⟩:=h.par
       have hB:Box w (lb + 1 + 1) #[.int .i64 (-1)] 3 W':=⟨h.who,h.old⟩
       exact ⟨rfl,⟨y',k,(Below.heap_setCell _ _ _ _ (by simp <;> omega)).trans hy',(hB.set (by omega) 0 (.int .i64 k)).blk,EscOK.hit hkM HO.out (by rw [ELO.out]; exact hlo)⟩,h.old.setCell (p:=⟨lb + 1 + 1,0,none⟩) (by simp; omega) _⟩
     have HS3:Hid (∀ W',EscK w lb a b c d M k W' → ¬ (1125899906842624:Int) < lo → EscK w lb a b c d M (k + 1) W'):=fun W' h hlo => by
       refine ⟨h.las,h.par,h.who,h.orb,fun i hi => ?_,h.old⟩
       by_cases e:i=k
       · rw [e]; exact out_not HO.out (by rw [ELO.out]; exact hlo)
       · exact h.no i (by omega)
     have HA1:Hid (∀ (W':World) (v:Value),Aloft (lb + 1 + 1 + 1) W' (W'.setCell ⟨lb + 1,0,none⟩ v)):=fun W' v => Aloft.grown (set_grown W' _ v) (fun r e => by cases e; show lb + 1 < _; omega)
     have HA2:Hid (∀ (W':World) (v:Value),Aloft (lb + 1 + 1 + 1) W' (W'.setCell ⟨lb + 1 + 1,0,none⟩ v)):=fun W' v => Aloft.grown (set_grown W' _ v) (fun r e => by cases e; show lb + 1 + 1 < _; omega)
     have HKA:Hid (∀ k W' o,EscK w lb a b c d M k W' → EscK w lb a b c d M k (W'.alloc o)):=fun k W' o h => EscK.own hXl (Nat.lt_succ_self _) k W' _ none h (World.grownBy_alloc W' _ none) (fun r e => by cases e)
     have HXA:Hid (∀ k W' o,EscXK w lb ⟨a,b,c,d⟩ M (Code.exit 0) k W' → EscXK w lb ⟨a,b,c,d⟩ M (Code.exit 0) k (W'.alloc o)):=fun k W' o h => EscXK.own hXl (Nat.lt_succ_self _) _ k W' _ none h (World.grownBy_alloc W' _ none) (fun r e => by cases e)
     have HA0:Hid (∀ (W':World) (o:Obj),Aloft (lb + 1 + 1 + 1) W' (W'.alloc o)):=fun W' o => Aloft.grown (World.grownBy_alloc W' _ none) (fun r e => by cases e)
     by_cases hlo:(1125899906842624:Int) < lo
     · have HLO:=Lib.hid hlo
       by_cases hy:y < 0
       · by_cases hh:(1125899906842624:Int) < hi
         · gi_wp2
           exact ⟨(((HAL.out.trans (HA1.out _ _)).trans (HA2.out _ _)).trans (HA0.out _ _)).up (by simp [hlb]),HXA.out _ _ _ (HS2.out _ (HS1.out _ HJ.out) HLO.out)⟩
         · gi_wp2
           exact ⟨((HAL.out.trans (HA2.out _ _)).trans (HA0.out _ _)).up (by simp [hlb]),HXA.out _ _ _ (HS2.out _ HJ.out HLO.out)⟩
       · gi_wp2
         exact ⟨((HAL.out.trans (HA2.out _ _)).trans (HA0.out _ _)).up (by simp [hlb]),HXA.out _ _ _ (HS2.out _ HJ.out HLO.out)⟩
     · have HLO:=Lib.hid hlo
       by_cases hy:y < 0
       · by_cases hh:(1125899906842624:Int) < hi
         · gi_wp2
           exact ⟨((HAL.out.trans (HA1.out _ _)).trans (HA0.out _ _)).up (by simp [hlb]),by omega,HKA.out _ _ _ (HS3.out _ (HS1.out _ HJ.out) HLO.out)⟩
         · gi_wp2
           exact ⟨(HAL.out.trans (HA0.out _ _)).up (by simp [hlb]),by omega,HKA.out _ _ _ (HS3.out _ HJ.out HLO.out)⟩
       · gi_wp2
         exact ⟨(HAL.out.trans (HA0.out _ _)).up (by simp [hlb]),by omega,HKA.out _ _ _ (HS3.out _ HJ.out HLO.out)⟩
 case done =>
   intro D k W hD hk hf h hdef
   obtain ⟨y,hp⟩:=h.par
   have HL:Hid (EscL w lb ⟨a,b,c,d⟩ M W):=⟨⟨y,-1,hp,h.who,.inr ⟨whB_no fun i _ => by
     rcases Nat.lt_or_ge i k with g | g
     · exact h.no i g
     · exact orb_none hf i g,rfl⟩⟩,h.old⟩
   clear h hp
   obtain ⟨⟨y,z,h1,h2,h3⟩,h4⟩:=HL.out
   have B1:Box w (lb + 1) #[.int .i64 y] 3 W:=⟨h1,h4⟩
   have B2:Box w (lb + 1 + 1) #[.int .i64 z] 3 W:=⟨h2,h4⟩
   have y0:=B1.cell 0 _ rfl
   have z0:=B2.cell 0 _ rfl
   have HE:=Lib.hid h3
   have HO:=Lib.hid h4
   clear HL h1 h2 h3 h4 B1 B2
   gi_wp2
   gi_region
   all_goals gi_wp2
   all_goals
     refine ⟨by simp,.inl ⟨_,_,rfl,run_takeDeferred (by first | exact hdef | exact (Drw.refl _).drew.heap ▸ hdef),?_⟩⟩
     refine ⟨.tuple #[.int .i64 y,.int .i64 z,.bool true],by simp [results,Tryz.f88,go_sem],?_⟩
     exact ⟨⟨y,z,rfl,HE.out⟩,(HO.out.trans ((Drw.refl W).drew.below _)).grown (row:=some D) (grownBy_putObj' _ D _) HO.out.size (fun j e => by injection e with e; simp [hlb] at hD; omega)⟩
 case stop =>
   rintro D cd k W hD hk ⟨rfl,h⟩ hdef
   have HL:=Lib.hid h
   clear h
   obtain ⟨⟨y,z,h1,h2,h3⟩,h4⟩:=HL.out
   have B1:Box w (lb + 1) #[.int .i64 y] 3 W:=⟨h1,h4⟩
   have B2:Box w (lb + 1 + 1) #[.int .i64 z] 3 W:=⟨h2,h4⟩
   have y0:=B1.cell 0 _ rfl
   have z0:=B2.cell 0 _ rfl
   have HE:=Lib.hid h3
   have HO:=Lib.hid h4
   clear HL h1 h2 h3 h4 B1 B2
   gi_wp2
   gi_region
   all_goals gi_wp2
   all_goals
     refine ⟨by simp,.inl ⟨_,_,rfl,run_takeDeferred (by first | exact hdef | exact (Drw.refl _).drew.heap ▸ hdef),?_⟩⟩
     refine ⟨.tuple #[.int .i64 y,.int .i64 z,.bool true],by simp [results,Tryz.f88,go_sem],?_⟩
     exact ⟨⟨y,z,rfl,HE.out⟩,(HO.out.trans ((Drw.refl W).drew.below _)).grown (row:=some D) (grownBy_putObj' _ D _) HO.out.size (fun j e => by injection e with e; simp [hlb] at hD; omega)⟩
end Go.Proofs.YtokbalggdhippaaGreat
end

section
namespace Go.Proofs.YtokbalggdhippaaGreat
open Go.RowKit
set_option maxHeartbeats 4000000 in
theorem implCell_is (a b c d n:Int) (hv:boxOK a b c d=true) (w:World):Calls Vp.prog 60 #[.agg #[.int .i64 a,.int .i64 b,.int .i64 c,.int .i64 d],.int .i64 n] w fun e w' => e=.returned (.tuple #[.int .i64 (stB ⟨a,b,c,d⟩ (mostN n).toNat),.bool true]) ∧ Below w.heap.size w w':=by
 have HCA:=Lib.hid (implCard_is a b c d hv)
 have HDI:=Lib.hid (implDisc_is a b c d hv)
 have HES:=Lib.hid (implBoxEsc_is a b c d n hv)
 have HST:Hid (∀ S,stB ⟨a,b,c,d⟩ (mostN n).toNat=S → S=if cardB ⟨a,b,c,d⟩ ≤ 0 ∨ discB ⟨a,b,c,d⟩ ≤ 0 then 1 else if whB ⟨a,b,c,d⟩ (mostN n).toNat=true then -1 else 0):=fun S h => h.symm
 obtain ⟨S,hS⟩:∃ S,stB ⟨a,b,c,d⟩ (mostN n).toNat=S:=⟨_,rfl⟩
 have HS:=Lib.hid (HST.out S hS)
 rw [hS]
 clear hS HST hv
 generalize cardB ⟨a,b,c,d⟩=x at *
 generalize discB ⟨a,b,c,d⟩=y at *
 have X:=Box.new w #[.int .i64 a,.int .i64 b,.int .i64 c,.int .i64 d] 101
 have x0:=X.cell 0 _ rfl
 have x1:=X.cell 1 _ rfl
 have x2:=X.cell 2 _ rfl
 have x3:=X.cell 3 _ rfl
 go_enter Vp.func60,Tryz.ntmps60
 go_wp2_with fail
 refine (HCA.out _).mono ?_
 rintro e w1 ⟨rfl,hb⟩
 clear x0 x1 x2 x3
 replace X:=X.step hb
 clear hb
 have x0:=X.cell 0 _ rfl
 have x1:=X.cell 1 _ rfl
 have x2:=X.cell 2 _ rfl
 have x3:=X.cell 3 _ rfl
 go_wp2_with fail
 refine (HDI.out _).mono ?_
 rintro e w2 ⟨rfl,hb⟩
 clear x0 x1 x2 x3
 replace X:=X.step hb
 clear hb
 have hs:=HS.out
 by_cases hx:x ≤ 0
 · rw [if_pos (.inl hx)] at hs
   subst hs
   have HB:=Lib.hid X.old
   clear X
   go_wp2
   exact bodyPost_ret (v:=.tuple #[.int .i64 1,.bool true]) (by simp [results,Tryz.f60,go_sem]) rfl ⟨rfl,HB.out⟩
 · by_cases hy:y ≤ 0
   · rw [if_pos (.inr hy)] at hs
     subst hs
     have HB:=Lib.hid X.old
     clear X
     go_wp2
     exact bodyPost_ret (v:=.tuple #[.int .i64 1,.bool true]) (by simp [results,Tryz.f60,go_sem]) rfl ⟨rfl,HB.out⟩
   · rw [if_neg (by omega)] at hs
     have x0:=X.cell 0 _ rfl
     have x1:=X.cell 1 _ rfl
     have x2:=X.cell 2 _ rfl
     have x3:=X.cell 3 _ rfl
     have hs':=Lib.hid hs
     clear hs
     go_wp2_with fail
     refine (HES.out _).mono ?_
     rintro e w3 ⟨⟨u,k,rfl,hk⟩,hb⟩
     have HK:=Lib.hid hk
     clear hk
     have HB:=Lib.hid (X.step hb).old
     clear x0 x1 x2 x3 X hb
     have hs:=hs'.out
     clear hs'
     by_cases hk:k=-1
     · rw [if_neg (by rcases HK.out with h | h; · omega
                      · rw [h.1]; simp)] at hs
       subst hs
       go_wp2
       exact bodyPost_ret (v:=.tuple #[.int .i64 0,.bool true]) (by simp [results,Tryz.f60,go_sem]) rfl ⟨rfl,HB.out⟩
     · rw [if_pos (by rcases HK.out with h | h; · exact h.1
                      · omega)] at hs
       subst hs
       go_wp2
       exact bodyPost_ret (v:=.tuple #[.int .i64 (-1),.bool true]) (by simp [results,Tryz.f60,go_sem]) rfl ⟨rfl,HB.out⟩
end Go.Proofs.YtokbalggdhippaaGreat
end

section
namespace Go.Proofs.YtokbalggdhippaaGreat
namespace Flo
open Ieee
theorem near_bd {f:Format} {s:Bool} {mag:Nat} {place:Int} {a b:Nat} {T U:Int} (hT:Rep f T) (hU:Rep f U) (hp:place - f.leastPlace=(a:Int) - b)
   (h1:T * (2 ^ b:Nat) ≤ (if s then -(mag:Int) else mag) * (2 ^ a:Nat)) (h2:(if s then -(mag:Int) else mag) * (2 ^ a:Nat) ≤ U * (2 ^ b:Nat)) :
   Val f (f.nearest s mag place) (iv f (f.nearest s mag place)) ∧ T ≤ iv f (f.nearest s mag place) ∧ iv f (f.nearest s mag place) ≤ U:=by
 obtain ⟨rt,ht,et⟩:=hT
 obtain ⟨ru,hu,eu⟩:=hU
 have hb:(0:Int) < (2 ^ b:Nat):=by have:=Nat.two_pow_pos b; omega
 have hm:(0:Int) ≤ (mag:Int) * (2 ^ a:Nat):=Int.mul_nonneg (Int.natCast_nonneg _) (Int.natCast_nonneg _)
 cases s with
 | false =>
   simp only [Bool.false_eq_true,if_false] at h1 h2
   have hU0:0 ≤ U:=by
     rcases Int.lt_or_le U 0 with h | h
     · have:=Int.mul_neg_of_neg_of_pos h hb; omega
     · exact h
   have hu2:mag * 2 ^ a ≤ rv f ru * 2 ^ b:=by
     rw [eu]
     have e:(U.natAbs:Int)=U:=by omega
     have:((mag * 2 ^ a:Nat):Int) ≤ ((U.natAbs * 2 ^ b:Nat):Int):=by rw [Int.natCast_mul,Int.natCast_mul,e]; exact h2
     exact Int.ofNat_le.1 this
   have r1:=rnd_le (neg:=false) hp hu2
   have hw:=iv_word f false (rnd f false mag place) (by omega)
   rw [nearest_eq]
   have hv:iv f (f.word false (rnd f false mag place))=(rv f (rnd f false mag place):Int):=by rw [hw.2]; rfl
   refine ⟨⟨by rw [← nearest_eq]; exact Format.nearest_lt _ _ _ _,hw.1,rfl⟩,?_,?_⟩
   · rw [hv]
     rcases Int.lt_or_le 0 T with h | h
     · have ht2:rv f rt * 2 ^ b ≤ mag * 2 ^ a:=by
         rw [et]
         have e:(T.natAbs:Int)=T:=by omega
         have:((T.natAbs * 2 ^ b:Nat):Int) ≤ ((mag * 2 ^ a:Nat):Int):=by rw [Int.natCast_mul,Int.natCast_mul,e]; exact h1
         exact Int.ofNat_le.1 this
       have:=rv_mono f (rnd_ge (neg:=false) (Nat.le_of_lt ht) hp ht2)
       omega
     · omega
   · rw [hv]
     have:=rv_mono f r1
     omega
 | true =>
   simp only [if_true] at h1 h2
   rw [Int.neg_mul] at h1 h2
   have hT0:T ≤ 0:=by
     rcases Int.lt_or_le 0 T with h | h
     · have:=Int.mul_pos h hb; omega
     · exact h
   have ht2:mag * 2 ^ a ≤ rv f rt * 2 ^ b:=by
     rw [et]
     have e:(T.natAbs:Int)=-T:=by omega
     have:((mag * 2 ^ a:Nat):Int) ≤ ((T.natAbs * 2 ^ b:Nat):Int):=by rw [Int.natCast_mul,Int.natCast_mul,e,Int.neg_mul]; omega
     exact Int.ofNat_le.1 this
   have r1:=rnd_le (neg:=true) hp ht2
   have hw:=iv_word f true (rnd f true mag place) (by omega)
   rw [nearest_eq]
   have hv:iv f (f.word true (rnd f true mag place))=-(rv f (rnd f true mag place):Int):=by rw [hw.2]; rfl
   refine ⟨⟨by rw [← nearest_eq]; exact Format.nearest_lt _ _ _ _,hw.1,rfl⟩,?_,?_⟩
   · rw [hv]
     have:=rv_mono f r1
     omega
   · rw [hv]
     rcases Int.lt_or_le U 0 with h | h
     · have hu2:rv f ru * 2 ^ b ≤ mag * 2 ^ a:=by
         rw [eu]
         have e:(U.natAbs:Int)=-U:=by omega
         have:((U.natAbs * 2 ^ b:Nat):Int) ≤ ((mag * 2 ^ a:Nat):Int):=by rw [Int.natCast_mul,Int.natCast_mul,e,Int.neg_mul]; omega
         exact Int.ofNat_le.1 this
       have:=rv_mono f (rnd_ge (neg:=true) (Nat.le_of_lt hu) hp hu2)
       omega
     · omega
theorem add_between {f:Format} {x y:Nat} {a b T U:Int} (hx:Val f x a) (hy:Val f y b) (hT:Rep f T) (hU:Rep f U) (h1:T ≤ a + b) (h2:a + b ≤ U) :
   ∃ z,f.add x y=some z ∧ Val f z (iv f z) ∧ T ≤ iv f z ∧ iv f z ≤ U:=by
 unfold Format.add
 rw [read_fin hx.fin,read_fin hy.fin]
 have hi:signed (sgn f x) (rm f (rung f x)) (re f (rung f x))=a:=(signed_iv f x).trans hx.iv
 have hj:signed (sgn f y) (rm f (rung f y)) (re f (rung f y))=b:=(signed_iv f y).trans hy.iv
 generalize sgn f x=s at *
 generalize sgn f y=t at *
 generalize rm f (rung f x)=m at *
 generalize rm f (rung f y)=n at *
 generalize re f (rung f x)=i at *
 generalize re f (rung f y)=j at *
 simp only [Datum.sum,Option.map_some,Format.write]
 refine ⟨_,rfl,?_⟩
 obtain ⟨c,hc⟩:∃ c:Nat,min (f.leastPlace + (i:Int)) (f.leastPlace + (j:Int))=f.leastPlace + c:=⟨min i j,by omega⟩
 rw [hc]
 obtain ⟨i',hi'⟩:∃ i',i=i' + c:=⟨i - c,by omega⟩
 obtain ⟨j',hj'⟩:∃ j',j=j' + c:=⟨j - c,by omega⟩
 have e1:(f.leastPlace + (i:Int) - (f.leastPlace + c)).toNat=i':=by omega
 have e2:(f.leastPlace + (j:Int) - (f.leastPlace + c)).toNat=j':=by omega
 rw [e1,e2]
 rw [hi',signed_scale] at hi
 rw [hj',signed_scale] at hj
 generalize signed s m i'=p at *
 generalize signed t n j'=q at *
 have hsum:(p + q) * (2 ^ c:Nat)=a + b:=by rw [Int.add_mul,hi,hj]
 have hsg:(if (if p + q=0 then s && t else decide (p + q < 0)) then -((p + q).natAbs:Int) else ((p + q).natAbs:Int))=p + q:=by
   by_cases h0:p + q=0
   · rw [h0]; simp
   · rw [if_neg h0]
     by_cases hn:p + q < 0
     · rw [decide_eq_true hn,if_pos rfl]; omega
     · rw [decide_eq_false hn,if_neg (by decide)]; omega
 refine near_bd (a:=c) (b:=0) hT hU (by omega) ?_ ?_
 · rw [hsg,hsum]; simpa using h1
 · rw [hsg,hsum]; simpa using h2
end Flo
end Go.Proofs.YtokbalggdhippaaGreat
end

section
namespace Go.Proofs.YtokbalggdhippaaGreat.Flo
open Go.RowKit Ieee
structure Bd (B:Nat) (x:Nat):Prop where
 val:Val single x (iv single x)
 le:(iv single x).natAbs ≤ B * 2 ^ u32
theorem Bd.nan {B x:Nat} (h:Bd B x):Flo.nan .f32 x=false:=val_nan (k:=.f32) h.val
theorem narrow_gen {z B sR:Nat} (hr:sR < single.infRung) (hB:rv single sR=B * 2 ^ u32) (hz:Val double z (iv double z)) (hb:(iv double z).natAbs ≤ B * 2 ^ u64) :
   ∃ u,floatToFloatBits .f64 z .f32=some u ∧ Bd B u:=by
 have hd:=val_digits hz
 have hn:=nearest_bd (f:=single) (s:=sgn double z) (mag:=rm double (rung double z)) (place:=double.leastPlace + re double (rung double z)) (r:=sR) (a:=re double (rung double z)) (b:=wup) hr (by rw [single_least,double_least,wup_eq]; omega) (by
   rw [hB,← hd]
   have:B * 2 ^ u32 * 2 ^ wup=B * 2 ^ u64:=by rw [Nat.mul_assoc,← Nat.pow_add,show u32 + wup=u64 from rfl]
   rw [this]; exact hb)
 unfold floatToFloatBits
 rw [if_neg (by decide)]
 have hdec:FloatKind.decode .f64 z=.number (sgn double z) (rm double (rung double z)) (double.leastPlace + re double (rung double z)):=read_fin hz.fin
 rw [hdec]
 have hni:(FloatKind.decode .f32 (FloatKind.encode .f32 (.number (sgn double z) (rm double (rung double z)) (double.leastPlace + re double (rung double z))))).isInfinity=false:=val_inf (k:=.f32) hn.1
 simp only [hni]
 exact ⟨_,rfl,⟨hn.1,by rw [← hB]; exact hn.2⟩⟩
theorem step_bd {x y:Nat} (hx:x < 4294967296) (hy:y < 4294967296) (h:le4 (normC (widenC x) (widenC y))=true) :
   Bd 5 (narrowC (sqRe (widenC x) (widenC y))) ∧ Bd 5 (narrowC (sqIm (widenC x) (widenC y))):=by
 have hnar:∀ {z:Nat},Val double z (iv double z) → (iv double z).natAbs ≤ 5 * 2 ^ u64 → Bd 5 (narrowC z):=fun hv hb => by
   obtain ⟨u,hu,hbd⟩:=narrow_gen five_fin32 five_rv32 hv hb
   unfold narrowC; rw [hu]; exact hbd
 have vx:Val single x (iv single x):=⟨hx,fin_left h,rfl⟩
 have vy:Val single y (iv single y):=⟨hy,fin_right h,rfl⟩
 obtain ⟨X,eX,vX⟩:=widen_val vx
 obtain ⟨Y,eY,vY⟩:=widen_val vy
 have wx:widenC x=X:=by unfold widenC; rw [eX]; rfl
 have wy:widenC y=Y:=by unfold widenC; rw [eY]; rfl
 rw [wx,wy] at h ⊢
 have pxx:=prod_val vx vx vX vX
 have pyy:=prod_val vy vy vY vY
 have pxy:=prod_val vx vy vX vY
 have eK:(5 * 2 ^ u64:Nat)=5 * 2 ^ k298 * 2 ^ k776:=by rw [Nat.mul_assoc,← Nat.pow_add,show k298 + k776=u64 from rfl]
 have hsum:iv single x * iv single x + iv single y * iv single y < ((5 * 2 ^ k298:Nat):Int):=by
   rcases Int.lt_or_le (iv single x * iv single x + iv single y * iv single y) ((5 * 2 ^ k298:Nat):Int) with h1 | h1
   · exact h1
   · exfalso
     have:=add_over pxx pyy (by
       rw [eK,← Int.add_mul,Int.natCast_mul (5 * 2 ^ k298)]
       exact Int.mul_le_mul_of_nonneg_right h1 (Int.natCast_nonneg _))
     unfold normC at h
     rw [this] at h; cases h
 have sx:0 ≤ iv single x * iv single x:=sq_pos _
 have sy:0 ≤ iv single y * iv single y:=sq_pos _
 have h2:0 ≤ (iv single x - iv single y) * (iv single x - iv single y):=sq_pos _
 have h3:0 ≤ (iv single x + iv single y) * (iv single x + iv single y):=sq_pos _
 have e2:(iv single x - iv single y) * (iv single x - iv single y)=iv single x * iv single x + iv single y * iv single y - 2 * (iv single x * iv single y):=by
   rw [Int.sub_mul,Int.mul_sub,Int.mul_sub,Int.mul_comm (iv single y) (iv single x)]; omega
 have e3:(iv single x + iv single y) * (iv single x + iv single y)=iv single x * iv single x + iv single y * iv single y + 2 * (iv single x * iv single y):=by
   rw [Int.add_mul,Int.mul_add,Int.mul_add,Int.mul_comm (iv single y) (iv single x)]; omega
 rw [e2] at h2
 rw [e3] at h3
 clear e2 e3
 generalize iv single x * iv single x=A at *
 generalize iv single y * iv single y=B at *
 generalize iv single x * iv single y=C at *
 have bd:∀ T:Int,T.natAbs ≤ 5 * 2 ^ k298 → (T * (2 ^ k776:Nat)).natAbs ≤ 5 * 2 ^ u64:=by
   intro T hT
   rw [Int.natAbs_mul,Int.natAbs_natCast,eK]
   exact Nat.mul_le_mul_right _ hT
 constructor
 · obtain ⟨z,hz,hv,hb⟩:=sub_bd (r:=r5) pxx pyy five_fin (by
     rw [five_rv,← Int.sub_mul]
     exact bd _ (by generalize (2:Nat) ^ 298=U at *; omega))
   rw [five_rv] at hb
   have e:sqRe X Y=z:=by
     unfold sqRe opC
     unfold opC at hz
     rw [show floatBits .sub .f64 ((floatBits .mul .f64 X X).getD (nanW .f64)) ((floatBits .mul .f64 Y Y).getD (nanW .f64))=some z from hz]; rfl
   rw [e]
   exact hnar hv hb
 · have two:Val double 4611686018427387904 ((2:Int) * (2 ^ u64:Nat)):=by
     refine ⟨by decide,by unfold fin; decide,?_⟩
     unfold iv
     rw [if_neg (by decide)]
     have:rv double (rung double 4611686018427387904)=2 * 2 ^ u64:=by kernel_rfl
     rw [this]; simp
   have hrep:Rep double (2 * (C * (2 ^ k776:Nat))):=by
     exact rep_two pxy (by have:=bd (2 * C) (by generalize (2:Nat) ^ 298=U at *; omega); rw [Int.mul_assoc] at this; exact this)
   obtain ⟨z,hz,hv⟩:=mul_val (f:=double) (c:=2 * (C * (2 ^ k776:Nat))) least64 two pxy (by rw [Int.mul_right_comm]) hrep
   have e:sqIm X Y=z:=by
     unfold sqIm
     show (floatBits .mul .f64 4611686018427387904 (opC .mul .f64 X Y)).getD _=z
     rw [show floatBits .mul .f64 4611686018427387904 (opC .mul .f64 X Y)=some z from hz]; rfl
   rw [e]
   refine hnar (by rw [hv.iv]; exact hv) ?_
   rw [hv.iv]
   have:=bd (2 * C) (by generalize (2:Nat) ^ 298=U at *; omega)
   rw [Int.mul_assoc] at this
   exact this
theorem rep16:Rep single ((16 * 2 ^ u32:Nat):Int):=rep_of (m:=1) (e:=u32 + 4) (by rw [Int.natAbs_natCast,Nat.one_mul,Nat.pow_add,Nat.mul_comm]) (by rw [single_binade]; decide) (by decide) (by decide)
theorem Rep.neg {f:Format} {v:Int} (h:Rep f v):Rep f (-v):=by
 obtain ⟨r,h1,h2⟩:=h
 exact ⟨r,h1,by rw [Int.natAbs_neg]; exact h2⟩
theorem add_bd {x c:Nat} (hx:Bd 5 x) (hc:Bd 8 c):Bd 16 (opC .add .f32 x c):=by
 have h1:=hx.le
 have h2:=hc.le
 have hp:=Nat.two_pow_pos u32
 obtain ⟨z,hz,hv,g1,g2⟩:=add_between hx.val hc.val rep16.neg rep16 (by generalize 2 ^ u32=U at *; omega) (by generalize 2 ^ u32=U at *; omega)
 have e:opC .add .f32 x c=z:=by unfold opC; rw [show floatBits .add .f32 x c=some z from hz]; rfl
 rw [e]
 exact ⟨hv,by generalize 2 ^ u32=U at *; omega⟩
theorem bd_zero:Bd 16 0:=by
 have h:Val single 0 0:=⟨by decide,by unfold fin; decide,by decide⟩
 exact ⟨by rw [h.iv]; exact h,by rw [h.iv]; exact Nat.zero_le _⟩
theorem orb_bd {c d:Nat} (hc:Bd 8 c) (hd:Bd 8 d) {k:Nat} (h:∀ j,j < k → okS c d j=true):Bd 16 (orbS c d k).1 ∧ Bd 16 (orbS c d k).2:=by
 cases k with
 | zero => exact ⟨bd_zero,bd_zero⟩
 | succ k =>
   have ho:=h k (by omega)
   unfold okS at ho
   obtain ⟨h1,h2⟩:=step_bd (orbS_lt c d k).1 (orbS_lt c d k).2 ho
   exact ⟨add_bd h1 hc,add_bd h2 hd⟩
def s512:Nat:=1140850688
theorem rv512:rv single s512=512 * 2 ^ u32:=by kernel_rfl
theorem fin512:s512 < single.infRung:=by decide
theorem rep512:Rep double ((512 * 2 ^ u64:Nat):Int):=rep_of (m:=1) (e:=u64 + 9) (by rw [Int.natAbs_natCast,Nat.one_mul,Nat.pow_add,Nat.mul_comm]) (by rw [double_binade]; decide) (by decide) (by decide)
theorem norm_bd {x y:Nat} (hx:Bd 16 x) (hy:Bd 16 y):∃ m u,normC (widenC x) (widenC y)=m ∧ Flo.nan .f64 m=false ∧ floatToFloatBits .f64 m .f32=some u ∧ Flo.nan .f32 u=false:=by
 obtain ⟨X,eX,vX⟩:=widen_val hx.val
 obtain ⟨Y,eY,vY⟩:=widen_val hy.val
 have wx:widenC x=X:=by unfold widenC; rw [eX]; rfl
 have wy:widenC y=Y:=by unfold widenC; rw [eY]; rfl
 rw [wx,wy]
 have pxx:=prod_val hx.val hx.val vX vX
 have pyy:=prod_val hy.val hy.val vY vY
 have eK:(256 * 2 ^ u64:Nat)=16 * 2 ^ u32 * (16 * 2 ^ u32) * 2 ^ k776:=by
   have:2 ^ u64=2 ^ u32 * 2 ^ u32 * 2 ^ k776:=by rw [← Nat.pow_add,← Nat.pow_add,show u32 + u32 + k776=u64 from rfl]
   rw [this]
   generalize 2 ^ u32=U
   generalize 2 ^ k776=K
   rw [show 16 * U * (16 * U)=256 * (U * U) from by rw [Nat.mul_mul_mul_comm]]
   rw [Nat.mul_assoc 256]
 have sq:∀ a:Int,a.natAbs ≤ 16 * 2 ^ u32 → (a * a * (2 ^ k776:Nat)).natAbs ≤ 256 * 2 ^ u64:=fun a ha => by
   rw [Int.natAbs_mul,Int.natAbs_mul,Int.natAbs_natCast,eK]
   exact Nat.mul_le_mul_right _ (Nat.mul_le_mul ha ha)
 have b1:=sq _ hx.le
 have b2:=sq _ hy.le
 obtain ⟨z,hz,hv,g1,g2⟩:=add_between pxx pyy rep512.neg rep512 (by generalize 2 ^ u64=U at *; omega) (by generalize 2 ^ u64=U at *; omega)
 have e:normC X Y=z:=by
   unfold normC
   show (floatBits .add .f64 (opC .mul .f64 X X) (opC .mul .f64 Y Y)).getD _=z
   rw [show floatBits .add .f64 (opC .mul .f64 X X) (opC .mul .f64 Y Y)=some z from hz]; rfl
 obtain ⟨u,hu,hb⟩:=narrow_gen fin512 rv512 hv (by generalize 2 ^ u64=U at *; omega)
 exact ⟨z,u,e,val_nan (k:=.f64) hv,hu,hb.nan⟩
theorem four_one:∃ s m e,FloatKind.f32.format.read 1082130432=.number s (m + 1) e:=⟨false,8388607,-21,by decide +kernel⟩
theorem add_some {x y:Nat} {v:Int} (hx:Val single x v) (hy:Flo.nan .f32 y=false):∃ r,floatBits .add .f32 x y=some r:=by
 show ∃ r,single.add x y=some r
 unfold Format.add
 rw [read_fin hx.fin]
 unfold Flo.nan FloatKind.decode at hy
 have hy:(single.read y).isNaN=false:=hy
 cases h:single.read y with
 | nan _ _ => rw [h] at hy; cases hy
 | infinity t => exact ⟨_,rfl⟩
 | number t n j => exact ⟨_,rfl⟩
def smK (k:Int) (u:Nat):Nat:=opC .add .f32 (floatOfInt .f32 k) (opC .quo .f32 1082130432 u)
theorem smK_runs {k:Int} {u:Nat} (hk:k.natAbs ≤ 400) (hu:Flo.nan .f32 u=false):floatBits .quo .f32 1082130432 u=some (opC .quo .f32 1082130432 u) ∧ floatBits .add .f32 (floatOfInt .f32 k) (opC .quo .f32 1082130432 u)=some (smK k u):=by
 obtain ⟨q,hq,hqn⟩:=quo_number four_one hu
 have e:opC .quo .f32 1082130432 u=q:=by unfold opC; rw [hq]; rfl
 have hi:=ofInt_val (k:=.f32) (l:=149) (by decide) k (by show k.natAbs < 2 * single.binade; rw [single_binade]; omega) (by decide)
 obtain ⟨r,hr⟩:=add_some hi hqn
 refine ⟨by rw [e]; exact hq,?_⟩
 unfold smK opC
 rw [show floatBits .quo .f32 1082130432 u=some q from hq]
 show floatBits .add .f32 (floatOfInt .f32 k) q=some ((floatBits .add .f32 (floatOfInt .f32 k) q).getD _)
 rw [hr]; rfl
end Go.Proofs.YtokbalggdhippaaGreat.Flo
end
