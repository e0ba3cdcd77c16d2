/- Merged texts: IterR, IterK. -/
import Derived.Test.YthhfljldbfgpcaaGreatDoorT12
import Derived.RangeFuncNested
import Derived.RangeFuncCalls
import Derived.RangeFuncLeaves
import Derived.RangeFuncBox
import Derived.OwnWalkIn
import Derived.TacticsInMore
import Derived.LoopNIn
import Derived.LoopIn
import Derived.WalkMore
set_option linter.all false
section
namespace Go.Proofs.YthhfljldbfgpcaaGreatDoor
open Go.RowKit
def ItersR (F:Fence) (n:Nat) (P:Program) (g:Nat) (lb:Array Value) (R:Nat → Array Value → Prop) (fini:Nat → Prop) (N:Nat) (Keep:Nat → World → Prop):Prop :=
 ∀ (l:Nat) (J Jx:Nat → World → Prop) (W:World),
   (∀ k A,J k A → Keep k A) →
   (∀ k A B,J k A → A.grownBy B none → J k B) →
   (∀ k v A,k ≤ N → R k v → J k A → YieldAt F (n - 1) P l v A fun e B =>
     (e=.returned (.bool true) ∧ k < N ∧ J (k + 1) B) ∨ (e=.returned (.bool false) ∧ Jx k B)) →
   J 0 W →
   CallsIn F n P g (#[.func (.yield l) #[] #[]] ++ lb) W fun e B => (∃ v,e=.returned v) ∧ ((∃ k,k ≤ N ∧ Jx k B) ∨ (∃ k,k ≤ N ∧ fini k ∧ J k B))
variable {F:Fence} {n:Nat} {P:Program}
theorem wpIn_iterR {g:Operand} {ps:Array Tmp} {assign body:Code} {Q:Exit → Act → World → Prop} {a:Act} {w:World}
   (hro:F.round=none) (h1:1 ≤ n) {gf:Nat} {lb:Array Value} (hg:a.eval g=.func (.func gf) #[] lb) (hFg:F.fn gf) (eg:∀ args w,(callFunc gf args).run P w=.ok (.enter gf args) w)
   {R:Nat → Array Value → Prop} {fini:Nat → Prop} {N:Nat} {Keep:Nat → World → Prop} (hseq:ItersR F (n - 1) P gf lb R fini N Keep) (hps:∀ k v,R k v → v.size=ps.size)
   (I:Nat → World → Prop) (Ix:Code → Nat → World → Prop) (hI:OwnFrom w.heap.size I) (hIx:∀ c,OwnFrom w.heap.size (Ix c)) (hIb:∀ k A,I k A → Keep k A) (hi0:I 0 w) (a₁:Nat → Array Value → Act)
   (hassign:∀ (l k:Nat) (v:Array Value) (W:World) (K:Act → World → Prop),R k v → K (a₁ k v) W →
     assign.wpIn (F.inRound l) (n - 1 - 1) P (Exit.then K (fun _ _ _ => False)) { tmps:=(ps.zip v).foldl (fun t (p,v) => t.setIfInBounds p v) a.tmps,defers:=[] } W)
   (hbody:∀ (l k:Nat) (v:Array Value) (W:World),k ≤ N → R k v → I k W → body.wpIn (F.inRound l) (n - 1 - 1) P (iterPost w.heap.size N I Ix k W) (a₁ k v) W)
   (hdone:∀ (D k:Nat) (W:World),w.heap.size ≤ D → k ≤ N → fini k → I k W → W.heap[D]?=some (.deferred (some [])) → Q .normal { a with defers:={ target:=.collected D,args:=#[] } :: a.defers } W)
   (hstop:∀ (D:Nat) (c:Code) (k:Nat) (W:World),w.heap.size ≤ D → k ≤ N → Ix c k W → W.heap[D]?=some (.deferred (some [])) → c.wpIn F n P Q { a with defers:={ target:=.collected D,args:=#[] } :: a.defers } W) :
   (Code.rangeFunc g ps assign body).wpIn F n P Q a w:=by
 refine wpIn_rangeFunc (fun fn hfn => ?_)
 rw [hro]
 
 obtain ⟨s,hs⟩:∃ s,w.heap.size=s:=⟨_,rfl⟩
 obtain ⟨W1,hW1⟩:∃ W1,(w.alloc (.deferred (some []))).alloc (.loop (loopRec fn a.tmps ps assign body s .ready none))=W1:=⟨_,rfl⟩
 have hg1:w.grownBy W1 none:=by
   rw [← hW1]; exact (World.grownBy_alloc w _ none).trans (World.grownBy_alloc _ _ none)
 have hL1:W1.heap[s + 1]?=some (.loop (loopRec fn a.tmps ps assign body s .ready none)):=by
   rw [← hW1,← hs]
   have:=World.alloc_heap_new (w.alloc (.deferred (some []))) (.loop (loopRec fn a.tmps ps assign body w.heap.size .ready none))
   rwa [World.size_alloc] at this
 have hD1:W1.heap[s]?=some (.deferred (some [])):=by
   rw [← hW1,← hs]; exact (Below.heap_alloc _ _ _ (by simp)).trans (World.alloc_heap_new w _)
 have hI1:I 0 W1:=hI 0 w W1 none hi0 hg1 (fun r e => by cases e)
 rw [hs] at hI hIx hbody hdone hstop
 refine ⟨s + 1,[{ target:=.collected s,args:=#[] }],W1,{ target:=.fn (.func gf) lb,args:=#[.func (.yield (s + 1)) #[] #[]] },W1,gf,
   #[.func (.yield (s + 1)) #[] #[]] ++ lb,W1,?_,?_,?_,?_,fun _ => h1,?_⟩
 · rw [← hW1,← hs]; exact run_enterLoop_outer _ _ _ _ _
 · simp only [resolve,hg]; simp [go_sem]
 · intro f' hf'; simp [Target.leads] at hf'; subst hf'; exact hFg
 · simp [invoke,go_sem,eg]
 · refine (hseq (s + 1)
     (fun k W => I k W ∧ W.heap[s + 1]?=some (.loop (loopRec fn a.tmps ps assign body s .ready none)) ∧ W.heap[s]?=some (.deferred (some [])))
     (fun k W => ∃ c,Ix c k W ∧ W.heap[s + 1]?=some (.loop (loopRec fn a.tmps ps assign body s .done (some c))) ∧ W.heap[s]?=some (.deferred (some [])))
     W1 (fun k A h => hIb k A h.1) ?_ ?_ ⟨hI1,hL1,hD1⟩).mono ?_
   · rintro k A B ⟨hi,hl,hd⟩ hgr
     exact ⟨hI k A B none hi hgr (fun r e => by cases e),(hgr.block _ (Array.getElem?_eq_some_iff.1 hl).1 (by simp)).trans hl,(hgr.block _ (Array.getElem?_eq_some_iff.1 hd).1 (by simp)).trans hd⟩
   · 
     rintro k v A hk hR ⟨hi,hl,hd⟩
     have hlt:s + 1 < A.heap.size:=(Array.getElem?_eq_some_iff.1 hl).1
     refine ⟨fn,_,assign,body,run_yield (P:=P) (args:=v) hl (hps k v hR),roundIn_of_wpIn hfn (hassign _ k v A _ hR ⟨_,run_beginRound hl rfl,?_⟩)⟩
     obtain ⟨A2,hA2⟩:∃ A2,A.putObj (s + 1) (.loop { loopRec fn a.tmps ps assign body s .ready none with state:=.busy })=A2:=⟨_,rfl⟩
     have hl2:A2.heap[s + 1]?=some (.loop { loopRec fn a.tmps ps assign body s .ready none with state:=.busy }):=by rw [← hA2]; exact World.putObj_heap_same hlt
     have hd2:A2.heap[s]?=some (.deferred (some [])):=by rw [← hA2]; exact (World.putObj_heap_other (by omega)).trans hd
     have hi2:I k A2:=by rw [← hA2]; exact hI.putObj _ hi (by omega) hl rfl
     rw [hA2]
     refine wpIn_mono (hbody (s + 1) k v A2 hk hR hi2) ?_
     
     have ends:∀ (jump:Option Code) (B:World),KeepsFrom s A2 B → B.heap[s + 1]?=some (.loop { loopRec fn a.tmps ps assign body s .ready none with state:=.busy }) ∧
         (Instr.endRound (s + 1) jump).run P B=.ok (.bool jump.isNone) (B.putObj (s + 1) (.loop (loopRec fn a.tmps ps assign body s (if jump.isNone then .ready else .done) jump))) ∧
         (B.putObj (s + 1) (.loop (loopRec fn a.tmps ps assign body s (if jump.isNone then .ready else .done) jump))).heap[s + 1]?=some (.loop (loopRec fn a.tmps ps assign body s (if jump.isNone then .ready else .done) jump)) ∧
         (B.putObj (s + 1) (.loop (loopRec fn a.tmps ps assign body s (if jump.isNone then .ready else .done) jump))).heap[s]?=some (.deferred (some [])):=by
       intro jump B hk3
       have hl3:=hk3.same _ _ (by omega) hl2 rfl
       exact ⟨hl3,run_endRound (P:=P) jump hl3,World.putObj_heap_same (Array.getElem?_eq_some_iff.1 hl3).1,(World.putObj_heap_other (by omega)).trans (hk3.same _ _ (Nat.le_refl _) hd2 rfl)⟩
     intro e a3 B hp
     cases e with
     | normal =>
       obtain ⟨hk3,hkN,hi3⟩:=hp
       obtain ⟨hl3,hr,hl4,hd4⟩:=ends none B hk3
       exact ⟨_,_,hr,.inl ⟨rfl,hkN,hI.putObj _ hi3 (by omega) hl3 rfl,hl4,hd4⟩⟩
     | ret =>
       obtain ⟨hk3,hi3⟩:=hp
       obtain ⟨hl3,hr,hl4,hd4⟩:=ends (some .ret) B hk3
       exact ⟨_,_,hr,.inr ⟨rfl,.ret,(hIx _).putObj _ hi3 (by omega) hl3 rfl,hl4,hd4⟩⟩
     | exit id =>
       obtain ⟨hk3,hi3⟩:=hp
       obtain ⟨hl3,hr,hl4,hd4⟩:=ends (some (.exit id)) B hk3
       exact ⟨_,_,hr,.inr ⟨rfl,.exit id,(hIx _).putObj _ hi3 (by omega) hl3 rfl,hl4,hd4⟩⟩
     | goto t =>
       obtain ⟨hk3,hi3⟩:=hp
       obtain ⟨hl3,hr,hl4,hd4⟩:=ends (some (.goto t)) B hk3
       exact ⟨_,_,hr,.inr ⟨rfl,.goto t,(hIx _).putObj _ hi3 (by omega) hl3 rfl,hl4,hd4⟩⟩
     | panic ch => exact hp.elim
     | outgrown => exact hp.elim
   · 
     rintro e B ⟨⟨v,rfl⟩,(⟨k,hkN,c,hi,hl,hd⟩ | ⟨k,hkN,hf,hi,hl,hd⟩)⟩
     · exact ⟨some c,_,run_endLoop (P:=P) hl (by simp [loopRec]),hstop _ c k _ (Nat.le_refl _) hkN ((hIx c).putObj _ hi (by omega) hl rfl) ((World.putObj_heap_other (by omega)).trans hd)⟩
     · exact ⟨none,_,run_endLoop (P:=P) hl (by simp [loopRec]),hdone _ k _ (Nat.le_refl _) hkN hf (hI.putObj _ hi (by omega) hl rfl) ((World.putObj_heap_other (by omega)).trans hd)⟩
theorem stepR_scope {b:Frame} {a:Act} {k:List Item} {cs:List Frame} {w:World} {c:Code}:step P (lone (b.atR a (.code (.scope c) :: k)) cs w)=.next (lone (b.atR a (.code c :: .inScope c :: k)) cs w) :=
 step_lone_go (by simp [stepG,stepG.exec,Frame.atR])
theorem stepR_inScope {b:Frame} {a:Act} {k:List Item} {cs:List Frame} {w:World} {c:Code}:step P (lone (b.atR a (.inScope c :: k)) cs w)=.next (lone (b.atR a k) cs w) :=
 step_lone_go (by simp [stepG,stepG.exec,Frame.atR])
theorem wpIn_scope {Q:Exit → Act → World → Prop} {a:Act} {w:World} {c:Code} (h:c.wpIn F n P (Exit.noGoto Q) a w):(Code.scope c).wpIn F n P Q a w:=by
 intro b k cs hro hb hr
 have h0:(lone (b.atR a (.code (.scope c) :: k)) cs w).fenced P F:=fenced_calm hb hr rfl
 obtain ⟨e,a₁,w₁,hq,harr⟩:=h b (.inScope c :: k) cs hro hb hr
 cases e with
 | normal => exact ⟨.normal,a₁,w₁,hq,.head h0 stepR_scope (StepsIn.trans harr (.one (fenced_calm hb hr rfl) stepR_inScope))⟩
 | exit id =>
   have hx:exitTo id (.inScope c :: k)=exitTo id k:=by simp [exitTo]
   exact ⟨.exit id,a₁,w₁,hq,fun k' hk => .head h0 stepR_scope (harr.1 k' (by rw [hx]; exact hk)),
     fun hr' hk => let ⟨k₁,h1,h2⟩:=harr.2 hr' (by rw [hx]; exact hk); ⟨k₁,h1,.head h0 stepR_scope h2⟩⟩
 | goto l => exact hq.elim
 | ret => exact ⟨_,a₁,w₁,hq,.of_steps (.one h0 stepR_scope) harr⟩
 | panic ch => exact ⟨_,a₁,w₁,hq,.of_steps (.one h0 stepR_scope) harr⟩
 | outgrown => exact ⟨_,a₁,w₁,hq,.of_steps (.one h0 stepR_scope) harr⟩
end Go.Proofs.YthhfljldbfgpcaaGreatDoor
end

section
namespace Go.Proofs.YthhfljldbfgpcaaGreatDoor
open Go.RowKit
structure Aloft (s:Nat) (A B:World):Prop where
 size:A.heap.size ≤ B.heap.size
 blk:∀ j,s ≤ j → j < A.heap.size → B.heap[j]?=A.heap[j]?
theorem Aloft.refl (s:Nat) (A:World):Aloft s A A:=⟨Nat.le_refl _,fun _ _ _ => rfl⟩
theorem Aloft.trans {s:Nat} {A B C:World} (h:Aloft s A B) (k:Aloft s B C):Aloft s A C:=⟨Nat.le_trans h.size k.size,fun j hj hl => (k.blk j hj (Nat.lt_of_lt_of_le hl h.size)).trans (h.blk j hj hl)⟩
theorem Aloft.grown {s:Nat} {A B:World} {row:Option Nat} (h:A.grownBy B row) (hr:∀ r,row=some r → r < s):Aloft s A B:=⟨h.size,fun j hj hl => h.block j hl (fun e => by have:=hr j e.symm; omega)⟩
theorem Aloft.of_below {s:Nat} {A B:World} (h:Below A.heap.size A B):Aloft s A B:=⟨h.size,fun j _ hl => h.block j hl⟩
theorem Aloft.keeps {s:Nat} {A B:World} (h:Aloft s A B):KeepsFrom s A B:=⟨h.size,fun k o hB hk _ => (h.blk k hB (Array.getElem?_eq_some_iff.1 hk).1).trans hk⟩
theorem Aloft.up {s s':Nat} {A B:World} (h:Aloft s A B) (hs:s ≤ s'):Aloft s' A B:=⟨h.size,fun j hj hl => h.blk j (Nat.le_trans hs hj) hl⟩
theorem below_grownBy {A B:World} (h:Below A.heap.size A B) (row:Option Nat):A.grownBy B row:=⟨h.os,h.tape,h.output,h.size,fun k hk _ => h.block k hk⟩
def OwnAll (B:Nat) (I:Nat → World → Prop):Prop:=∀ s W W' row,I s W → W.grownBy W' row → (∀ r,row=some r → B ≤ r) → I s W'
theorem OwnAll.from {B:Nat} {I:Nat → World → Prop} (h:OwnAll B I):OwnFrom B I:=fun s W W' row hs hg hr => h s W W' row hs hg (fun r e => (hr r e).1)
def iterPostK (h0:Nat) (N:Nat) (I:Nat → World → Prop) (Ix:Code → Nat → World → Prop) (k:Nat) (W:World):Exit → Act → World → Prop
 | .normal,_,B => Aloft h0 W B ∧ k < N ∧ I (k + 1) B
 | .ret,_,B => Aloft h0 W B ∧ Ix .ret k B
 | .exit id,_,B => Aloft h0 W B ∧ Ix (.exit id) k B
 | .goto t,_,B => Aloft h0 W B ∧ Ix (.goto t) k B
 | .panic _,_,_ => False
 | .outgrown,_,_ => False
def ItersK (F:Fence) (n:Nat) (P:Program) (g:Nat) (lb:Array Value) (R:Nat → Array Value → Prop) (fini:Nat → Prop) (N:Nat) (Keep:Nat → World → Prop):Prop :=
 ∀ (l:Nat) (J Jx:Nat → World → Prop) (W:World),
   l < W.heap.size →
   (∀ k A,J k A → Keep k A) →
   (∀ k A B row,J k A → A.grownBy B row → (∀ r,row=some r → W.heap.size ≤ r) → J k B) →
   (∀ k v A,k ≤ N → R k v → J k A → YieldAt F (n - 1) P l v A fun e B =>
     (e=.returned (.bool true) ∧ k < N ∧ Aloft (l + 1) A B ∧ J (k + 1) B) ∨ (e=.returned (.bool false) ∧ Jx k B)) →
   J 0 W →
   CallsIn F n P g (#[.func (.yield l) #[] #[]] ++ lb) W fun e B => (∃ v,e=.returned v) ∧ ((∃ k,k ≤ N ∧ Jx k B) ∨ (∃ k,k ≤ N ∧ fini k ∧ J k B))
variable {F:Fence} {n:Nat} {P:Program}
theorem wpIn_iterK {g:Operand} {ps:Array Tmp} {assign body:Code} {Q:Exit → Act → World → Prop} {a:Act} {w:World}
   (hro:F.round=none) (h1:1 ≤ n) {gf:Nat} {lb:Array Value} (hg:a.eval g=.func (.func gf) #[] lb) (hFg:F.fn gf) (eg:∀ args w,(callFunc gf args).run P w=.ok (.enter gf args) w)
   {R:Nat → Array Value → Prop} {fini:Nat → Prop} {N:Nat} {Keep:Nat → World → Prop} (hseq:ItersK F (n - 1) P gf lb R fini N Keep) (hps:∀ k v,R k v → v.size=ps.size)
   (I:Nat → World → Prop) (Ix:Code → Nat → World → Prop) (hI:OwnAll w.heap.size I) (hIx:∀ c,OwnFrom w.heap.size (Ix c)) (hIb:∀ k A,I k A → Keep k A) (hi0:I 0 w) (RA:Nat → Array Value → Act → World → Prop) (hRA:∀ v a₁,OwnFrom w.heap.size (fun k W => RA k v a₁ W))
   (hassign:∀ (l k:Nat) (v:Array Value) (W:World) (K:Act → World → Prop),k ≤ N → R k v → I k W → (∀ a₁ W₁,Aloft w.heap.size W W₁ → RA k v a₁ W₁ → K a₁ W₁) →
     assign.wpIn (F.inRound l) (n - 1 - 1) P (Exit.then K (fun _ _ _ => False)) { tmps:=(ps.zip v).foldl (fun t (p,v) => t.setIfInBounds p v) a.tmps,defers:=[] } W)
   (hbody:∀ (l k:Nat) (v:Array Value) (a₁:Act) (W:World),k ≤ N → R k v → RA k v a₁ W → body.wpIn (F.inRound l) (n - 1 - 1) P (iterPostK w.heap.size N I Ix k W) a₁ W)
   (hdone:∀ (D k:Nat) (W:World),w.heap.size ≤ D → k ≤ N → fini k → I k W → W.heap[D]?=some (.deferred (some [])) → Q .normal { a with defers:={ target:=.collected D,args:=#[] } :: a.defers } W)
   (hstop:∀ (D:Nat) (c:Code) (k:Nat) (W:World),w.heap.size ≤ D → k ≤ N → Ix c k W → W.heap[D]?=some (.deferred (some [])) → c.wpIn F n P Q { a with defers:={ target:=.collected D,args:=#[] } :: a.defers } W) :
   (Code.rangeFunc g ps assign body).wpIn F n P Q a w:=by
 have hIA:=hI
 replace hI:=hI.from
 refine wpIn_rangeFunc (fun fn hfn => ?_)
 rw [hro]
 
 obtain ⟨s,hs⟩:∃ s,w.heap.size=s:=⟨_,rfl⟩
 obtain ⟨W1,hW1⟩:∃ W1,(w.alloc (.deferred (some []))).alloc (.loop (loopRec fn a.tmps ps assign body s .ready none))=W1:=⟨_,rfl⟩
 have hg1:w.grownBy W1 none:=by
   rw [← hW1]; exact (World.grownBy_alloc w _ none).trans (World.grownBy_alloc _ _ none)
 have hL1:W1.heap[s + 1]?=some (.loop (loopRec fn a.tmps ps assign body s .ready none)):=by
   rw [← hW1,← hs]
   have:=World.alloc_heap_new (w.alloc (.deferred (some []))) (.loop (loopRec fn a.tmps ps assign body w.heap.size .ready none))
   rwa [World.size_alloc] at this
 have hD1:W1.heap[s]?=some (.deferred (some [])):=by
   rw [← hW1,← hs]; exact (Below.heap_alloc _ _ _ (by simp)).trans (World.alloc_heap_new w _)
 have hI1:I 0 W1:=hI 0 w W1 none hi0 hg1 (fun r e => by cases e)
 rw [hs] at hI hIA hIx hRA hassign hbody hdone hstop
 refine ⟨s + 1,[{ target:=.collected s,args:=#[] }],W1,{ target:=.fn (.func gf) lb,args:=#[.func (.yield (s + 1)) #[] #[]] },W1,gf,
   #[.func (.yield (s + 1)) #[] #[]] ++ lb,W1,?_,?_,?_,?_,fun _ => h1,?_⟩
 · rw [← hW1,← hs]; exact run_enterLoop_outer _ _ _ _ _
 · simp only [resolve,hg]; simp [go_sem]
 · intro f' hf'; simp [Target.leads] at hf'; subst hf'; exact hFg
 · simp [invoke,go_sem,eg]
 · refine (hseq (s + 1)
     (fun k W => I k W ∧ W.heap[s + 1]?=some (.loop (loopRec fn a.tmps ps assign body s .ready none)) ∧ W.heap[s]?=some (.deferred (some [])))
     (fun k W => ∃ c,Ix c k W ∧ W.heap[s + 1]?=some (.loop (loopRec fn a.tmps ps assign body s .done (some c))) ∧ W.heap[s]?=some (.deferred (some [])))
     W1 (Array.getElem?_eq_some_iff.1 hL1).1 (fun k A h => hIb k A h.1) ?_ ?_ ⟨hI1,hL1,hD1⟩).mono ?_
   · rintro k A B row ⟨hi,hl,hd⟩ hgr hrow
     have hW1:s + 1 < W1.heap.size:=(Array.getElem?_eq_some_iff.1 hL1).1
     have hne:∀ j,j ≤ s + 1 → some j ≠ row:=fun j hj e => by have:=hrow j e.symm; omega
     exact ⟨hIA k A B row hi hgr (fun r e => by have:=hrow r e; omega),(hgr.block _ (Array.getElem?_eq_some_iff.1 hl).1 (hne _ (Nat.le_refl _))).trans hl,(hgr.block _ (Array.getElem?_eq_some_iff.1 hd).1 (hne _ (by omega))).trans hd⟩
   · 
     rintro k v A hk hR ⟨hi,hl,hd⟩
     have hlt0:s + 1 < A.heap.size:=(Array.getElem?_eq_some_iff.1 hl).1
     refine ⟨fn,_,assign,body,run_yield (P:=P) (args:=v) hl (hps k v hR),roundIn_of_wpIn hfn (hassign _ k v A _ hk hR hi fun a₁ A1 hal hRA1 => ?_)⟩
     have hl1:=(hal.blk _ (by omega) hlt0).trans hl
     have hd1:=(hal.blk _ (Nat.le_refl _) (by omega)).trans hd
     have hlt:s + 1 < A1.heap.size:=Nat.lt_of_lt_of_le hlt0 hal.size
     refine ⟨_,run_beginRound hl1 rfl,?_⟩
     obtain ⟨A2,hA2⟩:∃ A2,A1.putObj (s + 1) (.loop { loopRec fn a.tmps ps assign body s .ready none with state:=.busy })=A2:=⟨_,rfl⟩
     have hl2:A2.heap[s + 1]?=some (.loop { loopRec fn a.tmps ps assign body s .ready none with state:=.busy }):=by rw [← hA2]; exact World.putObj_heap_same hlt
     have hd2:A2.heap[s]?=some (.deferred (some [])):=by rw [← hA2]; exact (World.putObj_heap_other (by omega)).trans hd1
     have hlo:Aloft (s + 1 + 1) A A2:=(hal.up (by omega)).trans (by rw [← hA2]; exact Aloft.grown (grownBy_putObj' A1 (s + 1) _) (fun r e => by cases e; omega))
     have hi2:RA k v a₁ A2:=by rw [← hA2]; exact (hRA v a₁).putObj _ hRA1 (by omega) hl1 rfl
     rw [hA2]
     refine wpIn_mono (hbody (s + 1) k v a₁ A2 hk hR hi2) ?_
     
     have ends:∀ (jump:Option Code) (B:World),KeepsFrom s A2 B → B.heap[s + 1]?=some (.loop { loopRec fn a.tmps ps assign body s .ready none with state:=.busy }) ∧
         (Instr.endRound (s + 1) jump).run P B=.ok (.bool jump.isNone) (B.putObj (s + 1) (.loop (loopRec fn a.tmps ps assign body s (if jump.isNone then .ready else .done) jump))) ∧
         (B.putObj (s + 1) (.loop (loopRec fn a.tmps ps assign body s (if jump.isNone then .ready else .done) jump))).heap[s + 1]?=some (.loop (loopRec fn a.tmps ps assign body s (if jump.isNone then .ready else .done) jump)) ∧
         (B.putObj (s + 1) (.loop (loopRec fn a.tmps ps assign body s (if jump.isNone then .ready else .done) jump))).heap[s]?=some (.deferred (some [])):=by
       intro jump B hk3
       have hl3:=hk3.same _ _ (by omega) hl2 rfl
       exact ⟨hl3,run_endRound (P:=P) jump hl3,World.putObj_heap_same (Array.getElem?_eq_some_iff.1 hl3).1,(World.putObj_heap_other (by omega)).trans (hk3.same _ _ (Nat.le_refl _) hd2 rfl)⟩
     intro e a3 B hp
     cases e with
     | normal =>
       obtain ⟨hk3,hkN,hi3⟩:=hp
       obtain ⟨hl3,hr,hl4,hd4⟩:=ends none B hk3.keeps
       exact ⟨_,_,hr,.inl ⟨rfl,hkN,(hlo.trans (hk3.up (by omega))).trans (Aloft.grown (grownBy_putObj' B (s + 1) _) (fun r e => by cases e; omega)),hI.putObj _ hi3 (by omega) hl3 rfl,hl4,hd4⟩⟩
     | ret =>
       obtain ⟨hk3,hi3⟩:=hp
       obtain ⟨hl3,hr,hl4,hd4⟩:=ends (some .ret) B hk3.keeps
       exact ⟨_,_,hr,.inr ⟨rfl,.ret,(hIx _).putObj _ hi3 (by omega) hl3 rfl,hl4,hd4⟩⟩
     | exit id =>
       obtain ⟨hk3,hi3⟩:=hp
       obtain ⟨hl3,hr,hl4,hd4⟩:=ends (some (.exit id)) B hk3.keeps
       exact ⟨_,_,hr,.inr ⟨rfl,.exit id,(hIx _).putObj _ hi3 (by omega) hl3 rfl,hl4,hd4⟩⟩
     | goto t =>
       obtain ⟨hk3,hi3⟩:=hp
       obtain ⟨hl3,hr,hl4,hd4⟩:=ends (some (.goto t)) B hk3.keeps
       exact ⟨_,_,hr,.inr ⟨rfl,.goto t,(hIx _).putObj _ hi3 (by omega) hl3 rfl,hl4,hd4⟩⟩
     | panic ch => exact hp.elim
     | outgrown => exact hp.elim
   · 
     rintro e B ⟨⟨v,rfl⟩,(⟨k,hkN,c,hi,hl,hd⟩ | ⟨k,hkN,hf,hi,hl,hd⟩)⟩
     · exact ⟨some c,_,run_endLoop (P:=P) hl (by simp [loopRec]),hstop _ c k _ (Nat.le_refl _) hkN ((hIx c).putObj _ hi (by omega) hl rfl) ((World.putObj_heap_other (by omega)).trans hd)⟩
     · exact ⟨none,_,run_endLoop (P:=P) hl (by simp [loopRec]),hdone _ k _ (Nat.le_refl _) hkN hf (hI.putObj _ hi (by omega) hl rfl) ((World.putObj_heap_other (by omega)).trans hd)⟩
end Go.Proofs.YthhfljldbfgpcaaGreatDoor
end
