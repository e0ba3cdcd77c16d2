/- Merged texts: Iter, IterR, TilY, FloN, TilF. -/
import Derived.Test.YtalmhbcmagjheaaJ1
import Derived.RangeFuncNested
import Derived.RangeFuncCalls
import Derived.RangeFuncLeaves
import Derived.RangeFuncBox
import Derived.OwnWalkIn
import Derived.TacticsInMore
import Derived.LoopNIn
import Derived.LoopIn
import Derived.WalkMore
import Derived.Test.YtalmhbcmagjheaaJ9
import Derived.Lib.FrozenHead
import Derived.Shelf.Abstract
import Derived.Test.YtalmhbcmagjheaaJ8
import Derived.Test.YtalmhbcmagjheaaJ3
import Derived.Outline
section
/- A range over an iterator that is told by the number of its rounds: the iterator may go on for ever; the body leaves in round N at the latest. -/
namespace Go.Proofs.Ytalmhbcmagjheaa
open Go.RowKit

/-- What an iterator promises: in round k it calls yield with vs k; it ends by itself only where 'fini k' holds (k rounds are over). Keep: what it asks of the world between two rounds. J: what holds between two rounds; Jx: what holds once a round has said 'no more'. -/
def Iters (F : Fence) (n : Nat) (P : Program) (g : Nat) (lb : Array Value) (vs : Nat → Array Value) (fini : Nat → Prop) (N : Nat) (Keep : World → Prop) : Prop :=
  ∀ (l : Nat) (J Jx : Nat → World → Prop) (W : World),
    (∀ k A, J k A → Keep A) →
    (∀ k A B, J k A → A.grownBy B none → J k B) →
    (∀ k A, k ≤ N → J k A → YieldAt F (n - 1) P l (vs k) A fun e B =>
      (e = .returned (.bool true) ∧ k < N ∧ J (k + 1) B) ∨ (e = .returned (.bool false) ∧ Jx k B)) →
    J 0 W →
    CallsIn F n P g (#[.func (.yield l) #[] #[]] ++ lb) W fun e B => (∃ v, e = .returned v) ∧ ((∃ k, k ≤ N ∧ Jx k B) ∨ (∃ k, k ≤ N ∧ fini k ∧ J k B))

/-- what the body of the loop achieves in round k -/
def iterPost (h0 : Nat) (N : Nat) (I : Nat → World → Prop) (Ix : Code → Nat → World → Prop) (k : Nat) (W : World) : Exit → Act → World → Prop
  | .normal, _, B => KeepsFrom h0 W B ∧ k < N ∧ I (k + 1) B
  | .ret, _, B => KeepsFrom h0 W B ∧ Ix .ret k B
  | .exit id, _, B => KeepsFrom h0 W B ∧ Ix (.exit id) k B
  | .goto t, _, B => KeepsFrom h0 W B ∧ Ix (.goto t) k B
  | .panic _, _, _ => False
  | .outgrown, _, _ => False

variable {F : Fence} {n : Nat} {P : Program}

/-- a loop's record in one of its states -/
def loopRec (fn : FuncId) (tmps : Array Value) (ps : Array Tmp) (assign body : Code) (d : Nat) (st : LoopState) (pe : Option Code) : Loop :=
  { state := st, pending := pe, fn := fn, tmps := tmps, params := ps, assign := assign, body := body, defers := d }

theorem wpIn_iter {g : Operand} {ps : Array Tmp} {assign body : Code} {Q : Exit → Act → World → Prop} {a : Act} {w : World}
    (hro : F.round = none) (h1 : 1 ≤ n) {gf : Nat} {lb : Array Value} (hg : a.eval g = .func (.func gf) #[] lb) (hFg : F.fn gf) (eg : ∀ args w, (callFunc gf args).run P w = .ok (.enter gf args) w)
    {vs : Nat → Array Value} {fini : Nat → Prop} {N : Nat} {Keep : World → Prop} (hseq : Iters F (n - 1) P gf lb vs fini N Keep) (hps : ∀ k, (vs k).size = ps.size)
    (I : Nat → World → Prop) (Ix : Code → Nat → World → Prop) (hI : OwnFrom w.heap.size I) (hIx : ∀ c, OwnFrom w.heap.size (Ix c)) (hIb : ∀ k A, I k A → Keep A) (hi0 : I 0 w) (a₁ : Nat → Act)
    (hassign : ∀ (l k : Nat) (W : World) (K : Act → World → Prop), K (a₁ k) W →
      assign.wpIn (F.inRound l) (n - 1 - 1) P (Exit.then K (fun _ _ _ => False)) { tmps := (ps.zip (vs k)).foldl (fun t (p, v) => t.setIfInBounds p v) a.tmps, defers := [] } W)
    (hbody : ∀ (l k : Nat) (W : World), k ≤ N → I k W → body.wpIn (F.inRound l) (n - 1 - 1) P (iterPost w.heap.size N I Ix k W) (a₁ k) W)
    (hdone : ∀ (D k : Nat) (W : World), w.heap.size ≤ D → k ≤ N → fini k → I k W → W.heap[D]? = some (.deferred (some [])) → Q .normal { a with defers := { target := .collected D, args := #[] } :: a.defers } W)
    (hstop : ∀ (D : Nat) (c : Code) (k : Nat) (W : World), w.heap.size ≤ D → k ≤ N → Ix c k W → W.heap[D]? = some (.deferred (some [])) → c.wpIn F n P Q { a with defers := { target := .collected D, args := #[] } :: a.defers } W) :
    (Code.rangeFunc g ps assign body).wpIn F n P Q a w := by
  refine wpIn_rangeFunc (fun fn hfn => ?_)
  rw [hro]
  -- the two blocks: the deferred calls (at s), the loop's record (at s + 1)
  obtain ⟨s, hs⟩ : ∃ s, w.heap.size = s := ⟨_, rfl⟩
  obtain ⟨W1, hW1⟩ : ∃ W1, (w.alloc (.deferred (some []))).alloc (.loop (loopRec fn a.tmps ps assign body s .ready none)) = W1 := ⟨_, rfl⟩
  have hg1 : w.grownBy W1 none := by
    rw [← hW1]; exact (World.grownBy_alloc w _ none).trans (World.grownBy_alloc _ _ none)
  have hL1 : W1.heap[s + 1]? = some (.loop (loopRec fn a.tmps ps assign body s .ready none)) := by
    rw [← hW1, ← hs]
    have := World.alloc_heap_new (w.alloc (.deferred (some []))) (.loop (loopRec fn a.tmps ps assign body w.heap.size .ready none))
    rwa [World.size_alloc] at this
  have hD1 : W1.heap[s]? = some (.deferred (some [])) := by
    rw [← hW1, ← hs]; exact (Below.heap_alloc _ _ _ (by simp)).trans (World.alloc_heap_new w _)
  have hI1 : I 0 W1 := hI 0 w W1 none hi0 hg1 (fun r e => by cases e)
  rw [hs] at hI hIx hbody hdone hstop
  refine ⟨s + 1, [{ target := .collected s, args := #[] }], W1, { target := .fn (.func gf) lb, args := #[.func (.yield (s + 1)) #[] #[]] }, W1, gf,
    #[.func (.yield (s + 1)) #[] #[]] ++ lb, W1, ?_, ?_, ?_, ?_, fun _ => h1, ?_⟩
  · rw [← hW1, ← hs]; exact run_enterLoop_outer _ _ _ _ _
  · simp only [resolve, hg]; simp [go_sem]
  · intro f' hf'; simp [Target.leads] at hf'; subst hf'; exact hFg
  · simp [invoke, go_sem, eg]
  · refine (hseq (s + 1)
      (fun k W => I k W ∧ W.heap[s + 1]? = some (.loop (loopRec fn a.tmps ps assign body s .ready none)) ∧ W.heap[s]? = some (.deferred (some [])))
      (fun k W => ∃ c, Ix c k W ∧ W.heap[s + 1]? = some (.loop (loopRec fn a.tmps ps assign body s .done (some c))) ∧ W.heap[s]? = some (.deferred (some [])))
      W1 (fun k A h => hIb k A h.1) ?_ ?_ ⟨hI1, hL1, hD1⟩).mono ?_
    · rintro k A B ⟨hi, hl, hd⟩ hgr
      exact ⟨hI k A B none hi hgr (fun r e => by cases e), (hgr.block _ (Array.getElem?_eq_some_iff.1 hl).1 (by simp)).trans hl, (hgr.block _ (Array.getElem?_eq_some_iff.1 hd).1 (by simp)).trans hd⟩
    · -- one round
      rintro k A hk ⟨hi, hl, hd⟩
      have hlt : s + 1 < A.heap.size := (Array.getElem?_eq_some_iff.1 hl).1
      refine ⟨fn, _, assign, body, run_yield (P := P) (args := vs k) hl (hps k), roundIn_of_wpIn hfn (hassign _ k A _ ⟨_, run_beginRound hl rfl, ?_⟩)⟩
      obtain ⟨A2, hA2⟩ : ∃ A2, A.putObj (s + 1) (.loop { loopRec fn a.tmps ps assign body s .ready none with state := .busy }) = A2 := ⟨_, rfl⟩
      have hl2 : A2.heap[s + 1]? = some (.loop { loopRec fn a.tmps ps assign body s .ready none with state := .busy }) := by rw [← hA2]; exact World.putObj_heap_same hlt
      have hd2 : A2.heap[s]? = some (.deferred (some [])) := by rw [← hA2]; exact (World.putObj_heap_other (by omega)).trans hd
      have hi2 : I k A2 := by rw [← hA2]; exact hI.putObj _ hi (by omega) hl rfl
      rw [hA2]
      refine wpIn_mono (hbody (s + 1) k A2 hk hi2) ?_
      -- the round's end: the record is put back
      have ends : ∀ (jump : Option Code) (B : World), KeepsFrom s A2 B → B.heap[s + 1]? = some (.loop { loopRec fn a.tmps ps assign body s .ready none with state := .busy }) ∧
          (Instr.endRound (s + 1) jump).run P B = .ok (.bool jump.isNone) (B.putObj (s + 1) (.loop (loopRec fn a.tmps ps assign body s (if jump.isNone then .ready else .done) jump))) ∧
          (B.putObj (s + 1) (.loop (loopRec fn a.tmps ps assign body s (if jump.isNone then .ready else .done) jump))).heap[s + 1]? = some (.loop (loopRec fn a.tmps ps assign body s (if jump.isNone then .ready else .done) jump)) ∧
          (B.putObj (s + 1) (.loop (loopRec fn a.tmps ps assign body s (if jump.isNone then .ready else .done) jump))).heap[s]? = some (.deferred (some [])) := by
        intro jump B hk3
        have hl3 := hk3.same _ _ (by omega) hl2 rfl
        exact ⟨hl3, run_endRound (P := P) jump hl3, World.putObj_heap_same (Array.getElem?_eq_some_iff.1 hl3).1, (World.putObj_heap_other (by omega)).trans (hk3.same _ _ (Nat.le_refl _) hd2 rfl)⟩
      intro e a3 B hp
      cases e with
      | normal =>
        obtain ⟨hk3, hkN, hi3⟩ := hp
        obtain ⟨hl3, hr, hl4, hd4⟩ := ends none B hk3
        exact ⟨_, _, hr, .inl ⟨rfl, hkN, hI.putObj _ hi3 (by omega) hl3 rfl, hl4, hd4⟩⟩
      | ret =>
        obtain ⟨hk3, hi3⟩ := hp
        obtain ⟨hl3, hr, hl4, hd4⟩ := ends (some .ret) B hk3
        exact ⟨_, _, hr, .inr ⟨rfl, .ret, (hIx _).putObj _ hi3 (by omega) hl3 rfl, hl4, hd4⟩⟩
      | exit id =>
        obtain ⟨hk3, hi3⟩ := hp
        obtain ⟨hl3, hr, hl4, hd4⟩ := ends (some (.exit id)) B hk3
        exact ⟨_, _, hr, .inr ⟨rfl, .exit id, (hIx _).putObj _ hi3 (by omega) hl3 rfl, hl4, hd4⟩⟩
      | goto t =>
        obtain ⟨hk3, hi3⟩ := hp
        obtain ⟨hl3, hr, hl4, hd4⟩ := ends (some (.goto t)) B hk3
        exact ⟨_, _, hr, .inr ⟨rfl, .goto t, (hIx _).putObj _ hi3 (by omega) hl3 rfl, hl4, hd4⟩⟩
      | panic ch => exact hp.elim
      | outgrown => exact hp.elim
    · -- behind the iterator
      rintro e B ⟨⟨v, rfl⟩, (⟨k, hkN, c, hi, hl, hd⟩ | ⟨k, hkN, hf, hi, hl, hd⟩)⟩
      · exact ⟨some c, _, run_endLoop (P := P) hl (by simp [loopRec]), hstop _ c k _ (Nat.le_refl _) hkN ((hIx c).putObj _ hi (by omega) hl rfl) ((World.putObj_heap_other (by omega)).trans hd)⟩
      · exact ⟨none, _, run_endLoop (P := P) hl (by simp [loopRec]), hdone _ k _ (Nat.le_refl _) hkN hf (hI.putObj _ hi (by omega) hl rfl) ((World.putObj_heap_other (by omega)).trans hd)⟩
end Go.Proofs.Ytalmhbcmagjheaa
end

section
/- A range over an iterator whose values are told by a relation: the iterator may go on for ever; the body leaves in round N at the latest. -/
namespace Go.Proofs.Ytalmhbcmagjheaa
open Go.RowKit

/-- What an iterator promises: in round k it calls yield with values of R k; it ends by itself only where 'fini k' holds (k rounds are over). Keep k: what it asks of the world ahead of round k. J: what holds between two rounds; Jx: what holds once a round has said 'no more'. -/
def ItersR (F : Fence) (n : Nat) (P : Program) (g : Nat) (lb : Array Value) (R : Nat → Array Value → Prop) (fini : Nat → Prop) (N : Nat) (Keep : Nat → World → Prop) : Prop :=
  ∀ (l : Nat) (J Jx : Nat → World → Prop) (W : World),
    (∀ k A, J k A → Keep k A) →
    (∀ k A B, J k A → A.grownBy B none → J k B) →
    (∀ k v A, k ≤ N → R k v → J k A → YieldAt F (n - 1) P l v A fun e B =>
      (e = .returned (.bool true) ∧ k < N ∧ J (k + 1) B) ∨ (e = .returned (.bool false) ∧ Jx k B)) →
    J 0 W →
    CallsIn F n P g (#[.func (.yield l) #[] #[]] ++ lb) W fun e B => (∃ v, e = .returned v) ∧ ((∃ k, k ≤ N ∧ Jx k B) ∨ (∃ k, k ≤ N ∧ fini k ∧ J k B))

variable {F : Fence} {n : Nat} {P : Program}

theorem wpIn_iterR {g : Operand} {ps : Array Tmp} {assign body : Code} {Q : Exit → Act → World → Prop} {a : Act} {w : World}
    (hro : F.round = none) (h1 : 1 ≤ n) {gf : Nat} {lb : Array Value} (hg : a.eval g = .func (.func gf) #[] lb) (hFg : F.fn gf) (eg : ∀ args w, (callFunc gf args).run P w = .ok (.enter gf args) w)
    {R : Nat → Array Value → Prop} {fini : Nat → Prop} {N : Nat} {Keep : Nat → World → Prop} (hseq : ItersR F (n - 1) P gf lb R fini N Keep) (hps : ∀ k v, R k v → v.size = ps.size)
    (I : Nat → World → Prop) (Ix : Code → Nat → World → Prop) (hI : OwnFrom w.heap.size I) (hIx : ∀ c, OwnFrom w.heap.size (Ix c)) (hIb : ∀ k A, I k A → Keep k A) (hi0 : I 0 w) (a₁ : Nat → Array Value → Act)
    (hassign : ∀ (l k : Nat) (v : Array Value) (W : World) (K : Act → World → Prop), R k v → K (a₁ k v) W →
      assign.wpIn (F.inRound l) (n - 1 - 1) P (Exit.then K (fun _ _ _ => False)) { tmps := (ps.zip v).foldl (fun t (p, v) => t.setIfInBounds p v) a.tmps, defers := [] } W)
    (hbody : ∀ (l k : Nat) (v : Array Value) (W : World), k ≤ N → R k v → I k W → body.wpIn (F.inRound l) (n - 1 - 1) P (iterPost w.heap.size N I Ix k W) (a₁ k v) W)
    (hdone : ∀ (D k : Nat) (W : World), w.heap.size ≤ D → k ≤ N → fini k → I k W → W.heap[D]? = some (.deferred (some [])) → Q .normal { a with defers := { target := .collected D, args := #[] } :: a.defers } W)
    (hstop : ∀ (D : Nat) (c : Code) (k : Nat) (W : World), w.heap.size ≤ D → k ≤ N → Ix c k W → W.heap[D]? = some (.deferred (some [])) → c.wpIn F n P Q { a with defers := { target := .collected D, args := #[] } :: a.defers } W) :
    (Code.rangeFunc g ps assign body).wpIn F n P Q a w := by
  refine wpIn_rangeFunc (fun fn hfn => ?_)
  rw [hro]
  -- the two blocks: the deferred calls (at s), the loop's record (at s + 1)
  obtain ⟨s, hs⟩ : ∃ s, w.heap.size = s := ⟨_, rfl⟩
  obtain ⟨W1, hW1⟩ : ∃ W1, (w.alloc (.deferred (some []))).alloc (.loop (loopRec fn a.tmps ps assign body s .ready none)) = W1 := ⟨_, rfl⟩
  have hg1 : w.grownBy W1 none := by
    rw [← hW1]; exact (World.grownBy_alloc w _ none).trans (World.grownBy_alloc _ _ none)
  have hL1 : W1.heap[s + 1]? = some (.loop (loopRec fn a.tmps ps assign body s .ready none)) := by
    rw [← hW1, ← hs]
    have := World.alloc_heap_new (w.alloc (.deferred (some []))) (.loop (loopRec fn a.tmps ps assign body w.heap.size .ready none))
    rwa [World.size_alloc] at this
  have hD1 : W1.heap[s]? = some (.deferred (some [])) := by
    rw [← hW1, ← hs]; exact (Below.heap_alloc _ _ _ (by simp)).trans (World.alloc_heap_new w _)
  have hI1 : I 0 W1 := hI 0 w W1 none hi0 hg1 (fun r e => by cases e)
  rw [hs] at hI hIx hbody hdone hstop
  refine ⟨s + 1, [{ target := .collected s, args := #[] }], W1, { target := .fn (.func gf) lb, args := #[.func (.yield (s + 1)) #[] #[]] }, W1, gf,
    #[.func (.yield (s + 1)) #[] #[]] ++ lb, W1, ?_, ?_, ?_, ?_, fun _ => h1, ?_⟩
  · rw [← hW1, ← hs]; exact run_enterLoop_outer _ _ _ _ _
  · simp only [resolve, hg]; simp [go_sem]
  · intro f' hf'; simp [Target.leads] at hf'; subst hf'; exact hFg
  · simp [invoke, go_sem, eg]
  · refine (hseq (s + 1)
      (fun k W => I k W ∧ W.heap[s + 1]? = some (.loop (loopRec fn a.tmps ps assign body s .ready none)) ∧ W.heap[s]? = some (.deferred (some [])))
      (fun k W => ∃ c, Ix c k W ∧ W.heap[s + 1]? = some (.loop (loopRec fn a.tmps ps assign body s .done (some c))) ∧ W.heap[s]? = some (.deferred (some [])))
      W1 (fun k A h => hIb k A h.1) ?_ ?_ ⟨hI1, hL1, hD1⟩).mono ?_
    · rintro k A B ⟨hi, hl, hd⟩ hgr
      exact ⟨hI k A B none hi hgr (fun r e => by cases e), (hgr.block _ (Array.getElem?_eq_some_iff.1 hl).1 (by simp)).trans hl, (hgr.block _ (Array.getElem?_eq_some_iff.1 hd).1 (by simp)).trans hd⟩
    · -- one round
      rintro k v A hk hR ⟨hi, hl, hd⟩
      have hlt : s + 1 < A.heap.size := (Array.getElem?_eq_some_iff.1 hl).1
      refine ⟨fn, _, assign, body, run_yield (P := P) (args := v) hl (hps k v hR), roundIn_of_wpIn hfn (hassign _ k v A _ hR ⟨_, run_beginRound hl rfl, ?_⟩)⟩
      obtain ⟨A2, hA2⟩ : ∃ A2, A.putObj (s + 1) (.loop { loopRec fn a.tmps ps assign body s .ready none with state := .busy }) = A2 := ⟨_, rfl⟩
      have hl2 : A2.heap[s + 1]? = some (.loop { loopRec fn a.tmps ps assign body s .ready none with state := .busy }) := by rw [← hA2]; exact World.putObj_heap_same hlt
      have hd2 : A2.heap[s]? = some (.deferred (some [])) := by rw [← hA2]; exact (World.putObj_heap_other (by omega)).trans hd
      have hi2 : I k A2 := by rw [← hA2]; exact hI.putObj _ hi (by omega) hl rfl
      rw [hA2]
      refine wpIn_mono (hbody (s + 1) k v A2 hk hR hi2) ?_
      -- the round's end: the record is put back
      have ends : ∀ (jump : Option Code) (B : World), KeepsFrom s A2 B → B.heap[s + 1]? = some (.loop { loopRec fn a.tmps ps assign body s .ready none with state := .busy }) ∧
          (Instr.endRound (s + 1) jump).run P B = .ok (.bool jump.isNone) (B.putObj (s + 1) (.loop (loopRec fn a.tmps ps assign body s (if jump.isNone then .ready else .done) jump))) ∧
          (B.putObj (s + 1) (.loop (loopRec fn a.tmps ps assign body s (if jump.isNone then .ready else .done) jump))).heap[s + 1]? = some (.loop (loopRec fn a.tmps ps assign body s (if jump.isNone then .ready else .done) jump)) ∧
          (B.putObj (s + 1) (.loop (loopRec fn a.tmps ps assign body s (if jump.isNone then .ready else .done) jump))).heap[s]? = some (.deferred (some [])) := by
        intro jump B hk3
        have hl3 := hk3.same _ _ (by omega) hl2 rfl
        exact ⟨hl3, run_endRound (P := P) jump hl3, World.putObj_heap_same (Array.getElem?_eq_some_iff.1 hl3).1, (World.putObj_heap_other (by omega)).trans (hk3.same _ _ (Nat.le_refl _) hd2 rfl)⟩
      intro e a3 B hp
      cases e with
      | normal =>
        obtain ⟨hk3, hkN, hi3⟩ := hp
        obtain ⟨hl3, hr, hl4, hd4⟩ := ends none B hk3
        exact ⟨_, _, hr, .inl ⟨rfl, hkN, hI.putObj _ hi3 (by omega) hl3 rfl, hl4, hd4⟩⟩
      | ret =>
        obtain ⟨hk3, hi3⟩ := hp
        obtain ⟨hl3, hr, hl4, hd4⟩ := ends (some .ret) B hk3
        exact ⟨_, _, hr, .inr ⟨rfl, .ret, (hIx _).putObj _ hi3 (by omega) hl3 rfl, hl4, hd4⟩⟩
      | exit id =>
        obtain ⟨hk3, hi3⟩ := hp
        obtain ⟨hl3, hr, hl4, hd4⟩ := ends (some (.exit id)) B hk3
        exact ⟨_, _, hr, .inr ⟨rfl, .exit id, (hIx _).putObj _ hi3 (by omega) hl3 rfl, hl4, hd4⟩⟩
      | goto t =>
        obtain ⟨hk3, hi3⟩ := hp
        obtain ⟨hl3, hr, hl4, hd4⟩ := ends (some (.goto t)) B hk3
        exact ⟨_, _, hr, .inr ⟨rfl, .goto t, (hIx _).putObj _ hi3 (by omega) hl3 rfl, hl4, hd4⟩⟩
      | panic ch => exact hp.elim
      | outgrown => exact hp.elim
    · -- behind the iterator
      rintro e B ⟨⟨v, rfl⟩, (⟨k, hkN, c, hi, hl, hd⟩ | ⟨k, hkN, hf, hi, hl, hd⟩)⟩
      · exact ⟨some c, _, run_endLoop (P := P) hl (by simp [loopRec]), hstop _ c k _ (Nat.le_refl _) hkN ((hIx c).putObj _ hi (by omega) hl rfl) ((World.putObj_heap_other (by omega)).trans hd)⟩
      · exact ⟨none, _, run_endLoop (P := P) hl (by simp [loopRec]), hdone _ k _ (Nat.le_refl _) hkN hf (hI.putObj _ hi (by omega) hl rfl) ((World.putObj_heap_other (by omega)).trans hd)⟩
/-- a scope (a function that holds a label) through which the run goes without a goto -/
theorem stepR_scope {b : Frame} {a : Act} {k : List Item} {cs : List Frame} {w : World} {c : Code} : step P (lone (b.atR a (.code (.scope c) :: k)) cs w) = .next (lone (b.atR a (.code c :: .inScope c :: k)) cs w) :=
  step_lone_go (by simp [stepG, stepG.exec, Frame.atR])
theorem stepR_inScope {b : Frame} {a : Act} {k : List Item} {cs : List Frame} {w : World} {c : Code} : step P (lone (b.atR a (.inScope c :: k)) cs w) = .next (lone (b.atR a k) cs w) :=
  step_lone_go (by simp [stepG, stepG.exec, Frame.atR])
theorem wpIn_scope {Q : Exit → Act → World → Prop} {a : Act} {w : World} {c : Code} (h : c.wpIn F n P (Exit.noGoto Q) a w) : (Code.scope c).wpIn F n P Q a w := by
  intro b k cs hro hb hr
  have h0 : (lone (b.atR a (.code (.scope c) :: k)) cs w).fenced P F := fenced_calm hb hr rfl
  obtain ⟨e, a₁, w₁, hq, harr⟩ := h b (.inScope c :: k) cs hro hb hr
  cases e with
  | normal => exact ⟨.normal, a₁, w₁, hq, .head h0 stepR_scope (StepsIn.trans harr (.one (fenced_calm hb hr rfl) stepR_inScope))⟩
  | exit id =>
    have hx : exitTo id (.inScope c :: k) = exitTo id k := by simp [exitTo]
    exact ⟨.exit id, a₁, w₁, hq, fun k' hk => .head h0 stepR_scope (harr.1 k' (by rw [hx]; exact hk)),
      fun hr' hk => let ⟨k₁, h1, h2⟩ := harr.2 hr' (by rw [hx]; exact hk); ⟨k₁, h1, .head h0 stepR_scope h2⟩⟩
  | goto l => exact hq.elim
  | ret => exact ⟨_, a₁, w₁, hq, .of_steps (.one h0 stepR_scope) harr⟩
  | panic ch => exact ⟨_, a₁, w₁, hq, .of_steps (.one h0 stepR_scope) harr⟩
  | outgrown => exact ⟨_, a₁, w₁, hq, .of_steps (.one h0 stepR_scope) harr⟩
end Go.Proofs.Ytalmhbcmagjheaa
end

section
/- Walks: the program's orbits as iterators; where they escape. -/
namespace Go.Proofs.Ytalmhbcmagjheaa
open Go.RowKit Flo
attribute [local go_sem] Oper.semAt_some
theorem run_st_float (P : Program) (w : World) (a : Addr) (m : Mode) (k : FloatKind) (b : Nat) : (store a (.float k b) m).run P w = stored P w a (.float k b) m := run_store P w a _ m rfl
attribute [local go_sem] run_st_float

theorem Drw.grown {a b : World} (h : Drw a b) {row : Option Nat} : a.grownBy b row := by
  obtain ⟨n, rfl⟩ := h
  exact ⟨rfl, rfl, rfl, Nat.le_refl _, fun _ _ _ => rfl⟩
theorem own_blk {W W' : World} {row : Option Nat} {k : Nat} {o : Obj} (hk : W.heap[k]? = some o) (ho : o.isCells = true) (hg : W.grownBy W' row) (hr : ∀ r, row = some r → ∃ o : Obj, W.heap[r]? = some o ∧ o.isCells = false) : W'.heap[k]? = some o := by
  refine (hg.block k (Array.getElem?_eq_some_iff.1 hk).1 (fun e => ?_)).trans hk
  obtain ⟨o', h1, h2⟩ := hr k e.symm
  rw [hk] at h1
  cases h1
  rw [ho] at h2
  cases h2
/-- what an escape leaves -/
def EscS (c d : Nat) (n : Int) (w : World) (e : Ending) (w' : World) : Prop :=
  (∃ (k : Int) (nm : Nat), e = .returned (.tuple #[.int .i64 k, .float .f64 nm]) ∧ IsEsc (okS c d) (mostN n) k ∧ nm < 18446744073709551616 ∧ (0 ≤ k → Al .f64 (normC (widenC (orbS c d k.toNat).1) (widenC (orbS c d k.toNat).2)) nm)) ∧ Below w.heap.size w w'
/-- what an escape leaves -/
def EscW (c d : Nat) (n : Int) (w : World) (e : Ending) (w' : World) : Prop :=
  (∃ (k : Int) (nm : Nat), e = .returned (.tuple #[.int .i64 k, .float .f64 nm]) ∧ IsEsc (okW c d) (mostN n) k ∧ nm < 18446744073709551616 ∧ (0 ≤ k → Al .f64 (normC (orbW c d k.toNat).1 (orbW c d k.toNat).2) nm)) ∧ Below w.heap.size w w'
theorem orbW_al {c d c' d' : Nat} (hc : Al .f64 c c') (hd : Al .f64 d d') (k : Nat) : orbW c d k = orbW c' d' k := by
  induction k with
  | zero => rfl
  | succ k ih =>
    show stW c d (orbW c d k) = stW c' d' (orbW c' d' k)
    rw [ih]
    exact stW_al hc hd (Al.refl _ _) (Al.refl _ _)
theorem okW_al {c d c' d' : Nat} (hc : Al .f64 c c') (hd : Al .f64 d d') : okW c d = okW c' d' := by
  funext k
  unfold okW
  rw [orbW_al hc hd]
/-- where an orbit escapes, as a number -/
def escN (ok : Nat → Bool) (M : Nat) : Int := match (List.range (M + 1)).find? (fun k => !ok k) with | some k => k | none => -1
theorem escN_is (ok : Nat → Bool) (M : Nat) : IsEsc ok M (escN ok M) := by
  unfold escN
  cases h : (List.range (M + 1)).find? (fun k => !ok k) with
  | none =>
    refine .inr ⟨rfl, fun j hj => ?_⟩
    have := (List.find?_eq_none.1 h) j (List.mem_range.2 (by omega))
    simpa using this
  | some k =>
    have h1 := List.mem_of_find?_eq_some h
    have h2 := List.find?_some h
    rw [List.mem_range] at h1
    refine .inl ⟨k, rfl, by omega, by simpa using h2, fun j hj => ?_⟩
    obtain ⟨_, us, vs, hab, hall⟩ := List.find?_eq_some_iff_append.1 h
    have hl : us.length = k := by
      have h3 : (List.range (M + 1))[us.length]? = some k := by rw [hab]; simp
      rw [List.getElem?_range (by
        have := congrArg List.length hab
        simp at this
        omega)] at h3
      injection h3
    have h4 : j ∈ us := by
      have h5 : (List.range (M + 1))[j]? = some j := List.getElem?_range (by omega)
      rw [hab, List.getElem?_append_left (by omega)] at h5
      exact List.mem_of_getElem? h5
    simpa using hall j h4
theorem IsEsc.num {ok : Nat → Bool} {M : Nat} {r : Int} (h : IsEsc ok M r) : r = escN ok M := h.eq (escN_is ok M)
/-- do the orbits in both widths escape differently -/
def difB (c d : Nat) (n : Int) : Bool := escN (okS c d) (mostN n).toNat != escN (okW (widenC c) (widenC d)) (mostN n).toNat
theorem IsEsc.most {ok : Nat → Bool} {n r : Int} (h : IsEsc ok (mostN n) r) : r = escN ok (mostN n).toNat := by
  have hb := mostN_bd n
  have e : mostN n = ((mostN n).toNat : Nat) := by omega
  rw [e] at h
  exact h.num
end Go.Proofs.Ytalmhbcmagjheaa
end

section
/- Floats: negatives and sizes. Plain. -/
namespace Go.Proofs.Ytalmhbcmagjheaa
namespace Flo
open Ieee

theorem xor_top (a n : Nat) (h : a < 2 ^ n) : a ^^^ 2 ^ n = 2 ^ n + a := by
  apply Nat.eq_of_testBit_eq
  intro i
  rw [Nat.testBit_xor, Nat.testBit_two_pow]
  rcases Nat.lt_trichotomy i n with h1 | h1 | h1
  · rw [Nat.testBit_two_pow_add_gt h1]
    have : decide (n = i) = false := by simp; omega
    rw [this, Bool.xor_false]
  · subst h1
    rw [Nat.testBit_two_pow_add_eq]
    simp
  · have h2 : 2 ^ n + a < 2 ^ i := by
      have : 2 ^ (n + 1) ≤ 2 ^ i := Nat.pow_le_pow_right (by omega) h1
      rw [Nat.pow_succ] at this
      omega
    have h3 : a < 2 ^ i := by omega
    rw [Nat.testBit_lt_two_pow h2, Nat.testBit_lt_two_pow h3]
    have : decide (n = i) = false := by simp; omega
    rw [this]; rfl
theorem width_eq (f : Format) : 2 ^ f.width = 2 * f.signWeight := by
  unfold Format.width Format.signWeight
  rw [Nat.add_assoc, Nat.pow_add]
theorem negFloat_eq (k : FloatKind) (x : Nat) (h : x < 2 ^ k.format.width) : Op.negFloat k x = if x < k.format.signWeight then k.format.signWeight + x else x - k.format.signWeight := by
  rw [width_eq] at h
  unfold Op.negFloat
  have hs : 2 ^ (k.format.exponentBits + k.format.fractionBits) = k.format.signWeight := rfl
  split
  · rename_i hl
    exact xor_top x _ hl
  · rename_i hl
    obtain ⟨y, rfl⟩ : ∃ y, x = k.format.signWeight + y := ⟨x - k.format.signWeight, by omega⟩
    rw [hs]
    have hy : y < k.format.signWeight := by omega
    have := xor_top y (k.format.exponentBits + k.format.fractionBits) hy
    rw [hs] at this
    rw [← this, Nat.xor_assoc, Nat.xor_self, Nat.xor_zero, this]
    omega
theorem neg_neg (k : FloatKind) (x : Nat) : Op.negFloat k (Op.negFloat k x) = x := by
  unfold Op.negFloat
  rw [Nat.xor_assoc, Nat.xor_self, Nat.xor_zero]
theorem rung_flip (f : Format) (x : Nat) (h : x < f.signWeight) : rung f x = x ∧ sgn f x = false ∧ rung f (f.signWeight + x) = x ∧ sgn f (f.signWeight + x) = true := by
  have hp := signWeight_pos f
  unfold rung sgn
  rw [Nat.mod_eq_of_lt h, Nat.div_eq_of_lt h, Nat.add_mod_left, Nat.mod_eq_of_lt h, Nat.add_div_left _ hp, Nat.div_eq_of_lt h]
  exact ⟨rfl, rfl, rfl, rfl⟩
theorem neg_val {k : FloatKind} {x : Nat} {v : Int} (h : Val k.format x v) : Val k.format (Op.negFloat k x) (-v) := by
  have hl := h.lt
  rw [width_eq] at hl
  refine ⟨?_, ?_, ?_⟩
  · exact neg_lt k x h.lt
  · have hf := h.fin
    rw [negFloat_eq k x h.lt]
    unfold fin at hf ⊢
    split
    · rename_i h1
      rw [(rung_flip k.format x h1).2.2.1]
      rw [(rung_flip k.format x h1).1] at hf; exact hf
    · rename_i h1
      obtain ⟨y, rfl⟩ : ∃ y, x = k.format.signWeight + y := ⟨x - k.format.signWeight, by omega⟩
      have hy := rung_flip k.format y (by omega)
      rw [hy.2.2.1] at hf
      rw [Nat.add_sub_cancel_left, hy.1]; exact hf
  · have hiv := h.iv
    rw [negFloat_eq k x h.lt]
    unfold iv at hiv ⊢
    split
    · rename_i h1
      have hx := rung_flip k.format x h1
      rw [hx.2.1, hx.1] at hiv
      rw [hx.2.2.1, hx.2.2.2]
      simp at hiv ⊢; omega
    · rename_i h1
      obtain ⟨y, rfl⟩ : ∃ y, x = k.format.signWeight + y := ⟨x - k.format.signWeight, by omega⟩
      have hy := rung_flip k.format y (by omega)
      rw [hy.2.2.1, hy.2.2.2] at hiv
      rw [Nat.add_sub_cancel_left, hy.1, hy.2.1]
      simp at hiv ⊢; omega
theorem abs_val {f : Format} {x : Nat} {v : Int} (h : Val f x v) : Val f (x % f.signWeight) (v.natAbs : Int) := by
  have hp := signWeight_pos f
  have hlt := Nat.mod_lt x hp
  have hx := rung_flip f (x % f.signWeight) hlt
  refine ⟨?_, ?_, ?_⟩
  · rw [width_eq]; omega
  · unfold fin; rw [hx.1]; exact h.fin
  · have hiv := h.iv
    unfold iv at hiv ⊢
    rw [hx.1, hx.2.1]
    show (rv f (x % f.signWeight) : Int) = _
    rw [← hiv]
    show (rv f (rung f x) : Int) = _
    split <;> simp
theorem signWeight64 : double.signWeight = 9223372036854775808 := by decide
/-- not beyond the greatest float -/
theorem not_inf {z : Nat} {A : Int} (hA : A.natAbs ≤ 8192) (hz : Val double z (A * (2 ^ u64 : Nat))) : (FloatKind.f64.format.order (z % 9223372036854775808) 9218868437227405311 == some .gt) = false := by
  have h := abs_val hz
  rw [signWeight64] at h
  rw [order_gt_val (k := .f64) h max_val]
  rw [Int.natAbs_mul, Int.natAbs_natCast]
  have h2 : A.natAbs * 2 ^ u64 ≤ 8192 * 2 ^ u64 := Nat.mul_le_mul_right _ hA
  have h3 := max_ge
  have h4 : A.natAbs * 2 ^ u64 ≤ maxU := Nat.le_trans h2 h3
  simp only [decide_eq_false_iff_not]
  exact Int.not_lt.2 (Int.ofNat_le.2 h4)
end Flo
end Go.Proofs.Ytalmhbcmagjheaa
end

section
/- Walks: math.Floor at small whole numbers; the program's placeWell. -/
namespace Go.Proofs.Ytalmhbcmagjheaa
open Go.RowKit

theorem cut_down (neg : Bool) (t drop : Nat) : Ieee.Toward.down.cut neg (t * 2 ^ drop) drop = t := by
  unfold Ieee.Toward.cut
  simp only []
  by_cases hd : drop ≤ (t * 2 ^ drop).log2 + 2
  · rw [Nat.min_eq_left hd, Nat.one_shiftLeft, Nat.mul_div_cancel _ (Nat.two_pow_pos _), Nat.mul_mod_left]; simp
  · have h0 : t = 0 := by
      rcases Nat.eq_zero_or_pos t with h | h
      · exact h
      · exfalso
        have hlt : t * 2 ^ drop < 2 ^ ((t * 2 ^ drop).log2 + 1) := Nat.lt_log2_self
        have h2 : 2 ^ ((t * 2 ^ drop).log2 + 1) ≤ 2 ^ drop := Nat.pow_le_pow_right (by omega) (by omega)
        have h3 := Nat.mul_le_mul_right (2 ^ drop) h
        omega
    subst h0; simp
/-- the floor of a whole number, as the machine has it -/
theorem floor_val {z : Nat} {A : Int} (hz : Flo.Val Ieee.double z (A * (2 ^ Flo.u64 : Nat))) :
    ∃ s m e, FloatKind.f64.decode z = .number s m e ∧ Flo.Val Ieee.double (FloatKind.f64.encode ((Ieee.Datum.number s m e).integral .down)) (A * (2 ^ Flo.u64 : Nat)) := by
  refine ⟨_, _, _, Flo.read_fin hz.fin, ?_⟩
  have hd := Flo.val_digits hz
  rw [Int.natAbs_mul, Int.natAbs_natCast] at hd
  have hm : Ieee.Toward.down.cut (Flo.sgn Ieee.double z) (Flo.rm Ieee.double (Flo.rung Ieee.double z) <<< (Ieee.double.leastPlace + Flo.re Ieee.double (Flo.rung Ieee.double z)).toNat) (-(Ieee.double.leastPlace + (Flo.re Ieee.double (Flo.rung Ieee.double z) : Int))).toNat = A.natAbs := by
    rw [Flo.least64]
    generalize Flo.re Ieee.double (Flo.rung Ieee.double z) = e at *
    generalize Flo.rm Ieee.double (Flo.rung Ieee.double z) = m at *
    generalize Flo.sgn Ieee.double z = s at *
    rcases Nat.le_total Flo.u64 e with h | h
    · obtain ⟨r, rfl⟩ : ∃ r, e = r + Flo.u64 := ⟨e - Flo.u64, by omega⟩
      have e1 : (-(Flo.u64 : Int) + ((r + Flo.u64 : Nat) : Int)).toNat = r := by omega
      have e2 : (-(-(Flo.u64 : Int) + ((r + Flo.u64 : Nat) : Int))).toNat = 0 := by omega
      rw [e1, e2]
      rw [Nat.pow_add, ← Nat.mul_assoc] at hd
      have hA := Nat.eq_of_mul_eq_mul_right (Nat.two_pow_pos Flo.u64) hd
      have := cut_down s A.natAbs 0
      rw [Nat.pow_zero, Nat.mul_one] at this
      rw [Nat.shiftLeft_eq, ← hA]; exact this
    · obtain ⟨r, hr⟩ : ∃ r, Flo.u64 = r + e := ⟨Flo.u64 - e, by omega⟩
      have e1 : (-(Flo.u64 : Int) + (e : Int)).toNat = 0 := by omega
      have e2 : (-(-(Flo.u64 : Int) + (e : Int))).toNat = r := by omega
      rw [e1, e2]
      rw [hr, Nat.pow_add, ← Nat.mul_assoc] at hd
      have hA := Nat.eq_of_mul_eq_mul_right (Nat.two_pow_pos e) hd
      rw [Nat.shiftLeft_zero, ← hA]
      exact cut_down s A.natAbs r
  show Flo.Val Ieee.double (Ieee.double.nearest (Flo.sgn Ieee.double z) (Ieee.Toward.down.cut (Flo.sgn Ieee.double z) (Flo.rm Ieee.double (Flo.rung Ieee.double z) <<< (Ieee.double.leastPlace + Flo.re Ieee.double (Flo.rung Ieee.double z)).toNat) (-(Ieee.double.leastPlace + (Flo.re Ieee.double (Flo.rung Ieee.double z) : Int))).toNat) 0) _
  rw [hm]
  have hiv := hz.iv
  unfold Flo.iv at hiv
  refine Flo.nearest_val (a := Flo.u64) (b := 0) hz.rep (by rw [Flo.least64]; omega) (by rw [Int.natAbs_mul, Int.natAbs_natCast, Nat.pow_zero, Nat.mul_one]) (fun hneg => ?_) (fun hpos => ?_)
  · cases hs : Flo.sgn Ieee.double z
    · rw [hs] at hiv
      simp only [Bool.false_eq_true, if_false] at hiv
      omega
    · rfl
  · cases hs : Flo.sgn Ieee.double z
    · rfl
    · rw [hs] at hiv
      simp only [if_true] at hiv
      omega
theorem toIntegral_num (z : Nat) (s : Bool) (m : Nat) (e : Int) (hd : FloatKind.f64.decode z = .number s m e) : Go.Extern.MathFloor.toIntegral "math.archFloor" .down #[.float .f64 z] = pure (.float .f64 (FloatKind.f64.encode ((Ieee.Datum.number s m e).integral .down))) := by
  show (match FloatKind.f64.decode z with | .nan s t => _ | d => pure (Value.float .f64 (FloatKind.f64.encode (d.integral .down)))) = _
  rw [hd]
theorem archFloor_run (z : Nat) (w : World) : (callFunc 68 #[.float .f64 z]).run Try.prog w = (do let v ← Go.Extern.MathFloor.toIntegral "math.archFloor" .down #[.float .f64 z]; pure (Next.value v)).run Try.prog w := by
  kernel_rfl
set_option maxRecDepth 100000 in
theorem mathFloor_is (z : Nat) (A : Int) (hz : Flo.Val Ieee.double z (A * (2 ^ Flo.u64 : Nat))) (w : World) : Calls Try.prog 57 #[.float .f64 z] w fun e w' => (∃ y, e = .returned (.float .f64 y) ∧ Flo.Val Ieee.double y (A * (2 ^ Flo.u64 : Nat))) ∧ w = w' := by
  obtain ⟨s, m, e, hd, hv⟩ := floor_val hz
  have hr : ∀ w, (callFunc 68 #[.float .f64 z]).run Try.prog w = .ok (.value (.float .f64 (FloatKind.f64.encode ((Ieee.Datum.number s m e).integral .down)))) w := fun w => by
    rw [archFloor_run, toIntegral_num z s m e hd]
    rfl
  have HV := Lib.hid hv
  generalize FloatKind.f64.encode ((Ieee.Datum.number s m e).integral .down) = y at *
  clear hz hv hd
  go_enter Try.func57, Try.ntmps57
  go_wp2
  go_ret
  exact ⟨⟨y, rfl, HV.out⟩, rfl⟩
set_option maxRecDepth 100000 in
set_option maxHeartbeats 1000000 in
theorem cornerWell_ok (x d : Nat) (hx : x < 4294967296) (hd : d ≤ 11) (h : Flo.wholeB x d = true) (w : World) : Calls Try.prog 46 #[.float .f32 x, .int .i64 d] w fun e w' => e = .returned (.bool true) ∧ w = w' := by
  obtain ⟨A, hA, hb⟩ := Flo.whole_pt hx hd h
  have hdp : 2 ^ d ≤ 2 ^ 11 := Nat.pow_le_pow_right (by omega) hd
  obtain ⟨y1, h1, v1⟩ := Flo.widen_val hA
  have hD : Flo.Val Ieee.double (floatOfInt .f64 ((2 ^ d : Nat) : Int)) (((2 ^ d : Nat) : Int) * (2 ^ Flo.u64 : Nat)) := Flo.ofInt_val (k := .f64) Flo.least64 _ (by rw [Int.natAbs_natCast]; show _ < 2 * Ieee.double.binade; rw [Flo.double_binade]; omega) (by show (Flo.u64 + 2) * Ieee.double.binade ≤ Ieee.double.infRung; rw [Flo.double_inf, Flo.u64_eq]; exact Nat.mul_le_mul_right _ (by omega))
  have hrep : Flo.Rep Ieee.double (A * (2 ^ Flo.u64 : Nat)) := by
    refine Flo.rep_gen (m := A.natAbs) (e := Flo.u64) (by rw [Int.natAbs_mul, Int.natAbs_natCast]) (by rw [Flo.double_binade]; omega) ?_
    rw [Flo.double_inf, Flo.u64_eq]
    exact Nat.mul_le_mul_right _ (by omega)
  have hc : A * (2 ^ (Flo.u32 - d) : Nat) * (2 ^ Flo.wup : Nat) * (((2 ^ d : Nat) : Int) * (2 ^ Flo.u64 : Nat)) = A * (2 ^ Flo.u64 : Nat) * (2 ^ Flo.u64 : Nat) := by
    have e : (2 ^ (Flo.u32 - d) * 2 ^ Flo.wup * 2 ^ d : Nat) = 2 ^ Flo.u64 := by
      rw [← Nat.pow_add, ← Nat.pow_add]
      congr 1
      rw [Flo.u32_eq, Flo.wup_eq, Flo.u64_eq]; omega
    have e2 : ((2 ^ (Flo.u32 - d) : Nat) : Int) * (2 ^ Flo.wup : Nat) * (2 ^ d : Nat) = (2 ^ Flo.u64 : Nat) := by
      have := congrArg (fun x : Nat => (x : Int)) e
      simp only [Int.natCast_mul] at this
      exact this
    generalize ((2 ^ (Flo.u32 - d) : Nat) : Int) = P at *
    generalize ((2 ^ Flo.wup : Nat) : Int) = Q at *
    generalize ((2 ^ Flo.u64 : Nat) : Int) = R at *
    generalize ((2 ^ d : Nat) : Int) = S at *
    calc A * P * Q * (S * R) = A * (P * Q * S) * R := by simp only [Int.mul_assoc]
      _ = A * R * R := by rw [e2]
  obtain ⟨y, hy, v2⟩ := Flo.mul_val (f := Ieee.double) (c := A * (2 ^ Flo.u64 : Nat)) Flo.least64 v1 hD hc hrep
  have hF := Lib.hid (mathFloor_is y A v2)
  have hee : Hid (∀ t, Flo.Val Ieee.double t (A * (2 ^ Flo.u64 : Nat)) → (FloatKind.f64.format.order y t == some .eq) = true) := fun t ht => by rw [Flo.order_eq_val (k := .f64) v2 ht]; simp
  obtain ⟨q, hq⟩ : ∃ q : Int, wrap64 (2 ^ d) = q := ⟨_, rfl⟩
  have hqd : ((2 ^ d : Nat) : Int) = q := by rw [← hq, wrap_pow d hd]
  rw [hqd] at hy
  have g1 := fun w => run_convert_float_float (P := Try.prog) w 41 67 .f32 .f64 _ _ (by kernel_rfl) Try.underlying67 h1
  have g2 := fun w => run_float_arith (P := Try.prog) w .mul 67 .f64 _ _ _ hy
  have hw := Flo.inFour_val hx (by unfold Flo.wholeB at h; rw [Bool.and_eq_true] at h; exact h.1)
  have t1 : (FloatKind.f32.format.order 3229614080 x == some .lt || FloatKind.f32.format.order 3229614080 x == some .eq) = true := by
    rw [Flo.order_lt_val (k := .f32) Flo.minus_four_val hw.1, Flo.order_eq_val (k := .f32) Flo.minus_four_val hw.1]
    have := hw.2
    simp only [Bool.or_eq_true, decide_eq_true_eq]
    generalize 2 ^ Flo.u32 = U at *
    omega
  have t2 : (FloatKind.f32.format.order x 1082130432 == some .lt || FloatKind.f32.format.order x 1082130432 == some .eq) = true := by
    unfold Flo.wholeB Flo.inFour at h
    rw [Bool.and_eq_true, Bool.and_eq_true] at h
    exact h.1.2
  clear h hA hb hdp h1 v1 hD hrep hc hy v2 hqd hw hx
  go_enter Try.func46, Try.ntmps46
  go_wp2_with (go_at_call 57; refine (hF.out _).mono ?_; rintro e w' ⟨⟨t, rfl, ht⟩, rfl⟩; have hte := hee.out t ht; clear ht)
  go_ret
  exact ⟨rfl, rfl⟩
set_option maxRecDepth 100000 in
set_option maxHeartbeats 1000000 in
theorem placeWell_ok (cx cy : Nat) (deep size : Int) (hx : cx < 4294967296) (hy : cy < 4294967296) (h : placeB cx cy deep size = true) (w : World) : Calls Try.prog 36 #[.complex .f32 cx cy, .int .i64 deep, .int .i64 size] w fun e w' => e = .returned (.bool true) ∧ w = w' := by
  obtain ⟨h1, h2, h3, h4⟩ := placeB_bd h
  obtain ⟨d, rfl⟩ := Int.eq_ofNat_of_zero_le h1
  unfold placeB at h
  rw [Bool.and_eq_true, Bool.and_eq_true, Int.toNat_natCast] at h
  have hX := Lib.hid (cornerWell_ok cx d hx (by omega) h.1.2)
  have hY := Lib.hid (cornerWell_ok cy d hy (by omega) h.2)
  clear h
  have a1 : decide ((d : Int) < 0) = false := by simp
  have a2 : decide (10 < (d : Int)) = false := by simpa using h2
  have a3 : decide (size < 1) = false := by simpa using h3
  have a4 : decide (8 < size) = false := by simpa using h4
  go_enter Try.func36, Try.ntmps36
  go_wp2_with (first | (go_at_call 46; (with_reducible refine (hX.out _).mono ?_); rintro e w' ⟨rfl, rfl⟩) | (go_at_call 46; (with_reducible refine (hY.out _).mono ?_); rintro e w' ⟨rfl, rfl⟩))
  go_ret
  exact ⟨rfl, rfl⟩
end Go.Proofs.Ytalmhbcmagjheaa
end
