/- A range over an iterator that is told by the number of its rounds: the iterator may go on for ever; the body leaves in round N at the latest. -/
import Derived.Test.YteegdpnidakjiaaDoorBase
import Derived.RangeFuncNested
import Derived.RangeFuncCalls
import Derived.RangeFuncLeaves
import Derived.RangeFuncBox
import Derived.OwnWalkIn
import Derived.TacticsInMore
import Derived.LoopNIn
import Derived.LoopIn
namespace Go.Proofs.YteegdpnidakjiaaDoor
open Go.RowKit

/-- What an iterator promises: in round k it calls yield with vs k; it ends by itself only where 'fini k' holds (k rounds are over). Keep: what it asks of the world between two rounds. J: what holds between two rounds; Jx: what holds once a round has said 'no more'. -/
def Iters (F : Fence) (n : Nat) (P : Program) (g : Nat) (lb : Array Value) (vs : Nat → Array Value) (fini : Nat → Prop) (N : Nat) (Keep : World → Prop) : Prop :=
  ∀ (l : Nat) (J Jx : Nat → World → Prop) (W : World),
    (∀ k A, J k A → Keep A) →
    (∀ k A B, J k A → A.grownBy B none → J k B) →
    (∀ k A, k ≤ N → J k A → YieldAt F (n - 1) P l (vs k) A fun e B =>
      (e = .returned (.bool true) ∧ k < N ∧ J (k + 1) B) ∨ (e = .returned (.bool false) ∧ Jx k B)) →
    J 0 W →
    CallsIn F n P g (#[.func (.yield l) #[] #[]] ++ lb) W fun e B => (∃ v, e = .returned v) ∧ ((∃ k, k ≤ N ∧ Jx k B) ∨ (∃ k, k ≤ N ∧ fini k ∧ J k B))

/-- what the body of the loop achieves in round k -/
def iterPost (h0 : Nat) (N : Nat) (I : Nat → World → Prop) (Ix : Code → Nat → World → Prop) (k : Nat) (W : World) : Exit → Act → World → Prop
  | .normal, _, B => KeepsFrom h0 W B ∧ k < N ∧ I (k + 1) B
  | .ret, _, B => KeepsFrom h0 W B ∧ Ix .ret k B
  | .exit id, _, B => KeepsFrom h0 W B ∧ Ix (.exit id) k B
  | .goto t, _, B => KeepsFrom h0 W B ∧ Ix (.goto t) k B
  | .panic _, _, _ => False
  | .outgrown, _, _ => False

variable {F : Fence} {n : Nat} {P : Program}

/-- a loop's record in one of its states -/
def loopRec (fn : FuncId) (tmps : Array Value) (ps : Array Tmp) (assign body : Code) (d : Nat) (st : LoopState) (pe : Option Code) : Loop :=
  { state := st, pending := pe, fn := fn, tmps := tmps, params := ps, assign := assign, body := body, defers := d }

theorem wpIn_iter {g : Operand} {ps : Array Tmp} {assign body : Code} {Q : Exit → Act → World → Prop} {a : Act} {w : World}
    (hro : F.round = none) (h1 : 1 ≤ n) {gf : Nat} {lb : Array Value} (hg : a.eval g = .func (.func gf) #[] lb) (hFg : F.fn gf) (eg : ∀ args w, (callFunc gf args).run P w = .ok (.enter gf args) w)
    {vs : Nat → Array Value} {fini : Nat → Prop} {N : Nat} {Keep : World → Prop} (hseq : Iters F (n - 1) P gf lb vs fini N Keep) (hps : ∀ k, (vs k).size = ps.size)
    (I : Nat → World → Prop) (Ix : Code → Nat → World → Prop) (hI : OwnFrom w.heap.size I) (hIx : ∀ c, OwnFrom w.heap.size (Ix c)) (hIb : ∀ k A, I k A → Keep A) (hi0 : I 0 w) (a₁ : Nat → Act)
    (hassign : ∀ (l k : Nat) (W : World) (K : Act → World → Prop), K (a₁ k) W →
      assign.wpIn (F.inRound l) (n - 1 - 1) P (Exit.then K (fun _ _ _ => False)) { tmps := (ps.zip (vs k)).foldl (fun t (p, v) => t.setIfInBounds p v) a.tmps, defers := [] } W)
    (hbody : ∀ (l k : Nat) (W : World), k ≤ N → I k W → body.wpIn (F.inRound l) (n - 1 - 1) P (iterPost w.heap.size N I Ix k W) (a₁ k) W)
    (hdone : ∀ (D k : Nat) (W : World), w.heap.size ≤ D → k ≤ N → fini k → I k W → W.heap[D]? = some (.deferred (some [])) → Q .normal { a with defers := { target := .collected D, args := #[] } :: a.defers } W)
    (hstop : ∀ (D : Nat) (c : Code) (k : Nat) (W : World), w.heap.size ≤ D → k ≤ N → Ix c k W → W.heap[D]? = some (.deferred (some [])) → c.wpIn F n P Q { a with defers := { target := .collected D, args := #[] } :: a.defers } W) :
    (Code.rangeFunc g ps assign body).wpIn F n P Q a w := by
  refine wpIn_rangeFunc (fun fn hfn => ?_)
  rw [hro]
  -- the two blocks: the deferred calls (at s), the loop's record (at s + 1)
  obtain ⟨s, hs⟩ : ∃ s, w.heap.size = s := ⟨_, rfl⟩
  obtain ⟨W1, hW1⟩ : ∃ W1, (w.alloc (.deferred (some []))).alloc (.loop (loopRec fn a.tmps ps assign body s .ready none)) = W1 := ⟨_, rfl⟩
  have hg1 : w.grownBy W1 none := by
    rw [← hW1]; exact (World.grownBy_alloc w _ none).trans (World.grownBy_alloc _ _ none)
  have hL1 : W1.heap[s + 1]? = some (.loop (loopRec fn a.tmps ps assign body s .ready none)) := by
    rw [← hW1, ← hs]
    have := World.alloc_heap_new (w.alloc (.deferred (some []))) (.loop (loopRec fn a.tmps ps assign body w.heap.size .ready none))
    rwa [World.size_alloc] at this
  have hD1 : W1.heap[s]? = some (.deferred (some [])) := by
    rw [← hW1, ← hs]; exact (Below.heap_alloc _ _ _ (by simp)).trans (World.alloc_heap_new w _)
  have hI1 : I 0 W1 := hI 0 w W1 none hi0 hg1 (fun r e => by cases e)
  rw [hs] at hI hIx hbody hdone hstop
  refine ⟨s + 1, [{ target := .collected s, args := #[] }], W1, { target := .fn (.func gf) lb, args := #[.func (.yield (s + 1)) #[] #[]] }, W1, gf,
    #[.func (.yield (s + 1)) #[] #[]] ++ lb, W1, ?_, ?_, ?_, ?_, fun _ => h1, ?_⟩
  · rw [← hW1, ← hs]; exact run_enterLoop_outer _ _ _ _ _
  · simp only [resolve, hg]; simp [go_sem]
  · intro f' hf'; simp [Target.leads] at hf'; subst hf'; exact hFg
  · simp [invoke, go_sem, eg]
  · refine (hseq (s + 1)
      (fun k W => I k W ∧ W.heap[s + 1]? = some (.loop (loopRec fn a.tmps ps assign body s .ready none)) ∧ W.heap[s]? = some (.deferred (some [])))
      (fun k W => ∃ c, Ix c k W ∧ W.heap[s + 1]? = some (.loop (loopRec fn a.tmps ps assign body s .done (some c))) ∧ W.heap[s]? = some (.deferred (some [])))
      W1 (fun k A h => hIb k A h.1) ?_ ?_ ⟨hI1, hL1, hD1⟩).mono ?_
    · rintro k A B ⟨hi, hl, hd⟩ hgr
      exact ⟨hI k A B none hi hgr (fun r e => by cases e), (hgr.block _ (Array.getElem?_eq_some_iff.1 hl).1 (by simp)).trans hl, (hgr.block _ (Array.getElem?_eq_some_iff.1 hd).1 (by simp)).trans hd⟩
    · -- one round
      rintro k A hk ⟨hi, hl, hd⟩
      have hlt : s + 1 < A.heap.size := (Array.getElem?_eq_some_iff.1 hl).1
      refine ⟨fn, _, assign, body, run_yield (P := P) (args := vs k) hl (hps k), roundIn_of_wpIn hfn (hassign _ k A _ ⟨_, run_beginRound hl rfl, ?_⟩)⟩
      obtain ⟨A2, hA2⟩ : ∃ A2, A.putObj (s + 1) (.loop { loopRec fn a.tmps ps assign body s .ready none with state := .busy }) = A2 := ⟨_, rfl⟩
      have hl2 : A2.heap[s + 1]? = some (.loop { loopRec fn a.tmps ps assign body s .ready none with state := .busy }) := by rw [← hA2]; exact World.putObj_heap_same hlt
      have hd2 : A2.heap[s]? = some (.deferred (some [])) := by rw [← hA2]; exact (World.putObj_heap_other (by omega)).trans hd
      have hi2 : I k A2 := by rw [← hA2]; exact hI.putObj _ hi (by omega) hl rfl
      rw [hA2]
      refine wpIn_mono (hbody (s + 1) k A2 hk hi2) ?_
      -- the round's end: the record is put back
      have ends : ∀ (jump : Option Code) (B : World), KeepsFrom s A2 B → B.heap[s + 1]? = some (.loop { loopRec fn a.tmps ps assign body s .ready none with state := .busy }) ∧
          (Instr.endRound (s + 1) jump).run P B = .ok (.bool jump.isNone) (B.putObj (s + 1) (.loop (loopRec fn a.tmps ps assign body s (if jump.isNone then .ready else .done) jump))) ∧
          (B.putObj (s + 1) (.loop (loopRec fn a.tmps ps assign body s (if jump.isNone then .ready else .done) jump))).heap[s + 1]? = some (.loop (loopRec fn a.tmps ps assign body s (if jump.isNone then .ready else .done) jump)) ∧
          (B.putObj (s + 1) (.loop (loopRec fn a.tmps ps assign body s (if jump.isNone then .ready else .done) jump))).heap[s]? = some (.deferred (some [])) := by
        intro jump B hk3
        have hl3 := hk3.same _ _ (by omega) hl2 rfl
        exact ⟨hl3, run_endRound (P := P) jump hl3, World.putObj_heap_same (Array.getElem?_eq_some_iff.1 hl3).1, (World.putObj_heap_other (by omega)).trans (hk3.same _ _ (Nat.le_refl _) hd2 rfl)⟩
      intro e a3 B hp
      cases e with
      | normal =>
        obtain ⟨hk3, hkN, hi3⟩ := hp
        obtain ⟨hl3, hr, hl4, hd4⟩ := ends none B hk3
        exact ⟨_, _, hr, .inl ⟨rfl, hkN, hI.putObj _ hi3 (by omega) hl3 rfl, hl4, hd4⟩⟩
      | ret =>
        obtain ⟨hk3, hi3⟩ := hp
        obtain ⟨hl3, hr, hl4, hd4⟩ := ends (some .ret) B hk3
        exact ⟨_, _, hr, .inr ⟨rfl, .ret, (hIx _).putObj _ hi3 (by omega) hl3 rfl, hl4, hd4⟩⟩
      | exit id =>
        obtain ⟨hk3, hi3⟩ := hp
        obtain ⟨hl3, hr, hl4, hd4⟩ := ends (some (.exit id)) B hk3
        exact ⟨_, _, hr, .inr ⟨rfl, .exit id, (hIx _).putObj _ hi3 (by omega) hl3 rfl, hl4, hd4⟩⟩
      | goto t =>
        obtain ⟨hk3, hi3⟩ := hp
        obtain ⟨hl3, hr, hl4, hd4⟩ := ends (some (.goto t)) B hk3
        exact ⟨_, _, hr, .inr ⟨rfl, .goto t, (hIx _).putObj _ hi3 (by omega) hl3 rfl, hl4, hd4⟩⟩
      | panic ch => exact hp.elim
      | outgrown => exact hp.elim
    · -- behind the iterator
      rintro e B ⟨⟨v, rfl⟩, (⟨k, hkN, c, hi, hl, hd⟩ | ⟨k, hkN, hf, hi, hl, hd⟩)⟩
      · exact ⟨some c, _, run_endLoop (P := P) hl (by simp [loopRec]), hstop _ c k _ (Nat.le_refl _) hkN ((hIx c).putObj _ hi (by omega) hl rfl) ((World.putObj_heap_other (by omega)).trans hd)⟩
      · exact ⟨none, _, run_endLoop (P := P) hl (by simp [loopRec]), hdone _ k _ (Nat.le_refl _) hkN hf (hI.putObj _ hi (by omega) hl rfl) ((World.putObj_heap_other (by omega)).trans hd)⟩
end Go.Proofs.YteegdpnidakjiaaDoor
