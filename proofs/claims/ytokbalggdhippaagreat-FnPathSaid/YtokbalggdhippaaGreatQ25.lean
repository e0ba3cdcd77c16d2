/- Merged texts: Tl. -/
import Derived.Conc.Own
import Derived.Conc.Events
set_option linter.all false
section
namespace Go.Proofs.YtokbalggdhippaaGreat.Tl
open Go.Conc
def sft (τ : Tape) (a b : Nat) (w : World) : World := { w with tape := τ, drawn := w.drawn - a + b }
def Agrees (τ : Tape) (a b lim : Nat) (w : World) : Prop := a ≤ w.drawn ∧ ∀ n q, w.drawn ≤ n → n < lim → τ (n - a + b) q = w.tape n q
def resW {α : Type} : Result α → World
  | .ok _ w => w
  | .halt _ w => w
def mapW {α : Type} (f : World → World) : Result α → Result α
  | .ok v w => .ok v (f w)
  | .halt h w => .halt h (f w)
section
variable {P : Program} {τ : Tape} {a b lim : Nat}
theorem Agrees.on {w w' : World} (h : Agrees τ a b lim w) (hd : w.drawn ≤ w'.drawn) (ht : w'.tape = w.tape) : Agrees τ a b lim w' :=
  ⟨Nat.le_trans h.1 hd, fun n q h1 h2 => by rw [ht]; exact h.2 n q (Nat.le_trans hd h1) h2⟩
theorem ask_mono {α : Type} (x : Ask α) : ∀ w : World, w.drawn ≤ (w.ask x).2.drawn ∧ (w.ask x).2.tape = w.tape := by
  induction x with
  | done v => intro w; exact ⟨Nat.le_refl _, rfl⟩
  | ask what range k ih =>
    intro w
    unfold World.ask
    dsimp only
    split
    · exact ih 0 w
    · have := ih ((Question.extern what range).cut (w.tape w.drawn (.extern what range))) { w with drawn := w.drawn + 1 }
      exact ⟨Nat.le_trans (Nat.le_succ _) this.1, this.2⟩
theorem sys_mono (c : Sys) (w : World) : w.drawn ≤ (w.sys c).2.drawn ∧ (w.sys c).2.tape = w.tape := by
  unfold World.sys
  have := ask_mono (Kernel.perform c w.os) w
  generalize w.ask (Kernel.perform c w.os) = r at this
  obtain ⟨⟨x, os⟩, w1⟩ := r
  cases x <;> first
    | exact ⟨Nat.le_refl _, rfl⟩
    | exact this
theorem viewStore_grow {w w' : World} {at_ k : Addr} {u : TypeId} {v : Value} {q : Bool} {l : List Addr} (h : w.viewStore P at_ u k v q = .ok (w', l)) : w'.tape = w.tape ∧ w'.drawn = w.drawn := by
  unfold World.viewStore at h
  simp only [bind, Except.bind, pure, Except.pure] at h
  repeat' (split at h)
  all_goals first
    | (cases h; done)
    | (injection h with h; injection h with h1 h2; subst h1; exact ⟨rfl, rfl⟩)
theorem farStore_grow {w w' : World} {a : Addr} {v : Value} {q : Bool} {l : List Addr} (h : w.farStore P a v q = .ok (w', l)) : w'.tape = w.tape ∧ w'.drawn = w.drawn := by
  unfold World.farStore at h
  split at h
  · split at h
    · rename_i r hr
      obtain ⟨w1, l1⟩ := r
      injection h with h
      injection h with h1 h2
      subst h1
      exact viewStore_grow hr
    · cases h
  · cases h
theorem run_mono {α : Type} (s : Sem α) : ∀ (w : World) (es : Array Event), w.drawn ≤ (resW (s.runT P w es).1).drawn ∧ (resW (s.runT P w es).1).tape = w.tape := by
  induction s with
  | pure v => intro w es; exact ⟨Nat.le_refl _, rfl⟩
  | halt h => intro w es; exact ⟨Nat.le_refl _, rfl⟩
  | load m a k ih =>
    intro w es
    simp only [Sem.runT]
    split
    · exact ih _ _ _
    · split
      · exact ih _ _ _
      · exact ⟨Nat.le_refl _, rfl⟩
  | store m a v k ih =>
    intro w es
    have key : ∀ (r : Result α × Array Event), (r = (.halt (.stuck "store: not the value of one cell") w, es) ∨ r = (match w.cell? a with
        | some _ =>
          if w.frozen? a then (.halt (.unsupported (.unsafePointer "a write to bytes that a string shares")) w, es)
          else k.runT P (w.setCell a v) (es.push ⟨.cell a, true, m == .atomic⟩)
        | none => match w.farStore P a v (m == .atomic) with
          | .ok (w, touched) => k.runT P w (es ++ touched.toArray.map (⟨.cell ·, true, m == .atomic⟩))
          | .error h => (.halt h w, es))) → w.drawn ≤ (resW r.1).drawn ∧ (resW r.1).tape = w.tape := by
      rintro r (rfl | rfl)
      · exact ⟨Nat.le_refl _, rfl⟩
      · split
        · split
          · exact ⟨Nat.le_refl _, rfl⟩
          · exact ih (w.setCell a v) _
        · split
          · rename_i w1 l1 hf
            have h1 := farStore_grow hf
            have h2 := ih w1 (es ++ l1.toArray.map (⟨.cell ·, true, m == .atomic⟩))
            exact ⟨h1.2 ▸ h2.1, h2.2.trans h1.1⟩
          · exact ⟨Nat.le_refl _, rfl⟩
    refine key _ ?_
    cases v <;> first | exact .inl rfl | exact .inr rfl
  | new o k ih => intro w es; exact ih _ { w with heap := w.heap.push o } es
  | shape r k ih => intro w es; exact ih _ w es
  | freeze a n k ih =>
    intro w es
    have h := ih (w.freeze a n) es
    have : (w.freeze a n).drawn = w.drawn ∧ (w.freeze a n).tape = w.tape := by
      unfold World.freeze
      split <;> exact ⟨rfl, rfl⟩
    rw [this.1, this.2] at h
    exact h
  | frozen a k ih => intro w es; exact ih _ w es
  | getObj r k ih =>
    intro w es
    simp only [Sem.runT]
    split
    · exact ⟨Nat.le_refl _, rfl⟩
    · exact ih _ _ _
    · exact ⟨Nat.le_refl _, rfl⟩
  | setObj r o k ih =>
    intro w es
    simp only [Sem.runT]
    split
    · exact ⟨Nat.le_refl _, rfl⟩
    · exact ih { w with heap := w.heap.setIfInBounds r o } _
    · exact ⟨Nat.le_refl _, rfl⟩
  | choose q k ih =>
    intro w es
    simp only [Sem.runT]
    split
    · exact ih _ _ _
    · have := ih (q.cut (w.tape w.drawn q)) { w with drawn := w.drawn + 1 } es
      exact ⟨Nat.le_trans (Nat.le_succ _) this.1, this.2⟩
  | sys c k ih =>
    intro w es
    have h1 := sys_mono c w
    have h2 := ih (w.sys c).1 (w.sys c).2 (es.push ⟨.output, true, false⟩)
    exact ⟨Nat.le_trans h1.1 h2.1, h2.2.trans h1.2⟩
  | program k ih => intro w es; exact ih _ w es
  | mark m k ih => intro w es; exact ih w _
theorem viewStore_sft (w : World) (at_ k : Addr) (u : TypeId) (v : Value) (q : Bool) :
    (sft τ a b w).viewStore P at_ u k v q = match w.viewStore P at_ u k v q with
      | .ok (w', l) => .ok (sft τ a b w', l)
      | .error h => .error h := by
  unfold World.viewStore
  rw [show (sft τ a b w).seen P at_ u k q = w.seen P at_ u k q from rfl]
  generalize w.seen P at_ u k q = sn
  by_cases ht : (!tight P P.depth u) = true
  · rw [if_pos ht, if_pos ht]; rfl
  rw [if_neg ht, if_neg ht]
  cases sn with
  | error e => rfl
  | ok y =>
    obtain ⟨c, e, fz, first, like, cells⟩ := y
    cases hb : v.bytes? with
    | none => rfl
    | some bytes =>
      dsimp only [bind, Except.bind, pure, Except.pure]
      by_cases hl : some bytes.length ≠ like.bytes?.map (·.length)
      · rw [if_pos hl, if_pos hl]; rfl
      rw [if_neg hl, if_neg hl]
      have key : ∀ fo : Except String (Array Value), (fo.bind fun c => (Except.ok ({ sft τ a b w with heap := (sft τ a b w).heap.setIfInBounds at_.block (.cells c e fz) }, cells.map fun x => ({ block := at_.block, off := x.1 } : Addr)) : Except String (World × List Addr))) =
          match (fo.bind fun c => (Except.ok ({ w with heap := w.heap.setIfInBounds at_.block (.cells c e fz) }, cells.map fun x => ({ block := at_.block, off := x.1 } : Addr)) : Except String (World × List Addr))) with
          | .ok (w', l) => .ok (sft τ a b w', l)
          | .error h => .error h := by
        intro fo
        cases fo <;> rfl
      exact key _
theorem farStore_sft (w : World) (x : Addr) (v : Value) (q : Bool) :
    (sft τ a b w).farStore P x v q = match w.farStore P x v q with
      | .ok (w', l) => .ok (sft τ a b w', l)
      | .error h => .error h := by
  unfold World.farStore
  rw [show (sft τ a b w).heap = w.heap from rfl]
  split
  · rw [viewStore_sft]
    cases w.viewStore P _ _ x v q <;> rfl
  · rfl
theorem run_keeps {α : Type} (s : Sem α) : ∀ (w : World) (es : Array Event) (e : Event), e ∈ es → e ∈ (s.runT P w es).2 := by
  induction s with
  | pure v => intro w es e h; exact h
  | halt x => intro w es e h; exact h
  | load m a k ih =>
    intro w es e h
    simp only [Sem.runT]
    split
    · exact ih _ _ _ _ (by simp [h])
    · split
      · exact ih _ _ _ _ (by simp [h])
      · exact h
  | store m a v k ih =>
    intro w es e h
    have key : ∀ (r : Result α × Array Event), (r = (.halt (.stuck "store: not the value of one cell") w, es) ∨ r = (match w.cell? a with
        | some _ =>
          if w.frozen? a then (.halt (.unsupported (.unsafePointer "a write to bytes that a string shares")) w, es)
          else k.runT P (w.setCell a v) (es.push ⟨.cell a, true, m == .atomic⟩)
        | none => match w.farStore P a v (m == .atomic) with
          | .ok (w, touched) => k.runT P w (es ++ touched.toArray.map (⟨.cell ·, true, m == .atomic⟩))
          | .error h => (.halt h w, es))) → e ∈ r.2 := by
      rintro r (rfl | rfl)
      · exact h
      · split
        · split
          · exact h
          · exact ih _ _ _ (by simp [h])
        · split
          · exact ih _ _ _ (by simp [h])
          · exact h
    refine key _ ?_
    cases v <;> first | exact .inl rfl | exact .inr rfl
  | new o k ih => intro w es e h; exact ih _ _ _ _ h
  | shape r k ih => intro w es e h; exact ih _ _ _ _ h
  | freeze a n k ih => intro w es e h; exact ih _ _ _ h
  | frozen a k ih => intro w es e h; exact ih _ _ _ _ h
  | getObj r k ih =>
    intro w es e h
    simp only [Sem.runT]
    split
    · exact h
    · exact ih _ _ _ _ (by simp [h])
    · exact h
  | setObj r o k ih =>
    intro w es e h
    simp only [Sem.runT]
    split
    · exact h
    · exact ih _ _ _ (by simp [h])
    · exact h
  | choose q k ih =>
    intro w es e h
    simp only [Sem.runT]
    split
    · exact ih _ _ _ _ h
    · exact ih _ _ _ _ h
  | sys c k ih => intro w es e h; exact ih _ _ _ _ (by simp [h])
  | program k ih => intro w es e h; exact ih _ _ _ _ h
  | mark m k ih => intro w es e h; exact ih _ _ _ (by simp [h])
theorem run_tl {α : Type} (s : Sem α) : ∀ (w : World) (es : Array Event), Agrees τ a b lim w → (∀ e ∈ (s.runT P w es).2, e.loc ≠ .output) → (resW (s.runT P w es).1).drawn ≤ lim →
    s.runT P (sft τ a b w) es = (mapW (sft τ a b) (s.runT P w es).1, (s.runT P w es).2) := by
  induction s with
  | pure v => intro w es _ _ _; rfl
  | halt h => intro w es _ _ _; rfl
  | load m x k ih =>
    intro w es hw ho hl
    simp only [Sem.runT] at ho hl ⊢
    rw [show (sft τ a b w).cell? x = w.cell? x from rfl, show (sft τ a b w).farLoad P x (m == .atomic) = w.farLoad P x (m == .atomic) from rfl]
    cases hc : w.cell? x with
    | some v =>
      rw [hc] at ho hl
      exact ih _ _ _ hw ho hl
    | none =>
      rw [hc] at ho hl
      dsimp only at ho hl ⊢
      cases hf : w.farLoad P x (m == .atomic) with
      | ok y =>
        rw [hf] at ho hl
        exact ih _ _ _ hw ho hl
      | error h => rfl
  | store m x v k ih =>
    intro w es hw
    have key : ∀ (r r' : Result α × Array Event), ((r = (.halt (.stuck "store: not the value of one cell") w, es) ∧ r' = (.halt (.stuck "store: not the value of one cell") (sft τ a b w), es)) ∨ (r = (match w.cell? x with
        | some _ =>
          if w.frozen? x then (.halt (.unsupported (.unsafePointer "a write to bytes that a string shares")) w, es)
          else k.runT P (w.setCell x v) (es.push ⟨.cell x, true, m == .atomic⟩)
        | none => match w.farStore P x v (m == .atomic) with
          | .ok (w, touched) => k.runT P w (es ++ touched.toArray.map (⟨.cell ·, true, m == .atomic⟩))
          | .error h => (.halt h w, es)) ∧ r' = (match (sft τ a b w).cell? x with
        | some _ =>
          if (sft τ a b w).frozen? x then (.halt (.unsupported (.unsafePointer "a write to bytes that a string shares")) (sft τ a b w), es)
          else k.runT P ((sft τ a b w).setCell x v) (es.push ⟨.cell x, true, m == .atomic⟩)
        | none => match (sft τ a b w).farStore P x v (m == .atomic) with
          | .ok (w, touched) => k.runT P w (es ++ touched.toArray.map (⟨.cell ·, true, m == .atomic⟩))
          | .error h => (.halt h (sft τ a b w), es)))) → (∀ e ∈ r.2, e.loc ≠ .output) → (resW r.1).drawn ≤ lim → r' = (mapW (sft τ a b) r.1, r.2) := by
      rintro r r' (⟨rfl, rfl⟩ | ⟨rfl, rfl⟩) ho hl
      · rfl
      · rw [show (sft τ a b w).cell? x = w.cell? x from rfl, show (sft τ a b w).frozen? x = w.frozen? x from rfl, farStore_sft]
        cases hc : w.cell? x with
        | some v0 =>
          rw [hc] at ho hl
          dsimp only at ho hl ⊢
          by_cases hz : w.frozen? x = true
          · rw [if_pos hz, if_pos hz]; rfl
          · rw [if_neg hz] at ho hl
            rw [if_neg hz, if_neg hz]
            exact ih (w.setCell x v) _ ⟨hw.1, hw.2⟩ ho hl
        | none =>
          rw [hc] at ho hl
          dsimp only at ho hl ⊢
          cases hf : w.farStore P x v (m == .atomic) with
          | error h => rfl
          | ok y =>
            obtain ⟨w1, l1⟩ := y
            rw [hf] at ho hl
            obtain ⟨g1, g2⟩ := farStore_grow hf
            exact ih w1 _ (hw.on (Nat.le_of_eq g2.symm) g1) ho hl
    refine key _ _ ?_
    cases v <;> first | exact .inl ⟨rfl, rfl⟩ | exact .inr ⟨rfl, rfl⟩
  | new o k ih => intro w es hw ho hl; exact ih _ { w with heap := w.heap.push o } _ ⟨hw.1, hw.2⟩ ho hl
  | shape r k ih => intro w es hw ho hl; exact ih _ _ _ hw ho hl
  | freeze x n k ih =>
    intro w es hw ho hl
    have h1 : (w.freeze x n).drawn = w.drawn ∧ (w.freeze x n).tape = w.tape := by
      unfold World.freeze
      split <;> exact ⟨rfl, rfl⟩
    have h2 : (sft τ a b w).freeze x n = sft τ a b (w.freeze x n) := by
      unfold World.freeze
      split <;> rfl
    simp only [Sem.runT] at ho hl ⊢
    rw [h2]
    exact ih _ _ (hw.on (Nat.le_of_eq h1.1.symm) h1.2) ho hl
  | frozen x k ih => intro w es hw ho hl; exact ih _ _ _ hw ho hl
  | getObj r k ih =>
    intro w es hw ho hl
    simp only [Sem.runT] at ho hl ⊢
    rw [show (sft τ a b w).heap = w.heap from rfl]
    cases hc : w.heap[r]? with
    | none => rfl
    | some o =>
      rw [hc] at ho hl
      cases o <;> first
        | rfl
        | exact ih _ _ _ hw ho hl
  | setObj r o k ih =>
    intro w es hw ho hl
    simp only [Sem.runT] at ho hl ⊢
    rw [show (sft τ a b w).heap = w.heap from rfl]
    cases hc : w.heap[r]? with
    | none => rfl
    | some o' =>
      rw [hc] at ho hl
      cases o' <;> first
        | rfl
        | exact ih { w with heap := w.heap.setIfInBounds r o } _ ⟨hw.1, hw.2⟩ ho hl
  | choose q k ih =>
    intro w es hw ho hl
    simp only [Sem.runT] at ho hl ⊢
    by_cases hq : q.forced = true
    · rw [if_pos hq] at ho hl
      rw [if_pos hq, if_pos hq]
      exact ih _ _ _ hw ho hl
    · rw [if_neg hq] at ho hl
      rw [if_neg hq, if_neg hq]
      have hm := (run_mono (P := P) (k (q.cut (w.tape w.drawn q))) { w with drawn := w.drawn + 1 } es).1
      have e : τ (w.drawn - a + b) q = w.tape w.drawn q := hw.2 _ _ (Nat.le_refl _) (Nat.lt_of_lt_of_le (Nat.lt_of_lt_of_le (Nat.lt_succ_self _) hm) hl)
      have e2 : ({ sft τ a b w with drawn := (sft τ a b w).drawn + 1 } : World) = sft τ a b { w with drawn := w.drawn + 1 } := by
        have := hw.1
        simp only [sft, World.mk.injEq, true_and, and_true]
        omega
      rw [e2, show (sft τ a b w).tape (sft τ a b w).drawn q = τ (w.drawn - a + b) q from rfl, e]
      exact ih _ _ _ (hw.on (by simp) rfl) ho hl
  | sys c k ih =>
    intro w es hw ho hl
    exact absurd rfl (ho ⟨.output, true, false⟩ (run_keeps (P := P) (k (w.sys c).1) (w.sys c).2 (es.push ⟨.output, true, false⟩) _ (by simp)))
  | program k ih => intro w es hw ho hl; exact ih _ _ _ hw ho hl
  | mark m k ih => intro w es hw ho hl; exact ih _ _ hw ho hl
end
end Go.Proofs.YtokbalggdhippaaGreat.Tl
end
