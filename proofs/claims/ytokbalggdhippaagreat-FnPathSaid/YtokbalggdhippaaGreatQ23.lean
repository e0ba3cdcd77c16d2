/- Merged texts: LrO, LrP. -/
import Derived.Test.YtokbalggdhippaaGreatQ22
set_option linter.all false
section
namespace Go.Proofs.YtokbalggdhippaaGreat.Lr
open Go.Conc
section
variable {X : Cx} {P P' : Program} {B : Lk}
theorem TdR.kind {l l' : List Item} (h : TdR X B l l') : (∀ d r s k, l ≠ .call d true r s :: k) ∧ ∀ d r s k, l' ≠ .call d true r s :: k := by
  cases h with
  | nil => exact ⟨fun _ _ _ _ e => (by cases e), fun _ _ _ _ e => (by cases e)⟩
  | cons hi _ => cases hi <;> exact ⟨fun _ _ _ _ e => (by cases e), fun _ _ _ _ e => (by cases e)⟩
def nextG (P : Program) (fr : Frame) (cs : List Frame) (w : World) : Next → GStep
  | .value v => .go (G (fr.finish v) cs) w
  | .skip => .go (G (fr.finish undef) cs) w
  | .enter f args => .go (G (Frame.enter P f args .normal) (fr :: cs)) w
  | .round l f tmps assign body => .go (G (Frame.round l f tmps assign body .normal) (fr :: cs)) w
  | .defer d => .go (G ({ fr with defers := d :: fr.defers }.finish undef) cs) w
  | _ => .ended (.stuck "" "") w
def Plain : Next → Prop
  | .value _ | .skip | .enter .. | .round .. | .defer _ => True
  | _ => False
def KeptEs (es' es : Array Event) : Prop := ∀ e ∈ es', e ∈ es ∧ ∀ f, e.loc ≠ .mark (.extern f)
theorem keptEs_of {P : Program} {fr : Frame} {es : Array Event} : KeptEs (seen P fr.fn (if fr.kind == .early then #[] else es)) es := by
  intro e he
  obtain ⟨h1, h2⟩ := seen_mem e he
  refine ⟨?_, h2⟩
  split at h1
  · simp at h1
  · exact h1
theorem apply_ok {P : Program} {fr : Frame} {cs : List Frame} {s : Sem Next} {w w' : World} {n : Next} {es : Array Event} (h : s.runT P w #[] = (.ok n w', es)) (hn : Plain n)
    (hk : ∀ d r s k, fr.todo ≠ .call d true r s :: k) : ∃ es', KeptEs es' es ∧ stepG.apply P true fr cs none s w = GStep.after es' (nextG P fr cs w' n) := by
  refine ⟨_, keptEs_of (P := P) (fr := fr), ?_⟩
  unfold stepG.apply
  rw [if_pos rfl, h]
  cases n <;> first
    | exact hn.elim
    | rfl
    | (dsimp only [nextG, G]
       generalize seen P fr.fn _ = E
       split
       · exact absurd ‹_› (hk _ _ _ _)
       · rfl)
theorem apply_panic {P : Program} {fr : Frame} {cs : List Frame} {s : Sem Next} {w w' : World} {v : Value} {es : Array Event} (h : s.runT P w #[] = (.halt (.panic v) w', es)) :
    ∃ es', KeptEs es' es ∧ stepG.apply P true fr cs none s w = GStep.after es' (.go (G (fr.raise [⟨v, false, false⟩]) cs) w') := by
  refine ⟨_, keptEs_of (P := P) (fr := fr), ?_⟩
  unfold stepG.apply
  rw [if_pos rfl, h]
  rfl
theorem after_go {es : Array Event} {s : GStep} {g : Goroutine} {w : World} {es1 : Array Event} (h : GStep.after es s = .go g w es1) : ∃ es2, s = .go g w es2 ∧ es1 = es ++ es2 := by
  cases s <;> simp only [GStep.after] at h <;> first | cases h | skip
  exact ⟨_, rfl, rfl⟩
theorem apply_mute {P : Program} {fr : Frame} {cs : List Frame} {s : Sem Next} {w w' : World} {x : Halt} {es : Array Event} (h : s.runT P w #[] = (.halt x w', es)) (hn : Mute x) :
    ∃ o w1 es1, stepG.apply P true fr cs none s w = .ended o w1 es1 := by
  unfold stepG.apply
  rw [if_pos rfl, h]
  cases x with
  | unsupported u =>
    cases u <;> first
      | exact hn.elim
      | exact ⟨_, _, _, rfl⟩
  | exit c => exact ⟨_, _, _, rfl⟩
  | stuck m => exact ⟨_, _, _, rfl⟩
  | _ => exact hn.elim
theorem apply_lr (hF : FRel X P P') {fr fr' : Frame} (hf : FrR X B fr fr') {cs cs' : List Frame} (hc : CsR X B cs cs') {s s' : Sem Next} (hs : SR X P P' (NxR X) B s s') {V W : World} (hw : WR X B V W) (base base' : List Frame) :
    Steps2 X P P' B V W base base' (stepG.apply P true fr (cs ++ base) none s V) (stepG.apply P' true fr' (cs' ++ base') none s' W) := by
  have hs := (hs V W hw).2
  have hv : s.runT P V #[] = (s.run P V, s.events P V #[]) := Sem.runT_eq ..
  generalize s.run P V = r at hs hv
  match r, hs with
  | .ok n V', ⟨B', W', b, m, h1, h2, h3, h4, h5⟩ =>
    have h3 := h3 #[]
    have fin : ∀ {es es' : Array Event} {a a' : GStep}, KeptEs es' m → stepG.apply P true fr (cs ++ base) none s V = GStep.after es a → stepG.apply P' true fr' (cs' ++ base') none s' W = GStep.after es' a' →
        ((∃ fr1 csx V1 e1, a = .go (G fr1 csx) V1 e1) ∧ ∀ fr1 csx V1 e1, a = .go (G fr1 csx) V1 e1 → ∃ c1 c1' fr1', csx = c1 ++ base ∧ V1 = V' ∧ a' = .go (G fr1' (c1' ++ base')) W' ∧ StR X P P' B' fr1 fr1' c1 c1') →
        Steps2 X P P' B V W base base' (stepG.apply P true fr (cs ++ base) none s V) (stepG.apply P' true fr' (cs' ++ base') none s' W) := by
      intro es es' a a' hk e1 e2 ⟨⟨fr0, cs0, V0, es0, h0⟩, h⟩
      refine ⟨?_, .inl ⟨fr0, cs0, V0, es ++ es0, by rw [e1, h0]; rfl⟩⟩
      intro fr1 csx V1 esx he
      rw [e1] at he
      obtain ⟨es2, he, _⟩ := after_go he
      obtain ⟨c1, c1', fr1', rfl, rfl, rfl, hst⟩ := h _ _ _ _ he
      exact ⟨c1, c1', fr1', B', W', es', rfl, by rw [e2]; simp [GStep.after], h1, h2, fun e x => ⟨h5 e (hk e x).1, (hk e x).2⟩, hst⟩
    rw [Array.empty_append] at h3
    cases h4 with
    | value h =>
      obtain ⟨_, _, e1⟩ := apply_ok (cs := cs ++ base) hv (n := .value _) trivial hf.todo.kind.1
      obtain ⟨_, k2, e2⟩ := apply_ok (cs := cs' ++ base') h3 (n := .value _) trivial hf.todo.kind.2
      refine fin k2 e1 e2 ⟨⟨_, _, _, _, rfl⟩, ?_⟩
      rintro fr1 csx V1 e1 he
      cases he
      exact ⟨cs, cs', _, rfl, rfl, rfl, .inl ⟨(hf.mono h1.le).finish h, hc.mono h1.le⟩⟩
    | skip =>
      obtain ⟨_, _, e1⟩ := apply_ok (cs := cs ++ base) hv (n := .skip) trivial hf.todo.kind.1
      obtain ⟨_, k2, e2⟩ := apply_ok (cs := cs' ++ base') h3 (n := .skip) trivial hf.todo.kind.2
      refine fin k2 e1 e2 ⟨⟨_, _, _, _, rfl⟩, ?_⟩
      rintro fr1 csx V1 e1 he
      cases he
      exact ⟨cs, cs', _, rfl, rfl, rfl, .inl ⟨(hf.mono h1.le).finish undefR, hc.mono h1.le⟩⟩
    | enter f hcf har hp =>
      obtain ⟨_, _, e1⟩ := apply_ok (cs := cs ++ base) hv (n := .enter _ _) trivial hf.todo.kind.1
      obtain ⟨_, k2, e2⟩ := apply_ok (cs := cs' ++ base') h3 (n := .enter _ _) trivial hf.todo.kind.2
      refine fin k2 e1 e2 ⟨⟨_, _, _, _, rfl⟩, ?_⟩
      rintro fr1 csx V1 e1 he
      cases he
      exact ⟨fr :: cs, fr' :: cs', _, rfl, rfl, rfl, enter_lr hF hcf har hp _ (fun _ => ⟨.inl rfl, by simp⟩) (.cons (hf.mono h1.le) (hc.mono h1.le))⟩
    | round f hl hp ha hb =>
      obtain ⟨_, _, e1⟩ := apply_ok (cs := cs ++ base) hv (n := .round _ _ _ _ _) trivial hf.todo.kind.1
      obtain ⟨_, k2, e2⟩ := apply_ok (cs := cs' ++ base') h3 (n := .round _ _ _ _ _) trivial hf.todo.kind.2
      refine fin k2 e1 e2 ⟨⟨_, _, _, _, rfl⟩, ?_⟩
      rintro fr1 csx V1 e1 he
      cases he
      exact ⟨fr :: cs, fr' :: cs', _, rfl, rfl, rfl, .inl ⟨⟨rfl, hp, .cons (.code ha) (.cons .beginRound (.cons (.code hb) .nil)), .nil, .run, rfl, .some hl⟩, .cons (hf.mono h1.le) (hc.mono h1.le)⟩⟩
    | @defer d d' hq hd =>
      obtain ⟨_, _, e1⟩ := apply_ok (cs := cs ++ base) hv (n := .defer _) trivial hf.todo.kind.1
      obtain ⟨_, k2, e2⟩ := apply_ok (cs := cs' ++ base') h3 (n := .defer _) trivial hf.todo.kind.2
      refine fin k2 e1 e2 ⟨⟨_, _, _, _, rfl⟩, ?_⟩
      rintro fr1 csx V1 e1 he
      cases he
      have hf' := hf.mono h1.le
      exact ⟨cs, cs', _, rfl, rfl, rfl, .inl ⟨FrR.finish (fr := { fr with defers := d :: fr.defers }) (fr' := { fr' with defers := d' :: fr'.defers }) ⟨hf'.fn, hf'.tmps, hf'.todo, .cons (.inl hq) hd hf'.defers, hf'.mode, hf'.kind, hf'.roundOf⟩ undefR, hc.mono h1.le⟩⟩
  | .halt x V', k =>
    rcases halt_cases x with ⟨v, rfl⟩ | hp
    · obtain ⟨B', W', v', m, h1, h2, h3, h4, h5⟩ := k
      have h3 := h3 #[]
      rw [Array.empty_append] at h3
      obtain ⟨_, _, e1⟩ := apply_panic (fr := fr) (cs := cs ++ base) hv
      obtain ⟨es', k2, e2⟩ := apply_panic (fr := fr') (cs := cs' ++ base') h3
      refine ⟨?_, .inl ⟨_, _, _, _, by rw [e1]; rfl⟩⟩
      intro fr1 csx V1 esx he
      rw [e1] at he
      obtain ⟨es2, he, _⟩ := after_go he
      cases he
      exact ⟨cs, cs', _, B', W', es', rfl, by rw [e2]; simp [GStep.after], h1, h2, fun e x => ⟨h5 e (k2 e x).1, (k2 e x).2⟩, .inl ⟨(hf.mono h1.le).raise (.cons _ _ h4 .nil), hc.mono h1.le⟩⟩
    · exact steps2_end (apply_mute hv (resR_mute hp k))
end
end Go.Proofs.YtokbalggdhippaaGreat.Lr
end

section
namespace Go.Proofs.YtokbalggdhippaaGreat.Lr
open Go.Conc
section
variable {X : Cx} {P P' : Program} {B : Lk}
theorem exitTo_lr (i : Nat) {l l' : List Item} (h : TdR X B l l') : (exitTo i l = none ∧ exitTo i l' = none) ∨ ∃ k k', exitTo i l = some k ∧ exitTo i l' = some k' ∧ TdR X B k k' := by
  induction h with
  | nil => exact .inl ⟨rfl, rfl⟩
  | cons hi hl ih =>
    cases hi with
    | inBlock j =>
      unfold exitTo
      by_cases e : (j == i) = true
      · rw [if_pos e, if_pos e]; exact .inr ⟨_, _, rfl, rfl, hl⟩
      · rw [if_neg e, if_neg e]; exact ih
    | _ => exact ih
theorem steps2_to {V W : World} (hw : WR X B V W) {base base' : List Frame} {fr fr' : Frame} {cs cs' : List Frame} (hf : FrR X B fr fr') (hc : CsR X B cs cs') :
    Steps2 X P P' B V W base base' (.go (G fr (cs ++ base)) V) (.go (G fr' (cs' ++ base')) W) := by
  refine ⟨?_, .inl ⟨_, _, _, _, rfl⟩⟩
  rintro fr1 csx V1 es he
  cases he
  exact ⟨cs, cs', fr', B, W, #[], rfl, rfl, Ext.refl .., hw, EvsK.nil, .inl ⟨hf, hc⟩⟩
theorem ofEnded {V W : World} {base base' : List Frame} {o : Outcome} {w : World} {es : Array Event} {r' : GStep} : Steps2 X P P' B V W base base' (.ended o w es) r' := steps2_end ⟨_, _, _, rfl⟩
theorem FrR.withTodo {fr fr' : Frame} (h : FrR X B fr fr') {l l' : List Item} (k : TdR X B l l') : FrR X B { fr with todo := l } { fr' with todo := l' } := ⟨h.fn, h.tmps, k, h.defers, h.mode, h.kind, h.roundOf⟩
theorem FrR.withMode {fr fr' : Frame} (h : FrR X B fr fr') {m m' : FrameMode} (k : MoR X B m m') : FrR X B { fr with mode := m } { fr' with mode := m' } := ⟨h.fn, h.tmps, h.todo, h.defers, k, h.kind, h.roundOf⟩
theorem dropWhile_lr {l l' : List PanicEntry} (h : EnR X B l l') : (l.dropWhile (!·.goexit) = [] ∧ l'.dropWhile (!·.goexit) = []) ∨ ∃ e m e' m', l.dropWhile (!·.goexit) = e :: m ∧ l'.dropWhile (!·.goexit) = e' :: m' ∧ EnR X B (e :: m) (e' :: m') := by
  induction h with
  | nil => exact .inl ⟨rfl, rfl⟩
  | @cons v v' r g l l' hv hl ih =>
    cases g with
    | true => exact .inr ⟨_, _, _, _, rfl, rfl, .cons r true hv hl⟩
    | false => simpa [List.dropWhile] using ih
theorem doReturn_lr {V W : World} (hw : WR X B V W) {base base' : List Frame} {fr fr' : Frame} {c c' : Frame} {cs cs' : List Frame} (hf : FrR X B fr fr') (hcc : FrR X B c c') (hc : CsR X B cs cs') {v v' : Value} (hv : VR X B v v') (m m' : Bool) :
    Steps2 X P P' B V W base base' (doReturn P m fr (c :: cs ++ base) none v V) (doReturn P' m' fr' (c' :: cs' ++ base') none v' W) := by
  unfold doReturn
  rw [List.cons_append, List.cons_append]
  dsimp only
  rw [hf.kind]
  cases fr.kind with
  | normal => exact steps2_to hw (hcc.finish hv) hc
  | wrapped => exact steps2_to hw (hcc.finish hv) hc
  | early => exact steps2_to hw hcc hc
  | _ =>
    dsimp only
    refine steps2_to hw ?_ hc
    have hm := hcc.mode
    cases hcm : c.mode with
    | run =>
      rw [hcm] at hm
      cases hcm' : c'.mode <;> rw [hcm'] at hm <;> cases hm
      exact hcc
    | returning =>
      rw [hcm] at hm
      cases hcm' : c'.mode <;> rw [hcm'] at hm <;> cases hm
      exact hcc
    | panicking l =>
      rw [hcm] at hm
      cases hcm' : c'.mode <;> rw [hcm'] at hm <;> cases hm
      rename_i l' hl
      cases hl with
      | nil => exact hcc
      | cons r g hv hl =>
        cases r with
        | false => exact hcc
        | true =>
          dsimp only
          rcases dropWhile_lr hl with ⟨e1, e2⟩ | ⟨e, m, e', m', e1, e2, e3⟩
          · rw [e1, e2]; exact hcc.withMode .returning
          · rw [e1, e2]; exact hcc.withMode (.panicking e3)
theorem run_lr {α β : Type} {R : Lk → α → β → Prop} {s : Sem α} {s' : Sem β} (hs : SR X P P' R B s s') {V W : World} (hw : WR X B V W) :
    (∃ a V1 B1 W1 b n, s.run P V = .ok a V1 ∧ (∀ es, s'.runT P' W es = (.ok b W1, es ++ n)) ∧ Ext X B V W B1 V1 W1 ∧ WR X B1 V1 W1 ∧ R B1 a b ∧ EvsOk X B1 n) ∨
    (∃ v V1 B1 W1 v' n, s.run P V = .halt (.panic v) V1 ∧ (∀ es, s'.runT P' W es = (.halt (.panic v') W1, es ++ n)) ∧ Ext X B V W B1 V1 W1 ∧ WR X B1 V1 W1 ∧ VR X B1 v v' ∧ EvsOk X B1 n) ∨
    ∃ h V1, s.run P V = .halt h V1 ∧ Mute h := by
  have := (hs V W hw).2
  generalize s.run P V = r at this
  match r, this with
  | .ok a V', ⟨B', W', b, n, h1, h2, h3, h4, h5⟩ => exact .inl ⟨a, V', B', W', b, n, rfl, h3, h1, h2, h4, h5⟩
  | .halt x V', k =>
    rcases halt_cases x with ⟨v, rfl⟩ | hp
    · obtain ⟨B', W', v', n, h1, h2, h3, h4, h5⟩ := k
      exact .inr (.inl ⟨v, V', B', W', v', n, rfl, h3, h1, h2, h4, h5⟩)
    · exact .inr (.inr ⟨x, V', rfl, resR_mute hp k⟩)
theorem after_step {V W V1 W1 : World} {B1 : Lk} {base base' : List Frame} {a a' : GStep} (h : Steps2 X P P' B1 V1 W1 base base' a a') (hx : Ext X B V W B1 V1 W1) {n : Array Event} (hn : EvsOk X B1 n) (es : Array Event) (fn : FuncId) :
    Steps2 X P P' B V W base base' (GStep.after es a) (GStep.after (seen P' fn n) a') := by
  obtain ⟨h, ht⟩ := h
  refine ⟨?_, ht.elim (fun ⟨f, c, v, e, h⟩ => .inl ⟨f, c, v, es ++ e, by rw [h]; rfl⟩) (fun ⟨o, w, e, h⟩ => .inr ⟨o, w, es ++ e, by rw [h]; rfl⟩)⟩
  intro fr1 csx V2 e1 he
  obtain ⟨es2, he, _⟩ := after_go he
  obtain ⟨c1, c1', fr1', B', W2, m, rfl, rfl, h1, h2, h3, h4⟩ := h _ _ _ _ he
  refine ⟨c1, c1', fr1', B', W2, seen P' fn n ++ m, rfl, rfl, hx.trans h1, h2, fun e x => ?_, h4⟩
  rcases Array.mem_append.1 x with x | x
  · have := (hn.seen (P' := P') fn) e x
    exact ⟨this.1.mono h1.le, this.2⟩
  · exact h3 e x
theorem after_end {V W : World} {base base' : List Frame} {a r' : GStep} {es : Array Event} (h : ∃ o w es, a = .ended o w es) : Steps2 X P P' B V W base base' (GStep.after es a) r' :=
  steps2_end (let ⟨o, w, e, h⟩ := h; ⟨o, w, es ++ e, by rw [h]; rfl⟩)
theorem sr_getLoop {l l' : Nat} (k : B l l') : SR X P P' (fun B' r r' => LpR X B' r r') B (Instr.getLoop l) (Instr.getLoop l') := by
  unfold Instr.getLoop
  refine SR.bind (SR.getObj k) fun B1 l1 o o' ho => ?_
  cases ho <;> first
    | exact SR.stuck
    | exact SR.pure (by assumption)
theorem LpR.with {r r' : Loop} (h : LpR X B r r') (st : LoopState) (p : Option Code) (hp : ∀ c, p = some c → CdR X c c) : LpR X B { r with state := st, pending := p } { r' with state := st, pending := p } :=
  ⟨rfl, rfl, hp, h.fn, h.tmps, h.params, h.assign, h.body, h.defers⟩
theorem sr_endRound {l l' : Nat} (k : B l l') (j : Option Code) (hj : ∀ c, j = some c → CdR X c c) : SR X P P' (VRel X) B (Instr.endRound l j) (Instr.endRound l' j) := by
  unfold Instr.endRound
  refine SR.bind (sr_getLoop k) fun B1 l1 r r' hr => ?_
  exact SR.bind (SR.setObj (l1 _ _ k) (.loop (hr.with _ _ hj))) fun B2 l2 _ _ _ => SR.pure (.bool _)
theorem sr_endLoop (hP : PRel X P P') {l l' : Nat} (k : B l l') : SR X P P' (fun _ (c c' : Option Code) => c' = c ∧ ∀ x, c = some x → CdR X x x) B (Instr.endLoop l) (Instr.endLoop l') := by
  unfold Instr.endLoop
  refine SR.bind (sr_getLoop k) fun B1 l1 r r' hr => ?_
  rw [hr.state]
  refine SR.ite (fun _ => sr_pan hP _) (fun _ => ?_)
  exact SR.bind (SR.setObj (l1 _ _ k) (.loop (by rw [hr.pending]; exact hr.with _ _ hr.pok))) fun B2 l2 _ _ _ => SR.pure ⟨hr.pending, hr.pok⟩
theorem sr_beginRound (hP : PRel X P P') {l l' : Nat} (k : B l l') : SR X P P' Triv B (Instr.beginRound l) (Instr.beginRound l') := by
  unfold Instr.beginRound
  refine SR.bind (sr_getLoop k) fun B1 l1 r r' hr => ?_
  refine SR.bind (SR.setObj (l1 _ _ k) (.loop (by rw [hr.pending]; exact hr.with _ _ hr.pok))) fun B2 l2 _ _ _ => ?_
  rw [hr.state]
  cases r.state <;> first
    | exact SR.pure trivial
    | exact SR.runtimePanic hP (e := .error _) trivial
theorem sr_enterLoop (fn : FuncId) {t t' : Array Value} (ht : AR X B t t') (ps : Array Tmp) {a b a' b' : Code} (ha : CdR X a a') (hb : CdR X b b') {o o' : Option Nat} (ho : OnR B o o') :
    SR X P P' (fun B' (x x' : Nat × List Deferred) => B' x.1 x'.1 ∧ DsR X B' x.2 x'.2) B (Instr.enterLoop fn t ps a b o) (Instr.enterLoop fn t' ps a' b' o') := by
  unfold Instr.enterLoop
  cases ho with
  | none =>
    dsimp only
    refine SR.bind (SR.newObj (.dsome .nil)) fun B1 l1 r r' hr => ?_
    refine SR.bind (R := fun B' (x x' : Nat × List Deferred) => B' x.1 x'.1 ∧ DsR X B' x.2 x'.2) (SR.pure ⟨hr.1, .cons (.inr ⟨_, rfl⟩) ⟨.collected hr.1, AR.nil⟩ .nil⟩) ?_
    rintro B2 l2 ⟨d, m⟩ ⟨d', m'⟩ ⟨h1, h2⟩
    refine SR.bind (SR.newObj (.loop ⟨rfl, rfl, fun c e => (by cases e), rfl, ((ht.mono l1).mono l2), rfl, ha, hb, h1⟩)) fun B3 l3 q q' hq => SR.pure ⟨hq.1, h2.mono l3⟩
  | some k =>
    dsimp only
    refine SR.bind (sr_getLoop k) fun B1 l1 r r' hr => ?_
    refine SR.bind (R := fun B' (x x' : Nat × List Deferred) => B' x.1 x'.1 ∧ DsR X B' x.2 x'.2) (SR.pure ⟨hr.defers, .nil⟩) ?_
    rintro B2 l2 ⟨d, m⟩ ⟨d', m'⟩ ⟨h1, h2⟩
    refine SR.bind (SR.newObj (.loop ⟨rfl, rfl, fun c e => (by cases e), rfl, ((ht.mono l1).mono l2), rfl, ha, hb, h1⟩)) fun B3 l3 q q' hq => SR.pure ⟨hq.1, h2.mono l3⟩
theorem sr_takeDeferred {l l' : Nat} (k : B l l') : SR X P P' (fun B' d d' => DsR X B' d d') B (Instr.takeDeferred l) (Instr.takeDeferred l') := by
  unfold Instr.takeDeferred
  refine SR.bind (SR.getObj k) fun B1 l1 o o' ho => ?_
  cases ho <;> first
    | exact SR.stuck
    | skip
  rename_i hd
  exact SR.bind (SR.setObj (l1 _ _ k) .dnone) fun B2 l2 _ _ _ => SR.pure (hd.mono l2)
theorem sr_mapMVal {ι : Type} {f f' : ι → Sem Value} : ∀ (l : List ι) {B : Lk}, (∀ x ∈ l, ∀ B', Le B B' → SR X P P' (VRel X) B' (f x) (f' x)) → SR X P P' (fun B' v v' => LR X B' v v') B (l.mapM f) (l.mapM f')
  | [], _, _ => by simp only [List.mapM_nil]; exact SR.pure .nil
  | x :: l, B, h => by
    simp only [List.mapM_cons]
    refine SR.bind (h x (by simp) B (Le.refl _)) fun B1 l1 v v' hv => ?_
    refine SR.bind (sr_mapMVal l fun y hy B' hl => h y (by simp [hy]) B' (l1.trans hl)) fun B2 l2 vs vs' hvs => ?_
    exact SR.pure (.cons (hv.mono l2) hvs)
theorem LR.arr : ∀ {l l' : List Value}, LR X B l l' → AR X B l.toArray l'.toArray := by
  intro l l' h
  refine ⟨?_, ?_⟩
  · simp only [List.size_toArray]
    induction h with
    | nil => rfl
    | cons _ _ ih => simp [ih]
  · induction h with
    | nil => intro i v v' a _; simp at a
    | cons h1 _ ih =>
      intro i v v' a b
      cases i with
      | zero => simp at a b; exact a ▸ b ▸ h1
      | succ i => exact ih i v v' (by simpa using a) (by simpa using b)
theorem sr_results (hP : PRel X P P') {fn fn' : Func} (he : fn'.results = fn.results) {t t' : Array Value} (ht : AR X B t t') : SR X P P' (VRel X) B (results fn t) (results fn' t') := by
  unfold results
  rw [he, Array.mapM_eq_mapM_toList, Array.mapM_eq_mapM_toList]
  refine SR.bind (R := ARel X) (SR.map (sr_mapMVal fn.results.toList fun x _ B' hl => ?_) fun B1 _ a b h => LR.arr h) ?_
  · cases x with
    | tmp i => exact SR.pure ((ht.mono hl).getD i undefR)
    | cell a ty => exact SR.bind (SR.asAddr hP ((ht.mono hl).getD a undefR)) fun B2 l2 q q' hq => SR.loadVar hP hq ty
  · intro B1 l1 vs vs' hvs
    refine SR.pure ?_
    by_cases h : vs.size = 1
    · have h' : vs'.size = 1 := hvs.1 ▸ h
      rw [dif_pos h, dif_pos h']
      exact hvs.2 0 _ _ (Array.getElem?_eq_getElem (by omega)) (Array.getElem?_eq_getElem (by omega))
    · have h' : ¬ vs'.size = 1 := hvs.1 ▸ h
      rw [dif_neg h, dif_neg h']
      exact AR.tuple hvs
end
end Go.Proofs.YtokbalggdhippaaGreat.Lr
end
