/- Merged texts: SiG. -/
import Derived.Test.YtokbalggdhippaaGreatQ52
import Derived.Conc.LeavingOf
set_option linter.all false
section
namespace Go.Proofs.YtokbalggdhippaaGreat
open Go.ChangeShapes Go.WideShapes Go.ChangeAt Go.RowKit Go.Conc Go.Proofs.YtokbalggdhippaaGreat.Ok
theorem globals_le {P : Program} {w : World} (h : w.ShapedOpen P) : P.globals.size ≤ w.heap.size := by
  have hb : P.globals.size < (begin P (fun _ _ => 0) default).world.heap.size := by
    unfold begin
    simp
    omega
  obtain ⟨o, o0, h1, _⟩ := h.2 P.globals.size (Nat.le_refl _) hb
  exact Nat.le_of_lt (Array.getElem?_eq_some_iff.1 h1).1
theorem block_of {P : Program} {w : World} {r : Reach} {b0 : Nat} {t e : TypeId} {a : Option Addr} {l c : Nat} (ht : P.underlying t = some (.slice e)) (hv : Value.okWide P w r b0 t (.slice a l c)) :
    ∀ x, a = some x → ∃ b off C t fr, x = ⟨b, off, none⟩ ∧ w.heap[b]? = some (.cells C t fr) := by
  rintro x rfl
  unfold Value.okWide at hv
  rw [ht] at hv
  unfold Cell.okWide at hv
  rw [ht] at hv
  have hv : Cell.ok P w r b0 t (.slice (some x) l c) := hv
  unfold Cell.ok at hv
  rw [ht] at hv
  obtain ⟨_, _, _, hs, row, cells, hsh, _⟩ := hv
  obtain ⟨b, off, s⟩ := x
  dsimp only at hs hsh
  subst hs
  unfold World.shape? at hsh
  split at hsh
  · rename_i C t fr h
    exact ⟨b, off, C, t, fr, rfl, h⟩
  · cases hsh
section
variable {H : Type} {enc : TypeId × Value → H}
theorem leaving_of {a : Assume} {C : Checked} {os : Os} {f : FuncId} {fn : Func} {s : ChangeSpec} {conds : List PathCond} {apart fresh handsOn again : Bool}
    (own : ownKnob C.prog.godebug = none) (started : os.Started) (hfn : C.prog.funcs[f]? = some fn)
    (witness : ∃ (w : World) (tape : Tape) (i : Input), w.os = os ∧ (w.forCall tape i).Shaped C.prog ∧ i.vars = [] ∧ Input.okWide C.prog (w.forCall tape i) .any w.heap.size f i ∧
      s.pre6 enc C.prog fn conds apart (w.forCall tape i).memory i.args ∧ a.holds C.prog (lone (Frame.enter C.prog f i.args .normal) [] (w.forCall tape i)))
    (runs : ∀ (W : World) (base : Nat) (args : Array Value) (ds gs : List (DataW H)) (before : List MemPlace), W.ShapedOpen C.prog →
      (∀ (j : Nat) t v, fn.params[j]? = some t → args[j]? = some v → Value.okWide C.prog W .any base t v) →
      DataW.Whole enc C.prog fn.params.toList s.vars apart W args.toList ds gs before →
      ∃ M last o w' t', runNT C.prog (M + 1) (solo (G (Frame.enter C.prog f args .normal) []) W) #[] = (.ended o w', t') ∧ runN C.prog M (solo (G (Frame.enter C.prog f args .normal) []) W) = .next last ∧
        step C.prog last = .ended o w' ∧ Conc.Good C.prog (fun v W' => s.post enc C.prog fn apart fresh handsOn again W args v W') last o w' t') :
    ReturnsInLeavingWide a C os f .any (s.pre6 enc C.prog fn conds apart) (s.post enc C.prog fn apart fresh handsOn again) := by
  refine returnsInLeavingWide_of_good own started witness ?_
  intro w tape i _ hsh _ hok hpre _
  obtain ⟨_, _, _, fn', hfn', _, _, _, _, hval⟩ := hok
  obtain rfl : fn' = fn := Option.some.inj (hfn'.symm.trans hfn)
  obtain ⟨⟨ds, gs, before, hw, _⟩, _⟩ := hpre
  have hw' := DataW.Whole.of_heap (w' := w.forCall tape i) (by rfl) hw
  obtain ⟨M, last, o, w', t', h1, h2, h3, h4⟩ := runs (w.forCall tape i) w.heap.size i.args ds gs before hsh hval hw'
  exact ⟨M, last, o, w', t', h1, h2, h3, h4.mono fun v hp => ChangeSpec.post_blind hp⟩
end
theorem boolUp : ∀ n l, mvP Vp.prog 4 n l :=
  mvP_one (by kernel_rfl) (by kernel_rfl) (fun d off => by unfold byteOfCell; rw [Vp.und Tryz.underlying4]) (fun d off => by unfold cellOfByte; rw [Vp.und Tryz.underlying4])
theorem glob_up {w : World} (h : w.ShapedOpen Tryz.prog) : GlobUp w := by
  intro b C t fr hb hw n l
  have hn : Vp.prog.globals.size = 1 := by kernel_rfl
  have hnW : Tryz.prog.globals.size = 1 := by kernel_rfl
  obtain rfl : b = 0 := by omega
  obtain ⟨cs, h1, -, -⟩ := h.1 0 #[.bool false] 4 (by omega) (by kernel_rfl)
  rw [h1] at hw
  injection hw with hw
  injection hw with _ hw
  subst hw
  exact boolUp n l
theorem ownW : ownKnob Tryz.prog.godebug = none := by kernel_rfl
theorem globals_v : Vp.prog.globals = Tryz.prog.globals := congrArg Tables.globals Vp.tab
theorem laidW : laidOutB Tryz.prog = true := by kernel_rfl
set_option maxRecDepth 100000 in
set_option maxHeartbeats 400000 in
theorem FnPath_lifted {cl : List Nat} (R : RowOk cl 3) (hV : Vals) (hlaw : ∀ (w : World) (a : Option Addr) (c : Nat) (bs : List UInt8), bs.length ≤ maxLen → bs.length ≤ c → Sl w a (bs.map byteV) → Calls Vp.prog 3 #[.slice a bs.length c] w fun e _ => e = .returned (.bool true))
    (os : Os) (started : os.Started) (H : Type) (enc : TypeId × Value → H) :
    ReturnsInLeavingWide {} Tryz.checked os 3 .any (Rows.fnPathSpec.pre6 enc Tryz.prog Tryz.f3 Rows.fnPathRow.domain false) (Rows.fnPathSpec.post enc Tryz.prog Tryz.f3 false true false false) := by
  refine leaving_of (C := Tryz.checked) ownW started (by kernel_rfl)
    (ChangeSpec.witness6 (enc := enc) (C := Tryz.checked) false ⟨#[], #[.slice none 0 0], []⟩ 8 (by kernel_rfl) (by kernel_rfl) (by kernel_rfl) (by kernel_rfl)) ?_
  intro W base args ds gs before hsh hval0 hW
  have hval : ∀ (j : Nat) t v, Tryz.f3.params[j]? = some t → args[j]? = some v → Value.okWide Tryz.prog W .any base t v := hval0
  have hW' := hW
  obtain ⟨p, q, hA0, hV0, rfl, _, _⟩ := hW
  have hA : DataW.TrodAll enc Tryz.prog W 0 (fun _ => true) true Tryz.f3.params.toList args.toList ds p := hA0
  rw [Tryz.params3] at hA hval
  obtain ⟨v0, vs0, d0, ds0, p0, q0, hargs, rfl, rfl, h0, r0⟩ := trodAll_cons hA
  obtain ⟨rfl, rfl, rfl⟩ := trodAll_nil r0
  obtain rfl : args = #[v0] := by cases args; simp_all
  obtain ⟨rfl, rfl⟩ := trodVars_none hV0
  have hok := hval 0 22 v0 rfl rfl
  obtain ⟨a0, c0, l0, rfl, n0, m0, s0⟩ := open_bytes Tryz.underlying22 Tryz.underlying5 (by kernel_rfl) hok h0
  clear hA0 hval0
  obtain ⟨N, last, o, w', t', e1, e2, e3, e4⟩ := ends_bytes R hV (W0 := W) (a := a0) (c := c0) (bs := l0) (by rw [globals_v]; exact globals_le hsh) (glob_up hsh) s0 (block_of Tryz.underlying22 hok) fun w hs => hlaw w a0 c0 l0 n0 m0 hs
  exact ⟨N, last, o, w', t', e1, e2, e3, e4.mono fun v ⟨hv, hb⟩ => by
    subst hv
    exact law_post laidW (by kernel_rfl) (by kernel_rfl) rfl Tryz.underlying4 hW' rfl rfl rfl hb⟩
theorem FnPath_of {cl : List Nat} (R : RowOk cl 3) (hV : Vals) (hlaw : ∀ (w : World) (a : Option Addr) (c : Nat) (bs : List UInt8), bs.length ≤ maxLen → bs.length ≤ c → Sl w a (bs.map byteV) → Calls Vp.prog 3 #[.slice a bs.length c] w fun e _ => e = .returned (.bool true)) : Rows.FnPathSaid :=
  OpenClaim.holds_of_wide_leaving 3 Tryz.f3 rfl rfl rfl rfl rfl rfl rfl ⟨rfl, rfl, rfl, rfl, rfl⟩ rfl rfl rfl rfl rfl (by kernel_rfl) Tryz.func3 (by kernel_rfl)
    (of_decide_eq_true (by kernel_rfl)) (by unfold Func.isWrapper; first | (rw [if_pos (by decide +kernel)]; kernel_rfl) | (rw [if_neg (by decide +kernel)]; exact ⟨rfl, rfl⟩))
    (fun os started H enc _ => FnPath_lifted R hV hlaw os started H enc)
end Go.Proofs.YtokbalggdhippaaGreat
end
