/- The card FnExecuteExact: exact numbers are told. For every row of bytes the law returns true, whatever the schedule. -/
import Derived.Test.YtjaehldnlamgkaaGreatDoorXe31
namespace Go.Proofs.YtjaehldnlamgkaaGreatDoor
open Go.ChangeShapes Go.WideShapes Go.ChangeAt Go.RowKit Go.Conc Go.Proofs.YtjaehldnlamgkaaGreatDoor.Ok
set_option maxRecDepth 100000 in
set_option maxHeartbeats 400000 in
theorem FnExecuteExact_lifted (os : Os) (started : os.Started) (H : Type) (enc : TypeId × Value → H) :
    ReturnsInLeavingWide {} Tryz.checked os 3 .any ((OpenSpec.ofChange Rows.fnExecuteExactSpec).preRow enc Tryz.prog Tryz.f3 Rows.fnExecuteExactRow.domain false Rows.fnExecuteExactRow.laid) (Rows.fnExecuteExactSpec.post enc Tryz.prog Tryz.f3 false true false false) := by
  obtain ⟨places, hx⟩ : ∃ places, DataW.whole enc Tryz.prog ((Md os).forCall (fun _ _ => 0) ⟨#[], #[.slice none 0 0], []⟩).memory Tryz.f3.params.toList Rows.fnExecuteExactSpec.vars false #[(.slice none 0 0 : Value)].toList 8 = some ([.nil], [], places) := ⟨[], by kernel_rfl⟩
  refine Sx (C := Tryz.checked) Alk started (by kernel_rfl)
    (witness_row_at (enc := enc) (C := Tryz.checked) false (Md os) #[.slice none 0 0] rfl (by kernel_rfl) (by kernel_rfl) (by kernel_rfl)
      (OpenSpec.preRow_of_cond 8 hx (by kernel_rfl) (fun k hk => by cases hk) (by kernel_rfl) (A83 os _))) ?_
  intro W base args ds gs before hsh hval0 hW hLd
  have hval : ∀ (j : Nat) t v, Tryz.f3.params[j]? = some t → args[j]? = some v → Value.okWide Tryz.prog W .any base t v := hval0
  have hW' := hW
  obtain ⟨p, q, hA0, hV0, rfl, _, _⟩ := hW
  have hA : DataW.TrodAll enc Tryz.prog W 0 (fun _ => true) true Tryz.f3.params.toList args.toList ds p := hA0
  rw [Tryz.params3] at hA hval
  obtain ⟨v0, vs0, d0, ds0, p0, q0, hargs, rfl, rfl, h0, r0⟩ := trodAll_cons hA
  obtain ⟨rfl, rfl, rfl⟩ := trodAll_nil r0
  obtain rfl : args = #[v0] := by cases args; simp_all
  obtain ⟨rfl, rfl⟩ := trodVars_none hV0
  have hok := hval 0 22 v0 rfl rfl
  obtain ⟨a0, c0, l0, rfl, n0, m0, s0⟩ := A4h Tryz.underlying22 Tryz.underlying5 (by kernel_rfl) hok h0
  clear hA0 hval0
  obtain ⟨N, last, o, w', t', e1, e2, e3, e4⟩ := Ail Alu (W0 := W) (a := a0) (c := c0) (bs := l0) (by rw [A7r]; exact A3w hsh) (A7q hsh) m0 s0 (Aa2 Tryz.underlying22 hok) (Af9 hLd) (A9i hsh) ⟨_, _, _, Ur hsh, A0q⟩
  exact ⟨N, last, o, w', t', e1, e2, e3, e4.mono fun v ⟨hv, hb⟩ => by
    subst hv
    exact Aba Ak3 (by kernel_rfl) (by kernel_rfl) rfl Tryz.underlying4 hW' rfl rfl rfl hb⟩
set_option maxRecDepth 100000 in
theorem L7 : Rows.FnExecuteExactSaid :=
  OpenClaim.holds_of_wide_leaving 3 Tryz.f3 rfl rfl rfl rfl rfl rfl rfl ⟨rfl, rfl, rfl, rfl, rfl⟩ rfl rfl rfl rfl rfl (by kernel_rfl) Tryz.func3 (by kernel_rfl)
    (of_decide_eq_true (by kernel_rfl)) (by unfold Func.isWrapper; first | (rw [if_pos (by decide +kernel)]; kernel_rfl) | (rw [if_neg (by decide +kernel)]; exact ⟨rfl, rfl⟩))
    (fun os started H enc _ => by rw [OpenClaim.pre_eq_preRow]; exact FnExecuteExact_lifted os started H enc)
set_option maxRecDepth 100000 in
theorem Jn (f : FuncId) (fn : Func) (hf : Tryz.pinned.checked.prog.funcNamed "loop.example/quadraticorbits/laws.FnExecuteExact" = some f) (hfn : Tryz.pinned.checked.prog.funcs[f]? = some fn) :
    true = Tryz.pinned.checked.prog.looks [] ∧ ∀ (j : Nat) t, fn.params[j]? = some t → Tryz.pinned.checked.prog.wantsStandIn t = false := by
  obtain rfl : f = 3 := Option.some.inj ((show Tryz.prog.funcNamed "loop.example/quadraticorbits/laws.FnExecuteExact" = some 3 by kernel_rfl).symm.trans hf) |>.symm
  obtain rfl : fn = Tryz.f3 := (Option.some.inj (Tryz.func3.symm.trans hfn)).symm
  refine ⟨by kernel_rfl, fun j t ht => ?_⟩
  rw [Tryz.params3] at ht
  obtain rfl : t = 22 := by simpa using Array.mem_of_getElem? ht
  exact (show Tryz.prog.wantsStandIn 22 = false by kernel_rfl)
set_option maxRecDepth 100000 in
theorem FnExecuteExact_holds : Rows.FnExecuteExactCardSaid :=
  Claim7.L9 .later _ _ _ _ L7 (by kernel_rfl) fnExecuteExact_row_tie rfl ⟨rfl, rfl⟩ (by kernel_rfl) rfl Jn (by kernel_rfl)
end Go.Proofs.YtjaehldnlamgkaaGreatDoor
#print axioms Go.Proofs.YtjaehldnlamgkaaGreatDoor.FnExecuteExact_holds
