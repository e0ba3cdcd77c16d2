/- FnExactAngleOf: the program's AngleOf returns what the reference's returns. No condition. -/
import Derived.Test.YtcdkhacccbdmdaaDoorAngOs
import Derived.Test.YtcdkhacccbdmdaaDoorCardE
namespace Go.Proofs.YtcdkhacccbdmdaaDoor
open Go.ChangeShapes Go.WideShapes Go.ChangeAt Go.RowKit

set_option maxHeartbeats 1000000 in
theorem eqAngle_same (x y : Int) (w : World) : Calls Tryd.prog 23 #[.agg #[.int .i64 x, .int .i64 y], .agg #[.int .i64 x, .int .i64 y]] w fun e w' => e = .returned (.bool true) ∧ Below w.heap.size w w' := by
  have HB : Hid (∀ o o', Below w.heap.size w ((w.alloc o).alloc o')) := fun o o' => ((Below.refl _ _).alloc (Nat.le_refl _) _).alloc (by simp) _
  have e1 : (x != x) = false := by simp
  have e2 : (y != y) = false := by simp
  go_enter Tryd.func23, Tryd.ntmps23
  go_wp2
  go_ret
  exact ⟨rfl, HB.out _ _⟩
theorem angV_some (o : Option (Nat × Nat)) : ∃ (x y : Int) (b : Bool), angV o = .tuple #[.agg #[.int .i64 x, .int .i64 y], .bool b] := by
  cases o with
  | none => exact ⟨0, 0, false, rfl⟩
  | some p => exact ⟨p.1, p.2, true, rfl⟩
set_option maxHeartbeats 4000000 in
theorem FnExactAngleOf_walk (w : World) (hE : ErrT w) (f : ByteArray) (_ : f.size ≤ maxLen) (s : ByteArray) (_ : s.size ≤ maxLen) :
    Calls Tryd.prog 6 #[.string f, .string s] w fun e w' => e = .returned (.bool true) ∧ Below w.heap.size w w' := by
  by_cases h1 : 1048576 < (f.size : Int)
  · clear hE
    go_enter Tryd.func6, Tryd.ntmps6
    go_wp2
    go_ret
    exact ⟨rfl, Below.refl _ _⟩
  by_cases h2 : 1048576 < (s.size : Int)
  · clear hE
    go_enter Tryd.func6, Tryd.ntmps6
    go_wp2
    go_ret
    exact ⟨rfl, Below.refl _ _⟩
  have H1 := Lib.hid (fun w => specAngleOf_any f s (by omega) (by omega) w)
  have H2 := Lib.hid (fun w hE => implAngleOf_any f s w hE)
  have HE := Lib.hid hE
  obtain ⟨x, y, b, hv⟩ := angV_some (angOf f s)
  rw [hv] at H1 H2
  clear hE hv
  have eb : (b != b) = false := by simp
  go_enter Tryd.func6, Tryd.ntmps6
  go_wp2_with fail
  refine (H1.out _).mono ?_
  rintro e w1 ⟨rfl, hb⟩
  have X := (Box.new w1 #[.int .i64 x, .int .i64 y] 24).up hb
  replace HE := Lib.hid ((HE.out.step hb).step ((Below.refl _ _).alloc (Nat.le_refl _) (.cells #[.int .i64 x, .int .i64 y] 24)))
  clear hb
  go_wp2_with fail
  refine (H2.out _ HE.out).mono ?_
  rintro e w2 ⟨rfl, hb⟩
  replace X := X.step hb
  clear hb
  have Y := (Box.new w2 #[.int .i64 x, .int .i64 y] 24).up X.old
  replace X := X.alloc (.cells #[.int .i64 x, .int .i64 y] 24)
  have c0 := X.cell 0 _ rfl
  have c1 := X.cell 1 _ rfl
  have d0 := Y.cell 0 _ rfl
  have d1 := Y.cell 1 _ rfl
  go_wp2_with fail
  refine (eqAngle_same x y _).mono ?_
  rintro e w3 ⟨rfl, hb⟩
  have HB := Lib.hid (X.step hb).old
  clear X Y hb c0 c1 d0 d1
  go_wp2
  go_ret
  exact ⟨rfl, HB.out⟩
set_option maxRecDepth 100000 in
theorem FnExactAngleOf_contract (H : Type) (enc : TypeId × Value → H) (W : World) (base : Nat) (args : Array Value) (ds gs : List (DataW H)) (before : List MemPlace)
    (hval : ∀ (j : Nat) t v, Tryd.f6.params[j]? = some t → args[j]? = some v → Value.okWide Tryd.prog W .any base t v)
    (hW : DataW.Whole enc Tryd.prog Tryd.f6.params.toList Rows.fnExactAngleOfSpec.vars false W args.toList ds gs before) (hL : laidMetH Tryd.prog Rows.fnExactAngleOfRow.laid W) :
    Calls Tryd.prog 6 args W fun e W' => ∃ v, e = .returned v ∧ Rows.fnExactAngleOfSpec.post enc Tryd.prog Tryd.f6 false true false false W args v W' := by
  have hW' := hW
  obtain ⟨p, q, hA0, hV, rfl, _, _⟩ := hW
  have hA : DataW.TrodAll enc Tryd.prog W 0 (fun _ => true) true Tryd.f6.params.toList args.toList ds p := hA0
  rw [Tryd.params6] at hA hval
  obtain ⟨v0, vs0, d0, ds0, p0, q0, hargs, rfl, rfl, h0, r0⟩ := trodAll_cons hA
  obtain ⟨v1, vs1, d1, ds1, p1, q1, rfl, rfl, rfl, h1, r1⟩ := trodAll_cons r0
  obtain ⟨rfl, rfl, rfl⟩ := trodAll_nil r1
  obtain rfl : args = #[v0, v1] := by cases args; simp_all
  obtain ⟨rfl, rfl⟩ := trodVars_none hV
  obtain ⟨x0, rfl, rfl, rfl, w0⟩ := Go.ChangeMaps.open_string Tryd.underlying9 (hval 0 9 v0 rfl rfl) h0
  obtain ⟨x1, rfl, rfl, rfl, w1⟩ := Go.ChangeMaps.open_string Tryd.underlying9 (hval 1 9 v1 rfl rfl) h1
  clear hA0
  refine (FnExactAngleOf_walk W (err_of hL) x0 w0 x1 w1).mono fun e W' ⟨he, hb⟩ => ⟨_, he, ?_⟩
  exact law_post laidOut (by kernel_rfl) (by kernel_rfl) rfl Tryd.underlying4 hW' rfl rfl rfl hb
set_option maxRecDepth 100000 in
theorem FnExactAngleOf_reads (os : Os) {H : Type} (enc : TypeId × Value → H) : ∃ places, DataW.whole enc Tryd.prog ((laidWorldE os).forCall (fun _ _ => 0) ⟨#[], #[.string ByteArray.empty, .string ByteArray.empty], []⟩).memory Tryd.f6.params.toList Rows.fnExactAngleOfSpec.vars false #[(.string ByteArray.empty : Value), .string ByteArray.empty].toList 8 = some ([.lit (.string []), .lit (.string [])], [], places) :=
  ⟨[], by kernel_rfl⟩
set_option maxRecDepth 100000 in
theorem FnExactAngleOf_lifted (os : Os) (started : os.Started) (H : Type) (enc : TypeId × Value → H) (F : Stop.Interp) :
    ReturnsInHanded {} Tryd.checked os 6 .any ((OpenSpec.ofChange Rows.fnExactAngleOfSpec).preRow enc Tryd.prog Tryd.f6 Rows.fnExactAngleOfRow.domain false Rows.fnExactAngleOfRow.laid) (((OpenSpec.ofChange Rows.fnExactAngleOfSpec).at F).post enc Tryd.prog Tryd.f6 false true false false) := by
  obtain ⟨places, hx⟩ := FnExactAngleOf_reads os enc
  refine returnsInHanded_of_row (C := Tryd.checked) (s := OpenSpec.ofChange Rows.fnExactAngleOfSpec) own started (by kernel_rfl) Tryd.func6
    (witness_row_at (enc := enc) (C := Tryd.checked) false (laidWorldE os) #[.string ByteArray.empty, .string ByteArray.empty] rfl (by kernel_rfl) (by kernel_rfl) (by kernel_rfl)
      (OpenSpec.preRow_of_cond 8 hx (by kernel_rfl) (fun k hk => by cases hk) (by kernel_rfl) (laid_metE os _))) ?_
  intro W base args ds gs before hval hW _ _ _ hL _ _
  exact FnExactAngleOf_contract H enc W base args ds gs before hval hW hL
set_option maxRecDepth 100000 in
theorem FnExactAngleOf_said : Rows.FnExactAngleOfSaid :=
  OpenClaim.holds_of_cond 6 Tryd.f6 rfl rfl rfl rfl rfl rfl rfl ⟨rfl, rfl, rfl, rfl, rfl⟩ rfl rfl rfl rfl rfl (by kernel_rfl) Tryd.func6 (by kernel_rfl)
    (of_decide_eq_true (by kernel_rfl)) (by unfold Func.isWrapper; first | (rw [if_pos (by decide +kernel)]; kernel_rfl) | (rw [if_neg (by decide +kernel)]; exact ⟨rfl, rfl⟩))
    (fun os started H enc _ F => by rw [OpenClaim.pre_eq_preRow]; exact FnExactAngleOf_lifted os started H enc F)
set_option maxRecDepth 100000 in
theorem FnExactAngleOf_plain (f : FuncId) (fn : Func) (hf : Tryd.pinned.checked.prog.funcNamed "loop.example/quadraticorbits/laws.FnExactAngleOf" = some f) (hfn : Tryd.pinned.checked.prog.funcs[f]? = some fn) :
    true = Tryd.pinned.checked.prog.looks [] ∧ ∀ (j : Nat) t, fn.params[j]? = some t → Tryd.pinned.checked.prog.wantsStandIn t = false := by
  obtain rfl : f = 6 := Option.some.inj ((show Tryd.prog.funcNamed "loop.example/quadraticorbits/laws.FnExactAngleOf" = some 6 by kernel_rfl).symm.trans hf) |>.symm
  obtain rfl : fn = Tryd.f6 := (Option.some.inj (Tryd.func6.symm.trans hfn)).symm
  refine ⟨by kernel_rfl, fun j t ht => ?_⟩
  rw [Tryd.params6] at ht
  have hm := Array.mem_of_getElem? ht
  simp at hm
  obtain rfl := hm
  exact (show Tryd.prog.wantsStandIn 9 = false by kernel_rfl)

set_option maxRecDepth 100000 in
theorem FnExactAngleOf_holds : Rows.FnExactAngleOfCardSaid :=
  Claim7.holds_tied_plain_at .later [] _ _ _ _ FnExactAngleOf_said (fun _ h => by cases h) (by kernel_rfl) (fun _ h => by cases h) fnExactAngleOf_row_tie rfl ⟨rfl, rfl⟩ (by kernel_rfl) rfl FnExactAngleOf_plain (by kernel_rfl)
end Go.Proofs.YtcdkhacccbdmdaaDoor
