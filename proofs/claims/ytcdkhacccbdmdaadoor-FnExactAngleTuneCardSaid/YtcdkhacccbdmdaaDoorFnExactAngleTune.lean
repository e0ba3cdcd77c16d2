/- FnExactAngleTune: the program's AngleTune returns what the reference's returns. No condition. -/
import Derived.Test.YtcdkhacccbdmdaaDoorTunB
import Derived.Test.YtcdkhacccbdmdaaDoorAngB
import Derived.Test.YtcdkhacccbdmdaaDoorFnExactAngleOf
namespace Go.Proofs.YtcdkhacccbdmdaaDoor
open Go.ChangeShapes Go.WideShapes Go.ChangeAt Go.RowKit

set_option maxHeartbeats 4000000 in
theorem FnExactAngleTune_walk (w : World) (hT : Tab w) (hE : ErrT w) (a b : Int) (_ : (Lit.int .i64 a).wf = true) (_ : (Lit.int .i64 b).wf = true) (f : ByteArray) (_ : f.size ≤ maxLen) (s : ByteArray) (_ : s.size ≤ maxLen) :
    Calls Tryd.prog 9 #[.agg #[.int .i64 a, .int .i64 b], .string f, .string s] w fun e w' => e = .returned (.bool true) ∧ Below w.heap.size w w' := by
  have B := Box.new w #[.int .i64 a, .int .i64 b] 41
  by_cases h1 : 1048576 < (f.size : Int)
  · have HB := Lib.hid B.old
    clear hE hT B
    go_enter Tryd.func9, Tryd.ntmps9
    go_wp2
    go_ret
    exact ⟨rfl, HB.out⟩
  by_cases h2 : 1048576 < (s.size : Int)
  · have HB := Lib.hid B.old
    clear hE hT B
    go_enter Tryd.func9, Tryd.ntmps9
    go_wp2
    go_ret
    exact ⟨rfl, HB.out⟩
  obtain ⟨v, t1, t2⟩ := tune_both a b f s (by omega) (by omega)
  obtain ⟨x, y, r, hv⟩ := angV_ex v
  rw [hv] at t1 t2
  have H1 := Lib.hid t2
  have H2 := Lib.hid t1
  have HE := Lib.hid (fun W (h : Below w.heap.size w W) => hE.step h)
  have HT := Lib.hid (fun W (h : Below w.heap.size w W) => hT.step h)
  clear hE hT hv t1 t2
  have eb : (r != r) = false := by simp
  have b0 := B.cell 0 _ rfl
  have b1 := B.cell 1 _ rfl
  go_enter Tryd.func9, Tryd.ntmps9
  go_wp2_with fail
  refine (toAngle_any a b _).mono ?_
  rintro e w1 ⟨rfl, hb⟩
  replace B := B.step hb
  clear hb b0 b1
  go_wp2_with fail
  refine (H1.out _).mono ?_
  rintro e w2 ⟨rfl, hb⟩
  replace B := B.step hb
  clear hb
  have X := (Box.new w2 #[.int .i64 x, .int .i64 y] 24).up B.old
  replace B := B.alloc (.cells #[.int .i64 x, .int .i64 y] 24)
  have b0 := B.cell 0 _ rfl
  have b1 := B.cell 1 _ rfl
  go_wp2_with fail
  refine (toAngle_any a b _).mono ?_
  rintro e w3 ⟨rfl, hb⟩
  replace B := B.step hb
  replace X := X.step hb
  clear hb b0 b1
  have HT2 := HT.out _ X.old
  have HE2 := HE.out _ X.old
  have K := Lib.hid (H2.out _ HT2 HE2)
  clear HT2 HE2
  go_wp2_with fail
  refine K.out.mono ?_
  rintro e w4 ⟨rfl, hb⟩
  replace X := X.step hb
  clear hb K B
  have Y := (Box.new w4 #[.int .i64 x, .int .i64 y] 24).up X.old
  replace X := X.alloc (.cells #[.int .i64 x, .int .i64 y] 24)
  have c0 := X.cell 0 _ rfl
  have c1 := X.cell 1 _ rfl
  have d0 := Y.cell 0 _ rfl
  have d1 := Y.cell 1 _ rfl
  go_wp2_with fail
  refine (eqAngle_same x y _).mono ?_
  rintro e w5 ⟨rfl, hb⟩
  have HB := Lib.hid (X.step hb).old
  clear X Y hb c0 c1 d0 d1
  go_wp2
  go_ret
  exact ⟨rfl, HB.out⟩
set_option maxRecDepth 100000 in
theorem FnExactAngleTune_contract (H : Type) (enc : TypeId × Value → H) (W : World) (base : Nat) (args : Array Value) (ds gs : List (DataW H)) (before : List MemPlace)
    (hval : ∀ (j : Nat) t v, Tryd.f9.params[j]? = some t → args[j]? = some v → Value.okWide Tryd.prog W .any base t v)
    (hW : DataW.Whole enc Tryd.prog Tryd.f9.params.toList Rows.fnExactAngleTuneSpec.vars false W args.toList ds gs before) (hL : laidMetH Tryd.prog Rows.fnExactAngleTuneRow.laid W) :
    Calls Tryd.prog 9 args W fun e W' => ∃ v, e = .returned v ∧ Rows.fnExactAngleTuneSpec.post enc Tryd.prog Tryd.f9 false true false false W args v W' := by
  have hW' := hW
  obtain ⟨p, q, hA0, hV, rfl, _, _⟩ := hW
  have hA : DataW.TrodAll enc Tryd.prog W 0 (fun _ => true) true Tryd.f9.params.toList args.toList ds p := hA0
  rw [Tryd.params9] at hA hval
  obtain ⟨v0, vs0, d0, ds0, p0, q0, hargs, rfl, rfl, h0, r0⟩ := trodAll_cons hA
  obtain ⟨v1, vs1, d1, ds1, p1, q1, rfl, rfl, rfl, h1, r1⟩ := trodAll_cons r0
  obtain ⟨v2, vs2, d2, ds2, p2, q2, rfl, rfl, rfl, h2, r2⟩ := trodAll_cons r1
  obtain ⟨rfl, rfl, rfl⟩ := trodAll_nil r2
  obtain rfl : args = #[v0, v1, v2] := by cases args; simp_all
  obtain ⟨rfl, rfl⟩ := trodVars_none hV
  obtain ⟨x0, y0, rfl, w0, z0⟩ := open_angle Tryd.underlying41 (by kernel_rfl) (by kernel_rfl) Tryd.underlying3 Tryd.underlying3 (hval 0 41 v0 rfl rfl) h0
  obtain ⟨x1, rfl, rfl, rfl, w1⟩ := Go.ChangeMaps.open_string Tryd.underlying9 (hval 1 9 v1 rfl rfl) h1
  obtain ⟨x2, rfl, rfl, rfl, w2⟩ := Go.ChangeMaps.open_string Tryd.underlying9 (hval 2 9 v2 rfl rfl) h2
  clear hA0
  refine (FnExactAngleTune_walk W (tab_of3 hL) (err_of3 hL) x0 y0 w0 z0 x1 w1 x2 w2).mono fun e W' ⟨he, hb⟩ => ⟨_, he, ?_⟩
  exact law_post laidOut (by kernel_rfl) (by kernel_rfl) rfl Tryd.underlying4 hW' rfl rfl rfl hb
set_option maxRecDepth 100000 in
theorem FnExactAngleTune_reads (os : Os) {H : Type} (enc : TypeId × Value → H) : ∃ places, DataW.whole enc Tryd.prog ((laidWorld3 os).forCall (fun _ _ => 0) ⟨#[], #[.agg #[.int .i64 0, .int .i64 0], .string ByteArray.empty, .string ByteArray.empty], []⟩).memory Tryd.f9.params.toList Rows.fnExactAngleTuneSpec.vars false #[(.agg #[.int .i64 0, .int .i64 0] : Value), .string ByteArray.empty, .string ByteArray.empty].toList 8 = some ([.agg [.lit (.int .i64 0), .lit (.int .i64 0)], .lit (.string []), .lit (.string [])], [], places) :=
  ⟨[], by kernel_rfl⟩
set_option maxRecDepth 100000 in
theorem FnExactAngleTune_lifted (os : Os) (started : os.Started) (H : Type) (enc : TypeId × Value → H) (F : Stop.Interp) :
    ReturnsInHanded {} Tryd.checked os 9 .any ((OpenSpec.ofChange Rows.fnExactAngleTuneSpec).preRow enc Tryd.prog Tryd.f9 Rows.fnExactAngleTuneRow.domain false Rows.fnExactAngleTuneRow.laid) (((OpenSpec.ofChange Rows.fnExactAngleTuneSpec).at F).post enc Tryd.prog Tryd.f9 false true false false) := by
  obtain ⟨places, hx⟩ := FnExactAngleTune_reads os enc
  refine returnsInHanded_of_row (C := Tryd.checked) (s := OpenSpec.ofChange Rows.fnExactAngleTuneSpec) own started (by kernel_rfl) Tryd.func9
    (witness_row_at (enc := enc) (C := Tryd.checked) false (laidWorld3 os) #[.agg #[.int .i64 0, .int .i64 0], .string ByteArray.empty, .string ByteArray.empty] rfl (by kernel_rfl) (by kernel_rfl) (by kernel_rfl)
      (OpenSpec.preRow_of_cond 8 hx (by kernel_rfl) (fun k hk => by cases hk) (by kernel_rfl) (laid_met3 os _))) ?_
  intro W base args ds gs before hval hW _ _ _ hL _ _
  exact FnExactAngleTune_contract H enc W base args ds gs before hval hW hL
set_option maxRecDepth 100000 in
theorem FnExactAngleTune_said : Rows.FnExactAngleTuneSaid :=
  OpenClaim.holds_of_cond 9 Tryd.f9 rfl rfl rfl rfl rfl rfl rfl ⟨rfl, rfl, rfl, rfl, rfl⟩ rfl rfl rfl rfl rfl (by kernel_rfl) Tryd.func9 (by kernel_rfl)
    (of_decide_eq_true (by kernel_rfl)) (by unfold Func.isWrapper; first | (rw [if_pos (by decide +kernel)]; kernel_rfl) | (rw [if_neg (by decide +kernel)]; exact ⟨rfl, rfl⟩))
    (fun os started H enc _ F => by rw [OpenClaim.pre_eq_preRow]; exact FnExactAngleTune_lifted os started H enc F)
set_option maxRecDepth 100000 in
theorem FnExactAngleTune_plain (f : FuncId) (fn : Func) (hf : Tryd.pinned.checked.prog.funcNamed "loop.example/quadraticorbits/laws.FnExactAngleTune" = some f) (hfn : Tryd.pinned.checked.prog.funcs[f]? = some fn) :
    true = Tryd.pinned.checked.prog.looks [] ∧ ∀ (j : Nat) t, fn.params[j]? = some t → Tryd.pinned.checked.prog.wantsStandIn t = false := by
  obtain rfl : f = 9 := Option.some.inj ((show Tryd.prog.funcNamed "loop.example/quadraticorbits/laws.FnExactAngleTune" = some 9 by kernel_rfl).symm.trans hf) |>.symm
  obtain rfl : fn = Tryd.f9 := (Option.some.inj (Tryd.func9.symm.trans hfn)).symm
  refine ⟨by kernel_rfl, fun j t ht => ?_⟩
  rw [Tryd.params9] at ht
  have hm := Array.mem_of_getElem? ht
  simp at hm
  rcases hm with rfl | rfl
  · exact (show Tryd.prog.wantsStandIn 41 = false by kernel_rfl)
  · exact (show Tryd.prog.wantsStandIn 9 = false by kernel_rfl)

set_option maxRecDepth 100000 in
theorem FnExactAngleTune_holds : Rows.FnExactAngleTuneCardSaid :=
  Claim7.holds_tied_plain_at .later [] _ _ _ _ FnExactAngleTune_said (fun _ h => by cases h) (by kernel_rfl) (fun _ h => by cases h) fnExactAngleTune_row_tie rfl ⟨rfl, rfl⟩ (by kernel_rfl) rfl FnExactAngleTune_plain (by kernel_rfl)
end Go.Proofs.YtcdkhacccbdmdaaDoor
