/- FnExactAngleKneading: the program's AngleKneading returns what the reference's returns, for all arguments. No condition. -/
import Derived.Test.YtfmlobnkpipenaaAngI
import Derived.Test.YtfmlobnkpipenaaLaw
namespace Go.Proofs.Ytfmlobnkpipenaa
open Go.ChangeShapes Go.WideShapes Go.ChangeAt Go.RowKit

set_option maxHeartbeats 1000000 in
theorem FnExactAngleKneading_walk (a b : Int) (_ : (Lit.int .i64 a).wf = true) (_ : (Lit.int .i64 b).wf = true) (n : Int) (_ : (Lit.int .i64 n).wf = true) (w : World) :
    Calls Try.prog 6 #[.agg #[.int .i64 a, .int .i64 b], .int .i64 n] w fun e w' => e = .returned (.bool true) ∧ Below w.heap.size w w' := by
  have H1 := Lib.hid (specAngleKneading_any a b n)
  have H2 := Lib.hid (implAngleKneading_any a b n)
  generalize (angSigns a b n).getD [] = x at *
  generalize (angSigns a b n).isSome = ok at *
  have hok : (ok != ok) = false := by simp
  have B := Box.new w #[.int .i64 a, .int .i64 b] 31
  go_enter Try.func6, Try.ntmps6
  go_wp2_with (first | (go_at_call 15; refine (toAngle_any _ _ _).mono ?_; rintro e w' ⟨rfl, hd⟩; replace B := B.step hd; have c0 := B.cell 0 _ rfl; have c1 := B.cell 1 _ rfl) | (go_at_call 17; refine (H1.out _).mono ?_; rintro e w' ⟨rfl, hd⟩; replace B := B.step hd; have c0 := B.cell 0 _ rfl; have c1 := B.cell 1 _ rfl) | (go_at_call 18; refine (H2.out _).mono ?_; rintro e w' ⟨rfl, hd⟩; replace B := B.step hd; have c0 := B.cell 0 _ rfl; have c1 := B.cell 1 _ rfl))
  go_ret
  exact ⟨rfl, B.old⟩
set_option maxRecDepth 100000 in
theorem FnExactAngleKneading_lifted (os : Os) (started : os.Started) (H : Type) (enc : TypeId × Value → H) :
    ReturnsInHanded {} Try.checked os 6 .any (Rows.fnExactAngleKneadingSpec.pre6 enc Try.prog Try.f6 Rows.fnExactAngleKneadingRow.domain false) (Rows.fnExactAngleKneadingSpec.post enc Try.prog Try.f6 false true false false) := by
  refine returnsInHanded_of_change (C := Try.checked) own started (by kernel_rfl) Try.func6
    (ChangeSpec.witness6 (enc := enc) (C := Try.checked) false ⟨#[], #[.agg #[.int .i64 0, .int .i64 0], .int .i64 0], []⟩ 8 (by kernel_rfl) (by kernel_rfl) (by kernel_rfl) (by kernel_rfl)) ?_
  intro W base args ds gs before hval0 hW _ _
  have hval : ∀ (j : Nat) t v, Try.f6.params[j]? = some t → args[j]? = some v → Value.okWide Try.prog W .any base t v := hval0
  have hW' := hW
  obtain ⟨p, q, hA0, hV, rfl, _, _⟩ := hW
  have hA : DataW.TrodAll enc Try.prog W 0 (fun _ => true) true Try.f6.params.toList args.toList ds p := hA0
  rw [Try.params6] at hA hval
  obtain ⟨v0, vs0, d0, ds0, p0, q0, hargs, rfl, rfl, h0, r0⟩ := trodAll_cons hA
  obtain ⟨v1, vs1, d1, ds1, p1, q1, rfl, rfl, rfl, h1, r1⟩ := trodAll_cons r0
  obtain ⟨rfl, rfl, rfl⟩ := trodAll_nil r1
  obtain rfl : args = #[v0, v1] := by cases args; simp_all
  obtain ⟨rfl, rfl⟩ := trodVars_none hV
  obtain ⟨x0, y0, rfl, w0, z0⟩ := open_angle Try.underlying31 (by kernel_rfl) (by kernel_rfl) Try.underlying3 Try.underlying3 (hval 0 31 v0 rfl rfl) h0
  obtain ⟨x1, rfl, rfl, rfl, w1⟩ := open_int Try.underlying3 (hval 1 3 v1 rfl rfl) h1
  clear hA0 hval0
  refine (FnExactAngleKneading_walk x0 y0 w0 z0 x1 w1 W).mono fun e W' ⟨he, hb⟩ => ⟨_, he, ?_⟩
  exact law_post laidOut (by kernel_rfl) (by kernel_rfl) rfl Try.underlying4 hW' rfl rfl rfl hb

theorem FnExactAngleKneading_holds : Rows.FnExactAngleKneadingSaid :=
  OpenClaim.holds_of_wide 6 Try.f6 rfl rfl rfl rfl rfl rfl rfl ⟨rfl, rfl, rfl, rfl, rfl⟩ rfl rfl rfl rfl rfl (by kernel_rfl) Try.func6 (by kernel_rfl)
    (of_decide_eq_true (by kernel_rfl)) (by unfold Func.isWrapper; first | (rw [if_pos (by decide +kernel)]; kernel_rfl) | (rw [if_neg (by decide +kernel)]; exact ⟨rfl, rfl⟩))
    (fun os started H enc _ => FnExactAngleKneading_lifted os started H enc)
end Go.Proofs.Ytfmlobnkpipenaa
