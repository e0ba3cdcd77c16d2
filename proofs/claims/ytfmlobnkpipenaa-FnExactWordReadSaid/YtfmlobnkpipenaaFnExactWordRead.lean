/- FnExactWordRead: the program's WordRead returns what the reference's returns, for all arguments. No condition. -/
import Derived.Test.YtfmlobnkpipenaaWordR
import Derived.Test.YtfmlobnkpipenaaSame
import Derived.Test.YtfmlobnkpipenaaLaw
namespace Go.Proofs.Ytfmlobnkpipenaa
open Go.ChangeShapes Go.WideShapes Go.ChangeAt Go.RowKit

theorem FnExactWordRead_walk (s : ByteArray) (hs : s.size ≤ maxLen) (w : World) :
    Calls Try.prog 4 #[.string s] w fun e w' => e = .returned (.bool true) ∧ Below w.heap.size w w' := by
  unfold maxLen at hs
  by_cases hbig : 1048576 < s.size
  · go_enter Try.func4, Try.ntmps4
    go_wp2
    go_ret
    exact ⟨rfl, Below.refl _ _⟩
  · have hb : s.size ≤ 1048576 := by omega
    have H1 := Lib.hid (specWordRead_any s hb)
    have H2 := Lib.hid (implWordRead_any s hb)
    have hx : (wordR s.data.toList).getD 0 < 2 ^ 32 := by
      cases hr : wordR s.data.toList with
      | none => decide
      | some n => exact wordR_lt hr
    generalize (wordR s.data.toList).getD 0 = x at *
    generalize (wordR s.data.toList).isSome = ok at *
    cases hn : Flo.nan .f32 x
    · obtain ⟨y, hy, hny⟩ := Flo.widen_any hx hn
      have hc := fun w => run_convert_float_float (P := Try.prog) w 22 28 .f32 .f64 x y (by kernel_rfl) Try.underlying28 hy
      have hok : (ok != ok) = false := by simp
      have HN := Lib.hid hny
      clear hn hy hny
      go_enter Try.func4, Try.ntmps4
      go_wp2_with (first | (go_at_call 11; refine (H1.out _).mono ?_; rintro e w' ⟨rfl, hd⟩) | (go_at_call 12; refine (H2.out _).mono ?_; rintro e w' ⟨rfl, rfl⟩) | (go_at_call 13; refine (sameFloat_refl _ HN.out _).mono ?_; rintro e w' ⟨rfl, rfl⟩))
      go_ret
      exact ⟨rfl, hd.below _⟩
    · have hc := Flo.run_convert_nan (P := Try.prog) 22 28 .f32 .f64 x (by decide) (by kernel_rfl) Try.underlying28 hn
      have hok : (ok != ok) = false := by simp
      clear hn
      go_enter Try.func4, Try.ntmps4
      go_wp2_with (first | (go_at_call 11; refine (H1.out _).mono ?_; rintro e w' ⟨rfl, hd⟩) | (go_at_call 12; refine (H2.out _).mono ?_; rintro e w' ⟨rfl, rfl⟩) | (go_at_call 13; refine (sameFloat_nan _ _ (Flo.nanC_nan _ _ _) (Flo.nanC_nan _ _ _) _).mono ?_; rintro e w' ⟨rfl, rfl⟩))
      go_ret
      exact ⟨rfl, ((hd.drew).drew).below _⟩
set_option maxRecDepth 100000 in
theorem FnExactWordRead_lifted (os : Os) (started : os.Started) (H : Type) (enc : TypeId × Value → H) :
    ReturnsInHanded {} Try.checked os 4 .any (Rows.fnExactWordReadSpec.pre6 enc Try.prog Try.f4 Rows.fnExactWordReadRow.domain false) (Rows.fnExactWordReadSpec.post enc Try.prog Try.f4 false true false false) := by
  refine returnsInHanded_of_change (C := Try.checked) own started (by kernel_rfl) Try.func4
    (ChangeSpec.witness6 (enc := enc) (C := Try.checked) false ⟨#[], #[.string ByteArray.empty], []⟩ 8 (by kernel_rfl) (by kernel_rfl) (by kernel_rfl) (by kernel_rfl)) ?_
  intro W base args ds gs before hval0 hW _ _
  have hval : ∀ (j : Nat) t v, Try.f4.params[j]? = some t → args[j]? = some v → Value.okWide Try.prog W .any base t v := hval0
  have hW' := hW
  obtain ⟨p, q, hA0, hV, rfl, _, _⟩ := hW
  have hA : DataW.TrodAll enc Try.prog W 0 (fun _ => true) true Try.f4.params.toList args.toList ds p := hA0
  rw [Try.params4] at hA hval
  obtain ⟨v0, vs0, d0, ds0, p0, q0, hargs, rfl, rfl, h0, r0⟩ := trodAll_cons hA
  obtain ⟨rfl, rfl, rfl⟩ := trodAll_nil r0
  obtain rfl : args = #[v0] := by cases args; simp_all
  obtain ⟨rfl, rfl⟩ := trodVars_none hV
  obtain ⟨x0, rfl, rfl, rfl, w0⟩ := Go.ChangeMaps.open_string Try.underlying9 (hval 0 9 v0 rfl rfl) h0
  clear hA0 hval0
  refine (FnExactWordRead_walk x0 w0 W).mono fun e W' ⟨he, hb⟩ => ⟨_, he, ?_⟩
  exact law_post laidOut (by kernel_rfl) (by kernel_rfl) rfl Try.underlying4 hW' rfl rfl rfl hb

theorem FnExactWordRead_holds : Rows.FnExactWordReadSaid :=
  OpenClaim.holds_of_wide 4 Try.f4 rfl rfl rfl rfl rfl rfl rfl ⟨rfl, rfl, rfl, rfl, rfl⟩ rfl rfl rfl rfl rfl (by kernel_rfl) Try.func4 (by kernel_rfl)
    (of_decide_eq_true (by kernel_rfl)) (by unfold Func.isWrapper; first | (rw [if_pos (by decide +kernel)]; kernel_rfl) | (rw [if_neg (by decide +kernel)]; exact ⟨rfl, rfl⟩))
    (fun os started H enc _ => FnExactWordRead_lifted os started H enc)
end Go.Proofs.Ytfmlobnkpipenaa
