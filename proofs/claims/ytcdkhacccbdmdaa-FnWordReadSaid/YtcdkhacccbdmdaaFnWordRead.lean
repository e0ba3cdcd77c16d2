/- FnWordRead: what is read is written. No condition. -/
import Derived.Test.YtcdkhacccbdmdaaRdW
import Derived.Test.YtcdkhacccbdmdaaWordR
import Derived.Test.YtcdkhacccbdmdaaWordB
import Derived.Test.YtcdkhacccbdmdaaWordW
import Derived.Test.YtcdkhacccbdmdaaSame
import Derived.Test.YtcdkhacccbdmdaaLaw
namespace Go.Proofs.Ytcdkhacccbdmdaa
open Go.ChangeShapes Go.WideShapes Go.ChangeAt Go.RowKit

set_option maxHeartbeats 2000000 in
theorem FnWordRead_walk (w : World) (a : Option Addr) (c : Nat) (bs : List UInt8) (_ : bs.length ≤ maxLen) (hc : bs.length ≤ c) (hs : Sl w a (bs.map byteV)) :
    Calls Try.prog 3 #[.slice a bs.length c] w fun e w' => e = .returned (.bool true) ∧ Below w.heap.size w w' := by
  by_cases hb : 1048576 < bs.length
  · go_enter Try.func3, Try.ntmps3
    go_wp2
    go_ret
    exact ⟨rfl, Below.refl _ _⟩
  have H := Lib.hid (drawWordRead_any a c bs (by omega) hc w hs)
  clear hs
  go_enter Try.func3, Try.ntmps3
  go_wp2_with fail
  refine H.out.mono ?_
  rintro e w1 ⟨⟨s, rfl, hz⟩, hd1⟩
  have B1 := Lib.hid hd1
  clear hd1 H
  have hR := Lib.hid (implWordRead_any s (by omega))
  have hQ := Lib.hid (specWordRead_any s (by omega))
  have hlt : (wordR s.data.toList).getD 0 < 4294967296 := by
    cases h : wordR s.data.toList with
    | none => simp
    | some n => exact wordR_lt h
  have hS := Lib.hid (sameSmall_self _ hlt)
  cases hr : wordR s.data.toList with
  | none =>
    rw [hr] at hR hQ hS
    simp only [Option.getD_none, Option.isSome_none] at hR hQ hS
    clear hr hlt
    go_wp2_with (first
      | (go_at_call 8; refine (hR.out _).mono ?_; rintro e w2 ⟨rfl, rfl⟩)
      | (go_at_call 9; refine (hQ.out _).mono ?_; rintro e w3 ⟨rfl, hd3⟩; replace B1 := Lib.hid (B1.out.trans (hd3.below _)); clear hd3)
      | (go_at_call 10; refine (hS.out _).mono ?_; rintro e w4 ⟨rfl, hd4⟩; replace B1 := Lib.hid (B1.out.trans (hd4.below _)); clear hd4))
    go_ret
    exact ⟨rfl, B1.out⟩
  | some x =>
    rw [hr] at hR hQ hS hlt
    simp only [Option.getD_some, Option.isSome_some] at hR hQ hS hlt
    by_cases hnan : Flo.nan .f32 x = true
    · have h1 : (FloatKind.f32.format.order x x != some .eq) = true := by rw [Flo.order_nan_left x hnan]; rfl
      clear hr hlt hnan
      go_wp2_with (first
        | (go_at_call 8; refine (hR.out _).mono ?_; rintro e w2 ⟨rfl, rfl⟩)
        | (go_at_call 9; refine (hQ.out _).mono ?_; rintro e w3 ⟨rfl, hd3⟩; replace B1 := Lib.hid (B1.out.trans (hd3.below _)); clear hd3)
        | (go_at_call 10; refine (hS.out _).mono ?_; rintro e w4 ⟨rfl, hd4⟩; replace B1 := Lib.hid (B1.out.trans (hd4.below _)); clear hd4))
      go_ret
      exact ⟨rfl, B1.out⟩
    · have h1 : (FloatKind.f32.format.order x x != some .eq) = false := by rw [Flo.order_self (by simpa using hnan)]; rfl
      have hW := implWordOf_any x hlt
      rw [wordL_wordR hr] at hW
      have HW : Hid (∀ w, Calls Try.prog 11 #[.float .f32 x] w fun e w' => e = .returned (.string s) ∧ Below w.heap.size w w') := hW
      clear hr hlt hnan hW
      go_wp2_with (first
        | (go_at_call 8; refine (hR.out _).mono ?_; rintro e w2 ⟨rfl, rfl⟩)
        | (go_at_call 9; refine (hQ.out _).mono ?_; rintro e w3 ⟨rfl, hd3⟩; replace B1 := Lib.hid (B1.out.trans (hd3.below _)); clear hd3)
        | (go_at_call 10; refine (hS.out _).mono ?_; rintro e w4 ⟨rfl, hd4⟩; replace B1 := Lib.hid (B1.out.trans (hd4.below _)); clear hd4)
        | (go_at_call 11; refine (HW.out _).mono ?_; rintro e w5 ⟨rfl, hd5⟩; replace B1 := Lib.hid (B1.out.trans (hd5.mono B1.out.size)); clear hd5))
      go_ret
      exact ⟨rfl, B1.out⟩
set_option maxRecDepth 100000 in
theorem FnWordRead_lifted (os : Os) (started : os.Started) (H : Type) (enc : TypeId × Value → H) :
    ReturnsInHanded {} Try.checked os 3 .any (Rows.fnWordReadSpec.pre6 enc Try.prog Try.f3 Rows.fnWordReadRow.domain false) (Rows.fnWordReadSpec.post enc Try.prog Try.f3 false true false false) := by
  refine returnsInHanded_of_change (C := Try.checked) own started (by kernel_rfl) Try.func3
    (ChangeSpec.witness6 (enc := enc) (C := Try.checked) false ⟨#[], #[.slice none 0 0], []⟩ 8 (by kernel_rfl) (by kernel_rfl) (by kernel_rfl) (by kernel_rfl)) ?_
  intro W base args ds gs before hval0 hW _ _
  have hval : ∀ (j : Nat) t v, Try.f3.params[j]? = some t → args[j]? = some v → Value.okWide Try.prog W .any base t v := hval0
  have hW' := hW
  obtain ⟨p, q, hA0, hV, rfl, _, _⟩ := hW
  have hA : DataW.TrodAll enc Try.prog W 0 (fun _ => true) true Try.f3.params.toList args.toList ds p := hA0
  rw [Try.params3] at hA hval
  obtain ⟨v0, vs0, d0, ds0, p0, q0, hargs, rfl, rfl, h0, r0⟩ := trodAll_cons hA
  obtain ⟨rfl, rfl, rfl⟩ := trodAll_nil r0
  obtain rfl : args = #[v0] := by cases args; simp_all
  obtain ⟨rfl, rfl⟩ := trodVars_none hV
  obtain ⟨a0, c0, l0, rfl, n0, m0, s0⟩ := open_bytes Try.underlying22 Try.underlying5 (by kernel_rfl) (hval 0 22 v0 rfl rfl) h0
  clear hA0 hval0
  refine (FnWordRead_walk W a0 c0 l0 n0 m0 s0).mono fun e W' ⟨he, hb⟩ => ⟨_, he, ?_⟩
  exact law_post laidOut (by kernel_rfl) (by kernel_rfl) rfl Try.underlying4 hW' rfl rfl rfl hb

theorem FnWordRead_holds : Rows.FnWordReadSaid :=
  OpenClaim.holds_of_wide 3 Try.f3 rfl rfl rfl rfl rfl rfl rfl ⟨rfl, rfl, rfl, rfl, rfl⟩ rfl rfl rfl rfl rfl (by kernel_rfl) Try.func3 (by kernel_rfl)
    (of_decide_eq_true (by kernel_rfl)) (by unfold Func.isWrapper; first | (rw [if_pos (by decide +kernel)]; kernel_rfl) | (rw [if_neg (by decide +kernel)]; exact ⟨rfl, rfl⟩))
    (fun os started H enc _ => FnWordRead_lifted os started H enc)
end Go.Proofs.Ytcdkhacccbdmdaa
