/- FnWord: words are read bit by bit. No condition. -/
import Derived.Test.YtfmlobnkpipenaaRdF
import Derived.Test.YtfmlobnkpipenaaWordR
import Derived.Test.YtfmlobnkpipenaaWordB
import Derived.Test.YtfmlobnkpipenaaWordW
import Derived.Test.YtfmlobnkpipenaaSame
import Derived.Test.YtfmlobnkpipenaaLaw
import Derived.Deep.RegionWith
namespace Go.Proofs.Ytfmlobnkpipenaa
open Go.ChangeShapes Go.WideShapes Go.ChangeAt Go.RowKit

set_option maxHeartbeats 2000000 in
theorem FnWord_walk (w : World) (a : Option Addr) (c : Nat) (bs : List UInt8) (_ : bs.length ≤ maxLen) (hc : bs.length ≤ c) (hs : Sl w a (bs.map byteV)) :
    Calls Try.prog 7 #[.slice a bs.length c] w fun e w' => e = .returned (.bool true) ∧ Below w.heap.size w w' := by
  by_cases hb : 1048576 < bs.length
  · go_enter Try.func7, Try.ntmps7
    go_wp2
    go_ret
    exact ⟨rfl, Below.refl _ _⟩
  have H := Lib.hid (drawWordOf_any a c bs (by omega) hc w hs)
  clear hs
  go_enter Try.func7, Try.ntmps7
  go_wp2_with fail
  refine H.out.mono ?_
  rintro e w1 ⟨⟨x, rfl, hx⟩, hd1⟩
  have B1 := Lib.hid hd1
  clear hd1 H
  by_cases hnan : Flo.nan .f32 x = true
  · have h1 : (FloatKind.f32.format.order x x != some .eq) = true := by rw [Flo.order_nan_left x hnan]; rfl
    have hW := Lib.hid (implWordOf_any x hx)
    have hV := Lib.hid (specWordOf_any x hx)
    generalize (⟨(wordL x).toArray⟩ : ByteArray) = s at *
    clear hnan
    go_wp2_with (first | (go_at_call 10; refine (hW.out _).mono ?_; rintro e w2 ⟨rfl, hd2⟩; have B2 := Lib.hid (B1.out.trans (hd2.mono B1.out.size)); clear hd2) | (go_at_call 9; refine (hV.out _).mono ?_; rintro e w3 ⟨rfl, rfl⟩))
    go_ret
    exact ⟨rfl, B2.out⟩
  · have hnan' : Flo.nan .f32 x = false := by simpa using hnan
    have h1 : (FloatKind.f32.format.order x x != some .eq) = false := by rw [Flo.order_self hnan']; rfl
    have hneg := fun w => Flo.run_neg (P := Try.prog) .f32 x w
    have hnl : Op.negFloat .f32 x < 4294967296 := Flo.neg_lt .f32 x hx
    have hd : ((⟨(wordL (Op.negFloat .f32 x)).toArray⟩ : ByteArray).toList == (⟨(wordL x).toArray⟩ : ByteArray).toList) = false := word_ne hnl hx (Flo.neg_ne .f32 x)
    have hW := Lib.hid (implWordOf_any x hx)
    have hV := Lib.hid (specWordOf_any x hx)
    have hX := Lib.hid (implWordOf_any _ hnl)
    have hR := Lib.hid (implWordRead_any ⟨(wordL x).toArray⟩ (by rw [word_size]; omega))
    rw [show (⟨(wordL x).toArray⟩ : ByteArray).data.toList = wordL x by simp, wordR_wordL x hx] at hR
    simp only [Option.getD_some, Option.isSome_some] at hR
    have hS := Lib.hid (sameSmall_refl x hx hnan')
    have hz := word_size x
    generalize Op.negFloat .f32 x = nx at *
    generalize (⟨(wordL x).toArray⟩ : ByteArray) = s at *
    generalize (⟨(wordL nx).toArray⟩ : ByteArray) = t at *
    clear hnan hnan' hx hnl
    go_wp2_with (first
      | (go_at_call 10; refine (hW.out _).mono ?_; rintro e w2 ⟨rfl, hd2⟩; have B2 := Lib.hid (B1.out.trans (hd2.mono B1.out.size)); clear hd2 hW)
      | (go_at_call 9; refine (hV.out _).mono ?_; rintro e w3 ⟨rfl, rfl⟩)
      | (go_at_call 12; refine (hR.out _).mono ?_; rintro e w4 ⟨rfl, rfl⟩)
      | (go_at_call 20; refine (hS.out _).mono ?_; rintro e w5 ⟨rfl, rfl⟩)
      | (go_at_call 10; refine (hX.out _).mono ?_; rintro e w6 ⟨rfl, hd6⟩; have B6 := Lib.hid (B2.out.trans (hd6.mono B2.out.size)); clear hd6))
    go_ret
    exact ⟨rfl, B6.out⟩
set_option maxRecDepth 100000 in
theorem FnWord_lifted (os : Os) (started : os.Started) (H : Type) (enc : TypeId × Value → H) :
    ReturnsInHanded {} Try.checked os 7 .any (Rows.fnWordSpec.pre6 enc Try.prog Try.f7 Rows.fnWordRow.domain false) (Rows.fnWordSpec.post enc Try.prog Try.f7 false true false false) := by
  refine returnsInHanded_of_change (C := Try.checked) own started (by kernel_rfl) Try.func7
    (ChangeSpec.witness6 (enc := enc) (C := Try.checked) false ⟨#[], #[.slice none 0 0], []⟩ 8 (by kernel_rfl) (by kernel_rfl) (by kernel_rfl) (by kernel_rfl)) ?_
  intro W base args ds gs before hval0 hW _ _
  have hval : ∀ (j : Nat) t v, Try.f7.params[j]? = some t → args[j]? = some v → Value.okWide Try.prog W .any base t v := hval0
  have hW' := hW
  obtain ⟨p, q, hA0, hV, rfl, _, _⟩ := hW
  have hA : DataW.TrodAll enc Try.prog W 0 (fun _ => true) true Try.f7.params.toList args.toList ds p := hA0
  rw [Try.params7] at hA hval
  obtain ⟨v0, vs0, d0, ds0, p0, q0, hargs, rfl, rfl, h0, r0⟩ := trodAll_cons hA
  obtain ⟨rfl, rfl, rfl⟩ := trodAll_nil r0
  obtain rfl : args = #[v0] := by cases args; simp_all
  obtain ⟨rfl, rfl⟩ := trodVars_none hV
  obtain ⟨a0, c0, l0, rfl, n0, m0, s0⟩ := open_bytes Try.underlying37 Try.underlying5 (by kernel_rfl) (hval 0 37 v0 rfl rfl) h0
  clear hA0 hval0
  refine (FnWord_walk W a0 c0 l0 n0 m0 s0).mono fun e W' ⟨he, hb⟩ => ⟨_, he, ?_⟩
  exact law_post laidOut (by kernel_rfl) (by kernel_rfl) rfl Try.underlying4 hW' rfl rfl rfl hb

theorem FnWord_holds : Rows.FnWordSaid :=
  OpenClaim.holds_of_wide 7 Try.f7 rfl rfl rfl rfl rfl rfl rfl ⟨rfl, rfl, rfl, rfl, rfl⟩ rfl rfl rfl rfl rfl (by kernel_rfl) Try.func7 (by kernel_rfl)
    (of_decide_eq_true (by kernel_rfl)) (by unfold Func.isWrapper; first | (rw [if_pos (by decide +kernel)]; kernel_rfl) | (rw [if_neg (by decide +kernel)]; exact ⟨rfl, rfl⟩))
    (fun os started H enc _ => FnWord_lifted os started H enc)
end Go.Proofs.Ytfmlobnkpipenaa
