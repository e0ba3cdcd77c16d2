/- FnWell: well made tiles have counts. No condition. -/
import Derived.Test.YtdfoobemgdiobaaTilH
import Derived.Test.YtdfoobemgdiobaaTilV
import Derived.Test.YtdfoobemgdiobaaTilS
import Derived.Test.YtdfoobemgdiobaaLaw
import Derived.Deep.RegionWith
namespace Go.Proofs.Ytdfoobemgdiobaa
open Go.ChangeShapes Go.WideShapes Go.ChangeAt Go.RowKit
attribute [local go_sem] run_store_float run_store_complex

set_option maxRecDepth 100000 in
set_option maxHeartbeats 2000000 in
theorem FnWell_walk (w : World) (a : Option Addr) (c : Nat) (bs : List UInt8) (_ : bs.length ≤ maxLen) (hc : bs.length ≤ c) (hs : Sl w a (bs.map byteV)) :
    Calls Try.prog 5 #[.slice a bs.length c] w fun e w' => e = .returned (.bool true) ∧ Below w.heap.size w w' := by
  by_cases hb : 1048576 < bs.length
  · go_enter Try.func5, Try.ntmps5
    go_wp2
    go_ret
    exact ⟨rfl, Below.refl _ _⟩
  have H := Lib.hid (drawTileWell_any a c bs (by omega) hc w hs)
  clear hs
  go_enter Try.func5, Try.ntmps5
  go_wp2_with fail
  refine H.out.mono ?_
  rintro e w1 ⟨⟨a1, c1, a2, c2, cx, cy, deep, size, xs, ys, rfl, T⟩, hd⟩
  have R := (Box.new w1 #[.complex .f32 cx cy, .int .i64 deep, .int .i64 size, .slice a1 xs.length c1, .slice a2 ys.length c2] 35).up hd
  replace T := T.step ((Below.refl _ _).alloc (Nat.le_refl _) (.cells #[.complex .f32 cx cy, .int .i64 deep, .int .i64 size, .slice a1 xs.length c1, .slice a2 ys.length c2] 35))
  have hlim := T.lim
  obtain ⟨-, -, -, -, -, l1, l2, -⟩ := hlim
  obtain ⟨r0, r1, r2, r3, r4⟩ := R.cells5
  have hwb := R.lt
  clear H hd
  go_wp2_with fail
  refine (implWell_is cx cy deep size T.bx T.by1 T.pl a1 a2 xs.length c1 c2 ys (by omega) _ T.s2).mono ?_
  rintro e w2 ⟨rfl, hd⟩
  replace R := R.step hd
  replace T := T.step hd
  obtain ⟨r0, r1, r2, r3, r4⟩ := R.cells5
  clear hd
  go_wp2_with fail
  refine (specWell_is cx cy deep size T.bx T.by1 T.pl a1 a2 xs.length c1 c2 ys (by omega) _ T.s2).mono ?_
  rintro e w3 ⟨rfl, hd⟩
  replace R := R.step hd
  replace T := T.step hd
  obtain ⟨r0, r1, r2, r3, r4⟩ := R.cells5
  clear hd
  cases hw : wellB size xs.length ys with
  | false =>
    have HB := Lib.hid R.old
    clear R T hw
    go_wp2
    go_ret
    exact ⟨rfl, HB.out⟩
  | true =>
    have HW := Lib.hid hw
    clear hw
    go_wp2_with fail
    refine (implCounts_good cx cy deep size T.bx T.by1 T.pl a1 a2 xs.length c1 c2 ys (by omega) _ T.s2 HW.out).mono ?_
    rintro e w4 ⟨b, rfl, hbb, hC⟩
    replace R := R.step hC.old
    replace T := T.step hC.old
    obtain ⟨r0, r1, r2, r3, r4⟩ := R.cells5
    have ht := cnt_total (wellB_all HW.out).2.2
    have hlim2 := T.lim.2.2.2.2.2.2.2
    obtain ⟨p, q, r, HX, p1, q1, r1, hS⟩ : ∃ p q r : Nat, cntC ys ys.length = #[.int .i64 p, .int .i64 q, .int .i64 r] ∧ p ≤ 64 ∧ q ≤ 64 ∧ r ≤ 64 ∧ ((p : Int) + q + r = size * size) := by
      refine ⟨cnt 1 ys, cnt (-1) ys, cnt 0 ys, by unfold cntC; rw [List.take_length], ?_, ?_, ?_, ?_⟩
      · have := cnt_le 1 ys; omega
      · have := cnt_le (-1) ys; omega
      · have := cnt_le 0 ys; omega
      · rw [← hlim2]; omega
    rw [HX] at hC
    have HT := Lib.hid T
    have HR := Lib.hid R
    have HC := Lib.hid hC
    clear T R hC HX ht hlim2
    go_wp2_with fail
    refine (implSum_good cx cy deep size HT.out.bx HT.out.by1 HT.out.pl a1 a2 c1 c2 xs ys (by omega) HT.out.hx _ HT.out.s1 HT.out.s2 HW.out).mono ?_
    rintro e w5 ⟨rfl, hd⟩
    have R := HR.out.step hd
    have C := HC.out.step hd
    obtain ⟨r0, r1, r2, r3, r4⟩ := R.cells5
    have k0 := C.cell 0 (.int .i64 p) rfl
    have k1 := C.cell 1 (.int .i64 q) rfl
    have k2 := C.cell 2 (.int .i64 r) rfl
    have HD := Lib.hid R.old
    clear hd R C HR HC HT
    generalize sum0 xs ys = sm at *
    go_upto_region 10 with fail
    have e1 : IntKind.i64.wrap ((p : Int) + q) = (p : Int) + q := IntWalk.i64_in _ (by omega)
    have e2 : IntKind.i64.wrap ((p : Int) + q + r) = (p : Int) + q + r := IntWalk.i64_in _ (by omega)
    have e3 : IntKind.i64.wrap (size * size) = (p : Int) + q + r := by rw [← hS]; exact e2
    clear hS
    go_quiet (fail)
    clear e1 e2 e3
    go_wp2
    go_ret
    exact ⟨rfl, below_drewN HD.out _⟩
set_option maxRecDepth 100000 in
theorem FnWell_lifted (os : Os) (started : os.Started) (H : Type) (enc : TypeId × Value → H) :
    ReturnsInHanded {} Try.checked os 5 .any (Rows.fnWellSpec.pre6 enc Try.prog Try.f5 Rows.fnWellRow.domain false) (Rows.fnWellSpec.post enc Try.prog Try.f5 false true false false) := by
  refine returnsInHanded_of_change (C := Try.checked) own started (by kernel_rfl) Try.func5
    (ChangeSpec.witness6 (enc := enc) (C := Try.checked) false ⟨#[], #[.slice none 0 0], []⟩ 8 (by kernel_rfl) (by kernel_rfl) (by kernel_rfl) (by kernel_rfl)) ?_
  intro W base args ds gs before hval0 hW _ _
  have hval : ∀ (j : Nat) t v, Try.f5.params[j]? = some t → args[j]? = some v → Value.okWide Try.prog W .any base t v := hval0
  have hW' := hW
  obtain ⟨p, q, hA0, hV, rfl, _, _⟩ := hW
  have hA : DataW.TrodAll enc Try.prog W 0 (fun _ => true) true Try.f5.params.toList args.toList ds p := hA0
  rw [Try.params5] at hA hval
  obtain ⟨v0, vs0, d0, ds0, p0, q0, hargs, rfl, rfl, h0, r0⟩ := trodAll_cons hA
  obtain ⟨rfl, rfl, rfl⟩ := trodAll_nil r0
  obtain rfl : args = #[v0] := by cases args; simp_all
  obtain ⟨rfl, rfl⟩ := trodVars_none hV
  obtain ⟨a0, c0, l0, rfl, n0, m0, s0⟩ := open_bytes Try.underlying22 Try.underlying5 (by kernel_rfl) (hval 0 22 v0 rfl rfl) h0
  clear hA0 hval0
  refine (FnWell_walk W a0 c0 l0 n0 m0 s0).mono fun e W' ⟨he, hb⟩ => ⟨_, he, ?_⟩
  exact law_post laidOut (by kernel_rfl) (by kernel_rfl) rfl Try.underlying4 hW' rfl rfl rfl hb

theorem FnWell_holds : Rows.FnWellSaid :=
  OpenClaim.holds_of_wide 5 Try.f5 rfl rfl rfl rfl rfl rfl rfl ⟨rfl, rfl, rfl, rfl, rfl⟩ rfl rfl rfl rfl rfl (by kernel_rfl) Try.func5 (by kernel_rfl)
    (of_decide_eq_true (by kernel_rfl)) (by unfold Func.isWrapper; first | (rw [if_pos (by decide +kernel)]; kernel_rfl) | (rw [if_neg (by decide +kernel)]; exact ⟨rfl, rfl⟩))
    (fun os started H enc _ => FnWell_lifted os started H enc)
end Go.Proofs.Ytdfoobemgdiobaa
