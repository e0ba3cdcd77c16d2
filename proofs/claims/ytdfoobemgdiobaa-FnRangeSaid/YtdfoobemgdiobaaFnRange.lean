/- FnRange: no smooth value is beyond the range. No condition. -/
import Derived.Test.YtdfoobemgdiobaaTilH
import Derived.Test.YtdfoobemgdiobaaTilU
import Derived.Test.YtdfoobemgdiobaaSame
import Derived.Test.YtdfoobemgdiobaaLaw
import Derived.Deep.RegionWith
namespace Go.Proofs.Ytdfoobemgdiobaa
open Go.ChangeShapes Go.WideShapes Go.ChangeAt Go.RowKit
attribute [local go_sem] run_store_float run_store_complex

theorem rg_in {xs : List Nat} {m : Nat} (hm : xs.length = m) (hx : ∀ x, x ∈ xs → x < 4294967296) (k : Nat) (h : k < m) :
    ∃ x : Nat, (xs.map floV)[k]? = some (.float .f32 x) ∧ (FloatKind.f32.format.order x (rgL xs).1 == some .lt) = false ∧ (FloatKind.f32.format.order x (rgL xs).2.1 == some .gt) = false := by
  subst hm
  refine ⟨xs[k], by rw [List.getElem?_map, List.getElem?_eq_getElem h]; rfl, ?_⟩
  cases hn : Flo.nan .f32 xs[k] with
  | true => rw [Flo.order_nan_left _ hn, Flo.order_nan_left _ hn]; exact ⟨rfl, rfl⟩
  | false => exact ((rgOK_all hx).all _ (List.getElem_mem h) hn).2
set_option maxRecDepth 100000 in
set_option maxHeartbeats 4000000 in
theorem FnRange_walk (w : World) (a : Option Addr) (c : Nat) (bs : List UInt8) (_ : bs.length ≤ maxLen) (hc : bs.length ≤ c) (hs : Sl w a (bs.map byteV)) :
    Calls Try.prog 7 #[.slice a bs.length c] w fun e w' => e = .returned (.bool true) ∧ Below w.heap.size w w' := by
  by_cases hb : 1048576 < bs.length
  · go_enter Try.func7, Try.ntmps7
    go_wp2
    go_ret
    exact ⟨rfl, Below.refl _ _⟩
  have H := Lib.hid (drawTileRange_any a c bs (by omega) hc w hs)
  clear hs
  go_enter Try.func7, Try.ntmps7
  go_wp2_with fail
  refine H.out.mono ?_
  rintro e w1 ⟨⟨a1, c1, a2, c2, cx, cy, deep, size, xs, ys, rfl, T⟩, hd⟩
  have R := (Box.new w1 #[.complex .f32 cx cy, .int .i64 deep, .int .i64 size, .slice a1 xs.length c1, .slice a2 ys.length c2] 35).up hd
  replace T := T.step ((Below.refl _ _).alloc (Nat.le_refl _) (.cells #[.complex .f32 cx cy, .int .i64 deep, .int .i64 size, .slice a1 xs.length c1, .slice a2 ys.length c2] 35))
  have hlim := T.lim
  obtain ⟨-, -, -, -, -, l1, l2, -⟩ := hlim
  obtain ⟨r0, r1, r2, r3, r4⟩ := R.cells5
  have hwb := R.lt
  clear H hd
  cases hw : wellB size xs.length ys with
  | false =>
    have HW := Lib.hid hw
    clear hw
    go_wp2_with fail
    refine (implRange_bad cx cy deep size T.bx T.by1 T.pl a1 a2 xs.length c1 c2 ys (by omega) _ T.s2 HW.out).mono ?_
    rintro e w2 ⟨rfl, hd⟩
    replace R := R.step hd
    replace T := T.step hd
    obtain ⟨r0, r1, r2, r3, r4⟩ := R.cells5
    clear hd
    go_wp2_with fail
    refine (specRange_bad cx cy deep size T.bx T.by1 T.pl a1 a2 xs.length c1 c2 ys (by omega) _ T.s2 HW.out).mono ?_
    rintro e w3 ⟨rfl, hd⟩
    replace R := R.step hd
    have HB := Lib.hid R.old
    have HI := Lib.hid (sameSmall_self 0 (by omega))
    clear hd R T
    go_wp2_with (go_at_call 29; refine (HI.out _).mono ?_; rintro e w4 ⟨rfl, hd⟩; replace HB := Lib.hid (HB.out.trans (hd.below _)); clear hd)
    go_ret
    exact ⟨rfl, HB.out⟩
  | true =>
    have HW := Lib.hid hw
    clear hw
    go_wp2_with fail
    refine (implRange_good cx cy deep size T.bx T.by1 T.pl a1 a2 c1 c2 xs ys (by omega) T.hx _ T.s1 T.s2 HW.out).mono ?_
    rintro e w2 ⟨rfl, hd⟩
    replace R := R.step hd
    replace T := T.step hd
    obtain ⟨r0, r1, r2, r3, r4⟩ := R.cells5
    clear hd
    go_wp2_with fail
    refine (specRange_good cx cy deep size T.bx T.by1 T.pl a1 a2 c1 c2 xs ys (by omega) T.hx _ T.s1 T.s2 HW.out).mono ?_
    rintro e w3 ⟨rfl, hd⟩
    have HR := Lib.hid (R.step hd)
    have HT := Lib.hid (T.step hd)
    have K := rgOK_all T.hx
    obtain ⟨m, hm⟩ : ∃ m, xs.length = m := ⟨_, rfl⟩
    have HN := Lib.hid (rg_in hm T.hx)
    have HI1 := Lib.hid (sameSmall_self (rgL xs).1 K.bl)
    have HI2 := Lib.hid (sameSmall_self (rgL xs).2.1 K.bh)
    have hle := K.le
    rw [hm] at HR l2
    clear T R hd hm K
    generalize (rgL xs).1 = low at *
    generalize (rgL xs).2.1 = high at *
    have HB := Lib.hid (Below.refl w3.heap.size w3)
    go_wp2_with (first
      | (go_at_call 29; (with_reducible refine (HI1.out _).mono ?_); rintro e w4 ⟨rfl, hd⟩; replace HB := Lib.hid (HB.out.trans (hd.below _)); clear hd)
      | (go_at_call 29; (with_reducible refine (HI2.out _).mono ?_); rintro e w5 ⟨rfl, hd⟩; replace HB := Lib.hid (HB.out.trans (hd.below _)); clear hd))
    have R5 := HR.out.step HB.out
    have b3 := R5.cell 3 (.slice a1 m c1) rfl
    have HS := Lib.hid ((HT.out.s1).step HB.out)
    have HD := Lib.hid R5.old
    clear R5 HB HR HT HI1 HI2
    go_loopw [10] (fun i wr => ∃ k : Nat, k ≤ m ∧ i = .int .i64 k ∧ wr = w5) (fun i _ => (m - intOf i).toNat)
    case atStart => exact ⟨0, by omega, rfl, rfl⟩
    case round =>
      obtain ⟨k, hk, rfl, rfl⟩ := hrel
      by_cases hlt : k < m
      · obtain ⟨x, hxk, t1, t2⟩ := HN.out k hlt
        obtain ⟨b, off, rfl, hc⟩ := HS.out.at hxk
        clear hxk
        go_wp2
        go_roundw
        case rel => exact ⟨k + 1, by omega, by go_num, by trivial⟩
        case measure => simp [intOf]; omega
      · go_wp2
        go_ret
        exact ⟨rfl, HD.out⟩
set_option maxRecDepth 100000 in
theorem FnRange_lifted (os : Os) (started : os.Started) (H : Type) (enc : TypeId × Value → H) :
    ReturnsInHanded {} Try.checked os 7 .any (Rows.fnRangeSpec.pre6 enc Try.prog Try.f7 Rows.fnRangeRow.domain false) (Rows.fnRangeSpec.post enc Try.prog Try.f7 false true false false) := by
  refine returnsInHanded_of_change (C := Try.checked) own started (by kernel_rfl) Try.func7
    (ChangeSpec.witness6 (enc := enc) (C := Try.checked) false ⟨#[], #[.slice none 0 0], []⟩ 8 (by kernel_rfl) (by kernel_rfl) (by kernel_rfl) (by kernel_rfl)) ?_
  intro W base args ds gs before hval0 hW _ _
  have hval : ∀ (j : Nat) t v, Try.f7.params[j]? = some t → args[j]? = some v → Value.okWide Try.prog W .any base t v := hval0
  have hW' := hW
  obtain ⟨p, q, hA0, hV, rfl, _, _⟩ := hW
  have hA : DataW.TrodAll enc Try.prog W 0 (fun _ => true) true Try.f7.params.toList args.toList ds p := hA0
  rw [Try.params7] at hA hval
  obtain ⟨v0, vs0, d0, ds0, p0, q0, hargs, rfl, rfl, h0, r0⟩ := trodAll_cons hA
  obtain ⟨rfl, rfl, rfl⟩ := trodAll_nil r0
  obtain rfl : args = #[v0] := by cases args; simp_all
  obtain ⟨rfl, rfl⟩ := trodVars_none hV
  obtain ⟨a0, c0, l0, rfl, n0, m0, s0⟩ := open_bytes Try.underlying22 Try.underlying5 (by kernel_rfl) (hval 0 22 v0 rfl rfl) h0
  clear hA0 hval0
  refine (FnRange_walk W a0 c0 l0 n0 m0 s0).mono fun e W' ⟨he, hb⟩ => ⟨_, he, ?_⟩
  exact law_post laidOut (by kernel_rfl) (by kernel_rfl) rfl Try.underlying4 hW' rfl rfl rfl hb

theorem FnRange_holds : Rows.FnRangeSaid :=
  OpenClaim.holds_of_wide 7 Try.f7 rfl rfl rfl rfl rfl rfl rfl ⟨rfl, rfl, rfl, rfl, rfl⟩ rfl rfl rfl rfl rfl (by kernel_rfl) Try.func7 (by kernel_rfl)
    (of_decide_eq_true (by kernel_rfl)) (by unfold Func.isWrapper; first | (rw [if_pos (by decide +kernel)]; kernel_rfl) | (rw [if_neg (by decide +kernel)]; exact ⟨rfl, rfl⟩))
    (fun os started H enc _ => FnRange_lifted os started H enc)
end Go.Proofs.Ytdfoobemgdiobaa
