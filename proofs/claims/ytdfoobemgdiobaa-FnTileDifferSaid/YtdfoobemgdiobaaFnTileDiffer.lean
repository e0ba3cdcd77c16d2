/- FnTileDiffer: widths differ only where orbits do. No condition. -/
import Derived.Test.YtdfoobemgdiobaaTilH
import Derived.Test.YtdfoobemgdiobaaTilZ
import Derived.Test.YtdfoobemgdiobaaLawS
import Derived.Test.YtdfoobemgdiobaaLaw
import Derived.Deep.RegionWith
namespace Go.Proofs.Ytdfoobemgdiobaa
open Go.ChangeShapes Go.WideShapes Go.ChangeAt Go.RowKit
attribute [local go_sem] run_store_float run_store_complex

set_option maxRecDepth 100000 in
set_option maxHeartbeats 4000000 in
theorem FnTileDiffer_walk (w : World) (a : Option Addr) (c : Nat) (bs : List UInt8) (_ : bs.length ≤ maxLen) (hc : bs.length ≤ c) (hs : Sl w a (bs.map byteV)) :
    Calls Try.prog 9 #[.slice a bs.length c] w fun e w' => e = .returned (.bool true) ∧ Below w.heap.size w w' := by
  by_cases hb : 1048576 < bs.length
  · go_enter Try.func9, Try.ntmps9
    go_wp2
    go_ret
    exact ⟨rfl, Below.refl _ _⟩
  have H := Lib.hid (drawTileDiffer_any a c bs (by omega) hc w hs)
  clear hs
  go_enter Try.func9, Try.ntmps9
  go_wp2_with fail
  refine H.out.mono ?_
  rintro e w1 ⟨⟨a1, c1, a2, c2, cx, cy, deep, size, xs, ys, most, rfl, m0, m1, T⟩, hd⟩
  have R := (Box.new w1 #[.complex .f32 cx cy, .int .i64 deep, .int .i64 size, .slice a1 xs.length c1, .slice a2 ys.length c2] 35).up hd
  replace T := T.step ((Below.refl _ _).alloc (Nat.le_refl _) (.cells #[.complex .f32 cx cy, .int .i64 deep, .int .i64 size, .slice a1 xs.length c1, .slice a2 ys.length c2] 35))
  have hlim := T.lim
  obtain ⟨q1, q2, q3, q4, -, l1, l2, -⟩ := hlim
  obtain ⟨r0, r1, r2, r3, r4⟩ := R.cells5
  have hwb := R.lt
  clear H hd
  cases hw : wellB size xs.length ys with
  | false =>
    have HW := Lib.hid hw
    clear hw
    go_wp2_with fail
    refine (implTDiffer_bad cx cy deep size most T.bx T.by1 T.pl a1 a2 xs.length c1 c2 ys (by omega) _ T.s2 HW.out).mono ?_
    rintro e w2 ⟨rfl, hd⟩
    replace R := R.step hd
    replace T := T.step hd
    obtain ⟨r0, r1, r2, r3, r4⟩ := R.cells5
    clear hd
    go_wp2_with fail
    refine (specTDiffer_bad cx cy deep size most T.bx T.by1 T.pl a1 a2 xs.length c1 c2 ys (by omega) _ T.s2 HW.out).mono ?_
    rintro e w3 ⟨rfl, hd⟩
    replace R := R.step hd
    have HB := Lib.hid R.old
    clear hd R T
    go_wp2
    go_ret
    exact ⟨rfl, HB.out⟩
  | true =>
    have HW := Lib.hid hw
    clear hw
    go_wp2_with fail
    refine (implTDiffer_good cx cy deep size most T.bx T.by1 T.pl a1 a2 xs.length c1 c2 ys (by omega) _ T.s2 HW.out).mono ?_
    rintro e w2 ⟨rfl, hd⟩
    replace R := R.step hd
    replace T := T.step hd
    obtain ⟨r0, r1, r2, r3, r4⟩ := R.cells5
    clear hd
    go_wp2_with fail
    refine (specTDiffer_good cx cy deep size most T.bx T.by1 T.pl a1 a2 xs.length c1 c2 ys (by omega) _ T.s2 HW.out).mono ?_
    rintro e w3 ⟨rfl, hd⟩
    have HR := Lib.hid (R.step hd)
    have HT := Lib.hid (T.step hd)
    obtain ⟨s, rfl⟩ := Int.eq_ofNat_of_zero_le (show 0 ≤ size by omega)
    rw [Int.toNat_natCast]
    have HC : Hid (∀ k l : Nat, l < s → dcnt cx cy deep most s (k * s + (l + 1)) = dcnt cx cy deep most s (k * s + l) + if cellD cx cy deep most k l = true then 1 else 0) := fun k l hl => dcnt_step cx cy deep most hl
    have HM : Hid (∀ k l : Nat, k < s → l < s → dcnt cx cy deep most s (k * s + l) ≤ 64) := fun k l hk hl => by
      have h5 := dcnt_le cx cy deep most s (k * s + l)
      have h6 : (k + 1) * s ≤ 8 * 8 := Nat.mul_le_mul (by omega) (by omega)
      rw [Nat.succ_mul] at h6
      omega
    have hs8 : s ≤ 8 := by omega
    have HF : Hid (∀ k l : Nat, k < s → l < s → ∀ w, Calls Try.prog 36 #[.complex .f32 (ptC cx cy deep k l).1 (ptC cx cy deep k l).2, .int .i64 most] w fun e w' => e = .returned (.bool (cellD cx cy deep most k l)) ∧ Below w.heap.size w w') := fun k l hk hl w => by
      have hb := ptC_lt HT.out.bx HT.out.by1 HT.out.pl k l (by omega) (by omega)
      exact implDiffer_is _ _ most hb.1 hb.2 w
    clear T R hd
    obtain ⟨D, hD⟩ : ∃ D, dcnt cx cy deep most s (s * s) = D := ⟨_, rfl⟩
    have HDD := Lib.hid hD
    have hDs : (D : Int) ≤ (s : Int) * s := by
      have := dcnt_le cx cy deep most s (s * s)
      rw [hD] at this
      have h2 : ((s * s : Nat) : Int) = (s : Int) * s := by simp
      omega
    have hss : s * s ≤ 8 * 8 := Nat.mul_le_mul (by omega) (by omega)
    have hss2 : (s : Int) * s ≤ 64 := by
      have h2 : ((s * s : Nat) : Int) = (s : Int) * s := by simp
      omega
    rw [hD]
    have r2 := HR.out.cell 2 (.int .i64 s) rfl
    clear hD
    go_wp2
    go_loopw [9, 10] (fun t i wr => ∃ k : Nat, k ≤ s ∧ i = .int .i64 k ∧ t = .int .i64 (dcnt cx cy deep most s (k * s)) ∧ Hid (Below w3.heap.size w3 wr)) (fun _ i _ => (s - intOf i).toNat)
    case atStart => exact ⟨0, by omega, rfl, by rw [Nat.zero_mul, dcnt_zero]; rfl, Below.refl _ _⟩
    case round =>
      obtain ⟨k, hk, rfl, rfl, HD⟩ := hrel
      have b2 := (HR.out.step HD.out).cell 2 (.int .i64 s) rfl
      by_cases hks : k < s
      · go_wp2
        generalize hg : dcnt cx cy deep most s (k * s) = g0 at *
        have HG := Lib.hid hg
        clear hg
        go_loopw [9, 11] (fun t j wr => ∃ l : Nat, l ≤ s ∧ j = .int .i64 l ∧ t = .int .i64 (dcnt cx cy deep most s (k * s + l)) ∧ Hid (Below w3.heap.size w3 wr)) (fun _ j _ => (s - intOf j).toNat)
        case atStart => exact ⟨0, by omega, rfl, by rw [Nat.add_zero, HG.out], HD⟩
        case round =>
          clear HD b2
          obtain ⟨l, hl, rfl, rfl, HD⟩ := hrel
          have B := HR.out.step HD.out
          obtain ⟨b0, b1, b2, b3, b4⟩ := B.cells5
          by_cases hls : l < s
          · have T := HT.out.step HD.out
            have HPP := Lib.hid (implTPoint_good cx cy deep s T.bx T.by1 T.pl a1 a2 xs.length c1 c2 ys (by omega) k l (by omega) (by omega) (by omega) (by omega) _ T.s2 HW.out)
            have HFF := Lib.hid (HF.out k l hks hls)
            have HCC := Lib.hid (HC.out k l hls)
            have hm := HM.out k l hks hls
            clear T B
            generalize (ptC cx cy deep k l).1 = px at *
            generalize (ptC cx cy deep k l).2 = py at *
            generalize dcnt cx cy deep most s (k * s + l) = g at *
            go_wp2_with fail
            refine HPP.out.mono ?_
            rintro e w4 ⟨rfl, hd4⟩
            have HD4 := Lib.hid (HD.out.trans (hd4.mono HD.out.size))
            clear hd4
            go_wp2_with fail
            refine (HFF.out _).mono ?_
            rintro e w5 ⟨rfl, hd⟩
            have HD3 := Lib.hid (HD4.out.trans (hd.mono HD4.out.size))
            clear hd
            cases hcd : cellD cx cy deep most k l with
            | true =>
              have HQ : Hid (dcnt cx cy deep most s (k * s + (l + 1)) = g + 1) := by rw [HCC.out, if_pos hcd]; rfl
              clear hcd
              go_wp2
              go_roundw
              case rel => exact ⟨l + 1, by omega, by go_num, by rw [HQ.out]; go_num, HD3⟩
              case measure => simp [intOf]; omega
            | false =>
              have HQ : Hid (dcnt cx cy deep most s (k * s + (l + 1)) = g) := by rw [HCC.out, if_neg (by rw [hcd]; decide)]; rfl
              clear hcd
              go_wp2
              go_roundw
              case rel => exact ⟨l + 1, by omega, by go_num, by rw [HQ.out], HD3⟩
              case measure => simp [intOf]; omega
          · obtain rfl : l = s := by omega
            clear B
            go_wp2
            go_roundw
            case rel => exact ⟨k + 1, by omega, by go_num, by rw [Nat.succ_mul], HD⟩
            case measure => simp [intOf]; omega
      · obtain rfl : k = s := by omega
        have HB := Lib.hid (HR.out.step HD.out).old
        rw [HDD.out]
        go_wp2
        go_ret
        exact ⟨rfl, HB.out⟩
set_option maxRecDepth 100000 in
theorem FnTileDiffer_lifted (os : Os) (started : os.Started) (H : Type) (enc : TypeId × Value → H) :
    ReturnsInHanded {} Try.checked os 9 .any (Rows.fnTileDifferSpec.pre6 enc Try.prog Try.f9 Rows.fnTileDifferRow.domain false) (Rows.fnTileDifferSpec.post enc Try.prog Try.f9 false true false false) := by
  refine returnsInHanded_of_change (C := Try.checked) own started (by kernel_rfl) Try.func9
    (ChangeSpec.witness6 (enc := enc) (C := Try.checked) false ⟨#[], #[.slice none 0 0], []⟩ 8 (by kernel_rfl) (by kernel_rfl) (by kernel_rfl) (by kernel_rfl)) ?_
  intro W base args ds gs before hval0 hW _ _
  have hval : ∀ (j : Nat) t v, Try.f9.params[j]? = some t → args[j]? = some v → Value.okWide Try.prog W .any base t v := hval0
  have hW' := hW
  obtain ⟨p, q, hA0, hV, rfl, _, _⟩ := hW
  have hA : DataW.TrodAll enc Try.prog W 0 (fun _ => true) true Try.f9.params.toList args.toList ds p := hA0
  rw [Try.params9] at hA hval
  obtain ⟨v0, vs0, d0, ds0, p0, q0, hargs, rfl, rfl, h0, r0⟩ := trodAll_cons hA
  obtain ⟨rfl, rfl, rfl⟩ := trodAll_nil r0
  obtain rfl : args = #[v0] := by cases args; simp_all
  obtain ⟨rfl, rfl⟩ := trodVars_none hV
  obtain ⟨a0, c0, l0, rfl, n0, m0, s0⟩ := open_bytes Try.underlying22 Try.underlying5 (by kernel_rfl) (hval 0 22 v0 rfl rfl) h0
  clear hA0 hval0
  refine (FnTileDiffer_walk W a0 c0 l0 n0 m0 s0).mono fun e W' ⟨he, hb⟩ => ⟨_, he, ?_⟩
  exact law_post laidOut (by kernel_rfl) (by kernel_rfl) rfl Try.underlying4 hW' rfl rfl rfl hb

theorem FnTileDiffer_holds : Rows.FnTileDifferSaid :=
  OpenClaim.holds_of_wide 9 Try.f9 rfl rfl rfl rfl rfl rfl rfl ⟨rfl, rfl, rfl, rfl, rfl⟩ rfl rfl rfl rfl rfl (by kernel_rfl) Try.func9 (by kernel_rfl)
    (of_decide_eq_true (by kernel_rfl)) (by unfold Func.isWrapper; first | (rw [if_pos (by decide +kernel)]; kernel_rfl) | (rw [if_neg (by decide +kernel)]; exact ⟨rfl, rfl⟩))
    (fun os started H enc _ => FnTileDiffer_lifted os started H enc)
end Go.Proofs.Ytdfoobemgdiobaa
