/- FnDepth -/
import Derived.Test.YtalmhbcmagjheaaJ21
import Derived.Test.YtalmhbcmagjheaaJ22
import Derived.Test.YtalmhbcmagjheaaJ17
/- FnDepth: depths are lengths of paths. No condition. -/
namespace Go.Proofs.Ytalmhbcmagjheaa
open Go.ChangeShapes Go.WideShapes Go.ChangeAt Go.RowKit

set_option maxRecDepth 100000 in
set_option maxHeartbeats 4000000 in
theorem FnDepth_walk (w : World) (a : Option Addr) (c : Nat) (bs : List UInt8) (_ : bs.length ≤ maxLen) (hc : bs.length ≤ c) (hs : Sl w a (bs.map byteV)) :
    Calls Try.prog 3 #[.slice a bs.length c] w fun e w' => e = .returned (.bool true) ∧ Below w.heap.size w w' := by
  by_cases hb : 1048576 < bs.length
  · go_enter Try.func3, Try.ntmps3
    go_wp2
    go_ret
    exact ⟨rfl, Below.refl _ _⟩
  have H := Lib.hid (drawPlanDepth_any a c bs (by omega) hc w hs)
  clear hs
  go_enter Try.func3, Try.ntmps3
  go_wp2_with fail
  refine H.out.mono ?_
  rintro e w1 ⟨⟨gp, cp, g, cap, ss, ms, p, q, r, rfl, -, -, h1, h2, h3, h4, h5, h6, h7, h8, h9, s1, s2⟩, hd⟩
  clear H
  have X := (Box.new w1 #[.slice (some ⟨gp, 0, none⟩) ss.length cp, .slice (some ⟨g, 0, none⟩) ms.length cap, .int .i64 p, .int .i64 q, .int .i64 r] 26).up hd
  have S1 := s1.step ((Below.refl _ _).alloc (Nat.le_refl _) (.cells #[.slice (some ⟨gp, 0, none⟩) ss.length cp, .slice (some ⟨g, 0, none⟩) ms.length cap, .int .i64 p, .int .i64 q, .int .i64 r] 26))
  have HX := Lib.hid X
  have HS := Lib.hid S1
  have HZ := Lib.hid h9
  obtain ⟨x0, x1, x2, x3, x4⟩ := X.cells5
  have CI := Lib.hid (implPlanDepth_any (some ⟨gp, 0, none⟩) (some ⟨g, 0, none⟩) cp ms.length cap p q r ss (by omega) (fun s hs => by have := h9 s hs; omega) _ S1)
  clear hd X S1 s1 s2 h9
  obtain ⟨n, hn⟩ : ∃ n, ss.length = n := ⟨_, rfl⟩
  obtain ⟨ml, hml⟩ : ∃ ml, ms.length = ml := ⟨_, rfl⟩
  have HN := Lib.hid hn
  rw [hn] at x0 CI HX HS h1 h3 ⊢
  rw [hml] at x1 CI HX HS ⊢
  clear hn hml h2 h4 h5 h6 h7 h8
  go_wp2_with fail
  refine CI.out.mono ?_
  rintro e w2 ⟨rfl, hd2⟩
  have HX2 := Lib.hid (HX.out.step hd2)
  have HS2 := Lib.hid (HS.out.step hd2)
  have CS := specPlanDepth_any (some ⟨gp, 0, none⟩) (some ⟨g, 0, none⟩) cp ml cap p q r ss (by rw [HN.out]; omega) (fun s hs => by have := HZ.out s hs; omega) _ HS2.out
  rw [HN.out] at CS
  replace CS := Lib.hid CS
  clear hd2 HX HS CI x0 x1 x2 x3 x4
  generalize w1.heap.size = pb at *
  obtain ⟨x0, x1, x2, x3, x4⟩ := HX2.out.cells5
  cases hpd : planDepth ss ml with
  | none =>
    rw [hpd] at CS
    clear hpd
    go_wp2_with fail
    refine CS.out.mono ?_
    rintro e w3 ⟨rfl, hd3⟩
    have HB := Lib.hid (HX2.out.step hd3).old
    clear hd3
    go_wp2
    go_ret
    exact ⟨rfl, HB.out⟩
  | some d =>
    obtain ⟨-, -, hbd, s0, hs0, hsd⟩ := planDepth_bd hpd
    have HBD := Lib.hid hbd
    have HFND := Lib.hid (And.intro hs0 hsd)
    have hdb : d ≤ 100 := by have := HZ.out s0 hs0; omega
    rw [hpd] at CS
    clear hpd hbd hs0 hsd
    go_wp2_with fail
    refine CS.out.mono ?_
    rintro e w3 ⟨rfl, hd3⟩
    have HX3 := Lib.hid (HX2.out.step hd3)
    have HS3 := Lib.hid (HS2.out.step hd3)
    clear hd3 HX2 HS2 CS x0 x1 x2 x3 x4
    obtain ⟨x0, x1, x2, x3, x4⟩ := HX3.out.cells5
    go_wp2
    go_loopw [8, 9] (fun f i wr => ∃ (k : Nat) (fb : Bool), k ≤ n ∧ Hid (Below w3.heap.size w3 wr) ∧ i = .int .i64 k ∧ f = .bool fb ∧ Hid (fb = true ↔ ∃ j s, j < k ∧ ss[j]? = some s ∧ s.size = d)) (fun _ i _ => (n - intOf i).toNat)
    case atStart => exact ⟨0, false, by omega, Below.refl _ _, rfl, rfl, ⟨fun h => by (cases h), fun ⟨j, s, hj, _⟩ => by omega⟩⟩
    case round =>
      obtain ⟨k, fb, hk, HBW, rfl, rfl, HF⟩ := hrel
      clear x0 x1 x2 x3 x4
      obtain ⟨x0, x1, x2, x3, x4⟩ := (HX3.out.step HBW.out).cells5
      by_cases hlt : k < n
      · have hsk : ss[k]? = some (ss[k]'(by rw [HN.out]; exact hlt)) := List.getElem?_eq_getElem _
        generalize ss[k]'(by rw [HN.out]; exact hlt) = s at hsk
        obtain ⟨gb, go', hg, hcell⟩ := (HS3.out.step HBW.out).at (show (ss.map Value.string)[k]? = some (.string s) by rw [List.getElem?_map, hsk]; rfl)
        injection hg with hg
        injection hg with hg1 hg2
        subst hg1 hg2
        rw [Nat.zero_add] at hcell
        have hsz : s.size ≤ d := HBD.out s (List.mem_of_getElem? hsk)
        obtain ⟨sz, hsz'⟩ : ∃ sz, s.size = sz := ⟨_, rfl⟩
        have HSK := Lib.hid (And.intro hsk hsz')
        have hle : sz ≤ d := by omega
        have b5 : (k : Int) < n := by omega
        have b6 : (0 : Int) ≤ k := by omega
        have g1 : decide ((d : Int) < s.size) = false := decide_eq_false (by omega)
        have hle2 : s.size ≤ d := hsz
        have hle3 : ¬ (d : Int) < s.size := by omega
        clear hsk hsz hsz'
        cases fb with
        | true =>
          have HF2 : Hid ((true : Bool) = true ↔ ∃ j s, j < k + 1 ∧ ss[j]? = some s ∧ s.size = d) := ⟨fun _ => by
            obtain ⟨j, u, hj, h1, h2⟩ := HF.out.1 rfl
            exact ⟨j, u, by omega, h1, h2⟩, fun _ => rfl⟩
          clear hle
          go_wp2
          go_roundw
          case rel => exact ⟨k + 1, true, by omega, HBW, by go_num, rfl, HF2⟩
          case measure => simp [intOf]; omega
        | false =>
          by_cases heq : sz = d
          · have e1 : ((s.size : Int) == d) = true := by simp; have := HSK.out.2; omega
            have HF2 : Hid ((true : Bool) = true ↔ ∃ j s, j < k + 1 ∧ ss[j]? = some s ∧ s.size = d) := ⟨fun _ => ⟨k, s, by omega, HSK.out.1, by rw [HSK.out.2]; exact heq⟩, fun _ => rfl⟩
            clear hle heq
            go_wp2
            go_roundw
            case rel => exact ⟨k + 1, true, by omega, HBW, by go_num, rfl, HF2⟩
            case measure => simp [intOf]; omega
          · have e1 : ((s.size : Int) == d) = false := by simp; have := HSK.out.2; omega
            have HF2 : Hid ((false : Bool) = true ↔ ∃ j s, j < k + 1 ∧ ss[j]? = some s ∧ s.size = d) := ⟨fun h => by (cases h), fun ⟨j, u, hj, h1, h2⟩ => by
              by_cases hjk : j = k
              · subst hjk
                obtain rfl : u = s := Option.some.inj (h1.symm.trans HSK.out.1)
                exact absurd (HSK.out.2.symm.trans h2) heq
              · exact HF.out.2 ⟨j, u, by omega, h1, h2⟩⟩
            clear hle heq
            go_wp2
            go_roundw
            case rel => exact ⟨k + 1, false, by omega, HBW, by go_num, rfl, HF2⟩
            case measure => simp [intOf]; omega
      · obtain rfl : k = n := by omega
        have hfb : fb = true := HF.out.2 (by
          obtain ⟨j, hj⟩ := List.getElem?_of_mem HFND.out.1
          exact ⟨j, s0, by have := (List.getElem?_eq_some_iff.1 hj).1; rw [HN.out] at this; exact this, hj, HFND.out.2⟩)
        subst hfb
        have HB := Lib.hid (HX3.out.step HBW.out).old
        go_wp2
        go_ret
        exact ⟨rfl, HB.out⟩
set_option maxRecDepth 100000 in
theorem FnDepth_lifted (os : Os) (started : os.Started) (H : Type) (enc : TypeId × Value → H) :
    ReturnsInHanded {} Try.checked os 3 .any (Rows.fnDepthSpec.pre6 enc Try.prog Try.f3 Rows.fnDepthRow.domain false) (Rows.fnDepthSpec.post enc Try.prog Try.f3 false true false false) := by
  refine returnsInHanded_of_change (C := Try.checked) own started (by kernel_rfl) Try.func3
    (ChangeSpec.witness6 (enc := enc) (C := Try.checked) false ⟨#[], #[.slice none 0 0], []⟩ 8 (by kernel_rfl) (by kernel_rfl) (by kernel_rfl) (by kernel_rfl)) ?_
  intro W base args ds gs before hval0 hW _ _
  have hval : ∀ (j : Nat) t v, Try.f3.params[j]? = some t → args[j]? = some v → Value.okWide Try.prog W .any base t v := hval0
  have hW' := hW
  obtain ⟨p, q, hA0, hV, rfl, _, _⟩ := hW
  have hA : DataW.TrodAll enc Try.prog W 0 (fun _ => true) true Try.f3.params.toList args.toList ds p := hA0
  rw [Try.params3] at hA hval
  obtain ⟨v0, vs0, d0, ds0, p0, q0, hargs, rfl, rfl, h0, r0⟩ := trodAll_cons hA
  obtain ⟨rfl, rfl, rfl⟩ := trodAll_nil r0
  obtain rfl : args = #[v0] := by cases args; simp_all
  obtain ⟨rfl, rfl⟩ := trodVars_none hV
  obtain ⟨a0, c0, l0, rfl, n0, m0, s0⟩ := open_bytes Try.underlying22 Try.underlying5 (by kernel_rfl) (hval 0 22 v0 rfl rfl) h0
  clear hA0 hval0
  refine (FnDepth_walk W a0 c0 l0 n0 m0 s0).mono fun e W' ⟨he, hb⟩ => ⟨_, he, ?_⟩
  exact law_post laidOut (by kernel_rfl) (by kernel_rfl) rfl Try.underlying4 hW' rfl rfl rfl hb

theorem FnDepth_holds : Rows.FnDepthSaid :=
  OpenClaim.holds_of_wide 3 Try.f3 rfl rfl rfl rfl rfl rfl rfl ⟨rfl, rfl, rfl, rfl, rfl⟩ rfl rfl rfl rfl rfl (by kernel_rfl) Try.func3 (by kernel_rfl)
    (of_decide_eq_true (by kernel_rfl)) (by unfold Func.isWrapper; first | (rw [if_pos (by decide +kernel)]; kernel_rfl) | (rw [if_neg (by decide +kernel)]; exact ⟨rfl, rfl⟩))
    (fun os started H enc _ => FnDepth_lifted os started H enc)
end Go.Proofs.Ytalmhbcmagjheaa
