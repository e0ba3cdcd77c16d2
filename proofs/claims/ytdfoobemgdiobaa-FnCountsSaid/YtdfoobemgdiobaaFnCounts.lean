/- FnCounts: marks are counted. No condition. -/
import Derived.Test.YtdfoobemgdiobaaTilH
import Derived.Test.YtdfoobemgdiobaaLawT
import Derived.Test.YtdfoobemgdiobaaLaw
import Derived.Deep.RegionWith
import Derived.Deep.AppendLies
namespace Go.Proofs.Ytdfoobemgdiobaa
open Go.ChangeShapes Go.WideShapes Go.ChangeAt Go.RowKit
attribute [local go_sem] run_store_float run_store_complex

theorem neg_round {ys : List Int} {m : Nat} (hm : ys.length = m) (hy : ∀ y, y ∈ ys → -1 ≤ y ∧ y ≤ 1) (k : Nat) (h : k < m) :
    ∃ y : Int, (ys.map intV)[k]? = some (.int .i64 y) ∧ -1 ≤ y ∧ y ≤ 1 ∧ (ys.take (k + 1)).map (fun y => -y) = (ys.take k).map (fun y => -y) ++ [-y] := by
  subst hm
  exact ⟨ys[k], by rw [List.getElem?_map, List.getElem?_eq_getElem h]; rfl, (hy _ (List.getElem_mem h)).1, (hy _ (List.getElem_mem h)).2, neg_take ys k h⟩
set_option maxRecDepth 100000 in
set_option maxHeartbeats 4000000 in
theorem FnCounts_walk (w : World) (a : Option Addr) (c : Nat) (bs : List UInt8) (_ : bs.length ≤ maxLen) (hc : bs.length ≤ c) (hs : Sl w a (bs.map byteV)) :
    Calls Try.prog 6 #[.slice a bs.length c] w fun e w' => e = .returned (.bool true) ∧ Below w.heap.size w w' := by
  by_cases hb : 1048576 < bs.length
  · go_enter Try.func6, Try.ntmps6
    go_wp2
    go_ret
    exact ⟨rfl, Below.refl _ _⟩
  have H := Lib.hid (drawTileCounts_any a c bs (by omega) hc w hs)
  clear hs
  go_enter Try.func6, Try.ntmps6
  go_wp2_with fail
  refine H.out.mono ?_
  rintro e w1 ⟨⟨a1, c1, a2, c2, cx, cy, deep, size, xs, ys, rfl, T⟩, hd⟩
  have R := (Box.new w1 #[.complex .f32 cx cy, .int .i64 deep, .int .i64 size, .slice a1 xs.length c1, .slice a2 ys.length c2] 35).up hd
  replace T := T.step ((Below.refl _ _).alloc (Nat.le_refl _) (.cells #[.complex .f32 cx cy, .int .i64 deep, .int .i64 size, .slice a1 xs.length c1, .slice a2 ys.length c2] 35))
  have hlim := T.lim
  obtain ⟨-, -, -, -, -, l1, l2, -⟩ := hlim
  obtain ⟨r0, r1, r2, r3, r4⟩ := R.cells5
  have hwb := R.lt
  clear H hd
  cases hw : wellB size xs.length ys with
  | false =>
    have HW := Lib.hid hw
    clear hw
    go_wp2_with fail
    refine (implCounts_bad cx cy deep size T.bx T.by1 T.pl a1 a2 xs.length c1 c2 ys (by omega) _ T.s2 HW.out).mono ?_
    rintro e w2 ⟨⟨ra, rfl⟩, hd⟩
    replace R := R.step hd
    replace T := T.step hd
    obtain ⟨r0, r1, r2, r3, r4⟩ := R.cells5
    clear hd
    go_wp2_with fail
    refine (specCounts_bad cx cy deep size T.bx T.by1 T.pl a1 a2 xs.length c1 c2 ys (by omega) _ T.s2 HW.out).mono ?_
    rintro e w3 ⟨⟨rb, rfl⟩, hd⟩
    replace R := R.step hd
    have HB := Lib.hid R.old
    have HI := Lib.hid (fun W => sameInts_same ra rb 0 0 [] (by simp) W (.inl rfl) (.inl rfl))
    clear hd R T
    go_wp2_with (go_at_call 25; refine (HI.out _).mono ?_; rintro e w4 ⟨rfl, hd⟩; replace HB := Lib.hid (HB.out.trans (hd.below _)); clear hd)
    go_ret
    exact ⟨rfl, HB.out⟩
  | true =>
    have HW := Lib.hid hw
    clear hw
    go_wp2_with fail
    refine (implCounts_good cx cy deep size T.bx T.by1 T.pl a1 a2 xs.length c1 c2 ys (by omega) _ T.s2 HW.out).mono ?_
    rintro e w2 ⟨b, rfl, hbb, hC⟩
    replace R := R.step hC.old
    replace T := T.step hC.old
    obtain ⟨r0, r1, r2, r3, r4⟩ := R.cells5
    obtain ⟨p, q, r, HX, p1, q1, r1'⟩ : ∃ p q r : Nat, Hid (cnt 1 ys = p ∧ cnt (-1) ys = q ∧ cnt 0 ys = r) ∧ p ≤ 64 ∧ q ≤ 64 ∧ r ≤ 64 := by
      refine ⟨cnt 1 ys, cnt (-1) ys, cnt 0 ys, ⟨rfl, rfl, rfl⟩, ?_, ?_, ?_⟩
      · have := cnt_le 1 ys; omega
      · have := cnt_le (-1) ys; omega
      · have := cnt_le 0 ys; omega
    have HQ : Hid (cntC ys ys.length = #[.int .i64 p, .int .i64 q, .int .i64 r]) := by
      show _ = _
      unfold cntC; rw [List.take_length, HX.out.1, HX.out.2.1, HX.out.2.2]
    rw [HQ.out] at hC
    have HT := Lib.hid T
    have HR := Lib.hid R
    have HC := Lib.hid hC
    clear T R hC
    go_wp2_with fail
    refine (specCounts_good cx cy deep size HT.out.bx HT.out.by1 HT.out.pl a1 a2 xs.length c1 c2 ys (by omega) _ HT.out.s2 HW.out).mono ?_
    rintro e w3 ⟨b', rfl, hbb', hC'⟩
    rw [HQ.out] at hC'
    have HT2 := Lib.hid (HT.out.step hC'.old)
    have HR2 := Lib.hid (HR.out.step hC'.old)
    have HC2 := Lib.hid (HC.out.step hC'.old)
    have HI : Hid (∀ W, Below w3.heap.size w3 W → Calls Try.prog 25 #[.slice (some ⟨b, 0, none⟩) 3 3, .slice (some ⟨b', 0, none⟩) 3 3] W fun e w' => e = .returned (.bool true) ∧ Drw W w') := fun W hW =>
      sameInts_same (some ⟨b, 0, none⟩) (some ⟨b', 0, none⟩) 3 3 [(p : Int), q, r] (by simp) W ((Sl.of_box HC2.out rfl).step hW) ((Sl.of_box hC' rfl).step hW)
    clear HT HR HC hC'
    go_wp2_with (go_at_call 25; refine (HI.out _ (Below.refl _ _)).mono ?_; rintro e w4 ⟨rfl, hd⟩; have HT := Lib.hid (HT2.out.step (hd.below _)); have HR := Lib.hid (HR2.out.step (hd.below _)); have HC := Lib.hid (HC2.out.step (hd.below _)); clear hd HT2 HR2 HC2 HI)
    obtain ⟨iI, hiI, hzI0, hzI1, hzI2⟩ := info_parts infoI
    obtain ⟨wo, rfl⟩ : ∃ wo, wo = w4 := ⟨_, rfl⟩
    obtain ⟨m, hm⟩ : ∃ m, ys.length = m := ⟨_, rfl⟩
    have HN := Lib.hid (neg_round hm (wellB_all HW.out).2.2)
    have HZ := Lib.hid hm
    have hm64 : m ≤ 64 := by omega
    have hm0 : 1 ≤ m := by have := HT.out.lim; omega
    rw [hm]
    have hbl0 : Below wo.heap.size wo (wo.alloc (.cells #[] 3)) := (Below.refl _ _).alloc (Nat.le_refl _) _
    have HB0 := Lib.hid hbl0
    have HO0 : Hid ((wo.alloc (.cells #[] 3)).ownsRow wo.heap.size 3 1 (.slice (some ⟨wo.heap.size, 0, none⟩) 0 0) 0 (((ys.take 0).map (fun y => -y)).map intV)) :=
      World.ownsRow_lit (e := 3) (size := 1) (base := wo.heap.size) wo #[] 0 (Nat.le_refl _) (by decide) rfl
    have HT4 : Hid (∀ W, Below wo.heap.size wo W → TileV w.heap.size a1 c1 a2 c2 cx cy deep size xs ys W) := fun W h => HT.out.step h
    have HR4 : Hid (∀ W, Below wo.heap.size wo W → Box w w1.heap.size #[.complex .f32 cx cy, .int .i64 deep, .int .i64 size, .slice a1 xs.length c1, .slice a2 m c2] 35 W) := fun W h => by
      have := HR.out.step h
      rwa [hm] at this
    obtain ⟨w9, HC9⟩ : ∃ w9, Hid (Box w9 b #[.int .i64 p, .int .i64 q, .int .i64 r] 3 wo) := ⟨_, HC⟩
    have HC4 : Hid (∀ W, Below wo.heap.size wo W → Box w9 b #[.int .i64 p, .int .i64 q, .int .i64 r] 3 W) := fun W h => HC9.out.step h
    clear hbl0 HT HR HC hm
    go_loopw [8, 9] (fun sl i wr => ∃ k g cap : Nat, k ≤ m ∧ i = .int .i64 k ∧ sl = .slice (some ⟨g, 0, none⟩) k cap ∧ Hid (Below wo.heap.size wo wr) ∧ Hid (wr.ownsRow wo.heap.size 3 1 (.slice (some ⟨g, 0, none⟩) k cap) k (((ys.take k).map (fun y => -y)).map intV))) (fun _ i _ => (m - intOf i).toNat)
    case atStart => exact ⟨0, wo.heap.size, 0, by omega, rfl, rfl, HB0.out, HO0.out⟩
    case round =>
      obtain ⟨k, g, cap, hk, rfl, rfl, HB, HO⟩ := hrel
      have R := HR4.out _ HB.out
      have r4 := R.cell 4 (.slice a2 m c2) rfl
      by_cases hlt : k < m
      · obtain ⟨y, hyk, y1, y2, hN⟩ := HN.out k hlt
        have HNN := Lib.hid hN
        obtain ⟨b2, o2, rfl, hc2⟩ := (HT4.out _ HB.out).s2.at hyk
        have hsz := HB.out.size
        clear hyk hN R
        go_wp2_with (at_builtin; refine wpList_append_lies _ rfl _ _ _ rfl wo.heap.size 3 iI _ 1 8 Try.underlying24 hiI hzI0 hzI1 hzI2 rfl (by omega) _ k _ rfl (HO.out.alloc _) ⟨wr.heap.size, 0, none⟩ 1 1 [intV (-y)] rfl rfl (World.news_of_block (cs := #[intV (-y)]) (t := 3) (fr := (0, 0)) (heap_alloc_new wr _)) (by simp [intV, Value.oneCell']) (by omega) (by unfold maxLen; omega) (by omega) (by simp; omega) (wr.heap.size + 1) (by simp) ?_; intro g8 c8 w8 hown hgrow _ _)
        have HB2 := Lib.hid ((HB.out.alloc hsz (.cells #[intV (-y)] 3)).grown hgrow (by simp; omega) (fun k hk => (HO.out.lt k hk).1))
        have HO2 := Lib.hid hown
        clear hown hgrow hc2 r4
        go_roundw
        case rel => exact ⟨k + 1, g8, c8, by omega, by go_num, rfl, HB2, by rw [HNN.out, map_intV]; exact HO2⟩
        case measure => simp [intOf]; omega
      · obtain rfl : k = m := by omega
        obtain ⟨r0, r1, r2, r3, r4'⟩ := R.cells5
        have hl : (ys.map (fun y => -y)).length = k := by rw [List.length_map]; exact HZ.out
        have HS : Hid (Sl wr (some ⟨g, 0, none⟩) ((ys.map (fun y => -y)).map intV)) := by
          have := sl_of_own HO.out
          rw [← HZ.out, List.take_length] at this
          exact this
        have HCC := implCounts_good cx cy deep size (HT4.out _ HB.out).bx (HT4.out _ HB.out).by1 (HT4.out _ HB.out).pl a1 (some ⟨g, 0, none⟩) xs.length c1 cap (ys.map (fun y => -y)) (by omega) wr HS.out (wellB_neg HW.out)
        have HQ2 : Hid (cntC (ys.map (fun y => -y)) k = #[.int .i64 q, .int .i64 p, .int .i64 r]) := by
          show _ = _
          unfold cntC
          rw [← hl, List.take_length, cnt_neg, cnt_neg, cnt_neg, HX.out.2.1]
          rw [show -(-1 : Int) = 1 from rfl, HX.out.1, show -(0 : Int) = 0 from rfl, HX.out.2.2]
        rw [hl, HQ2.out] at HCC
        replace HCC := Lib.hid HCC
        clear R hl
        go_wp2_with fail
        refine HCC.out.mono ?_
        rintro e w5 ⟨b5, rfl, hbb5, hC5⟩
        have C := (HC4.out _ HB.out).step hC5.old
        have k0 := C.cell 0 (.int .i64 p) rfl
        have k1 := C.cell 1 (.int .i64 q) rfl
        have k2 := C.cell 2 (.int .i64 r) rfl
        have j0 := hC5.cell 0 (.int .i64 q) rfl
        have j1 := hC5.cell 1 (.int .i64 p) rfl
        have j2 := hC5.cell 2 (.int .i64 r) rfl
        have HD := Lib.hid (((HR4.out _ HB.out).step hC5.old).old)
        clear C hC5 HCC
        go_upto_region 14 with fail
        go_quiet (fail)
        go_wp2
        go_ret
        exact ⟨rfl, below_drewN HD.out _⟩
set_option maxRecDepth 100000 in
theorem FnCounts_lifted (os : Os) (started : os.Started) (H : Type) (enc : TypeId × Value → H) :
    ReturnsInHanded {} Try.checked os 6 .any (Rows.fnCountsSpec.pre6 enc Try.prog Try.f6 Rows.fnCountsRow.domain false) (Rows.fnCountsSpec.post enc Try.prog Try.f6 false true false false) := by
  refine returnsInHanded_of_change (C := Try.checked) own started (by kernel_rfl) Try.func6
    (ChangeSpec.witness6 (enc := enc) (C := Try.checked) false ⟨#[], #[.slice none 0 0], []⟩ 8 (by kernel_rfl) (by kernel_rfl) (by kernel_rfl) (by kernel_rfl)) ?_
  intro W base args ds gs before hval0 hW _ _
  have hval : ∀ (j : Nat) t v, Try.f6.params[j]? = some t → args[j]? = some v → Value.okWide Try.prog W .any base t v := hval0
  have hW' := hW
  obtain ⟨p, q, hA0, hV, rfl, _, _⟩ := hW
  have hA : DataW.TrodAll enc Try.prog W 0 (fun _ => true) true Try.f6.params.toList args.toList ds p := hA0
  rw [Try.params6] at hA hval
  obtain ⟨v0, vs0, d0, ds0, p0, q0, hargs, rfl, rfl, h0, r0⟩ := trodAll_cons hA
  obtain ⟨rfl, rfl, rfl⟩ := trodAll_nil r0
  obtain rfl : args = #[v0] := by cases args; simp_all
  obtain ⟨rfl, rfl⟩ := trodVars_none hV
  obtain ⟨a0, c0, l0, rfl, n0, m0, s0⟩ := open_bytes Try.underlying22 Try.underlying5 (by kernel_rfl) (hval 0 22 v0 rfl rfl) h0
  clear hA0 hval0
  refine (FnCounts_walk W a0 c0 l0 n0 m0 s0).mono fun e W' ⟨he, hb⟩ => ⟨_, he, ?_⟩
  exact law_post laidOut (by kernel_rfl) (by kernel_rfl) rfl Try.underlying4 hW' rfl rfl rfl hb

theorem FnCounts_holds : Rows.FnCountsSaid :=
  OpenClaim.holds_of_wide 6 Try.f6 rfl rfl rfl rfl rfl rfl rfl ⟨rfl, rfl, rfl, rfl, rfl⟩ rfl rfl rfl rfl rfl (by kernel_rfl) Try.func6 (by kernel_rfl)
    (of_decide_eq_true (by kernel_rfl)) (by unfold Func.isWrapper; first | (rw [if_pos (by decide +kernel)]; kernel_rfl) | (rw [if_neg (by decide +kernel)]; exact ⟨rfl, rfl⟩))
    (fun os started H enc _ => FnCounts_lifted os started H enc)
end Go.Proofs.Ytdfoobemgdiobaa
