/- Walks: the program's and the reference's TileRange at a tile whose place is told. (printed by wip/gen_tilu.py) -/
import Derived.Test.YtdfoobemgdiobaaTilG
import Derived.Test.YtdfoobemgdiobaaTilQ
import Derived.Test.YtdfoobemgdiobaaFloS
namespace Go.Proofs.Ytdfoobemgdiobaa
open Go.RowKit

theorem rg_round {xs : List Nat} {m : Nat} (h1 : xs.length = m) (hx : ∀ x, x ∈ xs → x < 4294967296) (k : Nat) (h : k < m) :
    ∃ x : Nat, (xs.map floV)[k]? = some (.float .f32 x) ∧ x < 4294967296 ∧ rgL (xs.take (k + 1)) = rgStep (rgL (xs.take k)) x := by
  subst h1
  exact ⟨xs[k], by rw [List.getElem?_map, List.getElem?_eq_getElem h]; rfl, hx _ (List.getElem_mem _), rgL_take xs k h⟩
theorem rgStep_nan {s : Nat × Nat × Bool} {x : Nat} (h : Flo.nan .f32 x = true) : rgStep s x = s := by unfold rgStep; rw [if_pos h]
theorem rgStep_new {l h : Nat} {x : Nat} (hn : Flo.nan .f32 x = false) : rgStep (l, h, false) x = (x, x, true) := by unfold rgStep; rw [if_neg (by rw [hn]; decide)]; rfl
theorem rgStep_old {l h : Nat} {x : Nat} (hn : Flo.nan .f32 x = false) : rgStep (l, h, true) x = (if fLt x l then x else l, if fGt x h then x else h, true) := by
  unfold rgStep; rw [if_neg (by rw [hn]; decide)]; simp
/-- float64 of a float32: a NaN just where that is one -/
theorem widen_run (x : Nat) (hx : x < 4294967296) (w : World) : ∃ z w', (convert 44 72 (.float .f32 x)).run Try.prog w = .ok (.float .f64 z) w' ∧ Flo.nan .f64 z = Flo.nan .f32 x ∧ Drw w w' := by
  obtain ⟨u, hs'⟩ := Option.isSome_iff_exists.1 (show (Try.prog.underlying 44).isSome = true by kernel_rfl)
  obtain ⟨z, w', h, _, hd, ha⟩ := Flo.conv_al (P := Try.prog) .f32 .f64 x (by decide) (Flo.widen_ok hx) w
  refine ⟨z, w', ?_, ?_, hd⟩
  · cases u <;> simp [convert, run_underlying hs', run_underlying Try.underlying72, h]
  · rw [← ha.nan_eq]
    cases hn : Flo.nan .f32 x with
    | true => rw [Flo.toFloat_nan (by decide) hn]; exact Flo.nanW_nan .f64
    | false =>
      obtain ⟨y, hy, hyn⟩ := Flo.widen_any (by rw [Flo.pow32]; exact hx) hn
      rw [hy]; exact hyn
set_option maxHeartbeats 400000 in
theorem isNaN_is (z : Nat) (b : Bool) (hb : Flo.nan .f64 z = b) (w : World) : Calls Try.prog 51 #[.float .f64 z] w fun e w' => e = .returned (.bool b) ∧ w = w' := by
  cases b with
  | true =>
    have h : (FloatKind.f64.format.order z z != some .eq) = true := by rw [Flo.order_nan_left z hb]; rfl
    clear hb
    go_enter Try.func51, Try.ntmps51
    go_wp2
    go_ret
    exact ⟨rfl, rfl⟩
  | false =>
    have h : (FloatKind.f64.format.order z z != some .eq) = false := by rw [Flo.order_self hb]; rfl
    clear hb
    go_enter Try.func51, Try.ntmps51
    go_wp2
    go_ret
    exact ⟨rfl, rfl⟩
set_option maxRecDepth 100000 in
set_option maxHeartbeats 1000000 in
theorem specRange_bad (cx cy : Nat) (deep size : Int) (hx : cx < 4294967296) (hy : cy < 4294967296) (hp : placeB cx cy deep size = true) (a a' : Option Addr) (n c c' : Nat) (ys : List Int) (hl : ys.length ≤ 1048576) (w : World) (hs : Sl w a' (ys.map intV)) (hw : wellB size n ys = false) :
    Calls Try.prog 28 #[.agg #[.complex .f32 cx cy, .int .i64 deep, .int .i64 size, .slice a n c, .slice a' ys.length c']] w fun e w' => e = .returned (.tuple #[.float .f32 0, .float .f32 0, .bool false]) ∧ Below w.heap.size w w' := by
  have B := Box.new w #[.complex .f32 cx cy, .int .i64 deep, .int .i64 size, .slice a n c, .slice a' ys.length c'] 35
  have HW := Lib.hid (specWell_is cx cy deep size hx hy hp a a' n c c' ys hl _ (hs.alloc (.cells #[.complex .f32 cx cy, .int .i64 deep, .int .i64 size, .slice a n c, .slice a' ys.length c'] 35)))
  rw [hw] at HW
  clear hp hs hw
  go_enter Try.func28, Try.ntmps28
  go_wp2_with fail
  refine HW.out.mono ?_
  rintro e w1 ⟨rfl, hd⟩
  replace B := Lib.hid (B.step hd).old
  clear hd HW
  go_wp2
  go_ret3
  exact ⟨rfl, B.out⟩
set_option maxRecDepth 100000 in
set_option maxHeartbeats 4000000 in
theorem specRange_good (cx cy : Nat) (deep size : Int) (hx : cx < 4294967296) (hy : cy < 4294967296) (hp : placeB cx cy deep size = true) (a a' : Option Addr) (c c' : Nat) (xs : List Nat) (ys : List Int) (hl : ys.length ≤ 1048576) (hxx : ∀ x, x ∈ xs → x < 4294967296) (w : World) (hs : Sl w a (xs.map floV)) (hs' : Sl w a' (ys.map intV)) (hw : wellB size xs.length ys = true) :
    Calls Try.prog 28 #[.agg #[.complex .f32 cx cy, .int .i64 deep, .int .i64 size, .slice a xs.length c, .slice a' ys.length c']] w fun e w' => e = .returned (.tuple #[.float .f32 (rgL xs).1, .float .f32 (rgL xs).2.1, .bool true]) ∧ Below w.heap.size w w' := by
  obtain ⟨g1, g2, g3⟩ := wellB_all hw
  have B := Box.new w #[.complex .f32 cx cy, .int .i64 deep, .int .i64 size, .slice a xs.length c, .slice a' ys.length c'] 35
  have HW := Lib.hid (specWell_is cx cy deep size hx hy hp a a' xs.length c c' ys hl _ (hs'.alloc (.cells #[.complex .f32 cx cy, .int .i64 deep, .int .i64 size, .slice a xs.length c, .slice a' ys.length c'] 35)))
  rw [hw] at HW
  obtain ⟨m, hm⟩ : ∃ m, xs.length = m := ⟨_, rfl⟩
  have HT := Lib.hid (fun k => rg_round (k := k) hm hxx)
  have HE : Hid (rgL (xs.take m) = rgL xs) := by
    show _ = _
    rw [← hm, List.take_length]
  have H1 := Lib.hid hs
  have hm2 : ys.length = m := by omega
  rw [hm, hm2] at HW B
  rw [hm2] at hl
  rw [hm, hm2]
  clear hp hs hs' hw hxx hm hm2 g1 g2 g3
  go_enter Try.func28, Try.ntmps28
  go_wp2_with fail
  refine HW.out.mono ?_
  rintro e w1 ⟨rfl, hd⟩
  replace B := B.step hd
  have HB := Lib.hid B
  clear hd HW B
  go_wp2
  go_loopw [5, 6, 7, 8, 9] (fun l h t i _ wr => ∃ (k l0 h0 : Nat) (t0 : Bool), k ≤ m ∧ i = .int .i64 k ∧ l = .float .f32 l0 ∧ h = .float .f32 h0 ∧ t = .bool t0 ∧ Hid (rgL (xs.take k) = (l0, h0, t0)) ∧ Hid (Drw w1 wr)) (fun _ _ _ i _ _ => (m - intOf i).toNat)
  case atStart => exact ⟨0, 3212836864, 3212836864, false, by omega, rfl, rfl, rfl, rfl, rfl, Drw.refl _⟩
  case round =>
    obtain ⟨k, l0, h0, t0, hk, rfl, rfl, rfl, rfl, HS, HD⟩ := hrel
    have B := HB.out.step (HD.out.below _)
    have b3 := B.cell 3 (.slice a m c) rfl
    by_cases hlt : k < m
    · obtain ⟨x, hxk, x1, hN⟩ := HT.out k hlt
      obtain ⟨b, off, rfl, hc⟩ := (H1.out.step B.old).at hxk
      rw [HS.out] at hN
      have HN := Lib.hid hN
      clear hxk hN B
      cases hn : Flo.nan .f32 x with
      | true =>
        have HQ : Hid (rgL (xs.take (k + 1)) = (l0, h0, t0)) := by rw [HN.out, rgStep_nan hn]; rfl
        have e1 : (FloatKind.f32.format.order x x != some .eq) = true := by rw [Flo.order_nan_left x hn]; rfl
        clear hn
        go_wp2
        go_roundw
        case rel => exact ⟨k + 1, l0, h0, t0, by omega, by go_num, rfl, rfl, rfl, HQ, HD⟩
        case measure => simp [intOf]; omega
      | false =>
        have e1 : (FloatKind.f32.format.order x x != some .eq) = false := by rw [Flo.order_self hn]; rfl
        cases t0 with
        | false =>
          have HQ : Hid (rgL (xs.take (k + 1)) = (x, x, true)) := by rw [HN.out, rgStep_new hn]; rfl
          clear hn
          go_wp2
          go_roundw
          case rel => exact ⟨k + 1, x, x, true, by omega, by go_num, rfl, rfl, rfl, HQ, HD⟩
          case measure => simp [intOf]; omega
        | true =>
          cases hl1 : fLt x l0 with
          | true =>
            cases hl2 : fGt x h0 with
            | true =>
              have HQ : Hid (rgL (xs.take (k + 1)) = (x, x, true)) := by rw [HN.out, rgStep_old hn, hl1, hl2]; rfl
              unfold fLt at hl1
              unfold fGt at hl2
              clear hn
              go_wp2
              go_roundw
              case rel => exact ⟨k + 1, x, x, true, by omega, by go_num, rfl, rfl, rfl, HQ, HD⟩
              case measure => simp [intOf]; omega
            | false =>
              have HQ : Hid (rgL (xs.take (k + 1)) = (x, h0, true)) := by rw [HN.out, rgStep_old hn, hl1, hl2]; rfl
              unfold fLt at hl1
              unfold fGt at hl2
              clear hn
              go_wp2
              go_roundw
              case rel => exact ⟨k + 1, x, h0, true, by omega, by go_num, rfl, rfl, rfl, HQ, HD⟩
              case measure => simp [intOf]; omega
          | false =>
            cases hl2 : fGt x h0 with
            | true =>
              have HQ : Hid (rgL (xs.take (k + 1)) = (l0, x, true)) := by rw [HN.out, rgStep_old hn, hl1, hl2]; rfl
              unfold fLt at hl1
              unfold fGt at hl2
              clear hn
              go_wp2
              go_roundw
              case rel => exact ⟨k + 1, l0, x, true, by omega, by go_num, rfl, rfl, rfl, HQ, HD⟩
              case measure => simp [intOf]; omega
            | false =>
              have HQ : Hid (rgL (xs.take (k + 1)) = (l0, h0, true)) := by rw [HN.out, rgStep_old hn, hl1, hl2]; rfl
              unfold fLt at hl1
              unfold fGt at hl2
              clear hn
              go_wp2
              go_roundw
              case rel => exact ⟨k + 1, l0, h0, true, by omega, by go_num, rfl, rfl, rfl, HQ, HD⟩
              case measure => simp [intOf]; omega
    · have HF := Lib.hid B.old
      obtain rfl : k = m := by omega
      have HQ : Hid (rgL xs = (l0, h0, t0)) := by rw [← HE.out]; exact HS
      clear B
      go_wp2
      go_ret3
      exact ⟨by rw [HQ.out]; rfl, HF.out⟩
set_option maxRecDepth 100000 in
set_option maxHeartbeats 1000000 in
theorem implRange_bad (cx cy : Nat) (deep size : Int) (hx : cx < 4294967296) (hy : cy < 4294967296) (hp : placeB cx cy deep size = true) (a a' : Option Addr) (n c c' : Nat) (ys : List Int) (hl : ys.length ≤ 1048576) (w : World) (hs : Sl w a' (ys.map intV)) (hw : wellB size n ys = false) :
    Calls Try.prog 27 #[.agg #[.complex .f32 cx cy, .int .i64 deep, .int .i64 size, .slice a n c, .slice a' ys.length c']] w fun e w' => e = .returned (.tuple #[.float .f32 0, .float .f32 0, .bool false]) ∧ Below w.heap.size w w' := by
  have B := Box.new w #[.complex .f32 cx cy, .int .i64 deep, .int .i64 size, .slice a n c, .slice a' ys.length c'] 35
  have HW := Lib.hid (implWell_is cx cy deep size hx hy hp a a' n c c' ys hl _ (hs.alloc (.cells #[.complex .f32 cx cy, .int .i64 deep, .int .i64 size, .slice a n c, .slice a' ys.length c'] 35)))
  rw [hw] at HW
  clear hp hs hw
  go_enter Try.func27, Try.ntmps27
  go_wp2_with fail
  refine HW.out.mono ?_
  rintro e w1 ⟨rfl, hd⟩
  replace B := Lib.hid (B.step hd).old
  clear hd HW
  go_wp2
  go_ret3
  exact ⟨rfl, B.out⟩
set_option maxRecDepth 100000 in
set_option maxHeartbeats 4000000 in
theorem implRange_good (cx cy : Nat) (deep size : Int) (hx : cx < 4294967296) (hy : cy < 4294967296) (hp : placeB cx cy deep size = true) (a a' : Option Addr) (c c' : Nat) (xs : List Nat) (ys : List Int) (hl : ys.length ≤ 1048576) (hxx : ∀ x, x ∈ xs → x < 4294967296) (w : World) (hs : Sl w a (xs.map floV)) (hs' : Sl w a' (ys.map intV)) (hw : wellB size xs.length ys = true) :
    Calls Try.prog 27 #[.agg #[.complex .f32 cx cy, .int .i64 deep, .int .i64 size, .slice a xs.length c, .slice a' ys.length c']] w fun e w' => e = .returned (.tuple #[.float .f32 (rgL xs).1, .float .f32 (rgL xs).2.1, .bool true]) ∧ Below w.heap.size w w' := by
  obtain ⟨g1, g2, g3⟩ := wellB_all hw
  have B := Box.new w #[.complex .f32 cx cy, .int .i64 deep, .int .i64 size, .slice a xs.length c, .slice a' ys.length c'] 35
  have HW := Lib.hid (implWell_is cx cy deep size hx hy hp a a' xs.length c c' ys hl _ (hs'.alloc (.cells #[.complex .f32 cx cy, .int .i64 deep, .int .i64 size, .slice a xs.length c, .slice a' ys.length c'] 35)))
  rw [hw] at HW
  obtain ⟨m, hm⟩ : ∃ m, xs.length = m := ⟨_, rfl⟩
  have HT := Lib.hid (fun k => rg_round (k := k) hm hxx)
  have HE : Hid (rgL (xs.take m) = rgL xs) := by
    show _ = _
    rw [← hm, List.take_length]
  have H1 := Lib.hid hs
  have hm2 : ys.length = m := by omega
  rw [hm, hm2] at HW B
  rw [hm2] at hl
  rw [hm, hm2]
  clear hp hs hs' hw hxx hm hm2 g1 g2 g3
  go_enter Try.func27, Try.ntmps27
  go_wp2_with fail
  refine HW.out.mono ?_
  rintro e w1 ⟨rfl, hd⟩
  replace B := B.step hd
  have HB := Lib.hid B
  clear hd HW B
  have b3 := HB.out.cell 3 (.slice a m c) rfl
  go_wp2
  go_loopw [5, 6, 7, 9, 16] (fun l h t _ i wr => ∃ (k l0 h0 : Nat) (t0 : Bool), k ≤ m ∧ i = .int .i64 k ∧ l = .float .f32 l0 ∧ h = .float .f32 h0 ∧ t = .bool t0 ∧ Hid (rgL (xs.take k) = (l0, h0, t0)) ∧ Hid (Drw w1 wr)) (fun _ _ _ _ i _ => (m - intOf i).toNat)
  case atStart => exact ⟨0, 3212836864, 3212836864, false, by omega, rfl, rfl, rfl, rfl, rfl, Drw.refl _⟩
  case round =>
    obtain ⟨k, l0, h0, t0, hk, rfl, rfl, rfl, rfl, HS, HD⟩ := hrel
    have B := HB.out.step (HD.out.below _)
    have b3 := B.cell 3 (.slice a m c) rfl
    by_cases hlt : k < m
    · obtain ⟨x, hxk, x1, hN⟩ := HT.out k hlt
      obtain ⟨b, off, rfl, hc⟩ := (H1.out.step B.old).at hxk
      rw [HS.out] at hN
      have HN := Lib.hid hN
      clear hxk hN B
      obtain ⟨z, w5, hz, hzn, hd5⟩ := widen_run x x1 wr
      have HD5 := Lib.hid (HD.out.trans hd5)
      have HI := Lib.hid (isNaN_is z _ hzn)
      clear hd5 hzn
      cases hn : Flo.nan .f32 x with
      | true =>
        have HQ : Hid (rgL (xs.take (k + 1)) = (l0, h0, t0)) := by rw [HN.out, rgStep_nan hn]; rfl
        rw [hn] at HI
        clear hn
        go_wp2_with (go_at_call 51; refine (HI.out _).mono ?_; rintro e w6 ⟨rfl, rfl⟩)
        go_roundw
        case rel => exact ⟨k + 1, l0, h0, t0, by omega, by go_num, rfl, rfl, rfl, HQ, HD5⟩
        case measure => simp [intOf]; omega
      | false =>
        rw [hn] at HI
        cases t0 with
        | false =>
          have HQ : Hid (rgL (xs.take (k + 1)) = (x, x, true)) := by rw [HN.out, rgStep_new hn]; rfl
          clear hn
          go_wp2_with (go_at_call 51; refine (HI.out _).mono ?_; rintro e w6 ⟨rfl, rfl⟩)
          go_roundw
          case rel => exact ⟨k + 1, x, x, true, by omega, by go_num, rfl, rfl, rfl, HQ, HD5⟩
          case measure => simp [intOf]; omega
        | true =>
          cases hl1 : fLt x l0 with
          | true =>
            cases hl2 : fGt x h0 with
            | true =>
              have HQ : Hid (rgL (xs.take (k + 1)) = (x, x, true)) := by rw [HN.out, rgStep_old hn, hl1, hl2]; rfl
              unfold fLt at hl1
              unfold fGt at hl2
              clear hn
              go_wp2_with (go_at_call 51; refine (HI.out _).mono ?_; rintro e w6 ⟨rfl, rfl⟩)
              go_roundw
              case rel => exact ⟨k + 1, x, x, true, by omega, by go_num, rfl, rfl, rfl, HQ, HD5⟩
              case measure => simp [intOf]; omega
            | false =>
              have HQ : Hid (rgL (xs.take (k + 1)) = (x, h0, true)) := by rw [HN.out, rgStep_old hn, hl1, hl2]; rfl
              unfold fLt at hl1
              unfold fGt at hl2
              clear hn
              go_wp2_with (go_at_call 51; refine (HI.out _).mono ?_; rintro e w6 ⟨rfl, rfl⟩)
              go_roundw
              case rel => exact ⟨k + 1, x, h0, true, by omega, by go_num, rfl, rfl, rfl, HQ, HD5⟩
              case measure => simp [intOf]; omega
          | false =>
            cases hl2 : fGt x h0 with
            | true =>
              have HQ : Hid (rgL (xs.take (k + 1)) = (l0, x, true)) := by rw [HN.out, rgStep_old hn, hl1, hl2]; rfl
              unfold fLt at hl1
              unfold fGt at hl2
              clear hn
              go_wp2_with (go_at_call 51; refine (HI.out _).mono ?_; rintro e w6 ⟨rfl, rfl⟩)
              go_roundw
              case rel => exact ⟨k + 1, l0, x, true, by omega, by go_num, rfl, rfl, rfl, HQ, HD5⟩
              case measure => simp [intOf]; omega
            | false =>
              have HQ : Hid (rgL (xs.take (k + 1)) = (l0, h0, true)) := by rw [HN.out, rgStep_old hn, hl1, hl2]; rfl
              unfold fLt at hl1
              unfold fGt at hl2
              clear hn
              go_wp2_with (go_at_call 51; refine (HI.out _).mono ?_; rintro e w6 ⟨rfl, rfl⟩)
              go_roundw
              case rel => exact ⟨k + 1, l0, h0, true, by omega, by go_num, rfl, rfl, rfl, HQ, HD5⟩
              case measure => simp [intOf]; omega
    · have HF := Lib.hid B.old
      obtain rfl : k = m := by omega
      have HQ : Hid (rgL xs = (l0, h0, t0)) := by rw [← HE.out]; exact HS
      clear B
      go_wp2
      go_ret3
      exact ⟨by rw [HQ.out]; rfl, HF.out⟩
end Go.Proofs.Ytdfoobemgdiobaa
