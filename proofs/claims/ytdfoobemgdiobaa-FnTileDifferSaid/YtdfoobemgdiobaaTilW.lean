/- Walks: both programs' TileDiffer and TilePoint at a tile whose place is told. (printed by wip/gen_tilw.py) -/
import Derived.Test.YtdfoobemgdiobaaTilY
import Derived.Test.YtdfoobemgdiobaaTilG
import Derived.Test.YtdfoobemgdiobaaTilE
import Derived.Deep.Cut
namespace Go.Proofs.Ytdfoobemgdiobaa
open Go.RowKit Flo

/-- a part of the point of a cell -/
def ptF (c d : Nat) (j : Int) : Nat := (floatBits .add .f32 c ((floatBits .mul .f32 (floatOfInt .f32 j) (sideF d)).getD 0)).getD 0
theorem ptF_is {c d : Nat} {A : Int} (hd : d ≤ 11) (hc : Pt c d A) (hA : A.natAbs ≤ 65536) (j : Int) (hj : j.natAbs ≤ 65536) :
    ∃ p, floatBits .mul .f32 (floatOfInt .f32 j) (sideF d) = some p ∧ floatBits .add .f32 c p = some (ptF c d j) ∧ Pt (ptF c d j) d (A + j) := by
  obtain ⟨p, x, h1, h2, h3⟩ := point_pt hd hc hA j hj
  have e : ptF c d j = x := by unfold ptF; rw [h1]; simp only [Option.getD_some]; rw [h2]; rfl
  rw [e]
  exact ⟨p, h1, h2, h3⟩
theorem place_pts {cx cy : Nat} {deep size : Int} (hx : cx < 4294967296) (hy : cy < 4294967296) (hp : placeB cx cy deep size = true) : ∃ (d : Nat) (A B : Int), deep = d ∧ d ≤ 10 ∧ Pt cx d A ∧ Pt cy d B ∧ A.natAbs ≤ 4 * 2 ^ d ∧ B.natAbs ≤ 4 * 2 ^ d ∧ A.natAbs ≤ 4096 ∧ B.natAbs ≤ 4096 := by
  obtain ⟨h1, h2, h3, h4⟩ := placeB_bd hp
  obtain ⟨d, rfl⟩ := Int.eq_ofNat_of_zero_le h1
  unfold placeB at hp
  rw [Bool.and_eq_true, Bool.and_eq_true, Int.toNat_natCast] at hp
  obtain ⟨A, hA, ha⟩ := whole_pt hx (by omega) hp.1.2
  obtain ⟨B, hB, hb⟩ := whole_pt hy (by omega) hp.2
  have hdp : 2 ^ d ≤ 2 ^ 10 := Nat.pow_le_pow_right (by omega) (by omega)
  exact ⟨d, A, B, rfl, by omega, hA, hB, ha, hb, by omega, by omega⟩
def ptC (cx cy : Nat) (deep : Int) (i j : Int) : Nat × Nat := (ptF cx deep.toNat j, ptF cy deep.toNat i)
theorem ptC_lt {cx cy : Nat} {deep size : Int} (hx : cx < 4294967296) (hy : cy < 4294967296) (hp : placeB cx cy deep size = true) (i j : Int) (hi : i.natAbs ≤ 5000) (hj : j.natAbs ≤ 5000) : (ptC cx cy deep i j).1 < 4294967296 ∧ (ptC cx cy deep i j).2 < 4294967296 := by
  obtain ⟨d, A, B, rfl, hd, hA, hB, _, _, ha, hb⟩ := place_pts hx hy hp
  obtain ⟨p, _, _, h1⟩ := ptF_is (by omega) hA (by omega) j (by omega)
  obtain ⟨q, _, _, h2⟩ := ptF_is (by omega) hB (by omega) i (by omega)
  unfold ptC
  rw [Int.toNat_natCast]
  exact ⟨pt_lt h1, pt_lt h2⟩
theorem implPoint_is (cx cy : Nat) (deep size : Int) (hx : cx < 4294967296) (hy : cy < 4294967296) (hp : placeB cx cy deep size = true) (i j : Int) (hi : i.natAbs ≤ 5000) (hj : j.natAbs ≤ 5000) (w : World) :
    Calls Try.prog 54 #[.complex .f32 cx cy, .int .i64 deep, .int .i64 i, .int .i64 j] w fun e w' => e = .returned (.complex .f32 (ptC cx cy deep i j).1 (ptC cx cy deep i j).2) ∧ w = w' := by
  obtain ⟨d, A, B, rfl, hd, hA, hB, _, _, ha, hb⟩ := place_pts hx hy hp
  obtain ⟨p, e1, e2, h1⟩ := ptF_is (by omega) hA (by omega) j (by omega)
  obtain ⟨q, e3, e4, h2⟩ := ptF_is (by omega) hB (by omega) i (by omega)
  unfold ptC
  rw [Int.toNat_natCast]
  exact pointOf_is cx cy d i j (by omega) e1 e3 e2 e4 w
theorem specPoint_is (cx cy : Nat) (deep size : Int) (hx : cx < 4294967296) (hy : cy < 4294967296) (hp : placeB cx cy deep size = true) (i j : Int) (hi : i.natAbs ≤ 5000) (hj : j.natAbs ≤ 5000) (w : World) :
    Calls Try.prog 56 #[.complex .f32 cx cy, .int .i64 deep, .int .i64 i, .int .i64 j] w fun e w' => e = .returned (.complex .f32 (ptC cx cy deep i j).1 (ptC cx cy deep i j).2) ∧ w = w' := by
  obtain ⟨d, A, B, rfl, hd, hA, hB, _, _, ha, hb⟩ := place_pts hx hy hp
  obtain ⟨p, e1, e2, h1⟩ := ptF_is (by omega) hA (by omega) j (by omega)
  obtain ⟨q, e3, e4, h2⟩ := ptF_is (by omega) hB (by omega) i (by omega)
  unfold ptC
  rw [Int.toNat_natCast]
  exact l7Point_is cx cy d i j (by omega) e1 e3 e2 e4 w
/-- does the cell in row i and column j differ -/
def cellD (cx cy : Nat) (deep most : Int) (i j : Nat) : Bool := difB (ptC cx cy deep i j).1 (ptC cx cy deep i j).2 most
/-- how many of the first t cells differ -/
def dcnt (cx cy : Nat) (deep most : Int) (s t : Nat) : Nat := ((List.range t).filter (fun u => cellD cx cy deep most (u / s) (u % s))).length
theorem dcnt_zero (cx cy : Nat) (deep most : Int) (s : Nat) : dcnt cx cy deep most s 0 = 0 := rfl
theorem dcnt_le (cx cy : Nat) (deep most : Int) (s t : Nat) : dcnt cx cy deep most s t ≤ t := by
  unfold dcnt
  have := List.length_filter_le (fun u => cellD cx cy deep most (u / s) (u % s)) (List.range t)
  simpa using this
theorem dcnt_step {s k l : Nat} (cx cy : Nat) (deep most : Int) (hl : l < s) : dcnt cx cy deep most s (k * s + (l + 1)) = dcnt cx cy deep most s (k * s + l) + if cellD cx cy deep most k l = true then 1 else 0 := by
  unfold dcnt
  rw [← Nat.add_assoc, List.range_succ, List.filter_append, List.length_append]
  have e1 : (k * s + l) / s = k := by rw [Nat.mul_comm, Nat.mul_add_div (by omega), Nat.div_eq_of_lt hl, Nat.add_zero]
  have e2 : (k * s + l) % s = l := by rw [Nat.mul_comm, Nat.mul_add_mod, Nat.mod_eq_of_lt hl]
  congr 1
  by_cases h : cellD cx cy deep most k l = true
  · rw [List.filter_cons_of_pos (by rw [e1, e2]; exact h), if_pos h]; rfl
  · rw [List.filter_cons_of_neg (by rw [e1, e2]; exact h), if_neg h]; rfl
set_option maxRecDepth 100000 in
set_option maxHeartbeats 1000000 in
theorem implTDiffer_bad (cx cy : Nat) (deep size most : Int) (hx : cx < 4294967296) (hy : cy < 4294967296) (hp : placeB cx cy deep size = true) (a a' : Option Addr) (n c c' : Nat) (ys : List Int) (hl : ys.length ≤ 1048576) (w : World) (hs : Sl w a' (ys.map intV)) (hw : wellB size n ys = false) :
    Calls Try.prog 33 #[.agg #[.complex .f32 cx cy, .int .i64 deep, .int .i64 size, .slice a n c, .slice a' ys.length c'], .int .i64 most] w fun e w' => e = .returned (.tuple #[.int .i64 0, .bool false]) ∧ Below w.heap.size w w' := by
  have B := Box.new w #[.complex .f32 cx cy, .int .i64 deep, .int .i64 size, .slice a n c, .slice a' ys.length c'] 35
  have HW := Lib.hid (implWell_is cx cy deep size hx hy hp a a' n c c' ys hl _ (hs.alloc (.cells #[.complex .f32 cx cy, .int .i64 deep, .int .i64 size, .slice a n c, .slice a' ys.length c'] 35)))
  rw [hw] at HW
  clear hp hs hw
  go_enter Try.func33, Try.ntmps33
  go_wp2_with fail
  refine HW.out.mono ?_
  rintro e w1 ⟨rfl, hd⟩
  replace B := Lib.hid (B.step hd).old
  clear hd HW
  go_wp2
  go_ret2
  exact ⟨rfl, B.out⟩
set_option maxRecDepth 100000 in
set_option maxHeartbeats 4000000 in
theorem implTDiffer_good (cx cy : Nat) (deep size most : Int) (hx : cx < 4294967296) (hy : cy < 4294967296) (hp : placeB cx cy deep size = true) (a a' : Option Addr) (n c c' : Nat) (ys : List Int) (hl : ys.length ≤ 1048576) (w : World) (hs : Sl w a' (ys.map intV)) (hw : wellB size n ys = true) :
    Calls Try.prog 33 #[.agg #[.complex .f32 cx cy, .int .i64 deep, .int .i64 size, .slice a n c, .slice a' ys.length c'], .int .i64 most] w fun e w' => e = .returned (.tuple #[.int .i64 (dcnt cx cy deep most size.toNat (size.toNat * size.toNat)), .bool true]) ∧ Below w.heap.size w w' := by
  have B := Box.new w #[.complex .f32 cx cy, .int .i64 deep, .int .i64 size, .slice a n c, .slice a' ys.length c'] 35
  have HW := Lib.hid (implWell_is cx cy deep size hx hy hp a a' n c c' ys hl _ (hs.alloc (.cells #[.complex .f32 cx cy, .int .i64 deep, .int .i64 size, .slice a n c, .slice a' ys.length c'] 35)))
  rw [hw] at HW
  obtain ⟨h1, h2, h3, h4⟩ := placeB_bd hp
  obtain ⟨s, rfl⟩ := Int.eq_ofNat_of_zero_le (show 0 ≤ size by omega)
  rw [Int.toNat_natCast]
  have HP : Hid (∀ k l : Nat, k < s → l < s → ∀ w, Calls Try.prog 54 #[.complex .f32 cx cy, .int .i64 deep, .int .i64 k, .int .i64 l] w fun e w' => e = .returned (.complex .f32 (ptC cx cy deep k l).1 (ptC cx cy deep k l).2) ∧ w = w') := fun k l hk hl w => implPoint_is cx cy deep s hx hy hp k l (by omega) (by omega) w
  have HF : Hid (∀ k l : Nat, k < s → l < s → ∀ w, Calls Try.prog 36 #[.complex .f32 (ptC cx cy deep k l).1 (ptC cx cy deep k l).2, .int .i64 most] w fun e w' => e = .returned (.bool (cellD cx cy deep most k l)) ∧ Below w.heap.size w w') := fun k l hk hl w => by
    have hb := ptC_lt hx hy hp k l (by omega) (by omega)
    exact implDiffer_is _ _ most hb.1 hb.2 w
  have HC : Hid (∀ k l : Nat, l < s → dcnt cx cy deep most s (k * s + (l + 1)) = dcnt cx cy deep most s (k * s + l) + if cellD cx cy deep most k l = true then 1 else 0) := fun k l hl => dcnt_step cx cy deep most hl
  have HM : Hid (∀ k l : Nat, k < s → l < s → dcnt cx cy deep most s (k * s + l) ≤ 64) := fun k l hk hl => by
    have h5 := dcnt_le cx cy deep most s (k * s + l)
    have h6 : (k + 1) * s ≤ 8 * 8 := Nat.mul_le_mul (by omega) (by omega)
    rw [Nat.succ_mul] at h6
    omega
  have hs8 : s ≤ 8 := by omega
  clear hp hs hw h1 h2 h3 h4
  go_enter Try.func33, Try.ntmps33
  go_wp2_with fail
  refine HW.out.mono ?_
  rintro e w1 ⟨rfl, hd⟩
  replace B := B.step hd
  have HB := Lib.hid B
  have b2 := B.cell 2 (.int .i64 s) rfl
  clear hd HW B
  go_wp2
  go_loopw [6, 14] (fun t i wr => ∃ k : Nat, k ≤ s ∧ i = .int .i64 k ∧ t = .int .i64 (dcnt cx cy deep most s (k * s)) ∧ Hid (Below w1.heap.size w1 wr)) (fun _ i _ => (s - intOf i).toNat)
  case atStart => exact ⟨0, by omega, rfl, by rw [Nat.zero_mul, dcnt_zero]; rfl, Below.refl _ _⟩
  case round =>
    obtain ⟨k, hk, rfl, rfl, HD⟩ := hrel
    have b2 := (HB.out.step HD.out).cell 2 (.int .i64 s) rfl
    by_cases hks : k < s
    · go_wp2
      generalize hg : dcnt cx cy deep most s (k * s) = g0 at *
      have HG := Lib.hid hg
      clear hg
      go_loopw [6, 19] (fun t j wr => ∃ l : Nat, l ≤ s ∧ j = .int .i64 l ∧ t = .int .i64 (dcnt cx cy deep most s (k * s + l)) ∧ Hid (Below w1.heap.size w1 wr)) (fun _ j _ => (s - intOf j).toNat)
      case atStart => exact ⟨0, by omega, rfl, by rw [Nat.add_zero, HG.out], HD⟩
      case round =>
        clear HD b2
        obtain ⟨l, hl, rfl, rfl, HD⟩ := hrel
        have B := HB.out.step HD.out
        have b0 := B.cell 0 (.complex .f32 cx cy) rfl
        have b1 := B.cell 1 (.int .i64 deep) rfl
        have b2 := B.cell 2 (.int .i64 s) rfl
        clear B
        by_cases hls : l < s
        · have HPP := Lib.hid (HP.out k l hks hls)
          have HFF := Lib.hid (HF.out k l hks hls)
          have HCC := Lib.hid (HC.out k l hls)
          have hm := HM.out k l hks hls
          generalize (ptC cx cy deep k l).1 = px at *
          generalize (ptC cx cy deep k l).2 = py at *
          generalize dcnt cx cy deep most s (k * s + l) = g at *
          go_wp2_with fail
          refine (HPP.out _).mono ?_
          rintro e w2 ⟨rfl, rfl⟩
          go_wp2_with fail
          refine (HFF.out _).mono ?_
          rintro e w3 ⟨rfl, hd⟩
          have HD3 := Lib.hid (HD.out.trans (hd.mono HD.out.size))
          clear hd
          cases hcd : cellD cx cy deep most k l with
          | true =>
            have HQ : Hid (dcnt cx cy deep most s (k * s + (l + 1)) = g + 1) := by rw [HCC.out, if_pos hcd]; rfl
            clear hcd
            go_wp2
            go_roundw
            case rel => exact ⟨l + 1, by omega, by go_num, by rw [HQ.out]; go_num, HD3⟩
            case measure => simp [intOf]; omega
          | false =>
            have HQ : Hid (dcnt cx cy deep most s (k * s + (l + 1)) = g) := by rw [HCC.out, if_neg (by rw [hcd]; decide)]; rfl
            clear hcd
            go_wp2
            go_roundw
            case rel => exact ⟨l + 1, by omega, by go_num, by rw [HQ.out], HD3⟩
            case measure => simp [intOf]; omega
        · obtain rfl : l = s := by omega
          go_wp2
          go_roundw
          case rel => exact ⟨k + 1, by omega, by go_num, by rw [Nat.succ_mul], HD⟩
          case measure => simp [intOf]; omega
    · obtain rfl : k = s := by omega
      go_wp2
      go_ret2
      exact ⟨rfl, (HB.out.step HD.out).old⟩
set_option maxRecDepth 100000 in
set_option maxHeartbeats 1000000 in
theorem specTDiffer_bad (cx cy : Nat) (deep size most : Int) (hx : cx < 4294967296) (hy : cy < 4294967296) (hp : placeB cx cy deep size = true) (a a' : Option Addr) (n c c' : Nat) (ys : List Int) (hl : ys.length ≤ 1048576) (w : World) (hs : Sl w a' (ys.map intV)) (hw : wellB size n ys = false) :
    Calls Try.prog 34 #[.agg #[.complex .f32 cx cy, .int .i64 deep, .int .i64 size, .slice a n c, .slice a' ys.length c'], .int .i64 most] w fun e w' => e = .returned (.tuple #[.int .i64 0, .bool false]) ∧ Below w.heap.size w w' := by
  have B := Box.new w #[.complex .f32 cx cy, .int .i64 deep, .int .i64 size, .slice a n c, .slice a' ys.length c'] 35
  have HW := Lib.hid (specWell_is cx cy deep size hx hy hp a a' n c c' ys hl _ (hs.alloc (.cells #[.complex .f32 cx cy, .int .i64 deep, .int .i64 size, .slice a n c, .slice a' ys.length c'] 35)))
  rw [hw] at HW
  clear hp hs hw
  go_enter Try.func34, Try.ntmps34
  go_wp2_with fail
  refine HW.out.mono ?_
  rintro e w1 ⟨rfl, hd⟩
  replace B := Lib.hid (B.step hd).old
  clear hd HW
  go_wp2
  go_ret2
  exact ⟨rfl, B.out⟩
set_option maxRecDepth 100000 in
set_option maxHeartbeats 4000000 in
theorem specTDiffer_good (cx cy : Nat) (deep size most : Int) (hx : cx < 4294967296) (hy : cy < 4294967296) (hp : placeB cx cy deep size = true) (a a' : Option Addr) (n c c' : Nat) (ys : List Int) (hl : ys.length ≤ 1048576) (w : World) (hs : Sl w a' (ys.map intV)) (hw : wellB size n ys = true) :
    Calls Try.prog 34 #[.agg #[.complex .f32 cx cy, .int .i64 deep, .int .i64 size, .slice a n c, .slice a' ys.length c'], .int .i64 most] w fun e w' => e = .returned (.tuple #[.int .i64 (dcnt cx cy deep most size.toNat (size.toNat * size.toNat)), .bool true]) ∧ Below w.heap.size w w' := by
  have B := Box.new w #[.complex .f32 cx cy, .int .i64 deep, .int .i64 size, .slice a n c, .slice a' ys.length c'] 35
  have HW := Lib.hid (specWell_is cx cy deep size hx hy hp a a' n c c' ys hl _ (hs.alloc (.cells #[.complex .f32 cx cy, .int .i64 deep, .int .i64 size, .slice a n c, .slice a' ys.length c'] 35)))
  rw [hw] at HW
  obtain ⟨h1, h2, h3, h4⟩ := placeB_bd hp
  obtain ⟨s, rfl⟩ := Int.eq_ofNat_of_zero_le (show 0 ≤ size by omega)
  rw [Int.toNat_natCast]
  have HP : Hid (∀ k l : Nat, k < s → l < s → ∀ w, Calls Try.prog 56 #[.complex .f32 cx cy, .int .i64 deep, .int .i64 k, .int .i64 l] w fun e w' => e = .returned (.complex .f32 (ptC cx cy deep k l).1 (ptC cx cy deep k l).2) ∧ w = w') := fun k l hk hl w => specPoint_is cx cy deep s hx hy hp k l (by omega) (by omega) w
  have HF : Hid (∀ k l : Nat, k < s → l < s → ∀ w, Calls Try.prog 55 #[.complex .f32 (ptC cx cy deep k l).1 (ptC cx cy deep k l).2, .int .i64 most] w fun e w' => e = .returned (.bool (cellD cx cy deep most k l)) ∧ Below w.heap.size w w') := fun k l hk hl w => by
    have hb := ptC_lt hx hy hp k l (by omega) (by omega)
    exact (specDiffer_is _ _ most hb.1 hb.2 w).mono fun e w2 h => ⟨h.1, h.2.below _⟩
  have HC : Hid (∀ k l : Nat, l < s → dcnt cx cy deep most s (k * s + (l + 1)) = dcnt cx cy deep most s (k * s + l) + if cellD cx cy deep most k l = true then 1 else 0) := fun k l hl => dcnt_step cx cy deep most hl
  have HM : Hid (∀ k l : Nat, k < s → l < s → dcnt cx cy deep most s (k * s + l) ≤ 64) := fun k l hk hl => by
    have h5 := dcnt_le cx cy deep most s (k * s + l)
    have h6 : (k + 1) * s ≤ 8 * 8 := Nat.mul_le_mul (by omega) (by omega)
    rw [Nat.succ_mul] at h6
    omega
  have hs8 : s ≤ 8 := by omega
  clear hp hs hw h1 h2 h3 h4
  go_enter Try.func34, Try.ntmps34
  go_wp2_with fail
  refine HW.out.mono ?_
  rintro e w1 ⟨rfl, hd⟩
  replace B := B.step hd
  have HB := Lib.hid B
  have b2 := B.cell 2 (.int .i64 s) rfl
  clear hd HW B
  go_wp2
  go_loopw [6, 7] (fun t i wr => ∃ k : Nat, k ≤ s ∧ i = .int .i64 k ∧ t = .int .i64 (dcnt cx cy deep most s (k * s)) ∧ Hid (Below w1.heap.size w1 wr)) (fun _ i _ => (s - intOf i).toNat)
  case atStart => exact ⟨0, by omega, rfl, by rw [Nat.zero_mul, dcnt_zero]; rfl, Below.refl _ _⟩
  case round =>
    obtain ⟨k, hk, rfl, rfl, HD⟩ := hrel
    have b2 := (HB.out.step HD.out).cell 2 (.int .i64 s) rfl
    by_cases hks : k < s
    · go_wp2
      generalize hg : dcnt cx cy deep most s (k * s) = g0 at *
      have HG := Lib.hid hg
      clear hg
      go_loopw [6, 8] (fun t j wr => ∃ l : Nat, l ≤ s ∧ j = .int .i64 l ∧ t = .int .i64 (dcnt cx cy deep most s (k * s + l)) ∧ Hid (Below w1.heap.size w1 wr)) (fun _ j _ => (s - intOf j).toNat)
      case atStart => exact ⟨0, by omega, rfl, by rw [Nat.add_zero, HG.out], HD⟩
      case round =>
        clear HD b2
        obtain ⟨l, hl, rfl, rfl, HD⟩ := hrel
        have B := HB.out.step HD.out
        have b0 := B.cell 0 (.complex .f32 cx cy) rfl
        have b1 := B.cell 1 (.int .i64 deep) rfl
        have b2 := B.cell 2 (.int .i64 s) rfl
        clear B
        by_cases hls : l < s
        · have HPP := Lib.hid (HP.out k l hks hls)
          have HFF := Lib.hid (HF.out k l hks hls)
          have HCC := Lib.hid (HC.out k l hls)
          have hm := HM.out k l hks hls
          generalize (ptC cx cy deep k l).1 = px at *
          generalize (ptC cx cy deep k l).2 = py at *
          generalize dcnt cx cy deep most s (k * s + l) = g at *
          go_wp2_with fail
          refine (HPP.out _).mono ?_
          rintro e w2 ⟨rfl, rfl⟩
          go_wp2_with fail
          refine (HFF.out _).mono ?_
          rintro e w3 ⟨rfl, hd⟩
          have HD3 := Lib.hid (HD.out.trans (hd.mono HD.out.size))
          clear hd
          cases hcd : cellD cx cy deep most k l with
          | true =>
            have HQ : Hid (dcnt cx cy deep most s (k * s + (l + 1)) = g + 1) := by rw [HCC.out, if_pos hcd]; rfl
            clear hcd
            go_wp2
            go_roundw
            case rel => exact ⟨l + 1, by omega, by go_num, by rw [HQ.out]; go_num, HD3⟩
            case measure => simp [intOf]; omega
          | false =>
            have HQ : Hid (dcnt cx cy deep most s (k * s + (l + 1)) = g) := by rw [HCC.out, if_neg (by rw [hcd]; decide)]; rfl
            clear hcd
            go_wp2
            go_roundw
            case rel => exact ⟨l + 1, by omega, by go_num, by rw [HQ.out], HD3⟩
            case measure => simp [intOf]; omega
        · obtain rfl : l = s := by omega
          go_wp2
          go_roundw
          case rel => exact ⟨k + 1, by omega, by go_num, by rw [Nat.succ_mul], HD⟩
          case measure => simp [intOf]; omega
    · obtain rfl : k = s := by omega
      go_wp2
      go_ret2
      exact ⟨rfl, (HB.out.step HD.out).old⟩
end Go.Proofs.Ytdfoobemgdiobaa
