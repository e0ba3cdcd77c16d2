/- Merged texts: TilG, PtW, TilW, SplA, SplB. -/
import Derived.Test.YtalmhbcmagjheaaJ10
import Derived.Test.YtalmhbcmagjheaaJ6
import Derived.Test.YtalmhbcmagjheaaJ4
import Derived.Deep.Cut
import Derived.Deep.DrawnRows
import Derived.Test.YtalmhbcmagjheaaJ7
import Derived.Deep.RegionWith
import Derived.Deep.RegionLaw
import Derived.Deep.AppendLies
import Derived.Deep.CutRange
section
/- Walks: the program's and the reference's TileWell at a tile whose place is told. -/
namespace Go.Proofs.Ytalmhbcmagjheaa
open Go.RowKit

/-- is a mark one of a tile -/
def markB (y : Int) : Bool := inB y (-1) 1
/-- is a tile with a good place well made -/
def wellB (size : Int) (n : Nat) (ys : List Int) : Bool := decide ((n : Int) = size * size) && decide (ys.length = n) && ys.all markB
theorem wellB_len {size : Int} {n : Nat} {ys : List Int} (h : ¬ (n : Int) = size * size) : wellB size n ys = false := by unfold wellB; rw [decide_eq_false h]; rfl
theorem wellB_len2 {size : Int} {n : Nat} {ys : List Int} (h : ¬ ys.length = n) : wellB size n ys = false := by unfold wellB; rw [decide_eq_false h]; simp
theorem wellB_bad {size : Int} {n k : Nat} {ys : List Int} (hk : k < ys.length) (h : markB ys[k] = false) : wellB size n ys = false := by
  unfold wellB
  have : ys.all markB = false := by
    rw [List.all_eq_false]
    exact ⟨_, List.getElem_mem hk, by rw [h]; decide⟩
  rw [this, Bool.and_false]
theorem wellB_ok {size : Int} {n : Nat} {ys : List Int} (h1 : (n : Int) = size * size) (h2 : ys.length = n) (h : ∀ j (hj : j < ys.length), markB ys[j] = true) : wellB size n ys = true := by
  unfold wellB
  rw [decide_eq_true h1, decide_eq_true h2, Bool.true_and, Bool.true_and, List.all_eq_true]
  intro y hy
  obtain ⟨j, hj, rfl⟩ := List.getElem_of_mem hy
  exact h j hj
theorem wellB_all {size : Int} {n : Nat} {ys : List Int} (h : wellB size n ys = true) : (n : Int) = size * size ∧ ys.length = n ∧ ∀ y, y ∈ ys → -1 ≤ y ∧ y ≤ 1 := by
  unfold wellB markB inB at h
  simp only [Bool.and_eq_true, decide_eq_true_eq, List.all_eq_true] at h
  exact ⟨h.1.1, h.1.2, h.2⟩
set_option maxRecDepth 100000 in
set_option maxHeartbeats 1000000 in
theorem specWell_is (cx cy : Nat) (deep size : Int) (hx : cx < 4294967296) (hy : cy < 4294967296) (hp : placeB cx cy deep size = true) (a a' : Option Addr) (n c c' : Nat) (ys : List Int) (hl : ys.length ≤ 1048576) (w : World) (hs : Sl w a' (ys.map intV)) :
    Calls Try.prog 30 #[.agg #[.complex .f32 cx cy, .int .i64 deep, .int .i64 size, .slice a n c, .slice a' ys.length c']] w fun e w' => e = .returned (.bool (wellB size n ys)) ∧ Below w.heap.size w w' := by
  obtain ⟨h1, h2, h3, h4⟩ := placeB_bd hp
  have hP := l7Place_is cx cy deep size hx hy
  rw [hp] at hP
  have HP := Lib.hid hP
  have B := Box.new w #[.complex .f32 cx cy, .int .i64 deep, .int .i64 size, .slice a n c, .slice a' ys.length c'] 37
  have HS := Lib.hid (hs.alloc (.cells #[.complex .f32 cx cy, .int .i64 deep, .int .i64 size, .slice a n c, .slice a' ys.length c'] 37))
  obtain ⟨m, hm⟩ : ∃ m, ys.length = m := ⟨_, rfl⟩
  obtain ⟨q, hq⟩ : ∃ q, size * size = q := ⟨_, rfl⟩
  have hqw : wrap64 (size * size) = q := by
    have h5 : size = 1 ∨ size = 2 ∨ size = 3 ∨ size = 4 ∨ size = 5 ∨ size = 6 ∨ size = 7 ∨ size = 8 := by omega
    have h6 : 0 ≤ q ∧ q ≤ 64 := by
      rcases h5 with rfl | rfl | rfl | rfl | rfl | rfl | rfl | rfl <;> omega
    rw [hq]; unfold wrap64; omega
  have HW1 : Hid (¬ (n : Int) = q → wellB size n ys = false) := fun h => wellB_len (by rw [hq]; exact h)
  have HW2 : Hid (¬ m = n → wellB size n ys = false) := fun h => wellB_len2 (by rw [hm]; exact h)
  have HW3 : Hid (∀ k (h : k < m), markB (ys[k]'(by rw [hm]; exact h)) = false → wellB size n ys = false) := fun k h => wellB_bad (by rw [hm]; exact h)
  have HW4 : Hid ((n : Int) = q → m = n → (∀ k (h : k < m), markB (ys[k]'(by rw [hm]; exact h)) = true) → wellB size n ys = true) := fun h1 h2 h3 => wellB_ok (by rw [hq]; exact h1) (by rw [hm]; exact h2) (fun j hj => h3 j (by rw [← hm]; exact hj))
  have HY : Hid (∀ k (h : k < m), (ys.map intV)[k]? = some (.int .i64 (ys[k]'(by rw [hm]; exact h)))) := fun k h => by rw [List.getElem?_map, List.getElem?_eq_getElem (by rw [hm]; exact h)]; rfl
  rw [hm] at B HS hl ⊢
  have HM := Lib.hid hm
  clear hP hp hs hq h1 h2 h3 h4
  generalize wellB size n ys = R at *
  go_enter Try.func30, Try.ntmps30
  go_wp2_with fail
  refine (HP.out _).mono ?_
  rintro e w1 ⟨rfl, hd⟩
  replace B := B.step (hd.below _)
  have HS1 := Lib.hid (HS.out.drw hd)
  clear hd HS HP
  have b2 := B.cell 2 _ rfl
  have b3 := B.cell 3 _ rfl
  have b4 := B.cell 4 _ rfl
  have HB := Lib.hid B.old
  clear B
  by_cases c1 : (n : Int) = q
  · have t1 : ((n : Int) != q) = false := by simpa using c1
    by_cases c2 : m = n
    · have t2 : ((m : Int) != n) = false := by simp; omega
      have HR := Lib.hid (HW4.out c1 c2)
      clear c1 c2 HW1 HW2 HW4
      go_wp2
      simp only [hqw]
      clear hqw
      go_loopw [2, 3] (fun _ i wr => ∃ k : Nat, k ≤ m ∧ i = .int .i64 k ∧ wr = w1 ∧ Hid (∀ j (h : j < m), j < k → markB (ys[j]'(by rw [HM.out]; exact h)) = true)) (fun _ i _ => (m - intOf i).toNat)
      case atStart => exact ⟨0, by omega, rfl, rfl, fun j _ hj => by omega⟩
      case round =>
        obtain ⟨k, hk, rfl, rfl, HD⟩ := hrel
        by_cases hlt : k < m
        · have hx := HY.out k hlt
          obtain ⟨b, off, rfl, hc⟩ := HS1.out.at hx
          have HD2 : Hid (markB (ys[k]'(by rw [HM.out]; exact hlt)) = true → ∀ j (h : j < m), j < k + 1 → markB (ys[j]'(by rw [HM.out]; exact h)) = true) := fun hyes j h hj => by
            by_cases e : j = k
            · subst e; exact hyes
            · exact HD.out j h (by omega)
          have HN := Lib.hid (HW3.out k hlt)
          clear hx
          generalize ys[k]'(by rw [HM.out]; exact hlt) = y at *
          cases hok : markB y with
          | false =>
            have HK := Lib.hid hok
            unfold markB at hok
            go_wp2_with (go_at_call 43; refine (l6In_any _ _ _ _).mono ?_; rw [hok]; rintro e w' ⟨rfl, rfl⟩)
            go_ret
            exact ⟨ret_bool (HN.out HK.out).symm, HB.out⟩
          | true =>
            have HK := Lib.hid hok
            unfold markB at hok
            go_wp2_with (go_at_call 43; refine (l6In_any _ _ _ _).mono ?_; rw [hok]; rintro e w' ⟨rfl, rfl⟩)
            go_roundw
            case rel => exact ⟨k + 1, by omega, by go_num, by trivial, HD2.out HK.out⟩
            case measure => simp [intOf]; omega
        · go_wp2
          go_ret
          exact ⟨ret_bool (HR.out (fun j h => HD.out j h (by omega))).symm, HB.out⟩
    · have t2 : ((m : Int) != n) = true := by simp; omega
      have HR := Lib.hid (HW2.out c2)
      clear c1 c2
      go_wp2
      go_ret
      exact ⟨ret_bool HR.out.symm, HB.out⟩
  · have t1 : ((n : Int) != q) = true := by simpa using c1
    have HR := Lib.hid (HW1.out c1)
    clear c1
    go_wp2
    go_ret
    exact ⟨ret_bool HR.out.symm, HB.out⟩
set_option maxRecDepth 100000 in
set_option maxHeartbeats 1000000 in
theorem implWell_is (cx cy : Nat) (deep size : Int) (hx : cx < 4294967296) (hy : cy < 4294967296) (hp : placeB cx cy deep size = true) (a a' : Option Addr) (n c c' : Nat) (ys : List Int) (hl : ys.length ≤ 1048576) (w : World) (hs : Sl w a' (ys.map intV)) :
    Calls Try.prog 19 #[.agg #[.complex .f32 cx cy, .int .i64 deep, .int .i64 size, .slice a n c, .slice a' ys.length c']] w fun e w' => e = .returned (.bool (wellB size n ys)) ∧ Below w.heap.size w w' := by
  obtain ⟨h1, h2, h3, h4⟩ := placeB_bd hp
  have hP := placeWell_ok cx cy deep size hx hy
  replace hP := hP hp
  have HP := Lib.hid hP
  have B := Box.new w #[.complex .f32 cx cy, .int .i64 deep, .int .i64 size, .slice a n c, .slice a' ys.length c'] 37
  have HS := Lib.hid (hs.alloc (.cells #[.complex .f32 cx cy, .int .i64 deep, .int .i64 size, .slice a n c, .slice a' ys.length c'] 37))
  obtain ⟨m, hm⟩ : ∃ m, ys.length = m := ⟨_, rfl⟩
  obtain ⟨q, hq⟩ : ∃ q, size * size = q := ⟨_, rfl⟩
  have hqw : wrap64 (size * size) = q := by
    have h5 : size = 1 ∨ size = 2 ∨ size = 3 ∨ size = 4 ∨ size = 5 ∨ size = 6 ∨ size = 7 ∨ size = 8 := by omega
    have h6 : 0 ≤ q ∧ q ≤ 64 := by
      rcases h5 with rfl | rfl | rfl | rfl | rfl | rfl | rfl | rfl <;> omega
    rw [hq]; unfold wrap64; omega
  have HW1 : Hid (¬ (n : Int) = q → wellB size n ys = false) := fun h => wellB_len (by rw [hq]; exact h)
  have HW2 : Hid (¬ m = n → wellB size n ys = false) := fun h => wellB_len2 (by rw [hm]; exact h)
  have HW3 : Hid (∀ k (h : k < m), markB (ys[k]'(by rw [hm]; exact h)) = false → wellB size n ys = false) := fun k h => wellB_bad (by rw [hm]; exact h)
  have HW4 : Hid ((n : Int) = q → m = n → (∀ k (h : k < m), markB (ys[k]'(by rw [hm]; exact h)) = true) → wellB size n ys = true) := fun h1 h2 h3 => wellB_ok (by rw [hq]; exact h1) (by rw [hm]; exact h2) (fun j hj => h3 j (by rw [← hm]; exact hj))
  have HY : Hid (∀ k (h : k < m), (ys.map intV)[k]? = some (.int .i64 (ys[k]'(by rw [hm]; exact h)))) := fun k h => by rw [List.getElem?_map, List.getElem?_eq_getElem (by rw [hm]; exact h)]; rfl
  rw [hm] at B HS hl ⊢
  have HM := Lib.hid hm
  clear hP hp hs hq h1 h2 h3 h4
  generalize wellB size n ys = R at *
  go_enter Try.func19, Try.ntmps19
  go_wp2_with fail
  refine (HP.out _).mono ?_
  rintro e w1 ⟨rfl, rfl⟩
  clear HP
  have b2 := B.cell 2 _ rfl
  have b3 := B.cell 3 _ rfl
  have b4 := B.cell 4 _ rfl
  have HB := Lib.hid B.old
  clear B
  by_cases c1 : (n : Int) = q
  · have t1 : ((n : Int) != q) = false := by simpa using c1
    by_cases c2 : m = n
    · have t2 : ((m : Int) != q) = false := by simp; omega
      have HR := Lib.hid (HW4.out c1 c2)
      clear c1 c2 HW1 HW2 HW4
      go_wp2
      simp only [hqw]
      clear hqw
      go_loop [2, 5, 34] (fun _ _ i => ∃ k : Nat, k ≤ m ∧ i = .int .i64 k ∧ Hid (∀ j (h : j < m), j < k → markB (ys[j]'(by rw [HM.out]; exact h)) = true)) (fun _ _ i => (m - intOf i).toNat)
      case atStart => exact ⟨0, by omega, rfl, fun j _ hj => by omega⟩
      case round =>
        obtain ⟨k, hk, rfl, HD⟩ := hrel
        by_cases hlt : k < m
        · have hx := HY.out k hlt
          obtain ⟨b, off, rfl, hc⟩ := HS.out.at hx
          have HD2 : Hid (markB (ys[k]'(by rw [HM.out]; exact hlt)) = true → ∀ j (h : j < m), j < k + 1 → markB (ys[j]'(by rw [HM.out]; exact h)) = true) := fun hyes j h hj => by
            by_cases e : j = k
            · subst e; exact hyes
            · exact HD.out j h (by omega)
          have HN := Lib.hid (HW3.out k hlt)
          clear hx
          generalize ys[k]'(by rw [HM.out]; exact hlt) = y at *
          by_cases y1 : y < -1
          · have hok : markB y = false := by unfold markB inB; simp; omega
            have HK := Lib.hid hok
            clear hok
            go_wp2
            go_ret
            exact ⟨ret_bool (HN.out HK.out).symm, HB.out⟩
          · by_cases y2 : 1 < y
            · have hok : markB y = false := by unfold markB inB; simp; omega
              have HK := Lib.hid hok
              clear hok
              go_wp2
              go_ret
              exact ⟨ret_bool (HN.out HK.out).symm, HB.out⟩
            · have hok : markB y = true := by unfold markB inB; simp; omega
              have HK := Lib.hid hok
              clear hok
              go_wp2
              go_round
              case rel => exact ⟨k + 1, by omega, by go_num, HD2.out HK.out⟩
              case measure => simp [intOf]; omega
        · go_wp2
          go_ret
          exact ⟨ret_bool (HR.out (fun j h => HD.out j h (by omega))).symm, HB.out⟩
    · have t2 : ((m : Int) != q) = true := by simp; omega
      have HR := Lib.hid (HW2.out c2)
      clear c1 c2
      go_wp2
      go_ret
      exact ⟨ret_bool HR.out.symm, HB.out⟩
  · have t1 : ((n : Int) != q) = true := by simpa using c1
    have HR := Lib.hid (HW1.out c1)
    clear c1
    go_wp2
    go_ret
    exact ⟨ret_bool HR.out.symm, HB.out⟩
end Go.Proofs.Ytalmhbcmagjheaa
end

section
/- Walks: points of cells (cut out of TilW). -/
namespace Go.Proofs.Ytalmhbcmagjheaa
open Go.RowKit Flo

def ptF (c d : Nat) (j : Int) : Nat := (floatBits .add .f32 c ((floatBits .mul .f32 (floatOfInt .f32 j) (sideF d)).getD 0)).getD 0
theorem ptF_is {c d : Nat} {A : Int} (hd : d ≤ 11) (hc : Pt c d A) (hA : A.natAbs ≤ 65536) (j : Int) (hj : j.natAbs ≤ 65536) :
    ∃ p, floatBits .mul .f32 (floatOfInt .f32 j) (sideF d) = some p ∧ floatBits .add .f32 c p = some (ptF c d j) ∧ Pt (ptF c d j) d (A + j) := by
  obtain ⟨p, x, h1, h2, h3⟩ := point_pt hd hc hA j hj
  have e : ptF c d j = x := by unfold ptF; rw [h1]; simp only [Option.getD_some]; rw [h2]; rfl
  rw [e]
  exact ⟨p, h1, h2, h3⟩
theorem place_pts {cx cy : Nat} {deep size : Int} (hx : cx < 4294967296) (hy : cy < 4294967296) (hp : placeB cx cy deep size = true) : ∃ (d : Nat) (A B : Int), deep = d ∧ d ≤ 10 ∧ Pt cx d A ∧ Pt cy d B ∧ A.natAbs ≤ 4 * 2 ^ d ∧ B.natAbs ≤ 4 * 2 ^ d ∧ A.natAbs ≤ 4096 ∧ B.natAbs ≤ 4096 := by
  obtain ⟨h1, h2, h3, h4⟩ := placeB_bd hp
  obtain ⟨d, rfl⟩ := Int.eq_ofNat_of_zero_le h1
  unfold placeB at hp
  rw [Bool.and_eq_true, Bool.and_eq_true, Int.toNat_natCast] at hp
  obtain ⟨A, hA, ha⟩ := whole_pt hx (by omega) hp.1.2
  obtain ⟨B, hB, hb⟩ := whole_pt hy (by omega) hp.2
  have hdp : 2 ^ d ≤ 2 ^ 10 := Nat.pow_le_pow_right (by omega) (by omega)
  exact ⟨d, A, B, rfl, by omega, hA, hB, ha, hb, by omega, by omega⟩
def ptC (cx cy : Nat) (deep : Int) (i j : Int) : Nat × Nat := (ptF cx deep.toNat j, ptF cy deep.toNat i)
theorem ptC_lt {cx cy : Nat} {deep size : Int} (hx : cx < 4294967296) (hy : cy < 4294967296) (hp : placeB cx cy deep size = true) (i j : Int) (hi : i.natAbs ≤ 5000) (hj : j.natAbs ≤ 5000) : (ptC cx cy deep i j).1 < 4294967296 ∧ (ptC cx cy deep i j).2 < 4294967296 := by
  obtain ⟨d, A, B, rfl, hd, hA, hB, _, _, ha, hb⟩ := place_pts hx hy hp
  obtain ⟨p, _, _, h1⟩ := ptF_is (by omega) hA (by omega) j (by omega)
  obtain ⟨q, _, _, h2⟩ := ptF_is (by omega) hB (by omega) i (by omega)
  unfold ptC
  rw [Int.toNat_natCast]
  exact ⟨pt_lt h1, pt_lt h2⟩
theorem specPoint_is (cx cy : Nat) (deep size : Int) (hx : cx < 4294967296) (hy : cy < 4294967296) (hp : placeB cx cy deep size = true) (i j : Int) (hi : i.natAbs ≤ 5000) (hj : j.natAbs ≤ 5000) (w : World) :
    Calls Try.prog 53 #[.complex .f32 cx cy, .int .i64 deep, .int .i64 i, .int .i64 j] w fun e w' => e = .returned (.complex .f32 (ptC cx cy deep i j).1 (ptC cx cy deep i j).2) ∧ w = w' := by
  obtain ⟨d, A, B, rfl, hd, hA, hB, _, _, ha, hb⟩ := place_pts hx hy hp
  obtain ⟨p, e1, e2, h1⟩ := ptF_is (by omega) hA (by omega) j (by omega)
  obtain ⟨q, e3, e4, h2⟩ := ptF_is (by omega) hB (by omega) i (by omega)
  unfold ptC
  rw [Int.toNat_natCast]
  exact l7Point_is cx cy d i j (by omega) e1 e3 e2 e4 w
end Go.Proofs.Ytalmhbcmagjheaa
end

section
/- Walks: both programs' TileDiffer and TilePoint at a tile whose place is told. (printed by wip/gen_tilw.py) -/
namespace Go.Proofs.Ytalmhbcmagjheaa
open Go.RowKit Flo

/-- does the cell in row i and column j differ -/
def cellD (cx cy : Nat) (deep most : Int) (i j : Nat) : Bool := difB (ptC cx cy deep i j).1 (ptC cx cy deep i j).2 most
/-- how many of the first t cells differ -/
def dcnt (cx cy : Nat) (deep most : Int) (s t : Nat) : Nat := ((List.range t).filter (fun u => cellD cx cy deep most (u / s) (u % s))).length
theorem dcnt_zero (cx cy : Nat) (deep most : Int) (s : Nat) : dcnt cx cy deep most s 0 = 0 := rfl
theorem dcnt_le (cx cy : Nat) (deep most : Int) (s t : Nat) : dcnt cx cy deep most s t ≤ t := by
  unfold dcnt
  have := List.length_filter_le (fun u => cellD cx cy deep most (u / s) (u % s)) (List.range t)
  simpa using this
theorem dcnt_step {s k l : Nat} (cx cy : Nat) (deep most : Int) (hl : l < s) : dcnt cx cy deep most s (k * s + (l + 1)) = dcnt cx cy deep most s (k * s + l) + if cellD cx cy deep most k l = true then 1 else 0 := by
  unfold dcnt
  rw [← Nat.add_assoc, List.range_succ, List.filter_append, List.length_append]
  have e1 : (k * s + l) / s = k := by rw [Nat.mul_comm, Nat.mul_add_div (by omega), Nat.div_eq_of_lt hl, Nat.add_zero]
  have e2 : (k * s + l) % s = l := by rw [Nat.mul_comm, Nat.mul_add_mod, Nat.mod_eq_of_lt hl]
  congr 1
  by_cases h : cellD cx cy deep most k l = true
  · rw [List.filter_cons_of_pos (by rw [e1, e2]; exact h), if_pos h]; rfl
  · rw [List.filter_cons_of_neg (by rw [e1, e2]; exact h), if_neg h]; rfl
end Go.Proofs.Ytalmhbcmagjheaa
end

section
/- Walks: the corners of the four tiles of a tile. -/
namespace Go.Proofs.Ytalmhbcmagjheaa
open Go.RowKit Flo

def addF (x y : Nat) : Nat := (floatBits .add .f32 x y).getD 0
def farF (d : Nat) (s : Int) : Nat := (floatBits .mul .f32 (floatOfInt .f32 s) (sideF (d + 1))).getD 0
/-- the corners of the four tiles -/
def quart (cx cy d : Nat) (s : Int) : Nat → Nat × Nat
  | 0 => (cx, cy)
  | 1 => (addF cx (farF d s), addF cy 0)
  | 2 => (addF cx 0, addF cy (farF d s))
  | _ => (addF cx (farF d s), addF cy (farF d s))
theorem pt_up {x d : Nat} {n : Int} (hd : d ≤ 10) (h : Pt x d n) : Pt x (d + 1) (2 * n) := by
  unfold Pt at h ⊢
  have e : (2 ^ (u32 - d) : Nat) = 2 ^ (u32 - (d + 1)) * 2 := by
    rw [← Nat.pow_succ]; congr 1; rw [u32_eq]; omega
  have e2 : 2 * n * ((2 ^ (u32 - (d + 1)) : Nat) : Int) = n * ((2 ^ (u32 - d) : Nat) : Int) := by
    rw [e, Int.natCast_mul, Int.mul_comm 2 n, Int.mul_assoc]
    congr 1
    rw [Int.mul_comm]; rfl
  rw [e2]; exact h
theorem pt_zero (d : Nat) : Pt 0 d 0 := by
  unfold Pt
  rw [Int.zero_mul]
  exact ⟨by decide, by unfold fin; decide, by decide⟩
theorem addF_is {d x y : Nat} {a b : Int} (hd : d ≤ 11) (hx : Pt x d a) (hy : Pt y d b) (h : (a + b).natAbs < 16777216) : floatBits .add .f32 x y = some (addF x y) ∧ Pt (addF x y) d (a + b) := by
  obtain ⟨z, h1, h2⟩ := sum_pt hd hx hy h
  unfold addF
  rw [h1]
  exact ⟨rfl, h2⟩
theorem farF_is {d : Nat} {s : Int} (hd : d ≤ 10) (hs : s.natAbs ≤ 65536) : floatBits .mul .f32 (floatOfInt .f32 s) (sideF (d + 1)) = some (farF d s) ∧ Pt (farF d s) (d + 1) s := by
  obtain ⟨p, h1, h2⟩ := sides_pt (d + 1) (by omega) s hs
  unfold farF
  rw [h1]
  exact ⟨rfl, h2⟩
theorem quart_is {cx cy d : Nat} {A B s : Int} (hd : d ≤ 10) (hx : Pt cx d A) (hy : Pt cy d B) (hA : A.natAbs ≤ 8192) (hB : B.natAbs ≤ 8192) (hs : s.natAbs ≤ 100) :
    floatBits .mul .f32 (floatOfInt .f32 s) (sideF (d + 1)) = some (farF d s) ∧ floatBits .add .f32 cx (farF d s) = some (addF cx (farF d s)) ∧ floatBits .add .f32 cy (farF d s) = some (addF cy (farF d s)) ∧ floatBits .add .f32 cx 0 = some (addF cx 0) ∧ floatBits .add .f32 cy 0 = some (addF cy 0) ∧
    (∀ k, k < 4 → ∃ a b : Int, (a = 0 ∨ a = s) ∧ (b = 0 ∨ b = s) ∧ Pt (quart cx cy d s k).1 (d + 1) (2 * A + a) ∧ Pt (quart cx cy d s k).2 (d + 1) (2 * B + b)) := by
  have f := farF_is (s := s) hd (by omega)
  have x2 := pt_up hd hx
  have y2 := pt_up hd hy
  have z := pt_zero (d + 1)
  have h1 := addF_is (by omega) x2 f.2 (by omega)
  have h2 := addF_is (by omega) y2 f.2 (by omega)
  have h3 := addF_is (by omega) x2 z (by omega)
  have h4 := addF_is (by omega) y2 z (by omega)
  refine ⟨f.1, h1.1, h2.1, h3.1, h4.1, fun k hk => ?_⟩
  rcases (by omega : k = 0 ∨ k = 1 ∨ k = 2 ∨ k = 3) with rfl | rfl | rfl | rfl
  · exact ⟨0, 0, .inl rfl, .inl rfl, by rw [Int.add_zero]; exact x2, by rw [Int.add_zero]; exact y2⟩
  · exact ⟨s, 0, .inr rfl, .inl rfl, h1.2, h4.2⟩
  · exact ⟨0, s, .inl rfl, .inr rfl, h3.2, h2.2⟩
  · exact ⟨s, s, .inr rfl, .inr rfl, h1.2, h2.2⟩
def quartC (cx cy d : Nat) (s : Int) : Array Value := #[.complex .f32 cx cy, .complex .f32 (addF cx (farF d s)) (addF cy 0), .complex .f32 (addF cx 0) (addF cy (farF d s)), .complex .f32 (addF cx (farF d s)) (addF cy (farF d s))]
theorem quartC_at (cx cy d : Nat) (s : Int) (k : Nat) (h : k < 4) : (quartC cx cy d s)[k]? = some (.complex .f32 (quart cx cy d s k).1 (quart cx cy d s k).2) := by
  rcases (by omega : k = 0 ∨ k = 1 ∨ k = 2 ∨ k = 3) with rfl | rfl | rfl | rfl <;> rfl
set_option maxRecDepth 100000 in
set_option maxHeartbeats 1000000 in
theorem l7Corners_is (cx cy d : Nat) (A B s : Int) (hd : d ≤ 10) (hx : Pt cx d A) (hy : Pt cy d B) (hA : A.natAbs ≤ 8192) (hB : B.natAbs ≤ 8192) (hs : s.natAbs ≤ 100) (ua ub : Option Addr) (un uc vn vc : Nat) (w : World) :
    Calls Try.prog 40 #[.agg #[.complex .f32 cx cy, .int .i64 d, .int .i64 s, .slice ua un uc, .slice ub vn vc]] w fun e w' => ∃ b, e = .returned (.slice (some ⟨b, 0, none⟩) 4 4) ∧ w.heap.size ≤ b ∧ Box w b (quartC cx cy d s) 34 w' := by
  obtain ⟨h1, h2, h3, h4, h5, -⟩ := quart_is hd hx hy hA hB hs
  have R := Box.new w #[.complex .f32 cx cy, .int .i64 d, .int .i64 s, .slice ua un uc, .slice ub vn vc] 37
  have g0 := fun w => run_float_arith (P := Try.prog) w .mul 41 .f32 _ _ _ h1
  have g1 := fun w => run_complex_sum (P := Try.prog) w .add (.inl rfl) 34 .f32 cx cy (farF d s) 0 _ _ (by unfold cSumBits; rw [h2, h5]; rfl)
  have g2 := fun w => run_complex_sum (P := Try.prog) w .add (.inl rfl) 34 .f32 cx cy 0 (farF d s) _ _ (by unfold cSumBits; rw [h4, h3]; rfl)
  have g3 := fun w => run_complex_sum (P := Try.prog) w .add (.inl rfl) 34 .f32 cx cy (farF d s) (farF d s) _ _ (by unfold cSumBits; rw [h2, h3]; rfl)
  have HS : Hid (∀ w, Calls Try.prog 54 #[.int .i64 ((d : Int) + 1)] w fun e w' => e = .returned (.float .f32 (sideF (d + 1))) ∧ w = w') := fun w => l7Side_is (d + 1) (by omega) w
  unfold quartC
  clear h1 h2 h3 h4 h5 hx hy hA hB
  generalize addF cx (farF d s) = x1 at *
  generalize addF cy (farF d s) = y1 at *
  generalize addF cx 0 = x0 at *
  generalize addF cy 0 = y0 at *
  generalize farF d s = f at *
  generalize sideF (d + 1) = sd at *
  obtain ⟨r0, r1, r2, r3, r4⟩ := R.cells5
  have e1 : IntKind.i64.wrap ((d : Int) + 1) = (d : Int) + 1 := IntWalk.i64_in _ (by omega)
  go_enter Try.func40, Try.ntmps40
  go_upto_region 1 with fail
  go_quiet ((go_at_call 54; exact quiet_eq (HS.out _)))
  clear e1
  have R2 := R.step ((Drw.refl _).drewN nq |>.below _)
  obtain ⟨t0, t1, t2, t3, t4⟩ := R2.cells5
  have HB := Lib.hid R2.old
  have hsz := R2.old.size
  clear R R2
  have X := (Box.new ((w.alloc (.cells #[.complex .f32 cx cy, .int .i64 d, .int .i64 s, .slice ua un uc, .slice ub vn vc] 37)).drewN nq) #[.complex .f32 cx cy, .complex .f32 x1 y0, .complex .f32 x0 y1, .complex .f32 x1 y1] 34).up HB.out
  rw [show ((w.alloc (.cells #[.complex .f32 cx cy, .int .i64 d, .int .i64 s, .slice ua un uc, .slice ub vn vc] 37)).drewN nq).heap.size = w.heap.size + 1 by simp] at X
  have HX := Lib.hid X
  clear X
  go_wp2
  go_ret
  exact ⟨w.heap.size + 1, rfl, by omega, HX.out⟩
end Go.Proofs.Ytalmhbcmagjheaa
end

section
/- Walks: the reference's TileSplit, for what it leaves. -/
namespace Go.Proofs.Ytalmhbcmagjheaa
open Go.RowKit Flo
attribute [local go_sem ↓] Go.wp_at_zero Go.wp_at_succ
attribute [local go_sem] run_store_float run_store_complex

/-- a tile with its rows -/
structure TRec where
  cx : Nat
  cy : Nat
  deep : Int
  size : Int
  gs : Nat
  cs : Nat
  gm : Nat
  cm : Nat
  xs : List Nat
  ys : List Int
def TRec.n (t : TRec) : Nat := t.size.toNat * t.size.toNat
def TRec.cells (t : TRec) : List Value := [.complex .f32 t.cx t.cy, .int .i64 t.deep, .int .i64 t.size, .slice (some ⟨t.gs, 0, none⟩) t.n t.cs, .slice (some ⟨t.gm, 0, none⟩) t.n t.cm]
/-- the tile's rows are the call's own -/
structure TOwn (B : Nat) (t : TRec) (W : World) : Prop where
  made : Made B t.n t.xs t.ys (.slice (some ⟨t.gs, 0, none⟩) t.n t.cs) (.slice (some ⟨t.gm, 0, none⟩) t.n t.cm) W
  pl : placeB t.cx t.cy t.deep t.size = true
  bx : t.cx < 4294967296
  by1 : t.cy < 4294967296
  ks : t.n ≤ t.cs
  km : t.n ≤ t.cm
theorem TOwn.step {B : Nat} {t : TRec} {W W' : World} (h : TOwn B t W) (k : Below W.heap.size W W') : TOwn B t W' := ⟨h.made.step k, h.pl, h.bx, h.by1, h.ks, h.km⟩
theorem TOwn.mono {B B' : Nat} {t : TRec} {W : World} (h : TOwn B t W) (hB : B' ≤ B) : TOwn B' t W := ⟨h.made.mono hB, h.pl, h.bx, h.by1, h.ks, h.km⟩
/-- what TileMake returns, in one form -/
def MakeRes (w : World) (cx cy : Nat) (deep size : Int) (ok : Bool) (v : Value) (w' : World) : Prop :=
  (ok = false → v = .agg #[.complex .f32 0 0, .int .i64 0, .int .i64 0, .slice none 0 0, .slice none 0 0]) ∧ (ok = true → ∃ t : TRec, t.cx = cx ∧ t.cy = cy ∧ t.deep = deep ∧ t.size = size ∧ v = .agg t.cells.toArray ∧ TOwn w.heap.size t w')
theorem tileMake_one (cx cy : Nat) (deep size most : Int) (hx : cx < 4294967296) (hy : cy < 4294967296) (w : World) :
    Calls Try.prog 39 #[.complex .f32 cx cy, .int .i64 deep, .int .i64 size, .int .i64 most] w fun e w' => (∃ (x y : Nat) (d s : Int) (a1 : Option Addr) (n1 c1 : Nat) (a2 : Option Addr) (n2 c2 : Nat) (ok : Bool), e = .returned (.tuple #[.agg #[.complex .f32 x y, .int .i64 d, .int .i64 s, .slice a1 n1 c1, .slice a2 n2 c2], .bool ok]) ∧ MakeRes w cx cy deep size ok (.agg #[.complex .f32 x y, .int .i64 d, .int .i64 s, .slice a1 n1 c1, .slice a2 n2 c2]) w') ∧ Below w.heap.size w w' := by
  refine (tileMake_any cx cy deep size most hx hy w).mono ?_
  rintro e w' ⟨hbl, ⟨-, rfl⟩ | ⟨hpl, xs, ys, smv, mkv, rfl, hM⟩⟩
  · exact ⟨⟨0, 0, 0, 0, none, 0, 0, none, 0, 0, false, rfl, fun _ => rfl, fun h => by cases h⟩, hbl⟩
  · have hn : 0 < size.toNat * size.toNat := by
      have := placeB_bd hpl
      exact Nat.mul_pos (by omega) (by omega)
    obtain ⟨gs, cs, rfl, -, hcs⟩ := ownsRow_form hM.S hn
    obtain ⟨gm, cm, rfl, -, hcm⟩ := ownsRow_form hM.M hn
    exact ⟨⟨cx, cy, deep, size, _, _, cs, _, _, cm, true, rfl, (fun h => by cases h), fun _ => ⟨⟨cx, cy, deep, size, gs, cs, gm, cm, xs, ys⟩, rfl, rfl, rfl, rfl, rfl, ⟨hM, hpl, hx, hy, hcs, hcm⟩⟩⟩, hbl⟩
theorem infoT : (Try.prog.info? 37).map (fun i => (i.zero, i.size, i.bytes)) = some (some (.agg #[.complex .f32 0 0, .int .i64 0, .int .i64 0, .slice none 0 0, .slice none 0 0]), 5, 72) := by kernel_rfl
theorem TOwn.grown {B B' : Nat} {t : TRec} {W W' : World} {v : Value} {n : Nat} {cs : List Value} (h : TOwn B t W) (ho : W.ownsRow B' 37 5 v n cs) (hg : W.grownBy W' v.ownBlock) : TOwn B t W' :=
  ⟨⟨h.made.S.kept hg (ownsRow_apart h.made.S ho (by decide)), h.made.M.kept hg (ownsRow_apart h.made.M ho (by decide)), h.made.lx, h.made.ly, h.made.hx, h.made.hy⟩, h.pl, h.bx, h.by1, h.ks, h.km⟩
def cellsL (L : List TRec) : List Value := L.flatMap TRec.cells
theorem cellsL_snoc (L : List TRec) (t : TRec) : cellsL (L ++ [t]) = cellsL L ++ t.cells := by unfold cellsL; rw [List.flatMap_append, List.flatMap_singleton]
/-- a list of tiles of the call's own -/
structure TList (B : Nat) (L : List TRec) (v : Value) (W : World) : Prop where
  row : W.ownsRow B 37 5 v L.length (cellsL L)
  own : ∀ t, t ∈ L → TOwn B t W
theorem TList.step {B : Nat} {L : List TRec} {v : Value} {W W' : World} (h : TList B L v W) (k : Below W.heap.size W W') : TList B L v W' := ⟨ownsRow_step h.row k, fun t ht => (h.own t ht).step k⟩
theorem Made.far {B n : Nat} {xs : List Nat} {ys : List Int} {smv mkv : Value} {W : World} (h : Made B n xs ys smv mkv W) {w0 : World} {b : Nat} {C : Array Value} (hb : Box w0 b C 37 W) (j : Nat) (u : Value) : Made B n xs ys smv mkv (W.setCell ⟨b, j, none⟩ u) := h.set hb.blk j u
theorem TOwn.far {B : Nat} {t : TRec} {W : World} (h : TOwn B t W) {w0 : World} {b : Nat} {C : Array Value} (hb : Box w0 b C 37 W) (j : Nat) (u : Value) : TOwn B t (W.setCell ⟨b, j, none⟩ u) := ⟨h.made.far hb j u, h.pl, h.bx, h.by1, h.ks, h.km⟩
theorem TOwn.far5 {B : Nat} {t : TRec} {W w0 : World} (h : TOwn B t W) {b : Nat} {v0 v1 v2 v3 v4 : Value} (hb : Box w0 b #[v0, v1, v2, v3, v4] 37 W) (hw : w0.heap.size ≤ b) (u0 u1 u2 u3 u4 : Value) :
    TOwn B t (((((W.setCell ⟨b, 0, none⟩ u0).setCell ⟨b, 1, none⟩ u1).setCell ⟨b, 2, none⟩ u2).setCell ⟨b, 3, none⟩ u3).setCell ⟨b, 4, none⟩ u4) := by
  have b1 := hb.set hw 0 u0
  have b2 := b1.set hw 1 u1
  have b3 := b2.set hw 2 u2
  have b4 := b3.set hw 3 u3
  exact ((((h.far hb 0 u0).far b1 1 u1).far b2 2 u2).far b3 3 u3).far b4 4 u4
/-- behind 't, ok := TileMake(..)' -/
def CutP (wr : World) (px py : Nat) (d s : Int) (pb x y : Nat) (dd ss : Int) (a1 : Option Addr) (n1 c1 : Nat) (a2 : Option Addr) (n2 c2 : Nat) (ok : Bool) (wx : World) : Prop :=
  Below wr.heap.size wr wx ∧ wr.heap.size ≤ pb ∧ Box wr pb #[.complex .f32 x y, .int .i64 dd, .int .i64 ss, .slice a1 n1 c1, .slice a2 n2 c2] 37 wx ∧
    (ok = true → ∃ t : TRec, t.cx = px ∧ t.cy = py ∧ t.deep = d ∧ t.size = s ∧ (.agg #[.complex .f32 x y, .int .i64 dd, .int .i64 ss, .slice a1 n1 c1, .slice a2 n2 c2] : Value) = .agg t.cells.toArray ∧ TOwn wr.heap.size t wx)
theorem cutA {wr w5 : World} {px py : Nat} {d s : Int} {x y : Nat} {dd ss : Int} {a1 : Option Addr} {n1 c1 : Nat} {a2 : Option Addr} {n2 c2 : Nat} {ok : Bool} (hM : MakeRes wr.drew px py d s ok (.agg #[.complex .f32 x y, .int .i64 dd, .int .i64 ss, .slice a1 n1 c1, .slice a2 n2 c2]) w5) (hb : Below wr.drew.heap.size wr.drew w5) :
    CutP wr px py d s w5.heap.size x y dd ss a1 n1 c1 a2 n2 c2 ok (w5.alloc (.cells #[.complex .f32 x y, .int .i64 dd, .int .i64 ss, .slice a1 n1 c1, .slice a2 n2 c2] 37)) := by
  have h0 : Below wr.heap.size wr wr.drew := (Drw.refl _).drew.below _
  have h1 : Below wr.heap.size wr w5 := h0.trans hb
  refine ⟨h1.alloc h1.size _, h1.size, (Box.new w5 _ _).up h1, fun hok => ?_⟩
  obtain ⟨t, e1, e2, e3, e4, e5, ht⟩ := hM.2 hok
  exact ⟨t, e1, e2, e3, e4, e5, ht.step ((Below.refl _ _).alloc (Nat.le_refl _) _)⟩
theorem cutB {wr w5 : World} {px py : Nat} {d s : Int} {x y : Nat} {dd ss : Int} {a1 : Option Addr} {n1 c1 : Nat} {a2 : Option Addr} {n2 c2 : Nat} {ok : Bool}
    (hM : MakeRes ((wr.alloc (.cells #[.complex .f32 0 0, .int .i64 0, .int .i64 0, .slice none 0 0, .slice none 0 0] 37)).drew) px py d s ok (.agg #[.complex .f32 x y, .int .i64 dd, .int .i64 ss, .slice a1 n1 c1, .slice a2 n2 c2]) w5)
    (hb : Below ((wr.alloc (.cells #[.complex .f32 0 0, .int .i64 0, .int .i64 0, .slice none 0 0, .slice none 0 0] 37)).drew).heap.size ((wr.alloc (.cells #[.complex .f32 0 0, .int .i64 0, .int .i64 0, .slice none 0 0, .slice none 0 0] 37)).drew) w5) :
    CutP wr px py d s wr.heap.size x y dd ss a1 n1 c1 a2 n2 c2 ok (((((w5.setCell ⟨wr.heap.size, 0, none⟩ (.complex .f32 x y)).setCell ⟨wr.heap.size, 1, none⟩ (.int .i64 dd)).setCell ⟨wr.heap.size, 2, none⟩ (.int .i64 ss)).setCell ⟨wr.heap.size, 3, none⟩ (.slice a1 n1 c1)).setCell ⟨wr.heap.size, 4, none⟩ (.slice a2 n2 c2)) := by
  have X : Box wr wr.heap.size #[.complex .f32 0 0, .int .i64 0, .int .i64 0, .slice none 0 0, .slice none 0 0] 37 w5 := ((Box.new wr _ _).step ((Drw.refl _).drew.below _)).step hb
  have Y := X.set5 (Nat.le_refl _) (.complex .f32 x y) (.int .i64 dd) (.int .i64 ss) (.slice a1 n1 c1) (.slice a2 n2 c2)
  refine ⟨Y.old, Nat.le_refl _, Y, fun hok => ?_⟩
  obtain ⟨t, e1, e2, e3, e4, e5, ht⟩ := hM.2 hok
  exact ⟨t, e1, e2, e3, e4, e5, (ht.mono (B' := wr.heap.size) (by simp)).far5 X (Nat.le_refl _) _ _ _ _ _⟩
theorem ownsRow_mono {w : World} {base base' : Nat} {e : TypeId} {size : Nat} {v : Value} {n : Nat} {xs : List Value} (h : w.ownsRow base e size v n xs) (hB : base' ≤ base) : w.ownsRow base' e size v n xs := by
  obtain ⟨s1, s2⟩ := h
  refine ⟨s1, ?_⟩
  rcases s2 with h | ⟨g, cap, cur, h1, h2, r⟩
  · exact .inl h
  · exact .inr ⟨g, cap, cur, h1, Nat.le_trans hB h2, r⟩
theorem TList.mono {B B' : Nat} {L : List TRec} {v : Value} {W : World} (h : TList B L v W) (hB : B' ≤ B) : TList B' L v W := ⟨ownsRow_mono h.row hB, fun t ht => (h.own t ht).mono hB⟩
/-- what TileSplit leaves -/
def SplitOut (w : World) (cx cy d : Nat) (s : Int) (e : Ending) (w' : World) : Prop :=
  ((∃ b, e = .returned (.tuple #[.slice (some ⟨b, 0, none⟩) 0 0, .bool false])) ∨ (∃ L v, e = .returned (.tuple #[v, .bool true]) ∧ TList w.heap.size L v w' ∧ L.length = 4 ∧ ∀ k t, L[k]? = some t → t.cx = (quart cx cy d s k).1 ∧ t.cy = (quart cx cy d s k).2 ∧ t.deep = (d : Int) + 1 ∧ t.size = s)) ∧ Below w.heap.size w w'
set_option maxRecDepth 100000 in
set_option maxHeartbeats 16000000 in
theorem tileSplit_any (cx cy d : Nat) (s most : Int) (hx : cx < 4294967296) (hy : cy < 4294967296) (hp : placeB cx cy d s = true) (a a' : Option Addr) (n c c' : Nat) (ys : List Int) (hl : ys.length ≤ 1048576) (w : World) (hs : Sl w a' (ys.map intV)) :
    Calls Try.prog 25 #[.agg #[.complex .f32 cx cy, .int .i64 d, .int .i64 s, .slice a n c, .slice a' ys.length c'], .int .i64 most] w (SplitOut w cx cy d s) := by
  obtain ⟨d', A, B, hd', hd, hA, hB, -, -, ha, hb⟩ := place_pts hx hy hp
  obtain rfl : d = d' := by omega
  obtain ⟨h1, h2, h3, h4⟩ := placeB_bd hp
  have R := Box.new w #[.complex .f32 cx cy, .int .i64 d, .int .i64 s, .slice a n c, .slice a' ys.length c'] 37
  have HW := Lib.hid (fun W (hW : Below w.heap.size w W) => specWell_is cx cy d s hx hy hp a a' n c c' ys hl W (hs.step hW))
  have HC := Lib.hid (fun W => l7Corners_is cx cy d A B s hd hA hB (by omega) (by omega) (by omega) a a' n c ys.length c' W)
  have HQ := (quart_is (s := s) hd hA hB (by omega) (by omega) (by omega)).2.2.2.2.2
  have HQ2 : Hid (∀ k, k < 4 → (quart cx cy d s k).1 < 4294967296 ∧ (quart cx cy d s k).2 < 4294967296) := fun k hk => by
    obtain ⟨u, v, -, -, p1, p2⟩ := HQ k hk
    exact ⟨pt_lt p1, pt_lt p2⟩
  clear HQ hs hp hA hB hd'
  replace R := R.alloc (.cells #[] 37)
  have HR := Lib.hid R
  obtain ⟨r0, r1, r2, r3, r4⟩ := R.cells5
  have hwl := R.lt
  clear R
  go_enter Try.func25, Try.ntmps25
  go_wp2_with fail
  refine (HW.out _ HR.out.old).mono ?_
  rintro e w1 ⟨rfl, hd1⟩
  cases hwb : wellB s n ys with
  | false =>
    have HB := Lib.hid (HR.out.step hd1).old
    clear hd1 hwb
    go_wp2
    go_ret2
    exact ⟨.inl ⟨_, rfl⟩, HB.out⟩
  | true =>
    have HR1 := Lib.hid (HR.out.step hd1)
    have HO1 : Hid (w1.ownsRow (w.heap.size + 1) 37 5 (.slice (some ⟨w.heap.size + 1, 0, none⟩) 0 0) 0 []) := by
      have h0 := World.ownsRow_lit (e := 37) (size := 5) (base := w.heap.size + 1) (w.alloc (.cells #[.complex .f32 cx cy, .int .i64 d, .int .i64 s, .slice a n c, .slice a' ys.length c'] 37)) #[] 0 (by simp) (by decide) rfl
      rw [World.size_alloc] at h0
      exact ownsRow_step h0 hd1
    obtain ⟨r0, r1, r2, r3, r4⟩ := HR1.out.cells5
    have hsz1 : w.heap.size + 1 < w1.heap.size := by have := hd1.size; simp at this; omega
    clear hd1 hwb
    go_wp2_with fail
    refine (HC.out _).mono ?_
    rintro e w2 ⟨qb, rfl, hqb, hX⟩
    have HX := Lib.hid (hX.up HR1.out.old)
    have HR2 := Lib.hid (HR1.out.step hX.old)
    have HT2 : Hid (TList (w.heap.size + 1) [] (.slice (some ⟨w.heap.size + 1, 0, none⟩) 0 0) w2) := ⟨ownsRow_step HO1.out hX.old, fun t ht => by cases ht⟩
    have hqw : w.heap.size + 1 < qb := by omega
    clear hX HR1 HO1 r0 r1 r2 r3 r4
    obtain ⟨iT, hiT, hzT0, hzT1, hzT2⟩ := info_parts infoT
    go_wp2
    go_loopw [6, 8] (fun o i wr => ∃ (k g cap : Nat) (L : List TRec), k ≤ 4 ∧ i = .int .i64 k ∧ o = .slice (some ⟨g, 0, none⟩) k cap ∧ Hid (L.length = k) ∧ Hid (Box w w.heap.size #[.complex .f32 cx cy, .int .i64 d, .int .i64 s, .slice a n c, .slice a' ys.length c'] 37 wr) ∧ Hid (Box w qb (quartC cx cy d s) 34 wr) ∧ Hid (TList (w.heap.size + 1) L (.slice (some ⟨g, 0, none⟩) k cap) wr) ∧ Hid (∀ j t, L[j]? = some t → t.cx = (quart cx cy d s j).1 ∧ t.cy = (quart cx cy d s j).2 ∧ t.deep = (d : Int) + 1 ∧ t.size = s)) (fun _ i _ => (4 - intOf i).toNat)
    case atStart => exact ⟨0, w.heap.size + 1, 0, [], by omega, rfl, rfl, rfl, HR2.out, HX.out, HT2.out, fun j t h => by simp at h⟩
    case round =>
      clear HR2 HX HT2
      obtain ⟨k, g, cap, L, hk, rfl, rfl, HL, HR, HX, HT, HQL⟩ := hrel
      by_cases hlt : k < 4
      · have x0 := HX.out.cell k _ (quartC_at cx cy d s k hlt)
        obtain ⟨r0, r1, r2, r3, r4⟩ := HR.out.cells5
        have hq2 := HQ2.out k hlt
        have e1 : IntKind.i64.wrap ((d : Int) + 1) = (d : Int) + 1 := IntWalk.i64_in _ (by omega)
        have HF : Hid (∀ W, Below wr.heap.size wr W → Box w w.heap.size #[.complex .f32 cx cy, .int .i64 d, .int .i64 s, .slice a n c, .slice a' ys.length c'] 37 W ∧ Box w qb (quartC cx cy d s) 34 W ∧ TList (w.heap.size + 1) L (.slice (some ⟨g, 0, none⟩) k cap) W) := fun W h => ⟨HR.out.step h, HX.out.step h, HT.out.step h⟩
        have hszw := HR.out.lt
        have hqx := HX.out.lt
        generalize hpx : (quart cx cy d s k).1 = px at *
        generalize hpy : (quart cx cy d s k).2 = py at *
        have HPX := Lib.hid hpx
        have HPY := Lib.hid hpy
        clear hpx hpy
        go_upto_region 8 with fail
        go_cut [9, 10] from 18 to 44 (fun p o wx => ∃ (pb x y : Nat) (dd ss : Int) (a1 : Option Addr) (n1 c1 : Nat) (a2 : Option Addr) (n2 c2 : Nat) (ok : Bool), p = .pointer (some ⟨pb, 0, none⟩) ∧ o = .bool ok ∧ CutP wr px py ((d : Int) + 1) s pb x y dd ss a1 n1 c1 a2 n2 c2 ok wx)
        case first =>
          go_region_with (first
            | (go_at_call 39
               refine (tileMake_one px py _ _ _ hq2.1 hq2.2 _).mono ?_
               rintro e w5 ⟨⟨x, y, dd, ss, a1, n1, c1, a2, n2, c2, ok, rfl, hM⟩, hb5⟩
               first
                 | (have Z := (Box.new wr.drew #[.complex .f32 0 0, .int .i64 0, .int .i64 0, .slice none 0 0, .slice none 0 0] 37).step hb5
                    have z0 : w5.cell? ⟨wr.heap.size, 0, none⟩ = some (.complex .f32 0 0) := Z.cell 0 _ rfl
                    have z1 : w5.cell? ⟨wr.heap.size, 1, none⟩ = some (.int .i64 0) := Z.cell 1 _ rfl
                    have z2 : w5.cell? ⟨wr.heap.size, 2, none⟩ = some (.int .i64 0) := Z.cell 2 _ rfl
                    have z3 : w5.cell? ⟨wr.heap.size, 3, none⟩ = some (.slice none 0 0) := Z.cell 3 _ rfl
                    have z4 : w5.cell? ⟨wr.heap.size, 4, none⟩ = some (.slice none 0 0) := Z.cell 4 _ rfl
                    have f0 : w5.frozen? ⟨wr.heap.size, 0, none⟩ = false := Z.frozen 0
                    have f1 : w5.frozen? ⟨wr.heap.size, 1, none⟩ = false := Z.frozen 1
                    have f2 : w5.frozen? ⟨wr.heap.size, 2, none⟩ = false := Z.frozen 2
                    have f3 : w5.frozen? ⟨wr.heap.size, 3, none⟩ = false := Z.frozen 3
                    have f4 : w5.frozen? ⟨wr.heap.size, 4, none⟩ = false := Z.frozen 4
                    clear Z)
                 | skip))
          all_goals
            go_wp2_with fail
            go_meet
            first
              | (with_reducible exact ⟨w5.heap.size, x, y, dd, ss, a1, n1, c1, a2, n2, c2, ok, rfl, rfl, cutA hM hb5⟩)
              | (with_reducible exact ⟨wr.heap.size, x, y, dd, ss, a1, n1, c1, a2, n2, c2, ok, rfl, rfl, cutB hM hb5⟩)
        case rest =>
          obtain ⟨pb, x, y, dd, ss, a1, n1, c1, a2, n2, c2, ok, rfl, rfl, hcutp⟩ := hcut
          obtain ⟨hbc, hpb, hbx, hres⟩ := hcutp
          obtain ⟨R3, X3, T3⟩ := HF.out _ hbc
          have hres2 := Lib.hid hres
          have hsc := R3.lt
          obtain ⟨p0, p1, p2, p3, p4⟩ := hbx.cells5
          have hpl := hbx.lt
          have HR3 := Lib.hid R3
          have HX3 := Lib.hid X3
          have HT3 := Lib.hid T3
          clear hres hbc hbx R3 X3 T3 HF HR HX HT r0 r1 r2 r3 r4 x0 e1
          cases ok with
          | false =>
            have HB := Lib.hid (HR3.out.old.alloc (by omega) (.cells #[] 37))
            go_wp2
            go_ret2
            exact ⟨.inl ⟨_, rfl⟩, HB.out⟩
          | true =>
            obtain ⟨t, e1, e2, e3, e4, e5, ht⟩ := hres2.out rfl
            have HTo := Lib.hid ht
            have HC5 : Hid ([.complex .f32 x y, .int .i64 dd, .int .i64 ss, .slice a1 n1 c1, .slice a2 n2 c2] = t.cells) := by
              injection e5 with e5
              have := congrArg Array.toList e5
              exact this
            have HE : Hid (t.cx = (quart cx cy d s k).1 ∧ t.cy = (quart cx cy d s k).2 ∧ t.deep = (d : Int) + 1 ∧ t.size = s) := by
              refine ⟨e1.trans HPX.out.symm, e2.trans HPY.out.symm, e3, e4⟩
            have hbs : w.heap.size + 1 ≤ wc.heap.size := by omega
            have HL2 : Hid (∀ j t', (L ++ [t])[j]? = some t' → t'.cx = (quart cx cy d s j).1 ∧ t'.cy = (quart cx cy d s j).2 ∧ t'.deep = (d : Int) + 1 ∧ t'.size = s) := fun j t' hj => by
              have hLk := HL.out
              by_cases hjk : j < L.length
              · rw [List.getElem?_append_left hjk] at hj
                exact HQL.out j t' hj
              · rw [List.getElem?_append_right (by omega)] at hj
                by_cases h0 : j - L.length = 0
                · rw [h0] at hj
                  injection hj with hj
                  obtain rfl : j = k := by omega
                  rw [← hj]; exact HE.out
                · rw [List.getElem?_eq_none (by simp; omega)] at hj; cases hj
            clear e1 e2 e3 e4 e5 ht hres2
            go_wp2_with (at_builtin; refine wpList_append_lies _ rfl _ _ _ rfl (w.heap.size + 1) 37 iT _ 5 72 Try.underlying32 hiT hzT0 hzT1 hzT2 rfl (by omega) _ k (cellsL L) rfl (by rw [← HL.out]; have := (HT3.out.row.alloc (.cells #[.complex .f32 x y, .int .i64 dd, .int .i64 ss, .slice a1 n1 c1, .slice a2 n2 c2] 37)); rw [HL.out] at this ⊢; exact this) ⟨wc.heap.size, 0, none⟩ 1 1 [.complex .f32 x y, .int .i64 dd, .int .i64 ss, .slice a1 n1 c1, .slice a2 n2 c2] rfl rfl (World.news_of_block (cs := #[.complex .f32 x y, .int .i64 dd, .int .i64 ss, .slice a1 n1 c1, .slice a2 n2 c2]) (t := 37) (fr := (0, 0)) (heap_alloc_new wc _)) (by intro u hu; simp only [List.mem_cons, List.not_mem_nil, or_false] at hu; rcases hu with rfl | rfl | rfl | rfl | rfl <;> rfl) (by omega) (by unfold maxLen; omega) (by omega) (by simp; omega) (wc.heap.size + 1) (by simp) ?_; intro g8 c8 w8 hown hgrow _ _)
            have T9 := HT3.out.step ((Below.refl _ _).alloc (Nat.le_refl _) (.cells #[.complex .f32 x y, .int .i64 dd, .int .i64 ss, .slice a1 n1 c1, .slice a2 n2 c2] 37))
            have R9 := HR3.out.alloc (.cells #[.complex .f32 x y, .int .i64 dd, .int .i64 ss, .slice a1 n1 c1, .slice a2 n2 c2] 37)
            have X9 := HX3.out.alloc (.cells #[.complex .f32 x y, .int .i64 dd, .int .i64 ss, .slice a1 n1 c1, .slice a2 n2 c2] 37)
            have t9 := HTo.out.step ((Below.refl _ _).alloc (Nat.le_refl _) (.cells #[.complex .f32 x y, .int .i64 dd, .int .i64 ss, .slice a1 n1 c1, .slice a2 n2 c2] 37))
            have hg : w.heap.size + 1 ≤ g := own_ge T9.row
            have hrow : ∀ j, (some g : Option Nat) = some j → w.heap.size ≤ j := fun j hj => by injection hj with hj; omega
            have HR8 := Lib.hid (R9.grown (row := some g) hgrow (fun e => by injection e with e; omega) hrow)
            have HX8 := Lib.hid (X9.grown (row := some g) hgrow (ownsRow_ne T9.row X9.blk (by decide)) hrow)
            have HT8 : Hid (TList (w.heap.size + 1) (L ++ [t]) (.slice (some ⟨g8, 0, none⟩) (k + 1) c8) w8) := by
              refine ⟨?_, fun t' ht' => ?_⟩
              · rw [List.length_append, HL.out, cellsL_snoc, ← HC5.out]
                exact hown
              · rcases List.mem_append.1 ht' with h | h
                · exact (T9.own t' h).grown T9.row hgrow
                · rw [List.mem_singleton] at h
                  rw [h]
                  exact (t9.grown T9.row hgrow).mono (by omega)
            clear T9 R9 X9 t9 hown hgrow
            go_roundw
            case rel => exact ⟨k + 1, g8, c8, L ++ [t], by omega, by go_num, rfl, by show (L ++ [t]).length = k + 1; rw [List.length_append, HL.out]; rfl, HR8, HX8, HT8, HL2⟩
            case measure => simp [intOf]; omega
      · have HT4 : Hid (TList w.heap.size L (.slice (some ⟨g, 0, none⟩) k cap) wr) := HT.out.mono (by omega)
        go_wp2
        go_ret2
        exact ⟨.inr ⟨L, _, rfl, HT4.out, by have := HL.out; omega, HQL.out⟩, HR.out.old⟩
end Go.Proofs.Ytalmhbcmagjheaa
end
