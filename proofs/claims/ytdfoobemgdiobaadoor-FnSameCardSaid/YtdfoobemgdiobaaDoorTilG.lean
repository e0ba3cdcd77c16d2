/- Walks: the program's and the reference's TileWell at a tile whose place is told. -/
import Derived.Test.YtdfoobemgdiobaaDoorTilF
import Derived.Test.YtdfoobemgdiobaaDoorTilR
namespace Go.Proofs.YtdfoobemgdiobaaDoor
open Go.RowKit

/-- is a mark one of a tile -/
def markB (y : Int) : Bool := inB y (-1) 1
/-- is a tile with a good place well made -/
def wellB (size : Int) (n : Nat) (ys : List Int) : Bool := decide ((n : Int) = size * size) && decide (ys.length = n) && ys.all markB
theorem wellB_len {size : Int} {n : Nat} {ys : List Int} (h : ¬ (n : Int) = size * size) : wellB size n ys = false := by unfold wellB; rw [decide_eq_false h]; rfl
theorem wellB_len2 {size : Int} {n : Nat} {ys : List Int} (h : ¬ ys.length = n) : wellB size n ys = false := by unfold wellB; rw [decide_eq_false h]; simp
theorem wellB_bad {size : Int} {n k : Nat} {ys : List Int} (hk : k < ys.length) (h : markB ys[k] = false) : wellB size n ys = false := by
  unfold wellB
  have : ys.all markB = false := by
    rw [List.all_eq_false]
    exact ⟨_, List.getElem_mem hk, by rw [h]; decide⟩
  rw [this, Bool.and_false]
theorem wellB_ok {size : Int} {n : Nat} {ys : List Int} (h1 : (n : Int) = size * size) (h2 : ys.length = n) (h : ∀ j (hj : j < ys.length), markB ys[j] = true) : wellB size n ys = true := by
  unfold wellB
  rw [decide_eq_true h1, decide_eq_true h2, Bool.true_and, Bool.true_and, List.all_eq_true]
  intro y hy
  obtain ⟨j, hj, rfl⟩ := List.getElem_of_mem hy
  exact h j hj
theorem wellB_all {size : Int} {n : Nat} {ys : List Int} (h : wellB size n ys = true) : (n : Int) = size * size ∧ ys.length = n ∧ ∀ y, y ∈ ys → -1 ≤ y ∧ y ≤ 1 := by
  unfold wellB markB inB at h
  simp only [Bool.and_eq_true, decide_eq_true_eq, List.all_eq_true] at h
  exact ⟨h.1.1, h.1.2, h.2⟩
set_option maxRecDepth 100000 in
set_option maxHeartbeats 1000000 in
theorem specWell_is (cx cy : Nat) (deep size : Int) (hx : cx < 4294967296) (hy : cy < 4294967296) (hp : placeB cx cy deep size = true) (a a' : Option Addr) (n c c' : Nat) (ys : List Int) (hl : ys.length ≤ 1048576) (w : World) (hs : Sl w a' (ys.map intV)) :
    Calls Tryd.prog 21 #[.agg #[.complex .f32 cx cy, .int .i64 deep, .int .i64 size, .slice a n c, .slice a' ys.length c']] w fun e w' => e = .returned (.bool (wellB size n ys)) ∧ Below w.heap.size w w' := by
  obtain ⟨h1, h2, h3, h4⟩ := placeB_bd hp
  have hP := l7Place_is cx cy deep size hx hy
  rw [hp] at hP
  have HP := Lib.hid hP
  have B := Box.new w #[.complex .f32 cx cy, .int .i64 deep, .int .i64 size, .slice a n c, .slice a' ys.length c'] 27
  have HS := Lib.hid (hs.alloc (.cells #[.complex .f32 cx cy, .int .i64 deep, .int .i64 size, .slice a n c, .slice a' ys.length c'] 27))
  obtain ⟨m, hm⟩ : ∃ m, ys.length = m := ⟨_, rfl⟩
  obtain ⟨q, hq⟩ : ∃ q, size * size = q := ⟨_, rfl⟩
  have hqw : wrap64 (size * size) = q := by
    have h5 : size = 1 ∨ size = 2 ∨ size = 3 ∨ size = 4 ∨ size = 5 ∨ size = 6 ∨ size = 7 ∨ size = 8 := by omega
    have h6 : 0 ≤ q ∧ q ≤ 64 := by
      rcases h5 with rfl | rfl | rfl | rfl | rfl | rfl | rfl | rfl <;> omega
    rw [hq]; unfold wrap64; omega
  have HW1 : Hid (¬ (n : Int) = q → wellB size n ys = false) := fun h => wellB_len (by rw [hq]; exact h)
  have HW2 : Hid (¬ m = n → wellB size n ys = false) := fun h => wellB_len2 (by rw [hm]; exact h)
  have HW3 : Hid (∀ k (h : k < m), markB (ys[k]'(by rw [hm]; exact h)) = false → wellB size n ys = false) := fun k h => wellB_bad (by rw [hm]; exact h)
  have HW4 : Hid ((n : Int) = q → m = n → (∀ k (h : k < m), markB (ys[k]'(by rw [hm]; exact h)) = true) → wellB size n ys = true) := fun h1 h2 h3 => wellB_ok (by rw [hq]; exact h1) (by rw [hm]; exact h2) (fun j hj => h3 j (by rw [← hm]; exact hj))
  have HY : Hid (∀ k (h : k < m), (ys.map intV)[k]? = some (.int .i64 (ys[k]'(by rw [hm]; exact h)))) := fun k h => by rw [List.getElem?_map, List.getElem?_eq_getElem (by rw [hm]; exact h)]; rfl
  rw [hm] at B HS hl ⊢
  have HM := Lib.hid hm
  clear hP hp hs hq h1 h2 h3 h4
  generalize wellB size n ys = R at *
  go_enter Tryd.func21, Tryd.ntmps21
  go_wp2_with fail
  refine (HP.out _).mono ?_
  rintro e w1 ⟨rfl, hd⟩
  replace B := B.step (hd.below _)
  have HS1 := Lib.hid (HS.out.drw hd)
  clear hd HS HP
  have b2 := B.cell 2 _ rfl
  have b3 := B.cell 3 _ rfl
  have b4 := B.cell 4 _ rfl
  have HB := Lib.hid B.old
  clear B
  by_cases c1 : (n : Int) = q
  · have t1 : ((n : Int) != q) = false := by simpa using c1
    by_cases c2 : m = n
    · have t2 : ((m : Int) != n) = false := by simp; omega
      have HR := Lib.hid (HW4.out c1 c2)
      clear c1 c2 HW1 HW2 HW4
      go_wp2
      simp only [hqw]
      clear hqw
      go_loopw [2, 3] (fun _ i wr => ∃ k : Nat, k ≤ m ∧ i = .int .i64 k ∧ wr = w1 ∧ Hid (∀ j (h : j < m), j < k → markB (ys[j]'(by rw [HM.out]; exact h)) = true)) (fun _ i _ => (m - intOf i).toNat)
      case atStart => exact ⟨0, by omega, rfl, rfl, fun j _ hj => by omega⟩
      case round =>
        obtain ⟨k, hk, rfl, rfl, HD⟩ := hrel
        by_cases hlt : k < m
        · have hx := HY.out k hlt
          obtain ⟨b, off, rfl, hc⟩ := HS1.out.at hx
          have HD2 : Hid (markB (ys[k]'(by rw [HM.out]; exact hlt)) = true → ∀ j (h : j < m), j < k + 1 → markB (ys[j]'(by rw [HM.out]; exact h)) = true) := fun hyes j h hj => by
            by_cases e : j = k
            · subst e; exact hyes
            · exact HD.out j h (by omega)
          have HN := Lib.hid (HW3.out k hlt)
          clear hx
          generalize ys[k]'(by rw [HM.out]; exact hlt) = y at *
          cases hok : markB y with
          | false =>
            have HK := Lib.hid hok
            unfold markB at hok
            go_wp2_with (go_at_call 22; refine (l6In_any _ _ _ _).mono ?_; rw [hok]; rintro e w' ⟨rfl, rfl⟩)
            go_ret
            exact ⟨ret_bool (HN.out HK.out).symm, HB.out⟩
          | true =>
            have HK := Lib.hid hok
            unfold markB at hok
            go_wp2_with (go_at_call 22; refine (l6In_any _ _ _ _).mono ?_; rw [hok]; rintro e w' ⟨rfl, rfl⟩)
            go_roundw
            case rel => exact ⟨k + 1, by omega, by go_num, by trivial, HD2.out HK.out⟩
            case measure => simp [intOf]; omega
        · go_wp2
          go_ret
          exact ⟨ret_bool (HR.out (fun j h => HD.out j h (by omega))).symm, HB.out⟩
    · have t2 : ((m : Int) != n) = true := by simp; omega
      have HR := Lib.hid (HW2.out c2)
      clear c1 c2
      go_wp2
      go_ret
      exact ⟨ret_bool HR.out.symm, HB.out⟩
  · have t1 : ((n : Int) != q) = true := by simpa using c1
    have HR := Lib.hid (HW1.out c1)
    clear c1
    go_wp2
    go_ret
    exact ⟨ret_bool HR.out.symm, HB.out⟩
set_option maxRecDepth 100000 in
set_option maxHeartbeats 1000000 in
theorem implWell_is (cx cy : Nat) (deep size : Int) (hx : cx < 4294967296) (hy : cy < 4294967296) (hp : placeB cx cy deep size = true) (a a' : Option Addr) (n c c' : Nat) (ys : List Int) (hl : ys.length ≤ 1048576) (w : World) (hs : Sl w a' (ys.map intV)) :
    Calls Tryd.prog 19 #[.agg #[.complex .f32 cx cy, .int .i64 deep, .int .i64 size, .slice a n c, .slice a' ys.length c']] w fun e w' => e = .returned (.bool (wellB size n ys)) ∧ Below w.heap.size w w' := by
  obtain ⟨h1, h2, h3, h4⟩ := placeB_bd hp
  have hP := placeWell_ok cx cy deep size hx hy
  replace hP := hP hp
  have HP := Lib.hid hP
  have B := Box.new w #[.complex .f32 cx cy, .int .i64 deep, .int .i64 size, .slice a n c, .slice a' ys.length c'] 27
  have HS := Lib.hid (hs.alloc (.cells #[.complex .f32 cx cy, .int .i64 deep, .int .i64 size, .slice a n c, .slice a' ys.length c'] 27))
  obtain ⟨m, hm⟩ : ∃ m, ys.length = m := ⟨_, rfl⟩
  obtain ⟨q, hq⟩ : ∃ q, size * size = q := ⟨_, rfl⟩
  have hqw : wrap64 (size * size) = q := by
    have h5 : size = 1 ∨ size = 2 ∨ size = 3 ∨ size = 4 ∨ size = 5 ∨ size = 6 ∨ size = 7 ∨ size = 8 := by omega
    have h6 : 0 ≤ q ∧ q ≤ 64 := by
      rcases h5 with rfl | rfl | rfl | rfl | rfl | rfl | rfl | rfl <;> omega
    rw [hq]; unfold wrap64; omega
  have HW1 : Hid (¬ (n : Int) = q → wellB size n ys = false) := fun h => wellB_len (by rw [hq]; exact h)
  have HW2 : Hid (¬ m = n → wellB size n ys = false) := fun h => wellB_len2 (by rw [hm]; exact h)
  have HW3 : Hid (∀ k (h : k < m), markB (ys[k]'(by rw [hm]; exact h)) = false → wellB size n ys = false) := fun k h => wellB_bad (by rw [hm]; exact h)
  have HW4 : Hid ((n : Int) = q → m = n → (∀ k (h : k < m), markB (ys[k]'(by rw [hm]; exact h)) = true) → wellB size n ys = true) := fun h1 h2 h3 => wellB_ok (by rw [hq]; exact h1) (by rw [hm]; exact h2) (fun j hj => h3 j (by rw [← hm]; exact hj))
  have HY : Hid (∀ k (h : k < m), (ys.map intV)[k]? = some (.int .i64 (ys[k]'(by rw [hm]; exact h)))) := fun k h => by rw [List.getElem?_map, List.getElem?_eq_getElem (by rw [hm]; exact h)]; rfl
  rw [hm] at B HS hl ⊢
  have HM := Lib.hid hm
  clear hP hp hs hq h1 h2 h3 h4
  generalize wellB size n ys = R at *
  go_enter Tryd.func19, Tryd.ntmps19
  go_wp2_with fail
  refine (HP.out _).mono ?_
  rintro e w1 ⟨rfl, rfl⟩
  clear HP
  have b2 := B.cell 2 _ rfl
  have b3 := B.cell 3 _ rfl
  have b4 := B.cell 4 _ rfl
  have HB := Lib.hid B.old
  clear B
  by_cases c1 : (n : Int) = q
  · have t1 : ((n : Int) != q) = false := by simpa using c1
    by_cases c2 : m = n
    · have t2 : ((m : Int) != q) = false := by simp; omega
      have HR := Lib.hid (HW4.out c1 c2)
      clear c1 c2 HW1 HW2 HW4
      go_wp2
      simp only [hqw]
      clear hqw
      go_loop [2, 5, 34] (fun _ _ i => ∃ k : Nat, k ≤ m ∧ i = .int .i64 k ∧ Hid (∀ j (h : j < m), j < k → markB (ys[j]'(by rw [HM.out]; exact h)) = true)) (fun _ _ i => (m - intOf i).toNat)
      case atStart => exact ⟨0, by omega, rfl, fun j _ hj => by omega⟩
      case round =>
        obtain ⟨k, hk, rfl, HD⟩ := hrel
        by_cases hlt : k < m
        · have hx := HY.out k hlt
          obtain ⟨b, off, rfl, hc⟩ := HS.out.at hx
          have HD2 : Hid (markB (ys[k]'(by rw [HM.out]; exact hlt)) = true → ∀ j (h : j < m), j < k + 1 → markB (ys[j]'(by rw [HM.out]; exact h)) = true) := fun hyes j h hj => by
            by_cases e : j = k
            · subst e; exact hyes
            · exact HD.out j h (by omega)
          have HN := Lib.hid (HW3.out k hlt)
          clear hx
          generalize ys[k]'(by rw [HM.out]; exact hlt) = y at *
          by_cases y1 : y < -1
          · have hok : markB y = false := by unfold markB inB; simp; omega
            have HK := Lib.hid hok
            clear hok
            go_wp2
            go_ret
            exact ⟨ret_bool (HN.out HK.out).symm, HB.out⟩
          · by_cases y2 : 1 < y
            · have hok : markB y = false := by unfold markB inB; simp; omega
              have HK := Lib.hid hok
              clear hok
              go_wp2
              go_ret
              exact ⟨ret_bool (HN.out HK.out).symm, HB.out⟩
            · have hok : markB y = true := by unfold markB inB; simp; omega
              have HK := Lib.hid hok
              clear hok
              go_wp2
              go_round
              case rel => exact ⟨k + 1, by omega, by go_num, HD2.out HK.out⟩
              case measure => simp [intOf]; omega
        · go_wp2
          go_ret
          exact ⟨ret_bool (HR.out (fun j h => HD.out j h (by omega))).symm, HB.out⟩
    · have t2 : ((m : Int) != q) = true := by simp; omega
      have HR := Lib.hid (HW2.out c2)
      clear c1 c2
      go_wp2
      go_ret
      exact ⟨ret_bool HR.out.symm, HB.out⟩
  · have t1 : ((n : Int) != q) = true := by simpa using c1
    have HR := Lib.hid (HW1.out c1)
    clear c1
    go_wp2
    go_ret
    exact ⟨ret_bool HR.out.symm, HB.out⟩
end Go.Proofs.YtdfoobemgdiobaaDoor
