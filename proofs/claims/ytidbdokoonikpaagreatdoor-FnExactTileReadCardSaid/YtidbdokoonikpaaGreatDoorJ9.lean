/- Merged texts: Dyq, TilG, PtW, TilZ, Dyb, FloR. -/
import Derived.Test.YtidbdokoonikpaaGreatDoorJ8
import Derived.Lib.TrailingZeros
import Derived.Test.YtidbdokoonikpaaGreatDoorJ6
import Derived.Test.YtidbdokoonikpaaGreatDoorJ4
import Derived.Deep.RegionHeld3
import Derived.Test.YtidbdokoonikpaaGreatDoorJ2
import Derived.Test.YtidbdokoonikpaaGreatDoorJ1
section
/- Plain: floats cut into an odd number and a power. -/
namespace Go.Proofs.YtidbdokoonikpaaGreatDoor
open Flo

/-- what the cut of a float must be -/
def SplitOf (A : Int) (d : Nat) (o p : Int) : Prop := (A = 0 ∧ o = 0 ∧ p = 0) ∨ ∃ j : Nat, j ≤ 16 ∧ A = o * (2 ^ j : Nat) ∧ p = (j : Int) - d ∧ o % 2 = 1
theorem pow_cut {a n b m : Nat} (h : a * 2 ^ n = (2 * b + 1) * 2 ^ m) : ∃ j, m = n + j ∧ a = (2 * b + 1) * 2 ^ j := by
  rcases Nat.lt_or_ge m n with h1 | h1
  · obtain ⟨t, rfl⟩ : ∃ t, n = m + (t + 1) := ⟨n - m - 1, by omega⟩
    rw [Nat.pow_add, Nat.mul_comm (2 ^ m), ← Nat.mul_assoc] at h
    have := Nat.eq_of_mul_eq_mul_right (Nat.two_pow_pos m) h
    rw [Nat.pow_succ, ← Nat.mul_assoc] at this
    omega
  · obtain ⟨j, rfl⟩ : ∃ j, m = n + j := ⟨m - n, by omega⟩
    rw [Nat.pow_add, Nat.mul_comm (2 ^ n), ← Nat.mul_assoc] at h
    exact ⟨j, rfl, Nat.eq_of_mul_eq_mul_right (Nat.two_pow_pos n) h⟩
theorem pow_small {j b : Nat} (h : (2 * b + 1) * 2 ^ j ≤ 65536) : j ≤ 16 := by
  rcases Nat.lt_or_ge 16 j with h1 | h1
  · have h2 : 2 ^ 17 ≤ 2 ^ j := Nat.pow_le_pow_right (by omega) h1
    have h3 : 1 * 2 ^ j ≤ (2 * b + 1) * 2 ^ j := Nat.mul_le_mul_right _ (by omega)
    omega
  · exact h1
theorem val_sgn {z : Nat} {v : Int} (h : Val Ieee.double z v) : (v < 0 → sgn Ieee.double z = true) ∧ (0 < v → sgn Ieee.double z = false) := by
  have hiv := h.iv
  unfold iv at hiv
  constructor
  · intro hv
    cases hs : sgn Ieee.double z
    · rw [hs] at hiv
      simp only [Bool.false_eq_true, if_false] at hiv
      omega
    · rfl
  · intro hv
    cases hs : sgn Ieee.double z
    · rfl
    · rw [hs] at hiv
      simp only [if_true] at hiv
      omega
theorem split_plain {z : Nat} {A : Int} {d : Nat} (hd : d ≤ 11) (hA : A.natAbs ≤ 65536) (hz : Val Ieee.double z (A * (2 ^ (u64 - d) : Nat))) :
    (A = 0 ∧ z % 9223372036854775808 / 4503599627370496 = 0 ∧ z % 4503599627370496 = 0) ∨
    (0 < z % 9223372036854775808 / 4503599627370496 ∧ z % 9223372036854775808 / 4503599627370496 < 2047 ∧ ∃ o j : Nat, z % 4503599627370496 + 4503599627370496 = 2 ^ Lib.ctz 64 (z % 4503599627370496 + 4503599627370496) * (2 * o + 1) ∧ Lib.ctz 64 (z % 4503599627370496 + 4503599627370496) < 64 ∧
      Lib.ctz 64 (z % 4503599627370496 + 4503599627370496) + z % 9223372036854775808 / 4503599627370496 = 1075 - d + j ∧ j ≤ 16 ∧ 2 * o + 1 ≤ 65536 ∧
      ((A < 0 ∧ z / 9223372036854775808 = 1 ∧ A = -(2 * o + 1 : Int) * (2 ^ j : Nat)) ∨ (0 < A ∧ z / 9223372036854775808 = 0 ∧ A = (2 * o + 1 : Int) * (2 ^ j : Nat)))) := by
  obtain ⟨h1, h2, h3, h4⟩ := split_bits hz
  obtain ⟨s1, s2⟩ := val_sgn hz
  have hm : z % 4503599627370496 < 4503599627370496 := Nat.mod_lt _ (by omega)
  generalize z % 9223372036854775808 / 4503599627370496 = e at *
  generalize z % 4503599627370496 = m at *
  generalize z / 9223372036854775808 = s at *
  have hP : 0 < 2 ^ (u64 - d) := Nat.two_pow_pos _
  have hP52 : 2 ^ 52 ≤ 2 ^ (u64 - d) := Nat.pow_le_pow_right (by omega) (by rw [u64_eq]; omega)
  rw [Int.natAbs_mul, Int.natAbs_natCast] at h2
  by_cases hA0 : A = 0
  · left
    subst hA0
    have : 0 < 2 ^ (e - 1) := Nat.two_pow_pos _
    simp only [Int.natAbs_zero, Nat.zero_mul] at h2
    have h5 := (Nat.mul_eq_zero.1 h2.symm).resolve_right (by omega)
    split at h5
    · exact ⟨rfl, ‹_›, h5⟩
    · omega
  · right
    have he : e ≠ 0 := by
      rintro rfl
      rw [if_pos rfl] at h2
      simp only [Nat.zero_sub, Nat.pow_zero, Nat.mul_one] at h2
      have : 1 * 2 ^ (u64 - d) ≤ A.natAbs * 2 ^ (u64 - d) := Nat.mul_le_mul_right _ (by omega)
      omega
    rw [if_neg he] at h2
    obtain ⟨o, ho, hk⟩ := Lib.ctzFrom_spec 64 (m + 4503599627370496) (by omega) (by omega)
    have hc : Lib.ctz 64 (m + 4503599627370496) = Lib.ctzFrom 64 (m + 4503599627370496) := by unfold Lib.ctz; rw [if_neg (by omega)]
    rw [← hc] at ho hk
    generalize Lib.ctz 64 (m + 4503599627370496) = k at *
    have h6 : A.natAbs * 2 ^ (u64 - d) = (2 * o + 1) * 2 ^ (k + (e - 1)) := by
      rw [h2, ho, Nat.pow_add, Nat.mul_comm (2 ^ k), Nat.mul_assoc]
    obtain ⟨j, hj, ha⟩ := pow_cut h6
    have hj16 : j ≤ 16 := pow_small (b := o) (by omega)
    have ho2 : 2 * o + 1 ≤ 65536 := by
      have : (2 * o + 1) * 1 ≤ (2 * o + 1) * 2 ^ j := Nat.mul_le_mul_left _ (Nat.two_pow_pos j)
      omega
    refine ⟨by omega, h4, o, j, ho, hk, by rw [u64_eq] at hj; omega, hj16, ho2, ?_⟩
    have hpos : (0 : Int) < (2 ^ (u64 - d) : Nat) := Int.ofNat_lt.2 hP
    have ha2 : (A.natAbs : Int) = (2 * o + 1 : Int) * (2 ^ j : Nat) := by rw [ha]; simp
    rcases Int.lt_or_lt_of_ne hA0 with h | h
    · left
      rw [s1 (Int.mul_neg_of_neg_of_pos h hpos)] at h3
      refine ⟨h, h3, ?_⟩
      rw [Int.neg_mul, ← ha2]
      omega
    · right
      rw [s2 (Int.mul_pos h hpos)] at h3
      refine ⟨h, h3, ?_⟩
      rw [← ha2]
      omega
theorem u64_and_mask (a m : Nat) (ha : a < 18446744073709551616) (hm : m ≤ 63) : bits .and .u64 (a : Int) ((2 ^ m - 1 : Nat) : Int) = ((a % 2 ^ m : Nat) : Int) := by
  have hp : 2 ^ m ≤ 2 ^ 63 := Nat.pow_le_pow_right (by omega) hm
  have hp0 : 0 < 2 ^ m := Nat.two_pow_pos m
  have hlt : a % 2 ^ m < 2 ^ m := Nat.mod_lt _ hp0
  show IntKind.u64.wrap ((BitVec.ofInt 64 a &&& BitVec.ofInt 64 ((2 ^ m - 1 : Nat) : Int)).toNat : Int) = _
  rw [BitVec.toNat_and, BitVec.toNat_ofInt, BitVec.toNat_ofInt]
  rw [show ((a : Int) % (2 ^ 64 : Nat)).toNat = a by omega, show (((2 ^ m - 1 : Nat) : Int) % (2 ^ 64 : Nat)).toNat = 2 ^ m - 1 by omega, Nat.and_two_pow_sub_one_eq_mod]
  generalize a % 2 ^ m = r at *
  simp [IntKind.wrap, IntKind.bits, IntKind.signed]
  omega
theorem i64_and_mask (a m : Nat) (ha : a < 9223372036854775808) (hm : m ≤ 62) : bits .and .i64 (a : Int) ((2 ^ m - 1 : Nat) : Int) = ((a % 2 ^ m : Nat) : Int) := by
  have hp : 2 ^ m ≤ 2 ^ 62 := Nat.pow_le_pow_right (by omega) hm
  have hp0 : 0 < 2 ^ m := Nat.two_pow_pos m
  have hlt : a % 2 ^ m < 2 ^ m := Nat.mod_lt _ hp0
  show IntKind.i64.wrap ((BitVec.ofInt 64 a &&& BitVec.ofInt 64 ((2 ^ m - 1 : Nat) : Int)).toNat : Int) = _
  rw [BitVec.toNat_and, BitVec.toNat_ofInt, BitVec.toNat_ofInt]
  rw [show ((a : Int) % (2 ^ 64 : Nat)).toNat = a by omega, show (((2 ^ m - 1 : Nat) : Int) % (2 ^ 64 : Nat)).toNat = 2 ^ m - 1 by omega, Nat.and_two_pow_sub_one_eq_mod]
  generalize a % 2 ^ m = r at *
  simp [IntKind.wrap, IntKind.bits, IntKind.signed]
  omega
theorem u64_or_top (a m : Nat) (ha : a < 2 ^ m) (hm : m ≤ 62) : bits .or .u64 (a : Int) ((2 ^ m : Nat) : Int) = ((a + 2 ^ m : Nat) : Int) := by
  have hp : 2 ^ m ≤ 2 ^ 62 := Nat.pow_le_pow_right (by omega) hm
  show IntKind.u64.wrap ((BitVec.ofInt 64 a ||| BitVec.ofInt 64 ((2 ^ m : Nat) : Int)).toNat : Int) = _
  rw [BitVec.toNat_or, BitVec.toNat_ofInt, BitVec.toNat_ofInt]
  rw [show ((a : Int) % (2 ^ 64 : Nat)).toNat = a by omega, show (((2 ^ m : Nat) : Int) % (2 ^ 64 : Nat)).toNat = 2 ^ m by omega]
  have e := Nat.two_pow_add_eq_or_of_lt ha 1
  rw [Nat.mul_one] at e
  rw [Nat.or_comm, ← e]
  generalize 2 ^ m = P at *
  simp [IntKind.wrap, IntKind.bits, IntKind.signed]
  omega
end Go.Proofs.YtidbdokoonikpaaGreatDoor
end

section
/- Walks: the program's and the reference's TileWell at a tile whose place is told. -/
namespace Go.Proofs.YtidbdokoonikpaaGreatDoor
open Go.RowKit

/-- is a mark one of a tile -/
def markB (y : Int) : Bool := inB y (-1) 1
/-- is a tile with a good place well made -/
def wellB (size : Int) (n : Nat) (ys : List Int) : Bool := decide ((n : Int) = size * size) && decide (ys.length = n) && ys.all markB
theorem wellB_len {size : Int} {n : Nat} {ys : List Int} (h : ¬ (n : Int) = size * size) : wellB size n ys = false := by unfold wellB; rw [decide_eq_false h]; rfl
theorem wellB_len2 {size : Int} {n : Nat} {ys : List Int} (h : ¬ ys.length = n) : wellB size n ys = false := by unfold wellB; rw [decide_eq_false h]; simp
theorem wellB_bad {size : Int} {n k : Nat} {ys : List Int} (hk : k < ys.length) (h : markB ys[k] = false) : wellB size n ys = false := by
  unfold wellB
  have : ys.all markB = false := by
    rw [List.all_eq_false]
    exact ⟨_, List.getElem_mem hk, by rw [h]; decide⟩
  rw [this, Bool.and_false]
theorem wellB_ok {size : Int} {n : Nat} {ys : List Int} (h1 : (n : Int) = size * size) (h2 : ys.length = n) (h : ∀ j (hj : j < ys.length), markB ys[j] = true) : wellB size n ys = true := by
  unfold wellB
  rw [decide_eq_true h1, decide_eq_true h2, Bool.true_and, Bool.true_and, List.all_eq_true]
  intro y hy
  obtain ⟨j, hj, rfl⟩ := List.getElem_of_mem hy
  exact h j hj
theorem wellB_all {size : Int} {n : Nat} {ys : List Int} (h : wellB size n ys = true) : (n : Int) = size * size ∧ ys.length = n ∧ ∀ y, y ∈ ys → -1 ≤ y ∧ y ≤ 1 := by
  unfold wellB markB inB at h
  simp only [Bool.and_eq_true, decide_eq_true_eq, List.all_eq_true] at h
  exact ⟨h.1.1, h.1.2, h.2⟩
set_option maxRecDepth 100000 in
set_option maxHeartbeats 1000000 in
theorem specWell_is (cx cy : Nat) (deep size : Int) (hx : cx < 4294967296) (hy : cy < 4294967296) (hp : placeB cx cy deep size = true) (a a' : Option Addr) (n c c' : Nat) (ys : List Int) (hl : ys.length ≤ 1048576) (w : World) (hs : Sl w a' (ys.map intV)) :
    Calls Tryz.prog 58 #[.agg #[.complex .f32 cx cy, .int .i64 deep, .int .i64 size, .slice a n c, .slice a' ys.length c']] w fun e w' => e = .returned (.bool (wellB size n ys)) ∧ Below w.heap.size w w' := by
  obtain ⟨h1, h2, h3, h4⟩ := placeB_bd hp
  have hP := l7Place_is cx cy deep size hx hy
  rw [hp] at hP
  have HP := Lib.hid hP
  have B := Box.new w #[.complex .f32 cx cy, .int .i64 deep, .int .i64 size, .slice a n c, .slice a' ys.length c'] 27
  have HS := Lib.hid (hs.alloc (.cells #[.complex .f32 cx cy, .int .i64 deep, .int .i64 size, .slice a n c, .slice a' ys.length c'] 27))
  obtain ⟨m, hm⟩ : ∃ m, ys.length = m := ⟨_, rfl⟩
  obtain ⟨q, hq⟩ : ∃ q, size * size = q := ⟨_, rfl⟩
  have hqw : wrap64 (size * size) = q := by
    have h5 : size = 1 ∨ size = 2 ∨ size = 3 ∨ size = 4 ∨ size = 5 ∨ size = 6 ∨ size = 7 ∨ size = 8 := by omega
    have h6 : 0 ≤ q ∧ q ≤ 64 := by
      rcases h5 with rfl | rfl | rfl | rfl | rfl | rfl | rfl | rfl <;> omega
    rw [hq]; unfold wrap64; omega
  have HW1 : Hid (¬ (n : Int) = q → wellB size n ys = false) := fun h => wellB_len (by rw [hq]; exact h)
  have HW2 : Hid (¬ m = n → wellB size n ys = false) := fun h => wellB_len2 (by rw [hm]; exact h)
  have HW3 : Hid (∀ k (h : k < m), markB (ys[k]'(by rw [hm]; exact h)) = false → wellB size n ys = false) := fun k h => wellB_bad (by rw [hm]; exact h)
  have HW4 : Hid ((n : Int) = q → m = n → (∀ k (h : k < m), markB (ys[k]'(by rw [hm]; exact h)) = true) → wellB size n ys = true) := fun h1 h2 h3 => wellB_ok (by rw [hq]; exact h1) (by rw [hm]; exact h2) (fun j hj => h3 j (by rw [← hm]; exact hj))
  have HY : Hid (∀ k (h : k < m), (ys.map intV)[k]? = some (.int .i64 (ys[k]'(by rw [hm]; exact h)))) := fun k h => by rw [List.getElem?_map, List.getElem?_eq_getElem (by rw [hm]; exact h)]; rfl
  rw [hm] at B HS hl ⊢
  have HM := Lib.hid hm
  clear hP hp hs hq h1 h2 h3 h4
  generalize wellB size n ys = R at *
  go_enter Tryz.func58, Tryz.ntmps58
  go_wp2_with fail
  refine (HP.out _).mono ?_
  rintro e w1 ⟨rfl, hd⟩
  replace B := B.step (hd.below _)
  have HS1 := Lib.hid (HS.out.drw hd)
  clear hd HS HP
  have b2 := B.cell 2 _ rfl
  have b3 := B.cell 3 _ rfl
  have b4 := B.cell 4 _ rfl
  have HB := Lib.hid B.old
  clear B
  by_cases c1 : (n : Int) = q
  · have t1 : ((n : Int) != q) = false := by simpa using c1
    by_cases c2 : m = n
    · have t2 : ((m : Int) != n) = false := by simp; omega
      have HR := Lib.hid (HW4.out c1 c2)
      clear c1 c2 HW1 HW2 HW4
      go_wp2
      simp only [hqw]
      clear hqw
      go_loopw [2, 3] (fun _ i wr => ∃ k : Nat, k ≤ m ∧ i = .int .i64 k ∧ wr = w1 ∧ Hid (∀ j (h : j < m), j < k → markB (ys[j]'(by rw [HM.out]; exact h)) = true)) (fun _ i _ => (m - intOf i).toNat)
      case atStart => exact ⟨0, by omega, rfl, rfl, fun j _ hj => by omega⟩
      case round =>
        obtain ⟨k, hk, rfl, rfl, HD⟩ := hrel
        by_cases hlt : k < m
        · have hx := HY.out k hlt
          obtain ⟨b, off, rfl, hc⟩ := HS1.out.at hx
          have HD2 : Hid (markB (ys[k]'(by rw [HM.out]; exact hlt)) = true → ∀ j (h : j < m), j < k + 1 → markB (ys[j]'(by rw [HM.out]; exact h)) = true) := fun hyes j h hj => by
            by_cases e : j = k
            · subst e; exact hyes
            · exact HD.out j h (by omega)
          have HN := Lib.hid (HW3.out k hlt)
          clear hx
          generalize ys[k]'(by rw [HM.out]; exact hlt) = y at *
          cases hok : markB y with
          | false =>
            have HK := Lib.hid hok
            unfold markB at hok
            go_wp2_with (go_at_call 79; refine (l6In_any _ _ _ _).mono ?_; rw [hok]; rintro e w' ⟨rfl, rfl⟩)
            go_ret
            exact ⟨ret_bool (HN.out HK.out).symm, HB.out⟩
          | true =>
            have HK := Lib.hid hok
            unfold markB at hok
            go_wp2_with (go_at_call 79; refine (l6In_any _ _ _ _).mono ?_; rw [hok]; rintro e w' ⟨rfl, rfl⟩)
            go_roundw
            case rel => exact ⟨k + 1, by omega, by go_num, by trivial, HD2.out HK.out⟩
            case measure => simp [intOf]; omega
        · go_wp2
          go_ret
          exact ⟨ret_bool (HR.out (fun j h => HD.out j h (by omega))).symm, HB.out⟩
    · have t2 : ((m : Int) != n) = true := by simp; omega
      have HR := Lib.hid (HW2.out c2)
      clear c1 c2
      go_wp2
      go_ret
      exact ⟨ret_bool HR.out.symm, HB.out⟩
  · have t1 : ((n : Int) != q) = true := by simpa using c1
    have HR := Lib.hid (HW1.out c1)
    clear c1
    go_wp2
    go_ret
    exact ⟨ret_bool HR.out.symm, HB.out⟩
set_option maxRecDepth 100000 in
set_option maxHeartbeats 1000000 in
theorem implWell_is (cx cy : Nat) (deep size : Int) (hx : cx < 4294967296) (hy : cy < 4294967296) (hp : placeB cx cy deep size = true) (a a' : Option Addr) (n c c' : Nat) (ys : List Int) (hl : ys.length ≤ 1048576) (w : World) (hs : Sl w a' (ys.map intV)) :
    Calls Tryz.prog 14 #[.agg #[.complex .f32 cx cy, .int .i64 deep, .int .i64 size, .slice a n c, .slice a' ys.length c']] w fun e w' => e = .returned (.bool (wellB size n ys)) ∧ Below w.heap.size w w' := by
  obtain ⟨h1, h2, h3, h4⟩ := placeB_bd hp
  have hP := placeWell_ok cx cy deep size hx hy
  replace hP := hP hp
  have HP := Lib.hid hP
  have B := Box.new w #[.complex .f32 cx cy, .int .i64 deep, .int .i64 size, .slice a n c, .slice a' ys.length c'] 27
  have HS := Lib.hid (hs.alloc (.cells #[.complex .f32 cx cy, .int .i64 deep, .int .i64 size, .slice a n c, .slice a' ys.length c'] 27))
  obtain ⟨m, hm⟩ : ∃ m, ys.length = m := ⟨_, rfl⟩
  obtain ⟨q, hq⟩ : ∃ q, size * size = q := ⟨_, rfl⟩
  have hqw : wrap64 (size * size) = q := by
    have h5 : size = 1 ∨ size = 2 ∨ size = 3 ∨ size = 4 ∨ size = 5 ∨ size = 6 ∨ size = 7 ∨ size = 8 := by omega
    have h6 : 0 ≤ q ∧ q ≤ 64 := by
      rcases h5 with rfl | rfl | rfl | rfl | rfl | rfl | rfl | rfl <;> omega
    rw [hq]; unfold wrap64; omega
  have HW1 : Hid (¬ (n : Int) = q → wellB size n ys = false) := fun h => wellB_len (by rw [hq]; exact h)
  have HW2 : Hid (¬ m = n → wellB size n ys = false) := fun h => wellB_len2 (by rw [hm]; exact h)
  have HW3 : Hid (∀ k (h : k < m), markB (ys[k]'(by rw [hm]; exact h)) = false → wellB size n ys = false) := fun k h => wellB_bad (by rw [hm]; exact h)
  have HW4 : Hid ((n : Int) = q → m = n → (∀ k (h : k < m), markB (ys[k]'(by rw [hm]; exact h)) = true) → wellB size n ys = true) := fun h1 h2 h3 => wellB_ok (by rw [hq]; exact h1) (by rw [hm]; exact h2) (fun j hj => h3 j (by rw [← hm]; exact hj))
  have HY : Hid (∀ k (h : k < m), (ys.map intV)[k]? = some (.int .i64 (ys[k]'(by rw [hm]; exact h)))) := fun k h => by rw [List.getElem?_map, List.getElem?_eq_getElem (by rw [hm]; exact h)]; rfl
  rw [hm] at B HS hl ⊢
  have HM := Lib.hid hm
  clear hP hp hs hq h1 h2 h3 h4
  generalize wellB size n ys = R at *
  go_enter Tryz.func14, Tryz.ntmps14
  go_wp2_with fail
  refine (HP.out _).mono ?_
  rintro e w1 ⟨rfl, rfl⟩
  clear HP
  have b2 := B.cell 2 _ rfl
  have b3 := B.cell 3 _ rfl
  have b4 := B.cell 4 _ rfl
  have HB := Lib.hid B.old
  clear B
  by_cases c1 : (n : Int) = q
  · have t1 : ((n : Int) != q) = false := by simpa using c1
    by_cases c2 : m = n
    · have t2 : ((m : Int) != q) = false := by simp; omega
      have HR := Lib.hid (HW4.out c1 c2)
      clear c1 c2 HW1 HW2 HW4
      go_wp2
      simp only [hqw]
      clear hqw
      go_loop [2, 5, 34] (fun _ _ i => ∃ k : Nat, k ≤ m ∧ i = .int .i64 k ∧ Hid (∀ j (h : j < m), j < k → markB (ys[j]'(by rw [HM.out]; exact h)) = true)) (fun _ _ i => (m - intOf i).toNat)
      case atStart => exact ⟨0, by omega, rfl, fun j _ hj => by omega⟩
      case round =>
        obtain ⟨k, hk, rfl, HD⟩ := hrel
        by_cases hlt : k < m
        · have hx := HY.out k hlt
          obtain ⟨b, off, rfl, hc⟩ := HS.out.at hx
          have HD2 : Hid (markB (ys[k]'(by rw [HM.out]; exact hlt)) = true → ∀ j (h : j < m), j < k + 1 → markB (ys[j]'(by rw [HM.out]; exact h)) = true) := fun hyes j h hj => by
            by_cases e : j = k
            · subst e; exact hyes
            · exact HD.out j h (by omega)
          have HN := Lib.hid (HW3.out k hlt)
          clear hx
          generalize ys[k]'(by rw [HM.out]; exact hlt) = y at *
          by_cases y1 : y < -1
          · have hok : markB y = false := by unfold markB inB; simp; omega
            have HK := Lib.hid hok
            clear hok
            go_wp2
            go_ret
            exact ⟨ret_bool (HN.out HK.out).symm, HB.out⟩
          · by_cases y2 : 1 < y
            · have hok : markB y = false := by unfold markB inB; simp; omega
              have HK := Lib.hid hok
              clear hok
              go_wp2
              go_ret
              exact ⟨ret_bool (HN.out HK.out).symm, HB.out⟩
            · have hok : markB y = true := by unfold markB inB; simp; omega
              have HK := Lib.hid hok
              clear hok
              go_wp2
              go_round
              case rel => exact ⟨k + 1, by omega, by go_num, HD2.out HK.out⟩
              case measure => simp [intOf]; omega
        · go_wp2
          go_ret
          exact ⟨ret_bool (HR.out (fun j h => HD.out j h (by omega))).symm, HB.out⟩
    · have t2 : ((m : Int) != q) = true := by simp; omega
      have HR := Lib.hid (HW2.out c2)
      clear c1 c2
      go_wp2
      go_ret
      exact ⟨ret_bool HR.out.symm, HB.out⟩
  · have t1 : ((n : Int) != q) = true := by simpa using c1
    have HR := Lib.hid (HW1.out c1)
    clear c1
    go_wp2
    go_ret
    exact ⟨ret_bool HR.out.symm, HB.out⟩
end Go.Proofs.YtidbdokoonikpaaGreatDoor
end

section
/- Walks: points of cells (cut out of TilW). -/
namespace Go.Proofs.YtidbdokoonikpaaGreatDoor
open Go.RowKit Flo

def ptF (c d : Nat) (j : Int) : Nat := (floatBits .add .f32 c ((floatBits .mul .f32 (floatOfInt .f32 j) (sideF d)).getD 0)).getD 0
theorem ptF_is {c d : Nat} {A : Int} (hd : d ≤ 11) (hc : Pt c d A) (hA : A.natAbs ≤ 65536) (j : Int) (hj : j.natAbs ≤ 65536) :
    ∃ p, floatBits .mul .f32 (floatOfInt .f32 j) (sideF d) = some p ∧ floatBits .add .f32 c p = some (ptF c d j) ∧ Pt (ptF c d j) d (A + j) := by
  obtain ⟨p, x, h1, h2, h3⟩ := point_pt hd hc hA j hj
  have e : ptF c d j = x := by unfold ptF; rw [h1]; simp only [Option.getD_some]; rw [h2]; rfl
  rw [e]
  exact ⟨p, h1, h2, h3⟩
theorem place_pts {cx cy : Nat} {deep size : Int} (hx : cx < 4294967296) (hy : cy < 4294967296) (hp : placeB cx cy deep size = true) : ∃ (d : Nat) (A B : Int), deep = d ∧ d ≤ 10 ∧ Pt cx d A ∧ Pt cy d B ∧ A.natAbs ≤ 4 * 2 ^ d ∧ B.natAbs ≤ 4 * 2 ^ d ∧ A.natAbs ≤ 4096 ∧ B.natAbs ≤ 4096 := by
  obtain ⟨h1, h2, h3, h4⟩ := placeB_bd hp
  obtain ⟨d, rfl⟩ := Int.eq_ofNat_of_zero_le h1
  unfold placeB at hp
  rw [Bool.and_eq_true, Bool.and_eq_true, Int.toNat_natCast] at hp
  obtain ⟨A, hA, ha⟩ := whole_pt hx (by omega) hp.1.2
  obtain ⟨B, hB, hb⟩ := whole_pt hy (by omega) hp.2
  have hdp : 2 ^ d ≤ 2 ^ 10 := Nat.pow_le_pow_right (by omega) (by omega)
  exact ⟨d, A, B, rfl, by omega, hA, hB, ha, hb, by omega, by omega⟩
def ptC (cx cy : Nat) (deep : Int) (i j : Int) : Nat × Nat := (ptF cx deep.toNat j, ptF cy deep.toNat i)
theorem ptC_lt {cx cy : Nat} {deep size : Int} (hx : cx < 4294967296) (hy : cy < 4294967296) (hp : placeB cx cy deep size = true) (i j : Int) (hi : i.natAbs ≤ 5000) (hj : j.natAbs ≤ 5000) : (ptC cx cy deep i j).1 < 4294967296 ∧ (ptC cx cy deep i j).2 < 4294967296 := by
  obtain ⟨d, A, B, rfl, hd, hA, hB, _, _, ha, hb⟩ := place_pts hx hy hp
  obtain ⟨p, _, _, h1⟩ := ptF_is (by omega) hA (by omega) j (by omega)
  obtain ⟨q, _, _, h2⟩ := ptF_is (by omega) hB (by omega) i (by omega)
  unfold ptC
  rw [Int.toNat_natCast]
  exact ⟨pt_lt h1, pt_lt h2⟩
theorem specPoint_is (cx cy : Nat) (deep size : Int) (hx : cx < 4294967296) (hy : cy < 4294967296) (hp : placeB cx cy deep size = true) (i j : Int) (hi : i.natAbs ≤ 5000) (hj : j.natAbs ≤ 5000) (w : World) :
    Calls Tryz.prog 76 #[.complex .f32 cx cy, .int .i64 deep, .int .i64 i, .int .i64 j] w fun e w' => e = .returned (.complex .f32 (ptC cx cy deep i j).1 (ptC cx cy deep i j).2) ∧ w = w' := by
  obtain ⟨d, A, B, rfl, hd, hA, hB, _, _, ha, hb⟩ := place_pts hx hy hp
  obtain ⟨p, e1, e2, h1⟩ := ptF_is (by omega) hA (by omega) j (by omega)
  obtain ⟨q, e3, e4, h2⟩ := ptF_is (by omega) hB (by omega) i (by omega)
  unfold ptC
  rw [Int.toNat_natCast]
  exact l7Point_is cx cy d i j (by omega) e1 e3 e2 e4 w
end Go.Proofs.YtidbdokoonikpaaGreatDoor
end

section
/- Walks: the program's TilePoint at a well made tile. -/
namespace Go.Proofs.YtidbdokoonikpaaGreatDoor
open Go.RowKit Flo

end Go.Proofs.YtidbdokoonikpaaGreatDoor
end

section
/- Walks: floats cut into an odd number and a power; exact numbers of floats. -/
namespace Go.Proofs.YtidbdokoonikpaaGreatDoor
open Go.RowKit Flo

theorem two52 : (2 : Nat) ^ 52 = 4503599627370496 := by decide
theorem mask52 (z : Nat) (hz : z < 18446744073709551616) : bits .and .u64 (z : Int) 4503599627370495 = ((z % 4503599627370496 : Nat) : Int) := by
  have h := u64_and_mask z 52 hz (by omega)
  rw [two52] at h
  exact h
theorem mask11 (z : Nat) (hz : z < 9223372036854775808) : bits .and .i64 (z : Int) 2047 = ((z % 2048 : Nat) : Int) := by
  have h := i64_and_mask z 11 hz (by omega)
  rw [show (2 : Nat) ^ 11 = 2048 by decide] at h
  exact h
theorem top52 (z : Nat) (hz : z < 4503599627370496) : bits .or .u64 (z : Int) 4503599627370496 = ((z + 4503599627370496 : Nat) : Int) := by
  have h := u64_or_top z 52 (by rw [two52]; exact hz) (by omega)
  rw [two52] at h
  exact h
theorem bits64_run (z : Nat) (w : World) : (callFunc 152 #[.float .f64 z]).run Tryz.prog w = .ok (.value (.int .u64 z)) w := by
  kernel_rfl
set_option maxHeartbeats 400000 in
theorem isNaN_fin {z : Nat} {A : Int} (hz : Val Ieee.double z A) (w : World) : Calls Tryz.prog 136 #[.float .f64 z] w fun e w' => e = .returned (.bool false) ∧ w = w' := by
  have h : (FloatKind.f64.format.order z z != some .eq) = false := by
    have := order_eq_val (k := .f64) hz hz
    simp only [decide_true, beq_iff_eq] at this
    rw [this]
    rfl
  clear hz
  go_enter Tryz.func136, Tryz.ntmps136
  go_wp2
  go_ret
  exact ⟨rfl, rfl⟩
theorem frombits_run (z : Nat) (w : World) : (callFunc 151 #[.int .u64 z]).run Tryz.prog w = .ok (.value (.float .f64 z)) w := by
  kernel_rfl
set_option maxHeartbeats 400000 in
theorem abs_is (z : Nat) (hz : z < 18446744073709551616) (w : World) : Calls Tryz.prog 147 #[.float .f64 z] w fun e w' => e = .returned (.float .f64 (z % 9223372036854775808)) ∧ w = w' := by
  have b1 := fun w => bits64_run z w
  have b2 := andNot_sign z hz
  have b3 := fun w => frombits_run (z % 9223372036854775808) w
  generalize z % 9223372036854775808 = y at *
  go_enter Tryz.func147, Tryz.ntmps147
  go_wp2
  go_ret
  exact ⟨rfl, rfl⟩
set_option maxHeartbeats 400000 in
theorem isInf_fin {z : Nat} {A : Int} (hz : Val Ieee.double z A) (hA : A.natAbs ≤ 8192 * 2 ^ u64) (w : World) : Calls Tryz.prog 137 #[.float .f64 z, .int .i64 0] w fun e w' => e = .returned (.bool false) ∧ w = w' := by
  have h : (FloatKind.f64.format.order (z % 9223372036854775808) 9218868437227405311 == some .gt) = false := by
    have h := abs_val hz
    rw [signWeight64] at h
    rw [order_gt_val (k := .f64) h max_val]
    have h4 := Nat.le_trans hA max_ge
    simp only [decide_eq_false_iff_not]
    exact Int.not_lt.2 (Int.ofNat_le.2 h4)
  have HB := Lib.hid (fun w => abs_is z hz.lt w)
  clear hz hA
  generalize z % 9223372036854775808 = y at *
  go_enter Tryz.func137, Tryz.ntmps137
  go_wp2_with (go_at_call 147; refine (HB.out _).mono ?_; rintro e w' ⟨rfl, rfl⟩)
  go_ret
  exact ⟨rfl, rfl⟩

/-- what a part raised must be -/
def Raise (o u X : Int) : Prop := (o = 0 ∧ X = 0) ∨ (o ≠ 0 ∧ ∃ n : Nat, u = n ∧ n ≤ 16 ∧ X = o * 2 ^ n ∧ X.natAbs ≤ 65536)
theorem raise_one {A o p : Int} {d S : Nat} (hA : A.natAbs ≤ 65536) (h : SplitOf A d o p) (hS : S ≤ d) (hp : -p ≤ S) : ∃ X, Raise o (p + S) X ∧ A = X * (2 ^ (d - S) : Nat) ∧ X.natAbs ≤ 65536 := by
  rcases h with ⟨h1, h2, h3⟩ | ⟨j, h1, h2, h3, h4⟩
  · exact ⟨0, .inl ⟨h2, rfl⟩, by rw [h1, Int.zero_mul], by decide⟩
  · obtain ⟨n, hn⟩ : ∃ n : Nat, p + S = n := ⟨(p + S).toNat, by omega⟩
    have hjn : j = n + (d - S) := by omega
    have hX : A = o * 2 ^ n * (2 ^ (d - S) : Nat) := by
      rw [h2, hjn, Nat.pow_add, Int.natCast_mul, Int.mul_assoc]
      simp
    have hb : (o * 2 ^ n).natAbs ≤ 65536 := by
      have h5 := congrArg Int.natAbs hX
      rw [Int.natAbs_mul, Int.natAbs_natCast] at h5
      have h6 : (o * 2 ^ n).natAbs * 1 ≤ (o * 2 ^ n).natAbs * 2 ^ (d - S) := Nat.mul_le_mul_left _ (Nat.two_pow_pos _)
      omega
    exact ⟨o * 2 ^ n, .inr ⟨by omega, n, hn, by omega, rfl, hb⟩, hX, hb⟩
theorem split_bd {A o p : Int} {d : Nat} (hA : A.natAbs ≤ 65536) (h : SplitOf A d o p) : -(d : Int) ≤ p ∧ p ≤ 16 ∧ o.natAbs ≤ 65536 := by
  rcases h with ⟨h1, h2, h3⟩ | ⟨j, h1, h2, h3, h4⟩
  · omega
  · refine ⟨by omega, by omega, ?_⟩
    have h5 : o.natAbs * 2 ^ j = A.natAbs := by rw [h2, Int.natAbs_mul, Int.natAbs_natCast]
    have h6 : o.natAbs * 1 ≤ o.natAbs * 2 ^ j := Nat.mul_le_mul_left _ (Nat.two_pow_pos _)
    omega

end Go.Proofs.YtidbdokoonikpaaGreatDoor
end

section
/- Plain: floats that are the same, or no numbers both. -/
namespace Go.Proofs.YtidbdokoonikpaaGreatDoor.Flo
open Go.RowKit Ieee

/-- the same float, or no number both -/
def Al (k : FloatKind) (x y : Nat) : Prop := x = y ∨ (nan k x = true ∧ nan k y = true)
theorem Al.refl (k : FloatKind) (x : Nat) : Al k x x := .inl rfl
theorem Al.symm {k : FloatKind} {x y : Nat} (h : Al k x y) : Al k y x := h.elim (fun h => .inl h.symm) (fun h => .inr ⟨h.2, h.1⟩)
theorem Al.nan_eq {k : FloatKind} {x y : Nat} (h : Al k x y) : nan k x = nan k y := by
  rcases h with rfl | ⟨h1, h2⟩
  · rfl
  · rw [h1, h2]
theorem Al.trans {k : FloatKind} {x y z : Nat} (h : Al k x y) (g : Al k y z) : Al k x z := by
  rcases h with rfl | ⟨h1, h2⟩
  · exact g
  · exact .inr ⟨h1, by rw [← g.nan_eq]; exact h2⟩
theorem Al.order {k : FloatKind} {x y x' y' : Nat} (h : Al k x x') (g : Al k y y') : k.format.order x y = k.format.order x' y' := by
  rcases h with rfl | ⟨h1, h2⟩
  · rcases g with rfl | ⟨g1, g2⟩
    · rfl
    · rw [order_nan_right x g1, order_nan_right x g2]
  · rw [order_nan_left y h1, order_nan_left y' h2]
theorem sum_number {a b d : Datum} (h : Datum.sum a b = some d) : d.isNaN = false := by
  cases a <;> cases b <;> simp [Datum.sum] at h
  all_goals first
    | (obtain ⟨_, rfl⟩ := h; rfl)
    | (subst h; rfl)
theorem product_number {a b d : Datum} (h : Datum.product a b = some d) : d.isNaN = false := by
  cases a <;> cases b <;> simp [Datum.product] at h
  all_goals first
    | (obtain ⟨_, rfl⟩ := h; rfl)
    | (subst h; rfl)
theorem quotient_number {n : Nat} {a b d : Datum} (h : Datum.quotient n a b = some d) : d.isNaN = false := by
  cases a <;> cases b <;> simp [Datum.quotient] at h
  all_goals first
    | (subst h; rfl)
    | skip
  split at h
  · split at h
    · cases h
    · injection h with h; subst h; rfl
  · injection h with h; subst h; rfl
theorem write_number (f : Format) {d : Datum} (h : d.isNaN = false) : (f.read (f.write d)).isNaN = false := by
  cases d with
  | nan _ _ => cases h
  | infinity s => exact word_number f s _ (Nat.le_refl _)
  | number s m e => exact nearest_number f s m e
theorem floatBits_number {op : BinOp} {k : FloatKind} {x y r : Nat} (h : floatBits op k x y = some r) : nan k r = false := by
  unfold nan FloatKind.decode
  cases op <;> simp only [floatBits, Format.add, Format.sub, Format.mul, Format.div, Option.map_eq_some_iff] at h
  case add => obtain ⟨d, hd, rfl⟩ := h; exact write_number _ (sum_number hd)
  case sub => obtain ⟨d, hd, rfl⟩ := h; exact write_number _ (sum_number hd)
  case mul => obtain ⟨d, hd, rfl⟩ := h; exact write_number _ (product_number hd)
  case quo => obtain ⟨d, hd, rfl⟩ := h; exact write_number _ (quotient_number hd)
  all_goals cases h
theorem floatBits_left {op : BinOp} {k : FloatKind} {x : Nat} (y : Nat) (h : nan k x = true) : floatBits op k x y = none := by
  unfold nan FloatKind.decode at h
  cases op <;> simp only [floatBits, Format.add, Format.sub, Format.mul, Format.div]
  all_goals cases hx : k.format.read x <;> simp_all [Datum.isNaN, Datum.sum, Datum.product, Datum.quotient]
theorem floatBits_right {op : BinOp} {k : FloatKind} {y : Nat} (x : Nat) (h : nan k y = true) : floatBits op k x y = none := by
  unfold nan FloatKind.decode at h
  cases op <;> simp only [floatBits, Format.add, Format.sub, Format.mul, Format.div]
  all_goals cases hy : k.format.read y <;> simp_all [Datum.isNaN]
  all_goals cases hx : k.format.read x <;> simp [Datum.opposite, Datum.sum, Datum.product, Datum.quotient]
/-- some float that is no number -/
def nanW : FloatKind → Nat
  | .f32 => 2143289344
  | .f64 => 9221120237041090560
theorem nanW_nan (k : FloatKind) : nan k (nanW k) = true := by cases k <;> decide
/-- the result of an operation -/
def opC (op : BinOp) (k : FloatKind) (x y : Nat) : Nat := (floatBits op k x y).getD (nanW k)
theorem opC_al {op : BinOp} {k : FloatKind} {x y x' y' : Nat} (h : Al k x x') (g : Al k y y') : opC op k x y = opC op k x' y' := by
  rcases h with rfl | ⟨h1, h2⟩
  · rcases g with rfl | ⟨g1, g2⟩
    · rfl
    · unfold opC; rw [floatBits_right x g1, floatBits_right x g2]
  · unfold opC; rw [floatBits_left y h1, floatBits_left y' h2]
theorem cut_nan (k : FloatKind) (x y t : Nat) : nan k ((Question.nanBits k x y).cut t) = true := by
  cases k
  · exact nan_cut32 _
  · exact nan_cut64 _
theorem arith_al {P : Program} (op : BinOp) (hop : op = .add ∨ op = .sub ∨ op = .mul ∨ op = .quo) (t : TypeId) (k : FloatKind) (x y : Nat) (w : World) :
    ∃ z w', (binOp op t (.float k x) (.float k y)).run P w = .ok (.float k z) w' ∧ z < 2 ^ k.format.width ∧ Drw w w' ∧ Al k (opC op k x y) z := by
  cases h : floatBits op k x y with
  | some r =>
    refine ⟨r, w, run_float_arith w op t k x y r h, ?_, Drw.refl w, .inl ?_⟩
    · have := floatBits_wf h
      cases k <;> simpa [Lit.wf, width32, width64] using this
    · unfold opC; rw [h]; rfl
  | none =>
    refine ⟨(Question.nanBits k x y).cut (w.tape w.drawn (Question.nanBits k x y)), w.drew, ?_, ?_, (Drw.refl w).drew, .inr ⟨?_, cut_nan _ _ _ _⟩⟩
    · unfold floatBits at h
      rcases hop with rfl | rfl | rfl | rfl <;> simp only at h <;> simp [binOp, Op.floatArith, h] <;> (intro hf; simp [Question.forced] at hf)
    · cases k
      · exact cut_lt32 _ _ _
      · exact cut_lt64 _ _ _
    · unfold opC; rw [h]; exact nanW_nan k
theorem opC_lt {op : BinOp} {k : FloatKind} {x y : Nat} : opC op k x y < 2 ^ k.format.width := by
  unfold opC
  cases h : floatBits op k x y with
  | some r =>
    have := floatBits_wf h
    cases k <;> simpa [Lit.wf, width32, width64] using this
  | none => cases k <;> decide
end Go.Proofs.YtidbdokoonikpaaGreatDoor.Flo
end
