/- Walks: points of cells (cut out of TilW). -/
import Derived.Test.YtdfoobemgdiobaaDoorTilG
import Derived.Test.YtdfoobemgdiobaaDoorTilE
namespace Go.Proofs.YtdfoobemgdiobaaDoor
open Go.RowKit Flo

def ptF (c d : Nat) (j : Int) : Nat := (floatBits .add .f32 c ((floatBits .mul .f32 (floatOfInt .f32 j) (sideF d)).getD 0)).getD 0
theorem ptF_is {c d : Nat} {A : Int} (hd : d ≤ 11) (hc : Pt c d A) (hA : A.natAbs ≤ 65536) (j : Int) (hj : j.natAbs ≤ 65536) :
    ∃ p, floatBits .mul .f32 (floatOfInt .f32 j) (sideF d) = some p ∧ floatBits .add .f32 c p = some (ptF c d j) ∧ Pt (ptF c d j) d (A + j) := by
  obtain ⟨p, x, h1, h2, h3⟩ := point_pt hd hc hA j hj
  have e : ptF c d j = x := by unfold ptF; rw [h1]; simp only [Option.getD_some]; rw [h2]; rfl
  rw [e]
  exact ⟨p, h1, h2, h3⟩
theorem place_pts {cx cy : Nat} {deep size : Int} (hx : cx < 4294967296) (hy : cy < 4294967296) (hp : placeB cx cy deep size = true) : ∃ (d : Nat) (A B : Int), deep = d ∧ d ≤ 10 ∧ Pt cx d A ∧ Pt cy d B ∧ A.natAbs ≤ 4 * 2 ^ d ∧ B.natAbs ≤ 4 * 2 ^ d ∧ A.natAbs ≤ 4096 ∧ B.natAbs ≤ 4096 := by
  obtain ⟨h1, h2, h3, h4⟩ := placeB_bd hp
  obtain ⟨d, rfl⟩ := Int.eq_ofNat_of_zero_le h1
  unfold placeB at hp
  rw [Bool.and_eq_true, Bool.and_eq_true, Int.toNat_natCast] at hp
  obtain ⟨A, hA, ha⟩ := whole_pt hx (by omega) hp.1.2
  obtain ⟨B, hB, hb⟩ := whole_pt hy (by omega) hp.2
  have hdp : 2 ^ d ≤ 2 ^ 10 := Nat.pow_le_pow_right (by omega) (by omega)
  exact ⟨d, A, B, rfl, by omega, hA, hB, ha, hb, by omega, by omega⟩
def ptC (cx cy : Nat) (deep : Int) (i j : Int) : Nat × Nat := (ptF cx deep.toNat j, ptF cy deep.toNat i)
theorem ptC_lt {cx cy : Nat} {deep size : Int} (hx : cx < 4294967296) (hy : cy < 4294967296) (hp : placeB cx cy deep size = true) (i j : Int) (hi : i.natAbs ≤ 5000) (hj : j.natAbs ≤ 5000) : (ptC cx cy deep i j).1 < 4294967296 ∧ (ptC cx cy deep i j).2 < 4294967296 := by
  obtain ⟨d, A, B, rfl, hd, hA, hB, _, _, ha, hb⟩ := place_pts hx hy hp
  obtain ⟨p, _, _, h1⟩ := ptF_is (by omega) hA (by omega) j (by omega)
  obtain ⟨q, _, _, h2⟩ := ptF_is (by omega) hB (by omega) i (by omega)
  unfold ptC
  rw [Int.toNat_natCast]
  exact ⟨pt_lt h1, pt_lt h2⟩
theorem implPoint_is (cx cy : Nat) (deep size : Int) (hx : cx < 4294967296) (hy : cy < 4294967296) (hp : placeB cx cy deep size = true) (i j : Int) (hi : i.natAbs ≤ 5000) (hj : j.natAbs ≤ 5000) (w : World) :
    Calls Tryd.prog 20 #[.complex .f32 cx cy, .int .i64 deep, .int .i64 i, .int .i64 j] w fun e w' => e = .returned (.complex .f32 (ptC cx cy deep i j).1 (ptC cx cy deep i j).2) ∧ w = w' := by
  obtain ⟨d, A, B, rfl, hd, hA, hB, _, _, ha, hb⟩ := place_pts hx hy hp
  obtain ⟨p, e1, e2, h1⟩ := ptF_is (by omega) hA (by omega) j (by omega)
  obtain ⟨q, e3, e4, h2⟩ := ptF_is (by omega) hB (by omega) i (by omega)
  unfold ptC
  rw [Int.toNat_natCast]
  exact pointOf_is cx cy d i j (by omega) e1 e3 e2 e4 w
theorem specPoint_is (cx cy : Nat) (deep size : Int) (hx : cx < 4294967296) (hy : cy < 4294967296) (hp : placeB cx cy deep size = true) (i j : Int) (hi : i.natAbs ≤ 5000) (hj : j.natAbs ≤ 5000) (w : World) :
    Calls Tryd.prog 23 #[.complex .f32 cx cy, .int .i64 deep, .int .i64 i, .int .i64 j] w fun e w' => e = .returned (.complex .f32 (ptC cx cy deep i j).1 (ptC cx cy deep i j).2) ∧ w = w' := by
  obtain ⟨d, A, B, rfl, hd, hA, hB, _, _, ha, hb⟩ := place_pts hx hy hp
  obtain ⟨p, e1, e2, h1⟩ := ptF_is (by omega) hA (by omega) j (by omega)
  obtain ⟨q, e3, e4, h2⟩ := ptF_is (by omega) hB (by omega) i (by omega)
  unfold ptC
  rw [Int.toNat_natCast]
  exact l7Point_is cx cy d i j (by omega) e1 e3 e2 e4 w
end Go.Proofs.YtdfoobemgdiobaaDoor
