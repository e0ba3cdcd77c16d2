/- Walks: the program's TilePoint at a well made tile. -/
import Derived.Test.YtdfoobemgdiobaaDoorPtW
namespace Go.Proofs.YtdfoobemgdiobaaDoor
open Go.RowKit Flo

set_option maxRecDepth 100000 in
set_option maxHeartbeats 1000000 in
theorem implTPoint_good (cx cy : Nat) (deep size : Int) (hx : cx < 4294967296) (hy : cy < 4294967296) (hp : placeB cx cy deep size = true) (a a' : Option Addr) (n c c' : Nat) (ys : List Int) (hl : ys.length ≤ 1048576) (row col : Int) (r0 : 0 ≤ row) (r1 : row < size) (l0 : 0 ≤ col) (l1 : col < size) (w : World) (hs : Sl w a' (ys.map intV)) (hw : wellB size n ys = true) :
    Calls Tryd.prog 6 #[.agg #[.complex .f32 cx cy, .int .i64 deep, .int .i64 size, .slice a n c, .slice a' ys.length c'], .int .i64 row, .int .i64 col] w fun e w' => e = .returned (.tuple #[.complex .f32 (ptC cx cy deep row col).1 (ptC cx cy deep row col).2, .bool true]) ∧ Below w.heap.size w w' := by
  have B := Box.new w #[.complex .f32 cx cy, .int .i64 deep, .int .i64 size, .slice a n c, .slice a' ys.length c'] 27
  have HW := Lib.hid (implWell_is cx cy deep size hx hy hp a a' n c c' ys hl _ (hs.alloc (.cells #[.complex .f32 cx cy, .int .i64 deep, .int .i64 size, .slice a n c, .slice a' ys.length c'] 27)))
  rw [hw] at HW
  obtain ⟨h1, h2, h3, h4⟩ := placeB_bd hp
  have HP := Lib.hid (implPoint_is cx cy deep size hx hy hp row col (by omega) (by omega))
  clear hp hs hw
  have d1 : decide (row < 0) = false := by simp; omega
  have d2 : decide (size ≤ row) = false := by simp; omega
  have d3 : decide (col < 0) = false := by simp; omega
  have d4 : decide (size ≤ col) = false := by simp; omega
  generalize (ptC cx cy deep row col).1 = px at *
  generalize (ptC cx cy deep row col).2 = py at *
  go_enter Tryd.func6, Tryd.ntmps6
  go_wp2_with fail
  refine HW.out.mono ?_
  rintro e w1 ⟨rfl, hd⟩
  replace B := B.step hd
  have b0 := B.cell 0 (.complex .f32 cx cy) rfl
  have b1 := B.cell 1 (.int .i64 deep) rfl
  have b2 := B.cell 2 (.int .i64 size) rfl
  have HB := Lib.hid B.old
  clear hd HW B
  go_wp2_with fail
  refine (HP.out _).mono ?_
  rintro e w2 ⟨rfl, rfl⟩
  go_wp2
  go_ret2
  exact ⟨rfl, HB.out⟩
end Go.Proofs.YtdfoobemgdiobaaDoor
