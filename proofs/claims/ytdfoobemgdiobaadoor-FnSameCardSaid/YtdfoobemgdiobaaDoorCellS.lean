/- Walk of the reference's CellState: it ends with -1, 0 or 1. -/
import Derived.Test.YtdfoobemgdiobaaDoorBoxE
namespace Go.Proofs.YtdfoobemgdiobaaDoor
open Go.RowKit

set_option maxHeartbeats 4000000 in
theorem cellState_any (a b c d n : Int) (w : World) : Calls Tryd.prog 58 #[.agg #[.int .i64 a, .int .i64 b, .int .i64 c, .int .i64 d], .int .i64 n] w fun e w' => (∃ (x : Int) (t : Bool), e = .returned (.tuple #[.int .i64 x, .bool t]) ∧ -1 ≤ x ∧ x ≤ 1) ∧ Below w.heap.size w w' := by
  have X := Box.new w #[.int .i64 a, .int .i64 b, .int .i64 c, .int .i64 d] 96
  have x0 := X.cell 0 _ rfl
  have x1 := X.cell 1 _ rfl
  have x2 := X.cell 2 _ rfl
  have x3 := X.cell 3 _ rfl
  go_enter Tryd.func58, Tryd.ntmps58
  go_wp2_with fail
  refine (cardioidBound_any a b c d _).mono ?_
  rintro e w1 ⟨⟨x, p, rfl⟩, hb⟩
  clear x0 x1 x2 x3
  replace X := X.step hb
  clear hb
  have x0 := X.cell 0 _ rfl
  have x1 := X.cell 1 _ rfl
  have x2 := X.cell 2 _ rfl
  have x3 := X.cell 3 _ rfl
  go_wp2_with fail
  refine (discBound_any a b c d _).mono ?_
  rintro e w2 ⟨⟨y, q, rfl⟩, hb⟩
  clear x0 x1 x2 x3
  replace X := X.step hb
  clear hb
  have x0 := X.cell 0 _ rfl
  have x1 := X.cell 1 _ rfl
  have x2 := X.cell 2 _ rfl
  have x3 := X.cell 3 _ rfl
  go_wp2_with fail
  refine (boxEscape_any a b c d n _).mono ?_
  rintro e w3 ⟨⟨u, k, r, rfl⟩, hb⟩
  have HB := Lib.hid (X.step hb).old
  clear x0 x1 x2 x3 X hb
  cases p with
  | false =>
    go_wp2
    exact bodyPost_ret (v := .tuple #[.int .i64 0, .bool false]) (by simp [results, Tryd.f58, go_sem]) rfl ⟨⟨0, _, rfl, by omega, by omega⟩, HB.out⟩
  | true =>
    cases q with
    | false =>
      go_wp2
      exact bodyPost_ret (v := .tuple #[.int .i64 0, .bool false]) (by simp [results, Tryd.f58, go_sem]) rfl ⟨⟨0, _, rfl, by omega, by omega⟩, HB.out⟩
    | true =>
      cases r with
      | false =>
        go_wp2
        exact bodyPost_ret (v := .tuple #[.int .i64 0, .bool false]) (by simp [results, Tryd.f58, go_sem]) rfl ⟨⟨0, _, rfl, by omega, by omega⟩, HB.out⟩
      | true =>
        by_cases hx : x ≤ 0
        · go_wp2
          exact bodyPost_ret (v := .tuple #[.int .i64 1, .bool true]) (by simp [results, Tryd.f58, go_sem]) rfl ⟨⟨1, _, rfl, by omega, by omega⟩, HB.out⟩
        · by_cases hy : y ≤ 0
          · go_wp2
            exact bodyPost_ret (v := .tuple #[.int .i64 1, .bool true]) (by simp [results, Tryd.f58, go_sem]) rfl ⟨⟨1, _, rfl, by omega, by omega⟩, HB.out⟩
          · by_cases hk : 0 ≤ k
            · go_wp2
              exact bodyPost_ret (v := .tuple #[.int .i64 (-1), .bool true]) (by simp [results, Tryd.f58, go_sem]) rfl ⟨⟨-1, _, rfl, by omega, by omega⟩, HB.out⟩
            · go_wp2
              exact bodyPost_ret (v := .tuple #[.int .i64 0, .bool true]) (by simp [results, Tryd.f58, go_sem]) rfl ⟨⟨0, _, rfl, by omega, by omega⟩, HB.out⟩
end Go.Proofs.YtdfoobemgdiobaaDoor
