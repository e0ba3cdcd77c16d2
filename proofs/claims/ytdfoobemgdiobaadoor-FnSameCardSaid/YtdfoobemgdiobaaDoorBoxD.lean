/- Walks of the reference's boxes: the two bounds. -/
import Derived.Test.YtdfoobemgdiobaaDoorBoxC
namespace Go.Proofs.YtdfoobemgdiobaaDoor
open Go.RowKit

set_option maxHeartbeats 2000000 in
theorem discBound_any (a b c d : Int) (w : World) : Calls Tryd.prog 70 #[.agg #[.int .i64 a, .int .i64 b, .int .i64 c, .int .i64 d]] w fun e w' => (∃ (x : Int) (t : Bool), e = .returned (.tuple #[.int .i64 x, .bool t])) ∧ Below w.heap.size w w' := by
  have X := Box.new w #[.int .i64 a, .int .i64 b, .int .i64 c, .int .i64 d] 96
  go_enter Tryd.func70, Tryd.ntmps70
  go_wp2_with fail
  refine (boxValid_any a b c d _).mono ?_
  rintro e w1 ⟨rfl, hb⟩
  replace X := X.step hb
  clear hb
  have x0 := X.cell 0 _ rfl
  have x1 := X.cell 1 _ rfl
  have x2 := X.cell 2 _ rfl
  have x3 := X.cell 3 _ rfl
  cases hv : boxOK a b c d with
  | false =>
    have HB := Lib.hid X.old
    clear X
    go_wp2
    exact bodyPost_ret (v := .tuple #[.int .i64 0, .bool false]) (by simp [results, Tryd.f70, go_sem]) rfl ⟨⟨_, _, rfl⟩, HB.out⟩
  | true =>
    go_wp2_with fail
    refine (l5Coarse_any a b c d _).mono ?_
    rintro e w2 ⟨⟨p, q, r, s, rfl⟩, hb⟩
    replace X := X.step hb
    clear hb x0 x1 x2 x3
    have Y := (Box.new w2 #[.int .i64 p, .int .i64 q, .int .i64 r, .int .i64 s] 96).up X.old
    have y0 := Y.cell 0 _ rfl
    have y1 := Y.cell 1 _ rfl
    have y2 := Y.cell 2 _ rfl
    have y3 := Y.cell 3 _ rfl
    have HB := Lib.hid Y.old
    clear X Y
    go_wp2_with fail
    refine (l4Square_any _ _ _).mono ?_
    rintro e w3 ⟨⟨s1, s2, rfl⟩, rfl⟩
    go_wp2_with fail
    refine (l4Square_any _ _ _).mono ?_
    rintro e w3 ⟨⟨s3, s4, rfl⟩, rfl⟩
    go_wp2
    all_goals
      exact bodyPost_ret (v := .tuple #[.int .i64 _, .bool true]) (by simp [results, Tryd.f70, go_sem]; rfl) rfl ⟨⟨_, _, rfl⟩, HB.out⟩
set_option maxHeartbeats 2000000 in
theorem cardioidBound_any (a b c d : Int) (w : World) : Calls Tryd.prog 69 #[.agg #[.int .i64 a, .int .i64 b, .int .i64 c, .int .i64 d]] w fun e w' => (∃ (x : Int) (t : Bool), e = .returned (.tuple #[.int .i64 x, .bool t])) ∧ Below w.heap.size w w' := by
  have X := Box.new w #[.int .i64 a, .int .i64 b, .int .i64 c, .int .i64 d] 96
  go_enter Tryd.func69, Tryd.ntmps69
  go_wp2_with fail
  refine (boxValid_any a b c d _).mono ?_
  rintro e w1 ⟨rfl, hb⟩
  replace X := X.step hb
  clear hb
  have x0 := X.cell 0 _ rfl
  have x1 := X.cell 1 _ rfl
  have x2 := X.cell 2 _ rfl
  have x3 := X.cell 3 _ rfl
  cases hv : boxOK a b c d with
  | false =>
    have HB := Lib.hid X.old
    clear X
    go_wp2
    exact bodyPost_ret (v := .tuple #[.int .i64 0, .bool false]) (by simp [results, Tryd.f69, go_sem]) rfl ⟨⟨_, _, rfl⟩, HB.out⟩
  | true =>
    go_wp2_with fail
    refine (l5Coarse_any a b c d _).mono ?_
    rintro e w2 ⟨⟨p, q, r, s, rfl⟩, hb⟩
    replace X := X.step hb
    clear hb x0 x1 x2 x3
    have Y := (Box.new w2 #[.int .i64 p, .int .i64 q, .int .i64 r, .int .i64 s] 96).up X.old
    have y0 := Y.cell 0 _ rfl
    have y1 := Y.cell 1 _ rfl
    have y2 := Y.cell 2 _ rfl
    have y3 := Y.cell 3 _ rfl
    have HB := Lib.hid Y.old
    clear X Y
    go_wp2_with fail
    refine (l4Square_any _ _ _).mono ?_
    rintro e w3 ⟨⟨s1, s2, rfl⟩, rfl⟩
    go_wp2_with fail
    refine (l4Square_any _ _ _).mono ?_
    rintro e w3 ⟨⟨s3, s4, rfl⟩, rfl⟩
    go_wp2
    all_goals
      exact bodyPost_ret (v := .tuple #[.int .i64 _, .bool true]) (by simp [results, Tryd.f69, go_sem]; rfl) rfl ⟨⟨_, _, rfl⟩, HB.out⟩
end Go.Proofs.YtdfoobemgdiobaaDoor
