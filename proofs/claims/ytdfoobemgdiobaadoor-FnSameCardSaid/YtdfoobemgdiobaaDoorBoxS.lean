/- Walks of the reference's boxes, for what they need: they end, with whole numbers. -/
import Derived.Test.YtdfoobemgdiobaaDoorBase
import Derived.Test.YtdfoobemgdiobaaDoorAngV
import Derived.Test.YtdfoobemgdiobaaDoorSl
import Derived.Deep.RegionWith
namespace Go.Proofs.YtdfoobemgdiobaaDoor
open Go.RowKit

set_option maxHeartbeats 400000 in
theorem l4Floor_any (a b : Int) (hb : b ≠ 0) (w : World) : Calls Tryd.prog 93 #[.int .i64 a, .int .i64 b] w fun e w' => (∃ r : Int, e = .returned (.int .i64 r)) ∧ w = w' := by
  have hz : (b == 0) = false := by rw [beq_eq_false_iff_ne]; exact hb
  obtain ⟨q, hq⟩ : ∃ q, a.tdiv b = q := ⟨_, rfl⟩
  obtain ⟨m, hm⟩ : ∃ m, a.tmod b = m := ⟨_, rfl⟩
  by_cases h0 : m = 0
  · have t1 : (m != 0) = false := by rw [h0]; rfl
    clear h0
    go_enter Tryd.func93, Tryd.ntmps93
    go_wp2
    go_ret
    exact ⟨⟨_, rfl⟩, rfl⟩
  · have t1 : (m != 0) = true := by simpa using h0
    clear h0
    by_cases h1 : a < 0
    · go_enter Tryd.func93, Tryd.ntmps93
      go_wp2
      go_ret
      exact ⟨⟨_, rfl⟩, rfl⟩
    · go_enter Tryd.func93, Tryd.ntmps93
      go_wp2
      go_ret
      exact ⟨⟨_, rfl⟩, rfl⟩
set_option maxHeartbeats 400000 in
theorem l4Ceil_any (a b : Int) (hb : b ≠ 0) (w : World) : Calls Tryd.prog 94 #[.int .i64 a, .int .i64 b] w fun e w' => (∃ r : Int, e = .returned (.int .i64 r)) ∧ w = w' := by
  go_enter Tryd.func94, Tryd.ntmps94
  go_wp2_with fail
  refine (l4Floor_any _ b hb _).mono ?_
  rintro e w1 ⟨⟨r, rfl⟩, rfl⟩
  go_wp2
  go_ret
  exact ⟨⟨_, rfl⟩, rfl⟩
set_option maxHeartbeats 400000 in
theorem l4Square_any (a b : Int) (w : World) : Calls Tryd.prog 81 #[.int .i64 a, .int .i64 b] w fun e w' => (∃ r s : Int, e = .returned (.tuple #[.int .i64 r, .int .i64 s])) ∧ w = w' := by
  by_cases h0 : a ≤ 0
  · by_cases h1 : 0 ≤ b
    · go_enter Tryd.func81, Tryd.ntmps81
      go_wp2
      all_goals
        go_ret2
        exact ⟨⟨_, _, rfl⟩, rfl⟩
    · go_enter Tryd.func81, Tryd.ntmps81
      go_wp2
      all_goals
        go_ret2
        exact ⟨⟨_, _, rfl⟩, rfl⟩
  · go_enter Tryd.func81, Tryd.ntmps81
    go_wp2
    all_goals
      go_ret2
      exact ⟨⟨_, _, rfl⟩, rfl⟩
set_option maxHeartbeats 400000 in
theorem l3Most_any (n : Int) (w : World) : Calls Tryd.prog 82 #[.int .i64 n] w fun e w' => (∃ r : Int, e = .returned (.int .i64 r) ∧ 0 ≤ r ∧ r ≤ 400) ∧ w = w' := by
  go_enter Tryd.func82, Tryd.ntmps82
  go_wp2
  all_goals
    go_ret
    exact ⟨⟨_, rfl, by omega, by omega⟩, rfl⟩
/-- is it a box -/
def boxOK (a b c d : Int) : Bool := inB a (-134217728) b && inB b a 134217728 && inB c (-134217728) d && inB d c 134217728
set_option maxHeartbeats 1000000 in
theorem boxValid_any (a b c d : Int) (w : World) : Calls Tryd.prog 68 #[.agg #[.int .i64 a, .int .i64 b, .int .i64 c, .int .i64 d]] w fun e w' => e = .returned (.bool (boxOK a b c d)) ∧ Below w.heap.size w w' := by
  have X := Box.new w #[.int .i64 a, .int .i64 b, .int .i64 c, .int .i64 d] 96
  have x0 := X.cell 0 _ rfl
  have x1 := X.cell 1 _ rfl
  have x2 := X.cell 2 _ rfl
  have x3 := X.cell 3 _ rfl
  have HB := Lib.hid X.old
  clear X
  unfold boxOK
  cases h1 : inB a (-134217728) b with
  | false =>
    go_enter Tryd.func68, Tryd.ntmps68
    go_wp2_with (go_at_call 22; refine (l6In_any _ _ _ _).mono ?_; rintro e w' ⟨rfl, rfl⟩)
    go_ret
    exact ⟨rfl, HB.out⟩
  | true =>
    cases h2 : inB b a 134217728 with
    | false =>
      go_enter Tryd.func68, Tryd.ntmps68
      go_wp2_with (go_at_call 22; refine (l6In_any _ _ _ _).mono ?_; rintro e w' ⟨rfl, rfl⟩)
      go_ret
      exact ⟨rfl, HB.out⟩
    | true =>
      cases h3 : inB c (-134217728) d with
      | false =>
        go_enter Tryd.func68, Tryd.ntmps68
        go_wp2_with (go_at_call 22; refine (l6In_any _ _ _ _).mono ?_; rintro e w' ⟨rfl, rfl⟩)
        go_ret
        exact ⟨rfl, HB.out⟩
      | true =>
        cases h4 : inB d c 134217728 with
        | false =>
          go_enter Tryd.func68, Tryd.ntmps68
          go_wp2_with (go_at_call 22; refine (l6In_any _ _ _ _).mono ?_; rintro e w' ⟨rfl, rfl⟩)
          go_ret
          exact ⟨rfl, HB.out⟩
        | true =>
          go_enter Tryd.func68, Tryd.ntmps68
          go_wp2_with (go_at_call 22; refine (l6In_any _ _ _ _).mono ?_; rintro e w' ⟨rfl, rfl⟩)
          go_ret
          exact ⟨rfl, HB.out⟩
set_option maxHeartbeats 1000000 in
theorem l4Done_any (a b c d : Int) (w : World) : Calls Tryd.prog 79 #[.agg #[.int .i64 a, .int .i64 b, .int .i64 c, .int .i64 d]] w fun e w' => (∃ (x y z u : Int) (t : Bool), e = .returned (.tuple #[.agg #[.int .i64 x, .int .i64 y, .int .i64 z, .int .i64 u], .bool t])) ∧ Below w.heap.size w w' := by
  have X0 : Box w w.heap.size #[.int .i64 a, .int .i64 b, .int .i64 c, .int .i64 d] 96 ((w.alloc (.cells #[.int .i64 a, .int .i64 b, .int .i64 c, .int .i64 d] 96)).alloc (.cells #[.int .i64 0, .int .i64 0, .int .i64 0, .int .i64 0] 96)) := (Box.new w _ _).alloc _
  have X1 : Box w (w.heap.size + 1) #[.int .i64 0, .int .i64 0, .int .i64 0, .int .i64 0] 96 ((w.alloc (.cells #[.int .i64 a, .int .i64 b, .int .i64 c, .int .i64 d] 96)).alloc (.cells #[.int .i64 0, .int .i64 0, .int .i64 0, .int .i64 0] 96)) := by
    have := (Box.new (w.alloc (.cells #[.int .i64 a, .int .i64 b, .int .i64 c, .int .i64 d] 96)) #[.int .i64 0, .int .i64 0, .int .i64 0, .int .i64 0] 96).up (w0 := w) ((Below.refl _ _).alloc (Nat.le_refl _) _)
    rwa [World.size_alloc] at this
  have HF : Hid (∀ W, Below w.heap.size w W → ∀ u0 u1 u2 u3, Below w.heap.size w ((((W.setCell ⟨w.heap.size + 1, 0, none⟩ u0).setCell ⟨w.heap.size + 1, 1, none⟩ u1).setCell ⟨w.heap.size + 1, 2, none⟩ u2).setCell ⟨w.heap.size + 1, 3, none⟩ u3)) := fun W h u0 u1 u2 u3 =>
    (((h.setCell (p := ⟨w.heap.size + 1, 0, none⟩) (by simp) _).setCell (p := ⟨w.heap.size + 1, 1, none⟩) (by simp) _).setCell (p := ⟨w.heap.size + 1, 2, none⟩) (by simp) _).setCell (p := ⟨w.heap.size + 1, 3, none⟩) (by simp) _
  go_enter Tryd.func79, Tryd.ntmps79
  go_wp2_with fail
  refine (boxValid_any a b c d _).mono ?_
  rintro e w1 ⟨rfl, hb⟩
  replace X0 := X0.step hb
  replace X1 := X1.step hb
  clear hb
  have x0 := X0.cell 0 _ rfl
  have x1 := X0.cell 1 _ rfl
  have x2 := X0.cell 2 _ rfl
  have x3 := X0.cell 3 _ rfl
  have c0 := X1.cell 0 _ rfl
  have c1 := X1.cell 1 _ rfl
  have c2 := X1.cell 2 _ rfl
  have c3 := X1.cell 3 _ rfl
  have f0 := X1.frozen 0
  have f1 := X1.frozen 1
  have f2 := X1.frozen 2
  have f3 := X1.frozen 3
  have HB := Lib.hid X1.old
  clear X0 X1
  cases hv : boxOK a b c d with
  | false =>
    go_wp2
    exact bodyPost_ret (v := .tuple #[.agg #[.int .i64 0, .int .i64 0, .int .i64 0, .int .i64 0], .bool false]) (by simp [results, Tryd.f79, go_sem, c0, c1, c2, c3]) rfl ⟨⟨_, _, _, _, _, rfl⟩, HF.out _ HB.out _ _ _ _⟩
  | true =>
    go_wp2
    exact bodyPost_ret (v := .tuple #[.agg #[.int .i64 a, .int .i64 b, .int .i64 c, .int .i64 d], .bool true]) (by simp [results, Tryd.f79, go_sem, c0, c1, c2, c3]) rfl ⟨⟨_, _, _, _, _, rfl⟩, HF.out _ HB.out _ _ _ _⟩
end Go.Proofs.YtdfoobemgdiobaaDoor
