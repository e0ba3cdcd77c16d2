/- Walks of the reference's boxes, further ones. -/
import Derived.Test.YtdfoobemgdiobaaDoorBoxS
namespace Go.Proofs.YtdfoobemgdiobaaDoor
open Go.RowKit

/-- a box of whole numbers, as a value -/
def boxV (x y z u : Int) : Value := .agg #[.int .i64 x, .int .i64 y, .int .i64 z, .int .i64 u]
set_option maxHeartbeats 1000000 in
theorem boxNorm_any (a b c d : Int) (w : World) : Calls Tryd.prog 83 #[.agg #[.int .i64 a, .int .i64 b, .int .i64 c, .int .i64 d]] w fun e w' => (∃ (x y : Int) (t : Bool), e = .returned (.tuple #[.int .i64 x, .int .i64 y, .bool t])) ∧ Below w.heap.size w w' := by
  have X := Box.new w #[.int .i64 a, .int .i64 b, .int .i64 c, .int .i64 d] 96
  go_enter Tryd.func83, Tryd.ntmps83
  go_wp2_with fail
  refine (boxValid_any a b c d _).mono ?_
  rintro e w1 ⟨rfl, hb⟩
  replace X := X.step hb
  clear hb
  have x0 := X.cell 0 _ rfl
  have x1 := X.cell 1 _ rfl
  have x2 := X.cell 2 _ rfl
  have x3 := X.cell 3 _ rfl
  have HB := Lib.hid X.old
  clear X
  cases hv : boxOK a b c d with
  | false =>
    go_wp2
    exact bodyPost_ret (v := .tuple #[.int .i64 0, .int .i64 0, .bool false]) (by simp [results, Tryd.f83, go_sem]) rfl ⟨⟨_, _, _, rfl⟩, HB.out⟩
  | true =>
    go_wp2_with fail
    refine (l4Square_any a b _).mono ?_
    rintro e w2 ⟨⟨r, s, rfl⟩, rfl⟩
    go_wp2_with fail
    refine (l4Square_any c d _).mono ?_
    rintro e w2 ⟨⟨r2, s2, rfl⟩, rfl⟩
    go_wp2
    exact bodyPost_ret (v := .tuple #[.int .i64 _, .int .i64 _, .bool true]) (by simp [results, Tryd.f83, go_sem]; exact ⟨rfl, rfl⟩) rfl ⟨⟨_, _, _, rfl⟩, HB.out⟩
set_option maxHeartbeats 2000000 in
theorem boxAdd_any (a b c d a' b' c' d' : Int) (w : World) : Calls Tryd.prog 85 #[.agg #[.int .i64 a, .int .i64 b, .int .i64 c, .int .i64 d], .agg #[.int .i64 a', .int .i64 b', .int .i64 c', .int .i64 d']] w fun e w' => (∃ (x y z u : Int) (t : Bool), e = .returned (.tuple #[.agg #[.int .i64 x, .int .i64 y, .int .i64 z, .int .i64 u], .bool t])) ∧ Below w.heap.size w w' := by
  have X0 := ((Box.new w #[.int .i64 a, .int .i64 b, .int .i64 c, .int .i64 d] 96).alloc (.cells #[.int .i64 a', .int .i64 b', .int .i64 c', .int .i64 d'] 96)).alloc (.cells #[.int .i64 0, .int .i64 0, .int .i64 0, .int .i64 0] 96)
  have Y0 : Box w (w.heap.size + 1) #[.int .i64 a', .int .i64 b', .int .i64 c', .int .i64 d'] 96 (((w.alloc (.cells #[.int .i64 a, .int .i64 b, .int .i64 c, .int .i64 d] 96)).alloc (.cells #[.int .i64 a', .int .i64 b', .int .i64 c', .int .i64 d'] 96)).alloc (.cells #[.int .i64 0, .int .i64 0, .int .i64 0, .int .i64 0] 96)) := by
    have := ((Box.new (w.alloc (.cells #[.int .i64 a, .int .i64 b, .int .i64 c, .int .i64 d] 96)) #[.int .i64 a', .int .i64 b', .int .i64 c', .int .i64 d'] 96).alloc (.cells #[.int .i64 0, .int .i64 0, .int .i64 0, .int .i64 0] 96)).up (w0 := w) ((Below.refl _ _).alloc (Nat.le_refl _) _)
    rwa [World.size_alloc] at this
  have Z0 : Box w (w.heap.size + 1 + 1) #[.int .i64 0, .int .i64 0, .int .i64 0, .int .i64 0] 96 (((w.alloc (.cells #[.int .i64 a, .int .i64 b, .int .i64 c, .int .i64 d] 96)).alloc (.cells #[.int .i64 a', .int .i64 b', .int .i64 c', .int .i64 d'] 96)).alloc (.cells #[.int .i64 0, .int .i64 0, .int .i64 0, .int .i64 0] 96)) := by
    have := (Box.new ((w.alloc (.cells #[.int .i64 a, .int .i64 b, .int .i64 c, .int .i64 d] 96)).alloc (.cells #[.int .i64 a', .int .i64 b', .int .i64 c', .int .i64 d'] 96)) #[.int .i64 0, .int .i64 0, .int .i64 0, .int .i64 0] 96).up (w0 := w) (((Below.refl _ _).alloc (Nat.le_refl _) _).alloc (by simp) _)
    rwa [World.size_alloc, World.size_alloc] at this
  have HF : Hid (∀ W, Below w.heap.size w W → ∀ u0 u1 u2 u3, Below w.heap.size w ((((W.setCell ⟨w.heap.size + 1 + 1, 0, none⟩ u0).setCell ⟨w.heap.size + 1 + 1, 1, none⟩ u1).setCell ⟨w.heap.size + 1 + 1, 2, none⟩ u2).setCell ⟨w.heap.size + 1 + 1, 3, none⟩ u3)) := fun W h u0 u1 u2 u3 =>
    (((h.setCell (p := ⟨w.heap.size + 1 + 1, 0, none⟩) (by simp; omega) _).setCell (p := ⟨w.heap.size + 1 + 1, 1, none⟩) (by simp; omega) _).setCell (p := ⟨w.heap.size + 1 + 1, 2, none⟩) (by simp; omega) _).setCell (p := ⟨w.heap.size + 1 + 1, 3, none⟩) (by simp; omega) _
  go_enter Tryd.func85, Tryd.ntmps85
  go_wp2_with fail
  refine (boxValid_any a b c d _).mono ?_
  rintro e w1 ⟨rfl, hb⟩
  replace X0 := X0.step hb
  replace Y0 := Y0.step hb
  replace Z0 := Z0.step hb
  clear hb
  have y0 := Y0.cell 0 _ rfl
  have y1 := Y0.cell 1 _ rfl
  have y2 := Y0.cell 2 _ rfl
  have y3 := Y0.cell 3 _ rfl
  cases hv : boxOK a b c d with
  | false =>
    have c0 := Z0.cell 0 _ rfl
    have c1 := Z0.cell 1 _ rfl
    have c2 := Z0.cell 2 _ rfl
    have c3 := Z0.cell 3 _ rfl
    have f0 := Z0.frozen 0
    have f1 := Z0.frozen 1
    have f2 := Z0.frozen 2
    have f3 := Z0.frozen 3
    have HB := Lib.hid Z0.old
    clear X0 Y0 Z0
    go_wp2
    exact bodyPost_ret (v := .tuple #[.agg #[.int .i64 0, .int .i64 0, .int .i64 0, .int .i64 0], .bool false]) (by simp [results, Tryd.f85, go_sem, c0, c1, c2, c3]) rfl ⟨⟨_, _, _, _, _, rfl⟩, HF.out _ HB.out _ _ _ _⟩
  | true =>
    go_wp2_with fail
    refine (boxValid_any a' b' c' d' _).mono ?_
    rintro e w2 ⟨rfl, hb⟩
    replace X0 := X0.step hb
    replace Y0 := Y0.step hb
    replace Z0 := Z0.step hb
    clear hb y0 y1 y2 y3
    have x0 := X0.cell 0 _ rfl
    have x1 := X0.cell 1 _ rfl
    have x2 := X0.cell 2 _ rfl
    have x3 := X0.cell 3 _ rfl
    have y0 := Y0.cell 0 _ rfl
    have y1 := Y0.cell 1 _ rfl
    have y2 := Y0.cell 2 _ rfl
    have y3 := Y0.cell 3 _ rfl
    cases hv2 : boxOK a' b' c' d' with
    | false =>
      have c0 := Z0.cell 0 _ rfl
      have c1 := Z0.cell 1 _ rfl
      have c2 := Z0.cell 2 _ rfl
      have c3 := Z0.cell 3 _ rfl
      have f0 := Z0.frozen 0
      have f1 := Z0.frozen 1
      have f2 := Z0.frozen 2
      have f3 := Z0.frozen 3
      have HB := Lib.hid Z0.old
      clear X0 Y0 Z0
      go_wp2
      exact bodyPost_ret (v := .tuple #[.agg #[.int .i64 0, .int .i64 0, .int .i64 0, .int .i64 0], .bool false]) (by simp [results, Tryd.f85, go_sem, c0, c1, c2, c3]) rfl ⟨⟨_, _, _, _, _, rfl⟩, HF.out _ HB.out _ _ _ _⟩
    | true =>
      clear X0 Y0
      go_wp2_with fail
      refine (l4Done_any _ _ _ _ _).mono ?_
      rintro e w3 ⟨⟨p, q, r, s, t, rfl⟩, hb⟩
      replace Z0 := Z0.step hb
      clear hb x0 x1 x2 x3 y0 y1 y2 y3
      have c0 := Z0.cell 0 _ rfl
      have c1 := Z0.cell 1 _ rfl
      have c2 := Z0.cell 2 _ rfl
      have c3 := Z0.cell 3 _ rfl
      have f0 := Z0.frozen 0
      have f1 := Z0.frozen 1
      have f2 := Z0.frozen 2
      have f3 := Z0.frozen 3
      have HB := Lib.hid Z0.old
      clear Z0
      go_wp2
      exact bodyPost_ret (v := .tuple #[.agg #[.int .i64 p, .int .i64 q, .int .i64 r, .int .i64 s], .bool t]) (by simp [results, Tryd.f85, go_sem, c0, c1, c2, c3]) rfl ⟨⟨_, _, _, _, _, rfl⟩, HF.out _ HB.out _ _ _ _⟩
end Go.Proofs.YtdfoobemgdiobaaDoor
