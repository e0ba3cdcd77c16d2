/- Walks of the reference's boxes: squares, coarse boxes. -/
import Derived.Test.YtdfoobemgdiobaaDoorBoxT
namespace Go.Proofs.YtdfoobemgdiobaaDoor
open Go.RowKit

set_option maxHeartbeats 4000000 in
theorem boxSquare_any (a b c d : Int) (w : World) : Calls Tryd.prog 84 #[.agg #[.int .i64 a, .int .i64 b, .int .i64 c, .int .i64 d]] w fun e w' => (∃ (x y z u : Int) (t : Bool), e = .returned (.tuple #[.agg #[.int .i64 x, .int .i64 y, .int .i64 z, .int .i64 u], .bool t])) ∧ Below w.heap.size w w' := by
  have X0 : Box w w.heap.size #[.int .i64 a, .int .i64 b, .int .i64 c, .int .i64 d] 96 ((w.alloc (.cells #[.int .i64 a, .int .i64 b, .int .i64 c, .int .i64 d] 96)).alloc (.cells #[.int .i64 0, .int .i64 0, .int .i64 0, .int .i64 0] 96)) := (Box.new w _ _).alloc _
  have X1 : Box w (w.heap.size + 1) #[.int .i64 0, .int .i64 0, .int .i64 0, .int .i64 0] 96 ((w.alloc (.cells #[.int .i64 a, .int .i64 b, .int .i64 c, .int .i64 d] 96)).alloc (.cells #[.int .i64 0, .int .i64 0, .int .i64 0, .int .i64 0] 96)) := by
    have := (Box.new (w.alloc (.cells #[.int .i64 a, .int .i64 b, .int .i64 c, .int .i64 d] 96)) #[.int .i64 0, .int .i64 0, .int .i64 0, .int .i64 0] 96).up (w0 := w) ((Below.refl _ _).alloc (Nat.le_refl _) _)
    rwa [World.size_alloc] at this
  have HF : Hid (∀ W, Below w.heap.size w W → ∀ u0 u1 u2 u3, Below w.heap.size w ((((W.setCell ⟨w.heap.size + 1, 0, none⟩ u0).setCell ⟨w.heap.size + 1, 1, none⟩ u1).setCell ⟨w.heap.size + 1, 2, none⟩ u2).setCell ⟨w.heap.size + 1, 3, none⟩ u3)) := fun W h u0 u1 u2 u3 =>
    (((h.setCell (p := ⟨w.heap.size + 1, 0, none⟩) (by simp) _).setCell (p := ⟨w.heap.size + 1, 1, none⟩) (by simp) _).setCell (p := ⟨w.heap.size + 1, 2, none⟩) (by simp) _).setCell (p := ⟨w.heap.size + 1, 3, none⟩) (by simp) _
  obtain ⟨p, hp⟩ : ∃ p, wrap64 (a * c) = p := ⟨_, rfl⟩
  obtain ⟨q, hq⟩ : ∃ q, wrap64 (a * d) = q := ⟨_, rfl⟩
  obtain ⟨r, hr⟩ : ∃ r, wrap64 (b * c) = r := ⟨_, rfl⟩
  obtain ⟨t, ht⟩ : ∃ t, wrap64 (b * d) = t := ⟨_, rfl⟩
  obtain ⟨m1, h1⟩ : ∃ m, (if q < p then q else p) = m := ⟨_, rfl⟩
  obtain ⟨m2, h2⟩ : ∃ m, (if t < r then t else r) = m := ⟨_, rfl⟩
  obtain ⟨m3, h3⟩ : ∃ m, (if m2 < m1 then m2 else m1) = m := ⟨_, rfl⟩
  obtain ⟨n1, g1⟩ : ∃ m, (if p < q then q else p) = m := ⟨_, rfl⟩
  obtain ⟨n2, g2⟩ : ∃ m, (if r < t then t else r) = m := ⟨_, rfl⟩
  obtain ⟨n3, g3⟩ : ∃ m, (if n1 < n2 then n2 else n1) = m := ⟨_, rfl⟩
  go_enter Tryd.func84, Tryd.ntmps84
  go_wp2_with fail
  refine (boxValid_any a b c d _).mono ?_
  rintro e w1 ⟨rfl, hb⟩
  replace X0 := X0.step hb
  replace X1 := X1.step hb
  clear hb
  have x0 := X0.cell 0 _ rfl
  have x1 := X0.cell 1 _ rfl
  have x2 := X0.cell 2 _ rfl
  have x3 := X0.cell 3 _ rfl
  cases hv : boxOK a b c d with
  | false =>
    have c0 := X1.cell 0 _ rfl
    have c1 := X1.cell 1 _ rfl
    have c2 := X1.cell 2 _ rfl
    have c3 := X1.cell 3 _ rfl
    have f0 := X1.frozen 0
    have f1 := X1.frozen 1
    have f2 := X1.frozen 2
    have f3 := X1.frozen 3
    have HB := Lib.hid X1.old
    clear X0 X1
    go_wp2
    exact bodyPost_ret (v := .tuple #[.agg #[.int .i64 0, .int .i64 0, .int .i64 0, .int .i64 0], .bool false]) (by simp [results, Tryd.f84, go_sem, c0, c1, c2, c3]) rfl ⟨⟨_, _, _, _, _, rfl⟩, HF.out _ HB.out _ _ _ _⟩
  | true =>
    clear X0
    go_wp2_with fail
    refine (l4Square_any a b _).mono ?_
    rintro e w2 ⟨⟨s1, s2, rfl⟩, rfl⟩
    go_wp2_with fail
    refine (l4Square_any c d _).mono ?_
    rintro e w2 ⟨⟨s3, s4, rfl⟩, rfl⟩
    go_wp2_with fail
    refine (l4Floor_any _ 16777216 (by decide) _).mono ?_
    rintro e w2 ⟨⟨r1, rfl⟩, rfl⟩
    go_wp2_with fail
    refine (l4Ceil_any _ 16777216 (by decide) _).mono ?_
    rintro e w2 ⟨⟨r2, rfl⟩, rfl⟩
    go_wp2_with fail
    refine (l4Floor_any _ 16777216 (by decide) _).mono ?_
    rintro e w2 ⟨⟨r3, rfl⟩, rfl⟩
    go_wp2_with fail
    refine (l4Ceil_any _ 16777216 (by decide) _).mono ?_
    rintro e w2 ⟨⟨r4, rfl⟩, rfl⟩
    go_wp2_with fail
    refine (l4Done_any _ _ _ _ _).mono ?_
    rintro e w3 ⟨⟨x, y, z, u, v, rfl⟩, hb⟩
    replace X1 := X1.step hb
    clear hb x0 x1 x2 x3
    have c0 := X1.cell 0 _ rfl
    have c1 := X1.cell 1 _ rfl
    have c2 := X1.cell 2 _ rfl
    have c3 := X1.cell 3 _ rfl
    have f0 := X1.frozen 0
    have f1 := X1.frozen 1
    have f2 := X1.frozen 2
    have f3 := X1.frozen 3
    have HB := Lib.hid X1.old
    clear X1
    go_wp2
    exact bodyPost_ret (v := .tuple #[.agg #[.int .i64 x, .int .i64 y, .int .i64 z, .int .i64 u], .bool v]) (by simp [results, Tryd.f84, go_sem, c0, c1, c2, c3]) rfl ⟨⟨_, _, _, _, _, rfl⟩, HF.out _ HB.out _ _ _ _⟩
end Go.Proofs.YtdfoobemgdiobaaDoor
