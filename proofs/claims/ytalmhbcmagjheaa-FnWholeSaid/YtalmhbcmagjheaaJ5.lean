/- Merged texts: BoxT, BoxU, BoxC, BoxD, BoxE, CellS. -/
import Derived.Test.YtalmhbcmagjheaaJ3
import Derived.Deep.Cut
import Derived.Deep.RegionHeld3
section
/- Walks of the reference's boxes, further ones. -/
namespace Go.Proofs.Ytalmhbcmagjheaa
open Go.RowKit

/-- a box of whole numbers, as a value -/
def boxV (x y z u : Int) : Value := .agg #[.int .i64 x, .int .i64 y, .int .i64 z, .int .i64 u]
set_option maxHeartbeats 1000000 in
theorem boxNorm_any (a b c d : Int) (w : World) : Calls Try.prog 76 #[.agg #[.int .i64 a, .int .i64 b, .int .i64 c, .int .i64 d]] w fun e w' => (∃ (x y : Int) (t : Bool), e = .returned (.tuple #[.int .i64 x, .int .i64 y, .bool t])) ∧ Below w.heap.size w w' := by
  have X := Box.new w #[.int .i64 a, .int .i64 b, .int .i64 c, .int .i64 d] 91
  go_enter Try.func76, Try.ntmps76
  go_wp2_with fail
  refine (boxValid_any a b c d _).mono ?_
  rintro e w1 ⟨rfl, hb⟩
  replace X := X.step hb
  clear hb
  have x0 := X.cell 0 _ rfl
  have x1 := X.cell 1 _ rfl
  have x2 := X.cell 2 _ rfl
  have x3 := X.cell 3 _ rfl
  have HB := Lib.hid X.old
  clear X
  cases hv : boxOK a b c d with
  | false =>
    go_wp2
    exact bodyPost_ret (v := .tuple #[.int .i64 0, .int .i64 0, .bool false]) (by simp [results, Try.f76, go_sem]) rfl ⟨⟨_, _, _, rfl⟩, HB.out⟩
  | true =>
    go_wp2_with fail
    refine (l4Square_any a b _).mono ?_
    rintro e w2 ⟨⟨r, s, rfl⟩, rfl⟩
    go_wp2_with fail
    refine (l4Square_any c d _).mono ?_
    rintro e w2 ⟨⟨r2, s2, rfl⟩, rfl⟩
    go_wp2
    exact bodyPost_ret (v := .tuple #[.int .i64 _, .int .i64 _, .bool true]) (by simp [results, Try.f76, go_sem]; exact ⟨rfl, rfl⟩) rfl ⟨⟨_, _, _, rfl⟩, HB.out⟩
set_option maxHeartbeats 2000000 in
theorem boxAdd_any (a b c d a' b' c' d' : Int) (w : World) : Calls Try.prog 78 #[.agg #[.int .i64 a, .int .i64 b, .int .i64 c, .int .i64 d], .agg #[.int .i64 a', .int .i64 b', .int .i64 c', .int .i64 d']] w fun e w' => (∃ (x y z u : Int) (t : Bool), e = .returned (.tuple #[.agg #[.int .i64 x, .int .i64 y, .int .i64 z, .int .i64 u], .bool t])) ∧ Below w.heap.size w w' := by
  have X0 := ((Box.new w #[.int .i64 a, .int .i64 b, .int .i64 c, .int .i64 d] 91).alloc (.cells #[.int .i64 a', .int .i64 b', .int .i64 c', .int .i64 d'] 91)).alloc (.cells #[.int .i64 0, .int .i64 0, .int .i64 0, .int .i64 0] 91)
  have Y0 : Box w (w.heap.size + 1) #[.int .i64 a', .int .i64 b', .int .i64 c', .int .i64 d'] 91 (((w.alloc (.cells #[.int .i64 a, .int .i64 b, .int .i64 c, .int .i64 d] 91)).alloc (.cells #[.int .i64 a', .int .i64 b', .int .i64 c', .int .i64 d'] 91)).alloc (.cells #[.int .i64 0, .int .i64 0, .int .i64 0, .int .i64 0] 91)) := by
    have := ((Box.new (w.alloc (.cells #[.int .i64 a, .int .i64 b, .int .i64 c, .int .i64 d] 91)) #[.int .i64 a', .int .i64 b', .int .i64 c', .int .i64 d'] 91).alloc (.cells #[.int .i64 0, .int .i64 0, .int .i64 0, .int .i64 0] 91)).up (w0 := w) ((Below.refl _ _).alloc (Nat.le_refl _) _)
    rwa [World.size_alloc] at this
  have Z0 : Box w (w.heap.size + 1 + 1) #[.int .i64 0, .int .i64 0, .int .i64 0, .int .i64 0] 91 (((w.alloc (.cells #[.int .i64 a, .int .i64 b, .int .i64 c, .int .i64 d] 91)).alloc (.cells #[.int .i64 a', .int .i64 b', .int .i64 c', .int .i64 d'] 91)).alloc (.cells #[.int .i64 0, .int .i64 0, .int .i64 0, .int .i64 0] 91)) := by
    have := (Box.new ((w.alloc (.cells #[.int .i64 a, .int .i64 b, .int .i64 c, .int .i64 d] 91)).alloc (.cells #[.int .i64 a', .int .i64 b', .int .i64 c', .int .i64 d'] 91)) #[.int .i64 0, .int .i64 0, .int .i64 0, .int .i64 0] 91).up (w0 := w) (((Below.refl _ _).alloc (Nat.le_refl _) _).alloc (by simp) _)
    rwa [World.size_alloc, World.size_alloc] at this
  have HF : Hid (∀ W, Below w.heap.size w W → ∀ u0 u1 u2 u3, Below w.heap.size w ((((W.setCell ⟨w.heap.size + 1 + 1, 0, none⟩ u0).setCell ⟨w.heap.size + 1 + 1, 1, none⟩ u1).setCell ⟨w.heap.size + 1 + 1, 2, none⟩ u2).setCell ⟨w.heap.size + 1 + 1, 3, none⟩ u3)) := fun W h u0 u1 u2 u3 =>
    (((h.setCell (p := ⟨w.heap.size + 1 + 1, 0, none⟩) (by simp; omega) _).setCell (p := ⟨w.heap.size + 1 + 1, 1, none⟩) (by simp; omega) _).setCell (p := ⟨w.heap.size + 1 + 1, 2, none⟩) (by simp; omega) _).setCell (p := ⟨w.heap.size + 1 + 1, 3, none⟩) (by simp; omega) _
  go_enter Try.func78, Try.ntmps78
  go_wp2_with fail
  refine (boxValid_any a b c d _).mono ?_
  rintro e w1 ⟨rfl, hb⟩
  replace X0 := X0.step hb
  replace Y0 := Y0.step hb
  replace Z0 := Z0.step hb
  clear hb
  have y0 := Y0.cell 0 _ rfl
  have y1 := Y0.cell 1 _ rfl
  have y2 := Y0.cell 2 _ rfl
  have y3 := Y0.cell 3 _ rfl
  cases hv : boxOK a b c d with
  | false =>
    have c0 := Z0.cell 0 _ rfl
    have c1 := Z0.cell 1 _ rfl
    have c2 := Z0.cell 2 _ rfl
    have c3 := Z0.cell 3 _ rfl
    have f0 := Z0.frozen 0
    have f1 := Z0.frozen 1
    have f2 := Z0.frozen 2
    have f3 := Z0.frozen 3
    have HB := Lib.hid Z0.old
    clear X0 Y0 Z0
    go_wp2
    exact bodyPost_ret (v := .tuple #[.agg #[.int .i64 0, .int .i64 0, .int .i64 0, .int .i64 0], .bool false]) (by simp [results, Try.f78, go_sem, c0, c1, c2, c3]) rfl ⟨⟨_, _, _, _, _, rfl⟩, HF.out _ HB.out _ _ _ _⟩
  | true =>
    go_wp2_with fail
    refine (boxValid_any a' b' c' d' _).mono ?_
    rintro e w2 ⟨rfl, hb⟩
    replace X0 := X0.step hb
    replace Y0 := Y0.step hb
    replace Z0 := Z0.step hb
    clear hb y0 y1 y2 y3
    have x0 := X0.cell 0 _ rfl
    have x1 := X0.cell 1 _ rfl
    have x2 := X0.cell 2 _ rfl
    have x3 := X0.cell 3 _ rfl
    have y0 := Y0.cell 0 _ rfl
    have y1 := Y0.cell 1 _ rfl
    have y2 := Y0.cell 2 _ rfl
    have y3 := Y0.cell 3 _ rfl
    cases hv2 : boxOK a' b' c' d' with
    | false =>
      have c0 := Z0.cell 0 _ rfl
      have c1 := Z0.cell 1 _ rfl
      have c2 := Z0.cell 2 _ rfl
      have c3 := Z0.cell 3 _ rfl
      have f0 := Z0.frozen 0
      have f1 := Z0.frozen 1
      have f2 := Z0.frozen 2
      have f3 := Z0.frozen 3
      have HB := Lib.hid Z0.old
      clear X0 Y0 Z0
      go_wp2
      exact bodyPost_ret (v := .tuple #[.agg #[.int .i64 0, .int .i64 0, .int .i64 0, .int .i64 0], .bool false]) (by simp [results, Try.f78, go_sem, c0, c1, c2, c3]) rfl ⟨⟨_, _, _, _, _, rfl⟩, HF.out _ HB.out _ _ _ _⟩
    | true =>
      clear X0 Y0
      go_wp2_with fail
      refine (l4Done_any _ _ _ _ _).mono ?_
      rintro e w3 ⟨⟨p, q, r, s, t, rfl⟩, hb⟩
      replace Z0 := Z0.step hb
      clear hb x0 x1 x2 x3 y0 y1 y2 y3
      have c0 := Z0.cell 0 _ rfl
      have c1 := Z0.cell 1 _ rfl
      have c2 := Z0.cell 2 _ rfl
      have c3 := Z0.cell 3 _ rfl
      have f0 := Z0.frozen 0
      have f1 := Z0.frozen 1
      have f2 := Z0.frozen 2
      have f3 := Z0.frozen 3
      have HB := Lib.hid Z0.old
      clear Z0
      go_wp2
      exact bodyPost_ret (v := .tuple #[.agg #[.int .i64 p, .int .i64 q, .int .i64 r, .int .i64 s], .bool t]) (by simp [results, Try.f78, go_sem, c0, c1, c2, c3]) rfl ⟨⟨_, _, _, _, _, rfl⟩, HF.out _ HB.out _ _ _ _⟩
end Go.Proofs.Ytalmhbcmagjheaa
end

section
/- Walks of the reference's boxes: squares, coarse boxes. -/
namespace Go.Proofs.Ytalmhbcmagjheaa
open Go.RowKit

set_option maxHeartbeats 4000000 in
theorem boxSquare_any (a b c d : Int) (w : World) : Calls Try.prog 77 #[.agg #[.int .i64 a, .int .i64 b, .int .i64 c, .int .i64 d]] w fun e w' => (∃ (x y z u : Int) (t : Bool), e = .returned (.tuple #[.agg #[.int .i64 x, .int .i64 y, .int .i64 z, .int .i64 u], .bool t])) ∧ Below w.heap.size w w' := by
  have X0 : Box w w.heap.size #[.int .i64 a, .int .i64 b, .int .i64 c, .int .i64 d] 91 ((w.alloc (.cells #[.int .i64 a, .int .i64 b, .int .i64 c, .int .i64 d] 91)).alloc (.cells #[.int .i64 0, .int .i64 0, .int .i64 0, .int .i64 0] 91)) := (Box.new w _ _).alloc _
  have X1 : Box w (w.heap.size + 1) #[.int .i64 0, .int .i64 0, .int .i64 0, .int .i64 0] 91 ((w.alloc (.cells #[.int .i64 a, .int .i64 b, .int .i64 c, .int .i64 d] 91)).alloc (.cells #[.int .i64 0, .int .i64 0, .int .i64 0, .int .i64 0] 91)) := by
    have := (Box.new (w.alloc (.cells #[.int .i64 a, .int .i64 b, .int .i64 c, .int .i64 d] 91)) #[.int .i64 0, .int .i64 0, .int .i64 0, .int .i64 0] 91).up (w0 := w) ((Below.refl _ _).alloc (Nat.le_refl _) _)
    rwa [World.size_alloc] at this
  have HF : Hid (∀ W, Below w.heap.size w W → ∀ u0 u1 u2 u3, Below w.heap.size w ((((W.setCell ⟨w.heap.size + 1, 0, none⟩ u0).setCell ⟨w.heap.size + 1, 1, none⟩ u1).setCell ⟨w.heap.size + 1, 2, none⟩ u2).setCell ⟨w.heap.size + 1, 3, none⟩ u3)) := fun W h u0 u1 u2 u3 =>
    (((h.setCell (p := ⟨w.heap.size + 1, 0, none⟩) (by simp) _).setCell (p := ⟨w.heap.size + 1, 1, none⟩) (by simp) _).setCell (p := ⟨w.heap.size + 1, 2, none⟩) (by simp) _).setCell (p := ⟨w.heap.size + 1, 3, none⟩) (by simp) _
  obtain ⟨p, hp⟩ : ∃ p, wrap64 (a * c) = p := ⟨_, rfl⟩
  obtain ⟨q, hq⟩ : ∃ q, wrap64 (a * d) = q := ⟨_, rfl⟩
  obtain ⟨r, hr⟩ : ∃ r, wrap64 (b * c) = r := ⟨_, rfl⟩
  obtain ⟨t, ht⟩ : ∃ t, wrap64 (b * d) = t := ⟨_, rfl⟩
  obtain ⟨m1, h1⟩ : ∃ m, (if q < p then q else p) = m := ⟨_, rfl⟩
  obtain ⟨m2, h2⟩ : ∃ m, (if t < r then t else r) = m := ⟨_, rfl⟩
  obtain ⟨m3, h3⟩ : ∃ m, (if m2 < m1 then m2 else m1) = m := ⟨_, rfl⟩
  obtain ⟨n1, g1⟩ : ∃ m, (if p < q then q else p) = m := ⟨_, rfl⟩
  obtain ⟨n2, g2⟩ : ∃ m, (if r < t then t else r) = m := ⟨_, rfl⟩
  obtain ⟨n3, g3⟩ : ∃ m, (if n1 < n2 then n2 else n1) = m := ⟨_, rfl⟩
  go_enter Try.func77, Try.ntmps77
  go_wp2_with fail
  refine (boxValid_any a b c d _).mono ?_
  rintro e w1 ⟨rfl, hb⟩
  replace X0 := X0.step hb
  replace X1 := X1.step hb
  clear hb
  have x0 := X0.cell 0 _ rfl
  have x1 := X0.cell 1 _ rfl
  have x2 := X0.cell 2 _ rfl
  have x3 := X0.cell 3 _ rfl
  cases hv : boxOK a b c d with
  | false =>
    have c0 := X1.cell 0 _ rfl
    have c1 := X1.cell 1 _ rfl
    have c2 := X1.cell 2 _ rfl
    have c3 := X1.cell 3 _ rfl
    have f0 := X1.frozen 0
    have f1 := X1.frozen 1
    have f2 := X1.frozen 2
    have f3 := X1.frozen 3
    have HB := Lib.hid X1.old
    clear X0 X1
    go_wp2
    exact bodyPost_ret (v := .tuple #[.agg #[.int .i64 0, .int .i64 0, .int .i64 0, .int .i64 0], .bool false]) (by simp [results, Try.f77, go_sem, c0, c1, c2, c3]) rfl ⟨⟨_, _, _, _, _, rfl⟩, HF.out _ HB.out _ _ _ _⟩
  | true =>
    clear X0
    go_wp2_with fail
    refine (l4Square_any a b _).mono ?_
    rintro e w2 ⟨⟨s1, s2, rfl⟩, rfl⟩
    go_wp2_with fail
    refine (l4Square_any c d _).mono ?_
    rintro e w2 ⟨⟨s3, s4, rfl⟩, rfl⟩
    go_wp2_with fail
    refine (l4Floor_any _ 16777216 (by decide) _).mono ?_
    rintro e w2 ⟨⟨r1, rfl⟩, rfl⟩
    go_wp2_with fail
    refine (l4Ceil_any _ 16777216 (by decide) _).mono ?_
    rintro e w2 ⟨⟨r2, rfl⟩, rfl⟩
    go_wp2_with fail
    refine (l4Floor_any _ 16777216 (by decide) _).mono ?_
    rintro e w2 ⟨⟨r3, rfl⟩, rfl⟩
    go_wp2_with fail
    refine (l4Ceil_any _ 16777216 (by decide) _).mono ?_
    rintro e w2 ⟨⟨r4, rfl⟩, rfl⟩
    go_wp2_with fail
    refine (l4Done_any _ _ _ _ _).mono ?_
    rintro e w3 ⟨⟨x, y, z, u, v, rfl⟩, hb⟩
    replace X1 := X1.step hb
    clear hb x0 x1 x2 x3
    have c0 := X1.cell 0 _ rfl
    have c1 := X1.cell 1 _ rfl
    have c2 := X1.cell 2 _ rfl
    have c3 := X1.cell 3 _ rfl
    have f0 := X1.frozen 0
    have f1 := X1.frozen 1
    have f2 := X1.frozen 2
    have f3 := X1.frozen 3
    have HB := Lib.hid X1.old
    clear X1
    go_wp2
    exact bodyPost_ret (v := .tuple #[.agg #[.int .i64 x, .int .i64 y, .int .i64 z, .int .i64 u], .bool v]) (by simp [results, Try.f77, go_sem, c0, c1, c2, c3]) rfl ⟨⟨_, _, _, _, _, rfl⟩, HF.out _ HB.out _ _ _ _⟩
end Go.Proofs.Ytalmhbcmagjheaa
end

section
/- Walks of the reference's boxes: coarse boxes, bounds. -/
namespace Go.Proofs.Ytalmhbcmagjheaa
open Go.RowKit

set_option maxHeartbeats 4000000 in
theorem l5Coarse_any (a b c d : Int) (w : World) : Calls Try.prog 73 #[.agg #[.int .i64 a, .int .i64 b, .int .i64 c, .int .i64 d]] w fun e w' => (∃ (x y z u : Int), e = .returned (.agg #[.int .i64 x, .int .i64 y, .int .i64 z, .int .i64 u])) ∧ Below w.heap.size w w' := by
  have X0 : Box w w.heap.size #[.int .i64 a, .int .i64 b, .int .i64 c, .int .i64 d] 91 (((w.alloc (.cells #[.int .i64 a, .int .i64 b, .int .i64 c, .int .i64 d] 91)).alloc (.cells #[.int .i64 0, .int .i64 0, .int .i64 0, .int .i64 0] 91))) := (Box.new w _ _).alloc _
  have X1 : Box w (w.heap.size + 1) #[.int .i64 0, .int .i64 0, .int .i64 0, .int .i64 0] 91 (((w.alloc (.cells #[.int .i64 a, .int .i64 b, .int .i64 c, .int .i64 d] 91)).alloc (.cells #[.int .i64 0, .int .i64 0, .int .i64 0, .int .i64 0] 91))) := by
    have := (Box.new (w.alloc (.cells #[.int .i64 a, .int .i64 b, .int .i64 c, .int .i64 d] 91)) #[.int .i64 0, .int .i64 0, .int .i64 0, .int .i64 0] 91).up (w0 := w) ((Below.refl _ _).alloc (Nat.le_refl _) _)
    rwa [World.size_alloc] at this
  have HF : Hid (∀ W, Below w.heap.size w W → ∀ u0 u1 u2 u3, Below w.heap.size w ((((W.setCell ⟨w.heap.size + 1, 0, none⟩ u0).setCell ⟨w.heap.size + 1, 1, none⟩ u1).setCell ⟨w.heap.size + 1, 2, none⟩ u2).setCell ⟨w.heap.size + 1, 3, none⟩ u3)) := fun W h u0 u1 u2 u3 =>
    (((h.setCell (p := ⟨w.heap.size + 1, 0, none⟩) (by simp) _).setCell (p := ⟨w.heap.size + 1, 1, none⟩) (by simp) _).setCell (p := ⟨w.heap.size + 1, 2, none⟩) (by simp) _).setCell (p := ⟨w.heap.size + 1, 3, none⟩) (by simp) _
  go_enter Try.func73, Try.ntmps73
  go_upto_region 1 with fail
  have x0 := X0.cell 0 _ rfl
  have x1 := X0.cell 1 _ rfl
  have x2 := X0.cell 2 _ rfl
  have x3 := X0.cell 3 _ rfl
  have c0 := X1.cell 0 _ rfl
  have c1 := X1.cell 1 _ rfl
  have c2 := X1.cell 2 _ rfl
  have c3 := X1.cell 3 _ rfl
  have f0 := X1.frozen 0
  have f1 := X1.frozen 1
  have f2 := X1.frozen 2
  have f3 := X1.frozen 3
  have HB := Lib.hid X1.old
  have HB2 := Lib.hid (X1.step ((Drw.refl _).drew.below _)).old
  clear X0 X1
  generalize ((w.alloc (.cells #[.int .i64 a, .int .i64 b, .int .i64 c, .int .i64 d] 91)).alloc (.cells #[.int .i64 0, .int .i64 0, .int .i64 0, .int .i64 0] 91)) = W at *
  go_region_held3 (fun w' => w'.cell? ⟨w.heap.size, 0, none⟩ = some (.int .i64 a) ∧ w'.cell? ⟨w.heap.size, 1, none⟩ = some (.int .i64 b) ∧ w'.cell? ⟨w.heap.size, 2, none⟩ = some (.int .i64 c) ∧ w'.cell? ⟨w.heap.size, 3, none⟩ = some (.int .i64 d)) (go_keep) (first
    | (go_at_call 82; refine (l4Floor_any _ 4096 (by decide) _).mono ?_; rintro e w' ⟨⟨r1, rfl⟩, rfl⟩)
    | (go_at_call 83; refine (l4Ceil_any _ 4096 (by decide) _).mono ?_; rintro e w' ⟨⟨r1, rfl⟩, rfl⟩))
  all_goals
    go_wp2
    first
      | exact bodyPost_ret (v := .agg #[.int .i64 _, .int .i64 _, .int .i64 _, .int .i64 _]) (by simp [results, Try.f73, go_sem, c0, c1, c2, c3]; exact ⟨rfl, rfl, rfl, rfl⟩) rfl ⟨⟨_, _, _, _, rfl⟩, HF.out _ HB2.out _ _ _ _⟩
      | exact bodyPost_ret (v := .agg #[.int .i64 _, .int .i64 _, .int .i64 _, .int .i64 _]) (by simp [results, Try.f73, go_sem, c0, c1, c2, c3]; exact ⟨rfl, rfl, rfl, rfl⟩) rfl ⟨⟨_, _, _, _, rfl⟩, (HF.out _ HB.out _ _ _ _).trans ((Drw.refl _).drew.below _)⟩
      | trace_state
end Go.Proofs.Ytalmhbcmagjheaa
end

section
/- Walks of the reference's boxes: the two bounds. -/
namespace Go.Proofs.Ytalmhbcmagjheaa
open Go.RowKit

set_option maxHeartbeats 2000000 in
theorem discBound_any (a b c d : Int) (w : World) : Calls Try.prog 64 #[.agg #[.int .i64 a, .int .i64 b, .int .i64 c, .int .i64 d]] w fun e w' => (∃ (x : Int) (t : Bool), e = .returned (.tuple #[.int .i64 x, .bool t])) ∧ Below w.heap.size w w' := by
  have X := Box.new w #[.int .i64 a, .int .i64 b, .int .i64 c, .int .i64 d] 91
  go_enter Try.func64, Try.ntmps64
  go_wp2_with fail
  refine (boxValid_any a b c d _).mono ?_
  rintro e w1 ⟨rfl, hb⟩
  replace X := X.step hb
  clear hb
  have x0 := X.cell 0 _ rfl
  have x1 := X.cell 1 _ rfl
  have x2 := X.cell 2 _ rfl
  have x3 := X.cell 3 _ rfl
  cases hv : boxOK a b c d with
  | false =>
    have HB := Lib.hid X.old
    clear X
    go_wp2
    exact bodyPost_ret (v := .tuple #[.int .i64 0, .bool false]) (by simp [results, Try.f64, go_sem]) rfl ⟨⟨_, _, rfl⟩, HB.out⟩
  | true =>
    go_wp2_with fail
    refine (l5Coarse_any a b c d _).mono ?_
    rintro e w2 ⟨⟨p, q, r, s, rfl⟩, hb⟩
    replace X := X.step hb
    clear hb x0 x1 x2 x3
    have Y := (Box.new w2 #[.int .i64 p, .int .i64 q, .int .i64 r, .int .i64 s] 91).up X.old
    have y0 := Y.cell 0 _ rfl
    have y1 := Y.cell 1 _ rfl
    have y2 := Y.cell 2 _ rfl
    have y3 := Y.cell 3 _ rfl
    have HB := Lib.hid Y.old
    clear X Y
    go_wp2_with fail
    refine (l4Square_any _ _ _).mono ?_
    rintro e w3 ⟨⟨s1, s2, rfl⟩, rfl⟩
    go_wp2_with fail
    refine (l4Square_any _ _ _).mono ?_
    rintro e w3 ⟨⟨s3, s4, rfl⟩, rfl⟩
    go_wp2
    all_goals
      exact bodyPost_ret (v := .tuple #[.int .i64 _, .bool true]) (by simp [results, Try.f64, go_sem]; rfl) rfl ⟨⟨_, _, rfl⟩, HB.out⟩
set_option maxHeartbeats 2000000 in
theorem cardioidBound_any (a b c d : Int) (w : World) : Calls Try.prog 63 #[.agg #[.int .i64 a, .int .i64 b, .int .i64 c, .int .i64 d]] w fun e w' => (∃ (x : Int) (t : Bool), e = .returned (.tuple #[.int .i64 x, .bool t])) ∧ Below w.heap.size w w' := by
  have X := Box.new w #[.int .i64 a, .int .i64 b, .int .i64 c, .int .i64 d] 91
  go_enter Try.func63, Try.ntmps63
  go_wp2_with fail
  refine (boxValid_any a b c d _).mono ?_
  rintro e w1 ⟨rfl, hb⟩
  replace X := X.step hb
  clear hb
  have x0 := X.cell 0 _ rfl
  have x1 := X.cell 1 _ rfl
  have x2 := X.cell 2 _ rfl
  have x3 := X.cell 3 _ rfl
  cases hv : boxOK a b c d with
  | false =>
    have HB := Lib.hid X.old
    clear X
    go_wp2
    exact bodyPost_ret (v := .tuple #[.int .i64 0, .bool false]) (by simp [results, Try.f63, go_sem]) rfl ⟨⟨_, _, rfl⟩, HB.out⟩
  | true =>
    go_wp2_with fail
    refine (l5Coarse_any a b c d _).mono ?_
    rintro e w2 ⟨⟨p, q, r, s, rfl⟩, hb⟩
    replace X := X.step hb
    clear hb x0 x1 x2 x3
    have Y := (Box.new w2 #[.int .i64 p, .int .i64 q, .int .i64 r, .int .i64 s] 91).up X.old
    have y0 := Y.cell 0 _ rfl
    have y1 := Y.cell 1 _ rfl
    have y2 := Y.cell 2 _ rfl
    have y3 := Y.cell 3 _ rfl
    have HB := Lib.hid Y.old
    clear X Y
    go_wp2_with fail
    refine (l4Square_any _ _ _).mono ?_
    rintro e w3 ⟨⟨s1, s2, rfl⟩, rfl⟩
    go_wp2_with fail
    refine (l4Square_any _ _ _).mono ?_
    rintro e w3 ⟨⟨s3, s4, rfl⟩, rfl⟩
    go_wp2
    all_goals
      exact bodyPost_ret (v := .tuple #[.int .i64 _, .bool true]) (by simp [results, Try.f63, go_sem]; rfl) rfl ⟨⟨_, _, rfl⟩, HB.out⟩
end Go.Proofs.Ytalmhbcmagjheaa
end

section
/- Walk of the reference's BoxEscape: it ends. -/
namespace Go.Proofs.Ytalmhbcmagjheaa
open Go.RowKit

set_option maxRecDepth 100000 in
set_option maxHeartbeats 8000000 in
theorem boxEscape_any (a b c d n : Int) (w : World) : Calls Try.prog 65 #[.agg #[.int .i64 a, .int .i64 b, .int .i64 c, .int .i64 d], .int .i64 n] w fun e w' => (∃ (x y : Int) (t : Bool), e = .returned (.tuple #[.int .i64 x, .int .i64 y, .bool t])) ∧ Below w.heap.size w w' := by
  have X := Box.new w #[.int .i64 a, .int .i64 b, .int .i64 c, .int .i64 d] 91
  go_enter Try.func65, Try.ntmps65
  go_wp2_with fail
  refine (boxValid_any a b c d _).mono ?_
  rintro e w1 ⟨rfl, hb⟩
  replace X := X.step hb
  clear hb
  cases hv : boxOK a b c d with
  | false =>
    have HB := Lib.hid X.old
    clear X
    go_wp2
    exact bodyPost_ret (v := .tuple #[.int .i64 0, .int .i64 0, .bool false]) (by simp [results, Try.f65, go_sem]) rfl ⟨⟨_, _, _, rfl⟩, HB.out⟩
  | true =>
    have Z := (Box.new w1 #[.int .i64 0, .int .i64 0, .int .i64 0, .int .i64 0] 91).up X.old
    have hne : w.heap.size ≠ w1.heap.size := by have := X.lt; omega
    have hzb : w.heap.size ≤ w1.heap.size := X.old.size
    replace X := X.alloc (.cells #[.int .i64 0, .int .i64 0, .int .i64 0, .int .i64 0] 91)
    go_wp2
    generalize w1.heap.size = zb at *
    go_loopw [7, 9, 10, 11, 12, 13, 14, 15, 16] (fun f k _ _ _ _ _ _ _ wr => ∃ (fi : Int) (j : Nat) (p q r s : Int), j ≤ 401 ∧ f = .int .i64 fi ∧ k = .int .i64 j ∧ Box w w.heap.size #[.int .i64 a, .int .i64 b, .int .i64 c, .int .i64 d] 91 wr ∧ Box w zb #[.int .i64 p, .int .i64 q, .int .i64 r, .int .i64 s] 91 wr) (fun _ k _ _ _ _ _ _ _ _ => (401 - intOf k).toNat)
    case atStart => exact ⟨-1, 0, 0, 0, 0, 0, by omega, rfl, rfl, X, Z⟩
    case round =>
      clear X Z
      obtain ⟨fi, k, p, q, r, s, hk, rfl, rfl, X, Z⟩ := hrel
      obtain ⟨wo, rfl⟩ : ∃ wo, wo = wr := ⟨_, rfl⟩
      go_wp2_with fail
      refine (l3Most_any n _).mono ?_
      rintro e w2 ⟨⟨m, rfl, m0, m1⟩, rfl⟩
      by_cases hle : (k : Int) ≤ m
      · have z0 := Z.cell 0 _ rfl
        have z1 := Z.cell 1 _ rfl
        have z2 := Z.cell 2 _ rfl
        have z3 := Z.cell 3 _ rfl
        go_wp2_with fail
        refine (boxNorm_any p q r s _).mono ?_
        rintro e w2 ⟨⟨lo, hi, tn, rfl⟩, hb⟩
        clear z0 z1 z2 z3
        replace X := X.step hb
        replace Z := Z.step hb
        clear hb
        have z0 := Z.cell 0 _ rfl
        have z1 := Z.cell 1 _ rfl
        have z2 := Z.cell 2 _ rfl
        have z3 := Z.cell 3 _ rfl
        by_cases hlo : (1125899906842624 : Int) < lo
        · have HB := Lib.hid X.old
          clear X Z
          by_cases hf : fi < 0
          · by_cases hh : (1125899906842624 : Int) < hi
            · go_wp2
              exact bodyPost_ret (v := .tuple #[.int .i64 _, .int .i64 _, .bool true]) (by simp [results, Try.f65, go_sem]; exact ⟨rfl, rfl⟩) rfl ⟨(by first | exact ⟨_, _, _, rfl⟩ | exact ⟨_, _, .inr rfl⟩), HB.out⟩
            · go_wp2
              exact bodyPost_ret (v := .tuple #[.int .i64 _, .int .i64 _, .bool true]) (by simp [results, Try.f65, go_sem]; exact ⟨rfl, rfl⟩) rfl ⟨(by first | exact ⟨_, _, _, rfl⟩ | exact ⟨_, _, .inr rfl⟩), HB.out⟩
          · go_wp2
            exact bodyPost_ret (v := .tuple #[.int .i64 _, .int .i64 _, .bool true]) (by simp [results, Try.f65, go_sem]; exact ⟨rfl, rfl⟩) rfl ⟨(by first | exact ⟨_, _, _, rfl⟩ | exact ⟨_, _, .inr rfl⟩), HB.out⟩
        · by_cases hf : fi < 0
          · by_cases hh : (1125899906842624 : Int) < hi
            · go_wp2_with fail
              refine (boxSquare_any p q r s _).mono ?_
              rintro e w3 ⟨⟨p1, q1, r1, s1, t1, rfl⟩, hb⟩
              clear z0 z1 z2 z3
              replace X := X.step hb
              replace Z := Z.step hb
              clear hb
              have S := (Box.new w3 #[.int .i64 p1, .int .i64 q1, .int .i64 r1, .int .i64 s1] 91).up X.old
              replace X := X.alloc (.cells #[.int .i64 p1, .int .i64 q1, .int .i64 r1, .int .i64 s1] 91)
              replace Z := Z.alloc (.cells #[.int .i64 p1, .int .i64 q1, .int .i64 r1, .int .i64 s1] 91)
              have y0 := S.cell 0 _ rfl
              have y1 := S.cell 1 _ rfl
              have y2 := S.cell 2 _ rfl
              have y3 := S.cell 3 _ rfl
              have x0 := X.cell 0 _ rfl
              have x1 := X.cell 1 _ rfl
              have x2 := X.cell 2 _ rfl
              have x3 := X.cell 3 _ rfl
              go_wp2_with fail
              refine (boxAdd_any p1 q1 r1 s1 a b c d _).mono ?_
              rintro e w4 ⟨⟨p2, q2, r2, s2, t2, rfl⟩, hb⟩
              clear x0 x1 x2 x3 y0 y1 y2 y3 S
              replace X := X.step hb
              replace Z := Z.step hb
              clear hb
              have N := (Box.new w4 #[.int .i64 p2, .int .i64 q2, .int .i64 r2, .int .i64 s2] 91).up X.old
              replace X := X.alloc (.cells #[.int .i64 p2, .int .i64 q2, .int .i64 r2, .int .i64 s2] 91)
              replace Z := Z.alloc (.cells #[.int .i64 p2, .int .i64 q2, .int .i64 r2, .int .i64 s2] 91)
              have HB := Lib.hid X.old
              cases t1 with
              | false =>
                clear X Z N
                go_wp2
                exact bodyPost_ret (v := .tuple #[.int .i64 _, .int .i64 _, .bool true]) (by simp [results, Try.f65, go_sem]; exact ⟨rfl, rfl⟩) rfl ⟨(by first | exact ⟨_, _, _, rfl⟩ | exact ⟨_, _, .inr rfl⟩), HB.out⟩
              | true =>
                cases t2 with
                | false =>
                  clear X Z N
                  go_wp2
                  exact bodyPost_ret (v := .tuple #[.int .i64 _, .int .i64 _, .bool true]) (by simp [results, Try.f65, go_sem]; exact ⟨rfl, rfl⟩) rfl ⟨(by first | exact ⟨_, _, _, rfl⟩ | exact ⟨_, _, .inr rfl⟩), HB.out⟩
                | true =>
                  have n0 := N.cell 0 _ rfl
                  have n1 := N.cell 1 _ rfl
                  have n2 := N.cell 2 _ rfl
                  have n3 := N.cell 3 _ rfl
                  have z0 := Z.cell 0 _ rfl
                  have z1 := Z.cell 1 _ rfl
                  have z2 := Z.cell 2 _ rfl
                  have z3 := Z.cell 3 _ rfl
                  have f0 := Z.frozen 0
                  have f1 := Z.frozen 1
                  have f2 := Z.frozen 2
                  have f3 := Z.frozen 3
                  have HZ : Hid (∀ u0 u1 u2 u3, Box w zb #[u0, u1, u2, u3] 91 (((((w4.alloc (.cells #[.int .i64 p2, .int .i64 q2, .int .i64 r2, .int .i64 s2] 91)).setCell ⟨zb, 0, none⟩ u0).setCell ⟨zb, 1, none⟩ u1).setCell ⟨zb, 2, none⟩ u2).setCell ⟨zb, 3, none⟩ u3)) := fun u0 u1 u2 u3 => (((Z.set hzb 0 u0).set hzb 1 u1).set hzb 2 u2).set hzb 3 u3
                  have HX : Hid (∀ u0 u1 u2 u3, Box w w.heap.size #[.int .i64 a, .int .i64 b, .int .i64 c, .int .i64 d] 91 (((((w4.alloc (.cells #[.int .i64 p2, .int .i64 q2, .int .i64 r2, .int .i64 s2] 91)).setCell ⟨zb, 0, none⟩ u0).setCell ⟨zb, 1, none⟩ u1).setCell ⟨zb, 2, none⟩ u2).setCell ⟨zb, 3, none⟩ u3)) := fun u0 u1 u2 u3 => (((X.other (p := ⟨zb, 0, none⟩) hzb hne u0).other (p := ⟨zb, 1, none⟩) hzb hne u1).other (p := ⟨zb, 2, none⟩) hzb hne u2).other (p := ⟨zb, 3, none⟩) hzb hne u3
                  clear X Z N HB
                  go_wp2
                  go_roundw
                  case rel => exact ⟨k, k + 1, p2, q2, r2, s2, by omega, rfl, by go_num, HX.out _ _ _ _, HZ.out _ _ _ _⟩
                  case measure => simp [intOf]; omega
            · go_wp2_with fail
              refine (boxSquare_any p q r s _).mono ?_
              rintro e w3 ⟨⟨p1, q1, r1, s1, t1, rfl⟩, hb⟩
              clear z0 z1 z2 z3
              replace X := X.step hb
              replace Z := Z.step hb
              clear hb
              have S := (Box.new w3 #[.int .i64 p1, .int .i64 q1, .int .i64 r1, .int .i64 s1] 91).up X.old
              replace X := X.alloc (.cells #[.int .i64 p1, .int .i64 q1, .int .i64 r1, .int .i64 s1] 91)
              replace Z := Z.alloc (.cells #[.int .i64 p1, .int .i64 q1, .int .i64 r1, .int .i64 s1] 91)
              have y0 := S.cell 0 _ rfl
              have y1 := S.cell 1 _ rfl
              have y2 := S.cell 2 _ rfl
              have y3 := S.cell 3 _ rfl
              have x0 := X.cell 0 _ rfl
              have x1 := X.cell 1 _ rfl
              have x2 := X.cell 2 _ rfl
              have x3 := X.cell 3 _ rfl
              go_wp2_with fail
              refine (boxAdd_any p1 q1 r1 s1 a b c d _).mono ?_
              rintro e w4 ⟨⟨p2, q2, r2, s2, t2, rfl⟩, hb⟩
              clear x0 x1 x2 x3 y0 y1 y2 y3 S
              replace X := X.step hb
              replace Z := Z.step hb
              clear hb
              have N := (Box.new w4 #[.int .i64 p2, .int .i64 q2, .int .i64 r2, .int .i64 s2] 91).up X.old
              replace X := X.alloc (.cells #[.int .i64 p2, .int .i64 q2, .int .i64 r2, .int .i64 s2] 91)
              replace Z := Z.alloc (.cells #[.int .i64 p2, .int .i64 q2, .int .i64 r2, .int .i64 s2] 91)
              have HB := Lib.hid X.old
              cases t1 with
              | false =>
                clear X Z N
                go_wp2
                exact bodyPost_ret (v := .tuple #[.int .i64 _, .int .i64 _, .bool true]) (by simp [results, Try.f65, go_sem]; exact ⟨rfl, rfl⟩) rfl ⟨(by first | exact ⟨_, _, _, rfl⟩ | exact ⟨_, _, .inr rfl⟩), HB.out⟩
              | true =>
                cases t2 with
                | false =>
                  clear X Z N
                  go_wp2
                  exact bodyPost_ret (v := .tuple #[.int .i64 _, .int .i64 _, .bool true]) (by simp [results, Try.f65, go_sem]; exact ⟨rfl, rfl⟩) rfl ⟨(by first | exact ⟨_, _, _, rfl⟩ | exact ⟨_, _, .inr rfl⟩), HB.out⟩
                | true =>
                  have n0 := N.cell 0 _ rfl
                  have n1 := N.cell 1 _ rfl
                  have n2 := N.cell 2 _ rfl
                  have n3 := N.cell 3 _ rfl
                  have z0 := Z.cell 0 _ rfl
                  have z1 := Z.cell 1 _ rfl
                  have z2 := Z.cell 2 _ rfl
                  have z3 := Z.cell 3 _ rfl
                  have f0 := Z.frozen 0
                  have f1 := Z.frozen 1
                  have f2 := Z.frozen 2
                  have f3 := Z.frozen 3
                  have HZ : Hid (∀ u0 u1 u2 u3, Box w zb #[u0, u1, u2, u3] 91 (((((w4.alloc (.cells #[.int .i64 p2, .int .i64 q2, .int .i64 r2, .int .i64 s2] 91)).setCell ⟨zb, 0, none⟩ u0).setCell ⟨zb, 1, none⟩ u1).setCell ⟨zb, 2, none⟩ u2).setCell ⟨zb, 3, none⟩ u3)) := fun u0 u1 u2 u3 => (((Z.set hzb 0 u0).set hzb 1 u1).set hzb 2 u2).set hzb 3 u3
                  have HX : Hid (∀ u0 u1 u2 u3, Box w w.heap.size #[.int .i64 a, .int .i64 b, .int .i64 c, .int .i64 d] 91 (((((w4.alloc (.cells #[.int .i64 p2, .int .i64 q2, .int .i64 r2, .int .i64 s2] 91)).setCell ⟨zb, 0, none⟩ u0).setCell ⟨zb, 1, none⟩ u1).setCell ⟨zb, 2, none⟩ u2).setCell ⟨zb, 3, none⟩ u3)) := fun u0 u1 u2 u3 => (((X.other (p := ⟨zb, 0, none⟩) hzb hne u0).other (p := ⟨zb, 1, none⟩) hzb hne u1).other (p := ⟨zb, 2, none⟩) hzb hne u2).other (p := ⟨zb, 3, none⟩) hzb hne u3
                  clear X Z N HB
                  go_wp2
                  go_roundw
                  case rel => exact ⟨fi, k + 1, p2, q2, r2, s2, by omega, rfl, by go_num, HX.out _ _ _ _, HZ.out _ _ _ _⟩
                  case measure => simp [intOf]; omega
          · go_wp2_with fail
            refine (boxSquare_any p q r s _).mono ?_
            rintro e w3 ⟨⟨p1, q1, r1, s1, t1, rfl⟩, hb⟩
            clear z0 z1 z2 z3
            replace X := X.step hb
            replace Z := Z.step hb
            clear hb
            have S := (Box.new w3 #[.int .i64 p1, .int .i64 q1, .int .i64 r1, .int .i64 s1] 91).up X.old
            replace X := X.alloc (.cells #[.int .i64 p1, .int .i64 q1, .int .i64 r1, .int .i64 s1] 91)
            replace Z := Z.alloc (.cells #[.int .i64 p1, .int .i64 q1, .int .i64 r1, .int .i64 s1] 91)
            have y0 := S.cell 0 _ rfl
            have y1 := S.cell 1 _ rfl
            have y2 := S.cell 2 _ rfl
            have y3 := S.cell 3 _ rfl
            have x0 := X.cell 0 _ rfl
            have x1 := X.cell 1 _ rfl
            have x2 := X.cell 2 _ rfl
            have x3 := X.cell 3 _ rfl
            go_wp2_with fail
            refine (boxAdd_any p1 q1 r1 s1 a b c d _).mono ?_
            rintro e w4 ⟨⟨p2, q2, r2, s2, t2, rfl⟩, hb⟩
            clear x0 x1 x2 x3 y0 y1 y2 y3 S
            replace X := X.step hb
            replace Z := Z.step hb
            clear hb
            have N := (Box.new w4 #[.int .i64 p2, .int .i64 q2, .int .i64 r2, .int .i64 s2] 91).up X.old
            replace X := X.alloc (.cells #[.int .i64 p2, .int .i64 q2, .int .i64 r2, .int .i64 s2] 91)
            replace Z := Z.alloc (.cells #[.int .i64 p2, .int .i64 q2, .int .i64 r2, .int .i64 s2] 91)
            have HB := Lib.hid X.old
            cases t1 with
            | false =>
              clear X Z N
              go_wp2
              exact bodyPost_ret (v := .tuple #[.int .i64 _, .int .i64 _, .bool true]) (by simp [results, Try.f65, go_sem]; exact ⟨rfl, rfl⟩) rfl ⟨(by first | exact ⟨_, _, _, rfl⟩ | exact ⟨_, _, .inr rfl⟩), HB.out⟩
            | true =>
              cases t2 with
              | false =>
                clear X Z N
                go_wp2
                exact bodyPost_ret (v := .tuple #[.int .i64 _, .int .i64 _, .bool true]) (by simp [results, Try.f65, go_sem]; exact ⟨rfl, rfl⟩) rfl ⟨(by first | exact ⟨_, _, _, rfl⟩ | exact ⟨_, _, .inr rfl⟩), HB.out⟩
              | true =>
                have n0 := N.cell 0 _ rfl
                have n1 := N.cell 1 _ rfl
                have n2 := N.cell 2 _ rfl
                have n3 := N.cell 3 _ rfl
                have z0 := Z.cell 0 _ rfl
                have z1 := Z.cell 1 _ rfl
                have z2 := Z.cell 2 _ rfl
                have z3 := Z.cell 3 _ rfl
                have f0 := Z.frozen 0
                have f1 := Z.frozen 1
                have f2 := Z.frozen 2
                have f3 := Z.frozen 3
                have HZ : Hid (∀ u0 u1 u2 u3, Box w zb #[u0, u1, u2, u3] 91 (((((w4.alloc (.cells #[.int .i64 p2, .int .i64 q2, .int .i64 r2, .int .i64 s2] 91)).setCell ⟨zb, 0, none⟩ u0).setCell ⟨zb, 1, none⟩ u1).setCell ⟨zb, 2, none⟩ u2).setCell ⟨zb, 3, none⟩ u3)) := fun u0 u1 u2 u3 => (((Z.set hzb 0 u0).set hzb 1 u1).set hzb 2 u2).set hzb 3 u3
                have HX : Hid (∀ u0 u1 u2 u3, Box w w.heap.size #[.int .i64 a, .int .i64 b, .int .i64 c, .int .i64 d] 91 (((((w4.alloc (.cells #[.int .i64 p2, .int .i64 q2, .int .i64 r2, .int .i64 s2] 91)).setCell ⟨zb, 0, none⟩ u0).setCell ⟨zb, 1, none⟩ u1).setCell ⟨zb, 2, none⟩ u2).setCell ⟨zb, 3, none⟩ u3)) := fun u0 u1 u2 u3 => (((X.other (p := ⟨zb, 0, none⟩) hzb hne u0).other (p := ⟨zb, 1, none⟩) hzb hne u1).other (p := ⟨zb, 2, none⟩) hzb hne u2).other (p := ⟨zb, 3, none⟩) hzb hne u3
                clear X Z N HB
                go_wp2
                go_roundw
                case rel => exact ⟨fi, k + 1, p2, q2, r2, s2, by omega, rfl, by go_num, HX.out _ _ _ _, HZ.out _ _ _ _⟩
                case measure => simp [intOf]; omega
      · have HB := Lib.hid X.old
        clear X Z
        go_wp2
        exact bodyPost_ret (v := .tuple #[.int .i64 _, .int .i64 _, .bool true]) (by simp [results, Try.f65, go_sem]; exact ⟨rfl, rfl⟩) rfl ⟨(by first | exact ⟨_, _, _, rfl⟩ | exact ⟨_, _, .inr rfl⟩), HB.out⟩
end Go.Proofs.Ytalmhbcmagjheaa
end

section
/- Walk of the reference's CellState: it ends with -1, 0 or 1. -/
namespace Go.Proofs.Ytalmhbcmagjheaa
open Go.RowKit

set_option maxHeartbeats 4000000 in
theorem cellState_any (a b c d n : Int) (w : World) : Calls Try.prog 51 #[.agg #[.int .i64 a, .int .i64 b, .int .i64 c, .int .i64 d], .int .i64 n] w fun e w' => (∃ (x : Int) (t : Bool), e = .returned (.tuple #[.int .i64 x, .bool t]) ∧ -1 ≤ x ∧ x ≤ 1) ∧ Below w.heap.size w w' := by
  have X := Box.new w #[.int .i64 a, .int .i64 b, .int .i64 c, .int .i64 d] 91
  have x0 := X.cell 0 _ rfl
  have x1 := X.cell 1 _ rfl
  have x2 := X.cell 2 _ rfl
  have x3 := X.cell 3 _ rfl
  go_enter Try.func51, Try.ntmps51
  go_wp2_with fail
  refine (cardioidBound_any a b c d _).mono ?_
  rintro e w1 ⟨⟨x, p, rfl⟩, hb⟩
  clear x0 x1 x2 x3
  replace X := X.step hb
  clear hb
  have x0 := X.cell 0 _ rfl
  have x1 := X.cell 1 _ rfl
  have x2 := X.cell 2 _ rfl
  have x3 := X.cell 3 _ rfl
  go_wp2_with fail
  refine (discBound_any a b c d _).mono ?_
  rintro e w2 ⟨⟨y, q, rfl⟩, hb⟩
  clear x0 x1 x2 x3
  replace X := X.step hb
  clear hb
  have x0 := X.cell 0 _ rfl
  have x1 := X.cell 1 _ rfl
  have x2 := X.cell 2 _ rfl
  have x3 := X.cell 3 _ rfl
  go_wp2_with fail
  refine (boxEscape_any a b c d n _).mono ?_
  rintro e w3 ⟨⟨u, k, r, rfl⟩, hb⟩
  have HB := Lib.hid (X.step hb).old
  clear x0 x1 x2 x3 X hb
  cases p with
  | false =>
    go_wp2
    exact bodyPost_ret (v := .tuple #[.int .i64 0, .bool false]) (by simp [results, Try.f51, go_sem]) rfl ⟨⟨0, _, rfl, by omega, by omega⟩, HB.out⟩
  | true =>
    cases q with
    | false =>
      go_wp2
      exact bodyPost_ret (v := .tuple #[.int .i64 0, .bool false]) (by simp [results, Try.f51, go_sem]) rfl ⟨⟨0, _, rfl, by omega, by omega⟩, HB.out⟩
    | true =>
      cases r with
      | false =>
        go_wp2
        exact bodyPost_ret (v := .tuple #[.int .i64 0, .bool false]) (by simp [results, Try.f51, go_sem]) rfl ⟨⟨0, _, rfl, by omega, by omega⟩, HB.out⟩
      | true =>
        by_cases hx : x ≤ 0
        · go_wp2
          exact bodyPost_ret (v := .tuple #[.int .i64 1, .bool true]) (by simp [results, Try.f51, go_sem]) rfl ⟨⟨1, _, rfl, by omega, by omega⟩, HB.out⟩
        · by_cases hy : y ≤ 0
          · go_wp2
            exact bodyPost_ret (v := .tuple #[.int .i64 1, .bool true]) (by simp [results, Try.f51, go_sem]) rfl ⟨⟨1, _, rfl, by omega, by omega⟩, HB.out⟩
          · by_cases hk : 0 ≤ k
            · go_wp2
              exact bodyPost_ret (v := .tuple #[.int .i64 (-1), .bool true]) (by simp [results, Try.f51, go_sem]) rfl ⟨⟨-1, _, rfl, by omega, by omega⟩, HB.out⟩
            · go_wp2
              exact bodyPost_ret (v := .tuple #[.int .i64 0, .bool true]) (by simp [results, Try.f51, go_sem]) rfl ⟨⟨0, _, rfl, by omega, by omega⟩, HB.out⟩
end Go.Proofs.Ytalmhbcmagjheaa
end
