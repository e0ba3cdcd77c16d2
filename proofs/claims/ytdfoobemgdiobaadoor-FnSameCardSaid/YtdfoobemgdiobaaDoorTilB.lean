/- Walks of the reference's tiles: the box of a cell. -/
import Derived.Test.YtdfoobemgdiobaaDoorTilA
import Derived.Deep.RegionWith
import Derived.Deep.DrawnRows
import Derived.Deep.Cut
import Derived.Outline
namespace Go.Proofs.YtdfoobemgdiobaaDoor
open Go.RowKit
attribute [local go_sem ↓] Go.wp_at_zero Go.wp_at_succ

set_option maxHeartbeats 1000000 in
theorem boxOf_any (x y : Nat) (hx : x < 4294967296) (hy : y < 4294967296) (w : World) :
    Calls Tryd.prog 67 #[.complex .f32 x y] w fun e w' => (∃ (p q r s : Int) (t : Bool), e = .returned (.tuple #[.agg #[.int .i64 p, .int .i64 q, .int .i64 r, .int .i64 s], .bool t])) ∧ Below w.heap.size w w' := by
  have X := Box.new w #[.int .i64 0, .int .i64 0, .int .i64 0, .int .i64 0] 96
  have HF : Hid (∀ W, Below w.heap.size w W → ∀ u0 u1 u2 u3, Below w.heap.size w ((((W.setCell ⟨w.heap.size, 0, none⟩ u0).setCell ⟨w.heap.size, 1, none⟩ u1).setCell ⟨w.heap.size, 2, none⟩ u2).setCell ⟨w.heap.size, 3, none⟩ u3)) := fun W h u0 u1 u2 u3 =>
    (((h.setCell (p := ⟨w.heap.size, 0, none⟩) (Nat.le_refl _) _).setCell (p := ⟨w.heap.size, 1, none⟩) (Nat.le_refl _) _).setCell (p := ⟨w.heap.size, 2, none⟩) (Nat.le_refl _) _).setCell (p := ⟨w.heap.size, 3, none⟩) (Nat.le_refl _) _
  go_enter Tryd.func67, Tryd.ntmps67
  go_wp2_with fail
  refine (l4Steps_any x hx _).mono ?_
  rintro e w1 ⟨⟨a, b, t1, rfl⟩, hd⟩
  replace X := X.step (hd.below _)
  clear hd
  go_wp2_with fail
  refine (l4Steps_any y hy _).mono ?_
  rintro e w2 ⟨⟨c, d, t2, rfl⟩, hd⟩
  replace X := X.step (hd.below _)
  clear hd
  cases t1 with
  | false =>
    have c0 := X.cell 0 _ rfl
    have c1 := X.cell 1 _ rfl
    have c2 := X.cell 2 _ rfl
    have c3 := X.cell 3 _ rfl
    have f0 := X.frozen 0
    have f1 := X.frozen 1
    have f2 := X.frozen 2
    have f3 := X.frozen 3
    have HB := Lib.hid X.old
    clear X
    go_wp2
    exact bodyPost_ret (v := .tuple #[.agg #[.int .i64 0, .int .i64 0, .int .i64 0, .int .i64 0], .bool false]) (by simp [results, Tryd.f67, go_sem, c0, c1, c2, c3]) rfl ⟨⟨_, _, _, _, _, rfl⟩, HF.out _ HB.out _ _ _ _⟩
  | true =>
    cases t2 with
    | false =>
      have c0 := X.cell 0 _ rfl
      have c1 := X.cell 1 _ rfl
      have c2 := X.cell 2 _ rfl
      have c3 := X.cell 3 _ rfl
      have f0 := X.frozen 0
      have f1 := X.frozen 1
      have f2 := X.frozen 2
      have f3 := X.frozen 3
      have HB := Lib.hid X.old
      clear X
      go_wp2
      exact bodyPost_ret (v := .tuple #[.agg #[.int .i64 0, .int .i64 0, .int .i64 0, .int .i64 0], .bool false]) (by simp [results, Tryd.f67, go_sem, c0, c1, c2, c3]) rfl ⟨⟨_, _, _, _, _, rfl⟩, HF.out _ HB.out _ _ _ _⟩
    | true =>
      go_wp2_with fail
      refine (l4Done_any a b c d _).mono ?_
      rintro e w3 ⟨⟨p, q, r, s, t, rfl⟩, hb⟩
      replace X := X.step hb
      clear hb
      have c0 := X.cell 0 _ rfl
      have c1 := X.cell 1 _ rfl
      have c2 := X.cell 2 _ rfl
      have c3 := X.cell 3 _ rfl
      have f0 := X.frozen 0
      have f1 := X.frozen 1
      have f2 := X.frozen 2
      have f3 := X.frozen 3
      have HB := Lib.hid X.old
      clear X
      go_wp2
      exact bodyPost_ret (v := .tuple #[.agg #[.int .i64 p, .int .i64 q, .int .i64 r, .int .i64 s], .bool t]) (by simp [results, Tryd.f67, go_sem, c0, c1, c2, c3]) rfl ⟨⟨_, _, _, _, _, rfl⟩, HF.out _ HB.out _ _ _ _⟩
set_option maxHeartbeats 4000000 in
theorem l7Box_any (cx cy d : Nat) (i j : Int) (hd : d ≤ 11) (w : World) :
    Calls Tryd.prog 57 #[.complex .f32 cx cy, .int .i64 d, .int .i64 i, .int .i64 j] w fun e w' => (∃ (p q r s : Int) (t : Bool), e = .returned (.tuple #[.agg #[.int .i64 p, .int .i64 q, .int .i64 r, .int .i64 s], .bool t])) ∧ Below w.heap.size w w' := by
  have R := Box.new w #[.int .i64 0, .int .i64 0, .int .i64 0, .int .i64 0] 96
  go_enter Tryd.func57, Tryd.ntmps57
  go_wp2_with fail
  refine (l7Point_any cx cy d i j hd _).mono ?_
  rintro e w1 ⟨⟨x, y, rfl, hx, hy⟩, hd1⟩
  replace R := R.step (hd1.below _)
  clear hd1
  go_wp2_with fail
  refine (boxOf_any x y hx hy _).mono ?_
  rintro e w2 ⟨⟨p, q, r, s, t, rfl⟩, hb⟩
  replace R := R.step hb
  clear hb
  have X := (Box.new w2 #[.int .i64 p, .int .i64 q, .int .i64 r, .int .i64 s] 96).up R.old
  have hne : w2.heap.size ≠ w.heap.size := by have := R.lt; omega
  have hxb : w.heap.size ≤ w2.heap.size := R.old.size
  replace R := R.alloc (.cells #[.int .i64 p, .int .i64 q, .int .i64 r, .int .i64 s] 96)
  obtain ⟨sd, hsd⟩ : ∃ sd : Int, (16777216 : Int) / 2 ^ d = sd := ⟨_, rfl⟩
  have x1 := X.cell 1 _ rfl
  have x3 := X.cell 3 _ rfl
  have f1 := X.frozen 1
  have f3 := X.frozen 3
  go_upto_region 5 with fail
  clear x1 x3 f1 f3 X
  obtain ⟨q', hq'⟩ : ∃ q', wrap64 (q + sd) = q' := ⟨_, rfl⟩
  obtain ⟨s', hs'⟩ : ∃ s', wrap64 (s + sd) = s' := ⟨_, rfl⟩
  rw [hq', hs']
  have X := (Box.new w2 #[.int .i64 p, .int .i64 q', .int .i64 r, .int .i64 s'] 96).up (w0 := w) (by have := R.old; exact ⟨this.os, this.tape, this.output, hxb, fun k hk => by rw [← this.block k hk]; exact (Below.heap_alloc _ _ _ (by omega)).symm⟩)
  replace R : Box w w.heap.size #[.int .i64 0, .int .i64 0, .int .i64 0, .int .i64 0] 96 (w2.alloc (.cells #[.int .i64 p, .int .i64 q', .int .i64 r, .int .i64 s'] 96)) := by
    refine ⟨?_, X.old⟩
    have := R.blk
    rw [Below.heap_alloc _ _ _ (by have := R.lt; simp at this; omega)] at this
    rw [Below.heap_alloc _ _ _ (by have := R.lt; simp at this; omega)]
    exact this
  clear hq' hs' hsd hx hy
  generalize w2.heap.size = xb at *
  generalize w2.alloc (.cells #[.int .i64 p, .int .i64 q', .int .i64 r, .int .i64 s'] 96) = W at *
  have HF : Hid (∀ W, Below w.heap.size w W → ∀ u0 u1 u2 u3, Below w.heap.size w ((((W.setCell ⟨w.heap.size, 0, none⟩ u0).setCell ⟨w.heap.size, 1, none⟩ u1).setCell ⟨w.heap.size, 2, none⟩ u2).setCell ⟨w.heap.size, 3, none⟩ u3)) := fun W h u0 u1 u2 u3 =>
    (((h.setCell (p := ⟨w.heap.size, 0, none⟩) (Nat.le_refl _) _).setCell (p := ⟨w.heap.size, 1, none⟩) (Nat.le_refl _) _).setCell (p := ⟨w.heap.size, 2, none⟩) (Nat.le_refl _) _).setCell (p := ⟨w.heap.size, 3, none⟩) (Nat.le_refl _) _
  have x0 := X.cell 0 _ rfl
  have x1 := X.cell 1 _ rfl
  have x2 := X.cell 2 _ rfl
  have x3 := X.cell 3 _ rfl
  cases t with
  | false =>
    have c0 := R.cell 0 _ rfl
    have c1 := R.cell 1 _ rfl
    have c2 := R.cell 2 _ rfl
    have c3 := R.cell 3 _ rfl
    have f0 := R.frozen 0
    have f1 := R.frozen 1
    have f2 := R.frozen 2
    have f3 := R.frozen 3
    have HB := Lib.hid (X.step ((Drw.refl _).drew.below _)).old
    have HB2 := Lib.hid X.old
    clear X R
    go_region_with (fail)
    all_goals
      go_wp2
      first
        | exact bodyPost_ret (v := .tuple #[.agg #[.int .i64 p, .int .i64 q', .int .i64 r, .int .i64 s'], .bool false]) (by simp [results, Tryd.f57, go_sem, c0, c1, c2, c3]) rfl ⟨⟨_, _, _, _, _, rfl⟩, HF.out _ HB.out _ _ _ _⟩
        | exact bodyPost_ret (v := .tuple #[.agg #[.int .i64 p, .int .i64 q', .int .i64 r, .int .i64 s'], .bool false]) (by simp [results, Tryd.f57, go_sem, c0, c1, c2, c3]) rfl ⟨⟨_, _, _, _, _, rfl⟩, (HF.out _ HB2.out _ _ _ _).trans ((Drw.refl _).drew.below _)⟩
  | true =>
    replace R := R.step ((Drw.refl _).drew.below _)
    go_region_with (first
      | (go_at_call 68
         refine (boxValid_any p q' r s' _).mono ?_
         rintro e w3 ⟨rfl, hb⟩
         replace X := X.step (((Drw.refl _).drew.below _).trans hb)
         replace R := R.step hb
         have x0 := X.cell 0 _ rfl
         have x1 := X.cell 1 _ rfl
         have x2 := X.cell 2 _ rfl
         have x3 := X.cell 3 _ rfl
         have c0 := R.cell 0 _ rfl
         have c1 := R.cell 1 _ rfl
         have c2 := R.cell 2 _ rfl
         have c3 := R.cell 3 _ rfl
         have f0 := R.frozen 0
         have f1 := R.frozen 1
         have f2 := R.frozen 2
         have f3 := R.frozen 3
         have HB := Lib.hid R.old))
    all_goals
      go_wp2
      exact bodyPost_ret (v := .tuple #[.agg #[.int .i64 p, .int .i64 q', .int .i64 r, .int .i64 s'], .bool (boxOK p q' r s')]) (by simp [results, Tryd.f57, go_sem, c0, c1, c2, c3]) rfl ⟨⟨_, _, _, _, _, rfl⟩, HF.out _ HB.out _ _ _ _⟩
end Go.Proofs.YtdfoobemgdiobaaDoor
