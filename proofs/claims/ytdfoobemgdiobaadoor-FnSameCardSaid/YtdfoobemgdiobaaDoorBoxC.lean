/- Walks of the reference's boxes: coarse boxes, bounds. -/
import Derived.Test.YtdfoobemgdiobaaDoorBoxU
import Derived.Deep.Cut
import Derived.Deep.RegionHeld3
namespace Go.Proofs.YtdfoobemgdiobaaDoor
open Go.RowKit

set_option maxHeartbeats 4000000 in
theorem l5Coarse_any (a b c d : Int) (w : World) : Calls Tryd.prog 80 #[.agg #[.int .i64 a, .int .i64 b, .int .i64 c, .int .i64 d]] w fun e w' => (∃ (x y z u : Int), e = .returned (.agg #[.int .i64 x, .int .i64 y, .int .i64 z, .int .i64 u])) ∧ Below w.heap.size w w' := by
  have X0 : Box w w.heap.size #[.int .i64 a, .int .i64 b, .int .i64 c, .int .i64 d] 96 (((w.alloc (.cells #[.int .i64 a, .int .i64 b, .int .i64 c, .int .i64 d] 96)).alloc (.cells #[.int .i64 0, .int .i64 0, .int .i64 0, .int .i64 0] 96))) := (Box.new w _ _).alloc _
  have X1 : Box w (w.heap.size + 1) #[.int .i64 0, .int .i64 0, .int .i64 0, .int .i64 0] 96 (((w.alloc (.cells #[.int .i64 a, .int .i64 b, .int .i64 c, .int .i64 d] 96)).alloc (.cells #[.int .i64 0, .int .i64 0, .int .i64 0, .int .i64 0] 96))) := by
    have := (Box.new (w.alloc (.cells #[.int .i64 a, .int .i64 b, .int .i64 c, .int .i64 d] 96)) #[.int .i64 0, .int .i64 0, .int .i64 0, .int .i64 0] 96).up (w0 := w) ((Below.refl _ _).alloc (Nat.le_refl _) _)
    rwa [World.size_alloc] at this
  have HF : Hid (∀ W, Below w.heap.size w W → ∀ u0 u1 u2 u3, Below w.heap.size w ((((W.setCell ⟨w.heap.size + 1, 0, none⟩ u0).setCell ⟨w.heap.size + 1, 1, none⟩ u1).setCell ⟨w.heap.size + 1, 2, none⟩ u2).setCell ⟨w.heap.size + 1, 3, none⟩ u3)) := fun W h u0 u1 u2 u3 =>
    (((h.setCell (p := ⟨w.heap.size + 1, 0, none⟩) (by simp) _).setCell (p := ⟨w.heap.size + 1, 1, none⟩) (by simp) _).setCell (p := ⟨w.heap.size + 1, 2, none⟩) (by simp) _).setCell (p := ⟨w.heap.size + 1, 3, none⟩) (by simp) _
  go_enter Tryd.func80, Tryd.ntmps80
  go_upto_region 1 with fail
  have x0 := X0.cell 0 _ rfl
  have x1 := X0.cell 1 _ rfl
  have x2 := X0.cell 2 _ rfl
  have x3 := X0.cell 3 _ rfl
  have c0 := X1.cell 0 _ rfl
  have c1 := X1.cell 1 _ rfl
  have c2 := X1.cell 2 _ rfl
  have c3 := X1.cell 3 _ rfl
  have f0 := X1.frozen 0
  have f1 := X1.frozen 1
  have f2 := X1.frozen 2
  have f3 := X1.frozen 3
  have HB := Lib.hid X1.old
  have HB2 := Lib.hid (X1.step ((Drw.refl _).drew.below _)).old
  clear X0 X1
  generalize ((w.alloc (.cells #[.int .i64 a, .int .i64 b, .int .i64 c, .int .i64 d] 96)).alloc (.cells #[.int .i64 0, .int .i64 0, .int .i64 0, .int .i64 0] 96)) = W at *
  go_region_held3 (fun w' => w'.cell? ⟨w.heap.size, 0, none⟩ = some (.int .i64 a) ∧ w'.cell? ⟨w.heap.size, 1, none⟩ = some (.int .i64 b) ∧ w'.cell? ⟨w.heap.size, 2, none⟩ = some (.int .i64 c) ∧ w'.cell? ⟨w.heap.size, 3, none⟩ = some (.int .i64 d)) (go_keep) (first
    | (go_at_call 93; refine (l4Floor_any _ 4096 (by decide) _).mono ?_; rintro e w' ⟨⟨r1, rfl⟩, rfl⟩)
    | (go_at_call 94; refine (l4Ceil_any _ 4096 (by decide) _).mono ?_; rintro e w' ⟨⟨r1, rfl⟩, rfl⟩))
  all_goals
    go_wp2
    first
      | exact bodyPost_ret (v := .agg #[.int .i64 _, .int .i64 _, .int .i64 _, .int .i64 _]) (by simp [results, Tryd.f80, go_sem, c0, c1, c2, c3]; exact ⟨rfl, rfl, rfl, rfl⟩) rfl ⟨⟨_, _, _, _, rfl⟩, HF.out _ HB2.out _ _ _ _⟩
      | exact bodyPost_ret (v := .agg #[.int .i64 _, .int .i64 _, .int .i64 _, .int .i64 _]) (by simp [results, Tryd.f80, go_sem, c0, c1, c2, c3]; exact ⟨rfl, rfl, rfl, rfl⟩) rfl ⟨⟨_, _, _, _, rfl⟩, (HF.out _ HB.out _ _ _ _).trans ((Drw.refl _).drew.below _)⟩
      | trace_state
end Go.Proofs.YtdfoobemgdiobaaDoor
