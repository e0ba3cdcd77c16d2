/- Walks: angles mirrored, doubled. -/
import Derived.Test.YtcdkhacccbdmdaaDoorAngM
namespace Go.Proofs.YtcdkhacccbdmdaaDoor
open Go.RowKit

set_option maxHeartbeats 1000000 in
theorem implAngleMirror_any (a b : Int) (w : World) : Calls Tryd.prog 16 #[.agg #[.int .i64 a, .int .i64 b]] w fun e w' =>
    (angleOK a b = false → e = .returned (.tuple #[.agg #[.int .i64 0, .int .i64 0], .bool false])) ∧
    (∀ n d : Nat, a = n → b = d → angleOK a b = true → e = .returned (.tuple #[.agg #[.int .i64 (lowN (d - n) d), .int .i64 (lowD (d - n) d)], .bool true])) ∧ Below w.heap.size w w' := by
  have X0 : Box w w.heap.size #[.int .i64 a, .int .i64 b] 24 ((w.alloc (.cells #[.int .i64 a, .int .i64 b] 24)).alloc (.cells #[.int .i64 0, .int .i64 0] 24)) := (Box.new w _ _).alloc _
  have X1 : Box w (w.heap.size + 1) #[.int .i64 0, .int .i64 0] 24 ((w.alloc (.cells #[.int .i64 a, .int .i64 b] 24)).alloc (.cells #[.int .i64 0, .int .i64 0] 24)) := by
    have := (Box.new (w.alloc (.cells #[.int .i64 a, .int .i64 b] 24)) #[.int .i64 0, .int .i64 0] 24).up (w0 := w) ((Below.refl _ _).alloc (Nat.le_refl _) _)
    rwa [World.size_alloc] at this
  cases hok : angleOK a b with
  | false =>
    go_enter Tryd.func16, Tryd.ntmps16
    go_wp2_with fail
    refine (implAngleValid_any a b _).mono ?_
    rw [hok]
    rintro e w1 ⟨rfl, hb⟩
    replace X1 := X1.step hb
    clear X0 hb
    have c0 := X1.cell 0 _ rfl
    have c1 := X1.cell 1 _ rfl
    have f0 := X1.frozen 0
    have f1 := X1.frozen 1
    have HB := Lib.hid X1.old
    clear X1
    go_wp2
    refine bodyPost_ret (v := .tuple #[.agg #[.int .i64 0, .int .i64 0], .bool false]) (by simp [results, Tryd.f16, go_sem, c0, c1]) rfl ⟨fun _ => rfl, fun _ _ _ _ h => by simp at h, ?_⟩
    exact (HB.out.setCell (p := ⟨w.heap.size + 1, 0, none⟩) (by simp) _).setCell (p := ⟨w.heap.size + 1, 1, none⟩) (by simp) _
  | true =>
    obtain ⟨n, d, rfl, rfl, hnd, hd, _⟩ := angleOK_nat hok
    have e1 : (d : Int) - n = ((d - n : Nat) : Int) := by omega
    have HM := Lib.hid (fun w => implAngleMake_any (d - n) d (by omega) hd (by omega) w)
    generalize hx : lowN (d - n) d = x at *
    generalize hy : lowD (d - n) d = y at *
    rw [← e1] at HM
    clear e1
    go_enter Tryd.func16, Tryd.ntmps16
    go_wp2_with fail
    refine (implAngleValid_any n d _).mono ?_
    rw [hok]
    rintro e w1 ⟨rfl, hb⟩
    replace X1 := X1.step hb
    replace X0 := X0.step hb
    clear hb
    have b0 := X0.cell 0 _ rfl
    have b1 := X0.cell 1 _ rfl
    go_wp2_with fail
    refine (HM.out _).mono ?_
    rintro e w2 ⟨rfl, hb⟩
    replace X1 := X1.step hb
    clear hb X0 b0 b1
    have c0 := X1.cell 0 _ rfl
    have c1 := X1.cell 1 _ rfl
    have f0 := X1.frozen 0
    have f1 := X1.frozen 1
    have HB := Lib.hid X1.old
    clear X1
    go_wp2
    refine bodyPost_ret (v := .tuple #[.agg #[.int .i64 x, .int .i64 y], .bool true]) (by simp [results, Tryd.f16, go_sem, c0, c1]) rfl ⟨fun h => by simp at h, fun n' d' h1 h2 _ => ?_, ?_⟩
    · obtain rfl : n = n' := by omega
      obtain rfl : d = d' := by omega
      rw [hx, hy]
    · exact (HB.out.setCell (p := ⟨w.heap.size + 1, 0, none⟩) (by simp) _).setCell (p := ⟨w.heap.size + 1, 1, none⟩) (by simp) _
set_option maxHeartbeats 1000000 in
theorem implAngleDouble_any (a b : Int) (w : World) : Calls Tryd.prog 14 #[.agg #[.int .i64 a, .int .i64 b]] w fun e w' =>
    (angleOK a b = false → e = .returned (.tuple #[.agg #[.int .i64 0, .int .i64 0], .bool false])) ∧
    (∀ n d : Nat, a = n → b = d → angleOK a b = true → e = .returned (.tuple #[.agg #[.int .i64 (lowN (2 * n) d), .int .i64 (lowD (2 * n) d)], .bool true])) ∧ Below w.heap.size w w' := by
  have X0 : Box w w.heap.size #[.int .i64 a, .int .i64 b] 24 ((w.alloc (.cells #[.int .i64 a, .int .i64 b] 24)).alloc (.cells #[.int .i64 0, .int .i64 0] 24)) := (Box.new w _ _).alloc _
  have X1 : Box w (w.heap.size + 1) #[.int .i64 0, .int .i64 0] 24 ((w.alloc (.cells #[.int .i64 a, .int .i64 b] 24)).alloc (.cells #[.int .i64 0, .int .i64 0] 24)) := by
    have := (Box.new (w.alloc (.cells #[.int .i64 a, .int .i64 b] 24)) #[.int .i64 0, .int .i64 0] 24).up (w0 := w) ((Below.refl _ _).alloc (Nat.le_refl _) _)
    rwa [World.size_alloc] at this
  cases hok : angleOK a b with
  | false =>
    go_enter Tryd.func14, Tryd.ntmps14
    go_wp2_with fail
    refine (implAngleValid_any a b _).mono ?_
    rw [hok]
    rintro e w1 ⟨rfl, hb⟩
    replace X1 := X1.step hb
    clear X0 hb
    have c0 := X1.cell 0 _ rfl
    have c1 := X1.cell 1 _ rfl
    have f0 := X1.frozen 0
    have f1 := X1.frozen 1
    have HB := Lib.hid X1.old
    clear X1
    go_wp2
    refine bodyPost_ret (v := .tuple #[.agg #[.int .i64 0, .int .i64 0], .bool false]) (by simp [results, Tryd.f14, go_sem, c0, c1]) rfl ⟨fun _ => rfl, fun _ _ _ _ h => by simp at h, ?_⟩
    exact (HB.out.setCell (p := ⟨w.heap.size + 1, 0, none⟩) (by simp) _).setCell (p := ⟨w.heap.size + 1, 1, none⟩) (by simp) _
  | true =>
    obtain ⟨n, d, rfl, rfl, hnd, hd, _⟩ := angleOK_nat hok
    have e1 : 2 * (n : Int) = ((2 * n : Nat) : Int) := by omega
    have HM := Lib.hid (fun w => implAngleMake_any (2 * n) d (by omega) hd (by omega) w)
    generalize hx : lowN (2 * n) d = x at *
    generalize hy : lowD (2 * n) d = y at *
    rw [← e1] at HM
    clear e1
    go_enter Tryd.func14, Tryd.ntmps14
    go_wp2_with fail
    refine (implAngleValid_any n d _).mono ?_
    rw [hok]
    rintro e w1 ⟨rfl, hb⟩
    replace X1 := X1.step hb
    replace X0 := X0.step hb
    clear hb
    have b0 := X0.cell 0 _ rfl
    have b1 := X0.cell 1 _ rfl
    go_wp2_with fail
    refine (HM.out _).mono ?_
    rintro e w2 ⟨rfl, hb⟩
    replace X1 := X1.step hb
    clear hb X0 b0 b1
    have c0 := X1.cell 0 _ rfl
    have c1 := X1.cell 1 _ rfl
    have f0 := X1.frozen 0
    have f1 := X1.frozen 1
    have HB := Lib.hid X1.old
    clear X1
    go_wp2
    refine bodyPost_ret (v := .tuple #[.agg #[.int .i64 x, .int .i64 y], .bool true]) (by simp [results, Tryd.f14, go_sem, c0, c1]) rfl ⟨fun h => by simp at h, fun n' d' h1 h2 _ => ?_, ?_⟩
    · obtain rfl : n = n' := by omega
      obtain rfl : d = d' := by omega
      rw [hx, hy]
    · exact (HB.out.setCell (p := ⟨w.heap.size + 1, 0, none⟩) (by simp) _).setCell (p := ⟨w.heap.size + 1, 1, none⟩) (by simp) _
set_option maxHeartbeats 1000000 in
theorem specAngleMirror_any (a b : Int) (w : World) : Calls Tryd.prog 17 #[.agg #[.int .i64 a, .int .i64 b]] w fun e w' =>
    (angleOK a b = false → e = .returned (.tuple #[.agg #[.int .i64 0, .int .i64 0], .bool false])) ∧
    (∀ n d : Nat, a = n → b = d → angleOK a b = true → e = .returned (.tuple #[.agg #[.int .i64 (lowN (d - n) d), .int .i64 (lowD (d - n) d)], .bool true])) ∧ Below w.heap.size w w' := by
  have X0 : Box w w.heap.size #[.int .i64 a, .int .i64 b] 24 ((w.alloc (.cells #[.int .i64 a, .int .i64 b] 24)).alloc (.cells #[.int .i64 0, .int .i64 0] 24)) := (Box.new w _ _).alloc _
  have X1 : Box w (w.heap.size + 1) #[.int .i64 0, .int .i64 0] 24 ((w.alloc (.cells #[.int .i64 a, .int .i64 b] 24)).alloc (.cells #[.int .i64 0, .int .i64 0] 24)) := by
    have := (Box.new (w.alloc (.cells #[.int .i64 a, .int .i64 b] 24)) #[.int .i64 0, .int .i64 0] 24).up (w0 := w) ((Below.refl _ _).alloc (Nat.le_refl _) _)
    rwa [World.size_alloc] at this
  cases hok : angleOK a b with
  | false =>
    go_enter Tryd.func17, Tryd.ntmps17
    go_wp2_with fail
    refine (specAngleValid_any a b _).mono ?_
    rw [hok]
    rintro e w1 ⟨rfl, hb⟩
    replace X1 := X1.step hb
    clear X0 hb
    have c0 := X1.cell 0 _ rfl
    have c1 := X1.cell 1 _ rfl
    have f0 := X1.frozen 0
    have f1 := X1.frozen 1
    have HB := Lib.hid X1.old
    clear X1
    go_wp2
    refine bodyPost_ret (v := .tuple #[.agg #[.int .i64 0, .int .i64 0], .bool false]) (by simp [results, Tryd.f17, go_sem, c0, c1]) rfl ⟨fun _ => rfl, fun _ _ _ _ h => by simp at h, ?_⟩
    exact (HB.out.setCell (p := ⟨w.heap.size + 1, 0, none⟩) (by simp) _).setCell (p := ⟨w.heap.size + 1, 1, none⟩) (by simp) _
  | true =>
    obtain ⟨n, d, rfl, rfl, hnd, hd, _⟩ := angleOK_nat hok
    have e1 : (d : Int) - n = ((d - n : Nat) : Int) := by omega
    have HM := Lib.hid (fun w => l6aLow_any (d - n) d (by omega) hd (by omega) w)
    generalize hx : lowN (d - n) d = x at *
    generalize hy : lowD (d - n) d = y at *
    rw [← e1] at HM
    clear e1
    go_enter Tryd.func17, Tryd.ntmps17
    go_wp2_with fail
    refine (specAngleValid_any n d _).mono ?_
    rw [hok]
    rintro e w1 ⟨rfl, hb⟩
    replace X1 := X1.step hb
    replace X0 := X0.step hb
    clear hb
    have b0 := X0.cell 0 _ rfl
    have b1 := X0.cell 1 _ rfl
    go_wp2_with fail
    refine (HM.out _).mono ?_
    rintro e w2 ⟨rfl, hb⟩
    replace X1 := X1.step hb
    clear hb X0 b0 b1
    have c0 := X1.cell 0 _ rfl
    have c1 := X1.cell 1 _ rfl
    have f0 := X1.frozen 0
    have f1 := X1.frozen 1
    have HB := Lib.hid X1.old
    clear X1
    go_wp2
    refine bodyPost_ret (v := .tuple #[.agg #[.int .i64 x, .int .i64 y], .bool true]) (by simp [results, Tryd.f17, go_sem, c0, c1]) rfl ⟨fun h => by simp at h, fun n' d' h1 h2 _ => ?_, ?_⟩
    · obtain rfl : n = n' := by omega
      obtain rfl : d = d' := by omega
      rw [hx, hy]
    · exact (HB.out.setCell (p := ⟨w.heap.size + 1, 0, none⟩) (by simp) _).setCell (p := ⟨w.heap.size + 1, 1, none⟩) (by simp) _
end Go.Proofs.YtcdkhacccbdmdaaDoor
