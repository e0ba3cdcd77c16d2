/- Walk of the reference's BoxEscape: it ends. -/
import Derived.Test.YtdfoobemgdiobaaDoorBoxD
namespace Go.Proofs.YtdfoobemgdiobaaDoor
open Go.RowKit

set_option maxRecDepth 100000 in
set_option maxHeartbeats 8000000 in
theorem boxEscape_any (a b c d n : Int) (w : World) : Calls Tryd.prog 71 #[.agg #[.int .i64 a, .int .i64 b, .int .i64 c, .int .i64 d], .int .i64 n] w fun e w' => (∃ (x y : Int) (t : Bool), e = .returned (.tuple #[.int .i64 x, .int .i64 y, .bool t])) ∧ Below w.heap.size w w' := by
  have X := Box.new w #[.int .i64 a, .int .i64 b, .int .i64 c, .int .i64 d] 96
  go_enter Tryd.func71, Tryd.ntmps71
  go_wp2_with fail
  refine (boxValid_any a b c d _).mono ?_
  rintro e w1 ⟨rfl, hb⟩
  replace X := X.step hb
  clear hb
  cases hv : boxOK a b c d with
  | false =>
    have HB := Lib.hid X.old
    clear X
    go_wp2
    exact bodyPost_ret (v := .tuple #[.int .i64 0, .int .i64 0, .bool false]) (by simp [results, Tryd.f71, go_sem]) rfl ⟨⟨_, _, _, rfl⟩, HB.out⟩
  | true =>
    have Z := (Box.new w1 #[.int .i64 0, .int .i64 0, .int .i64 0, .int .i64 0] 96).up X.old
    have hne : w.heap.size ≠ w1.heap.size := by have := X.lt; omega
    have hzb : w.heap.size ≤ w1.heap.size := X.old.size
    replace X := X.alloc (.cells #[.int .i64 0, .int .i64 0, .int .i64 0, .int .i64 0] 96)
    go_wp2
    generalize w1.heap.size = zb at *
    go_loopw [7, 9, 10, 11, 12, 13, 14, 15, 16] (fun f k _ _ _ _ _ _ _ wr => ∃ (fi : Int) (j : Nat) (p q r s : Int), j ≤ 401 ∧ f = .int .i64 fi ∧ k = .int .i64 j ∧ Box w w.heap.size #[.int .i64 a, .int .i64 b, .int .i64 c, .int .i64 d] 96 wr ∧ Box w zb #[.int .i64 p, .int .i64 q, .int .i64 r, .int .i64 s] 96 wr) (fun _ k _ _ _ _ _ _ _ _ => (401 - intOf k).toNat)
    case atStart => exact ⟨-1, 0, 0, 0, 0, 0, by omega, rfl, rfl, X, Z⟩
    case round =>
      clear X Z
      obtain ⟨fi, k, p, q, r, s, hk, rfl, rfl, X, Z⟩ := hrel
      obtain ⟨wo, rfl⟩ : ∃ wo, wo = wr := ⟨_, rfl⟩
      go_wp2_with fail
      refine (l3Most_any n _).mono ?_
      rintro e w2 ⟨⟨m, rfl, m0, m1⟩, rfl⟩
      by_cases hle : (k : Int) ≤ m
      · have z0 := Z.cell 0 _ rfl
        have z1 := Z.cell 1 _ rfl
        have z2 := Z.cell 2 _ rfl
        have z3 := Z.cell 3 _ rfl
        go_wp2_with fail
        refine (boxNorm_any p q r s _).mono ?_
        rintro e w2 ⟨⟨lo, hi, tn, rfl⟩, hb⟩
        clear z0 z1 z2 z3
        replace X := X.step hb
        replace Z := Z.step hb
        clear hb
        have z0 := Z.cell 0 _ rfl
        have z1 := Z.cell 1 _ rfl
        have z2 := Z.cell 2 _ rfl
        have z3 := Z.cell 3 _ rfl
        by_cases hlo : (1125899906842624 : Int) < lo
        · have HB := Lib.hid X.old
          clear X Z
          by_cases hf : fi < 0
          · by_cases hh : (1125899906842624 : Int) < hi
            · go_wp2
              exact bodyPost_ret (v := .tuple #[.int .i64 _, .int .i64 _, .bool true]) (by simp [results, Tryd.f71, go_sem]; exact ⟨rfl, rfl⟩) rfl ⟨(by first | exact ⟨_, _, _, rfl⟩ | exact ⟨_, _, .inr rfl⟩), HB.out⟩
            · go_wp2
              exact bodyPost_ret (v := .tuple #[.int .i64 _, .int .i64 _, .bool true]) (by simp [results, Tryd.f71, go_sem]; exact ⟨rfl, rfl⟩) rfl ⟨(by first | exact ⟨_, _, _, rfl⟩ | exact ⟨_, _, .inr rfl⟩), HB.out⟩
          · go_wp2
            exact bodyPost_ret (v := .tuple #[.int .i64 _, .int .i64 _, .bool true]) (by simp [results, Tryd.f71, go_sem]; exact ⟨rfl, rfl⟩) rfl ⟨(by first | exact ⟨_, _, _, rfl⟩ | exact ⟨_, _, .inr rfl⟩), HB.out⟩
        · by_cases hf : fi < 0
          · by_cases hh : (1125899906842624 : Int) < hi
            · go_wp2_with fail
              refine (boxSquare_any p q r s _).mono ?_
              rintro e w3 ⟨⟨p1, q1, r1, s1, t1, rfl⟩, hb⟩
              clear z0 z1 z2 z3
              replace X := X.step hb
              replace Z := Z.step hb
              clear hb
              have S := (Box.new w3 #[.int .i64 p1, .int .i64 q1, .int .i64 r1, .int .i64 s1] 96).up X.old
              replace X := X.alloc (.cells #[.int .i64 p1, .int .i64 q1, .int .i64 r1, .int .i64 s1] 96)
              replace Z := Z.alloc (.cells #[.int .i64 p1, .int .i64 q1, .int .i64 r1, .int .i64 s1] 96)
              have y0 := S.cell 0 _ rfl
              have y1 := S.cell 1 _ rfl
              have y2 := S.cell 2 _ rfl
              have y3 := S.cell 3 _ rfl
              have x0 := X.cell 0 _ rfl
              have x1 := X.cell 1 _ rfl
              have x2 := X.cell 2 _ rfl
              have x3 := X.cell 3 _ rfl
              go_wp2_with fail
              refine (boxAdd_any p1 q1 r1 s1 a b c d _).mono ?_
              rintro e w4 ⟨⟨p2, q2, r2, s2, t2, rfl⟩, hb⟩
              clear x0 x1 x2 x3 y0 y1 y2 y3 S
              replace X := X.step hb
              replace Z := Z.step hb
              clear hb
              have N := (Box.new w4 #[.int .i64 p2, .int .i64 q2, .int .i64 r2, .int .i64 s2] 96).up X.old
              replace X := X.alloc (.cells #[.int .i64 p2, .int .i64 q2, .int .i64 r2, .int .i64 s2] 96)
              replace Z := Z.alloc (.cells #[.int .i64 p2, .int .i64 q2, .int .i64 r2, .int .i64 s2] 96)
              have HB := Lib.hid X.old
              cases t1 with
              | false =>
                clear X Z N
                go_wp2
                exact bodyPost_ret (v := .tuple #[.int .i64 _, .int .i64 _, .bool true]) (by simp [results, Tryd.f71, go_sem]; exact ⟨rfl, rfl⟩) rfl ⟨(by first | exact ⟨_, _, _, rfl⟩ | exact ⟨_, _, .inr rfl⟩), HB.out⟩
              | true =>
                cases t2 with
                | false =>
                  clear X Z N
                  go_wp2
                  exact bodyPost_ret (v := .tuple #[.int .i64 _, .int .i64 _, .bool true]) (by simp [results, Tryd.f71, go_sem]; exact ⟨rfl, rfl⟩) rfl ⟨(by first | exact ⟨_, _, _, rfl⟩ | exact ⟨_, _, .inr rfl⟩), HB.out⟩
                | true =>
                  have n0 := N.cell 0 _ rfl
                  have n1 := N.cell 1 _ rfl
                  have n2 := N.cell 2 _ rfl
                  have n3 := N.cell 3 _ rfl
                  have z0 := Z.cell 0 _ rfl
                  have z1 := Z.cell 1 _ rfl
                  have z2 := Z.cell 2 _ rfl
                  have z3 := Z.cell 3 _ rfl
                  have f0 := Z.frozen 0
                  have f1 := Z.frozen 1
                  have f2 := Z.frozen 2
                  have f3 := Z.frozen 3
                  have HZ : Hid (∀ u0 u1 u2 u3, Box w zb #[u0, u1, u2, u3] 96 (((((w4.alloc (.cells #[.int .i64 p2, .int .i64 q2, .int .i64 r2, .int .i64 s2] 96)).setCell ⟨zb, 0, none⟩ u0).setCell ⟨zb, 1, none⟩ u1).setCell ⟨zb, 2, none⟩ u2).setCell ⟨zb, 3, none⟩ u3)) := fun u0 u1 u2 u3 => (((Z.set hzb 0 u0).set hzb 1 u1).set hzb 2 u2).set hzb 3 u3
                  have HX : Hid (∀ u0 u1 u2 u3, Box w w.heap.size #[.int .i64 a, .int .i64 b, .int .i64 c, .int .i64 d] 96 (((((w4.alloc (.cells #[.int .i64 p2, .int .i64 q2, .int .i64 r2, .int .i64 s2] 96)).setCell ⟨zb, 0, none⟩ u0).setCell ⟨zb, 1, none⟩ u1).setCell ⟨zb, 2, none⟩ u2).setCell ⟨zb, 3, none⟩ u3)) := fun u0 u1 u2 u3 => (((X.other (p := ⟨zb, 0, none⟩) hzb hne u0).other (p := ⟨zb, 1, none⟩) hzb hne u1).other (p := ⟨zb, 2, none⟩) hzb hne u2).other (p := ⟨zb, 3, none⟩) hzb hne u3
                  clear X Z N HB
                  go_wp2
                  go_roundw
                  case rel => exact ⟨k, k + 1, p2, q2, r2, s2, by omega, rfl, by go_num, HX.out _ _ _ _, HZ.out _ _ _ _⟩
                  case measure => simp [intOf]; omega
            · go_wp2_with fail
              refine (boxSquare_any p q r s _).mono ?_
              rintro e w3 ⟨⟨p1, q1, r1, s1, t1, rfl⟩, hb⟩
              clear z0 z1 z2 z3
              replace X := X.step hb
              replace Z := Z.step hb
              clear hb
              have S := (Box.new w3 #[.int .i64 p1, .int .i64 q1, .int .i64 r1, .int .i64 s1] 96).up X.old
              replace X := X.alloc (.cells #[.int .i64 p1, .int .i64 q1, .int .i64 r1, .int .i64 s1] 96)
              replace Z := Z.alloc (.cells #[.int .i64 p1, .int .i64 q1, .int .i64 r1, .int .i64 s1] 96)
              have y0 := S.cell 0 _ rfl
              have y1 := S.cell 1 _ rfl
              have y2 := S.cell 2 _ rfl
              have y3 := S.cell 3 _ rfl
              have x0 := X.cell 0 _ rfl
              have x1 := X.cell 1 _ rfl
              have x2 := X.cell 2 _ rfl
              have x3 := X.cell 3 _ rfl
              go_wp2_with fail
              refine (boxAdd_any p1 q1 r1 s1 a b c d _).mono ?_
              rintro e w4 ⟨⟨p2, q2, r2, s2, t2, rfl⟩, hb⟩
              clear x0 x1 x2 x3 y0 y1 y2 y3 S
              replace X := X.step hb
              replace Z := Z.step hb
              clear hb
              have N := (Box.new w4 #[.int .i64 p2, .int .i64 q2, .int .i64 r2, .int .i64 s2] 96).up X.old
              replace X := X.alloc (.cells #[.int .i64 p2, .int .i64 q2, .int .i64 r2, .int .i64 s2] 96)
              replace Z := Z.alloc (.cells #[.int .i64 p2, .int .i64 q2, .int .i64 r2, .int .i64 s2] 96)
              have HB := Lib.hid X.old
              cases t1 with
              | false =>
                clear X Z N
                go_wp2
                exact bodyPost_ret (v := .tuple #[.int .i64 _, .int .i64 _, .bool true]) (by simp [results, Tryd.f71, go_sem]; exact ⟨rfl, rfl⟩) rfl ⟨(by first | exact ⟨_, _, _, rfl⟩ | exact ⟨_, _, .inr rfl⟩), HB.out⟩
              | true =>
                cases t2 with
                | false =>
                  clear X Z N
                  go_wp2
                  exact bodyPost_ret (v := .tuple #[.int .i64 _, .int .i64 _, .bool true]) (by simp [results, Tryd.f71, go_sem]; exact ⟨rfl, rfl⟩) rfl ⟨(by first | exact ⟨_, _, _, rfl⟩ | exact ⟨_, _, .inr rfl⟩), HB.out⟩
                | true =>
                  have n0 := N.cell 0 _ rfl
                  have n1 := N.cell 1 _ rfl
                  have n2 := N.cell 2 _ rfl
                  have n3 := N.cell 3 _ rfl
                  have z0 := Z.cell 0 _ rfl
                  have z1 := Z.cell 1 _ rfl
                  have z2 := Z.cell 2 _ rfl
                  have z3 := Z.cell 3 _ rfl
                  have f0 := Z.frozen 0
                  have f1 := Z.frozen 1
                  have f2 := Z.frozen 2
                  have f3 := Z.frozen 3
                  have HZ : Hid (∀ u0 u1 u2 u3, Box w zb #[u0, u1, u2, u3] 96 (((((w4.alloc (.cells #[.int .i64 p2, .int .i64 q2, .int .i64 r2, .int .i64 s2] 96)).setCell ⟨zb, 0, none⟩ u0).setCell ⟨zb, 1, none⟩ u1).setCell ⟨zb, 2, none⟩ u2).setCell ⟨zb, 3, none⟩ u3)) := fun u0 u1 u2 u3 => (((Z.set hzb 0 u0).set hzb 1 u1).set hzb 2 u2).set hzb 3 u3
                  have HX : Hid (∀ u0 u1 u2 u3, Box w w.heap.size #[.int .i64 a, .int .i64 b, .int .i64 c, .int .i64 d] 96 (((((w4.alloc (.cells #[.int .i64 p2, .int .i64 q2, .int .i64 r2, .int .i64 s2] 96)).setCell ⟨zb, 0, none⟩ u0).setCell ⟨zb, 1, none⟩ u1).setCell ⟨zb, 2, none⟩ u2).setCell ⟨zb, 3, none⟩ u3)) := fun u0 u1 u2 u3 => (((X.other (p := ⟨zb, 0, none⟩) hzb hne u0).other (p := ⟨zb, 1, none⟩) hzb hne u1).other (p := ⟨zb, 2, none⟩) hzb hne u2).other (p := ⟨zb, 3, none⟩) hzb hne u3
                  clear X Z N HB
                  go_wp2
                  go_roundw
                  case rel => exact ⟨fi, k + 1, p2, q2, r2, s2, by omega, rfl, by go_num, HX.out _ _ _ _, HZ.out _ _ _ _⟩
                  case measure => simp [intOf]; omega
          · go_wp2_with fail
            refine (boxSquare_any p q r s _).mono ?_
            rintro e w3 ⟨⟨p1, q1, r1, s1, t1, rfl⟩, hb⟩
            clear z0 z1 z2 z3
            replace X := X.step hb
            replace Z := Z.step hb
            clear hb
            have S := (Box.new w3 #[.int .i64 p1, .int .i64 q1, .int .i64 r1, .int .i64 s1] 96).up X.old
            replace X := X.alloc (.cells #[.int .i64 p1, .int .i64 q1, .int .i64 r1, .int .i64 s1] 96)
            replace Z := Z.alloc (.cells #[.int .i64 p1, .int .i64 q1, .int .i64 r1, .int .i64 s1] 96)
            have y0 := S.cell 0 _ rfl
            have y1 := S.cell 1 _ rfl
            have y2 := S.cell 2 _ rfl
            have y3 := S.cell 3 _ rfl
            have x0 := X.cell 0 _ rfl
            have x1 := X.cell 1 _ rfl
            have x2 := X.cell 2 _ rfl
            have x3 := X.cell 3 _ rfl
            go_wp2_with fail
            refine (boxAdd_any p1 q1 r1 s1 a b c d _).mono ?_
            rintro e w4 ⟨⟨p2, q2, r2, s2, t2, rfl⟩, hb⟩
            clear x0 x1 x2 x3 y0 y1 y2 y3 S
            replace X := X.step hb
            replace Z := Z.step hb
            clear hb
            have N := (Box.new w4 #[.int .i64 p2, .int .i64 q2, .int .i64 r2, .int .i64 s2] 96).up X.old
            replace X := X.alloc (.cells #[.int .i64 p2, .int .i64 q2, .int .i64 r2, .int .i64 s2] 96)
            replace Z := Z.alloc (.cells #[.int .i64 p2, .int .i64 q2, .int .i64 r2, .int .i64 s2] 96)
            have HB := Lib.hid X.old
            cases t1 with
            | false =>
              clear X Z N
              go_wp2
              exact bodyPost_ret (v := .tuple #[.int .i64 _, .int .i64 _, .bool true]) (by simp [results, Tryd.f71, go_sem]; exact ⟨rfl, rfl⟩) rfl ⟨(by first | exact ⟨_, _, _, rfl⟩ | exact ⟨_, _, .inr rfl⟩), HB.out⟩
            | true =>
              cases t2 with
              | false =>
                clear X Z N
                go_wp2
                exact bodyPost_ret (v := .tuple #[.int .i64 _, .int .i64 _, .bool true]) (by simp [results, Tryd.f71, go_sem]; exact ⟨rfl, rfl⟩) rfl ⟨(by first | exact ⟨_, _, _, rfl⟩ | exact ⟨_, _, .inr rfl⟩), HB.out⟩
              | true =>
                have n0 := N.cell 0 _ rfl
                have n1 := N.cell 1 _ rfl
                have n2 := N.cell 2 _ rfl
                have n3 := N.cell 3 _ rfl
                have z0 := Z.cell 0 _ rfl
                have z1 := Z.cell 1 _ rfl
                have z2 := Z.cell 2 _ rfl
                have z3 := Z.cell 3 _ rfl
                have f0 := Z.frozen 0
                have f1 := Z.frozen 1
                have f2 := Z.frozen 2
                have f3 := Z.frozen 3
                have HZ : Hid (∀ u0 u1 u2 u3, Box w zb #[u0, u1, u2, u3] 96 (((((w4.alloc (.cells #[.int .i64 p2, .int .i64 q2, .int .i64 r2, .int .i64 s2] 96)).setCell ⟨zb, 0, none⟩ u0).setCell ⟨zb, 1, none⟩ u1).setCell ⟨zb, 2, none⟩ u2).setCell ⟨zb, 3, none⟩ u3)) := fun u0 u1 u2 u3 => (((Z.set hzb 0 u0).set hzb 1 u1).set hzb 2 u2).set hzb 3 u3
                have HX : Hid (∀ u0 u1 u2 u3, Box w w.heap.size #[.int .i64 a, .int .i64 b, .int .i64 c, .int .i64 d] 96 (((((w4.alloc (.cells #[.int .i64 p2, .int .i64 q2, .int .i64 r2, .int .i64 s2] 96)).setCell ⟨zb, 0, none⟩ u0).setCell ⟨zb, 1, none⟩ u1).setCell ⟨zb, 2, none⟩ u2).setCell ⟨zb, 3, none⟩ u3)) := fun u0 u1 u2 u3 => (((X.other (p := ⟨zb, 0, none⟩) hzb hne u0).other (p := ⟨zb, 1, none⟩) hzb hne u1).other (p := ⟨zb, 2, none⟩) hzb hne u2).other (p := ⟨zb, 3, none⟩) hzb hne u3
                clear X Z N HB
                go_wp2
                go_roundw
                case rel => exact ⟨fi, k + 1, p2, q2, r2, s2, by omega, rfl, by go_num, HX.out _ _ _ _, HZ.out _ _ _ _⟩
                case measure => simp [intOf]; omega
      · have HB := Lib.hid X.old
        clear X Z
        go_wp2
        exact bodyPost_ret (v := .tuple #[.int .i64 _, .int .i64 _, .bool true]) (by simp [results, Tryd.f71, go_sem]; exact ⟨rfl, rfl⟩) rfl ⟨(by first | exact ⟨_, _, _, rfl⟩ | exact ⟨_, _, .inr rfl⟩), HB.out⟩
end Go.Proofs.YtdfoobemgdiobaaDoor
