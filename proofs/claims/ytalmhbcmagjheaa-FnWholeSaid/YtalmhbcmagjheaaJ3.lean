/- Merged texts: Sl, BoxS, TilA, TilD, Same, LawS. -/
import Derived.Test.YtalmhbcmagjheaaJ1
import Derived.Laws.MakeOwn
import Derived.Lib.FrozenHead
import Derived.Test.YtalmhbcmagjheaaJ2
import Derived.Deep.RegionWith
import Derived.Test.YtalmhbcmagjheaaRows
section
/- Words for slices that are read, and for slices that the call makes. -/
namespace Go.Proofs.Ytalmhbcmagjheaa
open Go.RowKit

/-- the cells of bytes -/
def byteV (x : UInt8) : Value := .int .u8 x.toNat
/-- the slice with address a reads as xs -/
def Sl (W : World) (a : Option Addr) (xs : List Value) : Prop := xs = [] ∨ ∃ b off, a = some ⟨b, off, none⟩ ∧ ∀ i v, xs[i]? = some v → W.cell? ⟨b, off + i, none⟩ = some v
theorem Sl.nil (W : World) (a : Option Addr) : Sl W a [] := .inl rfl
theorem Sl.step {W W' : World} {a : Option Addr} {xs : List Value} (h : Sl W a xs) (k : Below W.heap.size W W') : Sl W' a xs := by
  rcases h with h | ⟨b, off, ha, h⟩
  · exact .inl h
  · refine .inr ⟨b, off, ha, fun i v hv => ?_⟩
    have h1 := h i v hv
    exact (k.cell (p := ⟨b, off + i, none⟩) (World.block_lt_of_cell? W _ h1)).trans h1
theorem Sl.drw {W W' : World} {a : Option Addr} {xs : List Value} (h : Sl W a xs) (k : Drw W W') : Sl W' a xs := h.step (k.below _)
theorem Sl.alloc {W : World} {a : Option Addr} {xs : List Value} (h : Sl W a xs) (o : Obj) : Sl (W.alloc o) a xs := h.step ((Below.refl _ _).alloc (Nat.le_refl _) _)
/-- at an index that is there: the address and the cell -/
theorem Sl.at {W : World} {a : Option Addr} {xs : List Value} {i : Nat} {v : Value} (h : Sl W a xs) (hv : xs[i]? = some v) : ∃ b off, a = some ⟨b, off, none⟩ ∧ W.cell? ⟨b, off + i, none⟩ = some v := by
  rcases h with h | ⟨b, off, ha, h⟩
  · subst h; simp at hv
  · exact ⟨b, off, ha, h i v hv⟩
/-- a whole block of the call's own, read as a slice -/
theorem Sl.of_box {w0 W : World} {b : Nat} {C : Array Value} {T : TypeId} {xs : List Value} (h : Box w0 b C T W) (hC : C.toList = xs) : Sl W (some ⟨b, 0, none⟩) xs := by
  refine .inr ⟨b, 0, rfl, fun i v hv => ?_⟩
  rw [Nat.zero_add]
  exact h.cell i v (by rw [← hC] at hv; simpa using hv)
theorem Box.set {w0 W : World} {b : Nat} {C : Array Value} {T : TypeId} (h : Box w0 b C T W) (hb : w0.heap.size ≤ b) (j : Nat) (v : Value) : Box w0 b (C.setIfInBounds j v) T (W.setCell ⟨b, j, none⟩ v) := by
  refine ⟨?_, h.old.setCell (p := ⟨b, j, none⟩) hb v⟩
  obtain ⟨hlt, he⟩ := Array.getElem?_eq_some_iff.1 h.blk
  show (W.heap.modify b _)[b]? = _
  rw [Array.getElem?_eq_getElem (by rw [Array.size_modify]; exact hlt), Array.getElem_modify_self, he]
  rfl
theorem Box.other {w0 W : World} {b : Nat} {C : Array Value} {T : TypeId} (h : Box w0 b C T W) {p : Addr} (hp : w0.heap.size ≤ p.block) (hne : b ≠ p.block) (v : Value) : Box w0 b C T (W.setCell p v) :=
  ⟨(Below.heap_setCell W p v b hne).trans h.blk, h.old.setCell hp v⟩
theorem Box.up {w0 w1 W : World} {b : Nat} {C : Array Value} {T : TypeId} (h : Box w1 b C T W) (k : Below w0.heap.size w0 w1) : Box w0 b C T W :=
  ⟨h.blk, k.trans (h.old.mono k.size)⟩
theorem Sl.other {W : World} {b : Nat} {xs : List Value} (h : Sl W (some ⟨b, 0, none⟩) xs) {p : Addr} (hne : b ≠ p.block) (v : Value) : Sl (W.setCell p v) (some ⟨b, 0, none⟩) xs := by
  rcases h with h | ⟨b', off, hb, h⟩
  · exact .inl h
  · refine .inr ⟨b', off, hb, fun i u hu => ?_⟩
    have hbe : b' = b := by injection hb with hb; injection hb with hb _ _; exact hb.symm
    rw [← h i u hu]
    exact World.cell?_of_block (Below.heap_setCell _ _ _ _ (by simpa [hbe] using hne))
theorem size_set (W : World) (p : Addr) (v : Value) : (W.setCell p v).heap.size = W.heap.size := by simp [World.setCell]
/-- make([]T, n) -/
theorem run_make_n {P : Program} (t e : TypeId) (i : TypeInfo) (z : Value) (ht : P.underlying t = some (.slice e)) (hi : P.info? e = some i) (hz : i.zero = some z) (n : Nat) (hb : i.bytes ≤ 128) (hn : n ≤ 1099511627776) :
    ∃ C : Array Value, C.size = n * i.size ∧ ∀ w : World, (Instr.makeSlice t (.int .i64 n) (.int .i64 n)).run P w = .ok (.slice (some ⟨w.heap.size, 0, none⟩) n n) (w.alloc (.cells C e)) := by
  refine ⟨madeCells z.cells (n * i.size), size_madeCells _ _, fun w => ?_⟩
  have hm : i.bytes * n ≤ 128 * 1099511627776 := Nat.mul_le_mul hb hn
  have hm2 : ((i.bytes * n : Nat) : Int) = (i.bytes : Int) * n := by simp
  have h := run_make w t e i z ht hi hz .i64 .i64 (n : Int) n (by omega) (Int.le_refl _) (by omega) (by omega)
  rw [Int.toNat_natCast] at h
  exact h
end Go.Proofs.Ytalmhbcmagjheaa
end

section
/- Walks of the reference's boxes, for what they need: they end, with whole numbers. -/
namespace Go.Proofs.Ytalmhbcmagjheaa
open Go.RowKit

set_option maxHeartbeats 400000 in
theorem l4Floor_any (a b : Int) (hb : b ≠ 0) (w : World) : Calls Try.prog 82 #[.int .i64 a, .int .i64 b] w fun e w' => (∃ r : Int, e = .returned (.int .i64 r)) ∧ w = w' := by
  have hz : (b == 0) = false := by rw [beq_eq_false_iff_ne]; exact hb
  obtain ⟨q, hq⟩ : ∃ q, a.tdiv b = q := ⟨_, rfl⟩
  obtain ⟨m, hm⟩ : ∃ m, a.tmod b = m := ⟨_, rfl⟩
  by_cases h0 : m = 0
  · have t1 : (m != 0) = false := by rw [h0]; rfl
    clear h0
    go_enter Try.func82, Try.ntmps82
    go_wp2
    go_ret
    exact ⟨⟨_, rfl⟩, rfl⟩
  · have t1 : (m != 0) = true := by simpa using h0
    clear h0
    by_cases h1 : a < 0
    · go_enter Try.func82, Try.ntmps82
      go_wp2
      go_ret
      exact ⟨⟨_, rfl⟩, rfl⟩
    · go_enter Try.func82, Try.ntmps82
      go_wp2
      go_ret
      exact ⟨⟨_, rfl⟩, rfl⟩
set_option maxHeartbeats 400000 in
theorem l4Ceil_any (a b : Int) (hb : b ≠ 0) (w : World) : Calls Try.prog 83 #[.int .i64 a, .int .i64 b] w fun e w' => (∃ r : Int, e = .returned (.int .i64 r)) ∧ w = w' := by
  go_enter Try.func83, Try.ntmps83
  go_wp2_with fail
  refine (l4Floor_any _ b hb _).mono ?_
  rintro e w1 ⟨⟨r, rfl⟩, rfl⟩
  go_wp2
  go_ret
  exact ⟨⟨_, rfl⟩, rfl⟩
set_option maxHeartbeats 400000 in
theorem l4Square_any (a b : Int) (w : World) : Calls Try.prog 74 #[.int .i64 a, .int .i64 b] w fun e w' => (∃ r s : Int, e = .returned (.tuple #[.int .i64 r, .int .i64 s])) ∧ w = w' := by
  by_cases h0 : a ≤ 0
  · by_cases h1 : 0 ≤ b
    · go_enter Try.func74, Try.ntmps74
      go_wp2
      all_goals
        go_ret2
        exact ⟨⟨_, _, rfl⟩, rfl⟩
    · go_enter Try.func74, Try.ntmps74
      go_wp2
      all_goals
        go_ret2
        exact ⟨⟨_, _, rfl⟩, rfl⟩
  · go_enter Try.func74, Try.ntmps74
    go_wp2
    all_goals
      go_ret2
      exact ⟨⟨_, _, rfl⟩, rfl⟩
set_option maxHeartbeats 400000 in
theorem l3Most_any (n : Int) (w : World) : Calls Try.prog 75 #[.int .i64 n] w fun e w' => (∃ r : Int, e = .returned (.int .i64 r) ∧ 0 ≤ r ∧ r ≤ 400) ∧ w = w' := by
  go_enter Try.func75, Try.ntmps75
  go_wp2
  all_goals
    go_ret
    exact ⟨⟨_, rfl, by omega, by omega⟩, rfl⟩
/-- is it a box -/
def boxOK (a b c d : Int) : Bool := inB a (-134217728) b && inB b a 134217728 && inB c (-134217728) d && inB d c 134217728
set_option maxHeartbeats 1000000 in
theorem boxValid_any (a b c d : Int) (w : World) : Calls Try.prog 62 #[.agg #[.int .i64 a, .int .i64 b, .int .i64 c, .int .i64 d]] w fun e w' => e = .returned (.bool (boxOK a b c d)) ∧ Below w.heap.size w w' := by
  have X := Box.new w #[.int .i64 a, .int .i64 b, .int .i64 c, .int .i64 d] 91
  have x0 := X.cell 0 _ rfl
  have x1 := X.cell 1 _ rfl
  have x2 := X.cell 2 _ rfl
  have x3 := X.cell 3 _ rfl
  have HB := Lib.hid X.old
  clear X
  unfold boxOK
  cases h1 : inB a (-134217728) b with
  | false =>
    go_enter Try.func62, Try.ntmps62
    go_wp2_with (go_at_call 43; refine (l6In_any _ _ _ _).mono ?_; rintro e w' ⟨rfl, rfl⟩)
    go_ret
    exact ⟨rfl, HB.out⟩
  | true =>
    cases h2 : inB b a 134217728 with
    | false =>
      go_enter Try.func62, Try.ntmps62
      go_wp2_with (go_at_call 43; refine (l6In_any _ _ _ _).mono ?_; rintro e w' ⟨rfl, rfl⟩)
      go_ret
      exact ⟨rfl, HB.out⟩
    | true =>
      cases h3 : inB c (-134217728) d with
      | false =>
        go_enter Try.func62, Try.ntmps62
        go_wp2_with (go_at_call 43; refine (l6In_any _ _ _ _).mono ?_; rintro e w' ⟨rfl, rfl⟩)
        go_ret
        exact ⟨rfl, HB.out⟩
      | true =>
        cases h4 : inB d c 134217728 with
        | false =>
          go_enter Try.func62, Try.ntmps62
          go_wp2_with (go_at_call 43; refine (l6In_any _ _ _ _).mono ?_; rintro e w' ⟨rfl, rfl⟩)
          go_ret
          exact ⟨rfl, HB.out⟩
        | true =>
          go_enter Try.func62, Try.ntmps62
          go_wp2_with (go_at_call 43; refine (l6In_any _ _ _ _).mono ?_; rintro e w' ⟨rfl, rfl⟩)
          go_ret
          exact ⟨rfl, HB.out⟩
set_option maxHeartbeats 1000000 in
theorem l4Done_any (a b c d : Int) (w : World) : Calls Try.prog 72 #[.agg #[.int .i64 a, .int .i64 b, .int .i64 c, .int .i64 d]] w fun e w' => (∃ (x y z u : Int) (t : Bool), e = .returned (.tuple #[.agg #[.int .i64 x, .int .i64 y, .int .i64 z, .int .i64 u], .bool t])) ∧ Below w.heap.size w w' := by
  have X0 : Box w w.heap.size #[.int .i64 a, .int .i64 b, .int .i64 c, .int .i64 d] 91 ((w.alloc (.cells #[.int .i64 a, .int .i64 b, .int .i64 c, .int .i64 d] 91)).alloc (.cells #[.int .i64 0, .int .i64 0, .int .i64 0, .int .i64 0] 91)) := (Box.new w _ _).alloc _
  have X1 : Box w (w.heap.size + 1) #[.int .i64 0, .int .i64 0, .int .i64 0, .int .i64 0] 91 ((w.alloc (.cells #[.int .i64 a, .int .i64 b, .int .i64 c, .int .i64 d] 91)).alloc (.cells #[.int .i64 0, .int .i64 0, .int .i64 0, .int .i64 0] 91)) := by
    have := (Box.new (w.alloc (.cells #[.int .i64 a, .int .i64 b, .int .i64 c, .int .i64 d] 91)) #[.int .i64 0, .int .i64 0, .int .i64 0, .int .i64 0] 91).up (w0 := w) ((Below.refl _ _).alloc (Nat.le_refl _) _)
    rwa [World.size_alloc] at this
  have HF : Hid (∀ W, Below w.heap.size w W → ∀ u0 u1 u2 u3, Below w.heap.size w ((((W.setCell ⟨w.heap.size + 1, 0, none⟩ u0).setCell ⟨w.heap.size + 1, 1, none⟩ u1).setCell ⟨w.heap.size + 1, 2, none⟩ u2).setCell ⟨w.heap.size + 1, 3, none⟩ u3)) := fun W h u0 u1 u2 u3 =>
    (((h.setCell (p := ⟨w.heap.size + 1, 0, none⟩) (by simp) _).setCell (p := ⟨w.heap.size + 1, 1, none⟩) (by simp) _).setCell (p := ⟨w.heap.size + 1, 2, none⟩) (by simp) _).setCell (p := ⟨w.heap.size + 1, 3, none⟩) (by simp) _
  go_enter Try.func72, Try.ntmps72
  go_wp2_with fail
  refine (boxValid_any a b c d _).mono ?_
  rintro e w1 ⟨rfl, hb⟩
  replace X0 := X0.step hb
  replace X1 := X1.step hb
  clear hb
  have x0 := X0.cell 0 _ rfl
  have x1 := X0.cell 1 _ rfl
  have x2 := X0.cell 2 _ rfl
  have x3 := X0.cell 3 _ rfl
  have c0 := X1.cell 0 _ rfl
  have c1 := X1.cell 1 _ rfl
  have c2 := X1.cell 2 _ rfl
  have c3 := X1.cell 3 _ rfl
  have f0 := X1.frozen 0
  have f1 := X1.frozen 1
  have f2 := X1.frozen 2
  have f3 := X1.frozen 3
  have HB := Lib.hid X1.old
  clear X0 X1
  cases hv : boxOK a b c d with
  | false =>
    go_wp2
    exact bodyPost_ret (v := .tuple #[.agg #[.int .i64 0, .int .i64 0, .int .i64 0, .int .i64 0], .bool false]) (by simp [results, Try.f72, go_sem, c0, c1, c2, c3]) rfl ⟨⟨_, _, _, _, _, rfl⟩, HF.out _ HB.out _ _ _ _⟩
  | true =>
    go_wp2
    exact bodyPost_ret (v := .tuple #[.agg #[.int .i64 a, .int .i64 b, .int .i64 c, .int .i64 d], .bool true]) (by simp [results, Try.f72, go_sem, c0, c1, c2, c3]) rfl ⟨⟨_, _, _, _, _, rfl⟩, HF.out _ HB.out _ _ _ _⟩
end Go.Proofs.Ytalmhbcmagjheaa
end

section
/- Walks of the reference's tiles, their floats: sides, points, boxes. -/
namespace Go.Proofs.Ytalmhbcmagjheaa
open Go.RowKit

theorem side_bits (d : Nat) (h : d ≤ 11) : floatBits .quo .f32 1065353216 (floatOfInt .f32 (wrap64 (2 ^ d))) = some (Flo.sideF d) := by
  rcases (by omega : d = 0 ∨ d = 1 ∨ d = 2 ∨ d = 3 ∨ d = 4 ∨ d = 5 ∨ d = 6 ∨ d = 7 ∨ d = 8 ∨ d = 9 ∨ d = 10 ∨ d = 11) with rfl | rfl | rfl | rfl | rfl | rfl | rfl | rfl | rfl | rfl | rfl | rfl <;> kernel_rfl
set_option maxHeartbeats 400000 in
theorem l7Side_is (d : Nat) (hd : d ≤ 11) (w : World) : Calls Try.prog 54 #[.int .i64 d] w fun e w' => e = .returned (.float .f32 (Flo.sideF d)) ∧ w = w' := by
  obtain ⟨q, hq⟩ : ∃ q : Int, wrap64 (2 ^ d) = q := ⟨_, rfl⟩
  have hz : ∀ w, (binOp .quo 41 (.float .f32 1065353216) (.float .f32 (floatOfInt .f32 q))).run Try.prog w = .ok (.float .f32 (Flo.sideF d)) w := fun w =>
    run_float_arith w _ _ _ _ _ _ (by rw [← hq]; exact side_bits d hd)
  generalize Flo.sideF d = r at *
  go_enter Try.func54, Try.ntmps54
  go_wp2
  go_ret
  exact ⟨rfl, rfl⟩
set_option maxHeartbeats 400000 in
theorem sideOf_is (d : Nat) (hd : d ≤ 11) (w : World) : Calls Try.prog 55 #[.int .i64 d] w fun e w' => e = .returned (.float .f32 (Flo.sideF d)) ∧ w = w' := by
  obtain ⟨q, hq⟩ : ∃ q : Int, wrap64 (2 ^ d) = q := ⟨_, rfl⟩
  have hz : ∀ w, (binOp .quo 41 (.float .f32 1065353216) (.float .f32 (floatOfInt .f32 q))).run Try.prog w = .ok (.float .f32 (Flo.sideF d)) w := fun w =>
    run_float_arith w _ _ _ _ _ _ (by rw [← hq]; exact side_bits d hd)
  generalize Flo.sideF d = r at *
  go_enter Try.func55, Try.ntmps55
  go_wp2
  go_ret
  exact ⟨rfl, rfl⟩
set_option maxHeartbeats 400000 in
theorem l7Point_any (cx cy d : Nat) (i j : Int) (hd : d ≤ 11) (w : World) :
    Calls Try.prog 53 #[.complex .f32 cx cy, .int .i64 d, .int .i64 i, .int .i64 j] w fun e w' => (∃ x y, e = .returned (.complex .f32 x y) ∧ x < 4294967296 ∧ y < 4294967296) ∧ Drw w w' := by
  obtain ⟨x1, w1, h1, hx1, d1⟩ := Flo.arith_any (P := Try.prog) .mul (by simp) 41 .f32 (floatOfInt .f32 j) (Flo.sideF d) w
  obtain ⟨x2, w2, h2, hx2, d2⟩ := Flo.arith_any (P := Try.prog) .mul (by simp) 41 .f32 (floatOfInt .f32 i) (Flo.sideF d) w1
  obtain ⟨x, y, w3, h3, hx, hy, d3⟩ := Flo.csum_any (P := Try.prog) .add (by simp) 34 .f32 cx cy x1 x2 w2
  have HD := Lib.hid ((d1.trans d2).trans d3)
  have HS := Lib.hid (fun w => l7Side_is d hd w)
  clear d1 d2 d3
  generalize Flo.sideF d = r at *
  go_enter Try.func53, Try.ntmps53
  go_wp2_with (go_at_call 54; refine (HS.out _).mono ?_; rintro e w' ⟨rfl, rfl⟩)
  go_ret
  exact ⟨⟨x, y, rfl, hx, hy⟩, HD.out⟩
set_option maxRecDepth 100000 in
set_option maxHeartbeats 1000000 in
theorem l4Steps_any (x : Nat) (hx : x < 4294967296) (w : World) :
    Calls Try.prog 71 #[.float .f32 x] w fun e w' => (∃ (a b : Int) (t : Bool), e = .returned (.tuple #[.int .i64 a, .int .i64 b, .bool t])) ∧ Drw w w' := by
  obtain ⟨x1, w1, h1, hx1, d1⟩ := Flo.convert_any (P := Try.prog) 41 67 .f32 .f64 (by kernel_rfl) Try.underlying67 x hx w
  obtain ⟨y, w2, h2, hy, d2⟩ := Flo.arith_any (P := Try.prog) .mul (by simp) 67 .f64 x1 4715268809856909312 w1
  obtain ⟨n, w3, h3, d3⟩ := Flo.toInt_any (P := Try.prog) 67 3 .f64 (by kernel_rfl) Try.underlying3 y w2
  have HD2 := Lib.hid (d1.trans d2)
  have HD := Lib.hid ((d1.trans d2).trans d3)
  clear d1 d2 d3 hx hx1 hy
  cases b1 : (FloatKind.f64.format.order y 13952151645593796608 == some .gt || FloatKind.f64.format.order y 13952151645593796608 == some .eq) with
  | false =>
    go_enter Try.func71, Try.ntmps71
    go_wp2
    go_ret3
    exact ⟨⟨_, _, _, rfl⟩, HD2.out⟩
  | true =>
    cases b2 : (FloatKind.f64.format.order y 4728779608739020800 == some .lt || FloatKind.f64.format.order y 4728779608739020800 == some .eq) with
    | false =>
      go_enter Try.func71, Try.ntmps71
      go_wp2
      go_ret3
      exact ⟨⟨_, _, _, rfl⟩, HD2.out⟩
    | true =>
      go_enter Try.func71, Try.ntmps71
      go_wp2
      all_goals
        go_ret3
        exact ⟨⟨_, _, _, rfl⟩, HD.out⟩
end Go.Proofs.Ytalmhbcmagjheaa
end

section
/- Walks of the reference's tiles: is a place one of a tile. -/
namespace Go.Proofs.Ytalmhbcmagjheaa
open Go.RowKit

theorem wrap_pow (d : Nat) (h : d ≤ 11) : wrap64 (2 ^ d) = ((2 ^ d : Nat) : Int) := by
  rcases (by omega : d = 0 ∨ d = 1 ∨ d = 2 ∨ d = 3 ∨ d = 4 ∨ d = 5 ∨ d = 6 ∨ d = 7 ∨ d = 8 ∨ d = 9 ∨ d = 10 ∨ d = 11) with rfl | rfl | rfl | rfl | rfl | rfl | rfl | rfl | rfl | rfl | rfl | rfl <;> kernel_rfl
set_option maxRecDepth 100000 in
set_option maxHeartbeats 1000000 in
theorem l7Whole_is (x d : Nat) (hx : x < 4294967296) (hd : d ≤ 11) (w : World) : Calls Try.prog 56 #[.float .f32 x, .int .i64 d] w fun e w' => e = .returned (.bool (Flo.wholeB x d)) ∧ Drw w w' := by
  have hdp : 2 ^ d ≤ 2 ^ 11 := Nat.pow_le_pow_right (by omega) hd
  obtain ⟨q, hq⟩ : ∃ q : Int, wrap64 (2 ^ d) = q := ⟨_, rfl⟩
  have hqd : ((2 ^ d : Nat) : Int) = q := by rw [← hq, wrap_pow d hd]
  cases h4 : Flo.inFour x with
  | false =>
    have hw : Flo.wholeB x d = false := by unfold Flo.wholeB; rw [h4]; rfl
    rw [hw]
    obtain ⟨y, w1, h1, _, d1⟩ := Flo.arith_any (P := Try.prog) .mul (by simp) 41 .f32 x (floatOfInt .f32 q) w
    have HD := Lib.hid d1
    unfold Flo.inFour at h4
    clear d1 hqd hdp hw
    cases b1 : (FloatKind.f32.format.order x 3229614080 == some .gt || FloatKind.f32.format.order x 3229614080 == some .eq) with
    | false =>
      clear h4
      go_enter Try.func56, Try.ntmps56
      go_wp2
      go_ret
      exact ⟨rfl, HD.out⟩
    | true =>
      rw [b1, Bool.true_and] at h4
      go_enter Try.func56, Try.ntmps56
      go_wp2
      go_ret
      exact ⟨rfl, HD.out⟩
  | true =>
    obtain ⟨y, n, h1, h2, -, -, h3⟩ := Flo.whole_steps hx hd h4
    have hw : Flo.wholeB x d = (FloatKind.f32.format.order (floatOfInt .f32 n) y == some .eq) := by unfold Flo.wholeB; rw [h4, h3]; rfl
    rw [hw]
    rw [hqd] at h1
    have g1 : ∀ w, (binOp .mul 41 (.float .f32 x) (.float .f32 (floatOfInt .f32 q))).run Try.prog w = .ok (.float .f32 y) w := fun w => run_float_arith w .mul _ .f32 _ _ _ h1
    have g2 : ∀ w, (convert 41 3 (.float .f32 y)).run Try.prog w = .ok (.int .i64 n) w := fun w => run_convert_float_int w _ _ .f32 .i64 _ _ (by kernel_rfl) Try.underlying3 h2
    unfold Flo.inFour at h4
    rw [Bool.and_eq_true] at h4
    obtain ⟨b1, b2⟩ := h4
    clear h1 h2 h3 hw hqd hdp
    cases b3 : (FloatKind.f32.format.order (floatOfInt .f32 n) y == some .eq) with
    | false =>
      go_enter Try.func56, Try.ntmps56
      go_wp2
      go_ret
      exact ⟨rfl, Drw.refl _⟩
    | true =>
      go_enter Try.func56, Try.ntmps56
      go_wp2
      go_ret
      exact ⟨rfl, Drw.refl _⟩
/-- is it a place of a tile -/
def placeB (cx cy : Nat) (deep size : Int) : Bool := inB deep 0 10 && inB size 1 8 && Flo.wholeB cx deep.toNat && Flo.wholeB cy deep.toNat
theorem placeB_bd {cx cy : Nat} {deep size : Int} (h : placeB cx cy deep size = true) : 0 ≤ deep ∧ deep ≤ 10 ∧ 1 ≤ size ∧ size ≤ 8 := by
  unfold placeB inB at h
  simp only [Bool.and_eq_true, decide_eq_true_eq] at h
  omega
set_option maxHeartbeats 1000000 in
theorem l7Place_is (cx cy : Nat) (deep size : Int) (hx : cx < 4294967296) (hy : cy < 4294967296) (w : World) : Calls Try.prog 42 #[.complex .f32 cx cy, .int .i64 deep, .int .i64 size] w fun e w' => e = .returned (.bool (placeB cx cy deep size)) ∧ Drw w w' := by
  unfold placeB
  cases h1 : inB deep 0 10 with
  | false =>
    go_enter Try.func42, Try.ntmps42
    go_wp2_with (go_at_call 43; refine (l6In_any _ _ _ _).mono ?_; rintro e w' ⟨rfl, rfl⟩)
    go_ret
    exact ⟨rfl, Drw.refl _⟩
  | true =>
    cases h2 : inB size 1 8 with
    | false =>
      go_enter Try.func42, Try.ntmps42
      go_wp2_with (go_at_call 43; refine (l6In_any _ _ _ _).mono ?_; rintro e w' ⟨rfl, rfl⟩)
      go_ret
      exact ⟨rfl, Drw.refl _⟩
    | true =>
      obtain ⟨d, rfl, hd⟩ : ∃ d : Nat, deep = d ∧ d ≤ 11 := by
        unfold inB at h1
        simp only [Bool.and_eq_true, decide_eq_true_eq] at h1
        exact ⟨deep.toNat, by omega, by omega⟩
      rw [Int.toNat_natCast]
      have HX := Lib.hid (fun w => l7Whole_is cx d hx hd w)
      have HY := Lib.hid (fun w => l7Whole_is cy d hy hd w)
      cases h3 : Flo.wholeB cx d with
      | false =>
        rw [h3] at HX
        go_enter Try.func42, Try.ntmps42
        go_wp2_with (first | (go_at_call 43; refine (l6In_any _ _ _ _).mono ?_; rintro e w' ⟨rfl, rfl⟩) | (go_at_call 56; refine (HX.out _).mono ?_; rintro e w1 ⟨rfl, d1⟩; have H1 := Lib.hid d1; clear d1))
        go_ret
        exact ⟨rfl, H1.out⟩
      | true =>
        rw [h3] at HX
        cases h4 : Flo.wholeB cy d with
        | false =>
          rw [h4] at HY
          go_enter Try.func42, Try.ntmps42
          go_wp2_with (first | (go_at_call 43; refine (l6In_any _ _ _ _).mono ?_; rintro e w' ⟨rfl, rfl⟩) | (go_at_call 56; refine (HX.out _).mono ?_; rintro e w1 ⟨rfl, d1⟩; have H1 := Lib.hid d1; clear d1 HX) | (go_at_call 56; refine (HY.out _).mono ?_; rintro e w2 ⟨rfl, d1⟩; have H2 := Lib.hid (H1.out.trans d1); clear d1))
          go_ret
          exact ⟨rfl, H2.out⟩
        | true =>
          rw [h4] at HY
          go_enter Try.func42, Try.ntmps42
          go_wp2_with (first | (go_at_call 43; refine (l6In_any _ _ _ _).mono ?_; rintro e w' ⟨rfl, rfl⟩) | (go_at_call 56; refine (HX.out _).mono ?_; rintro e w1 ⟨rfl, d1⟩; have H1 := Lib.hid d1; clear d1 HX) | (go_at_call 56; refine (HY.out _).mono ?_; rintro e w2 ⟨rfl, d1⟩; have H2 := Lib.hid (H1.out.trans d1); clear d1))
          go_ret
          exact ⟨rfl, H2.out⟩
end Go.Proofs.Ytalmhbcmagjheaa
end

section
/- Walks of the comparisons of floats in the laws. -/
namespace Go.Proofs.Ytalmhbcmagjheaa
open Go.RowKit

theorem run_convert_nan64 (src dst : TypeId) (hs : (Try.prog.underlying src).isSome = true) (hd : Try.prog.underlying dst = some (.float .f64)) {b : Nat} (h : Flo.nan .f32 b = true) (w : World) :
    ∃ y, (convert src dst (.float .f32 b)).run Try.prog w = .ok (.float .f64 y) w.drew ∧ Flo.nan .f64 y = true :=
  ⟨_, Flo.run_convert_nan src dst .f32 .f64 b (by decide) hs hd h w, Flo.nanC_nan _ _ _⟩
set_option maxHeartbeats 400000 in
theorem alikeFloat_refl (a : Nat) (h : Flo.nan .f64 a = false) (w : World) :
    Calls Try.prog 45 #[.float .f64 a, .float .f64 a] w fun e w' => e = .returned (.bool true) ∧ w = w' := by
  obtain ⟨r, hr, hr2⟩ := Flo.quo_number Flo.one64 h
  have hs : (FloatKind.f64.format.order a a == some .eq) = true := by rw [Flo.order_self h]; rfl
  have hs' : (FloatKind.f64.format.order a a != some .eq) = false := by rw [Flo.order_self h]; rfl
  have hq := fun w => run_float_arith (P := Try.prog) w .quo 67 .f64 _ _ _ hr
  have hz : (FloatKind.f64.format.order r r == some .eq) = true := by rw [Flo.order_self hr2]; rfl
  clear h hr hr2
  go_enter Try.func45, Try.ntmps45
  go_wp2
  go_ret
  exact ⟨rfl, rfl⟩
set_option maxHeartbeats 400000 in
theorem sameSmall_refl (x : Nat) (hx : x < 4294967296) (h : Flo.nan .f32 x = false) (w : World) :
    Calls Try.prog 32 #[.float .f32 x, .float .f32 x] w fun e w' => e = .returned (.bool true) ∧ w = w' := by
  obtain ⟨y, hy, hy2⟩ := Flo.widen_any (by rw [Flo.pow32]; exact hx) h
  have hc := fun w => run_convert_float_float (P := Try.prog) w 41 67 .f32 .f64 x y (by kernel_rfl) Try.underlying67 hy
  have H := Lib.hid (alikeFloat_refl y hy2)
  clear hy hy2 h
  go_enter Try.func32, Try.ntmps32
  go_wp2_with (go_at_call 45; refine (H.out _).mono ?_; rintro e w' ⟨rfl, rfl⟩)
  go_ret
  exact ⟨rfl, rfl⟩
set_option maxHeartbeats 400000 in
theorem alikeFloat_nan (a b : Nat) (ha : Flo.nan .f64 a = true) (hb : Flo.nan .f64 b = true) (w : World) :
    Calls Try.prog 45 #[.float .f64 a, .float .f64 b] w fun e w' => e = .returned (.bool true) ∧ w = w' := by
  have h1 : (FloatKind.f64.format.order a a != some .eq) = true := by rw [Flo.order_nan_left a ha]; rfl
  have h2 : (FloatKind.f64.format.order b b != some .eq) = true := by rw [Flo.order_nan_left b hb]; rfl
  clear ha hb
  go_enter Try.func45, Try.ntmps45
  go_wp2
  go_ret
  exact ⟨rfl, rfl⟩
set_option maxHeartbeats 400000 in
theorem sameSmall_self (x : Nat) (hx : x < 4294967296) (w : World) :
    Calls Try.prog 32 #[.float .f32 x, .float .f32 x] w fun e w' => e = .returned (.bool true) ∧ Drw w w' := by
  by_cases h : Flo.nan .f32 x = true
  · have h1 := run_convert_nan64 41 67 (by kernel_rfl) Try.underlying67 h w
    have h2 := run_convert_nan64 41 67 (by kernel_rfl) Try.underlying67 h w.drew
    obtain ⟨y, hy, hyn⟩ := h1
    obtain ⟨z, hz, hzn⟩ := h2
    have H := Lib.hid (alikeFloat_nan y z hyn hzn)
    clear hyn hzn h
    go_enter Try.func32, Try.ntmps32
    go_wp2_with (go_at_call 45; refine (H.out _).mono ?_; rintro e w' ⟨rfl, rfl⟩)
    go_ret
    exact ⟨rfl, (Drw.refl w).drew.drew⟩
  · exact (sameSmall_refl x hx (by simpa using h) w).mono fun e w' h => ⟨h.1, Drw.of_eq h.2⟩
end Go.Proofs.Ytalmhbcmagjheaa
end

section
/- Walks of what the laws do with slices: sizes, copies, comparisons. -/
namespace Go.Proofs.Ytalmhbcmagjheaa
open Go.RowKit
theorem run_store_float (P : Program) (w : World) (a : Addr) (m : Mode) (k : FloatKind) (b : Nat) : (store a (.float k b) m).run P w = stored P w a (.float k b) m := run_store P w a _ m rfl
theorem run_store_complex (P : Program) (w : World) (a : Addr) (m : Mode) (k : FloatKind) (x y : Nat) : (store a (.complex k x y) m).run P w = stored P w a (.complex k x y) m := run_store P w a _ m rfl
attribute [local go_sem] run_store_float run_store_complex
end Go.Proofs.Ytalmhbcmagjheaa
end
