/- Walks: points of cells, good and bad; widening; the same single numbers. -/
import Derived.Test.YtdfoobemgdiobaaDoorDyb
import Derived.Test.YtdfoobemgdiobaaDoorTilX
import Derived.Test.YtdfoobemgdiobaaDoorSame
namespace Go.Proofs.YtdfoobemgdiobaaDoor
open Go.RowKit Flo

theorem widen_fin {x : Nat} {a : Int} (h : Val Ieee.single x a) {p : Nat} (hp : Al .f64 (widenC x) p) : Val Ieee.double p (a * (2 ^ wup : Nat)) := by
  obtain ⟨y, hy, hv⟩ := widen_val h
  have e : widenC x = y := by unfold widenC; rw [hy]; rfl
  rw [e] at hp
  rw [Al.same hp (val_nan (k := .f64) hv)]
  exact hv
theorem implWiden_val {x y : Nat} {a b : Int} (hx : Val Ieee.single x a) (hy : Val Ieee.single y b) (w : World) :
    Calls Tryd.prog 10 #[.complex .f32 x y] w fun e w' => (∃ p q, e = .returned (.complex .f64 p q) ∧ Val Ieee.double p (a * (2 ^ wup : Nat)) ∧ Val Ieee.double q (b * (2 ^ wup : Nat))) ∧ Drw w w' := by
  refine (implWiden_al x y hx.lt hy.lt w).mono ?_
  rintro e w1 ⟨⟨p, q, rfl, p1, q1, ap, aq⟩, hd⟩
  exact ⟨⟨p, q, rfl, widen_fin hx ap, widen_fin hy aq⟩, hd⟩
set_option maxHeartbeats 400000 in
theorem sameSingle_val {x y : Nat} {a b : Int} (hx : Val Ieee.single x a) (hy : Val Ieee.single y b) (w : World) :
    Calls Tryd.prog 8 #[.complex .f32 x y, .complex .f32 x y] w fun e w' => e = .returned (.bool true) ∧ Drw w w' := by
  obtain ⟨p, q, w1, h1, p1, q1, d1, ap, aq⟩ := Flo.cwiden_al (P := Tryd.prog) 23 37 (by kernel_rfl) Tryd.underlying37 x y hx.lt hy.lt w
  obtain ⟨p', q', w2, h2, p1', q1', d2, ap', aq'⟩ := Flo.cwiden_al (P := Tryd.prog) 23 37 (by kernel_rfl) Tryd.underlying37 x y hx.lt hy.lt w1
  have n1 : nan .f64 p = false := val_nan (k := .f64) (widen_fin hx ap)
  have n2 : nan .f64 q = false := val_nan (k := .f64) (widen_fin hy aq)
  have e1 : p' = p := Al.same (ap.symm.trans ap') n1
  have e2 : q' = q := Al.same (aq.symm.trans aq') n2
  subst e1 e2
  have H1 := Lib.hid (alikeFloat_refl p' n1)
  have H2 := Lib.hid (alikeFloat_refl q' n2)
  have HD := Lib.hid (d1.trans d2)
  clear n1 n2 ap aq ap' aq' d1 d2 hx hy
  go_enter Tryd.func8, Tryd.ntmps8
  go_wp2_with fail
  go_enter Tryd.func24, Tryd.ntmps24
  go_wp2_with fail
  refine (H1.out _).mono ?_
  rintro e w3 ⟨rfl, rfl⟩
  go_wp2_with fail
  refine (H2.out _).mono ?_
  rintro e w3 ⟨rfl, rfl⟩
  go_wp2
  go_ret
  exact ⟨rfl, HD.out⟩
set_option maxRecDepth 100000 in
set_option maxHeartbeats 1000000 in
theorem implTPoint_bad (cx cy : Nat) (deep size : Int) (hx : cx < 4294967296) (hy : cy < 4294967296) (hp : placeB cx cy deep size = true) (a a' : Option Addr) (n c c' : Nat) (ys : List Int) (hl : ys.length ≤ 1048576) (row col : Int) (w : World) (hs : Sl w a' (ys.map intV)) (hb : wellB size n ys = false ∨ row < 0 ∨ size ≤ row ∨ col < 0 ∨ size ≤ col) :
    Calls Tryd.prog 6 #[.agg #[.complex .f32 cx cy, .int .i64 deep, .int .i64 size, .slice a n c, .slice a' ys.length c'], .int .i64 row, .int .i64 col] w fun e w' => e = .returned (.tuple #[.complex .f32 0 0, .bool false]) ∧ Below w.heap.size w w' := by
  have B := Box.new w #[.complex .f32 cx cy, .int .i64 deep, .int .i64 size, .slice a n c, .slice a' ys.length c'] 27
  have HW := Lib.hid (implWell_is cx cy deep size hx hy hp a a' n c c' ys hl _ (hs.alloc (.cells #[.complex .f32 cx cy, .int .i64 deep, .int .i64 size, .slice a n c, .slice a' ys.length c'] 27)))
  clear hp hs
  go_enter Tryd.func6, Tryd.ntmps6
  go_wp2_with fail
  refine HW.out.mono ?_
  rintro e w1 ⟨rfl, hd⟩
  replace B := B.step hd
  have b2 := B.cell 2 (.int .i64 size) rfl
  have HB := Lib.hid B.old
  clear hd HW B
  cases hw : wellB size n ys with
  | false =>
    clear hb
    go_wp2
    go_ret2
    exact ⟨rfl, HB.out⟩
  | true =>
    rw [hw] at hb
    by_cases h1 : row < 0
    · clear hb hw
      go_wp2
      go_ret2
      exact ⟨rfl, HB.out⟩
    by_cases h2 : size ≤ row
    · clear hb hw
      go_wp2
      go_ret2
      exact ⟨rfl, HB.out⟩
    by_cases h3 : col < 0
    · clear hb hw
      go_wp2
      go_ret2
      exact ⟨rfl, HB.out⟩
    have h4 : size ≤ col := by
      rcases hb with h | h | h | h | h
      · cases h
      · exact absurd h h1
      · exact absurd h h2
      · exact absurd h h3
      · exact h
    clear hb hw
    go_wp2
    go_ret2
    exact ⟨rfl, HB.out⟩
set_option maxRecDepth 100000 in
set_option maxHeartbeats 1000000 in
theorem specTPoint_bad (cx cy : Nat) (deep size : Int) (hx : cx < 4294967296) (hy : cy < 4294967296) (hp : placeB cx cy deep size = true) (a a' : Option Addr) (n c c' : Nat) (ys : List Int) (hl : ys.length ≤ 1048576) (row col : Int) (w : World) (hs : Sl w a' (ys.map intV)) (hb : wellB size n ys = false ∨ row < 0 ∨ size ≤ row ∨ col < 0 ∨ size ≤ col) :
    Calls Tryd.prog 7 #[.agg #[.complex .f32 cx cy, .int .i64 deep, .int .i64 size, .slice a n c, .slice a' ys.length c'], .int .i64 row, .int .i64 col] w fun e w' => e = .returned (.tuple #[.complex .f32 0 0, .bool false]) ∧ Below w.heap.size w w' := by
  have B := Box.new w #[.complex .f32 cx cy, .int .i64 deep, .int .i64 size, .slice a n c, .slice a' ys.length c'] 27
  have HW := Lib.hid (specWell_is cx cy deep size hx hy hp a a' n c c' ys hl _ (hs.alloc (.cells #[.complex .f32 cx cy, .int .i64 deep, .int .i64 size, .slice a n c, .slice a' ys.length c'] 27)))
  obtain ⟨p1, p2, p3, p4⟩ := placeB_bd hp
  clear hp hs
  go_enter Tryd.func7, Tryd.ntmps7
  go_wp2_with fail
  refine HW.out.mono ?_
  rintro e w1 ⟨rfl, hd⟩
  replace B := B.step hd
  have b2 := B.cell 2 (.int .i64 size) rfl
  have HB := Lib.hid B.old
  clear hd HW B
  cases hw : wellB size n ys with
  | false =>
    clear hb
    go_wp2
    go_ret2
    exact ⟨rfl, HB.out⟩
  | true =>
    rw [hw] at hb
    clear hw
    have hi1 : inB row 0 (size - 1) = false ∨ (inB row 0 (size - 1) = true ∧ inB col 0 (size - 1) = false) := by
      unfold inB
      rcases hb with h | h
      · cases h
      · by_cases h1 : 0 ≤ row ∧ row ≤ size - 1
        · right
          refine ⟨by simp; omega, by simp; omega⟩
        · left
          simp
          omega
    clear hb
    go_wp2_with fail
    refine (l6In_any _ _ _ _).mono ?_
    rintro e w2 ⟨rfl, rfl⟩
    rcases hi1 with h | ⟨h, h'⟩
    · go_wp2
      go_ret2
      exact ⟨rfl, HB.out⟩
    · go_wp2_with fail
      refine (l6In_any _ _ _ _).mono ?_
      rintro e w2 ⟨rfl, rfl⟩
      go_wp2
      go_ret2
      exact ⟨rfl, HB.out⟩
set_option maxRecDepth 100000 in
set_option maxHeartbeats 1000000 in
theorem specTPoint_good (cx cy : Nat) (deep size : Int) (hx : cx < 4294967296) (hy : cy < 4294967296) (hp : placeB cx cy deep size = true) (a a' : Option Addr) (n c c' : Nat) (ys : List Int) (hl : ys.length ≤ 1048576) (row col : Int) (r0 : 0 ≤ row) (r1 : row < size) (l0 : 0 ≤ col) (l1 : col < size) (w : World) (hs : Sl w a' (ys.map intV)) (hw : wellB size n ys = true) :
    Calls Tryd.prog 7 #[.agg #[.complex .f32 cx cy, .int .i64 deep, .int .i64 size, .slice a n c, .slice a' ys.length c'], .int .i64 row, .int .i64 col] w fun e w' => e = .returned (.tuple #[.complex .f32 (ptC cx cy deep row col).1 (ptC cx cy deep row col).2, .bool true]) ∧ Below w.heap.size w w' := by
  have B := Box.new w #[.complex .f32 cx cy, .int .i64 deep, .int .i64 size, .slice a n c, .slice a' ys.length c'] 27
  have HW := Lib.hid (specWell_is cx cy deep size hx hy hp a a' n c c' ys hl _ (hs.alloc (.cells #[.complex .f32 cx cy, .int .i64 deep, .int .i64 size, .slice a n c, .slice a' ys.length c'] 27)))
  rw [hw] at HW
  obtain ⟨h1, h2, h3, h4⟩ := placeB_bd hp
  have HP := Lib.hid (specPoint_is cx cy deep size hx hy hp row col (by omega) (by omega))
  have i1 : inB row 0 (size - 1) = true := by unfold inB; simp; omega
  have i2 : inB col 0 (size - 1) = true := by unfold inB; simp; omega
  clear hp hs hw
  generalize (ptC cx cy deep row col).1 = px at *
  generalize (ptC cx cy deep row col).2 = py at *
  go_enter Tryd.func7, Tryd.ntmps7
  go_wp2_with fail
  refine HW.out.mono ?_
  rintro e w1 ⟨rfl, hd⟩
  replace B := B.step hd
  have b0 := B.cell 0 (.complex .f32 cx cy) rfl
  have b1 := B.cell 1 (.int .i64 deep) rfl
  have b2 := B.cell 2 (.int .i64 size) rfl
  have HB := Lib.hid B.old
  clear hd HW B
  go_wp2_with fail
  refine (l6In_any _ _ _ _).mono ?_
  rintro e w2 ⟨rfl, rfl⟩
  go_wp2_with fail
  refine (l6In_any _ _ _ _).mono ?_
  rintro e w2 ⟨rfl, rfl⟩
  go_wp2_with fail
  refine (HP.out _).mono ?_
  rintro e w2 ⟨rfl, rfl⟩
  go_wp2
  go_ret2
  exact ⟨rfl, HB.out⟩
end Go.Proofs.YtdfoobemgdiobaaDoor
