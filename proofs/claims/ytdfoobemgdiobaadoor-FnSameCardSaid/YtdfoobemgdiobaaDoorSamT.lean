/- Walks: both TileSame. -/
import Derived.Test.YtdfoobemgdiobaaDoorSamA
import Derived.Test.YtdfoobemgdiobaaDoorSamS
import Derived.Test.YtdfoobemgdiobaaDoorSamI
namespace Go.Proofs.YtdfoobemgdiobaaDoor
open Go.RowKit Flo

/-- the text of a tile whose place is told -/
def ttxt (cx cy : Nat) (deep size : Int) (xs : List Nat) (ys : List Int) : ByteArray := if wellB size xs.length ys = true then ⟨(textT cx cy deep.toNat size.toNat xs ys (sum0 xs ys)).toArray⟩ else ⟨#[]⟩
theorem specText_is {B : Nat} {a1 : Option Addr} {c1 : Nat} {a2 : Option Addr} {c2 cx cy : Nat} {deep size : Int} {xs : List Nat} {ys : List Int} {w : World} (T : TileV B a1 c1 a2 c2 cx cy deep size xs ys w) :
    Calls Tryd.prog 33 #[.agg #[.complex .f32 cx cy, .int .i64 deep, .int .i64 size, .slice a1 xs.length c1, .slice a2 ys.length c2]] w fun e w' => e = .returned (.tuple #[.string (ttxt cx cy deep size xs ys), .bool (wellB size xs.length ys)]) ∧ Below w.heap.size w w' := by
  have hl := T.lim
  unfold ttxt
  cases hw : wellB size xs.length ys with
  | false => exact specText_bad cx cy deep size T.bx T.by1 T.pl a1 a2 xs.length c1 c2 ys (by omega) w T.s2 hw
  | true =>
    obtain ⟨d, rfl⟩ := Int.eq_ofNat_of_zero_le hl.2.2.1
    obtain ⟨s, rfl⟩ := Int.eq_ofNat_of_zero_le (show 0 ≤ size by omega)
    exact specText_good cx cy d s T.bx T.by1 T.pl a1 a2 c1 c2 xs ys (by omega) T.hx w T.s1 T.s2 hw
theorem implText_is {B : Nat} {a1 : Option Addr} {c1 : Nat} {a2 : Option Addr} {c2 cx cy : Nat} {deep size : Int} {xs : List Nat} {ys : List Int} {w : World} (T : TileV B a1 c1 a2 c2 cx cy deep size xs ys w) :
    Calls Tryd.prog 32 #[.agg #[.complex .f32 cx cy, .int .i64 deep, .int .i64 size, .slice a1 xs.length c1, .slice a2 ys.length c2]] w fun e w' => e = .returned (.tuple #[.string (ttxt cx cy deep size xs ys), .bool (wellB size xs.length ys)]) ∧ Below w.heap.size w w' := by
  have hl := T.lim
  unfold ttxt
  cases hw : wellB size xs.length ys with
  | false => exact implText_bad cx cy deep size T.bx T.by1 T.pl a1 a2 xs.length c1 c2 ys (by omega) w T.s2 hw
  | true =>
    obtain ⟨d, rfl⟩ := Int.eq_ofNat_of_zero_le hl.2.2.1
    obtain ⟨s, rfl⟩ := Int.eq_ofNat_of_zero_le (show 0 ≤ size by omega)
    exact implText_good cx cy d s T.bx T.by1 T.pl a1 a2 c1 c2 xs ys (by omega) T.hx w T.s1 T.s2 hw
set_option maxHeartbeats 1000000 in
theorem implSame_is {B : Nat} {a1 : Option Addr} {c1 : Nat} {a2 : Option Addr} {c2 cx cy : Nat} {deep size : Int} {xs : List Nat} {ys : List Int} {a1' : Option Addr} {c1' : Nat} {a2' : Option Addr} {c2' cx' cy' : Nat} {deep' size' : Int} {xs' : List Nat} {ys' : List Int} {w : World} (T : TileV B a1 c1 a2 c2 cx cy deep size xs ys w) (T' : TileV B a1' c1' a2' c2' cx' cy' deep' size' xs' ys' w) :
    Calls Tryd.prog 13 #[.agg #[.complex .f32 cx cy, .int .i64 deep, .int .i64 size, .slice a1 xs.length c1, .slice a2 ys.length c2], .agg #[.complex .f32 cx' cy', .int .i64 deep', .int .i64 size', .slice a1' xs'.length c1', .slice a2' ys'.length c2']] w fun e w' => e = .returned (.bool (wellB size xs.length ys && wellB size' xs'.length ys' && ((ttxt cx cy deep size xs ys).toList == (ttxt cx' cy' deep' size' xs' ys').toList))) ∧ Below w.heap.size w w' := by
  have X0 : Box w w.heap.size #[.complex .f32 cx cy, .int .i64 deep, .int .i64 size, .slice a1 xs.length c1, .slice a2 ys.length c2] 27 ((w.alloc (.cells #[.complex .f32 cx cy, .int .i64 deep, .int .i64 size, .slice a1 xs.length c1, .slice a2 ys.length c2] 27)).alloc (.cells #[.complex .f32 cx' cy', .int .i64 deep', .int .i64 size', .slice a1' xs'.length c1', .slice a2' ys'.length c2'] 27)) := (Box.new w _ _).alloc _
  have X1 : Box w (w.heap.size + 1) #[.complex .f32 cx' cy', .int .i64 deep', .int .i64 size', .slice a1' xs'.length c1', .slice a2' ys'.length c2'] 27 ((w.alloc (.cells #[.complex .f32 cx cy, .int .i64 deep, .int .i64 size, .slice a1 xs.length c1, .slice a2 ys.length c2] 27)).alloc (.cells #[.complex .f32 cx' cy', .int .i64 deep', .int .i64 size', .slice a1' xs'.length c1', .slice a2' ys'.length c2'] 27)) := by
    have := (Box.new (w.alloc (.cells #[.complex .f32 cx cy, .int .i64 deep, .int .i64 size, .slice a1 xs.length c1, .slice a2 ys.length c2] 27)) #[.complex .f32 cx' cy', .int .i64 deep', .int .i64 size', .slice a1' xs'.length c1', .slice a2' ys'.length c2'] 27).up (w0 := w) ((Below.refl _ _).alloc (Nat.le_refl _) _)
    rwa [World.size_alloc] at this
  have H1 := Lib.hid (implText_is (T.step X0.old))
  have H2 := Lib.hid (fun W (k : Below w.heap.size w W) => implText_is (T'.step k))
  have HX0 := Lib.hid X0
  have HX1 := Lib.hid X1
  clear X0 X1
  generalize ttxt cx cy deep size xs ys = t1 at *
  generalize ttxt cx' cy' deep' size' xs' ys' = t2 at *
  generalize wellB size xs.length ys = b1 at *
  generalize wellB size' xs'.length ys' = b2 at *
  clear T T'
  go_enter Tryd.func13, Tryd.ntmps13
  go_wp2_with fail
  with_reducible refine H1.out.mono ?_
  rintro e w1 ⟨rfl, hd⟩
  have HY1 := Lib.hid (HX1.out.step hd)
  obtain ⟨d0, d1, d2, d3, d4⟩ := HY1.out.cells5
  clear hd H1 HX0 HX1
  go_wp2_with fail
  with_reducible refine (H2.out _ HY1.out.old).mono ?_
  rintro e w2 ⟨rfl, hd⟩
  have HD2 := Lib.hid (HY1.out.old.trans (hd.mono HY1.out.old.size))
  clear hd H2 HY1 d0 d1 d2 d3 d4
  cases b1 <;> cases b2
  all_goals
    go_wp2
    go_ret
    exact ⟨rfl, HD2.out⟩
set_option maxHeartbeats 1000000 in
theorem specSame_is {B : Nat} {a1 : Option Addr} {c1 : Nat} {a2 : Option Addr} {c2 cx cy : Nat} {deep size : Int} {xs : List Nat} {ys : List Int} {a1' : Option Addr} {c1' : Nat} {a2' : Option Addr} {c2' cx' cy' : Nat} {deep' size' : Int} {xs' : List Nat} {ys' : List Int} {w : World} (T : TileV B a1 c1 a2 c2 cx cy deep size xs ys w) (T' : TileV B a1' c1' a2' c2' cx' cy' deep' size' xs' ys' w) :
    Calls Tryd.prog 14 #[.agg #[.complex .f32 cx cy, .int .i64 deep, .int .i64 size, .slice a1 xs.length c1, .slice a2 ys.length c2], .agg #[.complex .f32 cx' cy', .int .i64 deep', .int .i64 size', .slice a1' xs'.length c1', .slice a2' ys'.length c2']] w fun e w' => e = .returned (.bool (wellB size xs.length ys && wellB size' xs'.length ys' && ((ttxt cx cy deep size xs ys).toList == (ttxt cx' cy' deep' size' xs' ys').toList))) ∧ Below w.heap.size w w' := by
  have X0 : Box w w.heap.size #[.complex .f32 cx cy, .int .i64 deep, .int .i64 size, .slice a1 xs.length c1, .slice a2 ys.length c2] 27 ((w.alloc (.cells #[.complex .f32 cx cy, .int .i64 deep, .int .i64 size, .slice a1 xs.length c1, .slice a2 ys.length c2] 27)).alloc (.cells #[.complex .f32 cx' cy', .int .i64 deep', .int .i64 size', .slice a1' xs'.length c1', .slice a2' ys'.length c2'] 27)) := (Box.new w _ _).alloc _
  have X1 : Box w (w.heap.size + 1) #[.complex .f32 cx' cy', .int .i64 deep', .int .i64 size', .slice a1' xs'.length c1', .slice a2' ys'.length c2'] 27 ((w.alloc (.cells #[.complex .f32 cx cy, .int .i64 deep, .int .i64 size, .slice a1 xs.length c1, .slice a2 ys.length c2] 27)).alloc (.cells #[.complex .f32 cx' cy', .int .i64 deep', .int .i64 size', .slice a1' xs'.length c1', .slice a2' ys'.length c2'] 27)) := by
    have := (Box.new (w.alloc (.cells #[.complex .f32 cx cy, .int .i64 deep, .int .i64 size, .slice a1 xs.length c1, .slice a2 ys.length c2] 27)) #[.complex .f32 cx' cy', .int .i64 deep', .int .i64 size', .slice a1' xs'.length c1', .slice a2' ys'.length c2'] 27).up (w0 := w) ((Below.refl _ _).alloc (Nat.le_refl _) _)
    rwa [World.size_alloc] at this
  have H1 := Lib.hid (specText_is (T.step X0.old))
  have H2 := Lib.hid (fun W (k : Below w.heap.size w W) => specText_is (T'.step k))
  have HX0 := Lib.hid X0
  have HX1 := Lib.hid X1
  clear X0 X1
  generalize ttxt cx cy deep size xs ys = t1 at *
  generalize ttxt cx' cy' deep' size' xs' ys' = t2 at *
  generalize wellB size xs.length ys = b1 at *
  generalize wellB size' xs'.length ys' = b2 at *
  clear T T'
  go_enter Tryd.func14, Tryd.ntmps14
  go_wp2_with fail
  with_reducible refine H1.out.mono ?_
  rintro e w1 ⟨rfl, hd⟩
  have HY1 := Lib.hid (HX1.out.step hd)
  obtain ⟨d0, d1, d2, d3, d4⟩ := HY1.out.cells5
  clear hd H1 HX0 HX1
  go_wp2_with fail
  with_reducible refine (H2.out _ HY1.out.old).mono ?_
  rintro e w2 ⟨rfl, hd⟩
  have HD2 := Lib.hid (HY1.out.old.trans (hd.mono HY1.out.old.size))
  clear hd H2 HY1 d0 d1 d2 d3 d4
  cases b1 <;> cases b2
  all_goals
    go_wp2
    go_ret
    exact ⟨rfl, HD2.out⟩
end Go.Proofs.YtdfoobemgdiobaaDoor
