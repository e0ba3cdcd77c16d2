/- Walks: the program's and the reference's TileSum at a tile whose place is told. -/
import Derived.Test.YtdfoobemgdiobaaDoorTilG
import Derived.Test.YtdfoobemgdiobaaDoorTilK
import Derived.Laws.BitsAllLaws
namespace Go.Proofs.YtdfoobemgdiobaaDoor
open Go.RowKit

theorem sstep_int {h b : Nat} (hh : h < 4294967296) (hb : b < 4294967296) : bits .xor .u32 (h : Int) (b : Int) = ((h ^^^ b : Nat) : Int) ∧ (((h ^^^ b : Nat) : Int) * 16777619) % 4294967296 = (sstep h b : Nat) :=
  ⟨u32_xor_nat h b hh hb, by unfold sstep; omega⟩
theorem bits32_run (x : Nat) (w : World) : (callFunc 34 #[.float .f32 x]).run Tryd.prog w = .ok (.value (.int .u32 x)) w := by
  kernel_rfl
theorem sum_walk {h x : Nat} {y : Int} (hh : h < 4294967296) (hx : x < 4294967296) (y1 : -1 ≤ y) (y2 : y ≤ 1) :
    bits .xor .u32 (bits .xor .u32 (h : Int) (x : Int) * 16777619 % 4294967296) (y + 2) * 16777619 % 4294967296 = (sstep (sstep h x) (y + 2).toNat : Nat) := by
  obtain ⟨b, hb⟩ := Int.eq_ofNat_of_zero_le (show 0 ≤ y + 2 by omega)
  have e1 := sstep_int hh hx
  have e2 := sstep_int (sstep_lt h x) (show b < 4294967296 by omega)
  rw [e1.1, e1.2, hb, e2.1, e2.2, Int.toNat_natCast]
theorem sum_at {xs : List Nat} {ys : List Int} {m : Nat} (h1 : xs.length = m) (h2 : ys.length = m) (hx : ∀ x, x ∈ xs → x < 4294967296) (hy : ∀ y, y ∈ ys → -1 ≤ y ∧ y ≤ 1) (k : Nat) (h : k < m) :
    ∃ (x : Nat) (y : Int), (xs.map floV)[k]? = some (.float .f32 x) ∧ (ys.map intV)[k]? = some (.int .i64 y) ∧ x < 4294967296 ∧ -1 ≤ y ∧ y ≤ 1 ∧ sumL (xs.take (k + 1)) (ys.take (k + 1)) 2166136261 = sstep (sstep (sumL (xs.take k) (ys.take k) 2166136261) x) (y + 2).toNat ∧ sumL (xs.take k) (ys.take k) 2166136261 < 4294967296 := by
  subst h1
  refine ⟨xs[k], ys[k], by rw [List.getElem?_map, List.getElem?_eq_getElem h]; rfl, by rw [List.getElem?_map, List.getElem?_eq_getElem (by omega)]; rfl, hx _ (List.getElem_mem _), (hy _ (List.getElem_mem _)).1, (hy _ (List.getElem_mem _)).2, ?_, sumL_lt (by decide)⟩
  rw [sum_take xs ys _ k (by omega) (by omega), sumF_eq]
set_option maxRecDepth 100000 in
set_option maxHeartbeats 1000000 in
theorem specSum_bad (cx cy : Nat) (deep size : Int) (hx : cx < 4294967296) (hy : cy < 4294967296) (hp : placeB cx cy deep size = true) (a a' : Option Addr) (n c c' : Nat) (ys : List Int) (hl : ys.length ≤ 1048576) (w : World) (hs : Sl w a' (ys.map intV)) (hw : wellB size n ys = false) :
    Calls Tryd.prog 52 #[.agg #[.complex .f32 cx cy, .int .i64 deep, .int .i64 size, .slice a n c, .slice a' ys.length c']] w fun e w' => e = .returned (.tuple #[.int .u32 0, .bool false]) ∧ Below w.heap.size w w' := by
  have B := Box.new w #[.complex .f32 cx cy, .int .i64 deep, .int .i64 size, .slice a n c, .slice a' ys.length c'] 27
  have HW := Lib.hid (specWell_is cx cy deep size hx hy hp a a' n c c' ys hl _ (hs.alloc (.cells #[.complex .f32 cx cy, .int .i64 deep, .int .i64 size, .slice a n c, .slice a' ys.length c'] 27)))
  rw [hw] at HW
  clear hp hs hw
  go_enter Tryd.func52, Tryd.ntmps52
  go_wp2_with fail
  refine HW.out.mono ?_
  rintro e w1 ⟨rfl, hd⟩
  replace B := Lib.hid (B.step hd).old
  clear hd HW
  go_wp2
  go_ret2
  exact ⟨rfl, B.out⟩
set_option maxRecDepth 100000 in
set_option maxHeartbeats 2000000 in
theorem specSum_good (cx cy : Nat) (deep size : Int) (hx : cx < 4294967296) (hy : cy < 4294967296) (hp : placeB cx cy deep size = true) (a a' : Option Addr) (c c' : Nat) (xs : List Nat) (ys : List Int) (hl : ys.length ≤ 1048576) (hxx : ∀ x, x ∈ xs → x < 4294967296) (w : World) (hs : Sl w a (xs.map floV)) (hs' : Sl w a' (ys.map intV)) (hw : wellB size xs.length ys = true) :
    Calls Tryd.prog 52 #[.agg #[.complex .f32 cx cy, .int .i64 deep, .int .i64 size, .slice a xs.length c, .slice a' ys.length c']] w fun e w' => e = .returned (.tuple #[.int .u32 (sum0 xs ys), .bool true]) ∧ Below w.heap.size w w' := by
  obtain ⟨g1, g2, g3⟩ := wellB_all hw
  have B := Box.new w #[.complex .f32 cx cy, .int .i64 deep, .int .i64 size, .slice a xs.length c, .slice a' ys.length c'] 27
  have HW := Lib.hid (specWell_is cx cy deep size hx hy hp a a' xs.length c c' ys hl _ (hs'.alloc (.cells #[.complex .f32 cx cy, .int .i64 deep, .int .i64 size, .slice a xs.length c, .slice a' ys.length c'] 27)))
  rw [hw] at HW
  obtain ⟨m, hm⟩ : ∃ m, xs.length = m := ⟨_, rfl⟩
  have HT := Lib.hid (fun k => sum_at (k := k) hm (g2.trans hm) hxx g3)
  have HE : Hid (sumL (xs.take m) (ys.take m) 2166136261 = sum0 xs ys) := by
    show _ = _
    rw [← hm, List.take_length, ← g2, List.take_length]; rfl
  have H1 := Lib.hid (hs.alloc (.cells #[.complex .f32 cx cy, .int .i64 deep, .int .i64 size, .slice a xs.length c, .slice a' ys.length c'] 27))
  have H2 := Lib.hid (hs'.alloc (.cells #[.complex .f32 cx cy, .int .i64 deep, .int .i64 size, .slice a xs.length c, .slice a' ys.length c'] 27))
  have hm2 : ys.length = m := by omega
  rw [hm, hm2] at HW B H1 H2
  rw [hm2] at hl
  rw [hm, hm2]
  have hf := bits32_run
  clear hp hs hs' hw hxx hm hm2 g1 g2 g3
  go_enter Tryd.func52, Tryd.ntmps52
  go_wp2_with fail
  refine HW.out.mono ?_
  rintro e w1 ⟨rfl, hd⟩
  replace B := B.step hd
  replace H1 := Lib.hid (H1.out.step hd)
  replace H2 := Lib.hid (H2.out.step hd)
  have b3 := B.cell 3 _ rfl
  have b4 := B.cell 4 _ rfl
  have HB := Lib.hid B.old
  clear hd HW B
  go_wp2
  go_loopw [4, 5] (fun h i wr => ∃ k : Nat, k ≤ m ∧ i = .int .i64 k ∧ h = .int .u32 (sumL (xs.take k) (ys.take k) 2166136261) ∧ wr = w1) (fun _ i _ => (m - intOf i).toNat)
  case atStart => exact ⟨0, by omega, rfl, rfl, rfl⟩
  case round =>
    obtain ⟨k, hk, rfl, rfl, rfl⟩ := hrel
    by_cases hlt : k < m
    · obtain ⟨x, y, hxk, hyk, x1, y1, y2, hN, hh⟩ := HT.out k hlt
      have HN := Lib.hid hN
      obtain ⟨b, off, rfl, hc⟩ := H1.out.at hxk
      obtain ⟨b', off', rfl, hc'⟩ := H2.out.at hyk
      clear hxk hyk hN
      generalize sumL (xs.take k) (ys.take k) 2166136261 = h at *
      go_wp2
      go_roundw
      case rel => exact ⟨k + 1, by omega, by go_num, by rw [HN.out, sum_walk hh x1 y1 y2], by trivial⟩
      case measure => simp [intOf]; omega
    · go_wp2
      go_ret2
      obtain rfl : k = m := by omega
      exact ⟨by rw [HE.out]; rfl, HB.out⟩
set_option maxRecDepth 100000 in
set_option maxHeartbeats 1000000 in
theorem implSum_bad (cx cy : Nat) (deep size : Int) (hx : cx < 4294967296) (hy : cy < 4294967296) (hp : placeB cx cy deep size = true) (a a' : Option Addr) (n c c' : Nat) (ys : List Int) (hl : ys.length ≤ 1048576) (w : World) (hs : Sl w a' (ys.map intV)) (hw : wellB size n ys = false) :
    Calls Tryd.prog 15 #[.agg #[.complex .f32 cx cy, .int .i64 deep, .int .i64 size, .slice a n c, .slice a' ys.length c']] w fun e w' => e = .returned (.tuple #[.int .u32 0, .bool false]) ∧ Below w.heap.size w w' := by
  have B := Box.new w #[.complex .f32 cx cy, .int .i64 deep, .int .i64 size, .slice a n c, .slice a' ys.length c'] 27
  have HW := Lib.hid (implWell_is cx cy deep size hx hy hp a a' n c c' ys hl _ (hs.alloc (.cells #[.complex .f32 cx cy, .int .i64 deep, .int .i64 size, .slice a n c, .slice a' ys.length c'] 27)))
  rw [hw] at HW
  clear hp hs hw
  go_enter Tryd.func15, Tryd.ntmps15
  go_wp2_with fail
  refine HW.out.mono ?_
  rintro e w1 ⟨rfl, hd⟩
  replace B := Lib.hid (B.step hd).old
  clear hd HW
  go_wp2
  go_ret2
  exact ⟨rfl, B.out⟩
set_option maxRecDepth 100000 in
set_option maxHeartbeats 2000000 in
theorem implSum_good (cx cy : Nat) (deep size : Int) (hx : cx < 4294967296) (hy : cy < 4294967296) (hp : placeB cx cy deep size = true) (a a' : Option Addr) (c c' : Nat) (xs : List Nat) (ys : List Int) (hl : ys.length ≤ 1048576) (hxx : ∀ x, x ∈ xs → x < 4294967296) (w : World) (hs : Sl w a (xs.map floV)) (hs' : Sl w a' (ys.map intV)) (hw : wellB size xs.length ys = true) :
    Calls Tryd.prog 15 #[.agg #[.complex .f32 cx cy, .int .i64 deep, .int .i64 size, .slice a xs.length c, .slice a' ys.length c']] w fun e w' => e = .returned (.tuple #[.int .u32 (sum0 xs ys), .bool true]) ∧ Below w.heap.size w w' := by
  obtain ⟨g1, g2, g3⟩ := wellB_all hw
  have B := Box.new w #[.complex .f32 cx cy, .int .i64 deep, .int .i64 size, .slice a xs.length c, .slice a' ys.length c'] 27
  have HW := Lib.hid (implWell_is cx cy deep size hx hy hp a a' xs.length c c' ys hl _ (hs'.alloc (.cells #[.complex .f32 cx cy, .int .i64 deep, .int .i64 size, .slice a xs.length c, .slice a' ys.length c'] 27)))
  rw [hw] at HW
  obtain ⟨m, hm⟩ : ∃ m, xs.length = m := ⟨_, rfl⟩
  have HT := Lib.hid (fun k => sum_at (k := k) hm (g2.trans hm) hxx g3)
  have HE : Hid (sumL (xs.take m) (ys.take m) 2166136261 = sum0 xs ys) := by
    show _ = _
    rw [← hm, List.take_length, ← g2, List.take_length]; rfl
  have H1 := Lib.hid (hs.alloc (.cells #[.complex .f32 cx cy, .int .i64 deep, .int .i64 size, .slice a xs.length c, .slice a' ys.length c'] 27))
  have H2 := Lib.hid (hs'.alloc (.cells #[.complex .f32 cx cy, .int .i64 deep, .int .i64 size, .slice a xs.length c, .slice a' ys.length c'] 27))
  have hm2 : ys.length = m := by omega
  rw [hm, hm2] at HW B H1 H2
  rw [hm2] at hl
  rw [hm, hm2]
  have hf := bits32_run
  clear hp hs hs' hw hxx hm hm2 g1 g2 g3
  go_enter Tryd.func15, Tryd.ntmps15
  go_wp2_with fail
  refine HW.out.mono ?_
  rintro e w1 ⟨rfl, hd⟩
  replace B := B.step hd
  replace H1 := Lib.hid (H1.out.step hd)
  replace H2 := Lib.hid (H2.out.step hd)
  have b3 := B.cell 3 _ rfl
  have b4 := B.cell 4 _ rfl
  have HB := Lib.hid B.old
  clear hd HW B
  go_wp2
  go_loopw [4, 5, 6, 13] (fun h _ _ i wr => ∃ k : Nat, k ≤ m ∧ i = .int .i64 k ∧ h = .int .u32 (sumL (xs.take k) (ys.take k) 2166136261) ∧ wr = w1) (fun _ _ _ i _ => (m - intOf i).toNat)
  case atStart => exact ⟨0, by omega, rfl, rfl, rfl⟩
  case round =>
    obtain ⟨k, hk, rfl, rfl, rfl⟩ := hrel
    by_cases hlt : k < m
    · obtain ⟨x, y, hxk, hyk, x1, y1, y2, hN, hh⟩ := HT.out k hlt
      have HN := Lib.hid hN
      obtain ⟨b, off, rfl, hc⟩ := H1.out.at hxk
      obtain ⟨b', off', rfl, hc'⟩ := H2.out.at hyk
      clear hxk hyk hN
      generalize sumL (xs.take k) (ys.take k) 2166136261 = h at *
      go_wp2
      go_roundw
      case rel => exact ⟨k + 1, by omega, by go_num, by rw [HN.out, sum_walk hh x1 y1 y2], by trivial⟩
      case measure => simp [intOf]; omega
    · go_wp2
      go_ret2
      obtain rfl : k = m := by omega
      exact ⟨by rw [HE.out]; rfl, HB.out⟩
end Go.Proofs.YtdfoobemgdiobaaDoor
