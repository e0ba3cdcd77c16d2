/- Walks: the program's and the reference's TileCounts at a tile whose place is told. -/
import Derived.Test.YtdfoobemgdiobaaTilG
import Derived.Test.YtdfoobemgdiobaaTilK
namespace Go.Proofs.Ytdfoobemgdiobaa
open Go.RowKit

set_option maxRecDepth 100000 in
set_option maxHeartbeats 1000000 in
theorem specCounts_bad (cx cy : Nat) (deep size : Int) (hx : cx < 4294967296) (hy : cy < 4294967296) (hp : placeB cx cy deep size = true) (a a' : Option Addr) (n c c' : Nat) (ys : List Int) (hl : ys.length ≤ 1048576) (w : World) (hs : Sl w a' (ys.map intV)) (hw : wellB size n ys = false) :
    Calls Try.prog 24 #[.agg #[.complex .f32 cx cy, .int .i64 deep, .int .i64 size, .slice a n c, .slice a' ys.length c']] w fun e w' => (∃ a, e = .returned (.tuple #[.slice a 0 0, .bool false])) ∧ Below w.heap.size w w' := by
  have B := Box.new w #[.complex .f32 cx cy, .int .i64 deep, .int .i64 size, .slice a n c, .slice a' ys.length c'] 35
  have HW := Lib.hid (specWell_is cx cy deep size hx hy hp a a' n c c' ys hl _ (hs.alloc (.cells #[.complex .f32 cx cy, .int .i64 deep, .int .i64 size, .slice a n c, .slice a' ys.length c'] 35)))
  rw [hw] at HW
  clear hp hs hw
  go_enter Try.func24, Try.ntmps24
  go_wp2_with fail
  refine HW.out.mono ?_
  rintro e w1 ⟨rfl, hd⟩
  replace B := Lib.hid (B.step hd).old
  clear hd HW
  go_wp2
  go_ret2
  first
    | exact ⟨⟨_, rfl⟩, B.out⟩
    | exact ⟨⟨_, rfl⟩, (B.out.alloc (by have := B.out.size; omega) _)⟩
set_option maxRecDepth 100000 in
set_option maxHeartbeats 1000000 in
theorem implCounts_bad (cx cy : Nat) (deep size : Int) (hx : cx < 4294967296) (hy : cy < 4294967296) (hp : placeB cx cy deep size = true) (a a' : Option Addr) (n c c' : Nat) (ys : List Int) (hl : ys.length ≤ 1048576) (w : World) (hs : Sl w a' (ys.map intV)) (hw : wellB size n ys = false) :
    Calls Try.prog 21 #[.agg #[.complex .f32 cx cy, .int .i64 deep, .int .i64 size, .slice a n c, .slice a' ys.length c']] w fun e w' => (∃ a, e = .returned (.tuple #[.slice a 0 0, .bool false])) ∧ Below w.heap.size w w' := by
  have B := Box.new w #[.complex .f32 cx cy, .int .i64 deep, .int .i64 size, .slice a n c, .slice a' ys.length c'] 35
  have HW := Lib.hid (implWell_is cx cy deep size hx hy hp a a' n c c' ys hl _ (hs.alloc (.cells #[.complex .f32 cx cy, .int .i64 deep, .int .i64 size, .slice a n c, .slice a' ys.length c'] 35)))
  rw [hw] at HW
  clear hp hs hw
  go_enter Try.func21, Try.ntmps21
  go_wp2_with fail
  refine HW.out.mono ?_
  rintro e w1 ⟨rfl, hd⟩
  replace B := Lib.hid (B.step hd).old
  clear hd HW
  go_wp2
  go_ret2
  first
    | exact ⟨⟨_, rfl⟩, B.out⟩
    | exact ⟨⟨_, rfl⟩, (B.out.alloc (by have := B.out.size; omega) _)⟩
theorem cnt_round {ys : List Int} (hy : ∀ y, y ∈ ys → -1 ≤ y ∧ y ≤ 1) (k : Nat) (h : k < ys.length) :
    ∃ y : Int, (ys.map intV)[k]? = some (.int .i64 y) ∧
      ((y = 1 ∧ cnt 1 (ys.take (k + 1)) = cnt 1 (ys.take k) + 1 ∧ cnt (-1) (ys.take (k + 1)) = cnt (-1) (ys.take k) ∧ cnt 0 (ys.take (k + 1)) = cnt 0 (ys.take k)) ∨
       (y = -1 ∧ cnt 1 (ys.take (k + 1)) = cnt 1 (ys.take k) ∧ cnt (-1) (ys.take (k + 1)) = cnt (-1) (ys.take k) + 1 ∧ cnt 0 (ys.take (k + 1)) = cnt 0 (ys.take k)) ∨
       (y = 0 ∧ cnt 1 (ys.take (k + 1)) = cnt 1 (ys.take k) ∧ cnt (-1) (ys.take (k + 1)) = cnt (-1) (ys.take k) ∧ cnt 0 (ys.take (k + 1)) = cnt 0 (ys.take k) + 1)) := by
  have hb := hy _ (List.getElem_mem h)
  have t1 := cnt_take 1 ys k h
  have t2 := cnt_take (-1) ys k h
  have t3 := cnt_take 0 ys k h
  refine ⟨ys[k], by rw [List.getElem?_map, List.getElem?_eq_getElem h]; rfl, ?_⟩
  generalize ys[k] = y at *
  rcases (by omega : y = 1 ∨ y = -1 ∨ y = 0) with rfl | rfl | rfl
  · exact .inl ⟨rfl, t1, t2, t3⟩
  · exact .inr (.inl ⟨rfl, t1, t2, t3⟩)
  · exact .inr (.inr ⟨rfl, t1, t2, t3⟩)
def cntC (ys : List Int) (k : Nat) : Array Value := #[.int .i64 (cnt 1 (ys.take k)), .int .i64 (cnt (-1) (ys.take k)), .int .i64 (cnt 0 (ys.take k))]
theorem cntC_zero (ys : List Int) : cntC ys 0 = #[.int .i64 0, .int .i64 0, .int .i64 0] := rfl
theorem cnt_lim {ys : List Int} (k : Nat) (hl : ys.length ≤ 1048576) (v : Int) : (cnt v (ys.take k) : Int) ≤ 1048576 := by
  have := cnt_le v (ys.take k)
  simp at this
  omega
/-- one more mark is counted in the block b -/
theorem cnt_step {w W : World} {b : Nat} {ys : List Int} {T : TypeId} (k : Nat) (h : Box w b (cntC ys k) T W) (hb : w.heap.size ≤ b) :
    (∀ p q r : Nat, cnt 1 (ys.take k) = p → cnt (-1) (ys.take k) = q → cnt 0 (ys.take k) = r →
      (cnt 1 (ys.take (k + 1)) = p + 1 → cnt (-1) (ys.take (k + 1)) = q → cnt 0 (ys.take (k + 1)) = r → Box w b (cntC ys (k + 1)) T (W.setCell ⟨b, 0, none⟩ (.int .i64 (p + 1)))) ∧
      (cnt 1 (ys.take (k + 1)) = p → cnt (-1) (ys.take (k + 1)) = q + 1 → cnt 0 (ys.take (k + 1)) = r → Box w b (cntC ys (k + 1)) T (W.setCell ⟨b, 1, none⟩ (.int .i64 (q + 1)))) ∧
      (cnt 1 (ys.take (k + 1)) = p → cnt (-1) (ys.take (k + 1)) = q → cnt 0 (ys.take (k + 1)) = r + 1 → Box w b (cntC ys (k + 1)) T (W.setCell ⟨b, 2, none⟩ (.int .i64 (r + 1))))) := by
  rintro p q r rfl rfl rfl
  refine ⟨fun e1 e2 e3 => ?_, fun e1 e2 e3 => ?_, fun e1 e2 e3 => ?_⟩
  · have := h.set hb 0 (.int .i64 ((cnt 1 (ys.take k) : Int) + 1))
    unfold cntC at this ⊢
    rw [e1, e2, e3]
    exact this
  · have := h.set hb 1 (.int .i64 ((cnt (-1) (ys.take k) : Int) + 1))
    unfold cntC at this ⊢
    rw [e1, e2, e3]
    exact this
  · have := h.set hb 2 (.int .i64 ((cnt 0 (ys.take k) : Int) + 1))
    unfold cntC at this ⊢
    rw [e1, e2, e3]
    exact this
set_option maxRecDepth 100000 in
set_option maxHeartbeats 2000000 in
theorem specCounts_good (cx cy : Nat) (deep size : Int) (hx : cx < 4294967296) (hy : cy < 4294967296) (hp : placeB cx cy deep size = true) (a a' : Option Addr) (n c c' : Nat) (ys : List Int) (hl : ys.length ≤ 1048576) (w : World) (hs : Sl w a' (ys.map intV)) (hw : wellB size n ys = true) :
    Calls Try.prog 24 #[.agg #[.complex .f32 cx cy, .int .i64 deep, .int .i64 size, .slice a n c, .slice a' ys.length c']] w fun e w' => ∃ b, e = .returned (.tuple #[.slice (some ⟨b, 0, none⟩) 3 3, .bool true]) ∧ w.heap.size ≤ b ∧ Box w b (cntC ys ys.length) 3 w' := by
  obtain ⟨g1, g2, g3⟩ := wellB_all hw
  have B := Box.new w #[.complex .f32 cx cy, .int .i64 deep, .int .i64 size, .slice a n c, .slice a' ys.length c'] 35
  have HW := Lib.hid (specWell_is cx cy deep size hx hy hp a a' n c c' ys hl _ (hs.alloc (.cells #[.complex .f32 cx cy, .int .i64 deep, .int .i64 size, .slice a n c, .slice a' ys.length c'] 35)))
  rw [hw] at HW
  have HT := Lib.hid (fun k => cnt_round g3 k)
  have HM := Lib.hid (fun k => cnt_lim k hl)
  have H2 := Lib.hid hs
  obtain ⟨m, hm⟩ : ∃ m, ys.length = m := ⟨_, rfl⟩
  rw [hm] at HW B hl HT ⊢
  clear hp hs hw hm g1 g2 g3
  go_enter Try.func24, Try.ntmps24
  go_wp2_with fail
  refine HW.out.mono ?_
  rintro e w1 ⟨rfl, hd⟩
  replace B := B.step hd
  have hsz := B.old.size
  have R := (Box.new w1 #[.int .i64 0, .int .i64 0, .int .i64 0] 3).up B.old
  replace B := B.alloc (.cells #[.int .i64 0, .int .i64 0, .int .i64 0] 3)
  have HB := Lib.hid B
  have HR : Hid (Box w w1.heap.size (cntC ys 0) 3 (w1.alloc (.cells #[.int .i64 0, .int .i64 0, .int .i64 0] 3))) := R
  have hlt := B.lt
  have hne : w.heap.size ≠ w1.heap.size := by
    have := hd.size
    simp at this
    omega
  clear hd HW B R
  go_wp2
  generalize hwb : w1.heap.size = wb at *
  go_loopw [5, 6] (fun i _ wr => ∃ k : Nat, k ≤ m ∧ i = .int .i64 k ∧ Hid (Box w wb (cntC ys k) 3 wr) ∧ Hid (Box w w.heap.size #[.complex .f32 cx cy, .int .i64 deep, .int .i64 size, .slice a n c, .slice a' m c'] 35 wr)) (fun i _ _ => (m - intOf i).toNat)
  case atStart => exact ⟨0, by omega, rfl, HR.out, HB.out⟩
  case round =>
    obtain ⟨k, hk, rfl, HR, HB⟩ := hrel
    have b4 := HB.out.cell 4 _ rfl
    have R := HR.out
    by_cases hlt : k < m
    · obtain ⟨y, hyk, hy⟩ := HT.out k hlt
      obtain ⟨b', off', rfl, hc'⟩ := (H2.out.step HB.out.old).at hyk
      obtain ⟨HS1, HS2, HS3⟩ := cnt_step k R (by omega) _ _ _ rfl rfl rfl
      replace HS1 := Lib.hid HS1
      replace HS2 := Lib.hid HS2
      replace HS3 := Lib.hid HS3
      have m1 := HM.out k 1
      have m2 := HM.out k (-1)
      have m3 := HM.out k 0
      have c0 := R.cell 0 (.int .i64 (cnt 1 (ys.take k))) rfl
      have c1 := R.cell 1 (.int .i64 (cnt (-1) (ys.take k))) rfl
      have c2 := R.cell 2 (.int .i64 (cnt 0 (ys.take k))) rfl
      have f0 := R.frozen 0
      have f1 := R.frozen 1
      have f2 := R.frozen 2
      have hlw := R.lt
      clear hyk R
      obtain ⟨p, hp⟩ : ∃ p, cnt 1 (ys.take k) = p := ⟨_, rfl⟩
      obtain ⟨q, hq⟩ : ∃ q, cnt (-1) (ys.take k) = q := ⟨_, rfl⟩
      obtain ⟨r, hr⟩ : ∃ r, cnt 0 (ys.take k) = r := ⟨_, rfl⟩
      rw [hp] at HS1 HS2 HS3 m1 hy c0
      rw [hq] at HS1 HS2 HS3 m2 hy c1
      rw [hr] at HS1 HS2 HS3 m3 hy c2
      have HP := Lib.hid hp
      have HQ := Lib.hid hq
      have HRR := Lib.hid hr
      clear hp hq hr
      rcases hy with ⟨rfl, e1, e2, e3⟩ | ⟨rfl, e1, e2, e3⟩ | ⟨rfl, e1, e2, e3⟩
      · have HN := Lib.hid (HS1.out e1 e2 e3)
        have HB2 := Lib.hid (HB.out.other (p := ⟨wb, 0, none⟩) (by simp; omega) hne (.int .i64 (p + 1)))
        clear e1 e2 e3 HS1 HS2 HS3
        go_wp2
        go_roundw
        case rel => exact ⟨k + 1, by omega, by go_num, HN.out, HB2.out⟩
        case measure => simp [intOf]; omega
      · have HN := Lib.hid (HS2.out e1 e2 e3)
        have HB2 := Lib.hid (HB.out.other (p := ⟨wb, 1, none⟩) (by simp; omega) hne (.int .i64 (q + 1)))
        clear e1 e2 e3 HS1 HS2 HS3
        go_wp2
        go_roundw
        case rel => exact ⟨k + 1, by omega, by go_num, HN.out, HB2.out⟩
        case measure => simp [intOf]; omega
      · have HN := Lib.hid (HS3.out e1 e2 e3)
        have HB2 := Lib.hid (HB.out.other (p := ⟨wb, 2, none⟩) (by simp; omega) hne (.int .i64 (r + 1)))
        clear e1 e2 e3 HS1 HS2 HS3
        go_wp2
        go_roundw
        case rel => exact ⟨k + 1, by omega, by go_num, HN.out, HB2.out⟩
        case measure => simp [intOf]; omega
    · go_wp2
      go_ret2
      obtain rfl : k = m := by omega
      exact ⟨wb, rfl, by omega, HR.out⟩
set_option maxRecDepth 100000 in
set_option maxHeartbeats 2000000 in
theorem countsOf_is (a' : Option Addr) (c' : Nat) (ys : List Int) (hl : ys.length ≤ 1048576) (hm1 : ∀ y, y ∈ ys → -1 ≤ y ∧ y ≤ 1) (w : World) (hs : Sl w a' (ys.map intV)) :
    Calls Try.prog 49 #[.slice a' ys.length c'] w fun e w' => e = .returned (.agg (cntC ys ys.length)) ∧ Below w.heap.size w w' := by
  have HT := Lib.hid (fun k => cnt_round hm1 k)
  have HM := Lib.hid (fun k => cnt_lim k hl)
  have H2 := Lib.hid hs
  obtain ⟨m, hm⟩ : ∃ m, ys.length = m := ⟨_, rfl⟩
  rw [hm] at hl HT ⊢
  have R0 := (Box.new w #[.int .i64 0, .int .i64 0, .int .i64 0] 68).alloc (.cells #[.int .i64 0, .int .i64 0, .int .i64 0] 68)
  have O0 := (Box.new (w.alloc (.cells #[.int .i64 0, .int .i64 0, .int .i64 0] 68)) #[.int .i64 0, .int .i64 0, .int .i64 0] 68).up ((Below.refl w.heap.size w).alloc (Nat.le_refl _) _)
  rw [show (w.alloc (.cells #[.int .i64 0, .int .i64 0, .int .i64 0] 68)).heap.size = w.heap.size + 1 by simp] at O0
  have HB : Hid (Box w w.heap.size #[.int .i64 0, .int .i64 0, .int .i64 0] 68 ((w.alloc (.cells #[.int .i64 0, .int .i64 0, .int .i64 0] 68)).alloc (.cells #[.int .i64 0, .int .i64 0, .int .i64 0] 68))) := R0
  have HR : Hid (Box w (w.heap.size + 1) (cntC ys 0) 68 ((w.alloc (.cells #[.int .i64 0, .int .i64 0, .int .i64 0] 68)).alloc (.cells #[.int .i64 0, .int .i64 0, .int .i64 0] 68))) := O0
  clear hs hm1 R0 O0 hm
  go_enter Try.func49, Try.ntmps49
  go_wp2
  go_loopw [5, 8, 17, 23] (fun _ i _ _ wr => ∃ k : Nat, k ≤ m ∧ i = .int .i64 k ∧ Hid (Box w w.heap.size #[.int .i64 0, .int .i64 0, .int .i64 0] 68 wr) ∧ Hid (Box w (w.heap.size + 1) (cntC ys k) 68 wr)) (fun _ i _ _ _ => (m - intOf i).toNat)
  case atStart => exact ⟨0, by omega, rfl, HB.out, HR.out⟩
  case round =>
    obtain ⟨k, hk, rfl, HB, HR⟩ := hrel
    have R := HR.out
    by_cases hlt : k < m
    · obtain ⟨y, hyk, hy⟩ := HT.out k hlt
      obtain ⟨b', off', rfl, hc'⟩ := (H2.out.step HB.out.old).at hyk
      obtain ⟨HS1, HS2, HS3⟩ := cnt_step k R (by omega) _ _ _ rfl rfl rfl
      replace HS1 := Lib.hid HS1
      replace HS2 := Lib.hid HS2
      replace HS3 := Lib.hid HS3
      have m1 := HM.out k 1
      have m2 := HM.out k (-1)
      have m3 := HM.out k 0
      have c0 := R.cell 0 (.int .i64 (cnt 1 (ys.take k))) rfl
      have c1 := R.cell 1 (.int .i64 (cnt (-1) (ys.take k))) rfl
      have c2 := R.cell 2 (.int .i64 (cnt 0 (ys.take k))) rfl
      have f0 := R.frozen 0
      have f1 := R.frozen 1
      have f2 := R.frozen 2
      have hlw := R.lt
      clear hyk R
      obtain ⟨p, hp⟩ : ∃ p, cnt 1 (ys.take k) = p := ⟨_, rfl⟩
      obtain ⟨q, hq⟩ : ∃ q, cnt (-1) (ys.take k) = q := ⟨_, rfl⟩
      obtain ⟨r, hr⟩ : ∃ r, cnt 0 (ys.take k) = r := ⟨_, rfl⟩
      rw [hp] at HS1 HS2 HS3 m1 hy c0
      rw [hq] at HS1 HS2 HS3 m2 hy c1
      rw [hr] at HS1 HS2 HS3 m3 hy c2
      have HP := Lib.hid hp
      have HQ := Lib.hid hq
      have HRR := Lib.hid hr
      clear hp hq hr
      rcases hy with ⟨rfl, e1, e2, e3⟩ | ⟨rfl, e1, e2, e3⟩ | ⟨rfl, e1, e2, e3⟩
      · have HN := Lib.hid (HS1.out e1 e2 e3)
        have HB2 := Lib.hid (HB.out.other (p := ⟨w.heap.size + 1, 0, none⟩) (by simp) (by simp) (.int .i64 (p + 1)))
        clear e1 e2 e3 HS1 HS2 HS3
        go_wp2
        go_roundw
        case rel => exact ⟨k + 1, by omega, by go_num, HB2.out, HN.out⟩
        case measure => simp [intOf]; omega
      · have HN := Lib.hid (HS2.out e1 e2 e3)
        have HB2 := Lib.hid (HB.out.other (p := ⟨w.heap.size + 1, 1, none⟩) (by simp) (by simp) (.int .i64 (q + 1)))
        clear e1 e2 e3 HS1 HS2 HS3
        go_wp2
        go_roundw
        case rel => exact ⟨k + 1, by omega, by go_num, HB2.out, HN.out⟩
        case measure => simp [intOf]; omega
      · have HN := Lib.hid (HS3.out e1 e2 e3)
        have HB2 := Lib.hid (HB.out.other (p := ⟨w.heap.size + 1, 2, none⟩) (by simp) (by simp) (.int .i64 (r + 1)))
        clear e1 e2 e3 HS1 HS2 HS3
        go_wp2
        go_roundw
        case rel => exact ⟨k + 1, by omega, by go_num, HB2.out, HN.out⟩
        case measure => simp [intOf]; omega
    · obtain rfl : k = m := by omega
      have B := HB.out
      have c0 := R.cell 0 (.int .i64 (cnt 1 (ys.take k))) rfl
      have c1 := R.cell 1 (.int .i64 (cnt (-1) (ys.take k))) rfl
      have c2 := R.cell 2 (.int .i64 (cnt 0 (ys.take k))) rfl
      have d0 := B.cell 0 (.int .i64 0) rfl
      have d1 := B.cell 1 (.int .i64 0) rfl
      have d2 := B.cell 2 (.int .i64 0) rfl
      have f0 := B.frozen 0
      have f1 := B.frozen 1
      have f2 := B.frozen 2
      have hbl := B.lt
      have HD := Lib.hid (((B.old.setCell (p := ⟨w.heap.size, 0, none⟩) (Nat.le_refl _) (.int .i64 (cnt 1 (ys.take k)))).setCell (p := ⟨w.heap.size, 1, none⟩) (Nat.le_refl _) (.int .i64 (cnt (-1) (ys.take k)))).setCell (p := ⟨w.heap.size, 2, none⟩) (Nat.le_refl _) (.int .i64 (cnt 0 (ys.take k))))
      clear R B
      go_wp2
      exact bodyPost_ret (v := .agg (cntC ys k)) (by simp [results, Try.f49, go_sem, cntC, d0, d1, d2]) rfl ⟨rfl, HD.out⟩
set_option maxRecDepth 100000 in
set_option maxHeartbeats 2000000 in
theorem implCounts_good (cx cy : Nat) (deep size : Int) (hx : cx < 4294967296) (hy : cy < 4294967296) (hp : placeB cx cy deep size = true) (a a' : Option Addr) (n c c' : Nat) (ys : List Int) (hl : ys.length ≤ 1048576) (w : World) (hs : Sl w a' (ys.map intV)) (hw : wellB size n ys = true) :
    Calls Try.prog 21 #[.agg #[.complex .f32 cx cy, .int .i64 deep, .int .i64 size, .slice a n c, .slice a' ys.length c']] w fun e w' => ∃ b, e = .returned (.tuple #[.slice (some ⟨b, 0, none⟩) 3 3, .bool true]) ∧ w.heap.size ≤ b ∧ Box w b (cntC ys ys.length) 3 w' := by
  obtain ⟨g1, g2, g3⟩ := wellB_all hw
  have B := Box.new w #[.complex .f32 cx cy, .int .i64 deep, .int .i64 size, .slice a n c, .slice a' ys.length c'] 35
  have HW := Lib.hid (implWell_is cx cy deep size hx hy hp a a' n c c' ys hl _ (hs.alloc (.cells #[.complex .f32 cx cy, .int .i64 deep, .int .i64 size, .slice a n c, .slice a' ys.length c'] 35)))
  rw [hw] at HW
  have HC : Hid (∀ W, Below w.heap.size w W → Calls Try.prog 49 #[.slice a' ys.length c'] W fun e w' => e = .returned (.agg (cntC ys ys.length)) ∧ Below W.heap.size W w') := fun W hW => countsOf_is a' c' ys hl g3 W (hs.step hW)
  have HM := fun v => cnt_lim ys.length hl v
  obtain ⟨m, hm⟩ : ∃ m, ys.length = m := ⟨_, rfl⟩
  rw [hm] at HW B hl HC HM ⊢
  have m1 := HM 1
  have m2 := HM (-1)
  have m3 := HM 0
  clear hp hs hw hm g1 g2 g3 HM
  go_enter Try.func21, Try.ntmps21
  go_wp2_with fail
  refine HW.out.mono ?_
  rintro e w1 ⟨rfl, hd⟩
  replace B := B.step hd
  have b4 := B.cell 4 _ rfl
  have HB := Lib.hid B
  clear hd HW B
  go_wp2_with fail
  refine (HC.out _ HB.out.old).mono ?_
  rintro e w2 ⟨rfl, hd⟩
  have B := HB.out.step hd
  have hsz := B.old.size
  have hbw := B.lt
  have HD := Lib.hid B.old
  clear hd B HB b4
  obtain ⟨p, q, r, HX, p1, q1, r1⟩ : ∃ p q r : Nat, Hid (cntC ys m = #[.int .i64 p, .int .i64 q, .int .i64 r]) ∧ (p : Int) ≤ 1048576 ∧ (q : Int) ≤ 1048576 ∧ (r : Int) ≤ 1048576 := ⟨_, _, _, rfl, m1, m2, m3⟩
  have R := (Box.new (w2.alloc (.cells #[.int .i64 p, .int .i64 q, .int .i64 r] 68)) #[.int .i64 p, .int .i64 q, .int .i64 r] 3).up (HD.out.alloc hsz (.cells #[.int .i64 p, .int .i64 q, .int .i64 r] 68))
  rw [show (w2.alloc (.cells #[.int .i64 p, .int .i64 q, .int .i64 r] 68)).heap.size = w2.heap.size + 1 by simp] at R
  have HR := Lib.hid R
  clear m1 m2 m3 R
  rw [HX.out]
  go_wp2
  go_ret2
  exact ⟨w2.heap.size + 1, rfl, by omega, by rw [HX.out]; exact HR.out⟩
end Go.Proofs.Ytdfoobemgdiobaa
