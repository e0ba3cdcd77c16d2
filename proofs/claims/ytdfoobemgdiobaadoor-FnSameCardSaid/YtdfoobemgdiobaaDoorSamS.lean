/- Walks: the reference's text of a tile. -/
import Derived.Test.YtdfoobemgdiobaaDoorSamP
import Derived.Test.YtdfoobemgdiobaaDoorWordW
import Derived.Test.YtdfoobemgdiobaaDoorTilS
import Derived.Deep.RegionHeld3
import Derived.Deep.Cut
import Derived.Deep.CutRange
namespace Go.Proofs.YtdfoobemgdiobaaDoor
open Go.RowKit Flo

set_option maxRecDepth 100000 in
set_option maxHeartbeats 1000000 in
theorem specText_bad (cx cy : Nat) (deep size : Int) (hx : cx < 4294967296) (hy : cy < 4294967296) (hp : placeB cx cy deep size = true) (a a' : Option Addr) (n c c' : Nat) (ys : List Int) (hl : ys.length ≤ 1048576) (w : World) (hs : Sl w a' (ys.map intV)) (hw : wellB size n ys = false) :
    Calls Tryd.prog 33 #[.agg #[.complex .f32 cx cy, .int .i64 deep, .int .i64 size, .slice a n c, .slice a' ys.length c']] w fun e w' => e = .returned (.tuple #[.string ⟨#[]⟩, .bool false]) ∧ Below w.heap.size w w' := by
  have B := Box.new w #[.complex .f32 cx cy, .int .i64 deep, .int .i64 size, .slice a n c, .slice a' ys.length c'] 27
  have HW := Lib.hid (specSum_bad cx cy deep size hx hy hp a a' n c c' ys hl _ (hs.alloc (.cells #[.complex .f32 cx cy, .int .i64 deep, .int .i64 size, .slice a n c, .slice a' ys.length c'] 27)) hw)
  clear hp hs hw
  go_enter Tryd.func33, Tryd.ntmps33
  go_wp2_with fail
  with_reducible refine HW.out.mono ?_
  rintro e w1 ⟨rfl, hd⟩
  have HB := Lib.hid (B.step hd).old
  clear hd HW B
  go_wp2
  go_ret2
  exact ⟨rfl, HB.out⟩
set_option maxRecDepth 100000 in
set_option maxHeartbeats 1000000 in
theorem specText_good (cx cy d s : Nat) (hx : cx < 4294967296) (hy : cy < 4294967296) (hp : placeB cx cy d s = true) (a a' : Option Addr) (c c' : Nat) (xs : List Nat) (ys : List Int) (hl : ys.length ≤ 1048576) (hxx : ∀ x, x ∈ xs → x < 4294967296) (w : World) (hs : Sl w a (xs.map floV)) (hs' : Sl w a' (ys.map intV)) (hw : wellB s xs.length ys = true) :
    Calls Tryd.prog 33 #[.agg #[.complex .f32 cx cy, .int .i64 d, .int .i64 s, .slice a xs.length c, .slice a' ys.length c']] w fun e w' => e = .returned (.tuple #[.string ⟨(textT cx cy d s xs ys (sum0 xs ys)).toArray⟩, .bool true]) ∧ Below w.heap.size w w' := by
  obtain ⟨p1, p2, p3, p4⟩ := placeB_bd hp
  have B := Box.new w #[.complex .f32 cx cy, .int .i64 d, .int .i64 s, .slice a xs.length c, .slice a' ys.length c'] 27
  have HW := Lib.hid (specSum_good cx cy d s hx hy hp a a' c c' xs ys hl hxx _ (hs.alloc (.cells #[.complex .f32 cx cy, .int .i64 d, .int .i64 s, .slice a xs.length c, .slice a' ys.length c'] 27)) (hs'.alloc (.cells #[.complex .f32 cx cy, .int .i64 d, .int .i64 s, .slice a xs.length c, .slice a' ys.length c'] 27)) hw)
  have w1' := fun w => specWordOf_any cx hx w
  have w2' := fun w => specWordOf_any cy hy w
  have d1' := fun w => l6Dec_small d (by omega) w
  have d2' := fun w => l6Dec_small s (by omega) w
  obtain ⟨X1, hX1⟩ : ∃ X : ByteArray, ⟨(wordL cx).toArray⟩ = X := ⟨_, rfl⟩
  obtain ⟨X2, hX2⟩ : ∃ X : ByteArray, ⟨(wordL cy).toArray⟩ = X := ⟨_, rfl⟩
  obtain ⟨X3, hX3⟩ : ∃ X : ByteArray, decS d = X := ⟨_, rfl⟩
  obtain ⟨X4, hX4⟩ : ∃ X : ByteArray, decS s = X := ⟨_, rfl⟩
  rw [hX1] at w1'
  rw [hX2] at w2'
  rw [hX3] at d1'
  rw [hX4] at d2'
  have z1 : X1.size = 8 := by rw [← hX1]; exact wordL_length cx
  have z2 : X2.size = 8 := by rw [← hX2]; exact wordL_length cy
  have HZ : Hid (X3.size = 1 ∨ X3.size = 2) := by show _ ∨ _; rw [← hX3]; exact decS_two d
  have z4 : X4.size = 1 := by rw [← hX4]; exact decS_one (by omega)
  have W1 := Lib.hid w1'
  have W2 := Lib.hid w2'
  have D1 := Lib.hid d1'
  have D2 := Lib.hid d2'
  have HXS := Lib.hid (And.intro hX1 (And.intro hX2 (And.intro hX3 hX4)))
  clear w1' w2' d1' d2' hX1 hX2 hX3 hX4
  have HB := Lib.hid B
  obtain ⟨g1, g2, g3⟩ := wellB_all hw
  have HT := Lib.hid (fun k => sum_at (k := k) (m := xs.length) rfl g2 hxx g3)
  have H1 := Lib.hid hs
  have H2 := Lib.hid hs'
  have hL1 : xs.length ≤ 64 := by
    have h8 : (s : Int) * s ≤ 8 * 8 := Int.mul_le_mul (by omega) (by omega) (by omega) (by omega)
    omega
  have HL2 := Lib.hid g2
  clear hp hs hs' hw B g1 g2 g3
  go_enter Tryd.func33, Tryd.ntmps33
  go_wp2_with fail
  with_reducible refine HW.out.mono ?_
  rintro e w1 ⟨rfl, hd⟩
  have HB1 := Lib.hid (HB.out.step hd)
  clear hd HW HB
  obtain ⟨b0, b1, b2, b3, b4⟩ := HB1.out.cells5
  go_upto_region 4 with fail
  have HBd := Lib.hid (HB1.out.step ((Drw.refl _).drew.below _))
  have HS : Hid (∀ W, Box w w.heap.size #[.complex .f32 cx cy, .int .i64 d, .int .i64 s, .slice a xs.length c, .slice a' ys.length c'] 27 W → W.cell? ⟨w.heap.size, 0, none⟩ = some (.complex .f32 cx cy) ∧ W.cell? ⟨w.heap.size, 1, none⟩ = some (.int .i64 d) ∧ W.cell? ⟨w.heap.size, 2, none⟩ = some (.int .i64 s)) := fun W h => ⟨h.cells5.1, h.cells5.2.1, h.cells5.2.2.1⟩
  go_cut [6] from 16 to 36 (fun o wx => o = .string (⟨#[116, 105, 108, 101, 32]⟩ ++ X1 ++ ⟨#[32]⟩ ++ X2 ++ ⟨#[32]⟩ ++ X3 ++ ⟨#[32]⟩ ++ X4) ∧ Hid (Box w w.heap.size #[.complex .f32 cx cy, .int .i64 d, .int .i64 s, .slice a xs.length c, .slice a' ys.length c'] 27 wx))
  case first =>
    rcases HZ.out with z3 | z3
    · go_region_held3 (fun w' => w'.cell? ⟨w.heap.size, 0, none⟩ = some (.complex .f32 cx cy) ∧ w'.cell? ⟨w.heap.size, 1, none⟩ = some (.int .i64 d) ∧ w'.cell? ⟨w.heap.size, 2, none⟩ = some (.int .i64 s)) (((first | dsimp only | skip); first | (with_reducible exact HS.out _ HBd.out) | (with_reducible exact HS.out _ HB5.out) | (with_reducible exact HS.out _ HB6.out))) (first
      | (with_reducible refine (W1.out _).mono ?_; rintro e w4 ⟨rfl, rfl⟩)
      | (with_reducible refine (W2.out _).mono ?_; rintro e w4 ⟨rfl, rfl⟩)
      | (with_reducible refine (D1.out _).mono ?_; rintro e w5 ⟨rfl, hd⟩; have HB5 := Lib.hid (HBd.out.step hd); clear hd)
      | (with_reducible refine (D2.out _).mono ?_; rintro e w6 ⟨rfl, hd⟩; have HB6 := Lib.hid (HB5.out.step hd); clear hd))
      all_goals
        go_wp2_with fail
        go_meet
        exact ⟨rfl, HB6⟩
    · go_region_held3 (fun w' => w'.cell? ⟨w.heap.size, 0, none⟩ = some (.complex .f32 cx cy) ∧ w'.cell? ⟨w.heap.size, 1, none⟩ = some (.int .i64 d) ∧ w'.cell? ⟨w.heap.size, 2, none⟩ = some (.int .i64 s)) (((first | dsimp only | skip); first | (with_reducible exact HS.out _ HBd.out) | (with_reducible exact HS.out _ HB5.out) | (with_reducible exact HS.out _ HB6.out))) (first
      | (with_reducible refine (W1.out _).mono ?_; rintro e w4 ⟨rfl, rfl⟩)
      | (with_reducible refine (W2.out _).mono ?_; rintro e w4 ⟨rfl, rfl⟩)
      | (with_reducible refine (D1.out _).mono ?_; rintro e w5 ⟨rfl, hd⟩; have HB5 := Lib.hid (HBd.out.step hd); clear hd)
      | (with_reducible refine (D2.out _).mono ?_; rintro e w6 ⟨rfl, hd⟩; have HB6 := Lib.hid (HB5.out.step hd); clear hd))
      all_goals
        go_wp2_with fail
        go_meet
        exact ⟨rfl, HB6⟩
  case rest =>
    obtain ⟨rfl, HB7⟩ := hcut
    have HE0 : Hid ((⟨#[116, 105, 108, 101, 32]⟩ ++ X1 ++ ⟨#[32]⟩ ++ X2 ++ ⟨#[32]⟩ ++ X3 ++ ⟨#[32]⟩ ++ X4 : ByteArray).data.toList = headT cx cy d s ++ cellsT xs ys 0) := by
      show _ = _
      obtain ⟨e1, e2, e3, e4⟩ := HXS.out
      rw [← e1, ← e2, ← e3, ← e4, cellsT_zero, headT]
      simp [ByteArray.data_append]
    generalize (⟨#[116, 105, 108, 101, 32]⟩ ++ X1 ++ ⟨#[32]⟩ ++ X2 ++ ⟨#[32]⟩ ++ X3 ++ ⟨#[32]⟩ ++ X4 : ByteArray) = O0 at *
    clear HXS HZ z1 z2 z4 b0 b1 b2 b3 b4 HS HBd HB1 W1 W2 D1 D2
    have hsm := sumL_lt (xs := xs) (ys := ys) (h := 2166136261) (by decide)
    have HSW := Lib.hid (fun w => l9Word_any (sum0 xs ys) hsm w)
    have HSM := Lib.hid hsm
    have Hhead : Hid ((headT cx cy d s).length ≤ 100) := by
      show _ ≤ _
      have e1 := decS_size d
      have e2 := decS_size s
      unfold headT
      simp only [List.length_append, wordL_length, List.length_cons, List.length_nil]
      have e3 : (decS d).data.toList.length ≤ 2 := by rw [len_eq]; exact e1
      have e4 : (decS s).data.toList.length ≤ 2 := by rw [len_eq]; exact e2
      omega
    obtain ⟨b0, b1, b2, b3, b4⟩ := HB7.out.cells5
    clear hsm
    go_wp2
    go_loopw [6, 7, 8] (fun o i _ wr => ∃ k : Nat, k ≤ xs.length ∧ i = .int .i64 k ∧ (∃ O : ByteArray, o = .string O ∧ O.data.toList = headT cx cy d s ++ cellsT xs ys k) ∧ Drw wc wr) (fun _ i _ _ => (xs.length - intOf i).toNat)
    case atStart => exact ⟨0, Nat.zero_le _, rfl, ⟨_, rfl, HE0.out⟩, Drw.refl _⟩
    case round =>
      obtain ⟨k, hk, rfl, ⟨O, rfl, hO⟩, hd⟩ := hrel
      have HO := Lib.hid hO
      have h1 := H1.out.step HB7.out.old
      have h2 := H2.out.step HB7.out.old
      have hOs : O.size ≤ 1000 := by
        have e := congrArg List.length hO
        rw [len_eq, List.length_append, cellsT_len xs ys k hk (by rw [HL2.out]; exact hk)] at e
        have := Hhead.out
        omega
      clear hO
      by_cases hlt : k < xs.length
      · obtain ⟨x, y, hxk, hyk, x1, y1, y2, -, -⟩ := HT.out k hlt
        have HX : Hid (cellsT xs ys (k + 1) = cellsT xs ys k ++ 32 :: (wordL x ++ [sgnC y])) := by
          show _ = _
          have hk2 : k < ys.length := by rw [HL2.out]; exact hlt
          rw [cellsT_snoc xs ys k hlt hk2]
          rw [List.getElem?_map, List.getElem?_eq_getElem hlt] at hxk
          rw [List.getElem?_map, List.getElem?_eq_getElem hk2] at hyk
          simp only [Option.map_some, floV, intV, Option.some.injEq, Value.float.injEq, Value.int.injEq, true_and] at hxk hyk
          rw [hxk, hyk]
        have HWX := Lib.hid (fun w => specWordOf_any x x1 w)
        obtain ⟨X, hX⟩ : ∃ X : ByteArray, ⟨(wordL x).toArray⟩ = X := ⟨_, rfl⟩
        have zX : X.size = 8 := by rw [← hX]; exact wordL_length x
        rw [hX] at HWX
        have HXX := Lib.hid hX
        obtain ⟨bx, ox, rfl, hcx⟩ := (h1.drw hd).at hxk
        obtain ⟨bm, om, rfl, hcm⟩ := (h2.drw hd).at hyk
        have c3 := (hd.cell ⟨w.heap.size, 3, none⟩).trans b3
        have c4 := (hd.cell ⟨w.heap.size, 4, none⟩).trans b4
        have hyl : k < ys.length := by rw [HL2.out]; exact hlt
        clear hX hxk hyk h1 h2 b0 b1 b2 b3 b4
        rcases (by omega : y = -1 ∨ y = 0 ∨ y = 1) with rfl | rfl | rfl
        all_goals
          go_wp2
          go_quiet ((go_at_call 53; exact quiet_eq (HWX.out _)))
          go_wp2
          go_roundw
        case measure => simp [intOf]; omega
        case rel => exact ⟨k + 1, by omega, by go_num, ⟨_, rfl, by rw [HX.out]; exact text_step HO.out HXX.out (by decide)⟩, hd.drewN _⟩
        case measure => simp [intOf]; omega
        case rel => exact ⟨k + 1, by omega, by go_num, ⟨_, rfl, by rw [HX.out]; exact text_step HO.out HXX.out (by decide)⟩, hd.drewN _⟩
        case measure => simp [intOf]; omega
        case rel => exact ⟨k + 1, by omega, by go_num, ⟨_, rfl, by rw [HX.out]; exact text_step HO.out HXX.out (by decide)⟩, hd.drewN _⟩
      · have hke : k = xs.length := by omega
        have HK := Lib.hid hke
        have HB8 := Lib.hid (HB7.out.step (hd.below _)).old
        have hwl : (⟨(wordL (sum0 xs ys)).toArray⟩ : ByteArray).size = 8 := wordL_length _
        have c3 := (hd.cell ⟨w.heap.size, 3, none⟩).trans b3
        obtain ⟨X, hX⟩ : ∃ X : ByteArray, ⟨(wordL (sum0 xs ys)).toArray⟩ = X := ⟨_, rfl⟩
        have HE : Hid (O ++ ⟨#[32]⟩ ++ X = ⟨(textT cx cy d s xs ys (sum0 xs ys)).toArray⟩) := by
          show _ = _
          rw [← hX]
          exact text_last HO.out hke
        rw [hX] at HSW hwl
        clear h1 h2 b0 b1 b2 b3 b4 hX hke
        go_wp2_with fail
        with_reducible refine (HSW.out _).mono ?_
        rintro e w9 ⟨rfl, rfl⟩
        go_wp2
        go_ret2
        exact ⟨by rw [HE.out]; rfl, HB8.out⟩
end Go.Proofs.YtdfoobemgdiobaaDoor
