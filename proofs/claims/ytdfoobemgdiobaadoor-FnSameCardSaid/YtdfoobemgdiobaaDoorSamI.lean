/- Walks: the program's text of a tile. -/
import Derived.Test.YtdfoobemgdiobaaDoorSamP
import Derived.Test.YtdfoobemgdiobaaDoorWordW
import Derived.Test.YtdfoobemgdiobaaDoorTilS
import Derived.Test.YtdfoobemgdiobaaDoorBldS
import Derived.Deep.RegionHeld3
import Derived.Deep.Cut
namespace Go.Proofs.YtdfoobemgdiobaaDoor
open Go.RowKit Flo

theorem Bld.step {B b : Nat} {l : List UInt8} {W W' : World} (h : Bld B b l W) (k : Below W.heap.size W W') : Bld B b l W' := by
  have one : ∀ p, Lib.BuilderAtF 84 5 B b p (Lib.byteCells l) W → Lib.BuilderAtF 84 5 B b p (Lib.byteCells l) W' := by
    rintro p ⟨hB, v, hb, ⟨hl, hrow⟩, hne⟩
    refine ⟨hB, v, (k.block _ (Array.getElem?_eq_some_iff.1 hb).1).trans hb, ⟨hl, ?_⟩, hne⟩
    rcases hrow with h | ⟨g, cap, cur, fz, h1, h2, h3, h4⟩
    · exact .inl h
    · exact .inr ⟨g, cap, cur, fz, h1, h2, (k.block _ (Array.getElem?_eq_some_iff.1 h3).1).trans h3, h4⟩
  exact h.elim (fun x => .inl (one _ x)) (fun x => .inr (one _ x))
/-- a tile's box and a builder behind it -/
def TxtI (w : World) (bb : Nat) (C : Array Value) (l : List UInt8) (W : World) : Prop := Box w w.heap.size C 27 W ∧ Bld bb bb l W ∧ bb ≤ W.heap.size ∧ w.heap.size < bb
theorem TxtI.step {w : World} {bb : Nat} {C : Array Value} {l : List UInt8} {W W' : World} (h : TxtI w bb C l W) (k : Below W.heap.size W W') : TxtI w bb C l W' :=
  ⟨h.1.step k, h.2.1.step k, Nat.le_trans h.2.2.1 k.size, h.2.2.2⟩
theorem TxtI.keep {w : World} {bb : Nat} {C : Array Value} {l l' : List UInt8} {W W' : World} (h : TxtI w bb C l W) (h2 : Bld bb bb l' W') (k : BKeep bb bb W W') : TxtI w bb C l' W' :=
  ⟨h.1.bkeep k (by have := h.2.2.2; omega) (by decide) (by have := h.2.2.2; omega), h2, Nat.le_trans h.2.2.1 k.below.size, h.2.2.2⟩
theorem wrS {w : World} {bb : Nat} {C : Array Value} {l : List UInt8} {W : World} (h : TxtI w bb C l W) (s : ByteArray) (hl : l.length + s.size ≤ 100000) :
    Calls Tryd.prog 46 #[.pointer (some ⟨bb, 0, none⟩), .string s] W fun e w' => e = .returned (.tuple #[.int .i64 s.size, .nilIface]) ∧ TxtI w bb C (l ++ s.data.toList) w' :=
  (WriteString_bld bb bb l s W h.2.1 (by omega) h.2.2.1).mono fun _ _ ⟨h1, h2, h3⟩ => ⟨h1, h.keep h2 h3⟩
theorem wrB {w : World} {bb : Nat} {C : Array Value} {l : List UInt8} {W : World} (h : TxtI w bb C l W) (c : UInt8) (k : Int) (hk : k = c.toNat) (hl : l.length ≤ 100000) :
    Calls Tryd.prog 48 #[.pointer (some ⟨bb, 0, none⟩), .int .u8 k] W fun e w' => e = .returned .nilIface ∧ TxtI w bb C (l ++ [c]) w' := by
  subst hk
  exact (WriteByte_any bb bb l c W h.2.1 (by omega) h.2.2.1).mono fun _ _ ⟨h1, h2, h3⟩ => ⟨h1, h.keep h2 h3⟩
theorem wrE {w : World} {bb : Nat} {C : Array Value} {l : List UInt8} {W : World} (h : TxtI w bb C l W) :
    Calls Tryd.prog 51 #[.pointer (some ⟨bb, 0, none⟩)] W fun e w' => e = .returned (.string ⟨l.toArray⟩) ∧ Below w.heap.size w w' :=
  (String_any bb bb l W h.2.1 h.2.2.1).mono fun _ _ ⟨h1, h3⟩ => ⟨h1, h.1.old.trans (h3.below.mono (Nat.le_of_lt h.2.2.2))⟩
theorem wrW {w : World} {bb : Nat} {C : Array Value} {l : List UInt8} {W : World} (h : TxtI w bb C l W) (x : Nat) (hx : x < 4294967296) :
    Calls Tryd.prog 47 #[.float .f32 x] W fun e w' => e = .returned (.string ⟨(wordL x).toArray⟩) ∧ TxtI w bb C l w' :=
  (implWordOf_any x hx W).mono fun _ _ ⟨h1, h2⟩ => ⟨h1, h.step h2⟩
theorem wrU {w : World} {bb : Nat} {C : Array Value} {l : List UInt8} {W : World} (h : TxtI w bb C l W) (x : Nat) (hx : x < 4294967296) :
    Calls Tryd.prog 50 #[.int .u32 x] W fun e w' => e = .returned (.string ⟨(wordL x).toArray⟩) ∧ TxtI w bb C l w' :=
  (wordOfBits_any x hx W).mono fun _ _ ⟨h1, h2⟩ => ⟨h1, h.step h2⟩
theorem wrI {w : World} {bb : Nat} {C : Array Value} {l : List UInt8} {W : World} (h : TxtI w bb C l W) (n : Nat) (hn : n ≤ 10) :
    Calls Tryd.prog 49 #[.int .i64 n] W fun e w' => e = .returned (.string (decS n)) ∧ TxtI w bb C l w' :=
  (itoa_small n hn W).mono fun _ _ ⟨h1, h2⟩ => ⟨h1, h2 ▸ h⟩
set_option maxRecDepth 100000 in
set_option maxHeartbeats 1000000 in
theorem implText_bad (cx cy : Nat) (deep size : Int) (hx : cx < 4294967296) (hy : cy < 4294967296) (hp : placeB cx cy deep size = true) (a a' : Option Addr) (n c c' : Nat) (ys : List Int) (hl : ys.length ≤ 1048576) (w : World) (hs : Sl w a' (ys.map intV)) (hw : wellB size n ys = false) :
    Calls Tryd.prog 32 #[.agg #[.complex .f32 cx cy, .int .i64 deep, .int .i64 size, .slice a n c, .slice a' ys.length c']] w fun e w' => e = .returned (.tuple #[.string ⟨#[]⟩, .bool false]) ∧ Below w.heap.size w w' := by
  have B := Box.new w #[.complex .f32 cx cy, .int .i64 deep, .int .i64 size, .slice a n c, .slice a' ys.length c'] 27
  have HW := Lib.hid (implSum_bad cx cy deep size hx hy hp a a' n c c' ys hl _ (hs.alloc (.cells #[.complex .f32 cx cy, .int .i64 deep, .int .i64 size, .slice a n c, .slice a' ys.length c'] 27)) hw)
  clear hp hs hw
  go_enter Tryd.func32, Tryd.ntmps32
  go_wp2_with fail
  with_reducible refine HW.out.mono ?_
  rintro e w1 ⟨rfl, hd⟩
  have HB := Lib.hid (B.step hd).old
  clear hd HW B
  go_wp2
  go_ret2
  exact ⟨rfl, HB.out⟩
set_option maxRecDepth 100000 in
set_option maxHeartbeats 1000000 in
theorem implText_good (cx cy d s : Nat) (hx : cx < 4294967296) (hy : cy < 4294967296) (hp : placeB cx cy d s = true) (a a' : Option Addr) (c c' : Nat) (xs : List Nat) (ys : List Int) (hl : ys.length ≤ 1048576) (hxx : ∀ x, x ∈ xs → x < 4294967296) (w : World) (hs : Sl w a (xs.map floV)) (hs' : Sl w a' (ys.map intV)) (hw : wellB s xs.length ys = true) :
    Calls Tryd.prog 32 #[.agg #[.complex .f32 cx cy, .int .i64 d, .int .i64 s, .slice a xs.length c, .slice a' ys.length c']] w fun e w' => e = .returned (.tuple #[.string ⟨(textT cx cy d s xs ys (sum0 xs ys)).toArray⟩, .bool true]) ∧ Below w.heap.size w w' := by
  obtain ⟨p1, p2, p3, p4⟩ := placeB_bd hp
  have B := Box.new w #[.complex .f32 cx cy, .int .i64 d, .int .i64 s, .slice a xs.length c, .slice a' ys.length c'] 27
  have HW := Lib.hid (implSum_good cx cy d s hx hy hp a a' c c' xs ys hl hxx _ (hs.alloc (.cells #[.complex .f32 cx cy, .int .i64 d, .int .i64 s, .slice a xs.length c, .slice a' ys.length c'] 27)) (hs'.alloc (.cells #[.complex .f32 cx cy, .int .i64 d, .int .i64 s, .slice a xs.length c, .slice a' ys.length c'] 27)) hw)
  have W1 := Lib.hid (fun w => implWordOf_any cx hx w)
  have W2 := Lib.hid (fun w => implWordOf_any cy hy w)
  have D1 := Lib.hid (fun w => itoa_small d (by omega) w)
  have D2 := Lib.hid (fun w => itoa_small s (by omega) w)
  obtain ⟨g1, g2, g3⟩ := wellB_all hw
  have HT := Lib.hid (fun k => sum_at (k := k) (m := xs.length) rfl g2 hxx g3)
  have H1 := Lib.hid hs
  have H2 := Lib.hid hs'
  have hL1 : xs.length ≤ 64 := by
    have h8 : (s : Int) * s ≤ 8 * 8 := Int.mul_le_mul (by omega) (by omega) (by omega) (by omega)
    omega
  have HL2 := Lib.hid g2
  have HB := Lib.hid B
  clear hp hs hs' hw B g1 g2 g3
  go_enter Tryd.func32, Tryd.ntmps32
  go_wp2_with fail
  with_reducible refine HW.out.mono ?_
  rintro e w1 ⟨rfl, hd⟩
  have HB1 := Lib.hid (HB.out.step hd)
  clear hd HW HB
  have HX0 : Hid (TxtI w w1.heap.size #[.complex .f32 cx cy, .int .i64 d, .int .i64 s, .slice a xs.length c, .slice a' ys.length c'] [] (w1.alloc (.cells #[.pointer none, .slice none 0 0] 84))) := ⟨HB1.out.alloc _, Bld.new w1, by simp, HB1.out.lt⟩
  clear HB1
  obtain ⟨b0, b1, b2, b3, b4⟩ := HX0.out.1.cells5
  go_wp2_with fail
  generalize w1.heap.size = bb at *
  obtain ⟨X1, hX1⟩ : ∃ X : ByteArray, ⟨(wordL cx).toArray⟩ = X := ⟨_, rfl⟩
  obtain ⟨X2, hX2⟩ : ∃ X : ByteArray, ⟨(wordL cy).toArray⟩ = X := ⟨_, rfl⟩
  obtain ⟨X3, hX3⟩ : ∃ X : ByteArray, decS d = X := ⟨_, rfl⟩
  obtain ⟨X4, hX4⟩ : ∃ X : ByteArray, decS s = X := ⟨_, rfl⟩
  have Z1 : Hid (X1.size = 8 ∧ X2.size = 8 ∧ X3.size ≤ 2 ∧ X4.size ≤ 2) := by
    refine ⟨?_, ?_, ?_, ?_⟩
    · rw [← hX1]; exact wordL_length cx
    · rw [← hX2]; exact wordL_length cy
    · rw [← hX3]; exact decS_size d
    · rw [← hX4]; exact decS_size s
  have HXS := Lib.hid (And.intro hX1 (And.intro hX2 (And.intro hX3 hX4)))
  have HW1 := Lib.hid (fun l W (h : TxtI w bb #[.complex .f32 cx cy, .int .i64 d, .int .i64 s, .slice a xs.length c, .slice a' ys.length c'] l W) => hX1 ▸ wrW h cx hx)
  have HW2 := Lib.hid (fun l W (h : TxtI w bb #[.complex .f32 cx cy, .int .i64 d, .int .i64 s, .slice a xs.length c, .slice a' ys.length c'] l W) => hX2 ▸ wrW h cy hy)
  have HI1 := Lib.hid (fun l W (h : TxtI w bb #[.complex .f32 cx cy, .int .i64 d, .int .i64 s, .slice a xs.length c, .slice a' ys.length c'] l W) => hX3 ▸ wrI h d (by omega))
  have HI2 := Lib.hid (fun l W (h : TxtI w bb #[.complex .f32 cx cy, .int .i64 d, .int .i64 s, .slice a xs.length c, .slice a' ys.length c'] l W) => hX4 ▸ wrI h s (by omega))
  clear hX1 hX2 hX3 hX4 W1 W2 D1 D2

  with_reducible refine (wrS HX0.out _ ?hl).mono ?_
  case hl => have := Z1.out; first | (simp; omega) | decide
  rintro e v1 ⟨rfl, hx⟩
  have HX1 := Lib.hid hx
  clear hx HX0 b0 b1 b2 b3 b4
  obtain ⟨b0, b1, b2, b3, b4⟩ := HX1.out.1.cells5
  go_wp2_with fail
  with_reducible refine (HW1.out _ _ HX1.out).mono ?_
  rintro e v2 ⟨rfl, hx⟩
  have HX2 := Lib.hid hx
  clear hx HX1 b0 b1 b2 b3 b4
  obtain ⟨b0, b1, b2, b3, b4⟩ := HX2.out.1.cells5
  go_wp2_with fail
  with_reducible refine (wrS HX2.out X1 ?hl).mono ?_
  case hl => have := Z1.out; first | (simp; omega) | decide
  rintro e v3 ⟨rfl, hx⟩
  have HX3 := Lib.hid hx
  clear hx HX2 b0 b1 b2 b3 b4
  obtain ⟨b0, b1, b2, b3, b4⟩ := HX3.out.1.cells5
  go_wp2_with fail
  with_reducible refine (wrB HX3.out 32 32 rfl ?hl).mono ?_
  case hl => have := Z1.out; first | (simp; omega) | decide
  rintro e v4 ⟨rfl, hx⟩
  have HX4 := Lib.hid hx
  clear hx HX3 b0 b1 b2 b3 b4
  obtain ⟨b0, b1, b2, b3, b4⟩ := HX4.out.1.cells5
  go_wp2_with fail
  with_reducible refine (HW2.out _ _ HX4.out).mono ?_
  rintro e v5 ⟨rfl, hx⟩
  have HX5 := Lib.hid hx
  clear hx HX4 b0 b1 b2 b3 b4
  obtain ⟨b0, b1, b2, b3, b4⟩ := HX5.out.1.cells5
  go_wp2_with fail
  with_reducible refine (wrS HX5.out X2 ?hl).mono ?_
  case hl => have := Z1.out; first | (simp; omega) | decide
  rintro e v6 ⟨rfl, hx⟩
  have HX6 := Lib.hid hx
  clear hx HX5 b0 b1 b2 b3 b4
  obtain ⟨b0, b1, b2, b3, b4⟩ := HX6.out.1.cells5
  go_wp2_with fail
  with_reducible refine (wrB HX6.out 32 32 rfl ?hl).mono ?_
  case hl => have := Z1.out; first | (simp; omega) | decide
  rintro e v7 ⟨rfl, hx⟩
  have HX7 := Lib.hid hx
  clear hx HX6 b0 b1 b2 b3 b4
  obtain ⟨b0, b1, b2, b3, b4⟩ := HX7.out.1.cells5
  go_wp2_with fail
  with_reducible refine (HI1.out _ _ HX7.out).mono ?_
  rintro e v8 ⟨rfl, hx⟩
  have HX8 := Lib.hid hx
  clear hx HX7 b0 b1 b2 b3 b4
  obtain ⟨b0, b1, b2, b3, b4⟩ := HX8.out.1.cells5
  go_wp2_with fail
  with_reducible refine (wrS HX8.out X3 ?hl).mono ?_
  case hl => have := Z1.out; first | (simp; omega) | decide
  rintro e v9 ⟨rfl, hx⟩
  have HX9 := Lib.hid hx
  clear hx HX8 b0 b1 b2 b3 b4
  obtain ⟨b0, b1, b2, b3, b4⟩ := HX9.out.1.cells5
  go_wp2_with fail
  with_reducible refine (wrB HX9.out 32 32 rfl ?hl).mono ?_
  case hl => have := Z1.out; first | (simp; omega) | decide
  rintro e v10 ⟨rfl, hx⟩
  have HX10 := Lib.hid hx
  clear hx HX9 b0 b1 b2 b3 b4
  obtain ⟨b0, b1, b2, b3, b4⟩ := HX10.out.1.cells5
  go_wp2_with fail
  with_reducible refine (HI2.out _ _ HX10.out).mono ?_
  rintro e v11 ⟨rfl, hx⟩
  have HX11 := Lib.hid hx
  clear hx HX10 b0 b1 b2 b3 b4
  obtain ⟨b0, b1, b2, b3, b4⟩ := HX11.out.1.cells5
  go_wp2_with fail
  with_reducible refine (wrS HX11.out X4 ?hl).mono ?_
  case hl => have := Z1.out; first | (simp; omega) | decide
  rintro e v12 ⟨rfl, hx⟩
  have HX12 := Lib.hid hx
  clear hx HX11 b0 b1 b2 b3 b4
  obtain ⟨b0, b1, b2, b3, b4⟩ := HX12.out.1.cells5
  go_wp2_with fail
  have HX13 : Hid (TxtI w bb #[.complex .f32 cx cy, .int .i64 d, .int .i64 s, .slice a xs.length c, .slice a' ys.length c'] (headT cx cy d s ++ cellsT xs ys 0) v12) := by
    have h := HX12.out
    obtain ⟨e1, e2, e3, e4⟩ := HXS.out
    have e : headT cx cy d s ++ cellsT xs ys 0 = [] ++ ({ data := #[116, 105, 108, 101, 32] } : ByteArray).data.toList ++ X1.data.toList ++ [32] ++ X2.data.toList ++ [32] ++ X3.data.toList ++ [32] ++ X4.data.toList := by
      rw [← e1, ← e2, ← e3, ← e4, cellsT_zero, headT]
      simp
    rw [e]
    exact h
  have Hhead : Hid ((headT cx cy d s).length ≤ 100) := by
    show _ ≤ _
    have e1 := decS_size d
    have e2 := decS_size s
    unfold headT
    simp only [List.length_append, wordL_length, List.length_cons, List.length_nil]
    have e3 : (decS d).data.toList.length ≤ 2 := by rw [len_eq]; exact e1
    have e4 : (decS s).data.toList.length ≤ 2 := by rw [len_eq]; exact e2
    omega
  have hsm := sumL_lt (xs := xs) (ys := ys) (h := 2166136261) (by decide)
  have HSW := Lib.hid (fun l W (h : TxtI w bb #[.complex .f32 cx cy, .int .i64 d, .int .i64 s, .slice a xs.length c, .slice a' ys.length c'] l W) => wrU h (sum0 xs ys) hsm)
  clear HX12 HXS Z1 HW1 HW2 HI1 HI2 b0 b1 b2 b3 b4 hsm
  go_loopw [7, 8, 41] (fun _ _ i wr => ∃ k : Nat, k ≤ xs.length ∧ i = .int .i64 k ∧ Hid (TxtI w bb #[.complex .f32 cx cy, .int .i64 d, .int .i64 s, .slice a xs.length c, .slice a' ys.length c'] (headT cx cy d s ++ cellsT xs ys k) wr)) (fun _ _ i _ => (xs.length - intOf i).toNat)
  case atStart => exact ⟨0, Nat.zero_le _, rfl, HX13⟩
  case round =>
    obtain ⟨k, hk, rfl, HX⟩ := hrel
    have hOs : (headT cx cy d s ++ cellsT xs ys k).length ≤ 1000 := by
      rw [List.length_append, cellsT_len xs ys k hk (by rw [HL2.out]; exact hk)]
      have := Hhead.out
      omega
    obtain ⟨l, hl2⟩ : ∃ l, headT cx cy d s ++ cellsT xs ys k = l := ⟨_, rfl⟩
    rw [hl2] at HX hOs
    have HLE := Lib.hid hl2
    clear hl2
    have h1 := H1.out.step HX.out.1.old
    have h2 := H2.out.step HX.out.1.old
    by_cases hlt : k < xs.length
    · obtain ⟨x, y, hxk, hyk, x1, y1, y2, -, -⟩ := HT.out k hlt
      have HXC : Hid (cellsT xs ys (k + 1) = cellsT xs ys k ++ 32 :: (wordL x ++ [sgnC y])) := by
        show _ = _
        have hk2 : k < ys.length := by rw [HL2.out]; exact hlt
        rw [cellsT_snoc xs ys k hlt hk2]
        rw [List.getElem?_map, List.getElem?_eq_getElem hlt] at hxk
        rw [List.getElem?_map, List.getElem?_eq_getElem hk2] at hyk
        simp only [Option.map_some, floV, intV, Option.some.injEq, Value.float.injEq, Value.int.injEq, true_and] at hxk hyk
        rw [hxk, hyk]
      have HYK := Lib.hid hyk
      have HWX := Lib.hid (fun l W (h : TxtI w bb #[.complex .f32 cx cy, .int .i64 d, .int .i64 s, .slice a xs.length c, .slice a' ys.length c'] l W) => wrW h x x1)
      obtain ⟨bx, ox, rfl, hcx⟩ := h1.at hxk
      have hyl : k < ys.length := by rw [HL2.out]; exact hlt
      clear hxk hyk h1 h2
      go_wp2_with fail
      with_reducible refine (wrB HX.out 32 32 rfl ?hl).mono ?_
      case hl => omega
      rintro e v1 ⟨rfl, hx1⟩
      have HX1 := Lib.hid hx1
      clear hx1 HX hcx
      go_wp2_with fail
      with_reducible refine (HWX.out _ _ HX1.out).mono ?_
      rintro e v2 ⟨rfl, hx2⟩
      have HX2 := Lib.hid hx2
      have hwl : (⟨(wordL x).toArray⟩ : ByteArray).size = 8 := wordL_length _
      clear hx2 HX1
      go_wp2_with fail
      with_reducible refine (wrS HX2.out _ ?hl).mono ?_
      case hl => rw [hwl]; simp; omega
      rintro e v3 ⟨rfl, hx3⟩
      have HX3 := Lib.hid hx3
      obtain ⟨b0, b1, b2, b3, b4⟩ := HX3.out.1.cells5
      obtain ⟨bm, om, rfl, hcm⟩ := (H2.out.step HX3.out.1.old).at HYK.out
      clear hx3 HX2 hwl
      have Hy : Hid (y = -1 ∨ y = 0 ∨ y = 1) := by show _ ∨ _; omega
      have HF : Hid (∀ v4 g, sgnC y = g → TxtI w bb #[.complex .f32 cx cy, .int .i64 d, .int .i64 s, .slice (some ⟨bx, ox, none⟩) xs.length c, .slice (some ⟨bm, om, none⟩) ys.length c'] (l ++ [32] ++ (⟨(wordL x).toArray⟩ : ByteArray).data.toList ++ [g]) v4 → TxtI w bb #[.complex .f32 cx cy, .int .i64 d, .int .i64 s, .slice (some ⟨bx, ox, none⟩) xs.length c, .slice (some ⟨bm, om, none⟩) ys.length c'] (headT cx cy d s ++ cellsT xs ys (k + 1)) v4) := by
        intro v4 g hg h
        have e : headT cx cy d s ++ cellsT xs ys k = l := HLE.out
        rw [HXC.out, ← List.append_assoc, e, hg]
        simpa using h
      rcases Hy.out with rfl | rfl | rfl
      · go_wp2_with fail
        with_reducible refine (wrB HX3.out 45 _ ?hk ?hl).mono ?_
        case hk => rfl
        case hl => simp [wordL_length]; omega
        rintro e v4 ⟨rfl, hx4⟩
        have HX4 := Lib.hid (HF.out _ _ (by decide) hx4)
        clear hx4 HX3 b0 b1 b2 b3 b4 hcm
        go_wp2
        go_roundw
        case rel => exact ⟨k + 1, by omega, by go_num, HX4⟩
        case measure => simp [intOf]; omega
      · go_wp2_with fail
        with_reducible refine (wrB HX3.out 111 _ ?hk ?hl).mono ?_
        case hk => rfl
        case hl => simp [wordL_length]; omega
        rintro e v4 ⟨rfl, hx4⟩
        have HX4 := Lib.hid (HF.out _ _ (by decide) hx4)
        clear hx4 HX3 b0 b1 b2 b3 b4 hcm
        go_wp2
        go_roundw
        case rel => exact ⟨k + 1, by omega, by go_num, HX4⟩
        case measure => simp [intOf]; omega
      · go_wp2_with fail
        with_reducible refine (wrB HX3.out 43 _ ?hk ?hl).mono ?_
        case hk => rfl
        case hl => simp [wordL_length]; omega
        rintro e v4 ⟨rfl, hx4⟩
        have HX4 := Lib.hid (HF.out _ _ (by decide) hx4)
        clear hx4 HX3 b0 b1 b2 b3 b4 hcm
        go_wp2
        go_roundw
        case rel => exact ⟨k + 1, by omega, by go_num, HX4⟩
        case measure => simp [intOf]; omega
    · have hke : k = xs.length := by omega
      have HFE : Hid (∀ X : ByteArray, ⟨(wordL (sum0 xs ys)).toArray⟩ = X → (⟨(l ++ [32] ++ X.data.toList).toArray⟩ : ByteArray) = ⟨(textT cx cy d s xs ys (sum0 xs ys)).toArray⟩) := by
        intro X hX
        have e : headT cx cy d s ++ cellsT xs ys k = l := HLE.out
        rw [← e, ← hX, hke, textT]
      clear h1 h2 hke
      go_wp2_with fail
      with_reducible refine (wrB HX.out 32 32 rfl ?hl).mono ?_
      case hl => omega
      rintro e v1 ⟨rfl, hx1⟩
      have HX1 := Lib.hid hx1
      clear hx1 HX
      go_wp2_with fail
      with_reducible refine (HSW.out _ _ HX1.out).mono ?_
      rintro e v2 ⟨rfl, hx2⟩
      have HX2 := Lib.hid hx2
      have hwl : (⟨(wordL (sum0 xs ys)).toArray⟩ : ByteArray).size = 8 := wordL_length _
      obtain ⟨X, hX⟩ : ∃ X : ByteArray, ⟨(wordL (sum0 xs ys)).toArray⟩ = X := ⟨_, rfl⟩
      have HFX := Lib.hid (HFE.out X hX)
      rw [hX] at hwl ⊢
      clear hx2 HX1 HFE HSW hX
      go_wp2_with fail
      with_reducible refine (wrS HX2.out _ ?hl).mono ?_
      case hl => simp; omega
      rintro e v3 ⟨rfl, hx3⟩
      have HX3 := Lib.hid hx3
      clear hx3 HX2 hwl
      go_wp2_with fail
      with_reducible refine (wrE HX3.out).mono ?_
      rintro e v4 ⟨rfl, hx4⟩
      have HB := Lib.hid hx4
      have HFY : Hid (({ data := (l ++ [32] ++ X.data.toList).toArray } : ByteArray) = ⟨(textT cx cy d s xs ys (sum0 xs ys)).toArray⟩) := HFX
      obtain ⟨R, hR⟩ : ∃ R : ByteArray, ({ data := (l ++ [32] ++ X.data.toList).toArray } : ByteArray) = R := ⟨_, rfl⟩
      have HFR : Hid (R = ⟨(textT cx cy d s xs ys (sum0 xs ys)).toArray⟩) := hR ▸ HFY.out
      rw [hR]
      clear hx4 HX3 HFX HFY hR
      go_wp2
      go_ret2
      exact ⟨by rw [HFR.out]; rfl, HB.out⟩
end Go.Proofs.YtdfoobemgdiobaaDoor
