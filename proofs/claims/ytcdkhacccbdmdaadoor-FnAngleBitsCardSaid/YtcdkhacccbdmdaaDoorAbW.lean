/- The walk of FnAngleBits: doubling takes the first bit away. -/
import Derived.Test.YtcdkhacccbdmdaaDoorAbP
import Derived.Test.YtcdkhacccbdmdaaDoorPerW
import Derived.Test.YtcdkhacccbdmdaaDoorDrB
import Derived.Test.YtcdkhacccbdmdaaDoorAngI
import Derived.Test.YtcdkhacccbdmdaaDoorCardE
namespace Go.Proofs.YtcdkhacccbdmdaaDoor
open Go.ChangeShapes Go.WideShapes Go.ChangeAt Go.RowKit

theorem bits_some {n d k : Nat} (hok : angleOK (n : Int) d = true) (hk : k ≤ 64) : angBits n d k = some (firsts (bitAt n d) k) := by
  unfold angBits
  rw [hok, inB_yes (by omega) (by omega)]
  rfl
/-- the bits of an angle, as a contract -/
theorem bits_call {n d k : Nat} (hok : angleOK (n : Int) d = true) (hk : k ≤ 64) (w : World) : Calls Tryd.prog 25 #[.agg #[.int .i64 n, .int .i64 d], .int .i64 k] w fun e w' => e = .returned (.tuple #[.string ⟨(firsts (bitAt n d) k).toArray⟩, .bool true]) ∧ Below w.heap.size w w' := by
  have h := implAngleBits_any n d k w
  rw [bits_some hok hk] at h
  exact h
set_option maxRecDepth 100000 in
set_option maxHeartbeats 4000000 in
theorem FnAngleBits_walk (w : World) (hT : Tab w) (hE : ErrT w) (a : Option Addr) (c : Nat) (bs : List UInt8) (_ : bs.length ≤ maxLen) (hc : bs.length ≤ c) (hs : Sl w a (bs.map byteV)) :
    Calls Tryd.prog 8 #[.slice a bs.length c] w fun e w' => e = .returned (.bool true) ∧ Below w.heap.size w w' := by
  by_cases hb : 1048576 < bs.length
  · clear hT hs hE
    go_enter Tryd.func8, Tryd.ntmps8
    go_wp2
    go_ret
    exact ⟨rfl, Below.refl _ _⟩
  have H := Lib.hid (drawAngleBits_any a c bs (by omega) hc w hs)
  have HT := Lib.hid hT
  have HE := Lib.hid hE
  clear hs hT hE
  go_enter Tryd.func8, Tryd.ntmps8
  go_wp2_with fail
  refine H.out.mono ?_
  rintro e w1 ⟨⟨x, y, n, rfl, hxy⟩, hb⟩
  have HX := Lib.hid hxy
  have hper : y ≤ 64 ∨ 5000 < y := by
    rcases hxy with h | ⟨h1, h2⟩
    · exact .inl h
    · exact .inr (by omega)
  clear hxy H
  replace HT := Lib.hid ((HT.out.step hb).step ((Below.refl _ _).alloc (Nat.le_refl _) (.cells #[.int .i64 x, .int .i64 y] 24)))
  replace HE := Lib.hid ((HE.out.step hb).step ((Below.refl _ _).alloc (Nat.le_refl _) (.cells #[.int .i64 x, .int .i64 y] 24)))
  have Ba := (Box.new w1 #[.int .i64 x, .int .i64 y] 24).up hb
  clear hb
  have a0 := Ba.cell 0 _ rfl
  have a1 := Ba.cell 1 _ rfl
  cases hq : angBits x y n with
  | none =>
    have C1 := Lib.hid (fun w => implAngleBits_any x y n w)
    have C2 := Lib.hid (fun w => specAngleBits_any x y n w)
    rw [hq] at C1 C2
    simp only [Option.getD_none, Option.isSome_none] at C1 C2
    clear hq
    go_wp2_with fail
    refine (C1.out _).mono ?_
    rintro e w2 ⟨rfl, hb⟩
    clear a0 a1
    replace Ba := Ba.step hb
    clear hb
    have a0 := Ba.cell 0 _ rfl
    have a1 := Ba.cell 1 _ rfl
    go_wp2_with fail
    refine (C2.out _).mono ?_
    rintro e w3 ⟨rfl, hb⟩
    have HB := Lib.hid (Ba.step hb).old
    clear a0 a1 Ba hb
    go_wp2
    go_ret
    exact ⟨rfl, HB.out⟩
  | some l =>
    have hok : angleOK x y = true := by
      cases h : angleOK x y with
      | true => rfl
      | false => simp [angBits, h] at hq
    have hin : inB n 0 64 = true := by
      cases h : inB n 0 64 with
      | true => rfl
      | false => simp [angBits, h] at hq
    have hn64 : 0 ≤ n ∧ n ≤ 64 := by simpa [inB] using hin
    obtain ⟨k, rfl⟩ := Int.eq_ofNat_of_zero_le hn64.1
    obtain ⟨nn, d, rfl, rfl, hnd, hd, hg⟩ := angleOK_nat hok
    have hkk : k ≤ 64 := by omega
    have hl : l = firsts (bitAt nn d) k := by
      rw [bits_some hok hkk] at hq
      exact (Option.some.inj hq).symm
    obtain ⟨D1, hD1⟩ : ∃ z, lowN (2 * nn) d = z := ⟨_, rfl⟩
    obtain ⟨D2, hD2⟩ : ∃ z, lowD (2 * nn) d = z := ⟨_, rfl⟩
    have okd : angleOK (D1 : Int) D2 = true := by
      obtain ⟨u1, u2, u3⟩ := low_ok (2 * nn) d (by omega) hd
      rw [hD1, hD2] at u1 u3
      rw [hD2] at u2
      rw [angleOK_of u1 u2, u3]; rfl
    have hdouble := fun j => bits_double nn d j (by omega)
    rw [hD1, hD2] at hdouble
    have C1 := Lib.hid (fun w => implAngleBits_any nn d k w)
    have C2 := Lib.hid (fun w => specAngleBits_any nn d k w)
    rw [hq] at C1 C2
    simp only [Option.getD_some, Option.isSome_some] at C1 C2
    have C3 : Hid (∀ w, Calls Tryd.prog 14 #[.agg #[.int .i64 nn, .int .i64 d]] w fun e w' => e = .returned (.tuple #[.agg #[.int .i64 D1, .int .i64 D2], .bool true]) ∧ Below w.heap.size w w') := fun w => (implAngleDouble_any nn d w).mono fun e w' h => ⟨by have := h.2.1 nn d rfl rfl hok; rwa [hD1, hD2] at this, h.2.2⟩
    obtain ⟨s, hs⟩ : ∃ s : ByteArray, s = ⟨l.toArray⟩ := ⟨_, rfl⟩
    rw [← hs] at C1 C2
    have hsz : s.size = k := by rw [hs, hl]; show (firsts (bitAt nn d) k).toArray.size = k; simp [firsts_length]
    -- the rest of the bits
    have C4 : Hid (0 < k → ∀ w, Calls Tryd.prog 25 #[.agg #[.int .i64 D1, .int .i64 D2], .int .i64 ((k : Int) - 1)] w fun e w' => e = .returned (.tuple #[.string (s.extract 1 k), .bool true]) ∧ Below w.heap.size w w') := by
      intro hk0 w
      obtain ⟨j, rfl⟩ : ∃ j, k = j + 1 := ⟨k - 1, by omega⟩
      have h := bits_call okd (show j ≤ 64 by omega) w
      rw [show (((j + 1 : Nat) : Int) - 1) = (j : Int) by omega, hs, hl, hdouble j]
      have e1 : (⟨(bitAt nn d 0 :: firsts (bitAt D1 D2) j).toArray⟩ : ByteArray).extract 1 (j + 1) = ⟨(firsts (bitAt D1 D2) j).toArray⟩ :=
        extract_back (l := [bitAt nn d 0]) (r := firsts (bitAt D1 D2) j) rfl (by simp [firsts_length])
      rw [e1]
      exact h
    -- the period and what it gives
    obtain ⟨P1, P2, P3, C5, hread⟩ : ∃ (P1 P2 : Nat) (P3 : Bool), Hid (∀ w, Tab w → Calls Tryd.prog 12 #[.agg #[.int .i64 nn, .int .i64 d]] w fun e w' => e = .returned (.tuple #[.int .i64 P1, .int .i64 P2, .bool P3]) ∧ Below w.heap.size w w') ∧
        (P3 = true → P1 ≤ 9 → P2 ≤ 9 → ∃ F S T : ByteArray, T.size = P1 + P2 ∧ T.extract 0 P1 = F ∧ T.extract P1 (P1 + P2) = S ∧ angOf F S = some (nn, d) ∧
          (∀ w, Calls Tryd.prog 25 #[.agg #[.int .i64 nn, .int .i64 d], .int .i64 ((P1 : Int) + P2)] w fun e w' => e = .returned (.tuple #[.string T, .bool true]) ∧ Below w.heap.size w w')) := by
      rcases HX.out with h | ⟨h1, h2⟩
      · refine ⟨(perOf d).1, (perOf d).2, true, fun w hT => (implAnglePeriod_any nn d hper w hT).mono fun e w' k => ⟨k.2.1 d rfl h hok, k.2.2⟩, fun _ p9 q9 => ?_⟩
        have hrb := read_back (show d ≤ 64 by omega) hnd hg p9 q9
        have hT : bl d ((perOf d).1 + (perOf d).2) nn = bl d (perOf d).1 nn ++ bl d (perOf d).2 (topN d (perOf d).1 nn) := bl_add d _ _ nn
        refine ⟨_, _, ⟨(bl d (perOf d).1 nn ++ bl d (perOf d).2 (topN d (perOf d).1 nn)).toArray⟩, ?_, extract_front (bl_length d _ _), extract_back (bl_length d _ _) (by rw [List.length_append, bl_length, bl_length]), hrb, fun w => ?_⟩
        · show (bl d (perOf d).1 nn ++ bl d (perOf d).2 (topN d (perOf d).1 nn)).toArray.size = _
          simp [bl_length]
        · have h := bits_call hok (show (perOf d).1 + (perOf d).2 ≤ 64 by omega) w
          rw [firsts_bl, hT] at h
          exact h
      · exact ⟨0, 0, false, fun w hT => (implAnglePeriod_any nn d hper w hT).mono fun e w' k => ⟨k.1 (.inr (by omega)), k.2.2⟩, fun h => by cases h⟩
    have HR := Lib.hid hread
    clear hq hl hdouble hs hok hin hn64 HX hg hnd hd okd hD1 hD2 hread hper
    go_wp2_with fail
    refine (C1.out _).mono ?_
    rintro e w2 ⟨rfl, hb⟩
    clear a0 a1
    replace Ba := Ba.step hb
    replace HT := Lib.hid (HT.out.step hb)
    replace HE := Lib.hid (HE.out.step hb)
    clear hb
    have a0 := Ba.cell 0 _ rfl
    have a1 := Ba.cell 1 _ rfl
    go_wp2_with fail
    refine (C2.out _).mono ?_
    rintro e w3 ⟨rfl, hb⟩
    clear a0 a1
    replace Ba := Ba.step hb
    replace HT := Lib.hid (HT.out.step hb)
    replace HE := Lib.hid (HE.out.step hb)
    clear hb
    have a0 := Ba.cell 0 _ rfl
    have a1 := Ba.cell 1 _ rfl
    go_wp2_with fail
    refine (C3.out _).mono ?_
    rintro e w4 ⟨rfl, hb⟩
    clear a0 a1
    replace Ba := Ba.step hb
    replace HT := Lib.hid ((HT.out.step hb).step ((Below.refl _ _).alloc (Nat.le_refl _) (.cells #[.int .i64 D1, .int .i64 D2] 24)))
    replace HE := Lib.hid ((HE.out.step hb).step ((Below.refl _ _).alloc (Nat.le_refl _) (.cells #[.int .i64 D1, .int .i64 D2] 24)))
    clear hb
    have Bd := (Box.new w4 #[.int .i64 D1, .int .i64 D2] 24).up Ba.old
    replace Ba := Ba.alloc (.cells #[.int .i64 D1, .int .i64 D2] 24)
    have b0 := Bd.cell 0 _ rfl
    have b1 := Bd.cell 1 _ rfl
    clear C1 C2 C3
    by_cases hk0 : 0 < k
    · have C4' := Lib.hid (C4.out hk0)
      have hks : (1 : Int) ≤ s.size := by omega
      go_wp2_with fail
      refine (C4'.out _).mono ?_
      rintro e w5 ⟨rfl, hb⟩
      clear b0 b1 Bd C4 C4'
      replace Ba := Ba.step hb
      replace HT := Lib.hid (HT.out.step hb)
      replace HE := Lib.hid (HE.out.step hb)
      clear hb
      have a0 := Ba.cell 0 _ rfl
      have a1 := Ba.cell 1 _ rfl
      go_wp2_with fail
      refine (C5.out _ HT.out).mono ?_
      rintro e w6 ⟨rfl, hb⟩
      clear a0 a1
      replace Ba := Ba.step hb
      replace HE := Lib.hid (HE.out.step hb)
      clear hb HT C5
      have a0 := Ba.cell 0 _ rfl
      have a1 := Ba.cell 1 _ rfl
      have HB := Lib.hid Ba.old
      cases P3 with
      | false =>
        go_wp2
        go_ret
        exact ⟨rfl, HB.out⟩
      | true =>
        by_cases h9 : 9 < P1
        · have h9' : (9 : Int) < P1 := by omega
          go_wp2
          go_ret
          exact ⟨rfl, HB.out⟩
        by_cases h8 : 9 < P2
        · have h8' : (9 : Int) < P2 := by omega
          go_wp2
          go_ret
          exact ⟨rfl, HB.out⟩
        obtain ⟨F, S, T, t1, t2, t3, t4, C6⟩ := HR.out rfl (by omega) (by omega)
        have HC6 := Lib.hid C6
        have HA := Lib.hid (fun w hE => implAngleOf_any F S w hE)
        have e1 : angV (some (nn, d)) = .tuple #[.agg #[.int .i64 nn, .int .i64 d], .bool true] := rfl
        rw [t4, e1] at HA
        clear C6 t4 e1 HB HR
        go_wp2_with fail
        refine (HC6.out _).mono ?_
        rintro e w7 ⟨rfl, hb⟩
        clear a0 a1 HC6
        replace Ba := Ba.step hb
        replace HE := Lib.hid (HE.out.step hb)
        clear hb
        have a0 := Ba.cell 0 _ rfl
        have a1 := Ba.cell 1 _ rfl
        have t5 : (P1 : Int) ≤ T.size := by omega
        have t6 : (0 : Int) ≤ P1 := by omega
        go_upto_region 17 with fail
        have hwx : w.heap.size ≤ w7.heap.size := Ba.old.size
        have hax : w1.heap.size ≠ w7.heap.size := by have := Ba.lt; omega
        go_region_with (first
          | (go_at_call 22
             refine (HA.out _ (HE.out.step ((Drw.refl _).drew.below _))).mono ?_
             rintro e w8 ⟨rfl, hb⟩
             clear a0 a1
             replace Ba := Ba.step (((Drw.refl _).drew.below _).trans hb)
             clear hb
             have Bx := (Box.new w8 #[.int .i64 nn, .int .i64 d] 24).up Ba.old
             replace Ba := Ba.alloc (.cells #[.int .i64 nn, .int .i64 d] 24)
             have a0 := Ba.cell 0 _ rfl
             have a1 := Ba.cell 1 _ rfl
             have x0 := Bx.cell 0 _ rfl
             have x1 := Bx.cell 1 _ rfl
             have HB := Lib.hid Ba.old
             clear Ba Bx)
          | (go_at_call 22
             refine (HA.out _ ((HE.out.step ((Below.refl _ _).alloc (Nat.le_refl _) _)).step ((Drw.refl _).drew.below _))).mono ?_
             rintro e w8 ⟨rfl, hb⟩
             clear a0 a1
             have Bz := ((Box.new w7 #[.int .i64 0, .int .i64 0] 24).step (((Drw.refl _).drew.below _).trans hb)).up Ba.old
             replace Ba := (Ba.alloc (.cells #[.int .i64 0, .int .i64 0] 24)).step (((Drw.refl _).drew.below _).trans hb)
             clear hb
             have z0 := Bz.cell 0 _ rfl
             have z1 := Bz.cell 1 _ rfl
             have f0 := Bz.frozen 0
             have f1 := Bz.frozen 1
             have Bx := (Bz.set hwx 0 (.int .i64 nn)).set hwx 1 (.int .i64 d)
             replace Ba := (Ba.other (p := ⟨w7.heap.size, 0, none⟩) hwx hax (.int .i64 nn)).other (p := ⟨w7.heap.size, 1, none⟩) hwx hax (.int .i64 d)
             have a0 := Ba.cell 0 _ rfl
             have a1 := Ba.cell 1 _ rfl
             have x0 := Bx.cell 0 _ rfl
             have x1 := Bx.cell 1 _ rfl
             have HB := Lib.hid Ba.old
             clear Ba Bx Bz))
        all_goals
          go_wp2
          go_ret
          exact ⟨rfl, HB.out⟩
    · have a0 := Ba.cell 0 _ rfl
      have a1 := Ba.cell 1 _ rfl
      clear b0 b1 Bd C4
      have hk1 : ¬ (0 : Int) < k := by omega
      go_wp2_with fail
      refine (C5.out _ HT.out).mono ?_
      rintro e w6 ⟨rfl, hb⟩
      clear a0 a1
      replace Ba := Ba.step hb
      replace HE := Lib.hid (HE.out.step hb)
      clear hb HT C5
      have a0 := Ba.cell 0 _ rfl
      have a1 := Ba.cell 1 _ rfl
      have HB := Lib.hid Ba.old
      cases P3 with
      | false =>
        go_wp2
        go_ret
        exact ⟨rfl, HB.out⟩
      | true =>
        by_cases h9 : 9 < P1
        · have h9' : (9 : Int) < P1 := by omega
          go_wp2
          go_ret
          exact ⟨rfl, HB.out⟩
        by_cases h8 : 9 < P2
        · have h8' : (9 : Int) < P2 := by omega
          go_wp2
          go_ret
          exact ⟨rfl, HB.out⟩
        obtain ⟨F, S, T, t1, t2, t3, t4, C6⟩ := HR.out rfl (by omega) (by omega)
        have HC6 := Lib.hid C6
        have HA := Lib.hid (fun w hE => implAngleOf_any F S w hE)
        have e1 : angV (some (nn, d)) = .tuple #[.agg #[.int .i64 nn, .int .i64 d], .bool true] := rfl
        rw [t4, e1] at HA
        clear C6 t4 e1 HB HR
        go_wp2_with fail
        refine (HC6.out _).mono ?_
        rintro e w7 ⟨rfl, hb⟩
        clear a0 a1 HC6
        replace Ba := Ba.step hb
        replace HE := Lib.hid (HE.out.step hb)
        clear hb
        have a0 := Ba.cell 0 _ rfl
        have a1 := Ba.cell 1 _ rfl
        have t5 : (P1 : Int) ≤ T.size := by omega
        have t6 : (0 : Int) ≤ P1 := by omega
        go_upto_region 17 with fail
        have hwx : w.heap.size ≤ w7.heap.size := Ba.old.size
        have hax : w1.heap.size ≠ w7.heap.size := by have := Ba.lt; omega
        go_region_with (first
          | (go_at_call 22
             refine (HA.out _ (HE.out.step ((Drw.refl _).drew.below _))).mono ?_
             rintro e w8 ⟨rfl, hb⟩
             clear a0 a1
             replace Ba := Ba.step (((Drw.refl _).drew.below _).trans hb)
             clear hb
             have Bx := (Box.new w8 #[.int .i64 nn, .int .i64 d] 24).up Ba.old
             replace Ba := Ba.alloc (.cells #[.int .i64 nn, .int .i64 d] 24)
             have a0 := Ba.cell 0 _ rfl
             have a1 := Ba.cell 1 _ rfl
             have x0 := Bx.cell 0 _ rfl
             have x1 := Bx.cell 1 _ rfl
             have HB := Lib.hid Ba.old
             clear Ba Bx)
          | (go_at_call 22
             refine (HA.out _ ((HE.out.step ((Below.refl _ _).alloc (Nat.le_refl _) _)).step ((Drw.refl _).drew.below _))).mono ?_
             rintro e w8 ⟨rfl, hb⟩
             clear a0 a1
             have Bz := ((Box.new w7 #[.int .i64 0, .int .i64 0] 24).step (((Drw.refl _).drew.below _).trans hb)).up Ba.old
             replace Ba := (Ba.alloc (.cells #[.int .i64 0, .int .i64 0] 24)).step (((Drw.refl _).drew.below _).trans hb)
             clear hb
             have z0 := Bz.cell 0 _ rfl
             have z1 := Bz.cell 1 _ rfl
             have f0 := Bz.frozen 0
             have f1 := Bz.frozen 1
             have Bx := (Bz.set hwx 0 (.int .i64 nn)).set hwx 1 (.int .i64 d)
             replace Ba := (Ba.other (p := ⟨w7.heap.size, 0, none⟩) hwx hax (.int .i64 nn)).other (p := ⟨w7.heap.size, 1, none⟩) hwx hax (.int .i64 d)
             have a0 := Ba.cell 0 _ rfl
             have a1 := Ba.cell 1 _ rfl
             have x0 := Bx.cell 0 _ rfl
             have x1 := Bx.cell 1 _ rfl
             have HB := Lib.hid Ba.old
             clear Ba Bx Bz))
        all_goals
          go_wp2
          go_ret
          exact ⟨rfl, HB.out⟩
end Go.Proofs.YtcdkhacccbdmdaaDoor
