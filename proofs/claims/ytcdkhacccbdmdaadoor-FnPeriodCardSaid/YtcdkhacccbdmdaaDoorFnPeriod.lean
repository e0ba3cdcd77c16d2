/- FnPeriod: periods come back. No condition. -/
import Derived.Test.YtcdkhacccbdmdaaDoorPerW
import Derived.Test.YtcdkhacccbdmdaaDoorAngD
import Derived.Deep.RegionWith
import Derived.Test.YtcdkhacccbdmdaaDoorCard
namespace Go.Proofs.YtcdkhacccbdmdaaDoor
open Go.ChangeShapes Go.WideShapes Go.ChangeAt Go.RowKit

/-- the step of the first loop -/
theorem preA_succ {per r a b : Nat} (h : preA per (r + 1) a b = true) : a < b ∧ b ≤ 64 ∧ Nat.gcd a b = 1 ∧ preA per r (lowN (2 * a) b) (lowD (2 * a) b) = true := by
  unfold preA okA at h
  simp only [Bool.and_eq_true, beq_iff_eq, Nat.blt_eq, Nat.ble_eq] at h
  exact ⟨h.1.1.1, h.1.1.2, h.1.2, h.2⟩
theorem preA_zero {per a b : Nat} (h : preA per 0 a b = true) : a < b ∧ b ≤ 64 ∧ Nat.gcd a b = 1 ∧ backA a b per 0 a b = true := by
  unfold preA okA at h
  simp only [Bool.and_eq_true, beq_iff_eq, Nat.blt_eq, Nat.ble_eq] at h
  exact ⟨h.1.1.1, h.1.1.2, h.1.2, h.2⟩
theorem backA_succ {x1 x2 j i a b : Nat} (h : backA x1 x2 (j + 1) i a b = true) : a < b ∧ b ≤ 64 ∧ Nat.gcd a b = 1 ∧ (i = 0 ∨ a ≠ x1 ∨ b ≠ x2) ∧ backA x1 x2 j (i + 1) (lowN (2 * a) b) (lowD (2 * a) b) = true := by
  unfold backA okA at h
  simp only [Bool.and_eq_true, beq_iff_eq, Nat.blt_eq, Nat.ble_eq, Bool.not_eq_true', Bool.and_eq_false_iff, beq_eq_false_iff_ne] at h
  obtain ⟨⟨⟨⟨h1, h2⟩, h3⟩, h4⟩, h5⟩ := h
  refine ⟨h1, h2, h3, ?_, h5⟩
  rcases h4 with h4 | h4 | h4
  · left
    rcases Nat.eq_zero_or_pos i with h | h
    · exact h
    · have h5 : Nat.blt 0 i = true := by rw [Nat.blt_eq]; exact h
      rw [h5] at h4; cases h4
  · exact .inr (.inl h4)
  · exact .inr (.inr h4)
theorem backA_zero {x1 x2 i a b : Nat} (h : backA x1 x2 0 i a b = true) : a = x1 ∧ b = x2 := by
  unfold backA at h
  simpa using h
set_option maxHeartbeats 4000000 in
theorem FnPeriod_walk (w : World) (hT : Tab w) (a : Option Addr) (c : Nat) (bs : List UInt8) (_ : bs.length ≤ maxLen) (hc : bs.length ≤ c) (hs : Sl w a (bs.map byteV)) :
    Calls Tryd.prog 3 #[.slice a bs.length c] w fun e w' => e = .returned (.bool true) ∧ Below w.heap.size w w' := by
  by_cases hb : 1048576 < bs.length
  · go_enter Tryd.func3, Tryd.ntmps3
    go_wp2
    go_ret
    exact ⟨rfl, Below.refl _ _⟩
  have H := Lib.hid (drawAnglePeriod_any a c bs (by omega) hc w hs)
  have HT := Lib.hid hT
  clear hs hT
  go_enter Tryd.func3, Tryd.ntmps3
  go_wp2_with fail
  refine H.out.mono ?_
  rintro e w1 ⟨⟨x, y, rfl, hxy⟩, hb⟩
  have HX := Lib.hid hxy
  have hper : y ≤ 64 ∨ 5000 < y := by
    rcases hxy with h | ⟨h1, h2⟩
    · exact .inl h
    · exact .inr (by omega)
  clear hxy H
  replace HT := Lib.hid (HT.out.step hb)
  have Ba := (Box.new w1 #[.int .i64 x, .int .i64 y] 24).up hb
  have hab : w.heap.size ≤ w1.heap.size := hb.size
  replace HT := Lib.hid (HT.out.step ((Below.refl _ _).alloc (Nat.le_refl _) (.cells #[.int .i64 x, .int .i64 y] 24)))
  clear hb
  have a0 := Ba.cell 0 _ rfl
  have a1 := Ba.cell 1 _ rfl
  by_cases hbad : angleOK x y = false ∨ 5000 < y
  · go_wp2_with fail
    refine (implAnglePeriod_any x y hper _ HT.out).mono ?_
    rintro e w2 ⟨h1, -, hb⟩
    obtain rfl := h1 hbad
    clear h1 a0 a1
    replace Ba := Ba.step hb
    clear hb
    have a0 := Ba.cell 0 _ rfl
    have a1 := Ba.cell 1 _ rfl
    go_wp2_with fail
    refine (specAnglePeriod_any x y hper _).mono ?_
    rintro e w3 ⟨h1, -, hb⟩
    obtain rfl := h1 hbad
    clear h1 a0 a1
    have HB := Lib.hid (Ba.step hb).old
    clear Ba hb
    go_wp2
    go_ret
    exact ⟨rfl, HB.out⟩
  have hok : angleOK x y = true := by
    cases h : angleOK x y with
    | false => exact absurd (.inl h) hbad
    | true => rfl
  have hy : y ≤ 64 := by omega
  obtain ⟨n, d, rfl, rfl, hnd, hd, hg⟩ := angleOK_nat hok
  have hd64 : d ≤ 64 := by omega
  have hO : okOrb n d = true := by
    have h := List.all_eq_true.1 (List.all_eq_true.1 okOrb_all d (List.mem_range.2 (by omega))) n (List.mem_range.2 hnd)
    rw [hg] at h
    simpa using h
  unfold okOrb at hO
  rw [Bool.and_eq_true, Bool.and_eq_true, Nat.ble_eq, beq_iff_eq] at hO
  obtain ⟨⟨hO1, hO2⟩, hO3⟩ := hO
  have C1 : Hid (∀ w, Tab w → Calls Tryd.prog 12 #[.agg #[.int .i64 n, .int .i64 d]] w fun e w' => e = .returned (.tuple #[.int .i64 (perOf d).1, .int .i64 (perOf d).2, .bool true]) ∧ Below w.heap.size w w') := fun w hT => (implAnglePeriod_any n d hper w hT).mono fun e w' k => ⟨k.2.1 d rfl hy hok, k.2.2⟩
  have C2 : Hid (∀ w, Calls Tryd.prog 13 #[.agg #[.int .i64 n, .int .i64 d]] w fun e w' => e = .returned (.tuple #[.int .i64 (perOf d).1, .int .i64 (perOf d).2, .bool true]) ∧ Below w.heap.size w w') := fun w => (specAnglePeriod_any n d hper w).mono fun e w' k => ⟨k.2.1 d rfl hy hok, k.2.2⟩
  obtain ⟨hL, _⟩ := perOf_le d (by omega) (by omega)
  generalize (perOf d).1 = p1 at *
  generalize (perOf d).2 = p2 at *
  have HO := Lib.hid hO1
  have HZ3 : Hid ((((p1 : Int) == 0) == (((d : Int) % 2) == 1)) = true) := by
    show _ = _
    rw [show ((p1 : Int) == 0) = (p1 == 0) from Bool.eq_iff_iff.2 (by simp), show (((d : Int) % 2) == 1) = (d % 2 == 1) from Bool.eq_iff_iff.2 (by simp; omega), hO3]
    simp
  clear hO1 hO3 hbad hper hok HX hg hy
  go_wp2_with fail
  refine (C1.out _ HT.out).mono ?_
  rintro e w2 ⟨rfl, hb⟩
  clear a0 a1
  replace Ba := Ba.step hb
  clear hb
  have a0 := Ba.cell 0 _ rfl
  have a1 := Ba.cell 1 _ rfl
  go_wp2_with fail
  refine (C2.out _).mono ?_
  rintro e w3 ⟨rfl, hb⟩
  clear a0 a1
  replace Ba := Ba.step hb
  clear hb
  have a0 := Ba.cell 0 _ rfl
  have a1 := Ba.cell 1 _ rfl
  have hne : w1.heap.size ≠ w3.heap.size := by have := Ba.lt; omega
  have hxb : w.heap.size ≤ w3.heap.size := Ba.old.size
  have Bx := (Box.new w3 #[.int .i64 n, .int .i64 d] 24).up Ba.old
  replace Ba := Ba.alloc (.cells #[.int .i64 n, .int .i64 d] 24)
  have r1 : ((p1 : Int) != p1) = false := by simp
  have r2 : ((p2 : Int) != p2) = false := by simp
  go_wp2
  clear HT a0 a1
  generalize w1.heap.size = ab at *
  generalize w3.heap.size = xb at *
  go_loopw [11, 12, 13] (fun i _ _ wr => ∃ j x1 x2 : Nat, j ≤ p1 ∧ i = .int .i64 j ∧ Hid (preA p2 (p1 - j) x1 x2 = true) ∧ Box w xb #[.int .i64 x1, .int .i64 x2] 24 wr ∧ Box w ab #[.int .i64 n, .int .i64 d] 24 wr) (fun i _ _ _ => (p1 - intOf i).toNat)
  case atStart => exact ⟨0, n, d, by omega, rfl, HO, Bx, Ba⟩
  case round =>
    obtain ⟨j, x1, x2, hj, rfl, HPR, Bx, Ba⟩ := hrel
    obtain ⟨wo, rfl⟩ : ∃ wo, wo = wr := ⟨_, rfl⟩
    have c0 := Bx.cell 0 _ rfl
    have c1 := Bx.cell 1 _ rfl
    by_cases hlt : j < p1
    · have hpr := HPR.out
      rw [show p1 - j = (p1 - (j + 1)) + 1 by omega] at hpr
      obtain ⟨g1, g2, g3, g4⟩ := preA_succ hpr
      have okx : angleOK (x1 : Int) x2 = true := by rw [angleOK_of g1 (by omega), g3]; rfl
      have C3 : Hid (∀ w, Calls Tryd.prog 14 #[.agg #[.int .i64 x1, .int .i64 x2]] w fun e w' => e = .returned (.tuple #[.agg #[.int .i64 (lowN (2 * x1) x2), .int .i64 (lowD (2 * x1) x2)], .bool true]) ∧ Below w.heap.size w w') := fun w => (implAngleDouble_any x1 x2 w).mono fun e w' h => ⟨h.2.1 x1 x2 rfl rfl okx, h.2.2⟩
      have HNX := Lib.hid g4
      generalize lowN (2 * x1) x2 = y1 at *
      generalize lowD (2 * x1) x2 = y2 at *
      clear hpr g1 g2 g3 g4 okx
      go_wp2_with fail
      refine (C3.out _).mono ?_
      rintro e w4 ⟨rfl, hb⟩
      replace Bx := Bx.step hb
      replace Ba := Ba.step hb
      clear c0 c1 hb
      have By := (Box.new w4 #[.int .i64 y1, .int .i64 y2] 24).up Bx.old
      replace Ba := Ba.alloc (.cells #[.int .i64 y1, .int .i64 y2] 24)
      have hyx : w4.heap.size ≠ xb := by have := Bx.lt; omega
      replace Bx := Bx.alloc (.cells #[.int .i64 y1, .int .i64 y2] 24)
      have d0 := By.cell 0 _ rfl
      have d1 := By.cell 1 _ rfl
      have f0 := Bx.frozen 0
      have f1 := Bx.frozen 1
      have c0 := Bx.cell 0 _ rfl
      have c1 := Bx.cell 1 _ rfl
      have HBX : Hid (∀ u v, Box w xb #[u, v] 24 (((w4.alloc (.cells #[.int .i64 y1, .int .i64 y2] 24)).setCell ⟨xb, 0, none⟩ u).setCell ⟨xb, 1, none⟩ v)) := fun u v => (Bx.set hxb 0 u).set hxb 1 v
      have HBA : Hid (∀ u v, Box w ab #[.int .i64 n, .int .i64 d] 24 (((w4.alloc (.cells #[.int .i64 y1, .int .i64 y2] 24)).setCell ⟨xb, 0, none⟩ u).setCell ⟨xb, 1, none⟩ v)) := fun u v => (Ba.other (p := ⟨xb, 0, none⟩) hxb hne u).other (p := ⟨xb, 1, none⟩) hxb hne v
      clear Bx Ba By
      go_wp2
      go_roundw
      case rel => exact ⟨j + 1, y1, y2, by omega, by go_num, HNX, HBX.out _ _, HBA.out _ _⟩
      case measure => simp [intOf]; omega
    · have hj2 : j = p1 := by omega
      have hpr := HPR.out
      rw [show p1 - j = 0 by omega] at hpr
      obtain ⟨g1, g2, g3, g4⟩ := preA_zero hpr
      have HB0 := Lib.hid g4
      subst hj2
      clear hpr HPR g1 g2 g3 g4
      have By := (Box.new wo #[.int .i64 x1, .int .i64 x2] 24).up Bx.old
      have hyx : xb ≠ wo.heap.size := by have := Bx.lt; omega
      have hya : ab ≠ wo.heap.size := by have := Ba.lt; omega
      have hyb : w.heap.size ≤ wo.heap.size := Bx.old.size
      replace Bx := Bx.alloc (.cells #[.int .i64 x1, .int .i64 x2] 24)
      replace Ba := Ba.alloc (.cells #[.int .i64 x1, .int .i64 x2] 24)
      go_wp2
      clear c0 c1
      generalize wo.heap.size = yb at *
      go_loopw [15, 16, 17] (fun i _ _ wr => ∃ k y1 y2 : Nat, k ≤ p2 ∧ i = .int .i64 k ∧ Hid (backA x1 x2 (p2 - k) k y1 y2 = true) ∧ Box w yb #[.int .i64 y1, .int .i64 y2] 24 wr ∧ Box w xb #[.int .i64 x1, .int .i64 x2] 24 wr ∧ Box w ab #[.int .i64 n, .int .i64 d] 24 wr) (fun i _ _ _ => (p2 - intOf i).toNat)
      case atStart => exact ⟨0, x1, x2, by omega, rfl, HB0, By, Bx, Ba⟩
      case round =>
        clear By Bx Ba
        obtain ⟨k, y1, y2, hk, rfl, HBK, By, Bx, Ba⟩ := hrel
        obtain ⟨wo2, rfl⟩ : ∃ wo2, wo2 = wr := ⟨_, rfl⟩
        have c0 := By.cell 0 _ rfl
        have c1 := By.cell 1 _ rfl
        have d0 := Bx.cell 0 _ rfl
        have d1 := Bx.cell 1 _ rfl
        by_cases hlt : k < p2
        · have hbk := HBK.out
          rw [show p2 - k = (p2 - (k + 1)) + 1 by omega] at hbk
          obtain ⟨g1, g2, g3, g5, g4⟩ := backA_succ hbk
          have oky : angleOK (y1 : Int) y2 = true := by rw [angleOK_of g1 (by omega), g3]; rfl
          have C3 : Hid (∀ w, Calls Tryd.prog 14 #[.agg #[.int .i64 y1, .int .i64 y2]] w fun e w' => e = .returned (.tuple #[.agg #[.int .i64 (lowN (2 * y1) y2), .int .i64 (lowD (2 * y1) y2)], .bool true]) ∧ Below w.heap.size w w') := fun w => (implAngleDouble_any y1 y2 w).mono fun e w' h => ⟨h.2.1 y1 y2 rfl rfl oky, h.2.2⟩
          have HNX := Lib.hid g4
          generalize lowN (2 * y1) y2 = z1 at *
          generalize lowD (2 * y1) y2 = z2 at *
          clear hbk HBK g1 g2 g3 g4 oky
          by_cases hk0 : k = 0
          · have t1 : decide (0 < (k : Int)) = false := by simp; omega
            clear g5
            go_wp2_with fail
            refine (C3.out _).mono ?_
            rintro e w4 ⟨rfl, hb⟩
            replace Bx := Bx.step hb
            replace Ba := Ba.step hb
            replace By := By.step hb
            clear c0 c1 d0 d1 hb
            have Bz := (Box.new w4 #[.int .i64 z1, .int .i64 z2] 24).up Bx.old
            replace Ba := Ba.alloc (.cells #[.int .i64 z1, .int .i64 z2] 24)
            replace Bx := Bx.alloc (.cells #[.int .i64 z1, .int .i64 z2] 24)
            replace By := By.alloc (.cells #[.int .i64 z1, .int .i64 z2] 24)
            have d0 := Bz.cell 0 _ rfl
            have d1 := Bz.cell 1 _ rfl
            have f0 := By.frozen 0
            have f1 := By.frozen 1
            have c0 := By.cell 0 _ rfl
            have c1 := By.cell 1 _ rfl
            have HBY : Hid (∀ u v, Box w yb #[u, v] 24 (((w4.alloc (.cells #[.int .i64 z1, .int .i64 z2] 24)).setCell ⟨yb, 0, none⟩ u).setCell ⟨yb, 1, none⟩ v)) := fun u v => (By.set hyb 0 u).set hyb 1 v
            have HBA : Hid (∀ u v, Box w ab #[.int .i64 n, .int .i64 d] 24 (((w4.alloc (.cells #[.int .i64 z1, .int .i64 z2] 24)).setCell ⟨yb, 0, none⟩ u).setCell ⟨yb, 1, none⟩ v)) := fun u v => (Ba.other (p := ⟨yb, 0, none⟩) hyb hya u).other (p := ⟨yb, 1, none⟩) hyb hya v
            have HBX : Hid (∀ u v, Box w xb #[.int .i64 x1, .int .i64 x2] 24 (((w4.alloc (.cells #[.int .i64 z1, .int .i64 z2] 24)).setCell ⟨yb, 0, none⟩ u).setCell ⟨yb, 1, none⟩ v)) := fun u v => (Bx.other (p := ⟨yb, 0, none⟩) hyb hyx u).other (p := ⟨yb, 1, none⟩) hyb hyx v
            clear Bx Ba By Bz
            go_wp2
            go_roundw
            case rel => exact ⟨k + 1, z1, z2, by omega, by go_num, HNX, HBY.out _ _, HBX.out _ _, HBA.out _ _⟩
            case measure => simp [intOf]; omega
          have t1 : decide (0 < (k : Int)) = true := by simp; omega
          by_cases hy1 : y1 = x1
          · have t2 : ((y2 : Int) == x2) = false := by simp; omega
            have t3 : ((y1 : Int) == x1) = true := by simp; omega
            clear g5 hy1
            go_wp2_with fail
            refine (C3.out _).mono ?_
            rintro e w4 ⟨rfl, hb⟩
            replace Bx := Bx.step hb
            replace Ba := Ba.step hb
            replace By := By.step hb
            clear c0 c1 d0 d1 hb
            have Bz := (Box.new w4 #[.int .i64 z1, .int .i64 z2] 24).up Bx.old
            replace Ba := Ba.alloc (.cells #[.int .i64 z1, .int .i64 z2] 24)
            replace Bx := Bx.alloc (.cells #[.int .i64 z1, .int .i64 z2] 24)
            replace By := By.alloc (.cells #[.int .i64 z1, .int .i64 z2] 24)
            have d0 := Bz.cell 0 _ rfl
            have d1 := Bz.cell 1 _ rfl
            have f0 := By.frozen 0
            have f1 := By.frozen 1
            have c0 := By.cell 0 _ rfl
            have c1 := By.cell 1 _ rfl
            have HBY : Hid (∀ u v, Box w yb #[u, v] 24 (((w4.alloc (.cells #[.int .i64 z1, .int .i64 z2] 24)).setCell ⟨yb, 0, none⟩ u).setCell ⟨yb, 1, none⟩ v)) := fun u v => (By.set hyb 0 u).set hyb 1 v
            have HBA : Hid (∀ u v, Box w ab #[.int .i64 n, .int .i64 d] 24 (((w4.alloc (.cells #[.int .i64 z1, .int .i64 z2] 24)).setCell ⟨yb, 0, none⟩ u).setCell ⟨yb, 1, none⟩ v)) := fun u v => (Ba.other (p := ⟨yb, 0, none⟩) hyb hya u).other (p := ⟨yb, 1, none⟩) hyb hya v
            have HBX : Hid (∀ u v, Box w xb #[.int .i64 x1, .int .i64 x2] 24 (((w4.alloc (.cells #[.int .i64 z1, .int .i64 z2] 24)).setCell ⟨yb, 0, none⟩ u).setCell ⟨yb, 1, none⟩ v)) := fun u v => (Bx.other (p := ⟨yb, 0, none⟩) hyb hyx u).other (p := ⟨yb, 1, none⟩) hyb hyx v
            clear Bx Ba By Bz
            go_wp2
            go_roundw
            case rel => exact ⟨k + 1, z1, z2, by omega, by go_num, HNX, HBY.out _ _, HBX.out _ _, HBA.out _ _⟩
            case measure => simp [intOf]; omega
          · have t2 : ((y1 : Int) == x1) = false := by simp; omega
            clear g5 hy1
            go_wp2_with fail
            refine (C3.out _).mono ?_
            rintro e w4 ⟨rfl, hb⟩
            replace Bx := Bx.step hb
            replace Ba := Ba.step hb
            replace By := By.step hb
            clear c0 c1 d0 d1 hb
            have Bz := (Box.new w4 #[.int .i64 z1, .int .i64 z2] 24).up Bx.old
            replace Ba := Ba.alloc (.cells #[.int .i64 z1, .int .i64 z2] 24)
            replace Bx := Bx.alloc (.cells #[.int .i64 z1, .int .i64 z2] 24)
            replace By := By.alloc (.cells #[.int .i64 z1, .int .i64 z2] 24)
            have d0 := Bz.cell 0 _ rfl
            have d1 := Bz.cell 1 _ rfl
            have f0 := By.frozen 0
            have f1 := By.frozen 1
            have c0 := By.cell 0 _ rfl
            have c1 := By.cell 1 _ rfl
            have HBY : Hid (∀ u v, Box w yb #[u, v] 24 (((w4.alloc (.cells #[.int .i64 z1, .int .i64 z2] 24)).setCell ⟨yb, 0, none⟩ u).setCell ⟨yb, 1, none⟩ v)) := fun u v => (By.set hyb 0 u).set hyb 1 v
            have HBA : Hid (∀ u v, Box w ab #[.int .i64 n, .int .i64 d] 24 (((w4.alloc (.cells #[.int .i64 z1, .int .i64 z2] 24)).setCell ⟨yb, 0, none⟩ u).setCell ⟨yb, 1, none⟩ v)) := fun u v => (Ba.other (p := ⟨yb, 0, none⟩) hyb hya u).other (p := ⟨yb, 1, none⟩) hyb hya v
            have HBX : Hid (∀ u v, Box w xb #[.int .i64 x1, .int .i64 x2] 24 (((w4.alloc (.cells #[.int .i64 z1, .int .i64 z2] 24)).setCell ⟨yb, 0, none⟩ u).setCell ⟨yb, 1, none⟩ v)) := fun u v => (Bx.other (p := ⟨yb, 0, none⟩) hyb hyx u).other (p := ⟨yb, 1, none⟩) hyb hyx v
            clear Bx Ba By Bz
            go_wp2
            go_roundw
            case rel => exact ⟨k + 1, z1, z2, by omega, by go_num, HNX, HBY.out _ _, HBX.out _ _, HBA.out _ _⟩
            case measure => simp [intOf]; omega
        · have hk2 : p2 - k = 0 := by omega
          have hbk := HBK.out
          rw [hk2] at hbk
          obtain ⟨g1, g2⟩ := backA_zero hbk
          subst g1 g2
          have t1 : decide (1 ≤ (p2 : Int)) = true := by simp; omega
          have a0 := Ba.cell 0 _ rfl
          have a1 := Ba.cell 1 _ rfl
          have HB := Lib.hid Ba.old
          clear Bx By Ba HBK hbk hk2
          go_wp2
          go_ret
          exact ⟨ret_bool HZ3.out, HB.out⟩
set_option maxRecDepth 100000 in
theorem FnPeriod_contract (H : Type) (enc : TypeId × Value → H) (W : World) (base : Nat) (args : Array Value) (ds gs : List (DataW H)) (before : List MemPlace)
    (hval : ∀ (j : Nat) t v, Tryd.f3.params[j]? = some t → args[j]? = some v → Value.okWide Tryd.prog W .any base t v)
    (hW : DataW.Whole enc Tryd.prog Tryd.f3.params.toList Rows.fnPeriodSpec.vars false W args.toList ds gs before) (hL : laidMetH Tryd.prog Rows.fnPeriodRow.laid W) :
    Calls Tryd.prog 3 args W fun e W' => ∃ v, e = .returned v ∧ Rows.fnPeriodSpec.post enc Tryd.prog Tryd.f3 false true false false W args v W' := by
  have hW' := hW
  obtain ⟨p, q, hA0, hV, rfl, _, _⟩ := hW
  have hA : DataW.TrodAll enc Tryd.prog W 0 (fun _ => true) true Tryd.f3.params.toList args.toList ds p := hA0
  rw [Tryd.params3] at hA hval
  obtain ⟨v0, vs0, d0, ds0, p0, q0, hargs, rfl, rfl, h0, r0⟩ := trodAll_cons hA
  obtain ⟨rfl, rfl, rfl⟩ := trodAll_nil r0
  obtain rfl : args = #[v0] := by cases args; simp_all
  obtain ⟨rfl, rfl⟩ := trodVars_none hV
  obtain ⟨a0, c0, l0, rfl, n0, m0, s0⟩ := open_bytes Tryd.underlying22 Tryd.underlying5 (by kernel_rfl) (hval 0 22 v0 rfl rfl) h0
  clear hA0
  refine (FnPeriod_walk W (tab_of hL) a0 c0 l0 n0 m0 s0).mono fun e W' ⟨he, hb⟩ => ⟨_, he, ?_⟩
  exact law_post laidOut (by kernel_rfl) (by kernel_rfl) rfl Tryd.underlying4 hW' rfl rfl rfl hb
set_option maxRecDepth 100000 in
theorem FnPeriod_reads (os : Os) {H : Type} (enc : TypeId × Value → H) : ∃ places, DataW.whole enc Tryd.prog ((laidWorld os).forCall (fun _ _ => 0) ⟨#[], #[.slice none 0 0], []⟩).memory Tryd.f3.params.toList Rows.fnPeriodSpec.vars false #[Value.slice none 0 0].toList 8 = some ([.nil], [], places) :=
  ⟨[], by kernel_rfl⟩
set_option maxRecDepth 100000 in
theorem FnPeriod_lifted (os : Os) (started : os.Started) (H : Type) (enc : TypeId × Value → H) (F : Stop.Interp) :
    ReturnsInHanded {} Tryd.checked os 3 .any ((OpenSpec.ofChange Rows.fnPeriodSpec).preRow enc Tryd.prog Tryd.f3 Rows.fnPeriodRow.domain false Rows.fnPeriodRow.laid) (((OpenSpec.ofChange Rows.fnPeriodSpec).at F).post enc Tryd.prog Tryd.f3 false true false false) := by
  obtain ⟨places, hx⟩ := FnPeriod_reads os enc
  refine returnsInHanded_of_row (C := Tryd.checked) (s := OpenSpec.ofChange Rows.fnPeriodSpec) own started (by kernel_rfl) Tryd.func3
    (witness_row_at (enc := enc) (C := Tryd.checked) false (laidWorld os) #[.slice none 0 0] rfl (by kernel_rfl) (by kernel_rfl) (by kernel_rfl)
      (OpenSpec.preRow_of_cond 8 hx (by kernel_rfl) (fun k hk => by cases hk) (by kernel_rfl) (laid_met os))) ?_
  intro W base args ds gs before hval hW _ _ _ hL _ _
  exact FnPeriod_contract H enc W base args ds gs before hval hW hL
set_option maxRecDepth 100000 in
theorem FnPeriod_said : Rows.FnPeriodSaid :=
  OpenClaim.holds_of_cond 3 Tryd.f3 rfl rfl rfl rfl rfl rfl rfl ⟨rfl, rfl, rfl, rfl, rfl⟩ rfl rfl rfl rfl rfl (by kernel_rfl) Tryd.func3 (by kernel_rfl)
    (of_decide_eq_true (by kernel_rfl)) (by unfold Func.isWrapper; first | (rw [if_pos (by decide +kernel)]; kernel_rfl) | (rw [if_neg (by decide +kernel)]; exact ⟨rfl, rfl⟩))
    (fun os started H enc _ F => by rw [OpenClaim.pre_eq_preRow]; exact FnPeriod_lifted os started H enc F)
set_option maxRecDepth 100000 in
theorem FnPeriod_plain (f : FuncId) (fn : Func) (hf : Tryd.pinned.checked.prog.funcNamed "loop.example/quadraticorbits/laws.FnPeriod" = some f) (hfn : Tryd.pinned.checked.prog.funcs[f]? = some fn) :
    true = Tryd.pinned.checked.prog.looks [] ∧ ∀ (j : Nat) t, fn.params[j]? = some t → Tryd.pinned.checked.prog.wantsStandIn t = false := by
  obtain rfl : f = 3 := Option.some.inj ((show Tryd.prog.funcNamed "loop.example/quadraticorbits/laws.FnPeriod" = some 3 by kernel_rfl).symm.trans hf) |>.symm
  obtain rfl : fn = Tryd.f3 := (Option.some.inj (Tryd.func3.symm.trans hfn)).symm
  refine ⟨by kernel_rfl, fun j t ht => ?_⟩
  rw [Tryd.params3] at ht
  obtain rfl : t = 22 := by simpa using Array.mem_of_getElem? ht
  exact (show Tryd.prog.wantsStandIn 22 = false by kernel_rfl)

set_option maxRecDepth 100000 in
theorem FnPeriod_holds : Rows.FnPeriodCardSaid :=
  Claim7.holds_tied_plain_at .later [] _ _ _ _ FnPeriod_said (fun _ h => by cases h) (by kernel_rfl) (fun _ h => by cases h) fnPeriod_row_tie rfl ⟨rfl, rfl⟩ (by kernel_rfl) rfl FnPeriod_plain (by kernel_rfl)
end Go.Proofs.YtcdkhacccbdmdaaDoor
