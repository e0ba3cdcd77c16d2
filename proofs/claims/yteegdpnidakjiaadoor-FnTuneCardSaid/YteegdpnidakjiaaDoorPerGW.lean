/- Walks: periods of all angles that have one. -/
import Derived.Test.YteegdpnidakjiaaDoorPerG
import Derived.Test.YteegdpnidakjiaaDoorPerW
namespace Go.Proofs.YteegdpnidakjiaaDoor
open Go.RowKit

set_option maxRecDepth 100000 in
set_option maxHeartbeats 1000000 in
theorem implAnglePeriod_gen (a b : Int) (w : World) (hT : Tab w) : Calls Tryd.prog 7 #[.agg #[.int .i64 a, .int .i64 b]] w fun e w' =>
    (angleOK a b = false ∨ 5000 < b → e = .returned (.tuple #[.int .i64 0, .int .i64 0, .bool false])) ∧
    (∀ d z p : Nat, b = d → b ≤ 5000 → angleOK a b = true → PerIs d z p → e = .returned (.tuple #[.int .i64 z, .int .i64 p, .bool true])) ∧ Below w.heap.size w w' := by
  have X0 := Box.new w #[.int .i64 a, .int .i64 b] 24
  have HT := Lib.hid (hT.step ((Below.refl _ w).alloc (Nat.le_refl _) (.cells #[.int .i64 a, .int .i64 b] 24)))
  clear hT
  cases hok : angleOK a b with
  | false =>
    go_enter Tryd.func7, Tryd.ntmps7
    go_wp2_with fail
    refine (implAngleValid_any a b _).mono ?_
    rw [hok]
    rintro e w1 ⟨rfl, hd⟩
    have HB := Lib.hid (X0.step hd).old
    clear X0 hd HT
    go_wp2
    refine bodyPost_ret (v := .tuple #[.int .i64 0, .int .i64 0, .bool false]) (by simp [results, Tryd.f7, go_sem]) rfl ⟨fun _ => rfl, fun _ _ _ _ _ h => by simp at h, HB.out⟩
  | true =>
    obtain ⟨n, d, rfl, rfl, hnd, hd, _⟩ := angleOK_nat hok
    by_cases hlt : 5000 < (d : Int)
    · go_enter Tryd.func7, Tryd.ntmps7
      go_wp2_with fail
      refine (implAngleValid_any n d _).mono ?_
      rw [hok]
      rintro e w1 ⟨rfl, hd⟩
      replace X0 := X0.step hd
      have b1 := X0.cell 1 _ rfl
      have HB := Lib.hid X0.old
      clear X0 hd HT
      go_wp2
      refine bodyPost_ret (v := .tuple #[.int .i64 0, .int .i64 0, .bool false]) (by simp [results, Tryd.f7, go_sem]) rfl ⟨fun _ => rfl, fun _ _ _ _ h => absurd h (by omega), HB.out⟩
    · have hd5 : d ≤ 5000 := by omega
      obtain ⟨z, p, hPI⟩ := perIs_exists (d := d) (by omega) (by omega)
      obtain ⟨_, _, p1, p2, p3, p4, p5, _⟩ := perIs_parts (by omega) (by omega) hPI
      have HZ := Lib.hid (fun w hT => tz_any d (by omega) (by omega) w hT)
      rw [← hPI.1] at HZ
      have HP := Lib.hid hPI
      have hs : (d : Int) / 2 ^ z = ((d / 2 ^ z : Nat) : Int) := by simp
      have HQ := Lib.hid hPI.2
      clear hPI
      generalize d / 2 ^ z = odd at *
      obtain ⟨t2, hm2⟩ : ∃ t2, 2 % odd = t2 := ⟨_, rfl⟩
      have ht0 : (2 : Int).tmod odd = (t2 : Int) := by rw [← hm2]; exact (Int.tmod_eq_emod_of_nonneg (by omega)).trans (Int.natCast_emod 2 odd).symm
      have ht0' : (2 : Int) % odd = (t2 : Int) := by rw [← hm2]; exact (Int.natCast_emod 2 odd).symm
      have hlt2 : t2 < odd := by rw [← hm2]; exact Nat.mod_lt _ p2
      obtain ⟨o1, hm1⟩ : ∃ o1, 1 % odd = o1 := ⟨_, rfl⟩
      have ht1 : (1 : Int).tmod odd = (o1 : Int) := by rw [← hm1]; exact (Int.tmod_eq_emod_of_nonneg (by omega)).trans (Int.natCast_emod 1 odd).symm
      have ht1' : (1 : Int) % odd = (o1 : Int) := by rw [← hm1]; exact (Int.natCast_emod 1 odd).symm
      have HM1 := Lib.hid hm1
      have HM2 : Hid (t2 = 2 ^ 1 % odd) := hm2.symm
      clear hm1 hm2
      have ho : ((odd : Int) == 0) = false := by simp; omega
      go_enter Tryd.func7, Tryd.ntmps7
      go_wp2_with fail
      refine (implAngleValid_any n d _).mono ?_
      rw [hok]
      rintro e w1 ⟨rfl, hd⟩
      replace X0 := X0.step hd
      have HT1 := Lib.hid (HT.out.step hd)
      have b1 := X0.cell 1 _ rfl
      have HB := Lib.hid X0.old
      clear X0 hd HT
      go_wp2_with (go_at_call 23; refine (HZ.out _ HT1.out).mono ?_; rintro e w2 ⟨rfl, rfl⟩)
      go_loop [7, 8] (fun x y => ∃ k pw : Nat, pw < odd ∧ 1 ≤ k ∧ k ≤ p ∧ x = .int .i64 k ∧ y = .int .i64 pw ∧ Hid (pw = 2 ^ k % odd)) (fun x _ => (6000 - intOf x).toNat)
      case atStart => exact ⟨1, t2, hlt2, by omega, p4, rfl, rfl, HM2⟩
      case round =>
        obtain ⟨k, pw, h1, h2, h2', rfl, rfl, HE⟩ := hrel
        by_cases he : pw = o1
        · have hne : ((pw : Int) != (o1 : Int)) = false := by simp; omega
          have HK : Hid (p = k) := by
            show _ = _
            rcases Nat.lt_or_ge k p with h | h
            · exact absurd (by rw [← HE.out, he, HM1.out]) (HQ.out.2.2 k h2 h)
            · omega
          clear he
          go_wp2
          refine bodyPost_ret (v := .tuple #[.int .i64 z, .int .i64 k, .bool true]) (by simp [results, Tryd.f7, go_sem]) rfl ⟨fun h => absurd h (by first | omega | (simp; omega)), fun d' z' p' h3 h4 => ?_, HB.out⟩
          obtain rfl : d = d' := by omega
          obtain rfl : z = z' := HP.out.1.trans h4.1.symm
          rw [per_unique h4.2 HP.out.2, ← HK.out]
        · have hne : ((pw : Int) != (o1 : Int)) = true := by simp; omega
          have hkp : k < p := by
            rcases Nat.lt_or_ge k p with h | h
            · exact h
            · exfalso
              apply he
              rw [HE.out, show k = p by omega, HQ.out.2.1, HM1.out]
          obtain ⟨q, hq⟩ : ∃ q, 2 * pw % odd = q := ⟨_, rfl⟩
          have hq1 : (2 * (pw : Int)).tmod odd = (q : Int) := by rw [← hq]; exact (Int.tmod_eq_emod_of_nonneg (by omega)).trans (Int.natCast_emod (2 * pw) odd).symm
          have hq2 : (2 * (pw : Int)) % odd = (q : Int) := by rw [← hq]; exact (Int.natCast_emod (2 * pw) odd).symm
          have hqlt : q < odd := by rw [← hq]; exact Nat.mod_lt _ p2
          have HN : Hid (q = 2 ^ (k + 1) % odd) := by
            show _ = _
            rw [← hq, HE.out, Nat.pow_succ, Nat.mul_comm (2 ^ k), Nat.mul_mod, Nat.mod_mod, ← Nat.mul_mod]
          clear he hq
          go_wp2
          go_round
          case rel => exact ⟨k + 1, q, hqlt, by omega, by omega, by go_num, rfl, HN⟩
          case measure => simp [intOf]; omega
set_option maxRecDepth 100000 in
set_option maxHeartbeats 1000000 in
theorem specAnglePeriod_gen (a b : Int) (w : World) : Calls Tryd.prog 18 #[.agg #[.int .i64 a, .int .i64 b]] w fun e w' =>
    (angleOK a b = false ∨ 5000 < b → e = .returned (.tuple #[.int .i64 0, .int .i64 0, .bool false])) ∧
    (∀ d z p : Nat, b = d → b ≤ 5000 → angleOK a b = true → PerIs d z p → e = .returned (.tuple #[.int .i64 z, .int .i64 p, .bool true])) ∧ Below w.heap.size w w' := by
  have X0 := Box.new w #[.int .i64 a, .int .i64 b] 24
  cases hok : angleOK a b with
  | false =>
    go_enter Tryd.func18, Tryd.ntmps18
    go_wp2_with fail
    refine (specAngleValid_any a b _).mono ?_
    rw [hok]
    rintro e w1 ⟨rfl, hd⟩
    have HB := Lib.hid (X0.step hd).old
    clear X0 hd
    go_wp2
    refine bodyPost_ret (v := .tuple #[.int .i64 0, .int .i64 0, .bool false]) (by simp [results, Tryd.f18, go_sem]) rfl ⟨fun _ => rfl, fun _ _ _ _ _ h => by simp at h, HB.out⟩
  | true =>
    obtain ⟨n, d, rfl, rfl, hnd, hd, hg⟩ := angleOK_nat hok
    by_cases hlt : 5000 < (d : Int)
    · go_enter Tryd.func18, Tryd.ntmps18
      go_wp2_with fail
      refine (specAngleValid_any n d _).mono ?_
      rw [hok]
      rintro e w1 ⟨rfl, hd⟩
      replace X0 := X0.step hd
      have b1 := X0.cell 1 _ rfl
      have HB := Lib.hid X0.old
      clear X0 hd
      go_wp2
      refine bodyPost_ret (v := .tuple #[.int .i64 0, .int .i64 0, .bool false]) (by simp [results, Tryd.f18, go_sem]) rfl ⟨fun _ => rfl, fun _ _ _ _ h => absurd h (by omega), HB.out⟩
    · have hd5 : d ≤ 5000 := by omega
      have hmk := fun w => run_make_zero d (by omega) w
      obtain ⟨z, p, hPI⟩ := perIs_exists (d := d) (by omega) (by omega)
      obtain ⟨q1, q2, _, _, _, p4, p5, p6⟩ := perIs_parts (by omega) (by omega) hPI
      have hz : z < 5000 := Nat.lt_of_lt_of_le Nat.lt_two_pow_self (by omega)
      have HTOP : Hid (∀ i j, i < j → (topN d i n = topN d j n ↔ z ≤ i ∧ 2 ^ (j - i) % (d / 2 ^ z) = 1 % (d / 2 ^ z))) := by
        intro i j hij
        have := top_same (n := n) (z := z) (odd := d / 2 ^ z) q2 (by rw [q1]; exact hnd) (by rw [q1]; exact hg) hij
        rwa [q1] at this
      have HP := Lib.hid hPI
      clear hPI q1 q2
      go_enter Tryd.func18, Tryd.ntmps18
      go_wp2_with fail
      refine (specAngleValid_any n d _).mono ?_
      rw [hok]
      rintro e w1 ⟨rfl, hd⟩
      replace X0 := X0.step hd
      have b0 := X0.cell 0 _ rfl
      have b1 := X0.cell 1 _ rfl
      clear hd
      have X1 := X0.alloc (.cells (fnCells (fun _ => 0) d) 3)
      have M := (Box.new w1 (fnCells (fun _ => 0) d) 3).up X0.old
      have c0 := X1.cell 0 _ rfl
      have c1 := X1.cell 1 _ rfl
      have hne : w.heap.size ≠ w1.heap.size := by have := X0.lt; omega
      have hwb : w.heap.size ≤ w1.heap.size := X0.old.size
      obtain ⟨mb, hmb⟩ : ∃ mb, w1.heap.size = mb := ⟨_, rfl⟩
      clear X0
      rw [hmb] at M hne hwb
      go_wp2
      go_loopw [6, 7] (fun x y wr => ∃ (num k : Nat) (g : Nat → Nat), num < d ∧ 1 ≤ k ∧ x = .int .i64 num ∧ y = .int .i64 k ∧ k ≤ z + p + 1 ∧ Hid (num = topN d (k - 1) n) ∧ Hid (∀ i, i < k - 1 → g (topN d i n) = i + 1) ∧ Hid (∀ j, g j ≠ 0 → ∃ i, i < k - 1 ∧ topN d i n = j) ∧ Box w mb (fnCells g d) 3 wr ∧ Box w w.heap.size #[.int .i64 n, .int .i64 d] 24 wr) (fun _ y _ => (20000 - intOf y).toNat)
      case atStart => exact ⟨n, 1, fun _ => 0, hnd, Nat.le_refl _, rfl, rfl, by omega, rfl, fun i hi => by omega, fun j hj => by simp at hj, M, X1⟩
      case round =>
        obtain ⟨num, k, g, r1, r2, rfl, rfl, r3, RT, RG, RM, M, X1⟩ := hrel
        obtain ⟨wo, rfl⟩ : ∃ wo, wo = wr := ⟨_, rfl⟩
        have c0 := X1.cell 0 _ rfl
        have c1 := X1.cell 1 _ rfl
        have m0 := M.cell num _ (fnCells_at g d num r1)
        have mf := M.frozen num
        have hdz : ((d : Int) == 0) = false := by simp; omega
        by_cases hend : k - 1 = z + p
        · have hgn : g num = z + 1 := by
            have h1 : num = topN d z n := by
              rw [RT.out, hend]
              exact ((HTOP.out z (z + p) (by omega)).2 ⟨Nat.le_refl _, by rw [Nat.add_sub_cancel_left]; exact HP.out.2.2.1⟩).symm
            rw [h1]
            exact RG.out _ (by omega)
          rw [hgn] at m0
          have HB := Lib.hid X1.old
          have hkk : (k : Int) - ((z : Int) + 1) = p := by omega
          clear hend RG RM RT HTOP
          go_wp2
          go_quiet (fail)
          go_wp2
          refine bodyPost_ret (v := .tuple #[.int .i64 z, .int .i64 p, .bool true]) (by simp [results, Tryd.f18, go_sem]) rfl ⟨fun h => absurd h (by first | omega | (simp; omega)), fun d' z' p' h3 _ _ h4 => ?_, Below.trans HB.out ((Drw.refl _).drewN _ |>.below _)⟩
          obtain rfl : d = d' := by omega
          obtain rfl : z = z' := HP.out.1.trans h4.1.symm
          rw [per_unique h4.2 HP.out.2]
        · have hgn : g num = 0 := by
            rcases Nat.eq_zero_or_pos (g num) with h | h
            · exact h
            · exfalso
              obtain ⟨i, i1, i2⟩ := RM.out num (by omega)
              rw [RT.out] at i2
              obtain ⟨j1, j2⟩ := (HTOP.out i (k - 1) i1).1 i2
              exact HP.out.2.2.2 (k - 1 - i) (by omega) (by omega) j2
          rw [hgn] at m0
          obtain ⟨q, hq⟩ : ∃ q, 2 * num % d = q := ⟨_, rfl⟩
          have hq1 : (2 * (num : Int)).tmod d = (q : Int) := by rw [← hq]; exact (Int.tmod_eq_emod_of_nonneg (by omega)).trans (Int.natCast_emod (2 * num) d).symm
          have hq2 : (2 * (num : Int)) % d = (q : Int) := by rw [← hq]; exact (Int.natCast_emod (2 * num) d).symm
          have hqlt : q < d := by rw [← hq]; exact Nat.mod_lt _ (by omega)
          have NT : Hid (q = topN d k n) := by
            show _ = _
            have := topN_succ d (k - 1) n
            rw [show k - 1 + 1 = k by omega, ← RT.out, hq] at this
            exact this.symm
          have M2 := M.set hwb num (.int .i64 (k : Nat))
          rw [fnCells_set g d num k r1] at M2
          have X2 := X1.other (p := ⟨mb, num, none⟩) hwb hne (.int .i64 (k : Nat))
          have c2 := X2.cell 1 _ rfl
          clear hq HTOP
          go_wp2
          go_roundw
          case rel =>
            refine ⟨q, k + 1, _, hqlt, by omega, rfl, by go_num, by omega, by rw [Nat.add_sub_cancel]; exact NT, ?_, ?_, M2, X2⟩
            · intro i hi
              show (if topN d i n = num then k else g (topN d i n)) = i + 1
              by_cases hik : i = k - 1
              · rw [if_pos (by rw [hik]; exact RT.out.symm)]; omega
              · have h2 := RG.out i (by omega)
                rw [if_neg (fun h => by rw [h, hgn] at h2; omega)]; exact h2
            · intro j hj
              by_cases hjn : j = num
              · exact ⟨k - 1, by omega, by rw [hjn]; exact RT.out.symm⟩
              · have h3 : (if j = num then k else g j) ≠ 0 := hj
                rw [if_neg hjn] at h3
                obtain ⟨i, i1, i2⟩ := RM.out j h3
                exact ⟨i, by omega, i2⟩
          case measure => simp [intOf]; omega
end Go.Proofs.YteegdpnidakjiaaDoor
