/- Walks: zeros at a number's end; periods. -/
import Derived.Test.YteegdpnidakjiaaDoorAngN
import Derived.Test.YteegdpnidakjiaaDoorTzB
import Derived.Laws.Bits64b
import Derived.Lib.TrailingZeros
import Derived.Shelf.Spec.TrailingZeros
namespace Go.Proofs.YteegdpnidakjiaaDoor
open Go.RowKit

theorem tz_any (x : Nat) (hx0 : x ≠ 0) (hx : x < 18446744073709551616) (w : World) (hT : Tab w) :
    Calls Tryd.prog 23 #[.int .u64 x] w fun e w' => e = .returned (.int .i64 (Lib.ctz 64 x)) ∧ w = w' := by
  have H := Lib.hid (tz64_any x hx0 hx w hT)
  clear hT
  go_enter Tryd.func23, Tryd.ntmps23
  go_wp2_with (go_at_call 37; refine H.out.mono ?_; rintro e w' ⟨rfl, rfl⟩)
  go_ret
  exact ⟨rfl, rfl⟩
/-- the least k from here on at which the power is 1 -/
def perRun (odd : Nat) : Nat → Nat → Nat → Option Nat
  | 0, pw, k => if pw = 1 % odd then some k else none
  | f + 1, pw, k => if pw = 1 % odd then some k else perRun odd f (2 * pw % odd) (k + 1)
def perOf (d : Nat) : Nat × Nat := (Lib.ctz 64 d, (perRun (d / 2 ^ Lib.ctz 64 d) 70 (2 % (d / 2 ^ Lib.ctz 64 d)) 1).getD 0)
theorem per_ok : ∀ d, d < 65 → d ≠ 0 → Lib.ctz 64 d ≤ 6 ∧ 0 < d / 2 ^ Lib.ctz 64 d ∧ d / 2 ^ Lib.ctz 64 d ≤ 64 ∧ (perRun (d / 2 ^ Lib.ctz 64 d) 70 (2 % (d / 2 ^ Lib.ctz 64 d)) 1).isSome = true := by decide +kernel
set_option maxHeartbeats 1000000 in
theorem implAnglePeriod_any (a b : Int) (hb : b ≤ 64 ∨ 5000 < b) (w : World) (hT : Tab w) : Calls Tryd.prog 7 #[.agg #[.int .i64 a, .int .i64 b]] w fun e w' =>
    (angleOK a b = false ∨ 5000 < b → e = .returned (.tuple #[.int .i64 0, .int .i64 0, .bool false])) ∧
    (∀ d : Nat, b = d → b ≤ 64 → angleOK a b = true → e = .returned (.tuple #[.int .i64 (perOf d).1, .int .i64 (perOf d).2, .bool true])) ∧ Below w.heap.size w w' := by
  have X0 := Box.new w #[.int .i64 a, .int .i64 b] 24
  have HT := Lib.hid (hT.step ((Below.refl _ w).alloc (Nat.le_refl _) (.cells #[.int .i64 a, .int .i64 b] 24)))
  clear hT
  cases hok : angleOK a b with
  | false =>
    go_enter Tryd.func7, Tryd.ntmps7
    go_wp2_with fail
    refine (implAngleValid_any a b _).mono ?_
    rw [hok]
    rintro e w1 ⟨rfl, hd⟩
    have HB := Lib.hid (X0.step hd).old
    clear X0 hd HT
    go_wp2
    refine bodyPost_ret (v := .tuple #[.int .i64 0, .int .i64 0, .bool false]) (by simp [results, Tryd.f7, go_sem]) rfl ⟨fun _ => rfl, fun _ _ _ h => by simp at h, HB.out⟩
  | true =>
    obtain ⟨n, d, rfl, rfl, hnd, hd, _⟩ := angleOK_nat hok
    by_cases hlt : 5000 < (d : Int)
    · go_enter Tryd.func7, Tryd.ntmps7
      go_wp2_with fail
      refine (implAngleValid_any n d _).mono ?_
      rw [hok]
      rintro e w1 ⟨rfl, hd⟩
      replace X0 := X0.step hd
      have b1 := X0.cell 1 _ rfl
      have HB := Lib.hid X0.old
      clear X0 hd HT
      go_wp2
      refine bodyPost_ret (v := .tuple #[.int .i64 0, .int .i64 0, .bool false]) (by simp [results, Tryd.f7, go_sem]) rfl ⟨fun _ => rfl, fun _ _ h _ => absurd h (by omega), HB.out⟩
    · have hd64 : d ≤ 64 := by omega
      obtain ⟨p1, p2, p3, p4⟩ := per_ok d (by omega) (by omega)
      obtain ⟨R, hR⟩ := Option.isSome_iff_exists.1 p4
      have HP : Hid (perOf d = (Lib.ctz 64 d, R)) := by show _ = _; unfold perOf; rw [hR]; rfl
      have HZ := Lib.hid (fun w hT => tz_any d (by omega) (by omega) w hT)
      have hs : (d : Int) / 2 ^ (Lib.ctz 64 d) = ((d / 2 ^ Lib.ctz 64 d : Nat) : Int) := by simp
      generalize Lib.ctz 64 d = z at *
      generalize d / 2 ^ z = odd at *
      have HRR := Lib.hid hR
      clear hR p4
      obtain ⟨t2, hm2⟩ : ∃ t2, 2 % odd = t2 := ⟨_, rfl⟩
      have ht0 : (2 : Int).tmod odd = (t2 : Int) := by rw [← hm2]; exact (Int.tmod_eq_emod_of_nonneg (by omega)).trans (Int.natCast_emod 2 odd).symm
      have ht0' : (2 : Int) % odd = (t2 : Int) := by rw [← hm2]; exact (Int.natCast_emod 2 odd).symm
      have hlt2 : t2 < odd := by rw [← hm2]; exact Nat.mod_lt _ p2
      obtain ⟨o1, hm1⟩ : ∃ o1, 1 % odd = o1 := ⟨_, rfl⟩
      have ht1 : (1 : Int).tmod odd = (o1 : Int) := by rw [← hm1]; exact (Int.tmod_eq_emod_of_nonneg (by omega)).trans (Int.natCast_emod 1 odd).symm
      have ht1' : (1 : Int) % odd = (o1 : Int) := by rw [← hm1]; exact (Int.natCast_emod 1 odd).symm
      rw [hm2] at HRR
      have HM1 := Lib.hid hm1
      clear hm1 hm2
      have ho : ((odd : Int) == 0) = false := by simp; omega
      go_enter Tryd.func7, Tryd.ntmps7
      go_wp2_with fail
      refine (implAngleValid_any n d _).mono ?_
      rw [hok]
      rintro e w1 ⟨rfl, hd⟩
      replace X0 := X0.step hd
      have HT1 := Lib.hid (HT.out.step hd)
      have b1 := X0.cell 1 _ rfl
      have HB := Lib.hid X0.old
      clear X0 hd HT
      go_wp2_with (go_at_call 23; refine (HZ.out _ HT1.out).mono ?_; rintro e w2 ⟨rfl, rfl⟩)
      go_loop [7, 8] (fun p q => ∃ f k pw : Nat, pw < odd ∧ k + f = 71 ∧ p = .int .i64 k ∧ q = .int .i64 pw ∧ Hid (perRun odd f pw k = some R)) (fun p _ => (72 - intOf p).toNat)
      case atStart => exact ⟨70, 1, t2, hlt2, rfl, rfl, rfl, HRR⟩
      case round =>
        obtain ⟨f, k, pw, h1, h2, rfl, rfl, HE⟩ := hrel
        by_cases he : pw = o1
        · have hne : ((pw : Int) != (o1 : Int)) = false := by simp; omega
          have HK : Hid (R = k) := by
            have := HE.out
            show _ = _
            cases f <;> (unfold perRun at this; rw [if_pos (by rw [HM1.out]; exact he)] at this; simpa using this.symm)
          clear he
          go_wp2
          refine bodyPost_ret (v := .tuple #[.int .i64 z, .int .i64 k, .bool true]) (by simp [results, Tryd.f7, go_sem]) rfl ⟨fun h => absurd h (by first | omega | (simp; omega)), fun d' h3 _ => ?_, HB.out⟩
          obtain rfl : d = d' := by omega
          rw [HP.out, ← HK.out]
        · have hne : ((pw : Int) != (o1 : Int)) = true := by simp; omega
          obtain ⟨g, rfl⟩ : ∃ g, f = g + 1 := by
            cases f with
            | zero =>
              exfalso
              have := HE.out
              unfold perRun at this
              rw [if_neg (by rw [HM1.out]; exact he)] at this
              cases this
            | succ g => exact ⟨g, rfl⟩
          obtain ⟨q, hq⟩ : ∃ q, 2 * pw % odd = q := ⟨_, rfl⟩
          have hq1 : (2 * (pw : Int)).tmod odd = (q : Int) := by rw [← hq]; exact (Int.tmod_eq_emod_of_nonneg (by omega)).trans (Int.natCast_emod (2 * pw) odd).symm
          have hq2 : (2 * (pw : Int)) % odd = (q : Int) := by rw [← hq]; exact (Int.natCast_emod (2 * pw) odd).symm
          have hqlt : q < odd := by rw [← hq]; exact Nat.mod_lt _ p2
          have HN : Hid (perRun odd g q (k + 1) = some R) := by
            have := HE.out
            unfold perRun at this
            rw [if_neg (by rw [HM1.out]; exact he), hq] at this
            exact this
          clear he hq
          go_wp2
          go_round
          case rel => exact ⟨g, k + 1, q, hqlt, by omega, by go_num, rfl, HN⟩
          case measure => simp [intOf]; omega
end Go.Proofs.YteegdpnidakjiaaDoor
