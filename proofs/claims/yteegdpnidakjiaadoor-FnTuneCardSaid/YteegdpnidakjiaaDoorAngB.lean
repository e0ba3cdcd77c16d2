/- Walks: bits and kneading. -/
import Derived.Test.YteegdpnidakjiaaDoorAngV
namespace Go.Proofs.YteegdpnidakjiaaDoor
open Go.RowKit

/-- the first n bits; none: no angle, or n is out of range -/
def angBits (a b n : Int) : Option (List UInt8) := if angleOK a b && inB n 0 64 then some (firsts (bitAt a.toNat b.toNat) n.toNat) else none
/-- the first n signs -/
def angSigns (a b n : Int) : Option (List UInt8) := if angleOK a b && inB n 0 64 then some (firsts (signAt a.toNat b.toNat) n.toNat) else none
theorem str_snoc (l : List UInt8) (c : UInt8) : (⟨l.toArray⟩ : ByteArray) ++ ⟨#[c]⟩ = ⟨(l ++ [c]).toArray⟩ := by
  simp [ByteArray.ext_iff]
set_option maxHeartbeats 1000000 in
theorem specAngleBits_any (a b n : Int) (w : World) : Calls Tryd.prog 19 #[.agg #[.int .i64 a, .int .i64 b], .int .i64 n] w fun e w' => e = .returned (.tuple #[.string ⟨((angBits a b n).getD []).toArray⟩, .bool (angBits a b n).isSome]) ∧ Below w.heap.size w w' := by
  cases hok : angleOK a b with
  | false =>
    have e : angBits a b n = none := by simp [angBits, hok]
    rw [e]
    simp only [Option.getD_none, Option.isSome_none]
    go_enter Tryd.func19, Tryd.ntmps19
    go_wp2_with (go_at_call 32; refine (specAngleValid_any _ _ _).mono ?_; rintro e w' ⟨rfl, hb⟩)
    go_ret2
    exact ⟨rfl, below_alloc hb (by simp)⟩
  | true =>
    cases hin : inB n 0 64 with
    | false =>
      have e : angBits a b n = none := by simp [angBits, hok, hin]
      rw [e]
      simp only [Option.getD_none, Option.isSome_none]
      go_enter Tryd.func19, Tryd.ntmps19
      go_wp2_with (first | (go_at_call 32; refine (specAngleValid_any _ _ _).mono ?_; rintro e w' ⟨rfl, hb⟩) | (go_at_call 33; refine (l6In_any _ _ _ _).mono ?_; rintro e w' ⟨rfl, rfl⟩))
      go_ret2
      exact ⟨rfl, below_alloc hb (by simp)⟩
    | true =>
      obtain ⟨p, q, rfl, rfl, hpq, hq, hg⟩ := angleOK_nat hok
      have hn : 0 ≤ n ∧ n ≤ 64 := by simpa [inB] using hin
      obtain ⟨m, rfl⟩ := Int.eq_ofNat_of_zero_le hn.1
      have e : angBits p q m = some (firsts (bitAt p q) m) := by simp [angBits, hok, hin]
      rw [e]
      simp only [Option.getD_some, Option.isSome_some]
      have hm : m ≤ 64 := by omega
      clear hn hg e
      go_enter Tryd.func19, Tryd.ntmps19
      go_wp2_with (first | (go_at_call 32; refine (specAngleValid_any _ _ _).mono ?_; rintro e w1 ⟨rfl, hb⟩; have hc0 := below_box hb (by simp) 0; have hc1 := below_box hb (by simp) 1; simp at hc0 hc1) | (go_at_call 33; refine (l6In_any _ _ _ _).mono ?_; rintro e w' ⟨rfl, rfl⟩))
      have HB := Lib.hid hb
      clear hb
      go_loop [6, 7, 8] (fun t x i => ∃ k : Nat, k ≤ m ∧ i = .int .i64 k ∧ x = .int .i64 (topAt p q k) ∧ t = .string ⟨(firsts (bitAt p q) k).toArray⟩) (fun _ _ i => (m - intOf i).toNat)
      case atStart => exact ⟨0, by omega, rfl, rfl, rfl⟩
      case round =>
        obtain ⟨k, hk, rfl, rfl, rfl⟩ := hrel
        have hl : (firsts (bitAt p q) k).length ≤ 64 := by rw [firsts_length]; omega
        have ht := topAt_lt hpq k
        have ht' : 2 * topAt p q k % q < q := Nat.mod_lt _ (by omega)
        by_cases hlt : k < m
        · have HS : Hid (topAt p q (k + 1) = 2 * topAt p q k % q) := rfl
          have HF : Hid (firsts (bitAt p q) (k + 1) = firsts (bitAt p q) k ++ [bitAt p q k]) := rfl
          by_cases hb2 : 2 * topAt p q k < q
          · have HC : Hid (bitAt p q k = 48) := if_pos hb2
            generalize topAt p q k = t at *
            go_wp2
            go_round
            case rel => exact ⟨k + 1, by omega, by go_num, by rw [HS.out]; go_num, by rw [HF.out, HC.out, str_snoc]⟩
            case measure => simp [intOf]; omega
          · have HC : Hid (bitAt p q k = 49) := if_neg hb2
            generalize topAt p q k = t at *
            go_wp2
            go_round
            case rel => exact ⟨k + 1, by omega, by go_num, by rw [HS.out]; go_num, by rw [HF.out, HC.out, str_snoc]⟩
            case measure => simp [intOf]; omega
        · go_wp2
          go_ret2
          obtain rfl : k = m := by omega
          exact ⟨rfl, below_alloc HB.out (by simp)⟩
end Go.Proofs.YteegdpnidakjiaaDoor
