/- Texts of bits: what they spell; the walks of their readers. -/
import Derived.Test.YteegdpnidakjiaaDoorBase
import Derived.Test.YteegdpnidakjiaaDoorAngV
import Derived.Laws.RangeAny
namespace Go.Proofs.YteegdpnidakjiaaDoor
open Go.RowKit

/-- the number that bits spell, behind a number; other signs: none -/
def bitsFrom : List UInt8 → Nat → Option Nat
  | [], n => some n
  | b :: r, n => if b.toNat = 48 then bitsFrom r (2 * n) else if b.toNat = 49 then bitsFrom r (2 * n + 1) else none
def bitsOf (s : ByteArray) : Option Nat := bitsFrom s.data.toList 0
theorem bits_at (s : ByteArray) (i n : Nat) (h : i < s.size) : bitsFrom (s.data.toList.drop i) n =
    if (s[i]'h).toNat = 48 then bitsFrom (s.data.toList.drop (i + 1)) (2 * n) else if (s[i]'h).toNat = 49 then bitsFrom (s.data.toList.drop (i + 1)) (2 * n + 1) else none := by
  have h' : i < s.data.toList.length := by rw [len_eq]; exact h
  rw [List.drop_eq_getElem_cons h']
  rfl
theorem bits_end (s : ByteArray) (i n : Nat) (h : ¬ i < s.size) : bitsFrom (s.data.toList.drop i) n = some n := by
  rw [List.drop_eq_nil_of_le (by rw [len_eq]; omega)]
  rfl
theorem bitsFrom_lt : ∀ (l : List UInt8) (n m k : Nat), n < 2 ^ k → bitsFrom l n = some m → m < 2 ^ (k + l.length)
  | [], n, m, k, h, e => by cases e; exact h
  | b :: r, n, m, k, h, e => by
    have hp : 2 ^ (k + 1) = 2 * 2 ^ k := by rw [Nat.pow_succ]; omega
    have hl : k + 1 + r.length = k + (b :: r).length := by simp; omega
    unfold bitsFrom at e
    split at e
    · have := bitsFrom_lt r (2 * n) m (k + 1) (by omega) e; rwa [hl] at this
    · split at e
      · have := bitsFrom_lt r (2 * n + 1) m (k + 1) (by omega) e; rwa [hl] at this
      · cases e
theorem bitsOf_lt {s : ByteArray} {m : Nat} (h : bitsOf s = some m) : m < 2 ^ s.size := by
  have := bitsFrom_lt _ 0 m 0 (by decide) h
  rwa [Nat.zero_add, len_eq] at this
set_option maxHeartbeats 1000000 in
theorem readBits_any (s : ByteArray) (hs : s.size ≤ 60) (w : World) : Calls Tryd.prog 13 #[.string s] w fun e w' =>
    (∀ n, bitsOf s = some n → e = .returned (.tuple #[.int .i64 n, .nilIface])) ∧
    (bitsOf s = none → ∃ i : Int, e = .returned (.tuple #[.int .i64 0, .iface 46 (.agg #[.int .i64 i])])) ∧ Below w.heap.size w w' := by
  have HB : Hid (∀ pos, Below w.heap.size w (w.iter s pos)) := fun pos => (Below.refl _ _).alloc (Nat.le_refl _) _
  go_enter Tryd.func13, Tryd.ntmps13
  go_wp2
  go_loopw [4, 5, 6] (fun t _ _ wr => ∃ pos n : Nat, wr = w.iter s pos ∧ pos ≤ s.size ∧ t = .int .i64 n ∧ n < 2 ^ pos ∧ Hid (bitsFrom (s.data.toList.drop pos) n = bitsOf s)) (fun _ _ _ wr => s.size - wr.iterPos w.heap.size)
  case atStart => exact ⟨0, 0, rfl, by omega, rfl, by omega, rfl⟩
  case round =>
    obtain ⟨pos, n, rfl, h1, rfl, h2, HE⟩ := hrel
    have h60 : n < 1152921504606846976 := Nat.lt_of_lt_of_le h2 (Nat.pow_le_pow_right (by omega) (show pos ≤ 60 by omega))
    have HN := Lib.hid h2
    clear h2
    by_cases hp : pos < s.size
    · have hat := bits_at s pos n hp
      have HD : Hid ((s[pos]'hp).toNat < 128 → Utf8.decode s pos = ((s[pos]'hp).toNat, 1)) := fun ha => decode_ascii s pos hp ha
      have HH : Hid (128 ≤ (s[pos]'hp).toNat → 128 ≤ (Utf8.decode s pos).1) := fun ha => (decode_high s pos hp ha).1
      have hnx : ∀ ty, (Instr.next (.pointer (some ⟨w.heap.size, 0, none⟩)) true ty).run Tryd.prog (w.iter s pos) = _ := fun ty => run_next_any w s pos ty hp
      generalize (s[pos]'hp).toNat = b at *
      generalize hr : (Utf8.decode s pos).1 = r at *
      generalize hw : (Utf8.decode s pos).2 = wd at *
      rw [HE.out] at hat
      have HA := Lib.hid hat
      clear hat
      by_cases b48 : b = 48
      · subst b48
        have hd := HD.out (by omega)
        rw [hd] at hr hw
        have hr' : r = 48 := hr.symm
        have hw' : wd = 1 := hw.symm
        subst hr' hw'
        clear hr hw hd
        go_wp2
        go_roundw
        case rel => exact ⟨pos + 1, 2 * n, rfl, by omega, by go_num, by have := HN.out; rw [Nat.pow_succ]; omega, HA.out.symm⟩
        case measure => simp; omega
      by_cases b49 : b = 49
      · subst b49
        have hd := HD.out (by omega)
        rw [hd] at hr hw
        have hr' : r = 49 := hr.symm
        have hw' : wd = 1 := hw.symm
        subst hr' hw'
        clear hr hw hd
        go_wp2
        go_roundw
        case rel => exact ⟨pos + 1, 2 * n + 1, rfl, by omega, by go_num, by have := HN.out; rw [Nat.pow_succ]; omega, HA.out.symm⟩
        case measure => simp; omega
      · have r48 : ((r : Int) == 48) = false := by
          simp
          intro e
          rcases Nat.lt_or_ge b 128 with h | h
          · have hd := HD.out h; rw [hd] at hr; have : b = r := hr; omega
          · have := HH.out h; omega
        have r49 : ((r : Int) == 49) = false := by
          simp
          intro e
          rcases Nat.lt_or_ge b 128 with h | h
          · have hd := HD.out h; rw [hd] at hr; have : b = r := hr; omega
          · have := HH.out h; omega
        have HZ : Hid (bitsOf s = none) := by
          show _ = _
          rw [HA.out, if_neg b48, if_neg b49]
        clear hr hw HD HH b48 b49
        go_wp2
        go_ret2
        exact ⟨fun m hm => (by rw [HZ.out] at hm; cases hm), fun _ => ⟨_, rfl⟩, HB.out _⟩
    · have HZ : Hid (bitsOf s = some n) := by show _ = _; rw [← HE.out, bits_end s pos n hp]
      have hnx : ∀ ty, (Instr.next (.pointer (some ⟨w.heap.size, 0, none⟩)) true ty).run Tryd.prog (w.iter s pos) = _ := fun ty => run_next_end w s pos ty hp
      go_wp2
      go_ret2
      exact ⟨fun m hm => (by rw [HZ.out] at hm; cases hm; rfl), fun hm => (by rw [HZ.out] at hm; cases hm), HB.out _⟩
set_option maxHeartbeats 1000000 in
theorem l6aNumber_any (s : ByteArray) (hs : s.size ≤ 1099511627776) (w : World) : Calls Tryd.prog 20 #[.string s] w fun e w' =>
    (∀ n, bitsOf s = some n → ∃ x : Int, e = .returned (.tuple #[.int .i64 x, .bool true]) ∧ (s.size ≤ 60 → x = n)) ∧
    (bitsOf s = none → e = .returned (.tuple #[.int .i64 0, .bool false])) ∧ Drw w w' := by
  go_enter Tryd.func20, Tryd.ntmps20
  go_wp2
  go_loopw [4, 5] (fun t i wr => ∃ (pos n : Nat) (x : Int), pos ≤ s.size ∧ i = .int .i64 pos ∧ t = .int .i64 x ∧ -9223372036854775808 ≤ x ∧ x ≤ 9223372036854775807 ∧ Hid (pos ≤ 60 → x = n ∧ n < 2 ^ pos) ∧ Hid (bitsFrom (s.data.toList.drop pos) n = bitsOf s) ∧ Drw w wr) (fun _ i _ => (s.size - intOf i).toNat)
  case atStart => exact ⟨0, 0, 0, by omega, rfl, rfl, by omega, by omega, fun _ => ⟨rfl, by omega⟩, rfl, Drw.refl _⟩
  case round =>
    obtain ⟨pos, n, x, h1, rfl, rfl, x1, x2, HX, HE, hwr⟩ := hrel
    obtain ⟨wo, rfl⟩ : ∃ wo, wo = wr := ⟨_, rfl⟩
    by_cases hp : pos < s.size
    · have hat := bits_at s pos n hp
      have hp1 : (pos : Int) < s.size := by omega
      rw [HE.out] at hat
      have HA := Lib.hid hat
      clear hat
      by_cases b48 : (s[pos]'hp).toNat = 48
      · have e1 : (((s[pos]'hp).toNat : Int)) = 48 := by omega
        have HE2 : Hid (bitsFrom (s.data.toList.drop (pos + 1)) (2 * n) = bitsOf s) := by show _ = _; rw [HA.out, if_pos b48]
        clear b48
        go_wp2
        go_roundw
        case rel =>
          refine ⟨pos + 1, 2 * n, _, by omega, by go_num, rfl, ?_, ?_, ?_, HE2, hwr⟩
          · unfold wrap64; omega
          · unfold wrap64; omega
          · intro h60
            obtain ⟨e2, e3⟩ := HX.out (by omega)
            have h59 : n < 1152921504606846976 := Nat.lt_of_lt_of_le e3 (Nat.pow_le_pow_right (by omega) (show pos ≤ 60 by omega))
            refine ⟨by unfold wrap64; omega, by rw [Nat.pow_succ]; omega⟩
        case measure => simp [intOf]; omega
      by_cases b49 : (s[pos]'hp).toNat = 49
      · have e1 : (((s[pos]'hp).toNat : Int)) = 49 := by omega
        have HE2 : Hid (bitsFrom (s.data.toList.drop (pos + 1)) (2 * n + 1) = bitsOf s) := by show _ = _; rw [HA.out, if_neg b48, if_pos b49]
        clear b48 b49
        go_wp2
        go_roundw
        case rel =>
          refine ⟨pos + 1, 2 * n + 1, _, by omega, by go_num, rfl, ?_, ?_, ?_, HE2, hwr⟩
          · unfold wrap64; omega
          · unfold wrap64; omega
          · intro h60
            obtain ⟨e2, e3⟩ := HX.out (by omega)
            have h59 : n < 1152921504606846976 := Nat.lt_of_lt_of_le e3 (Nat.pow_le_pow_right (by omega) (show pos ≤ 60 by omega))
            refine ⟨by unfold wrap64; omega, by rw [Nat.pow_succ]; omega⟩
        case measure => simp [intOf]; omega
      · have e1 : ((((s[pos]'hp).toNat : Int)) != 48) = true := by simp; omega
        have e2 : ((((s[pos]'hp).toNat : Int)) != 49) = true := by simp; omega
        have HZ : Hid (bitsOf s = none) := by show _ = _; rw [HA.out, if_neg b48, if_neg b49]
        clear b48 b49
        go_wp2
        go_ret2
        exact ⟨fun m hm => (by rw [HZ.out] at hm; cases hm), fun _ => rfl, hwr⟩
    · have HZ : Hid (bitsOf s = some n) := by show _ = _; rw [← HE.out, bits_end s pos n hp]
      have HX2 : Hid (s.size ≤ 60 → x = n) := fun h => (HX.out (by omega)).1
      have hp1 : ¬ (pos : Int) < s.size := by omega
      go_wp2
      go_ret2
      exact ⟨fun m hm => (by rw [HZ.out] at hm; cases hm; exact ⟨_, rfl, HX2.out⟩), fun hm => (by rw [HZ.out] at hm; cases hm), hwr⟩
end Go.Proofs.YteegdpnidakjiaaDoor
