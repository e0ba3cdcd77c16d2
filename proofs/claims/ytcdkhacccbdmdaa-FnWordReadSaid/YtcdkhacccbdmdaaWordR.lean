/- Walks of the reading of words. -/
import Derived.Test.YtcdkhacccbdmdaaWordW
import Derived.Test.YtcdkhacccbdmdaaBase
import Derived.Test.YtcdkhacccbdmdaaStrings
namespace Go.Proofs.Ytcdkhacccbdmdaa
open Go.RowKit

theorem digit_eq (m : Nat) (h : m < 16) : (⟨hexL.toArray⟩ : ByteArray)[m]'h = hexL.getD m 0 := by
  have : ∀ m : Fin 16, (⟨hexL.toArray⟩ : ByteArray)[m.val]'m.isLt = hexL.getD m.val 0 := by decide +kernel
  exact this ⟨m, h⟩
theorem dig_ne {s : ByteArray} {m j : Nat} {h1 : m < (⟨hexL.toArray⟩ : ByteArray).size} {h2 : j < s.size} (h : (((⟨hexL.toArray⟩ : ByteArray)[m].toNat : Int) != (s[j].toNat : Int)) = true) : hexL.getD m 0 ≠ s.data.toList.getD j 0 := by
  rw [digit_eq m h1, byte_eq s j h2] at h
  intro e
  rw [e] at h
  simp at h
theorem dig_eq {s : ByteArray} {m j : Nat} {h1 : m < (⟨hexL.toArray⟩ : ByteArray).size} {h2 : j < s.size} (h : (((⟨hexL.toArray⟩ : ByteArray)[m].toNat : Int) != (s[j].toNat : Int)) = false) : hexL.getD m 0 = s.data.toList.getD j 0 := by
  rw [digit_eq m h1, byte_eq s j h2] at h
  apply UInt8.toNat.inj
  simpa only [bne_eq_false_iff_eq, Int.ofNat_inj] using h
theorem wordR_not {l : List UInt8} (h : l.length ≠ 8) : wordR l = none := if_neg h
theorem wordR_8 {l : List UInt8} (h : l.length = 8) : wordR l = readTo l 8 := if_pos h
set_option maxHeartbeats 400000 in
theorem l9Read_any (s : ByteArray) (hs : s.size ≤ 1048576) (w : World) :
    Calls Try.prog 28 #[.string s] w fun e w' => e = .returned (.tuple #[.int .u32 ((wordR s.data.toList).getD 0 : Nat), .bool (wordR s.data.toList).isSome]) ∧ Drw w w' := by
  by_cases h8 : s.size = 8
  · have H8 := Lib.hid h8
    have h8a : (s.size : Int) ≤ 8 := by omega
    have h8b : 8 ≤ (s.size : Int) := by omega
    have ht : ((s.size : Int) != 8) = false := by simp; omega
    clear h8
    go_enter Try.func28, Try.ntmps28
    go_wp2
    go_loopw [4, 5, 6] (fun t i k wr => ∃ j n : Nat, j ≤ 8 ∧ i = .int .i64 j ∧ t = .int .u32 n ∧ Hid (readTo s.data.toList j = some n) ∧ Drw w wr) (fun _ i _ _ => (8 - intOf i).toNat)
    case atStart => exact ⟨0, 0, by omega, rfl, rfl, rfl, Drw.refl _⟩
    case round =>
      obtain ⟨j, n, hj, rfl, rfl, HN, hwr⟩ := hrel
      obtain ⟨wo, rfl⟩ : ∃ wo : World, wo = wr := ⟨_, rfl⟩
      by_cases hlt : j < 8
      · go_wp2
        go_loopw [6] (fun k wr => ∃ m : Nat, m ≤ 16 ∧ k = .int .i64 m ∧ Hid (∀ i, i < m → hexL.getD i 0 ≠ s.data.toList.getD j 0) ∧ Drw wo wr) (fun k _ => (16 - intOf k).toNat)
        case atStart => exact ⟨0, by omega, rfl, fun i hi => by omega, Drw.refl _⟩
        case round =>
          obtain ⟨m, hm, rfl, HNE, hwr2⟩ := hrel
          obtain ⟨wi, rfl⟩ : ∃ wi : World, wi = wr := ⟨_, rfl⟩
          by_cases hm16 : m < 16
          · have hlen := hexL_length
            have hd16 : decide ((m : Int) < 16) = true := by simp; omega
            have hb1 : (m : Int) < 16 := by omega
            have hb2 : (j : Int) < 8 := by omega
            have hb3 : (j : Int) < s.size := by omega
            go_wp2
            go_quiet ((go_at_call 43; exact quiet_eq (l9Digits_any _)))
            go_wp2
            · refine ⟨⟨m + 1, by omega, by go_num, ?_, hwr2.drewN _⟩, by simp [intOf]; omega⟩
              rename_i hx
              intro i hi
              by_cases hlast : i = m
              · rw [hlast]; exact dig_ne hx
              · exact HNE.out i (by omega)
            · rename_i hx _
              have h2 := dig_eq hx
              have hv := hexV_some hm16 HNE.out h2
              have hr : readTo s.data.toList (j + 1) = some (n * 16 + m) := by simp only [readTo, HN.out, hv, Option.bind_some, Option.map_some]
              have hlt := readTo_lt HN.out
              have hp : 16 ^ j ≤ 16 ^ 7 := Nat.pow_le_pow_right (by omega) (by omega)
              refine ⟨⟨j + 1, n * 16 + m, by omega, by go_num, ?_, hr, hwr.trans (hwr2.drewN _)⟩, by simp [intOf]; omega⟩
              congr 1; omega
          · have hmm : m = 16 := by omega
            have HM := Lib.hid hmm
            have hd16 : decide ((m : Int) < 16) = false := by simp; omega
            have hne16 : ((m : Int) == 16) = true := by simp; omega
            clear hmm
            go_wp2
            go_quiet (fail)
            go_wp2
            go_ret2
            have hv := hexV_none (by have := HNE.out; rw [HM.out] at this; exact this)
            have hr : readTo s.data.toList (j + 1) = none := by simp only [readTo, HN.out, hv, Option.bind_some, Option.map_none]
            have hw : wordR s.data.toList = none := by
              rw [wordR_8 (by rw [len_eq]; exact H8.out)]
              exact readTo_none_le hr (by omega)
            rw [hw]
            exact ⟨rfl, hwr.trans (hwr2.drewN _)⟩
      · have hj8 : j = 8 := by omega
        have HJ := Lib.hid hj8
        have hge : (8 : Int) ≤ j := by omega
        clear hj8
        go_wp2
        go_ret2
        have hw : wordR s.data.toList = some n := by
          have := HN.out
          rw [HJ.out] at this
          rw [wordR_8 (by rw [len_eq]; exact H8.out), this]
        rw [hw]
        exact ⟨rfl, hwr⟩
  · have ht : ((s.size : Int) != 8) = true := by simp; omega
    have H8 := Lib.hid h8
    clear h8
    go_enter Try.func28, Try.ntmps28
    go_wp2
    go_ret2
    have hw : wordR s.data.toList = none := by
      exact wordR_not (by rw [len_eq]; exact H8.out)
    rw [hw]
    exact ⟨rfl, Drw.refl _⟩

theorem bitsOfWord_or (n d : Nat) (hn : n < 268435456) (hd : d < 16) : bits BinOp.or IntKind.u32 ((n : Int) * 16) (d : Int) = ((n * 16 + d : Nat) : Int) := by
  have e : (n : Int) * 16 = ((n * 16 : Nat) : Int) := by omega
  rw [e, u32_or_nat _ _ (by omega) (by omega)]
  congr 1
  have := Nat.two_pow_add_eq_or_of_lt (i := 4) (b := d) (by omega) n
  rw [Nat.mul_comm n 16, show (16 : Nat) = 2 ^ 4 from rfl, ← this]
theorem index_none {c : UInt8} (h : Lib.indexByte [48, 49, 50, 51, 52, 53, 54, 55, 56, 57, 97, 98, 99, 100, 101, 102] c < 0) : hexV c = none := by
  have := hexV_index c
  rw [show Lib.indexByte hexL c = Lib.indexByte [48, 49, 50, 51, 52, 53, 54, 55, 56, 57, 97, 98, 99, 100, 101, 102] c from rfl] at this
  cases hv : hexV c with
  | none => rfl
  | some d => rw [hv] at this; simp only at this; omega
theorem index_some {c : UInt8} (h : 0 ≤ Lib.indexByte [48, 49, 50, 51, 52, 53, 54, 55, 56, 57, 97, 98, 99, 100, 101, 102] c) : ∃ d : Nat, d < 16 ∧ hexV c = some d ∧ Lib.indexByte [48, 49, 50, 51, 52, 53, 54, 55, 56, 57, 97, 98, 99, 100, 101, 102] c = d := by
  have := hexV_index c
  rw [show Lib.indexByte hexL c = Lib.indexByte [48, 49, 50, 51, 52, 53, 54, 55, 56, 57, 97, 98, 99, 100, 101, 102] c from rfl] at this
  cases hv : hexV c with
  | none => rw [hv] at this; simp only at this; omega
  | some d => rw [hv] at this; exact ⟨d, hexV_lt hv, rfl, this⟩
set_option maxHeartbeats 400000 in
theorem bitsOfWord_any (s : ByteArray) (hs : s.size ≤ 1048576) (w : World) :
    Calls Try.prog 26 #[.string s] w fun e w' => e = .returned (.tuple #[.int .u32 ((wordR s.data.toList).getD 0 : Nat), .bool (wordR s.data.toList).isSome]) ∧ w = w' := by
  by_cases h8 : s.size = 8
  · have H8 := Lib.hid h8
    have h8a : (s.size : Int) ≤ 8 := by omega
    have h8b : 8 ≤ (s.size : Int) := by omega
    have ht : ((s.size : Int) != 8) = false := by simp; omega
    clear h8
    go_enter Try.func26, Try.ntmps26
    go_wp2
    go_loop [4, 5, 6, 12] (fun t _ _ i => ∃ j n : Nat, j ≤ 8 ∧ i = .int .i64 j ∧ t = .int .u32 n ∧ Hid (readTo s.data.toList j = some n)) (fun _ _ _ i => (8 - intOf i).toNat)
    case atStart => exact ⟨0, 0, by omega, rfl, rfl, rfl⟩
    case round =>
      obtain ⟨j, n, hj, rfl, rfl, HN⟩ := hrel
      by_cases hlt : j < 8
      · go_wp2_with (go_at_call 42; refine (IndexByte_any _ _ _).mono ?_; rintro e w' ⟨rfl, rfl⟩)
        · go_ret2
          have hv := index_none (c := s[j]) (by assumption)
          rw [byte_eq] at hv
          have hr : readTo s.data.toList (j + 1) = none := by simp only [readTo, HN.out, hv, Option.bind_some, Option.map_none]
          have hw : wordR s.data.toList = none := by
            rw [wordR_8 (by rw [len_eq]; exact H8.out)]
            exact readTo_none_le hr (by omega)
          rw [hw]
          exact ⟨rfl, rfl⟩
        · obtain ⟨d, hd, hv, he⟩ := index_some (c := s[j]) (by assumption)
          rw [byte_eq] at hv
          have hr : readTo s.data.toList (j + 1) = some (n * 16 + d) := by simp only [readTo, HN.out, hv, Option.bind_some, Option.map_some]
          have hn := readTo_lt HN.out
          have hp : 16 ^ j ≤ 16 ^ 7 := Nat.pow_le_pow_right (by omega) (by omega)
          refine ⟨⟨j + 1, n * 16 + d, by omega, by go_num, ?_, hr⟩, by simp [intOf]; omega⟩
          rw [he, Int.emod_eq_of_lt (by omega) (by omega), Int.emod_eq_of_lt (by omega) (by omega), bitsOfWord_or n d (by omega) hd]
      · have hj8 : j = 8 := by omega
        have HJ := Lib.hid hj8
        have hge : (8 : Int) ≤ j := by omega
        clear hj8
        go_wp2
        go_ret2
        have hw : wordR s.data.toList = some n := by
          have := HN.out
          rw [HJ.out] at this
          rw [wordR_8 (by rw [len_eq]; exact H8.out), this]
        rw [hw]
        exact ⟨rfl, rfl⟩
  · have ht : ((s.size : Int) != 8) = true := by simp; omega
    have H8 := Lib.hid h8
    clear h8
    go_enter Try.func26, Try.ntmps26
    go_wp2
    go_ret2
    have hw : wordR s.data.toList = none := by
      exact wordR_not (by rw [len_eq]; exact H8.out)
    rw [hw]
    exact ⟨rfl, rfl⟩

theorem Float32frombits_run (x : Nat) (w : World) : (callFunc 27 #[.int .u32 x]).run Try.prog w = .ok (.value (.float .f32 x)) w := by
  kernel_rfl
set_option maxHeartbeats 400000 in
theorem specWordRead_any (s : ByteArray) (hs : s.size ≤ 1048576) (w : World) :
    Calls Try.prog 9 #[.string s] w fun e w' => e = .returned (.tuple #[.float .f32 ((wordR s.data.toList).getD 0 : Nat), .bool (wordR s.data.toList).isSome]) ∧ Drw w w' := by
  cases hr : wordR s.data.toList with
  | none =>
    have H := Lib.hid (l9Read_any s hs w)
    rw [hr] at H
    simp only [Option.getD_none, Option.isSome_none] at H ⊢
    clear hr
    go_enter Try.func9, Try.ntmps9
    go_wp2_with (go_at_call 28; refine H.out.mono ?_; rintro e w' ⟨rfl, hd⟩)
    go_ret2
    exact ⟨rfl, hd⟩
  | some n =>
    have H := Lib.hid (l9Read_any s hs w)
    rw [hr] at H
    simp only [Option.getD_some, Option.isSome_some] at H ⊢
    clear hr
    have hf := Float32frombits_run n
    go_enter Try.func9, Try.ntmps9
    go_wp2_with (go_at_call 28; refine H.out.mono ?_; rintro e w' ⟨rfl, hd⟩)
    go_ret2
    exact ⟨rfl, hd⟩
set_option maxHeartbeats 400000 in
theorem implWordRead_any (s : ByteArray) (hs : s.size ≤ 1048576) (w : World) :
    Calls Try.prog 8 #[.string s] w fun e w' => e = .returned (.tuple #[.float .f32 ((wordR s.data.toList).getD 0 : Nat), .bool (wordR s.data.toList).isSome]) ∧ w = w' := by
  cases hr : wordR s.data.toList with
  | none =>
    have H := Lib.hid (bitsOfWord_any s hs w)
    rw [hr] at H
    simp only [Option.getD_none, Option.isSome_none] at H ⊢
    clear hr
    go_enter Try.func8, Try.ntmps8
    go_wp2_with (go_at_call 26; refine H.out.mono ?_; rintro e w' ⟨rfl, rfl⟩)
    go_ret2
    exact ⟨rfl, rfl⟩
  | some n =>
    have H := Lib.hid (bitsOfWord_any s hs w)
    rw [hr] at H
    simp only [Option.getD_some, Option.isSome_some] at H ⊢
    clear hr
    have hf := Float32frombits_run n
    go_enter Try.func8, Try.ntmps8
    go_wp2_with (go_at_call 26; refine H.out.mono ?_; rintro e w' ⟨rfl, rfl⟩)
    go_ret2
    exact ⟨rfl, rfl⟩
end Go.Proofs.Ytcdkhacccbdmdaa
