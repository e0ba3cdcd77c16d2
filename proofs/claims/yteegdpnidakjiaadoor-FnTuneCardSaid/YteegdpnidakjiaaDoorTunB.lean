/- Both AngleTunes by one contract. -/
import Derived.Test.YteegdpnidakjiaaDoorTunW
import Derived.Test.YteegdpnidakjiaaDoorTunS
import Derived.Test.YteegdpnidakjiaaDoorAngI
import Derived.Test.YteegdpnidakjiaaDoorKneP
namespace Go.Proofs.YteegdpnidakjiaaDoor
open Go.RowKit

theorem angV_ex (o : Option (Nat × Nat)) : ∃ (x y : Int) (b : Bool), angV o = .tuple #[.agg #[.int .i64 x, .int .i64 y], .bool b] := by
  cases o with
  | none => exact ⟨0, 0, false, rfl⟩
  | some p => exact ⟨p.1, p.2, true, rfl⟩
theorem bits_data (n d p : Nat) : (⟨(firsts (bitAt n d) p).toArray⟩ : ByteArray).data.toList = firsts (bitAt n d) p := List.toList_toArray
theorem bits_size (n d p : Nat) : (⟨(firsts (bitAt n d) p).toArray⟩ : ByteArray).size = p := by
  show (firsts (bitAt n d) p).toArray.size = p
  simp [firsts_length]
theorem bits_ascii (n d p : Nat) : ∀ i (h : i < (⟨(firsts (bitAt n d) p).toArray⟩ : ByteArray).size), ((⟨(firsts (bitAt n d) p).toArray⟩ : ByteArray)[i]'h).toNat < 128 := by
  intro i h
  rw [byte_eq _ i h, bits_data, firsts_get _ _ _ (by rwa [bits_size] at h)]
  unfold bitAt
  split <;> decide
theorem bits_empty {z : ByteArray} (h : z.size = 0) : z.data.toList = [] ∧ bitsOf z = some 0 := by
  have h1 : z.data.toList = [] := List.length_eq_zero_iff.1 (by rw [len_eq]; exact h)
  exact ⟨h1, by unfold bitsOf; rw [h1]; rfl⟩
theorem dueL_none : ∀ l, dueL [] [] l = []
  | [] => rfl
  | c :: r => by
    show (if c = 48 then ([] : List UInt8) else []) ++ dueL [] [] r = []
    rw [dueL_none r]; split <;> rfl
/-- of an angle with a period -/
theorem tune_good (n d k p : Nat) (hok : angleOK (n : Int) d = true) (hd : d ≤ 5000) (hPI : PerIs d k p) (z o : ByteArray) (hz : z.size ≤ 1048576) (ho : o.size ≤ 1048576) :
    (∀ w, Tab w → ErrT w → Calls Tryd.prog 5 #[.agg #[.int .i64 n, .int .i64 d], .string z, .string o] w fun e w' => e = .returned (angV (tuneOf n d k p z o)) ∧ Below w.heap.size w w') ∧
    (∀ w, Calls Tryd.prog 6 #[.agg #[.int .i64 n, .int .i64 d], .string z, .string o] w fun e w' => e = .returned (angV (tuneOf n d k p z o)) ∧ Below w.heap.size w w') := by
  have hP1 : ∀ w, Tab w → Calls Tryd.prog 7 #[.agg #[.int .i64 n, .int .i64 d]] w fun e w' => e = .returned (.tuple #[.int .i64 k, .int .i64 p, .bool true]) ∧ Below w.heap.size w w' := fun w hT => (implAnglePeriod_gen n d w hT).mono fun e w' h => ⟨h.2.1 d k p rfl (by omega) hok hPI, h.2.2⟩
  have hP2 : ∀ w, Calls Tryd.prog 18 #[.agg #[.int .i64 n, .int .i64 d]] w fun e w' => e = .returned (.tuple #[.int .i64 k, .int .i64 p, .bool true]) ∧ Below w.heap.size w w' := fun w => (specAnglePeriod_gen n d w).mono fun e w' h => ⟨h.2.1 d k p rfl (by omega) hok hPI, h.2.2⟩
  obtain ⟨nn', d', e1, e2, hnd, _, _⟩ := angleOK_nat hok
  have hd0 : d ≠ 0 := by omega
  obtain ⟨_, _, _, _, q3, p1, p2, _⟩ := perIs_parts hd0 (by omega) hPI
  have hp5 : p ≤ 5000 := by omega
  have hB1 := fun w => implAngleBits_any n d p w
  have hB2 := fun w => specAngleBits_any n d p w
  by_cases hC : k = 0 ∧ z.size = o.size ∧ 1 ≤ z.size ∧ p * z.size ≤ 9
  · obtain ⟨c1, c2, c3, c4⟩ := hC
    have hp9 : p ≤ 9 := Nat.le_trans (Nat.le_mul_of_pos_right p c3) c4
    have hz9 : z.size ≤ 9 := Nat.le_trans (Nat.le_mul_of_pos_left z.size p1) c4
    have c4' : z.size * p ≤ 9 := by rw [Nat.mul_comm]; exact c4
    have hq : angBits n d p = some (firsts (bitAt n d) p) := by
      unfold angBits
      rw [hok, inB_yes (by omega) (by omega)]
      rfl
    rw [hq] at hB1 hB2
    simp only [Option.getD_some, Option.isSome_some] at hB1 hB2
    have hsz := bits_size n d p
    have has := bits_ascii n d p
    have hda := bits_data n d p
    obtain ⟨x, y, r, hv⟩ := angV_ex (angOf ⟨#[]⟩ ⟨(dueL z.data.toList o.data.toList (firsts (bitAt n d) p)).toArray⟩)
    have hdl : (⟨(dueL z.data.toList o.data.toList (firsts (bitAt n d) p)).toArray⟩ : ByteArray).size ≤ 9 := by
      show (dueL z.data.toList o.data.toList (firsts (bitAt n d) p)).toArray.size ≤ 9
      rw [List.size_toArray, dueL_length (len_eq z) ((len_eq o).trans c2.symm), firsts_length]
      exact c4
    have hA1 := fun w hE => implAngleOf_any ⟨#[]⟩ ⟨(dueL z.data.toList o.data.toList (firsts (bitAt n d) p)).toArray⟩ w hE
    have hA2 := fun w => specAngleOf_any ⟨#[]⟩ ⟨(dueL z.data.toList o.data.toList (firsts (bitAt n d) p)).toArray⟩ (by decide) (by omega) w
    rw [hv] at hA1 hA2
    have hT : tuneOf n d k p z o = if (bitsOf z).isSome = true ∧ (bitsOf o).isSome = true then angOf ⟨#[]⟩ ⟨(dueL z.data.toList o.data.toList (firsts (bitAt n d) p)).toArray⟩ else none := by
      unfold tuneOf
      by_cases hb : (bitsOf z).isSome = true ∧ (bitsOf o).isSome = true
      · rw [if_pos hb, if_pos ⟨c1, c2, c3, c4, hb.1, hb.2⟩]
      · rw [if_neg hb, if_neg (fun h => hb ⟨h.2.2.2.2.1, h.2.2.2.2.2⟩)]
    generalize (⟨(firsts (bitAt n d) p).toArray⟩ : ByteArray) = q at *
    rw [← hda] at hA1 hA2
    rw [hT]
    constructor
    · intro w hTab hErr
      cases hbz : bitsOf z with
      | none =>
        rw [if_neg (by simp)]
        exact implAngleTune_bits n d k p true z o w hTab hErr hP1 rfl c1 c2 hz9 c4' (.inl hbz)
      | some nz =>
        cases hbo : bitsOf o with
        | none =>
          rw [if_neg (by simp)]
          exact implAngleTune_bits n d k p true z o w hTab hErr hP1 rfl c1 c2 hz9 c4' (.inr hbo)
        | some no =>
          rw [if_pos ⟨rfl, rfl⟩, hv]
          exact implAngleTune_core n d k p true z o w hTab hErr hP1 rfl c1 c2 hz9 c4' nz no hbz hbo q true (by omega) has hB1 x y r hA1
    · intro w
      refine (specAngleTune_core n d k p true z o w hP2 rfl c1 c3 hz9 c2 c4 q true (by omega) hB2 _ _ (l6aNumber_some z (by omega)) (l6aNumber_some o (by omega)) x y r hA2).mono fun e w' h => ⟨?_, h.2⟩
      rw [h.1]
      by_cases hb : (bitsOf z).isSome = true ∧ (bitsOf o).isSome = true
      · rw [if_pos hb, if_pos hb, hv]
      · rw [if_neg hb, if_neg hb]; rfl
  · have hT : tuneOf n d k p z o = none := by
      unfold tuneOf
      rw [if_neg (fun h => hC ⟨h.1, h.2.1, h.2.2.1, h.2.2.2.1⟩)]
    rw [hT, angV_no]
    constructor
    · intro w hTab hErr
      by_cases hno : k ≠ 0 ∨ z.size ≠ o.size ∨ 9 < z.size ∨ 9 < z.size * p
      · exact implAngleTune_no n d k p true z o w hTab hP1 (.inr hno) hp5
      · have hz0 : z.size = 0 := by
          rw [Nat.mul_comm] at hno
          omega
        have ho0 : o.size = 0 := by omega
        obtain ⟨ez, bz⟩ := bits_empty hz0
        obtain ⟨eo, bo⟩ := bits_empty ho0
        have hdue : ∀ l, (⟨(dueL z.data.toList o.data.toList l).toArray⟩ : ByteArray) = ⟨#[]⟩ := fun l => by rw [ez, eo, dueL_none]
        have hA : ∀ (l : List UInt8) w, ErrT w → Calls Tryd.prog 16 #[.string ⟨#[]⟩, .string ⟨(dueL z.data.toList o.data.toList l).toArray⟩] w fun e w' => e = .returned (.tuple #[.agg #[.int .i64 (0 : Int), .int .i64 (0 : Int)], .bool false]) ∧ Below w.heap.size w w' := by
          intro l w hE
          rw [hdue]
          have h := implAngleOf_any ⟨#[]⟩ ⟨#[]⟩ w hE
          rw [angOf_no (by decide)] at h
          exact h
        cases hq : angBits n d p with
        | none =>
          rw [hq] at hB1
          exact implAngleTune_core n d k p true z o w hTab hErr hP1 rfl (by omega) (by omega) (by omega) (by omega) 0 0 bz bo ⟨([] : List UInt8).toArray⟩ false (by decide) (fun i h => absurd h (Nat.not_lt_zero i)) hB1 0 0 false (hA _)
        | some l =>
          have hin : inB p 0 64 = true := by
            cases h : inB (p : Int) 0 64 with
            | true => rfl
            | false => simp [angBits, h] at hq
          have hp64 : (0 : Int) ≤ p ∧ (p : Int) ≤ 64 := by simpa [inB] using hin
          have hl : angBits n d p = some (firsts (bitAt n d) p) := by
            unfold angBits
            rw [hok, hin]
            rfl
          rw [hl] at hB1
          exact implAngleTune_core n d k p true z o w hTab hErr hP1 rfl (by omega) (by omega) (by omega) (by omega) 0 0 bz bo ⟨(firsts (bitAt n d) p).toArray⟩ true (by rw [bits_size]; omega) (bits_ascii n d p) hB1 0 0 false (hA _)
    · intro w
      exact specAngleTune_no n d k p true z o w hP2 (by omega) hp5 hz
/-- of any other -/
theorem tune_bad (a b : Int) (hbad : angleOK a b = false ∨ 5000 < b) (z o : ByteArray) (hz : z.size ≤ 1048576) :
    (∀ w, Tab w → Calls Tryd.prog 5 #[.agg #[.int .i64 a, .int .i64 b], .string z, .string o] w fun e w' => e = .returned (angV none) ∧ Below w.heap.size w w') ∧
    (∀ w, Calls Tryd.prog 6 #[.agg #[.int .i64 a, .int .i64 b], .string z, .string o] w fun e w' => e = .returned (angV none) ∧ Below w.heap.size w w') := by
  constructor
  · intro w hT
    exact implAngleTune_no a b 0 0 false z o w hT (fun w hT => (implAnglePeriod_gen a b w hT).mono fun e w' h => ⟨h.1 hbad, h.2.2⟩) (.inl rfl) (by omega)
  · intro w
    exact specAngleTune_no a b 0 0 false z o w (fun w => (specAnglePeriod_gen a b w).mono fun e w' h => ⟨h.1 hbad, h.2.2⟩) (.inl rfl) (by omega) hz
/-- both alike -/
theorem tune_both (a b : Int) (z o : ByteArray) (hz : z.size ≤ 1048576) (ho : o.size ≤ 1048576) : ∃ v : Option (Nat × Nat),
    (∀ w, Tab w → ErrT w → Calls Tryd.prog 5 #[.agg #[.int .i64 a, .int .i64 b], .string z, .string o] w fun e w' => e = .returned (angV v) ∧ Below w.heap.size w w') ∧
    (∀ w, Calls Tryd.prog 6 #[.agg #[.int .i64 a, .int .i64 b], .string z, .string o] w fun e w' => e = .returned (angV v) ∧ Below w.heap.size w w') := by
  by_cases hbad : angleOK a b = false ∨ 5000 < b
  · obtain ⟨h1, h2⟩ := tune_bad a b hbad z o hz
    exact ⟨none, fun w hT _ => h1 w hT, h2⟩
  · have hok : angleOK a b = true := by
      cases h : angleOK a b with
      | false => exact absurd (.inl h) hbad
      | true => rfl
    obtain ⟨n, d, rfl, rfl, hnd, hd, _⟩ := angleOK_nat hok
    obtain ⟨k, p, hPI⟩ := perIs_exists (d := d) (by omega) (by omega)
    exact ⟨_, tune_good n d k p hok (by omega) hPI z o hz ho⟩
end Go.Proofs.YteegdpnidakjiaaDoor
