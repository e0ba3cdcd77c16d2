/- Walks: the reference's AngleTune. -/
import Derived.Test.YteegdpnidakjiaaDoorTunI
import Derived.Test.YteegdpnidakjiaaDoorAngOs
namespace Go.Proofs.YteegdpnidakjiaaDoor
open Go.RowKit

theorem cat_list (l : List UInt8) (s : ByteArray) : (⟨l.toArray⟩ : ByteArray) ++ s = ⟨(l ++ s.data.toList).toArray⟩ := by
  simp [ByteArray.ext_iff]

set_option maxRecDepth 100000 in
set_option maxHeartbeats 4000000 in
theorem specAngleTune_no (a b : Int) (k p : Nat) (t : Bool) (z o : ByteArray) (w : World)
    (hP : ∀ w, Calls Tryd.prog 18 #[.agg #[.int .i64 a, .int .i64 b]] w fun e w' => e = .returned (.tuple #[.int .i64 k, .int .i64 p, .bool t]) ∧ Below w.heap.size w w') (hno : t = false ∨ k ≠ 0 ∨ z.size = 0 ∨ z.size ≠ o.size ∨ 9 < p * z.size) (hp : p ≤ 5000) (hz : z.size ≤ 1048576) :
    Calls Tryd.prog 6 #[.agg #[.int .i64 a, .int .i64 b], .string z, .string o] w fun e w' => e = .returned (.tuple #[.agg #[.int .i64 0, .int .i64 0], .bool false]) ∧ Below w.heap.size w w' := by
  have X0 : Box w w.heap.size #[.int .i64 a, .int .i64 b] 24 ((w.alloc (.cells #[.int .i64 a, .int .i64 b] 24)).alloc (.cells #[.int .i64 0, .int .i64 0] 24)) := (Box.new w _ _).alloc _
  have X1 : Box w (w.heap.size + 1) #[.int .i64 0, .int .i64 0] 24 ((w.alloc (.cells #[.int .i64 a, .int .i64 b] 24)).alloc (.cells #[.int .i64 0, .int .i64 0] 24)) := by
    have := (Box.new (w.alloc (.cells #[.int .i64 a, .int .i64 b] 24)) #[.int .i64 0, .int .i64 0] 24).up (w0 := w) ((Below.refl _ _).alloc (Nat.le_refl _) _)
    rwa [World.size_alloc] at this
  have HP := Lib.hid hP
  clear hP
  go_enter Tryd.func6, Tryd.ntmps6
  go_wp2_with fail
  refine (HP.out _).mono ?_
  rintro e w1 ⟨rfl, hb⟩
  replace X0 := X0.step hb
  replace X1 := X1.step hb
  clear hb HP
  have b0 := X0.cell 0 _ rfl
  have b1 := X0.cell 1 _ rfl
  have c0 := X1.cell 0 _ rfl
  have c1 := X1.cell 1 _ rfl
  have f0 := X1.frozen 0
  have f1 := X1.frozen 1
  have HB := Lib.hid X1.old
  clear X0 X1
  cases t with
  | false =>
    go_wp2
    refine bodyPost_ret (v := .tuple #[.agg #[.int .i64 0, .int .i64 0], .bool false]) (by simp [results, Tryd.f6, go_sem, c0, c1]) rfl ⟨rfl, ?_⟩
    exact (HB.out.setCell (p := ⟨w.heap.size + 1, 0, none⟩) (by simp) _).setCell (p := ⟨w.heap.size + 1, 1, none⟩) (by simp) _
  | true =>
    by_cases hk : k = 0
    · have hk1 : ((k : Int) != 0) = false := by simp; omega
      by_cases h0 : z.size = 0
      · have h0' : ((z.size : Int) == 0) = true := by rw [beq_iff_eq]; omega
        clear hno
        go_wp2
        refine bodyPost_ret (v := .tuple #[.agg #[.int .i64 0, .int .i64 0], .bool false]) (by simp [results, Tryd.f6, go_sem, c0, c1]) rfl ⟨rfl, ?_⟩
        exact (HB.out.setCell (p := ⟨w.heap.size + 1, 0, none⟩) (by simp) _).setCell (p := ⟨w.heap.size + 1, 1, none⟩) (by simp) _
      · have h0' : ((z.size : Int) == 0) = false := by rw [beq_eq_false_iff_ne]; omega
        by_cases hs : z.size = o.size
        · have hs1 : ((z.size : Int) != o.size) = false := by simp; omega
          obtain ⟨m, hm⟩ : ∃ m : Nat, z.size = m := ⟨_, rfl⟩
          obtain ⟨Q, hQ⟩ : ∃ Q : Nat, p * m = Q := ⟨_, rfl⟩
          have hQ1 : (p : Int) * m = (Q : Int) := by rw [← hQ]; exact (Int.natCast_mul _ _).symm
          have hQ2 : Q ≤ 5242880000 := by rw [← hQ]; exact Nat.le_trans (Nat.mul_le_mul hp (show m ≤ 1048576 by omega)) (by decide)
          rw [hm, hQ] at hno
          have hQ3 : (9 : Int) < Q := by
            rcases hno with h | h | h | h | h
            · cases h
            · omega
            · omega
            · omega
            · omega
          have hos : o.size = m := by omega
          clear hQ hno hs
          go_wp2
          refine bodyPost_ret (v := .tuple #[.agg #[.int .i64 0, .int .i64 0], .bool false]) (by simp [results, Tryd.f6, go_sem, c0, c1]) rfl ⟨rfl, ?_⟩
          exact (HB.out.setCell (p := ⟨w.heap.size + 1, 0, none⟩) (by simp) _).setCell (p := ⟨w.heap.size + 1, 1, none⟩) (by simp) _
        · have hs1 : ((z.size : Int) != o.size) = true := by simp; omega
          clear hno
          go_wp2
          refine bodyPost_ret (v := .tuple #[.agg #[.int .i64 0, .int .i64 0], .bool false]) (by simp [results, Tryd.f6, go_sem, c0, c1]) rfl ⟨rfl, ?_⟩
          exact (HB.out.setCell (p := ⟨w.heap.size + 1, 0, none⟩) (by simp) _).setCell (p := ⟨w.heap.size + 1, 1, none⟩) (by simp) _
    · have hk1 : ((k : Int) != 0) = true := by simp; omega
      clear hno
      go_wp2
      refine bodyPost_ret (v := .tuple #[.agg #[.int .i64 0, .int .i64 0], .bool false]) (by simp [results, Tryd.f6, go_sem, c0, c1]) rfl ⟨rfl, ?_⟩
      exact (HB.out.setCell (p := ⟨w.heap.size + 1, 0, none⟩) (by simp) _).setCell (p := ⟨w.heap.size + 1, 1, none⟩) (by simp) _

set_option maxRecDepth 100000 in
set_option maxHeartbeats 4000000 in
theorem specAngleTune_core (a b : Int) (k p : Nat) (t : Bool) (z o : ByteArray) (w : World)
    (hP : ∀ w, Calls Tryd.prog 18 #[.agg #[.int .i64 a, .int .i64 b]] w fun e w' => e = .returned (.tuple #[.int .i64 k, .int .i64 p, .bool t]) ∧ Below w.heap.size w w') (ht : t = true) (hk : k = 0) (h1 : 1 ≤ z.size) (h9 : z.size ≤ 9) (hs : z.size = o.size) (hzp : p * z.size ≤ 9)
    (q : ByteArray) (qb : Bool) (hq : q.size ≤ 64) (hQ : ∀ w, Calls Tryd.prog 19 #[.agg #[.int .i64 a, .int .i64 b], .int .i64 p] w fun e w' => e = .returned (.tuple #[.string q, .bool qb]) ∧ Below w.heap.size w w')
    (pz po : Bool) (hZ : ∀ w, Calls Tryd.prog 20 #[.string z] w fun e w' => (∃ x : Int, e = .returned (.tuple #[.int .i64 x, .bool pz])) ∧ Drw w w') (hO : ∀ w, Calls Tryd.prog 20 #[.string o] w fun e w' => (∃ x : Int, e = .returned (.tuple #[.int .i64 x, .bool po])) ∧ Drw w w')
    (x y : Int) (r : Bool) (hA : ∀ w, Calls Tryd.prog 21 #[.string ⟨#[]⟩, .string ⟨(dueL z.data.toList o.data.toList q.data.toList).toArray⟩] w fun e w' => e = .returned (.tuple #[.agg #[.int .i64 x, .int .i64 y], .bool r]) ∧ Below w.heap.size w w') :
    Calls Tryd.prog 6 #[.agg #[.int .i64 a, .int .i64 b], .string z, .string o] w fun e w' => e = .returned (if pz = true ∧ po = true then .tuple #[.agg #[.int .i64 x, .int .i64 y], .bool r] else .tuple #[.agg #[.int .i64 0, .int .i64 0], .bool false]) ∧ Below w.heap.size w w' := by
  have X0 : Box w w.heap.size #[.int .i64 a, .int .i64 b] 24 ((w.alloc (.cells #[.int .i64 a, .int .i64 b] 24)).alloc (.cells #[.int .i64 0, .int .i64 0] 24)) := (Box.new w _ _).alloc _
  have X1 : Box w (w.heap.size + 1) #[.int .i64 0, .int .i64 0] 24 ((w.alloc (.cells #[.int .i64 a, .int .i64 b] 24)).alloc (.cells #[.int .i64 0, .int .i64 0] 24)) := by
    have := (Box.new (w.alloc (.cells #[.int .i64 a, .int .i64 b] 24)) #[.int .i64 0, .int .i64 0] 24).up (w0 := w) ((Below.refl _ _).alloc (Nat.le_refl _) _)
    rwa [World.size_alloc] at this
  have HP := Lib.hid hP
  clear hP
  subst ht
  obtain ⟨m, hm⟩ : ∃ m : Nat, z.size = m := ⟨_, rfl⟩
  have hos : o.size = m := by omega
  have hk1 : ((k : Int) != 0) = false := by simp; omega
  have h0' : ((m : Int) == 0) = false := by rw [beq_eq_false_iff_ne]; omega
  have hs1 : ((m : Int) != m) = false := by simp
  obtain ⟨Q, hQe⟩ : ∃ Q : Nat, p * m = Q := ⟨_, rfl⟩
  have hQ1 : (p : Int) * m = (Q : Int) := by rw [← hQe]; exact (Int.natCast_mul _ _).symm
  have hQ3 : Q ≤ 9 := by rw [← hQe, ← hm]; exact hzp
  have hm9 : m ≤ 9 := by omega
  have HZ := Lib.hid hZ
  have HO := Lib.hid hO
  have HQ := Lib.hid hQ
  have HA := Lib.hid hA
  clear hQe hzp hQ hA hs h9 h1 hZ hO

  cases pz with
  | false =>
    rw [if_neg (by simp)]
    go_enter Tryd.func6, Tryd.ntmps6
    go_wp2_with fail
    refine (HP.out _).mono ?_
    rintro e w1 ⟨rfl, hb⟩
    replace X0 := X0.step hb
    replace X1 := X1.step hb
    clear hb HP
    have b0 := X0.cell 0 _ rfl
    have b1 := X0.cell 1 _ rfl
    go_wp2_with fail
    refine (HQ.out _).mono ?_
    rintro e w2 ⟨rfl, hb⟩
    clear b0 b1 X0 HQ
    replace X1 := X1.step hb
    clear hb
    go_wp2
    go_loop [13, 14] (fun t i => ∃ (j : Nat) (s : ByteArray), j ≤ q.size ∧ i = .int .i64 j ∧ t = .string s ∧ s.size ≤ 9 * j ∧ Hid (s = ⟨(dueL z.data.toList o.data.toList (q.data.toList.take j)).toArray⟩)) (fun _ i => (q.size - intOf i).toNat)
    case atStart => exact ⟨0, _, by omega, rfl, rfl, by decide, rfl⟩
    case round =>
      obtain ⟨j, s, hj, rfl, rfl, hsz, HS⟩ := hrel
      by_cases hp : j < q.size
      · have hp1 : (j : Int) < q.size := by omega
        have HT := Lib.hid (take_succ_at q j hp)
        have hz9 : (s ++ z).size ≤ 9 * (j + 1) := by rw [ByteArray.size_append]; omega
        have ho9 : (s ++ o).size ≤ 9 * (j + 1) := by rw [ByteArray.size_append]; omega
        have HZ9 := Lib.hid hz9
        have HO9 := Lib.hid ho9
        clear hz9 ho9
        by_cases c48 : (q[j]'hp).toNat = 48
        · have e1 : ((((q[j]'hp).toNat : Nat) : Int) == 48) = true := by simp; omega
          have HD : Hid (s ++ z = ⟨(dueL z.data.toList o.data.toList (q.data.toList.take (j + 1))).toArray⟩) := by
            show _ = _
            rw [HT.out, dueL_append, show q[j]'hp = 48 from UInt8.toNat.inj c48, HS.out, cat_list]; simp [dueL]
          clear c48
          go_wp2
          go_round
          case rel => exact ⟨j + 1, _, by omega, by go_num, rfl, HZ9.out, HD⟩
          case measure => simp [intOf]; omega
        · have e1 : ((((q[j]'hp).toNat : Nat) : Int) == 48) = false := by simp; omega
          have HD : Hid (s ++ o = ⟨(dueL z.data.toList o.data.toList (q.data.toList.take (j + 1))).toArray⟩) := by
            show _ = _
            have hne : ¬ q[j]'hp = 48 := fun e => c48 (by rw [e]; rfl)
            rw [HT.out, dueL_append, HS.out, cat_list]; simp [dueL, hne]
          clear c48
          go_wp2
          go_round
          case rel => exact ⟨j + 1, _, by omega, by go_num, rfl, HO9.out, HD⟩
          case measure => simp [intOf]; omega
      · have hjq : j = q.size := by omega
        have hp1 : ¬ (j : Int) < q.size := by omega
        have hall : q.data.toList.take j = q.data.toList := List.take_of_length_le (by rw [len_eq]; omega)
        rw [hall] at HS
        have hA2 : Hid (∀ w, Calls Tryd.prog 21 #[.string ⟨#[]⟩, .string s] w fun e w' => e = .returned (.tuple #[.agg #[.int .i64 x, .int .i64 y], .bool r]) ∧ Below w.heap.size w w') := by
          rw [HS.out]; exact HA.out
        clear hall HS HA hjq
        go_wp2_with fail
        refine (HZ.out _).mono ?_
        rintro e w3 ⟨⟨xz, rfl⟩, hb⟩
        replace X1 := X1.step (hb.below _)
        clear hb
        go_wp2_with fail
        refine (HO.out _).mono ?_
        rintro e w4 ⟨⟨xo, rfl⟩, hb⟩
        replace X1 := X1.step (hb.below _)
        clear hb HZ HO
        have c0 := X1.cell 0 _ rfl
        have c1 := X1.cell 1 _ rfl
        have f0 := X1.frozen 0
        have f1 := X1.frozen 1
        have HB := Lib.hid X1.old
        clear X1
        go_wp2
        refine bodyPost_ret (v := .tuple #[.agg #[.int .i64 0, .int .i64 0], .bool false]) (by simp [results, Tryd.f6, go_sem, c0, c1]) rfl ⟨rfl, ?_⟩
        exact (HB.out.setCell (p := ⟨w.heap.size + 1, 0, none⟩) (by simp) _).setCell (p := ⟨w.heap.size + 1, 1, none⟩) (by simp) _
  | true =>
    cases po with
    | false =>
      rw [if_neg (by simp)]
      go_enter Tryd.func6, Tryd.ntmps6
      go_wp2_with fail
      refine (HP.out _).mono ?_
      rintro e w1 ⟨rfl, hb⟩
      replace X0 := X0.step hb
      replace X1 := X1.step hb
      clear hb HP
      have b0 := X0.cell 0 _ rfl
      have b1 := X0.cell 1 _ rfl
      go_wp2_with fail
      refine (HQ.out _).mono ?_
      rintro e w2 ⟨rfl, hb⟩
      clear b0 b1 X0 HQ
      replace X1 := X1.step hb
      clear hb
      go_wp2
      go_loop [13, 14] (fun t i => ∃ (j : Nat) (s : ByteArray), j ≤ q.size ∧ i = .int .i64 j ∧ t = .string s ∧ s.size ≤ 9 * j ∧ Hid (s = ⟨(dueL z.data.toList o.data.toList (q.data.toList.take j)).toArray⟩)) (fun _ i => (q.size - intOf i).toNat)
      case atStart => exact ⟨0, _, by omega, rfl, rfl, by decide, rfl⟩
      case round =>
        obtain ⟨j, s, hj, rfl, rfl, hsz, HS⟩ := hrel
        by_cases hp : j < q.size
        · have hp1 : (j : Int) < q.size := by omega
          have HT := Lib.hid (take_succ_at q j hp)
          have hz9 : (s ++ z).size ≤ 9 * (j + 1) := by rw [ByteArray.size_append]; omega
          have ho9 : (s ++ o).size ≤ 9 * (j + 1) := by rw [ByteArray.size_append]; omega
          have HZ9 := Lib.hid hz9
          have HO9 := Lib.hid ho9
          clear hz9 ho9
          by_cases c48 : (q[j]'hp).toNat = 48
          · have e1 : ((((q[j]'hp).toNat : Nat) : Int) == 48) = true := by simp; omega
            have HD : Hid (s ++ z = ⟨(dueL z.data.toList o.data.toList (q.data.toList.take (j + 1))).toArray⟩) := by
              show _ = _
              rw [HT.out, dueL_append, show q[j]'hp = 48 from UInt8.toNat.inj c48, HS.out, cat_list]; simp [dueL]
            clear c48
            go_wp2
            go_round
            case rel => exact ⟨j + 1, _, by omega, by go_num, rfl, HZ9.out, HD⟩
            case measure => simp [intOf]; omega
          · have e1 : ((((q[j]'hp).toNat : Nat) : Int) == 48) = false := by simp; omega
            have HD : Hid (s ++ o = ⟨(dueL z.data.toList o.data.toList (q.data.toList.take (j + 1))).toArray⟩) := by
              show _ = _
              have hne : ¬ q[j]'hp = 48 := fun e => c48 (by rw [e]; rfl)
              rw [HT.out, dueL_append, HS.out, cat_list]; simp [dueL, hne]
            clear c48
            go_wp2
            go_round
            case rel => exact ⟨j + 1, _, by omega, by go_num, rfl, HO9.out, HD⟩
            case measure => simp [intOf]; omega
        · have hjq : j = q.size := by omega
          have hp1 : ¬ (j : Int) < q.size := by omega
          have hall : q.data.toList.take j = q.data.toList := List.take_of_length_le (by rw [len_eq]; omega)
          rw [hall] at HS
          have hA2 : Hid (∀ w, Calls Tryd.prog 21 #[.string ⟨#[]⟩, .string s] w fun e w' => e = .returned (.tuple #[.agg #[.int .i64 x, .int .i64 y], .bool r]) ∧ Below w.heap.size w w') := by
            rw [HS.out]; exact HA.out
          clear hall HS HA hjq
          go_wp2_with fail
          refine (HZ.out _).mono ?_
          rintro e w3 ⟨⟨xz, rfl⟩, hb⟩
          replace X1 := X1.step (hb.below _)
          clear hb
          go_wp2_with fail
          refine (HO.out _).mono ?_
          rintro e w4 ⟨⟨xo, rfl⟩, hb⟩
          replace X1 := X1.step (hb.below _)
          clear hb HZ HO
          have c0 := X1.cell 0 _ rfl
          have c1 := X1.cell 1 _ rfl
          have f0 := X1.frozen 0
          have f1 := X1.frozen 1
          have HB := Lib.hid X1.old
          clear X1
          go_wp2
          refine bodyPost_ret (v := .tuple #[.agg #[.int .i64 0, .int .i64 0], .bool false]) (by simp [results, Tryd.f6, go_sem, c0, c1]) rfl ⟨rfl, ?_⟩
          exact (HB.out.setCell (p := ⟨w.heap.size + 1, 0, none⟩) (by simp) _).setCell (p := ⟨w.heap.size + 1, 1, none⟩) (by simp) _
    | true =>
      rw [if_pos ⟨rfl, rfl⟩]
      go_enter Tryd.func6, Tryd.ntmps6
      go_wp2_with fail
      refine (HP.out _).mono ?_
      rintro e w1 ⟨rfl, hb⟩
      replace X0 := X0.step hb
      replace X1 := X1.step hb
      clear hb HP
      have b0 := X0.cell 0 _ rfl
      have b1 := X0.cell 1 _ rfl
      go_wp2_with fail
      refine (HQ.out _).mono ?_
      rintro e w2 ⟨rfl, hb⟩
      clear b0 b1 X0 HQ
      replace X1 := X1.step hb
      clear hb
      go_wp2
      go_loop [13, 14] (fun t i => ∃ (j : Nat) (s : ByteArray), j ≤ q.size ∧ i = .int .i64 j ∧ t = .string s ∧ s.size ≤ 9 * j ∧ Hid (s = ⟨(dueL z.data.toList o.data.toList (q.data.toList.take j)).toArray⟩)) (fun _ i => (q.size - intOf i).toNat)
      case atStart => exact ⟨0, _, by omega, rfl, rfl, by decide, rfl⟩
      case round =>
        obtain ⟨j, s, hj, rfl, rfl, hsz, HS⟩ := hrel
        by_cases hp : j < q.size
        · have hp1 : (j : Int) < q.size := by omega
          have HT := Lib.hid (take_succ_at q j hp)
          have hz9 : (s ++ z).size ≤ 9 * (j + 1) := by rw [ByteArray.size_append]; omega
          have ho9 : (s ++ o).size ≤ 9 * (j + 1) := by rw [ByteArray.size_append]; omega
          have HZ9 := Lib.hid hz9
          have HO9 := Lib.hid ho9
          clear hz9 ho9
          by_cases c48 : (q[j]'hp).toNat = 48
          · have e1 : ((((q[j]'hp).toNat : Nat) : Int) == 48) = true := by simp; omega
            have HD : Hid (s ++ z = ⟨(dueL z.data.toList o.data.toList (q.data.toList.take (j + 1))).toArray⟩) := by
              show _ = _
              rw [HT.out, dueL_append, show q[j]'hp = 48 from UInt8.toNat.inj c48, HS.out, cat_list]; simp [dueL]
            clear c48
            go_wp2
            go_round
            case rel => exact ⟨j + 1, _, by omega, by go_num, rfl, HZ9.out, HD⟩
            case measure => simp [intOf]; omega
          · have e1 : ((((q[j]'hp).toNat : Nat) : Int) == 48) = false := by simp; omega
            have HD : Hid (s ++ o = ⟨(dueL z.data.toList o.data.toList (q.data.toList.take (j + 1))).toArray⟩) := by
              show _ = _
              have hne : ¬ q[j]'hp = 48 := fun e => c48 (by rw [e]; rfl)
              rw [HT.out, dueL_append, HS.out, cat_list]; simp [dueL, hne]
            clear c48
            go_wp2
            go_round
            case rel => exact ⟨j + 1, _, by omega, by go_num, rfl, HO9.out, HD⟩
            case measure => simp [intOf]; omega
        · have hjq : j = q.size := by omega
          have hp1 : ¬ (j : Int) < q.size := by omega
          have hall : q.data.toList.take j = q.data.toList := List.take_of_length_le (by rw [len_eq]; omega)
          rw [hall] at HS
          have hA2 : Hid (∀ w, Calls Tryd.prog 21 #[.string ⟨#[]⟩, .string s] w fun e w' => e = .returned (.tuple #[.agg #[.int .i64 x, .int .i64 y], .bool r]) ∧ Below w.heap.size w w') := by
            rw [HS.out]; exact HA.out
          clear hall HS HA hjq
          go_wp2_with fail
          refine (HZ.out _).mono ?_
          rintro e w3 ⟨⟨xz, rfl⟩, hb⟩
          replace X1 := X1.step (hb.below _)
          clear hb
          go_wp2_with fail
          refine (HO.out _).mono ?_
          rintro e w4 ⟨⟨xo, rfl⟩, hb⟩
          replace X1 := X1.step (hb.below _)
          clear hb HZ HO
          go_wp2_with fail
          refine (hA2.out _).mono ?_
          rintro e w5 ⟨rfl, hb⟩
          replace X1 := X1.step hb
          have c0 := X1.cell 0 _ rfl
          have c1 := X1.cell 1 _ rfl
          have f0 := X1.frozen 0
          have f1 := X1.frozen 1
          have HB := Lib.hid X1.old
          clear X1 hb
          go_wp2
          refine bodyPost_ret (v := .tuple #[.agg #[.int .i64 x, .int .i64 y], .bool r]) (by simp [results, Tryd.f6, go_sem, c0, c1]) rfl ⟨rfl, ?_⟩
          exact (HB.out.setCell (p := ⟨w.heap.size + 1, 0, none⟩) (by simp) _).setCell (p := ⟨w.heap.size + 1, 1, none⟩) (by simp) _

end Go.Proofs.YteegdpnidakjiaaDoor
