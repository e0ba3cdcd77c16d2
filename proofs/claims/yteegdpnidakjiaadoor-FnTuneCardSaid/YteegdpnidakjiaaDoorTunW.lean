/- Walks: the program's AngleTune. -/
import Derived.Test.YteegdpnidakjiaaDoorTunI
namespace Go.Proofs.YteegdpnidakjiaaDoor
open Go.RowKit

theorem Bld.iterAt {B b : Nat} {l : List UInt8} {w : World} (h : Bld B b l w) {k : Nat} {s : ByteArray} {pos : Nat} (hk : w.heap[k]? = some (.stringIter s pos)) (pos' : Nat) : Bld B b l (w.iterAt k s pos') := Lib.IsBuilderF.iterAt h hk pos'
theorem Box.iterAt {w0 W : World} {b : Nat} {C : Array Value} {T : TypeId} (h : Box w0 b C T W) {k : Nat} (hk : w0.heap.size ≤ k) (hne : b ≠ k) (s : ByteArray) (pos : Nat) : Box w0 b C T (W.iterAt k s pos) :=
  ⟨(Lib.iterAt_other W k b s pos hne).trans h.blk, Lib.below_iterAt h.old hk s pos⟩
theorem iterPos_at {w : World} {k : Nat} {s : ByteArray} {pos : Nat} (h : w.heap[k]? = some (.stringIter s pos)) : w.iterPos k = pos := by simp [World.iterPos, h]

set_option maxRecDepth 100000 in
set_option maxHeartbeats 4000000 in
theorem implAngleTune_no (a b : Int) (k p : Nat) (t : Bool) (z o : ByteArray) (w : World) (hT : Tab w)
    (hP : ∀ w, Tab w → Calls Tryd.prog 7 #[.agg #[.int .i64 a, .int .i64 b]] w fun e w' => e = .returned (.tuple #[.int .i64 k, .int .i64 p, .bool t]) ∧ Below w.heap.size w w') (hno : t = false ∨ k ≠ 0 ∨ z.size ≠ o.size ∨ 9 < z.size ∨ 9 < z.size * p) (hp : p ≤ 5000) :
    Calls Tryd.prog 5 #[.agg #[.int .i64 a, .int .i64 b], .string z, .string o] w fun e w' => e = .returned (.tuple #[.agg #[.int .i64 0, .int .i64 0], .bool false]) ∧ Below w.heap.size w w' := by
  have X0 : Box w w.heap.size #[.int .i64 a, .int .i64 b] 24 ((w.alloc (.cells #[.int .i64 a, .int .i64 b] 24)).alloc (.cells #[.int .i64 0, .int .i64 0] 24)) := (Box.new w _ _).alloc _
  have X1 : Box w (w.heap.size + 1) #[.int .i64 0, .int .i64 0] 24 ((w.alloc (.cells #[.int .i64 a, .int .i64 b] 24)).alloc (.cells #[.int .i64 0, .int .i64 0] 24)) := by
    have := (Box.new (w.alloc (.cells #[.int .i64 a, .int .i64 b] 24)) #[.int .i64 0, .int .i64 0] 24).up (w0 := w) ((Below.refl _ _).alloc (Nat.le_refl _) _)
    rwa [World.size_alloc] at this
  have HT := Lib.hid (hT.step (((Below.refl _ w).alloc (Nat.le_refl _) (.cells #[.int .i64 a, .int .i64 b] 24)).alloc (by simp) (.cells #[.int .i64 0, .int .i64 0] 24)))
  have HP := Lib.hid hP
  clear hP hT
  go_enter Tryd.func5, Tryd.ntmps5
  go_wp2_with fail
  refine (HP.out _ HT.out).mono ?_
  rintro e w1 ⟨rfl, hb⟩
  replace X0 := X0.step hb
  replace X1 := X1.step hb
  clear hb HT HP
  have b0 := X0.cell 0 _ rfl
  have b1 := X0.cell 1 _ rfl
  have c0 := X1.cell 0 _ rfl
  have c1 := X1.cell 1 _ rfl
  have f0 := X1.frozen 0
  have f1 := X1.frozen 1
  have HB := Lib.hid X1.old
  clear X0 X1
  cases t with
  | false =>
    go_wp2
    refine bodyPost_ret (v := .tuple #[.agg #[.int .i64 0, .int .i64 0], .bool false]) (by simp [results, Tryd.f5, go_sem, c0, c1]) rfl ⟨rfl, ?_⟩
    exact (HB.out.setCell (p := ⟨w.heap.size + 1, 0, none⟩) (by simp) _).setCell (p := ⟨w.heap.size + 1, 1, none⟩) (by simp) _
  | true =>
    by_cases hk : k = 0
    · have hk1 : ((k : Int) != 0) = false := by simp; omega
      by_cases hs : z.size = o.size
      · have hs1 : ((z.size : Int) != o.size) = false := by simp; omega
        by_cases h9 : 9 < z.size
        · have h9' : (9 : Int) < z.size := by omega
          go_wp2
          refine bodyPost_ret (v := .tuple #[.agg #[.int .i64 0, .int .i64 0], .bool false]) (by simp [results, Tryd.f5, go_sem, c0, c1]) rfl ⟨rfl, ?_⟩
          exact (HB.out.setCell (p := ⟨w.heap.size + 1, 0, none⟩) (by simp) _).setCell (p := ⟨w.heap.size + 1, 1, none⟩) (by simp) _
        · have h9' : ¬ (9 : Int) < o.size := by omega
          obtain ⟨Q, hQ⟩ : ∃ Q : Nat, z.size * p = Q := ⟨_, rfl⟩
          have hQ1 : (o.size : Int) * p = (Q : Int) := by rw [← hQ, hs]; exact (Int.natCast_mul _ _).symm
          have hQ2 : Q ≤ 45000 := by rw [← hQ]; exact Nat.le_trans (Nat.mul_le_mul (show z.size ≤ 9 by omega) hp) (by decide)
          have hQ3 : (9 : Int) < Q := by
            rcases hno with h | h | h | h | h
            · cases h
            · omega
            · omega
            · omega
            · omega
          clear hQ hno
          go_wp2
          refine bodyPost_ret (v := .tuple #[.agg #[.int .i64 0, .int .i64 0], .bool false]) (by simp [results, Tryd.f5, go_sem, c0, c1]) rfl ⟨rfl, ?_⟩
          exact (HB.out.setCell (p := ⟨w.heap.size + 1, 0, none⟩) (by simp) _).setCell (p := ⟨w.heap.size + 1, 1, none⟩) (by simp) _
      · have hs1 : ((z.size : Int) != o.size) = true := by simp; omega
        go_wp2
        refine bodyPost_ret (v := .tuple #[.agg #[.int .i64 0, .int .i64 0], .bool false]) (by simp [results, Tryd.f5, go_sem, c0, c1]) rfl ⟨rfl, ?_⟩
        exact (HB.out.setCell (p := ⟨w.heap.size + 1, 0, none⟩) (by simp) _).setCell (p := ⟨w.heap.size + 1, 1, none⟩) (by simp) _
    · have hk1 : ((k : Int) != 0) = true := by simp; omega
      go_wp2
      refine bodyPost_ret (v := .tuple #[.agg #[.int .i64 0, .int .i64 0], .bool false]) (by simp [results, Tryd.f5, go_sem, c0, c1]) rfl ⟨rfl, ?_⟩
      exact (HB.out.setCell (p := ⟨w.heap.size + 1, 0, none⟩) (by simp) _).setCell (p := ⟨w.heap.size + 1, 1, none⟩) (by simp) _

set_option maxRecDepth 100000 in
set_option maxHeartbeats 4000000 in
theorem implAngleTune_bits (a b : Int) (k p : Nat) (t : Bool) (z o : ByteArray) (w : World) (hT : Tab w) (hE : ErrT w)
    (hP : ∀ w, Tab w → Calls Tryd.prog 7 #[.agg #[.int .i64 a, .int .i64 b]] w fun e w' => e = .returned (.tuple #[.int .i64 k, .int .i64 p, .bool t]) ∧ Below w.heap.size w w') (ht : t = true) (hk : k = 0) (hs : z.size = o.size) (h9 : z.size ≤ 9) (hzp : z.size * p ≤ 9) (hbad : bitsOf z = none ∨ bitsOf o = none) :
    Calls Tryd.prog 5 #[.agg #[.int .i64 a, .int .i64 b], .string z, .string o] w fun e w' => e = .returned (.tuple #[.agg #[.int .i64 0, .int .i64 0], .bool false]) ∧ Below w.heap.size w w' := by
  have X0 : Box w w.heap.size #[.int .i64 a, .int .i64 b] 24 ((w.alloc (.cells #[.int .i64 a, .int .i64 b] 24)).alloc (.cells #[.int .i64 0, .int .i64 0] 24)) := (Box.new w _ _).alloc _
  have X1 : Box w (w.heap.size + 1) #[.int .i64 0, .int .i64 0] 24 ((w.alloc (.cells #[.int .i64 a, .int .i64 b] 24)).alloc (.cells #[.int .i64 0, .int .i64 0] 24)) := by
    have := (Box.new (w.alloc (.cells #[.int .i64 a, .int .i64 b] 24)) #[.int .i64 0, .int .i64 0] 24).up (w0 := w) ((Below.refl _ _).alloc (Nat.le_refl _) _)
    rwa [World.size_alloc] at this
  have HT := Lib.hid (hT.step (((Below.refl _ w).alloc (Nat.le_refl _) (.cells #[.int .i64 a, .int .i64 b] 24)).alloc (by simp) (.cells #[.int .i64 0, .int .i64 0] 24)))
  have HP := Lib.hid hP
  clear hP hT
  subst ht
  have hk1 : ((k : Int) != 0) = false := by simp; omega
  have hs1 : ((z.size : Int) != o.size) = false := by simp; omega
  have h9' : ¬ (9 : Int) < o.size := by omega
  obtain ⟨Q, hQ⟩ : ∃ Q : Nat, z.size * p = Q := ⟨_, rfl⟩
  have hQ1 : (o.size : Int) * p = (Q : Int) := by rw [← hQ, hs]; exact (Int.natCast_mul _ _).symm
  have hQ2 : ¬ (9 : Int) < Q := by omega
  have hQ3 : Q ≤ 9 := by omega
  have HZ := Lib.hid (fun w => readBits_any z (by omega) w)
  have HO := Lib.hid (fun w => readBits_any o (by omega) w)
  have HBAD := Lib.hid hbad
  have HE := Lib.hid hE
  clear hQ hzp hbad hE
  go_enter Tryd.func5, Tryd.ntmps5
  go_wp2_with fail
  refine (HP.out _ HT.out).mono ?_
  rintro e w1 ⟨rfl, hb⟩
  replace X0 := X0.step hb
  replace X1 := X1.step hb
  clear hb HT HP
  have b0 := X0.cell 0 _ rfl
  have b1 := X0.cell 1 _ rfl
  go_wp2_with fail
  refine (HZ.out _).mono ?_
  rintro e w2 ⟨hy, hn, hb⟩
  replace X1 := X1.step hb
  clear X0 b0 b1 hb
  obtain ⟨xz, ez, rfl, hez⟩ : ∃ (xz : Int) (ez : Value), e = .returned (.tuple #[.int .i64 xz, ez]) ∧ (ez = .nilIface ∧ bitsOf z ≠ none ∨ ∃ i : Int, ez = .iface 46 (.agg #[.int .i64 i])) := by
    cases hbz : bitsOf z with
    | none => obtain ⟨j, h⟩ := hn hbz; exact ⟨_, _, h, .inr ⟨_, rfl⟩⟩
    | some m => exact ⟨_, _, hy m hbz, .inl ⟨rfl, fun h => by cases h⟩⟩
  clear hy hn
  go_wp2_with fail
  refine (HO.out _).mono ?_
  rintro e w3 ⟨hy, hn, hb⟩
  replace X1 := X1.step hb
  clear hb
  obtain ⟨xo, eo, rfl, heo⟩ : ∃ (xo : Int) (eo : Value), e = .returned (.tuple #[.int .i64 xo, eo]) ∧ (eo = .nilIface ∧ bitsOf o ≠ none ∨ ∃ i : Int, eo = .iface 46 (.agg #[.int .i64 i])) := by
    cases hbz : bitsOf o with
    | none => obtain ⟨j, h⟩ := hn hbz; exact ⟨_, _, h, .inr ⟨_, rfl⟩⟩
    | some m => exact ⟨_, _, hy m hbz, .inl ⟨rfl, fun h => by cases h⟩⟩
  clear hy hn
  have T := (Box.new w3 #[.int .i64 0] 46).up X1.old
  have htx : w.heap.size + 1 ≠ w3.heap.size := by have := X1.lt; omega
  have htw : w.heap.size ≤ w3.heap.size := X1.old.size
  replace X1 := X1.alloc (.cells #[.int .i64 0] 46)
  have HE3 := HE.out.step X1.old
  rcases hez with ⟨rfl, hz⟩ | ⟨i, rfl⟩
  · rcases heo with ⟨rfl, ho⟩ | ⟨i, rfl⟩
    · exact absurd HBAD.out (fun h => h.elim hz ho)
    · have HA := Lib.hid (as_hit_only i ⟨w3.heap.size, 0, none⟩ (.int .i64 0) _ HE3 (T.cell 0 _ rfl) (T.frozen 0))
      clear T HE3 hz HE
      go_wp2_with fail
      refine (as_nil _ _).mono ?_
      rintro e w4 ⟨rfl, hw⟩
      subst hw
      go_wp2_with fail
      refine HA.out.mono ?_
      rintro e w4 ⟨rfl, hO⟩
      replace X1 := X1.only hO htx htw
      have c0 := X1.cell 0 _ rfl
      have c1 := X1.cell 1 _ rfl
      have f0 := X1.frozen 0
      have f1 := X1.frozen 1
      have HB := Lib.hid X1.old
      clear X1 hO HA
      go_wp2
      refine bodyPost_ret (v := .tuple #[.agg #[.int .i64 0, .int .i64 0], .bool false]) (by simp [results, Tryd.f5, go_sem, c0, c1]) rfl ⟨rfl, ?_⟩
      exact (HB.out.setCell (p := ⟨w.heap.size + 1, 0, none⟩) (by simp) _).setCell (p := ⟨w.heap.size + 1, 1, none⟩) (by simp) _
  · have HA := Lib.hid (as_hit_only i ⟨w3.heap.size, 0, none⟩ (.int .i64 0) _ HE3 (T.cell 0 _ rfl) (T.frozen 0))
    clear T HE3 HE heo
    go_wp2_with fail
    refine HA.out.mono ?_
    rintro e w4 ⟨rfl, hO⟩
    replace X1 := X1.only hO htx htw
    have c0 := X1.cell 0 _ rfl
    have c1 := X1.cell 1 _ rfl
    have f0 := X1.frozen 0
    have f1 := X1.frozen 1
    have HB := Lib.hid X1.old
    clear X1 hO HA
    go_wp2
    refine bodyPost_ret (v := .tuple #[.agg #[.int .i64 0, .int .i64 0], .bool false]) (by simp [results, Tryd.f5, go_sem, c0, c1]) rfl ⟨rfl, ?_⟩
    exact (HB.out.setCell (p := ⟨w.heap.size + 1, 0, none⟩) (by simp) _).setCell (p := ⟨w.heap.size + 1, 1, none⟩) (by simp) _

set_option maxRecDepth 100000 in
set_option maxHeartbeats 4000000 in
theorem implAngleTune_core (a b : Int) (k p : Nat) (t : Bool) (z o : ByteArray) (w : World) (hT : Tab w) (hE : ErrT w)
    (hP : ∀ w, Tab w → Calls Tryd.prog 7 #[.agg #[.int .i64 a, .int .i64 b]] w fun e w' => e = .returned (.tuple #[.int .i64 k, .int .i64 p, .bool t]) ∧ Below w.heap.size w w') (ht : t = true) (hk : k = 0) (hs : z.size = o.size) (h9 : z.size ≤ 9) (hzp : z.size * p ≤ 9) (nz no : Nat) (hbz : bitsOf z = some nz) (hbo : bitsOf o = some no)
    (q : ByteArray) (qb : Bool) (hq : q.size ≤ 64) (hq2 : ∀ i (h : i < q.size), (q[i]'h).toNat < 128) (hQ : ∀ w, Calls Tryd.prog 8 #[.agg #[.int .i64 a, .int .i64 b], .int .i64 p] w fun e w' => e = .returned (.tuple #[.string q, .bool qb]) ∧ Below w.heap.size w w')
    (x y : Int) (r : Bool) (hA : ∀ w, ErrT w → Calls Tryd.prog 16 #[.string ⟨#[]⟩, .string ⟨(dueL z.data.toList o.data.toList q.data.toList).toArray⟩] w fun e w' => e = .returned (.tuple #[.agg #[.int .i64 x, .int .i64 y], .bool r]) ∧ Below w.heap.size w w') :
    Calls Tryd.prog 5 #[.agg #[.int .i64 a, .int .i64 b], .string z, .string o] w fun e w' => e = .returned (.tuple #[.agg #[.int .i64 x, .int .i64 y], .bool r]) ∧ Below w.heap.size w w' := by
  have X0 : Box w w.heap.size #[.int .i64 a, .int .i64 b] 24 ((w.alloc (.cells #[.int .i64 a, .int .i64 b] 24)).alloc (.cells #[.int .i64 0, .int .i64 0] 24)) := (Box.new w _ _).alloc _
  have X1 : Box w (w.heap.size + 1) #[.int .i64 0, .int .i64 0] 24 ((w.alloc (.cells #[.int .i64 a, .int .i64 b] 24)).alloc (.cells #[.int .i64 0, .int .i64 0] 24)) := by
    have := (Box.new (w.alloc (.cells #[.int .i64 a, .int .i64 b] 24)) #[.int .i64 0, .int .i64 0] 24).up (w0 := w) ((Below.refl _ _).alloc (Nat.le_refl _) _)
    rwa [World.size_alloc] at this
  have HT := Lib.hid (hT.step (((Below.refl _ w).alloc (Nat.le_refl _) (.cells #[.int .i64 a, .int .i64 b] 24)).alloc (by simp) (.cells #[.int .i64 0, .int .i64 0] 24)))
  have HP := Lib.hid hP
  clear hP hT
  subst ht
  have hk1 : ((k : Int) != 0) = false := by simp; omega
  have hs1 : ((z.size : Int) != o.size) = false := by simp; omega
  have h9' : ¬ (9 : Int) < o.size := by omega
  obtain ⟨Q, hQe⟩ : ∃ Q : Nat, z.size * p = Q := ⟨_, rfl⟩
  have hQ1 : (o.size : Int) * p = (Q : Int) := by rw [← hQe, hs]; exact (Int.natCast_mul _ _).symm
  have hQ2 : ¬ (9 : Int) < Q := by omega
  have hQ3 : Q ≤ 9 := by omega
  have HZ : Hid (∀ w, Calls Tryd.prog 13 #[.string z] w fun e w' => e = .returned (.tuple #[.int .i64 nz, .nilIface]) ∧ Below w.heap.size w w') := fun w => (readBits_any z (by omega) w).mono fun e w' h => ⟨h.1 nz hbz, h.2.2⟩
  have HO : Hid (∀ w, Calls Tryd.prog 13 #[.string o] w fun e w' => e = .returned (.tuple #[.int .i64 no, .nilIface]) ∧ Below w.heap.size w w') := fun w => (readBits_any o (by omega) w).mono fun e w' h => ⟨h.1 no hbo, h.2.2⟩
  have HE := Lib.hid hE
  have HQ := Lib.hid hQ
  have HA := Lib.hid hA
  have HQ2 := Lib.hid hq2
  clear hQe hzp hE hQ hA hq2 hbz hbo
  go_enter Tryd.func5, Tryd.ntmps5
  go_wp2_with fail
  refine (HP.out _ HT.out).mono ?_
  rintro e w1 ⟨rfl, hb⟩
  replace X0 := X0.step hb
  replace X1 := X1.step hb
  clear hb HT HP
  have b0 := X0.cell 0 _ rfl
  have b1 := X0.cell 1 _ rfl
  go_wp2_with fail
  refine (HZ.out _).mono ?_
  rintro e w2 ⟨rfl, hb⟩
  clear b0 b1
  replace X0 := X0.step hb
  replace X1 := X1.step hb
  clear hb
  go_wp2_with fail
  refine (HO.out _).mono ?_
  rintro e w3 ⟨rfl, hb⟩
  replace X0 := X0.step hb
  replace X1 := X1.step hb
  clear hb
  replace X0 := X0.alloc (.cells #[.int .i64 0] 46)
  replace X1 := X1.alloc (.cells #[.int .i64 0] 46)
  go_wp2_with fail
  refine (as_nil _ _).mono ?_
  rintro e w4 ⟨rfl, hw⟩
  subst hw
  go_wp2_with fail
  refine (as_nil _ _).mono ?_
  rintro e w4 ⟨rfl, hw⟩
  subst hw
  have b0 := X0.cell 0 _ rfl
  have b1 := X0.cell 1 _ rfl
  go_wp2_with fail
  refine (HQ.out _).mono ?_
  rintro e w5 ⟨rfl, hb⟩
  clear b0 b1 X0
  replace X1 := X1.step hb
  clear hb HZ HO HQ
  have hbb : w.heap.size ≤ w5.heap.size := X1.old.size
  have hx5 : w.heap.size + 1 < w5.heap.size := X1.lt
  have HBL := Lib.hid ((Bld.new w5).own (World.grownBy_alloc _ (.stringIter q 0) none) (fun r e => by cases e))
  have hit : ((w5.alloc (.cells #[.pointer none, .slice none 0 0] 51)).alloc (.stringIter q 0)).heap[w5.heap.size + 1]? = some (.stringIter q 0) := by
    have := World.alloc_heap_new (w5.alloc (.cells #[.pointer none, .slice none 0 0] 51)) (.stringIter q 0)
    rwa [World.size_alloc] at this
  have HIT := Lib.hid hit
  have X2 := (X1.alloc (.cells #[.pointer none, .slice none 0 0] 51)).alloc (.stringIter q 0)
  clear hit X1
  go_wp2
  obtain ⟨bb, hbe⟩ : ∃ bb, w5.heap.size = bb := ⟨_, rfl⟩
  have HE5 : Hid (∀ W, Below w.heap.size w W → ErrT W) := fun W h => HE.out.step h
  clear HE
  generalize w5.heap.size = bb' at *
  subst hbe
  go_loopw [20] (fun _ wr => ∃ j : Nat, j ≤ q.size ∧ wr.heap[bb' + 1]? = some (.stringIter q j) ∧ Hid (Bld bb' bb' (dueL z.data.toList o.data.toList (q.data.toList.take j)) wr) ∧ Hid (Box w (w.heap.size + 1) #[.int .i64 0, .int .i64 0] 24 wr)) (fun _ wr => q.size - wr.iterPos (bb' + 1))
  case atStart => exact ⟨0, by omega, HIT.out, HBL, X2⟩
  case round =>
    clear HBL HIT X2
    obtain ⟨j, hj, hit, HB, HX⟩ := hrel
    obtain ⟨wo, rfl⟩ : ∃ wo, wo = wr := ⟨_, rfl⟩
    have hlen : (dueL z.data.toList o.data.toList (q.data.toList.take j)).length ≤ 1000 := by
      rw [dueL_length (len_eq z) ((len_eq o).trans hs.symm), List.length_take, len_eq]
      exact Nat.le_trans (Nat.mul_le_mul (show min j q.size ≤ 64 by omega) h9) (by decide)
    have HL := Lib.hid hlen
    have HPOS := Lib.hid (iterPos_at hit)
    by_cases hp : j < q.size
    · have hnx : ∀ ty, (Instr.next (.pointer (some ⟨bb' + 1, 0, none⟩)) true ty).run Tryd.prog wo = _ := fun ty => Lib.run_next_ascii_at wo (bb' + 1) q j ty hit hp (HQ2.out j hp)
      have HB1 := Lib.hid (HB.out.iterAt hit (j + 1))
      have IT1 := Lib.hid (Lib.iterAt_heap wo (bb' + 1) q j (j + 1) hit)
      have HX1 := Lib.hid (HX.out.iterAt (show w.heap.size ≤ bb' + 1 by omega) (show w.heap.size + 1 ≠ bb' + 1 by omega) q (j + 1))
      have HT := Lib.hid (take_succ_at q j hp)
      clear hit hlen HB HX
      by_cases c48 : (q[j]'hp).toNat = 48
      · have e1 : ((((q[j]'hp).toNat : Nat) : Int) == 48) = true := by simp; omega
        have HD : Hid (dueL z.data.toList o.data.toList (q.data.toList.take (j + 1)) = dueL z.data.toList o.data.toList (q.data.toList.take j) ++ z.data.toList) := by
          show _ = _
          rw [HT.out, dueL_append, show q[j]'hp = 48 from UInt8.toNat.inj c48]; simp [dueL]
        clear c48
        go_wp2_with fail
        refine (WriteString_any bb' bb' _ z _ HB1.out (by have := HL.out; omega) (Nat.le_of_lt HB1.out.lt.1)).mono ?_
        rintro e W2 ⟨rfl, hb', hk'⟩
        have r1 := hk'.block IT1.out (by omega) (fun c fz e => by cases e)
        have r2 := Lib.hid (hk'.block HX1.out.blk (by omega) (fun c fz e => by injection e with _ e _; exact absurd e (by decide)))
        have r3 := Lib.hid (HX1.out.old.trans (hk'.below.mono (by omega)))
        rw [← HD.out] at hb'
        have HB2 := Lib.hid hb'
        have HPOS2 := Lib.hid (iterPos_at r1)
        have R1 := Lib.hid r1
        clear hb' hk' r1
        go_wp2
        go_roundw
        case rel => exact ⟨j + 1, by omega, R1.out, HB2, ⟨r2.out, r3.out⟩⟩
        case measure => rw [HPOS.out, HPOS2.out]; omega
      · have e1 : ((((q[j]'hp).toNat : Nat) : Int) == 48) = false := by simp; omega
        have HD : Hid (dueL z.data.toList o.data.toList (q.data.toList.take (j + 1)) = dueL z.data.toList o.data.toList (q.data.toList.take j) ++ o.data.toList) := by
          show _ = _
          have hne : ¬ q[j]'hp = 48 := fun e => c48 (by rw [e]; rfl)
          rw [HT.out, dueL_append]; simp [dueL, hne]
        clear c48
        go_wp2_with fail
        refine (WriteString_any bb' bb' _ o _ HB1.out (by have := HL.out; omega) (Nat.le_of_lt HB1.out.lt.1)).mono ?_
        rintro e W2 ⟨rfl, hb', hk'⟩
        have r1 := hk'.block IT1.out (by omega) (fun c fz e => by cases e)
        have r2 := Lib.hid (hk'.block HX1.out.blk (by omega) (fun c fz e => by injection e with _ e _; exact absurd e (by decide)))
        have r3 := Lib.hid (HX1.out.old.trans (hk'.below.mono (by omega)))
        rw [← HD.out] at hb'
        have HB2 := Lib.hid hb'
        have HPOS2 := Lib.hid (iterPos_at r1)
        have R1 := Lib.hid r1
        clear hb' hk' r1
        go_wp2
        go_roundw
        case rel => exact ⟨j + 1, by omega, R1.out, HB2, ⟨r2.out, r3.out⟩⟩
        case measure => rw [HPOS.out, HPOS2.out]; omega
    · have hjq : j = q.size := by omega
      have hnx : ∀ ty, (Instr.next (.pointer (some ⟨bb' + 1, 0, none⟩)) true ty).run Tryd.prog wo = _ := fun ty => Lib.run_next_end_at wo (bb' + 1) q j ty hit hp
      have hall : q.data.toList.take j = q.data.toList := List.take_of_length_le (by rw [len_eq]; omega)
      rw [hall] at HB
      clear hall hjq hlen HL HPOS
      go_wp2_with fail
      refine (String_any bb' bb' _ _ HB.out (Nat.le_of_lt HB.out.lt.1)).mono ?_
      rintro e W2 ⟨rfl, hk'⟩
      have X3 : Box w (w.heap.size + 1) #[.int .i64 0, .int .i64 0] 24 W2 := ⟨hk'.block HX.out.blk (by omega) (fun c fz e => by injection e with _ e _; exact absurd e (by decide)), HX.out.old.trans (hk'.below.mono (by omega))⟩
      clear HB HX hit hk' hnx
      generalize hdue : (⟨(dueL z.data.toList o.data.toList q.data.toList).toArray⟩ : ByteArray) = due at *
      go_wp2_with fail
      refine (HA.out _ (HE5.out _ X3.old)).mono ?_
      rintro e W3 ⟨rfl, hb⟩
      replace X3 := X3.step hb
      have c0 := X3.cell 0 _ rfl
      have c1 := X3.cell 1 _ rfl
      have f0 := X3.frozen 0
      have f1 := X3.frozen 1
      have HB := Lib.hid X3.old
      clear X3 hb
      go_wp2
      refine bodyPost_ret (v := .tuple #[.agg #[.int .i64 x, .int .i64 y], .bool r]) (by simp [results, Tryd.f5, go_sem, c0, c1]) rfl ⟨rfl, ?_⟩
      exact (HB.out.setCell (p := ⟨w.heap.size + 1, 0, none⟩) (by simp) _).setCell (p := ⟨w.heap.size + 1, 1, none⟩) (by simp) _

end Go.Proofs.YteegdpnidakjiaaDoor
