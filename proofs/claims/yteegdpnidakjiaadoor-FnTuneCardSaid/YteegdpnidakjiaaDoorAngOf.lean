/- Walks: angles of texts of bits. -/
import Derived.Test.YteegdpnidakjiaaDoorAngM
import Derived.Test.YteegdpnidakjiaaDoorAngD
import Derived.Test.YteegdpnidakjiaaDoorBits
import Derived.Test.YteegdpnidakjiaaDoorErrAs
namespace Go.Proofs.YteegdpnidakjiaaDoor
open Go.RowKit

/-- the angle of two texts of bits -/
def angOf (f s : ByteArray) : Option (Nat × Nat) :=
  match bitsOf f, bitsOf s with
  | some a, some b => if f.size ≤ 9 ∧ 1 ≤ s.size ∧ s.size ≤ 9 ∧ b ≠ 2 ^ s.size - 1 then some (lowN (a * (2 ^ s.size - 1) + b) ((2 ^ s.size - 1) * 2 ^ f.size), lowD (a * (2 ^ s.size - 1) + b) ((2 ^ s.size - 1) * 2 ^ f.size)) else none
  | _, _ => none
def angV : Option (Nat × Nat) → Value
  | some (x, y) => .tuple #[.agg #[.int .i64 x, .int .i64 y], .bool true]
  | none => .tuple #[.agg #[.int .i64 0, .int .i64 0], .bool false]
theorem angOf_no {f s : ByteArray} (h : ¬ (f.size ≤ 9 ∧ 1 ≤ s.size ∧ s.size ≤ 9)) : angOf f s = none := by
  unfold angOf
  split
  · rw [if_neg (fun k => h ⟨k.1, k.2.1, k.2.2.1⟩)]
  · rfl
theorem angOf_f {f s : ByteArray} (h : bitsOf f = none) : angOf f s = none := by
  unfold angOf; rw [h]
theorem angOf_s {f s : ByteArray} (h : bitsOf s = none) : angOf f s = none := by
  unfold angOf; rw [h]; cases bitsOf f <;> rfl
theorem angOf_yes {f s : ByteArray} {a b : Nat} (hf : bitsOf f = some a) (hs : bitsOf s = some b) (h : f.size ≤ 9 ∧ 1 ≤ s.size ∧ s.size ≤ 9) : angOf f s =
    if b = 2 ^ s.size - 1 then none else some (lowN (a * (2 ^ s.size - 1) + b) ((2 ^ s.size - 1) * 2 ^ f.size), lowD (a * (2 ^ s.size - 1) + b) ((2 ^ s.size - 1) * 2 ^ f.size)) := by
  unfold angOf
  rw [hf, hs]
  simp only
  by_cases hb : b = 2 ^ s.size - 1
  · rw [if_neg (fun k => k.2.2.2 hb), if_pos hb]
  · rw [if_pos ⟨h.1, h.2.1, h.2.2, hb⟩, if_neg hb]
/-- the numbers of an angle of bits -/
theorem of_nums {k m a : Nat} (hk : k ≤ 9) (h1 : 1 ≤ m) (hm : m ≤ 9) (ha : a < 2 ^ k) :
    2 ≤ 2 ^ m ∧ 2 ^ m ≤ 512 ∧ 2 ^ k ≤ 512 ∧ 1 ≤ 2 ^ k ∧ a * (2 ^ m - 1) ≤ 261121 ∧ (2 ^ m - 1) * 2 ^ k ≤ 261632 ∧ 1 ≤ (2 ^ m - 1) * 2 ^ k := by
  have e1 : 2 ^ 1 ≤ 2 ^ m := Nat.pow_le_pow_right (by omega) h1
  have e2 : 2 ^ m ≤ 2 ^ 9 := Nat.pow_le_pow_right (by omega) hm
  have e3 : 2 ^ k ≤ 2 ^ 9 := Nat.pow_le_pow_right (by omega) hk
  have e4 : 1 ≤ 2 ^ k := Nat.one_le_two_pow
  have e5 : a * (2 ^ m - 1) ≤ 511 * 511 := Nat.mul_le_mul (by omega) (by omega)
  have e6 : (2 ^ m - 1) * 2 ^ k ≤ 511 * 512 := Nat.mul_le_mul (by omega) (by omega)
  have e7 : 1 * 1 ≤ (2 ^ m - 1) * 2 ^ k := Nat.mul_le_mul (by omega) e4
  exact ⟨by omega, by omega, by omega, e4, by omega, by omega, by omega⟩
theorem wrap_round (m R : Nat) (hR : 2 ^ m - 1 = R) (h1 : 2 ≤ 2 ^ m) (h2 : 2 ^ m ≤ 512) : wrap64 (wrap64 ((2 : Int) ^ m) - 1) = (R : Int) := by
  have q1 : ((2 : Int) ^ m) = ((2 ^ m : Nat) : Int) := by simp
  rw [q1]
  generalize 2 ^ m = M at *
  unfold wrap64
  omega
theorem mul_pow_cast (R k : Nat) : (R : Int) * (2 : Int) ^ k = ((R * 2 ^ k : Nat) : Int) := by
  have q2 : ((2 : Int) ^ k) = ((2 ^ k : Nat) : Int) := by simp
  rw [q2]; exact (Int.natCast_mul _ _).symm
/-- the variable of errors that holds the type error -/
def ErrT (w : World) : Prop := w.cell? ⟨0, 0, none⟩ = some (.iface 90 (.agg #[.pointer (some ⟨3, 42, none⟩)]))
theorem ErrT.step {w w' : World} (h : ErrT w) (k : Below w.heap.size w w') : ErrT w' := (k.cell (World.block_lt_of_cell? w _ h)).trans h
theorem Only.alloc {b : Nat} {u v : World} (h : Only b u v) (o : Obj) : Only b u (v.alloc o) := h.trans (Only.of_below ((Below.refl _ _).alloc (Nat.le_refl _) o))
theorem Only.set1 (u : World) (p : Addr) (x : Value) : Only p.block u (u.setCell p x) := ⟨rfl, rfl, rfl, by rw [size_set]; exact Nat.le_refl _, fun i _ hne => Below.heap_setCell _ _ _ _ hne⟩
theorem as_hit_only (e : Int) (t : Addr) (old : Value) (w : World) (hg : ErrT w) (ht0 : w.cell? t = some old) (hf0 : w.frozen? t = false) :
    Calls Tryd.prog 14 #[.iface 46 (.agg #[.int .i64 e]), .iface 48 (.pointer (some t))] w fun ev w' => ev = .returned (.bool true) ∧ Only t.block w w' := by
  refine (as_hit e t old w hg ht0 hf0).mono ?_
  rintro ev w' ⟨rfl, rfl⟩
  refine ⟨rfl, ?_⟩
  exact (((((Only.refl t.block w).alloc _).alloc _).alloc _).alloc _).trans (Only.set1 _ t _)
theorem angV_no : angV none = .tuple #[.agg #[.int .i64 0, .int .i64 0], .bool false] := rfl
theorem str_empty (s : ByteArray) : s.toList.isEmpty = decide (s.size = 0) := by
  rw [ByteArray.toList_eq, ← len_eq]
  cases s.data.toList <;> simp
set_option maxRecDepth 100000 in
set_option maxHeartbeats 4000000 in
theorem implAngleOf_core (f s : ByteArray) (m k na nb R P D N : Nat) (w : World) (hm : s.size = m) (hk : f.size = k) (h1 : 1 ≤ m) (h2 : m ≤ 9) (h3 : k ≤ 9)
    (hF : ∀ w, Calls Tryd.prog 13 #[.string f] w fun e w' => e = .returned (.tuple #[.int .i64 na, .nilIface]) ∧ Below w.heap.size w w')
    (hS : ∀ w, Calls Tryd.prog 13 #[.string s] w fun e w' => e = .returned (.tuple #[.int .i64 nb, .nilIface]) ∧ Below w.heap.size w w')
    (hr : wrap64 (wrap64 ((2 : Int) ^ m) - 1) = (R : Int)) (hd : (R : Int) * (2 : Int) ^ k = (D : Int)) (hD : D ≤ 261632) (hp : (na : Int) * (R : Int) = (P : Int)) (hP : P ≤ 261121) (hN : (P : Int) + nb = (N : Int)) (hnb : nb ≤ 512)
    (x y : Nat) (hA : ∀ w, Calls Tryd.prog 31 #[.int .i64 N, .int .i64 D] w fun e w' => e = .returned (.tuple #[.agg #[.int .i64 x, .int .i64 y], .bool true]) ∧ Below w.heap.size w w') :
    Calls Tryd.prog 16 #[.string f, .string s] w fun e w' => e = .returned (if nb = R then .tuple #[.agg #[.int .i64 0, .int .i64 0], .bool false] else .tuple #[.agg #[.int .i64 x, .int .i64 y], .bool true]) ∧ Below w.heap.size w w' := by
  have X := Box.new w #[.int .i64 0, .int .i64 0] 24
  have hse : s.toList.isEmpty = false := by rw [str_empty]; exact decide_eq_false (by omega)
  have hNb : N ≤ 300000 := by omega
  have HF := Lib.hid hF
  have HS := Lib.hid hS
  have HA := Lib.hid hA
  clear hF hS hA
  by_cases he : nb = R
  · rw [if_pos he]
    have hee : ((nb : Int) == R) = true := by simp; omega
    clear HA hp hd hN he
    go_enter Tryd.func16, Tryd.ntmps16
    go_wp2_with fail
    refine (HF.out _).mono ?_
    rintro e w1 ⟨rfl, hb⟩
    replace X := X.step hb
    clear hb
    go_wp2_with fail
    refine (HS.out _).mono ?_
    rintro e w2 ⟨rfl, hb⟩
    replace X := X.step hb
    clear hb
    replace X := X.alloc (.cells #[.int .i64 0] 46)
    go_wp2_with fail
    refine (as_nil _ _).mono ?_
    rintro e w3 ⟨rfl, hw⟩
    subst hw
    go_wp2_with fail
    refine (as_nil _ _).mono ?_
    rintro e w3 ⟨rfl, hw⟩
    subst hw
    have c0 := X.cell 0 _ rfl
    have c1 := X.cell 1 _ rfl
    have f0 := X.frozen 0
    have f1 := X.frozen 1
    have HB := Lib.hid X.old
    clear X
    go_wp2
    refine bodyPost_ret (v := .tuple #[.agg #[.int .i64 0, .int .i64 0], .bool false]) (by simp [results, Tryd.f16, go_sem, c0, c1]) rfl ⟨rfl, (HB.out.setCell (p := ⟨w.heap.size, 0, none⟩) (Nat.le_refl _) _).setCell (p := ⟨w.heap.size, 1, none⟩) (Nat.le_refl _) _⟩
  · rw [if_neg he]
    have hee : ((nb : Int) == R) = false := by simp; omega
    clear he
    go_enter Tryd.func16, Tryd.ntmps16
    go_wp2_with fail
    refine (HF.out _).mono ?_
    rintro e w1 ⟨rfl, hb⟩
    replace X := X.step hb
    clear hb
    go_wp2_with fail
    refine (HS.out _).mono ?_
    rintro e w2 ⟨rfl, hb⟩
    replace X := X.step hb
    clear hb
    replace X := X.alloc (.cells #[.int .i64 0] 46)
    go_wp2_with fail
    refine (as_nil _ _).mono ?_
    rintro e w3 ⟨rfl, hw⟩
    subst hw
    go_wp2_with fail
    refine (as_nil _ _).mono ?_
    rintro e w3 ⟨rfl, hw⟩
    subst hw
    have c0 := X.cell 0 _ rfl
    have c1 := X.cell 1 _ rfl
    have f0 := X.frozen 0
    have f1 := X.frozen 1
    go_wp2_with fail
    refine (HA.out _).mono ?_
    rintro e w3 ⟨rfl, hb⟩
    replace X := X.step hb
    clear hb c0 c1 f0 f1
    have c0 := X.cell 0 _ rfl
    have c1 := X.cell 1 _ rfl
    have f0 := X.frozen 0
    have f1 := X.frozen 1
    have HB := Lib.hid X.old
    clear X
    go_wp2
    refine bodyPost_ret (v := .tuple #[.agg #[.int .i64 x, .int .i64 y], .bool true]) (by simp [results, Tryd.f16, go_sem, c0, c1]) rfl ⟨rfl, (HB.out.setCell (p := ⟨w.heap.size, 0, none⟩) (Nat.le_refl _) _).setCell (p := ⟨w.heap.size, 1, none⟩) (Nat.le_refl _) _⟩
theorem implAngleOf_good (f s : ByteArray) (na nb : Nat) (hbf : bitsOf f = some na) (hbs : bitsOf s = some nb) (h1 : f.size ≤ 9) (h2 : 1 ≤ s.size) (h3 : s.size ≤ 9) (w : World) : Calls Tryd.prog 16 #[.string f, .string s] w fun e w' => e = .returned (angV (angOf f s)) ∧ Below w.heap.size w w' := by
  have hna := bitsOf_lt hbf
  have hnb := bitsOf_lt hbs
  obtain ⟨o1, o2, o3, o4, o5, o6, o7⟩ := of_nums h1 h2 h3 hna
  have hr := wrap_round s.size _ rfl o1 o2
  have hnb2 : nb ≤ 512 := Nat.le_of_lt (Nat.lt_of_lt_of_le hnb o2)
  have hd := mul_pow_cast (2 ^ s.size - 1) f.size
  have hq := angOf_yes hbf hbs ⟨h1, h2, h3⟩
  obtain ⟨R, hR⟩ : ∃ R, 2 ^ s.size - 1 = R := ⟨_, rfl⟩
  rw [hR] at hr hd o5 o6 o7 hq
  obtain ⟨P, hP⟩ : ∃ P, na * R = P := ⟨_, rfl⟩
  have hp : (na : Int) * (R : Int) = (P : Int) := by rw [← hP]; exact (Int.natCast_mul _ _).symm
  rw [hP] at o5 hq
  obtain ⟨D, hD⟩ : ∃ D, R * 2 ^ f.size = D := ⟨_, rfl⟩
  rw [hD] at hd o6 o7 hq
  obtain ⟨N, hN⟩ : ∃ N, P + nb = N := ⟨_, rfl⟩
  have hn : (P : Int) + nb = (N : Int) := by omega
  rw [hN] at hq
  rw [hq]
  clear hq hna hnb o1 o2 o3 o4 hR hP hD
  refine (implAngleOf_core f s s.size f.size na nb R P D N w rfl rfl h2 h3 h1
    (fun w => (readBits_any f (by omega) w).mono fun e w' h => ⟨h.1 na hbf, h.2.2⟩) (fun w => (readBits_any s (by omega) w).mono fun e w' h => ⟨h.1 nb hbs, h.2.2⟩)
    hr hd o6 hp o5 hn hnb2 (lowN N D) (lowD N D) (fun w => implAngleMake_any N D o7 (by omega) (by omega) w)).mono ?_
  rintro e w' ⟨rfl, hb⟩
  refine ⟨?_, hb⟩
  by_cases he : nb = R
  · rw [if_pos he, if_pos he]; rfl
  · rw [if_neg he, if_neg he]; rfl
set_option maxRecDepth 100000 in
set_option maxHeartbeats 4000000 in
theorem implAngleOf_any (f s : ByteArray) (w : World) (hE : ErrT w) : Calls Tryd.prog 16 #[.string f, .string s] w fun e w' => e = .returned (angV (angOf f s)) ∧ Below w.heap.size w w' := by
  by_cases hgood : ∃ na nb, bitsOf f = some na ∧ bitsOf s = some nb ∧ f.size ≤ 9 ∧ 1 ≤ s.size ∧ s.size ≤ 9
  · obtain ⟨na, nb, hbf, hbs, h1, h2, h3⟩ := hgood
    exact implAngleOf_good f s na nb hbf hbs h1 h2 h3 w
  have HG := Lib.hid hgood
  clear hgood
  have X := Box.new w #[.int .i64 0, .int .i64 0] 24
  by_cases hsz : f.size ≤ 9 ∧ 1 ≤ s.size ∧ s.size ≤ 9
  · obtain ⟨h1, h2, h3⟩ := hsz
    have HE := Lib.hid (hE.step ((Below.refl _ w).alloc (Nat.le_refl _) (.cells #[.int .i64 0, .int .i64 0] 24)))
    have HF := Lib.hid (fun w => readBits_any f (by omega) w)
    have HS := Lib.hid (fun w => readBits_any s (by omega) w)
    have hse : s.toList.isEmpty = false := by rw [str_empty]; exact decide_eq_false (by omega)
    have hi1 : (f.size : Int) ≤ 9 := by omega
    have hi2 : (1 : Int) ≤ s.size := by omega
    have hi3 : (s.size : Int) ≤ 9 := by omega
    have HZ := Lib.hid (show f.size ≤ 9 ∧ 1 ≤ s.size ∧ s.size ≤ 9 from ⟨h1, h2, h3⟩)
    clear hE
    go_enter Tryd.func16, Tryd.ntmps16
    go_wp2_with fail
    refine (HF.out _).mono ?_
    rintro e w1 ⟨hy, hn, hb⟩
    replace X := X.step hb
    replace HE := Lib.hid (HE.out.step hb)
    clear hb
    cases hbf : bitsOf f with
    | none =>
      have HQ : Hid (angOf f s = none) := angOf_f hbf
      obtain ⟨i, rfl⟩ := hn hbf
      clear hy hn hbf
      go_wp2_with fail
      refine (HS.out _).mono ?_
      rintro e w2 ⟨hy, hn, hb⟩
      replace X := X.step hb
      replace HE := Lib.hid (HE.out.step hb)
      clear hb
      obtain ⟨x, v, rfl⟩ : ∃ (x : Int) (v : Value), e = .returned (.tuple #[.int .i64 x, v]) := by
        cases hbs : bitsOf s with
        | none => obtain ⟨j, h⟩ := hn hbs; exact ⟨_, _, h⟩
        | some n => exact ⟨_, _, hy n hbs⟩
      clear hy hn
      have T := (Box.new w2 #[.int .i64 0] 46).up X.old
      have htx : w.heap.size ≠ w2.heap.size := by have := X.lt; omega
      have htw : w.heap.size ≤ w2.heap.size := X.old.size
      replace X := X.alloc (.cells #[.int .i64 0] 46)
      replace HE := Lib.hid (HE.out.step ((Below.refl _ _).alloc (Nat.le_refl _) (.cells #[.int .i64 0] 46)))
      have HA := Lib.hid (as_hit_only i ⟨w2.heap.size, 0, none⟩ (.int .i64 0) _ HE.out (T.cell 0 _ rfl) (T.frozen 0))
      clear T
      go_wp2_with fail
      refine HA.out.mono ?_
      rintro e w3 ⟨rfl, hO⟩
      replace X := X.only hO htx htw
      have c0 := X.cell 0 _ rfl
      have c1 := X.cell 1 _ rfl
      have f0 := X.frozen 0
      have f1 := X.frozen 1
      have HB := Lib.hid X.old
      clear X hO HA HE
      go_wp2
      refine bodyPost_ret (v := .tuple #[.agg #[.int .i64 0, .int .i64 0], .bool false]) (by simp [results, Tryd.f16, go_sem, c0, c1]) rfl ⟨by rw [HQ.out, angV_no], (HB.out.setCell (p := ⟨w.heap.size, 0, none⟩) (Nat.le_refl _) _).setCell (p := ⟨w.heap.size, 1, none⟩) (Nat.le_refl _) _⟩
    | some na =>
      obtain rfl := hy na hbf
      clear hy hn
      go_wp2_with fail
      refine (HS.out _).mono ?_
      rintro e w2 ⟨hy, hn, hb⟩
      replace X := X.step hb
      replace HE := Lib.hid (HE.out.step hb)
      clear hb
      cases hbs : bitsOf s with
      | none =>
        have HQ : Hid (angOf f s = none) := angOf_s hbs
        obtain ⟨i, rfl⟩ := hn hbs
        clear hy hn hbf hbs
        have T := (Box.new w2 #[.int .i64 0] 46).up X.old
        have htx : w.heap.size ≠ w2.heap.size := by have := X.lt; omega
        have htw : w.heap.size ≤ w2.heap.size := X.old.size
        replace X := X.alloc (.cells #[.int .i64 0] 46)
        replace HE := Lib.hid (HE.out.step ((Below.refl _ _).alloc (Nat.le_refl _) (.cells #[.int .i64 0] 46)))
        have HA := Lib.hid (as_hit_only i ⟨w2.heap.size, 0, none⟩ (.int .i64 0) _ HE.out (T.cell 0 _ rfl) (T.frozen 0))
        clear T
        go_wp2_with fail
        refine (as_nil _ _).mono ?_
        rintro e w3 ⟨rfl, hw⟩
        subst hw
        go_wp2_with fail
        refine HA.out.mono ?_
        rintro e w3 ⟨rfl, hO⟩
        replace X := X.only hO htx htw
        have c0 := X.cell 0 _ rfl
        have c1 := X.cell 1 _ rfl
        have f0 := X.frozen 0
        have f1 := X.frozen 1
        have HB := Lib.hid X.old
        clear X hO HA HE
        go_wp2
        refine bodyPost_ret (v := .tuple #[.agg #[.int .i64 0, .int .i64 0], .bool false]) (by simp [results, Tryd.f16, go_sem, c0, c1]) rfl ⟨by rw [HQ.out, angV_no], (HB.out.setCell (p := ⟨w.heap.size, 0, none⟩) (Nat.le_refl _) _).setCell (p := ⟨w.heap.size, 1, none⟩) (Nat.le_refl _) _⟩
      | some nb =>
        exact absurd ⟨na, nb, hbf, hbs, HZ.out⟩ HG.out
  · have HQ : Hid (angOf f s = none) := angOf_no hsz
    have c0 := X.cell 0 _ rfl
    have c1 := X.cell 1 _ rfl
    have f0 := X.frozen 0
    have f1 := X.frozen 1
    have HB := Lib.hid X.old
    clear X hE
    by_cases h1 : (9 : Int) < f.size
    · go_enter Tryd.func16, Tryd.ntmps16
      go_wp2
      refine bodyPost_ret (v := .tuple #[.agg #[.int .i64 0, .int .i64 0], .bool false]) (by simp [results, Tryd.f16, go_sem]) rfl ⟨by rw [HQ.out, angV_no], HB.out⟩
    by_cases h2 : s.size = 0
    · have hse : s.toList.isEmpty = true := by rw [str_empty]; exact decide_eq_true h2
      clear h2 hsz
      go_enter Tryd.func16, Tryd.ntmps16
      go_wp2
      refine bodyPost_ret (v := .tuple #[.agg #[.int .i64 0, .int .i64 0], .bool false]) (by simp [results, Tryd.f16, go_sem]) rfl ⟨by rw [HQ.out, angV_no], HB.out⟩
    · have hse : s.toList.isEmpty = false := by rw [str_empty]; exact decide_eq_false h2
      have h3 : (9 : Int) < s.size := by omega
      clear h2 hsz
      go_enter Tryd.func16, Tryd.ntmps16
      go_wp2
      refine bodyPost_ret (v := .tuple #[.agg #[.int .i64 0, .int .i64 0], .bool false]) (by simp [results, Tryd.f16, go_sem]) rfl ⟨by rw [HQ.out, angV_no], HB.out⟩
end Go.Proofs.YteegdpnidakjiaaDoor
