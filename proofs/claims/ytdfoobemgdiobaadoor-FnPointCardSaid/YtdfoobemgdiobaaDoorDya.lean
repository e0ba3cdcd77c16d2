/- Walks: the program's exact numbers. -/
import Derived.Test.YtdfoobemgdiobaaDoorDyaP
import Derived.Test.YtdfoobemgdiobaaDoorTzB
import Derived.Test.YtdfoobemgdiobaaDoorTilF
import Derived.Deep.Cut
namespace Go.Proofs.YtdfoobemgdiobaaDoor
open Go.RowKit Flo

set_option maxHeartbeats 400000 in
theorem even_is (a b s : Int) (ha : a.natAbs ≤ 4611686018427387904) (hb : b.natAbs ≤ 4611686018427387904) (w : World) : Calls Tryd.prog 45 #[.agg #[.int .i64 a, .int .i64 b, .int .i64 s]] w fun e w' => e = .returned (.bool (evenB a b)) ∧ Below w.heap.size w w' := by
  have e1 := and_one a (by omega) (by omega)
  have e2 := and_one b (by omega) (by omega)
  have HB : Hid (Below w.heap.size w (w.alloc (.cells #[.int .i64 a, .int .i64 b, .int .i64 s] 34))) := (Below.refl _ _).alloc (Nat.le_refl _) _
  have HE : Hid (evenB a b = (decide (a % 2 = 0) && decide (b % 2 = 0))) := by
    show _ = _
    unfold evenB
    rw [Bool.decide_and]
  by_cases h1 : a % 2 = 0
  · by_cases h2 : b % 2 = 0
    · have HK : Hid (evenB a b = true) := by rw [HE.out, decide_eq_true h1, decide_eq_true h2]; rfl
      go_enter Tryd.func45, Tryd.ntmps45
      go_wp2
      go_ret
      exact ⟨ret_bool HK.out.symm, HB.out⟩
    · have HK : Hid (evenB a b = false) := by rw [HE.out, decide_eq_false h2, Bool.and_false]; rfl
      have h3 : (b % 2 == 0) = false := by simp [h2]
      go_enter Tryd.func45, Tryd.ntmps45
      go_wp2
      go_ret
      exact ⟨ret_bool HK.out.symm, HB.out⟩
  · have HK : Hid (evenB a b = false) := by rw [HE.out, decide_eq_false h1, Bool.false_and]; rfl
    have h3 : (a % 2 == 0) = false := by simp [h1]
    go_enter Tryd.func45, Tryd.ntmps45
    go_wp2
    go_ret
    exact ⟨ret_bool HK.out.symm, HB.out⟩
set_option maxHeartbeats 1000000 in
theorem valid_ok (a b s : Int) (hv : dyadB a b s = true) (w : World) : Calls Tryd.prog 31 #[.agg #[.int .i64 a, .int .i64 b, .int .i64 s]] w fun e w' => e = .returned (.bool true) ∧ Below w.heap.size w w' := by
  unfold dyadB at hv
  rw [Bool.and_eq_true, decide_eq_true_eq, Bool.or_eq_true, decide_eq_true_eq, Bool.not_eq_true'] at hv
  obtain ⟨⟨h1, h2, h3, h4, h5, h6⟩, h7⟩ := hv
  have B := Box.new w #[.int .i64 a, .int .i64 b, .int .i64 s] 34
  have c0 := B.cell 0 (.int .i64 a) rfl
  have c1 := B.cell 1 (.int .i64 b) rfl
  have c2 := B.cell 2 (.int .i64 s) rfl
  have HB := Lib.hid B
  have HE := Lib.hid (even_is a b s (by omega) (by omega))
  have d1 : decide (a < -1073741824) = false := by simp; omega
  have d2 : decide (1073741824 < a) = false := by simp; omega
  have d3 : decide (b < -1073741824) = false := by simp; omega
  have d4 : decide (1073741824 < b) = false := by simp; omega
  have d5 : decide (s < 0) = false := by simp; omega
  have d6 : decide (60 < s) = false := by simp; omega
  clear B
  by_cases h8 : s = 0
  · have d7 : (s == 0) = true := by simp [h8]
    clear h7 h8
    go_enter Tryd.func31, Tryd.ntmps31
    go_wp2
    go_ret
    exact ⟨rfl, HB.out.old⟩
  · have d7 : (s == 0) = false := by simp [h8]
    have hev : evenB a b = false := by rcases h7 with h | h; exact absurd h h8; exact h
    rw [hev] at HE
    clear h7 h8 hev
    go_enter Tryd.func31, Tryd.ntmps31
    go_wp2_with (go_at_call 45; refine (HE.out _).mono ?_; rintro e w1 ⟨rfl, hd⟩; have HB2 := Lib.hid (HB.out.step hd).old; clear hd)
    go_ret
    exact ⟨rfl, HB2.out⟩
theorem lowT_even (m n : Int) (k : Nat) : lowT (2 * m) (2 * n) (k + 1) = lowT m n k := by
  show (if _ ∧ _ then _ else _) = _
  rw [if_pos ⟨by omega, by omega⟩, show 2 * m / 2 = m by omega, show 2 * n / 2 = n by omega]
theorem lowT_stop {X Y : Int} {k : Nat} (h : evenB X Y = false) : lowT X Y k = (X, Y, k) := by
  cases k with
  | zero => rfl
  | succ k =>
    unfold evenB at h
    rw [decide_eq_false_iff_not] at h
    show (if _ ∧ _ then _ else _) = _
    rw [if_neg h]
theorem Box.set3 {w0 W : World} {b : Nat} {v0 v1 v2 : Value} {T : TypeId} (h : Box w0 b #[v0, v1, v2] T W) (hb : w0.heap.size ≤ b) (u0 u1 u2 : Value) :
    Box w0 b #[u0, u1, u2] T (((W.setCell ⟨b, 0, none⟩ u0).setCell ⟨b, 1, none⟩ u1).setCell ⟨b, 2, none⟩ u2) := ((h.set hb 0 u0).set hb 1 u1).set hb 2 u2
theorem Box.other3 {w0 W : World} {b : Nat} {C : Array Value} {T : TypeId} (h : Box w0 b C T W) {p : Nat} (hp : w0.heap.size ≤ p) (hne : b ≠ p) (u0 u1 u2 : Value) :
    Box w0 b C T (((W.setCell ⟨p, 0, none⟩ u0).setCell ⟨p, 1, none⟩ u1).setCell ⟨p, 2, none⟩ u2) := ((h.other (p := ⟨p, 0, none⟩) hp hne u0).other (p := ⟨p, 1, none⟩) hp hne u1).other (p := ⟨p, 2, none⟩) hp hne u2
theorem Box.cells3 {w0 W : World} {b : Nat} {v0 v1 v2 : Value} {T : TypeId} (h : Box w0 b #[v0, v1, v2] T W) : W.cell? ⟨b, 0, none⟩ = some v0 ∧ W.cell? ⟨b, 1, none⟩ = some v1 ∧ W.cell? ⟨b, 2, none⟩ = some v2 := ⟨h.cell 0 _ rfl, h.cell 1 _ rfl, h.cell 2 _ rfl⟩
theorem Box.free3 {w0 W : World} {b : Nat} {C : Array Value} {T : TypeId} (h : Box w0 b C T W) : W.frozen? ⟨b, 0, none⟩ = false ∧ W.frozen? ⟨b, 1, none⟩ = false ∧ W.frozen? ⟨b, 2, none⟩ = false := ⟨h.frozen 0, h.frozen 1, h.frozen 2⟩
set_option maxRecDepth 100000 in
set_option maxHeartbeats 2000000 in
theorem dyadMake_is (X Y : Int) (d : Nat) (hX : X.natAbs ≤ 1073741824) (hY : Y.natAbs ≤ 1073741824) (hd : d ≤ 60) (w : World) :
    Calls Tryd.prog 29 #[.int .i64 X, .int .i64 Y, .int .i64 d] w fun e w' => e = .returned (.tuple #[.agg #[.int .i64 (lowT X Y d).1, .int .i64 (lowT X Y d).2.1, .int .i64 (lowT X Y d).2.2], .bool true]) ∧ Below w.heap.size w w' := by
  have HV := Lib.hid (low_valid hX hY hd)
  have R0 := (Box.new w #[.int .i64 0, .int .i64 0, .int .i64 0] 34).alloc (.cells #[.int .i64 X, .int .i64 Y, .int .i64 d] 34)
  have O0 := (Box.new (w.alloc (.cells #[.int .i64 0, .int .i64 0, .int .i64 0] 34)) #[.int .i64 X, .int .i64 Y, .int .i64 d] 34).up ((Below.refl w.heap.size w).alloc (Nat.le_refl _) _)
  rw [show (w.alloc (.cells #[.int .i64 0, .int .i64 0, .int .i64 0] 34)).heap.size = w.heap.size + 1 by simp] at O0
  have HR := Lib.hid R0
  have HO := Lib.hid O0
  have d1 : decide ((d : Int) < 0) = false := by simp
  have d2 : decide ((120 : Int) < d) = false := by simp; omega
  have d3 : decide (X < -4611686018427387904) = false := by simp; omega
  have d4 : decide (4611686018427387904 < X) = false := by simp; omega
  have d5 : decide (Y < -4611686018427387904) = false := by simp; omega
  have d6 : decide (4611686018427387904 < Y) = false := by simp; omega
  clear R0 O0
  go_enter Tryd.func29, Tryd.ntmps29
  go_wp2
  clear d1 d2 d3 d4 d5 d6
  go_loopw [41] (fun _ wr => ∃ (x y : Int) (k : Nat), k ≤ d ∧ x.natAbs ≤ 1073741824 ∧ y.natAbs ≤ 1073741824 ∧ Hid (lowT x y k = lowT X Y d) ∧ Hid (Box w (w.heap.size + 1) #[.int .i64 x, .int .i64 y, .int .i64 k] 34 wr) ∧ Hid (Box w w.heap.size #[.int .i64 0, .int .i64 0, .int .i64 0] 34 wr)) (fun _ wr => (intOf ((wr.cell? ⟨w.heap.size + 1, 2, none⟩).getD undef)).toNat)
  case atStart => exact ⟨X, Y, d, by omega, hX, hY, rfl, HO.out, HR.out⟩
  case round =>
    obtain ⟨x, y, k, hk, hx, hy, HL, HB, HR⟩ := hrel
    obtain ⟨c0, c1, c2⟩ := HB.out.cells3
    obtain ⟨f0, f1, f2⟩ := HB.out.free3
    have HE := Lib.hid (even_is x y k (by omega) (by omega))
    obtain ⟨r0, r1, r2⟩ := HR.out.cells3
    obtain ⟨g0, g1, g2⟩ := HR.out.free3
    have HF : Hid (∀ W, Below wr.heap.size wr W → Box w (w.heap.size + 1) #[.int .i64 x, .int .i64 y, .int .i64 k] 34 W ∧ Box w w.heap.size #[.int .i64 0, .int .i64 0, .int .i64 0] 34 W) := fun W h => ⟨HB.out.step h, HR.out.step h⟩
    have HDONE : Hid (evenB x y = false ∨ k = 0 → lowT X Y d = (x, y, k) ∧ dyadB x y k = true) := fun h => by
      have e : lowT X Y d = (x, y, k) := by
        rw [← HL.out]
        rcases h with h | h
        · exact lowT_stop h
        · rw [h]; rfl
      have v := HV.out
      rw [e] at v
      exact ⟨e, v⟩
    rcases Nat.eq_zero_or_pos k with h0 | h0
    · obtain ⟨he, hv⟩ := HDONE.out (.inr h0)
      subst h0
      have HEQ := Lib.hid he
      have HVV := Lib.hid (valid_ok x y 0 hv)
      have HB1 : Hid (Box w (w.heap.size + 1) #[.int .i64 x, .int .i64 y, .int .i64 0] 34 wr) := HB
      have HF1 : Hid (∀ W, Below wr.heap.size wr W → Box w (w.heap.size + 1) #[.int .i64 x, .int .i64 y, .int .i64 0] 34 W ∧ Box w w.heap.size #[.int .i64 0, .int .i64 0, .int .i64 0] 34 W) := HF
      clear HF HB
      have HF := HF1
      have HB := HB1
      clear HF1 HB1
      have c2 : wr.cell? ⟨w.heap.size + 1, 2, none⟩ = some (.int .i64 0) := c2
      clear HDONE HL he hv HE
      go_wp2_with fail
      refine (HVV.out _).mono ?_
      rintro e w1 ⟨rfl, hd⟩
      obtain ⟨HB2, HR2⟩ := HF.out _ hd
      obtain ⟨q0, q1, q2⟩ := HB2.cells3
      obtain ⟨r0, r1, r2⟩ := HR2.cells3
      obtain ⟨g0, g1, g2⟩ := HR2.free3
      have HZ := Lib.hid (HR2.set3 (Nat.le_refl _) (.int .i64 x) (.int .i64 y) (.int .i64 0))
      clear hd HB2 HR2 HF HB HR
      go_wp2
      exact bodyPost_ret (v := .tuple #[.agg #[.int .i64 x, .int .i64 y, .int .i64 0], .bool true]) (by simp [results, Tryd.f29, go_sem, r0, r1, r2]) rfl ⟨by rw [HEQ.out]; rfl, HZ.out.old⟩
    · have d1 : decide ((0 : Int) < k) = true := by simp; omega
      cases hE : evenB x y with
      | false =>
        obtain ⟨he, hv⟩ := HDONE.out (.inl hE)
        have HEQ := Lib.hid he
        have HVV := Lib.hid (valid_ok x y k hv)
        rw [hE] at HE
        clear HDONE HL he hv hE
        go_wp2_with fail
        refine (HE.out _).mono ?_
        rintro e w1 ⟨rfl, hd⟩
        have HD2 := Lib.hid (HF.out _ hd)
        have HD3 := Lib.hid hd
        obtain ⟨q0, q1, q2⟩ := HD2.out.1.cells3
        clear hd
        go_wp2_with fail
        refine (HVV.out _).mono ?_
        rintro e w2 ⟨rfl, hd⟩
        have hd2 := hd.mono HD3.out.size
        have hd := HD3.out.trans hd2
        obtain ⟨HB2, HR2⟩ := HF.out _ hd
        clear q0 q1 q2
        obtain ⟨q0, q1, q2⟩ := HB2.cells3
        obtain ⟨r0, r1, r2⟩ := HR2.cells3
        obtain ⟨g0, g1, g2⟩ := HR2.free3
        have HZ := Lib.hid (HR2.set3 (Nat.le_refl _) (.int .i64 x) (.int .i64 y) (.int .i64 k))
        clear hd HB2 HR2 HF HB HR HD2 HD3 hd2
        go_wp2
        exact bodyPost_ret (v := .tuple #[.agg #[.int .i64 x, .int .i64 y, .int .i64 k], .bool true]) (by simp [results, Tryd.f29, go_sem, r0, r1, r2]) rfl ⟨by rw [HEQ.out], HZ.out.old⟩
      | true =>
        have hev := hE
        unfold evenB at hev
        rw [decide_eq_true_eq] at hev
        obtain ⟨m, rfl⟩ : ∃ m, x = 2 * m := ⟨x / 2, by omega⟩
        obtain ⟨n, rfl⟩ : ∃ n, y = 2 * n := ⟨y / 2, by omega⟩
        obtain ⟨k, rfl⟩ : ∃ k', k = k' + 1 := ⟨k - 1, by omega⟩
        have t1 : (2 * m).tdiv 2 = m := Int.mul_tdiv_cancel_left m (by decide)
        have t2 : (2 * n).tdiv 2 = n := Int.mul_tdiv_cancel_left n (by decide)
        have t3 : ((k + 1 : Nat) : Int) - 1 = k := by omega
        have HL2 := Lib.hid ((lowT_even m n k).symm.trans HL.out)
        rw [hE] at HE
        clear HDONE hE hev h0 HL
        go_wp2_with (go_at_call 45; refine (HE.out _).mono ?_; rintro e w1 ⟨rfl, hd⟩; have HB2 := Lib.hid (HF.out _ hd).1; have HR2 := Lib.hid (HF.out _ hd).2; obtain ⟨q0, q1, q2⟩ := HB2.out.cells3; obtain ⟨g0, g1, g2⟩ := HB2.out.free3; clear hd)
        have b0 := HB2.out.lt
        refine ⟨⟨m, n, k, by omega, by omega, by omega, HL2, HB2.out.set3 (by omega) _ _ _, HR2.out.other3 (by omega) (by omega) _ _ _⟩, ?_⟩
        rw [((HB2.out.set3 (by omega) (.int .i64 m) (.int .i64 n) (.int .i64 k)).cells3).2.2, c2]
        simp [intOf]
end Go.Proofs.YtdfoobemgdiobaaDoor
