/- Walks: the reference's angles of texts of bits. -/
import Derived.Test.YteegdpnidakjiaaDoorAngOf
namespace Go.Proofs.YteegdpnidakjiaaDoor
open Go.RowKit

/-- how it ends without an angle -/
theorem angOs_end {w : World} {W : World} (X : Box w w.heap.size #[.int .i64 0, .int .i64 0] 24 W) : Below w.heap.size w ((W.setCell ⟨w.heap.size, 0, none⟩ (.int .i64 0)).setCell ⟨w.heap.size, 1, none⟩ (.int .i64 0)) :=
  (X.old.setCell (p := ⟨w.heap.size, 0, none⟩) (Nat.le_refl _) _).setCell (p := ⟨w.heap.size, 1, none⟩) (Nat.le_refl _) _
set_option maxRecDepth 100000 in
set_option maxHeartbeats 4000000 in
theorem specAngleOf_core (f s : ByteArray) (m k na nb R P D N : Nat) (w : World) (hm : s.size = m) (hk : f.size = k) (h1 : 1 ≤ m) (h2 : m ≤ 9) (h3 : k ≤ 9)
    (hF : ∀ w, Calls Tryd.prog 20 #[.string f] w fun e w' => e = .returned (.tuple #[.int .i64 na, .bool true]) ∧ Drw w w')
    (hS : ∀ w, Calls Tryd.prog 20 #[.string s] w fun e w' => e = .returned (.tuple #[.int .i64 nb, .bool true]) ∧ Drw w w')
    (hr : wrap64 (wrap64 ((2 : Int) ^ m) - 1) = (R : Int)) (hd : (R : Int) * (2 : Int) ^ k = (D : Int)) (hD : D ≤ 261632) (hp : (na : Int) * (R : Int) = (P : Int)) (hP : P ≤ 261121) (hN : (P : Int) + nb = (N : Int)) (hnb : nb ≤ 512)
    (x y : Nat) (hA : ∀ w, Calls Tryd.prog 34 #[.int .i64 N, .int .i64 D] w fun e w' => e = .returned (.agg #[.int .i64 x, .int .i64 y]) ∧ Below w.heap.size w w') :
    Calls Tryd.prog 21 #[.string f, .string s] w fun e w' => e = .returned (if nb = R then .tuple #[.agg #[.int .i64 0, .int .i64 0], .bool false] else .tuple #[.agg #[.int .i64 x, .int .i64 y], .bool true]) ∧ Below w.heap.size w w' := by
  have X := Box.new w #[.int .i64 0, .int .i64 0] 24
  have hNb : N ≤ 300000 := by omega
  have HF := Lib.hid hF
  have HS := Lib.hid hS
  have HA := Lib.hid hA
  have hin : inB (m : Int) 1 9 = true := inB_yes (by omega) (by omega)
  clear hF hS hA
  by_cases he : nb = R
  · rw [if_pos he]
    have hee : ((nb : Int) == R) = true := by simp; omega
    clear HA hp hd hN he
    go_enter Tryd.func21, Tryd.ntmps21
    go_wp2_with fail
    refine (HF.out _).mono ?_
    rintro e w1 ⟨rfl, hb⟩
    replace X := X.step (hb.below _)
    clear hb
    go_wp2_with fail
    refine (HS.out _).mono ?_
    rintro e w2 ⟨rfl, hb⟩
    replace X := X.step (hb.below _)
    clear hb
    have c0 := X.cell 0 _ rfl
    have c1 := X.cell 1 _ rfl
    have f0 := X.frozen 0
    have f1 := X.frozen 1
    have HB := Lib.hid (angOs_end X)
    clear X
    go_wp2_with fail
    refine (l6In_any _ _ _ _).mono ?_
    rintro e w3 ⟨rfl, hw⟩
    subst hw
    go_wp2
    refine bodyPost_ret (v := .tuple #[.agg #[.int .i64 0, .int .i64 0], .bool false]) (by simp [results, Tryd.f21, go_sem, c0, c1]) rfl ⟨rfl, HB.out⟩
  · rw [if_neg he]
    have hee : ((nb : Int) == R) = false := by simp; omega
    clear he
    go_enter Tryd.func21, Tryd.ntmps21
    go_wp2_with fail
    refine (HF.out _).mono ?_
    rintro e w1 ⟨rfl, hb⟩
    replace X := X.step (hb.below _)
    clear hb
    go_wp2_with fail
    refine (HS.out _).mono ?_
    rintro e w2 ⟨rfl, hb⟩
    replace X := X.step (hb.below _)
    clear hb
    go_wp2_with fail
    refine (l6In_any _ _ _ _).mono ?_
    rintro e w3 ⟨rfl, hw⟩
    subst hw
    go_wp2_with fail
    refine (HA.out _).mono ?_
    rintro e w3 ⟨rfl, hb⟩
    replace X := X.step hb
    clear hb
    have c0 := X.cell 0 _ rfl
    have c1 := X.cell 1 _ rfl
    have f0 := X.frozen 0
    have f1 := X.frozen 1
    have HB := Lib.hid X.old
    clear X
    go_wp2
    refine bodyPost_ret (v := .tuple #[.agg #[.int .i64 x, .int .i64 y], .bool true]) (by simp [results, Tryd.f21, go_sem, c0, c1]) rfl ⟨rfl, (HB.out.setCell (p := ⟨w.heap.size, 0, none⟩) (Nat.le_refl _) _).setCell (p := ⟨w.heap.size, 1, none⟩) (Nat.le_refl _) _⟩
theorem specAngleOf_good (f s : ByteArray) (na nb : Nat) (hbf : bitsOf f = some na) (hbs : bitsOf s = some nb) (h1 : f.size ≤ 9) (h2 : 1 ≤ s.size) (h3 : s.size ≤ 9) (w : World) : Calls Tryd.prog 21 #[.string f, .string s] w fun e w' => e = .returned (angV (angOf f s)) ∧ Below w.heap.size w w' := by
  have hna := bitsOf_lt hbf
  have hnb := bitsOf_lt hbs
  obtain ⟨o1, o2, o3, o4, o5, o6, o7⟩ := of_nums h1 h2 h3 hna
  have hr := wrap_round s.size _ rfl o1 o2
  have hnb2 : nb ≤ 512 := Nat.le_of_lt (Nat.lt_of_lt_of_le hnb o2)
  have hd := mul_pow_cast (2 ^ s.size - 1) f.size
  have hq := angOf_yes hbf hbs ⟨h1, h2, h3⟩
  obtain ⟨R, hR⟩ : ∃ R, 2 ^ s.size - 1 = R := ⟨_, rfl⟩
  rw [hR] at hr hd o5 o6 o7 hq
  obtain ⟨P, hP⟩ : ∃ P, na * R = P := ⟨_, rfl⟩
  have hp : (na : Int) * (R : Int) = (P : Int) := by rw [← hP]; exact (Int.natCast_mul _ _).symm
  rw [hP] at o5 hq
  obtain ⟨D, hD⟩ : ∃ D, R * 2 ^ f.size = D := ⟨_, rfl⟩
  rw [hD] at hd o6 o7 hq
  obtain ⟨N, hN⟩ : ∃ N, P + nb = N := ⟨_, rfl⟩
  have hn : (P : Int) + nb = (N : Int) := by omega
  rw [hN] at hq
  rw [hq]
  clear hq hna hnb o1 o2 o3 o4 hR hP hD
  refine (specAngleOf_core f s s.size f.size na nb R P D N w rfl rfl h2 h3 h1
    (fun w => (l6aNumber_any f (by omega) w).mono fun e w' h => ?_) (fun w => (l6aNumber_any s (by omega) w).mono fun e w' h => ?_)
    hr hd o6 hp o5 hn hnb2 (lowN N D) (lowD N D) (fun w => l6aLow_any N D o7 (by omega) (by omega) w)).mono ?_
  · obtain ⟨x, rfl, hx⟩ := h.1 na hbf
    rw [hx (by omega)]
    exact ⟨rfl, h.2.2⟩
  · obtain ⟨x, rfl, hx⟩ := h.1 nb hbs
    rw [hx (by omega)]
    exact ⟨rfl, h.2.2⟩
  rintro e w' ⟨rfl, hb⟩
  refine ⟨?_, hb⟩
  by_cases he : nb = R
  · rw [if_pos he, if_pos he]; rfl
  · rw [if_neg he, if_neg he]; rfl
set_option maxRecDepth 100000 in
set_option maxHeartbeats 4000000 in
theorem specAngleOf_bad (f s : ByteArray) (p q : Bool) (hq : p = false ∨ q = false ∨ 9 < f.size ∨ s.size = 0 ∨ 9 < s.size) (w : World)
    (hF : ∀ w, Calls Tryd.prog 20 #[.string f] w fun e w' => (∃ x : Int, e = .returned (.tuple #[.int .i64 x, .bool p])) ∧ Drw w w')
    (hS : ∀ w, Calls Tryd.prog 20 #[.string s] w fun e w' => (∃ x : Int, e = .returned (.tuple #[.int .i64 x, .bool q])) ∧ Drw w w') :
    Calls Tryd.prog 21 #[.string f, .string s] w fun e w' => e = .returned (.tuple #[.agg #[.int .i64 0, .int .i64 0], .bool false]) ∧ Below w.heap.size w w' := by
  have X := Box.new w #[.int .i64 0, .int .i64 0] 24
  have HF := Lib.hid hF
  have HS := Lib.hid hS
  have HQ := Lib.hid hq
  clear hF hS hq
  go_enter Tryd.func21, Tryd.ntmps21
  go_wp2_with fail
  refine (HF.out _).mono ?_
  rintro e w1 ⟨⟨x, rfl⟩, hb⟩
  replace X := X.step (hb.below _)
  clear hb
  go_wp2_with fail
  refine (HS.out _).mono ?_
  rintro e w2 ⟨⟨y, rfl⟩, hb⟩
  replace X := X.step (hb.below _)
  clear hb
  have c0 := X.cell 0 _ rfl
  have c1 := X.cell 1 _ rfl
  have f0 := X.frozen 0
  have f1 := X.frozen 1
  have HB := Lib.hid (angOs_end X)
  clear X
  cases p with
  | false =>
    go_wp2
    refine bodyPost_ret (v := .tuple #[.agg #[.int .i64 0, .int .i64 0], .bool false]) (by simp [results, Tryd.f21, go_sem, c0, c1]) rfl ⟨rfl, HB.out⟩
  | true =>
    cases q with
    | false =>
      go_wp2
      refine bodyPost_ret (v := .tuple #[.agg #[.int .i64 0, .int .i64 0], .bool false]) (by simp [results, Tryd.f21, go_sem, c0, c1]) rfl ⟨rfl, HB.out⟩
    | true =>
      by_cases h9 : (9 : Int) < f.size
      · go_wp2
        refine bodyPost_ret (v := .tuple #[.agg #[.int .i64 0, .int .i64 0], .bool false]) (by simp [results, Tryd.f21, go_sem, c0, c1]) rfl ⟨rfl, HB.out⟩
      · have hin : inB (s.size : Int) 1 9 = false := inB_no (by
          rcases HQ.out with h | h | h
          · exact absurd h (by decide)
          · exact absurd h (by decide)
          · omega)
        go_wp2_with fail
        refine (l6In_any _ _ _ _).mono ?_
        rintro e w3 ⟨rfl, hw⟩
        subst hw
        go_wp2
        refine bodyPost_ret (v := .tuple #[.agg #[.int .i64 0, .int .i64 0], .bool false]) (by simp [results, Tryd.f21, go_sem, c0, c1]) rfl ⟨rfl, HB.out⟩
theorem l6aNumber_some (s : ByteArray) (hs : s.size ≤ 1099511627776) : ∀ w, Calls Tryd.prog 20 #[.string s] w fun e w' => (∃ x : Int, e = .returned (.tuple #[.int .i64 x, .bool (bitsOf s).isSome])) ∧ Drw w w' := by
  intro w
  refine (l6aNumber_any s hs w).mono fun e w' h => ⟨?_, h.2.2⟩
  cases hb : bitsOf s with
  | none => exact ⟨0, h.2.1 hb⟩
  | some n => obtain ⟨x, hx, _⟩ := h.1 n hb; exact ⟨x, hx⟩
theorem specAngleOf_any (f s : ByteArray) (hf : f.size ≤ 1099511627776) (hs : s.size ≤ 1099511627776) (w : World) : Calls Tryd.prog 21 #[.string f, .string s] w fun e w' => e = .returned (angV (angOf f s)) ∧ Below w.heap.size w w' := by
  by_cases hsz : f.size ≤ 9 ∧ 1 ≤ s.size ∧ s.size ≤ 9
  · obtain ⟨h1, h2, h3⟩ := hsz
    cases hbf : bitsOf f with
    | none =>
      rw [angOf_f hbf]
      have h := l6aNumber_some f hf
      rw [hbf] at h
      exact specAngleOf_bad f s _ _ (.inl rfl) w h (l6aNumber_some s hs)
    | some na =>
      cases hbs : bitsOf s with
      | none =>
        rw [angOf_s hbs]
        have h := l6aNumber_some s hs
        rw [hbs] at h
        exact specAngleOf_bad f s _ _ (.inr (.inl rfl)) w (l6aNumber_some f hf) h
      | some nb => exact specAngleOf_good f s na nb hbf hbs h1 h2 h3 w
  · rw [angOf_no hsz]
    exact specAngleOf_bad f s _ _ (by omega) w (l6aNumber_some f hf) (l6aNumber_some s hs)
end Go.Proofs.YteegdpnidakjiaaDoor
