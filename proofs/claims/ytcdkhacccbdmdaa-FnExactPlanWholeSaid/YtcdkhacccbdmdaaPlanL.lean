/- What a law does with a plan: its size, its likeness. -/
import Derived.Test.YtcdkhacccbdmdaaPlanW
import Derived.Test.YtcdkhacccbdmdaaLaw
namespace Go.Proofs.Ytcdkhacccbdmdaa
open Go.RowKit Go.ChangeShapes Go.WideShapes

/-- a plan that came in -/
def PlanIn (w : World) (v : Value) : Prop :=
  ∃ (a a2 : Option Addr) (c c2 : Nat) (ss : List ByteArray) (ms : List Int) (p q r : Int), v = .agg #[.slice a ss.length c, .slice a2 ms.length c2, .int .i64 p, .int .i64 q, .int .i64 r] ∧
    ss.length ≤ maxLen ∧ ms.length ≤ maxLen ∧ (∀ s ∈ ss, s.size ≤ maxLen) ∧ Sl w a (ss.map Value.string) ∧ Sl w a2 (ms.map (Value.int .i64)) ∧
    (∀ x ∈ ms, (Lit.int .i64 x).wf = true) ∧ (Lit.int .i64 p).wf = true ∧ (Lit.int .i64 q).wf = true ∧ (Lit.int .i64 r).wf = true
set_option maxRecDepth 100000 in
theorem open_plan {H : Type} {enc : TypeId × Value → H} {W : World} {base : Nat} {spare : Nat → Bool} {held : Bool} {r : Reach} {b0 : Nat} {v : Value} {d : DataW H} {p : List MemPlace}
    (hv : Value.okWide Try.prog W r b0 33 v) (h : DataW.Trod enc Try.prog W base spare held 33 v d p) : PlanIn W v := by
  obtain ⟨v0, v1, v2, v3, v4, y0, y1, y2, y3, y4, n, rfl, h0, h1, h2, h3, h4⟩ := open_agg5 Try.underlying33 (by kernel_rfl) (by kernel_rfl) hv h
  obtain ⟨a, c, ss, rfl, hn, hS, hR, _⟩ := open_sl (f := Value.string) (R := fun s => s.size ≤ maxLen) Try.underlying30 (by kernel_rfl) (fun n v y hy => by
    obtain ⟨s, e, _, hl⟩ := DataW.trod_string Try.underlying9 hy
    simp at e; exact ⟨s, e, hl⟩) h0
  obtain ⟨a2, c2, ms, rfl, hn2, hS2, hR2, _⟩ := open_sl (f := Value.int .i64) (R := fun x => (Lit.int .i64 x).wf = true) Try.underlying31 (by kernel_rfl) (fun n v y hy => by
    obtain ⟨s, e, _, hl⟩ := DataW.trod_int Try.underlying3 hy
    simp at e; exact ⟨s, e, hl⟩) h1
  obtain ⟨x2, e2, _, w2⟩ := DataW.trod_int Try.underlying3 h2
  obtain ⟨x3, e3, _, w3⟩ := DataW.trod_int Try.underlying3 h3
  obtain ⟨x4, e4, _, w4⟩ := DataW.trod_int Try.underlying3 h4
  simp at e2 e3 e4
  subst e2 e3 e4
  exact ⟨a, a2, c, c2, ss, ms, x2, x3, x4, rfl, hn, hn2, hR, hS, hS2, hR2, w2, w3, w4⟩

theorem leftOf_bd : ∀ (ss : List ByteArray) (l : Int), 0 ≤ l → -1 ≤ leftOf ss l ∧ leftOf ss l ≤ l ∧ (0 ≤ leftOf ss l → ∀ s ∈ ss, (s.size : Int) ≤ l)
  | [], l, h => by simp [leftOf]; omega
  | s :: r, l, h => by
    unfold leftOf
    by_cases h2 : l - s.size < 0
    · rw [if_pos h2]
      exact ⟨by omega, by omega, fun h3 => absurd h3 (by omega)⟩
    · rw [if_neg h2]
      obtain ⟨h3, h4, h5⟩ := leftOf_bd r (l - s.size) (by omega)
      refine ⟨h3, by omega, fun h6 x hx => ?_⟩
      rcases List.mem_cons.1 hx with rfl | hx
      · omega
      · have := h5 h6 x hx; omega
def szPl (ss : List ByteArray) (m : Nat) (l : Int) : Int := if szStrs ss l < 0 then -1 else if szStrs ss l < m then -1 else szStrs ss l - m
theorem szStrs_bd (ss : List ByteArray) (l : Int) (h : 0 ≤ l) : -1 ≤ szStrs ss l ∧ szStrs ss l ≤ l ∧ (0 ≤ szStrs ss l → (ss.length : Int) ≤ l ∧ ∀ s ∈ ss, (s.size : Int) ≤ l) := by
  unfold szStrs
  by_cases h2 : l < ss.length
  · rw [if_pos h2]
    exact ⟨by omega, by omega, fun h3 => absurd h3 (by omega)⟩
  · rw [if_neg h2]
    obtain ⟨h3, h4, h5⟩ := leftOf_bd ss (l - ss.length) (by omega)
    exact ⟨h3, by omega, fun h6 => ⟨by omega, fun x hx => by have := h5 h6 x hx; omega⟩⟩
theorem szPl_bd (ss : List ByteArray) (m : Nat) (l : Int) (h : 0 ≤ l) (h2 : ¬ szPl ss m l < 0) : (ss.length : Int) ≤ l ∧ (m : Int) ≤ l ∧ ∀ s ∈ ss, (s.size : Int) ≤ l := by
  obtain ⟨h3, h4, h5⟩ := szStrs_bd ss l h
  unfold szPl at h2
  by_cases h6 : szStrs ss l < 0
  · rw [if_pos h6] at h2; omega
  · rw [if_neg h6] at h2
    by_cases h7 : szStrs ss l < m
    · rw [if_pos h7] at h2; omega
    · obtain ⟨h8, h9⟩ := h5 (by omega)
      exact ⟨h8, by omega, h9⟩
theorem szPlan_any (a a2 : Option Addr) (c c2 m : Nat) (p q r : Int) (ss : List ByteArray) (left : Int) (h0 : 0 ≤ left) (h1 : left ≤ 1048576) (hn : ss.length ≤ maxLen) (hm : m ≤ maxLen) (hl : ∀ s ∈ ss, s.size ≤ maxLen) (w : World) (hs : Sl w a (ss.map Value.string)) :
    Calls Try.prog 12 #[.agg #[.slice a ss.length c, .slice a2 m c2, .int .i64 p, .int .i64 q, .int .i64 r], .int .i64 left] w fun e w' => e = .returned (.int .i64 (szPl ss m left)) ∧ Below w.heap.size w w' := by
  have HS := Lib.hid (hs.alloc (.cells #[.slice a ss.length c, .slice a2 m c2, .int .i64 p, .int .i64 q, .int .i64 r] 33))
  have HL := Lib.hid hl
  have HB := Lib.hid (szStrs_bd ss left h0)
  have HE : Hid (szPl ss m left = if szStrs ss left < 0 then -1 else if szStrs ss left < m then -1 else szStrs ss left - m) := by show _ = _; rfl
  clear hs hl
  generalize szPl ss m left = R at *
  by_cases hz : szStrs ss left < 0
  · have HR : Hid (R = -1) := by show _ = _; rw [HE.out, if_pos hz]
    go_enter Try.func12, Try.ntmps12
    go_wp2_with (go_at_call 32; refine (szStringS_any _ _ _ _ h0 h1 hn HL.out _ HS.out).mono ?_; rintro e w' ⟨rfl, rfl⟩; have hb1 := HB.out.1; generalize szStrs ss left = z at *)
    go_ret
    rw [HR.out]
    exact ⟨rfl, (Below.refl _ _).alloc (Nat.le_refl _) _⟩
  · have hz1 := HB.out.2.1
    by_cases hz2 : szStrs ss left < m
    · have HR : Hid (R = -1) := by show _ = _; rw [HE.out, if_neg hz, if_pos hz2]
      go_enter Try.func12, Try.ntmps12
      go_wp2_with (first | (go_at_call 32; refine (szStringS_any _ _ _ _ h0 h1 hn HL.out _ HS.out).mono ?_; rintro e w' ⟨rfl, rfl⟩; generalize szStrs ss left = z at *) | (go_at_call 33; refine (szIntS_any _ _ _ _ (by omega) (by omega) hm _).mono ?_; rintro e w' ⟨rfl, rfl⟩; simp only [if_pos hz2]))
      go_ret
      rw [HR.out]
      exact ⟨rfl, (Below.refl _ _).alloc (Nat.le_refl _) _⟩
    · obtain ⟨y, hy⟩ : ∃ y, y = szStrs ss left - (m : Int) := ⟨_, rfl⟩
      have HR : Hid (R = y) := by show _ = _; rw [HE.out, if_neg hz, if_neg hz2, hy]
      have hy0 : 0 ≤ y := by omega
      have hy1 : y ≤ 1048576 := by omega
      have H2 : Hid (∀ w, Calls Try.prog 33 #[.slice a2 m c2, .int .i64 (szStrs ss left)] w fun e w' => e = .returned (.int .i64 y) ∧ w = w') := by
        intro w
        have h := szIntS_any a2 m c2 (szStrs ss left) (by omega) (by omega) hm w
        rwa [if_neg hz2, ← hy] at h
      clear hy hz2
      go_enter Try.func12, Try.ntmps12
      go_wp2_with (first | (go_at_call 32; refine (szStringS_any _ _ _ _ h0 h1 hn HL.out _ HS.out).mono ?_; rintro e w' ⟨rfl, rfl⟩; generalize szStrs ss left = z at *) | (go_at_call 33; refine (H2.out _).mono ?_; rintro e w' ⟨rfl, rfl⟩))
      go_ret
      rw [HR.out]
      exact ⟨rfl, (Below.refl _ _).alloc (Nat.le_refl _) _⟩
theorem eqPlan_same (a a2 b b2 : Option Addr) (c c2 cb cb2 : Nat) (p q r : Int) (ss : List ByteArray) (ms : List Int) (hn : ss.length ≤ 1048576) (hm : ms.length ≤ 1048576) (w : World)
    (hs : Sl w a (ss.map Value.string)) (hs2 : Sl w a2 (ms.map (Value.int .i64))) (ht : Sl w b (ss.map Value.string)) (ht2 : Sl w b2 (ms.map (Value.int .i64))) :
    Calls Try.prog 16 #[.agg #[.slice a ss.length c, .slice a2 ms.length c2, .int .i64 p, .int .i64 q, .int .i64 r], .agg #[.slice b ss.length cb, .slice b2 ms.length cb2, .int .i64 p, .int .i64 q, .int .i64 r]] w fun e w' => e = .returned (.bool true) ∧ Below w.heap.size w w' := by
  obtain ⟨C0, hC0⟩ : ∃ C0, C0 = #[Value.slice a ss.length c, .slice a2 ms.length c2, .int .i64 p, .int .i64 q, .int .i64 r] := ⟨_, rfl⟩
  obtain ⟨C1, hC1⟩ : ∃ C0, C0 = #[Value.slice b ss.length cb, .slice b2 ms.length cb2, .int .i64 p, .int .i64 q, .int .i64 r] := ⟨_, rfl⟩
  have X0 : Box w w.heap.size C0 36 ((w.alloc (.cells C0 36)).alloc (.cells C1 36)) := (Box.new w C0 _).alloc _
  have X1 : Box w (w.heap.size + 1) C1 36 ((w.alloc (.cells C0 36)).alloc (.cells C1 36)) := by
    have := (Box.new (w.alloc (.cells C0 36)) C1 36).up (w0 := w) ((Below.refl _ _).alloc (Nat.le_refl _) _)
    rwa [World.size_alloc] at this
  have HS := Lib.hid ((hs.alloc (.cells C0 36)).alloc (.cells C1 36))
  have HS2 := Lib.hid ((hs2.alloc (.cells C0 36)).alloc (.cells C1 36))
  have HT := Lib.hid ((ht.alloc (.cells C0 36)).alloc (.cells C1 36))
  have HT2 := Lib.hid ((ht2.alloc (.cells C0 36)).alloc (.cells C1 36))
  clear hs hs2 ht ht2
  subst hC0 hC1
  have e1 : (p != p) = false := by simp
  have e2 : (q != q) = false := by simp
  have e3 : (r != r) = false := by simp
  go_enter Try.func16, Try.ntmps16
  go_wp2_with fail
  refine (eqStringS_same a b c cb ss hn _ HS.out HT.out).mono ?_
  rintro e w1 ⟨rfl, hd⟩
  replace X0 := X0.step (hd.below _)
  replace X1 := X1.step (hd.below _)
  have c1 := X0.cell 1 _ rfl
  have d1 := X1.cell 1 _ rfl
  have KS := Lib.hid (HS2.out.drw hd)
  have KT := Lib.hid (HT2.out.drw hd)
  clear HS HS2 HT HT2 hd
  go_wp2_with fail
  refine (eqIntS_same a2 b2 c2 cb2 ms hm _ KS.out KT.out).mono ?_
  rintro e w2 ⟨rfl, hd⟩
  replace X0 := X0.step (hd.below _)
  replace X1 := X1.step (hd.below _)
  clear c1 d1 KS KT hd
  have c2 := X0.cell 2 _ rfl
  have c3 := X0.cell 3 _ rfl
  have c4 := X0.cell 4 _ rfl
  have d2 := X1.cell 2 _ rfl
  have d3 := X1.cell 3 _ rfl
  have d4 := X1.cell 4 _ rfl
  go_wp2
  go_ret
  exact ⟨rfl, X0.old⟩
end Go.Proofs.Ytcdkhacccbdmdaa
