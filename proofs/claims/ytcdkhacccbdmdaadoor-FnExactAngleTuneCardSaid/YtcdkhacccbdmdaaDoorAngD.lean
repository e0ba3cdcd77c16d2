/- Walks: angles drawn. -/
import Derived.Test.YtcdkhacccbdmdaaDoorAngM
import Derived.Test.YtcdkhacccbdmdaaDoorRd
namespace Go.Proofs.YtcdkhacccbdmdaaDoor
open Go.RowKit

theorem Box.only {w0 W W' : World} {b b' : Nat} {C : Array Value} {T : TypeId} (h : Box w0 b' C T W) (k : Only b W W') (hne : b' ≠ b) (hb : w0.heap.size ≤ b) : Box w0 b' C T W' :=
  ⟨(k.block b' h.lt hne).trans h.blk, h.old.trans (k.below _ h.old.size hb)⟩
theorem Rd.own {w0 : World} {b p : Nat} {W : World} (h : Rd w0 b p W) : w0.heap.size ≤ b ∧ b < W.heap.size := by
  obtain ⟨_, _, _, h, _, h2, _⟩ := h; exact ⟨h2, h.lt⟩
theorem Rd.other {w0 : World} {b q : Nat} {W : World} (h : Rd w0 b q W) {p : Addr} (hp : w0.heap.size ≤ p.block) (hne : b ≠ p.block) (v : Value) : Rd w0 b q (W.setCell p v) := by
  obtain ⟨a, c, bs, h, r⟩ := h; exact ⟨a, c, bs, h.other hp hne v, r⟩
/-- what is drawn: a small bottom, or the greatest -/
def DrawnA (x y : Int) : Prop := y ≤ 64 ∨ (x = 1 ∧ y = 1048576)
set_option maxHeartbeats 2000000 in
theorem l92Angle_any (w0 : World) (b p : Nat) (hp : p ≤ 1099511627000) (W : World) (h : Rd w0 b p W) :
    Calls Tryd.prog 33 #[.pointer (some ⟨b, 0, none⟩)] W fun e w' => (∃ x y : Int, e = .returned (.agg #[.int .i64 x, .int .i64 y]) ∧ DrawnA x y) ∧ ∃ p', p' ≤ p + 3 ∧ Rd w0 b p' w' := by
  obtain ⟨hb0, hb1⟩ := h.own
  have X := (Box.new W #[.int .i64 0, .int .i64 0] 24).up h.below
  have HR := h.step ((Below.refl _ _).alloc (Nat.le_refl _) (.cells #[.int .i64 0, .int .i64 0] 24))
  have hne : W.heap.size ≠ b := by omega
  obtain ⟨rb, hrb⟩ : ∃ rb, W.heap.size = rb := ⟨_, rfl⟩
  have hrw : w0.heap.size ≤ rb := by rw [← hrb]; exact h.below.size
  go_enter Tryd.func33, Tryd.ntmps33
  go_wp2_with fail
  refine (pick_any w0 b p 64 (by omega) (by omega) _ HR).mono ?_
  rintro e w1 ⟨⟨k, rfl, k0, k1⟩, hR, hO⟩
  replace X := X.only hO hne hb0
  replace HR := hR
  rw [hrb] at X hne
  clear hR hO h hrb
  obtain ⟨d, hd⟩ : ∃ d : Nat, 1 + k = (d : Int) := ⟨(1 + k).toNat, by omega⟩
  have hd1 : 1 ≤ d := by omega
  have hd2 : d ≤ 64 := by omega
  go_wp2_with fail
  refine (pick_any w0 b (p + 1) d (by omega) (by omega) _ HR).mono ?_
  rintro e w2 ⟨⟨j, rfl, j0, j1⟩, hR, hO⟩
  replace X := X.only hO hne hb0
  replace HR := hR
  clear hR hO
  obtain ⟨n, rfl⟩ := Int.eq_ofNat_of_zero_le j0
  have hn1 : n < d := by omega
  go_wp2_with fail
  refine (l6aGcd_any n d (by omega) (by omega) _).mono ?_
  rintro e w3 ⟨rfl, rfl⟩
  have hgp : 1 ≤ Nat.gcd n d := Nat.gcd_pos_of_pos_right _ (by omega)
  have e2 : (n : Int).tdiv (Nat.gcd n d : Nat) = ((n / Nat.gcd n d : Nat) : Int) := (Int.tdiv_eq_ediv_of_nonneg (by omega)).trans (Int.natCast_ediv n _).symm
  have e3 : (d : Int).tdiv (Nat.gcd n d : Nat) = ((d / Nat.gcd n d : Nat) : Int) := (Int.tdiv_eq_ediv_of_nonneg (by omega)).trans (Int.natCast_ediv d _).symm
  have x1 : n / Nat.gcd n d ≤ n := Nat.div_le_self _ _
  have y1 : d / Nat.gcd n d ≤ d := Nat.div_le_self _ _
  generalize n / Nat.gcd n d = x at *
  generalize d / Nat.gcd n d = y at *
  generalize Nat.gcd n d = g at *
  have hgz : ((g : Int) == 0) = false := by simp; omega
  have Y := (Box.new w2 #[.int .i64 x, .int .i64 y] 24).up HR.below
  have hy : w2.heap.size ≠ b := by have := HR.own.2; omega
  have hy2 : w2.heap.size ≠ rb := by have := X.lt; omega
  replace X := (X.alloc (.cells #[.int .i64 x, .int .i64 y] 24)).step ((Drw.refl _).drew.below _)
  replace Y := Y.step ((Drw.refl _).drew.below _)
  have HR3 := (HR.step ((Below.refl _ _).alloc (Nat.le_refl _) (.cells #[.int .i64 x, .int .i64 y] 24))).drw ((Drw.refl _).drew)
  obtain ⟨rc, hrc⟩ : ∃ rc, w2.heap.size = rc := ⟨_, rfl⟩
  have hrcw : w0.heap.size ≤ rc := by rw [← hrc]; exact HR.below.size
  rw [hrc] at Y hy hy2
  clear HR
  go_upto_region 4 with fail
  go_region
  go_wp2_with fail
  refine (pick_any w0 b (p + 1 + 1) 24 (by omega) (by omega) _ HR3).mono ?_
  rintro e w4 ⟨⟨m, rfl, m0, m1⟩, hR, hO⟩
  replace X := X.only hO hne hb0
  replace Y := Y.only hO hy hb0
  have c0 := X.cell 0 _ rfl
  have c1 := X.cell 1 _ rfl
  have f0 := X.frozen 0
  have f1 := X.frozen 1
  have d0 := Y.cell 0 _ rfl
  have d1 := Y.cell 1 _ rfl
  have HF : Hid (∀ u v : Value, ∃ p', p' ≤ p + 3 ∧ Rd w0 b p' ((w4.setCell ⟨rb, 0, none⟩ u).setCell ⟨rb, 1, none⟩ v)) := fun u v => ⟨p + 1 + 1 + 1, by omega, (hR.other (p := ⟨rb, 0, none⟩) hrw (Ne.symm hne) u).other (p := ⟨rb, 1, none⟩) hrw (Ne.symm hne) v⟩
  clear hR hO X Y HR3
  by_cases h0 : m = 0
  · subst h0
    go_wp2
    exact bodyPost_ret (v := .agg #[.int .i64 (2), .int .i64 (4)]) (by simp [results, Tryd.f33, go_sem, c0, c1]) rfl ⟨⟨_, _, rfl, by unfold DrawnA; omega⟩, HF.out _ _⟩
  by_cases h1 : m = 1
  · subst h1
    go_wp2
    exact bodyPost_ret (v := .agg #[.int .i64 (1), .int .i64 (1)]) (by simp [results, Tryd.f33, go_sem, c0, c1]) rfl ⟨⟨_, _, rfl, by unfold DrawnA; omega⟩, HF.out _ _⟩
  by_cases h2 : m = 2
  · subst h2
    go_wp2
    exact bodyPost_ret (v := .agg #[.int .i64 (-1), .int .i64 (3)]) (by simp [results, Tryd.f33, go_sem, c0, c1]) rfl ⟨⟨_, _, rfl, by unfold DrawnA; omega⟩, HF.out _ _⟩
  by_cases h3 : m = 3
  · subst h3
    go_wp2
    exact bodyPost_ret (v := .agg #[.int .i64 (1), .int .i64 (1048576)]) (by simp [results, Tryd.f33, go_sem, c0, c1]) rfl ⟨⟨_, _, rfl, by unfold DrawnA; omega⟩, HF.out _ _⟩
  have g0 : (m == 0) = false := by simpa using h0
  have g1 : (m == 1) = false := by simpa using h1
  have g2 : (m == 2) = false := by simpa using h2
  have g3 : (m == 3) = false := by simpa using h3
  go_wp2
  exact bodyPost_ret (v := .agg #[.int .i64 x, .int .i64 y]) (by simp [results, Tryd.f33, go_sem, c0, c1]) rfl ⟨⟨_, _, rfl, by unfold DrawnA; omega⟩, HF.out _ _⟩
set_option maxHeartbeats 1000000 in
theorem drawAngleMirror_any (a : Option Addr) (c : Nat) (bs : List UInt8) (hn : bs.length ≤ 1048576) (hc : bs.length ≤ c) (w : World) (hs : Sl w a (bs.map byteV)) :
    Calls Tryd.prog 15 #[.slice a bs.length c] w fun e w' => (∃ x y : Int, e = .returned (.agg #[.int .i64 x, .int .i64 y]) ∧ DrawnA x y) ∧ Below w.heap.size w w' := by
  have H := Lib.hid (open_any a c bs hn hc _ (hs.alloc (.cells #[.int .i64 0, .int .i64 0] 24)))
  clear hs
  go_enter Tryd.func15, Tryd.ntmps15
  go_wp2_with fail
  refine H.out.mono ?_
  rintro e w1 ⟨b, rfl, -, hR⟩
  go_wp2_with fail
  refine (l92Angle_any _ b 0 (by omega) _ hR).mono ?_
  rintro e w2 ⟨⟨x, y, rfl, hxy⟩, p', -, hR2⟩
  have Z : Box w w.heap.size #[.int .i64 0, .int .i64 0] 24 w2 := (Box.new w _ _).step hR2.below
  have HX := Lib.hid hxy
  have c0 := Z.cell 0 _ rfl
  have c1 := Z.cell 1 _ rfl
  have f0 := Z.frozen 0
  have f1 := Z.frozen 1
  have HB := Lib.hid Z.old
  clear Z hR hR2 hxy H
  go_wp2
  exact bodyPost_ret (v := .agg #[.int .i64 x, .int .i64 y]) (by simp [results, Tryd.f15, go_sem, c0, c1]) rfl ⟨⟨_, _, rfl, HX.out⟩, (HB.out.setCell (p := ⟨w.heap.size, 0, none⟩) (Nat.le_refl _) _).setCell (p := ⟨w.heap.size, 1, none⟩) (Nat.le_refl _) _⟩
set_option maxHeartbeats 1000000 in
theorem drawAnglePeriod_any (a : Option Addr) (c : Nat) (bs : List UInt8) (hn : bs.length ≤ 1048576) (hc : bs.length ≤ c) (w : World) (hs : Sl w a (bs.map byteV)) :
    Calls Tryd.prog 11 #[.slice a bs.length c] w fun e w' => (∃ x y : Int, e = .returned (.agg #[.int .i64 x, .int .i64 y]) ∧ DrawnA x y) ∧ Below w.heap.size w w' := by
  have H := Lib.hid (open_any a c bs hn hc _ (hs.alloc (.cells #[.int .i64 0, .int .i64 0] 24)))
  clear hs
  go_enter Tryd.func11, Tryd.ntmps11
  go_wp2_with fail
  refine H.out.mono ?_
  rintro e w1 ⟨b, rfl, -, hR⟩
  go_wp2_with fail
  refine (l92Angle_any _ b 0 (by omega) _ hR).mono ?_
  rintro e w2 ⟨⟨x, y, rfl, hxy⟩, p', -, hR2⟩
  have Z : Box w w.heap.size #[.int .i64 0, .int .i64 0] 24 w2 := (Box.new w _ _).step hR2.below
  have HX := Lib.hid hxy
  have c0 := Z.cell 0 _ rfl
  have c1 := Z.cell 1 _ rfl
  have f0 := Z.frozen 0
  have f1 := Z.frozen 1
  have HB := Lib.hid Z.old
  clear Z hR hR2 hxy H
  go_wp2
  exact bodyPost_ret (v := .agg #[.int .i64 x, .int .i64 y]) (by simp [results, Tryd.f11, go_sem, c0, c1]) rfl ⟨⟨_, _, rfl, HX.out⟩, (HB.out.setCell (p := ⟨w.heap.size, 0, none⟩) (Nat.le_refl _) _).setCell (p := ⟨w.heap.size, 1, none⟩) (Nat.le_refl _) _⟩
end Go.Proofs.YtcdkhacccbdmdaaDoor
