/- Walks: an angle and a number drawn. -/
import Derived.Test.YtcdkhacccbdmdaaDoorAngD
import Derived.Deep.RegionWith
namespace Go.Proofs.YtcdkhacccbdmdaaDoor
open Go.RowKit

theorem Only.alloc1 {b : Nat} {u v : World} (h : Only b u v) (o : Obj) : Only b u (v.alloc o) := h.trans (Only.of_below ((Below.refl _ _).alloc (Nat.le_refl _) o))
/-- a store into a block that was not there -/
theorem Only.far {b : Nat} {u v : World} (h : Only b u v) {p : Addr} (hp : u.heap.size ≤ p.block) (x : Value) : Only b u (v.setCell p x) :=
  ⟨h.os, h.tape, h.output, by rw [size_set]; exact h.size, fun k hk hne => (Below.heap_setCell v p x k (by omega)).trans (h.block k hk hne)⟩
set_option maxHeartbeats 2000000 in
theorem l92Angle_own (w0 : World) (b p : Nat) (hp : p ≤ 1099511627000) (W : World) (h : Rd w0 b p W) :
    Calls Tryd.prog 33 #[.pointer (some ⟨b, 0, none⟩)] W fun e w' => (∃ x y : Int, e = .returned (.agg #[.int .i64 x, .int .i64 y]) ∧ DrawnA x y) ∧ ∃ p', p' ≤ p + 3 ∧ Rd w0 b p' w' ∧ Only b W w' := by
  obtain ⟨hb0, hb1⟩ := h.own
  have X := (Box.new W #[.int .i64 0, .int .i64 0] 24).up h.below
  have HR := h.step ((Below.refl _ _).alloc (Nat.le_refl _) (.cells #[.int .i64 0, .int .i64 0] 24))
  have hne : W.heap.size ≠ b := by omega
  obtain ⟨rb, hrb⟩ : ∃ rb, W.heap.size = rb := ⟨_, rfl⟩
  have hrw : w0.heap.size ≤ rb := by rw [← hrb]; exact h.below.size
  have hrW : W.heap.size ≤ rb := by omega
  have O := Lib.hid ((Only.refl b W).alloc1 (.cells #[.int .i64 0, .int .i64 0] 24))
  go_enter Tryd.func33, Tryd.ntmps33
  go_wp2_with fail
  refine (pick_any w0 b p 64 (by omega) (by omega) _ HR).mono ?_
  rintro e w1 ⟨⟨k, rfl, k0, k1⟩, hR, hO⟩
  replace O := Lib.hid (O.out.trans hO)
  replace X := X.only hO hne hb0
  replace HR := hR
  rw [hrb] at X hne
  clear hR hO h hrb
  obtain ⟨d, hd⟩ : ∃ d : Nat, 1 + k = (d : Int) := ⟨(1 + k).toNat, by omega⟩
  have hd1 : 1 ≤ d := by omega
  have hd2 : d ≤ 64 := by omega
  go_wp2_with fail
  refine (pick_any w0 b (p + 1) d (by omega) (by omega) _ HR).mono ?_
  rintro e w2 ⟨⟨j, rfl, j0, j1⟩, hR, hO⟩
  replace O := Lib.hid (O.out.trans hO)
  replace X := X.only hO hne hb0
  replace HR := hR
  clear hR hO
  obtain ⟨n, rfl⟩ := Int.eq_ofNat_of_zero_le j0
  have hn1 : n < d := by omega
  go_wp2_with fail
  refine (l6aGcd_any n d (by omega) (by omega) _).mono ?_
  rintro e w3 ⟨rfl, rfl⟩
  have hgp : 1 ≤ Nat.gcd n d := Nat.gcd_pos_of_pos_right _ (by omega)
  have e2 : (n : Int).tdiv (Nat.gcd n d : Nat) = ((n / Nat.gcd n d : Nat) : Int) := (Int.tdiv_eq_ediv_of_nonneg (by omega)).trans (Int.natCast_ediv n _).symm
  have e3 : (d : Int).tdiv (Nat.gcd n d : Nat) = ((d / Nat.gcd n d : Nat) : Int) := (Int.tdiv_eq_ediv_of_nonneg (by omega)).trans (Int.natCast_ediv d _).symm
  have x1 : n / Nat.gcd n d ≤ n := Nat.div_le_self _ _
  have y1 : d / Nat.gcd n d ≤ d := Nat.div_le_self _ _
  generalize n / Nat.gcd n d = x at *
  generalize d / Nat.gcd n d = y at *
  generalize Nat.gcd n d = g at *
  have hgz : ((g : Int) == 0) = false := by simp; omega
  have Y := (Box.new w2 #[.int .i64 x, .int .i64 y] 24).up HR.below
  have hy : w2.heap.size ≠ b := by have := HR.own.2; omega
  have hy2 : w2.heap.size ≠ rb := by have := X.lt; omega
  replace X := (X.alloc (.cells #[.int .i64 x, .int .i64 y] 24)).step ((Drw.refl _).drew.below _)
  replace Y := Y.step ((Drw.refl _).drew.below _)
  replace O := Lib.hid (((O.out.alloc1 (.cells #[.int .i64 x, .int .i64 y] 24))).trans (Only.of_below ((Drw.refl _).drew.below _)))
  have HR3 := (HR.step ((Below.refl _ _).alloc (Nat.le_refl _) (.cells #[.int .i64 x, .int .i64 y] 24))).drw ((Drw.refl _).drew)
  obtain ⟨rc, hrc⟩ : ∃ rc, w2.heap.size = rc := ⟨_, rfl⟩
  have hrcw : w0.heap.size ≤ rc := by rw [← hrc]; exact HR.below.size
  rw [hrc] at Y hy hy2
  clear HR
  go_upto_region 4 with fail
  go_region
  go_wp2_with fail
  refine (pick_any w0 b (p + 1 + 1) 24 (by omega) (by omega) _ HR3).mono ?_
  rintro e w4 ⟨⟨m, rfl, m0, m1⟩, hR, hO⟩
  replace O := Lib.hid (O.out.trans hO)
  replace X := X.only hO hne hb0
  replace Y := Y.only hO hy hb0
  have c0 := X.cell 0 _ rfl
  have c1 := X.cell 1 _ rfl
  have f0 := X.frozen 0
  have f1 := X.frozen 1
  have d0 := Y.cell 0 _ rfl
  have d1 := Y.cell 1 _ rfl
  have HF : Hid (∀ u v : Value, ∃ p', p' ≤ p + 3 ∧ Rd w0 b p' ((w4.setCell ⟨rb, 0, none⟩ u).setCell ⟨rb, 1, none⟩ v) ∧ Only b W ((w4.setCell ⟨rb, 0, none⟩ u).setCell ⟨rb, 1, none⟩ v)) := fun u v => ⟨p + 1 + 1 + 1, by omega, (hR.other (p := ⟨rb, 0, none⟩) hrw (Ne.symm hne) u).other (p := ⟨rb, 1, none⟩) hrw (Ne.symm hne) v, (O.out.far (p := ⟨rb, 0, none⟩) hrW u).far (p := ⟨rb, 1, none⟩) hrW v⟩
  clear hR hO X Y HR3
  by_cases h0 : m = 0
  · subst h0
    go_wp2
    exact bodyPost_ret (v := .agg #[.int .i64 (2), .int .i64 (4)]) (by simp [results, Tryd.f33, go_sem, c0, c1]) rfl ⟨⟨_, _, rfl, by unfold DrawnA; omega⟩, HF.out _ _⟩
  by_cases h1 : m = 1
  · subst h1
    go_wp2
    exact bodyPost_ret (v := .agg #[.int .i64 (1), .int .i64 (1)]) (by simp [results, Tryd.f33, go_sem, c0, c1]) rfl ⟨⟨_, _, rfl, by unfold DrawnA; omega⟩, HF.out _ _⟩
  by_cases h2 : m = 2
  · subst h2
    go_wp2
    exact bodyPost_ret (v := .agg #[.int .i64 (-1), .int .i64 (3)]) (by simp [results, Tryd.f33, go_sem, c0, c1]) rfl ⟨⟨_, _, rfl, by unfold DrawnA; omega⟩, HF.out _ _⟩
  by_cases h3 : m = 3
  · subst h3
    go_wp2
    exact bodyPost_ret (v := .agg #[.int .i64 (1), .int .i64 (1048576)]) (by simp [results, Tryd.f33, go_sem, c0, c1]) rfl ⟨⟨_, _, rfl, by unfold DrawnA; omega⟩, HF.out _ _⟩
  have g0 : (m == 0) = false := by simpa using h0
  have g1 : (m == 1) = false := by simpa using h1
  have g2 : (m == 2) = false := by simpa using h2
  have g3 : (m == 3) = false := by simpa using h3
  go_wp2
  exact bodyPost_ret (v := .agg #[.int .i64 x, .int .i64 y]) (by simp [results, Tryd.f33, go_sem, c0, c1]) rfl ⟨⟨_, _, rfl, by unfold DrawnA; omega⟩, HF.out _ _⟩
/-- a reader opened behind blocks of the call's own -/
theorem open_base (a : Option Addr) (c : Nat) (bs : List UInt8) (hn : bs.length ≤ 1048576) (hc : bs.length ≤ c) (w0 w : World) (hb : Below w0.heap.size w0 w) (hs : Sl w0 a (bs.map byteV)) :
    Calls Tryd.prog 34 #[.slice a bs.length c] w fun e w' => ∃ b, e = .returned (.pointer (some ⟨b, 0, none⟩)) ∧ b = w.heap.size ∧ Rd w0 b 0 w' ∧ Below w.heap.size w w' := by
  obtain ⟨n, hN⟩ : ∃ n, bs.length = n := ⟨_, rfl⟩
  by_cases h : 2000 < n
  · have HR : Hid (Rd w0 w.heap.size 0 (w.alloc (.cells #[.slice a 2000 c, .int .i64 0] 81))) := by
      have hl : (bs.take 2000).length = 2000 := by simp; omega
      refine ⟨a, c, bs.take 2000, ?_, ?_, hb.size, by omega⟩
      · rw [hl]; exact (Box.new w _ _).up hb
      · rcases hs with hs | ⟨b, o, ha, hs⟩
        · simp at hs; simp [hs] at hN; omega
        · refine .inr ⟨b, o, ha, fun i v hv => ?_⟩
          refine hs i v ?_
          rw [List.map_take, List.getElem?_take] at hv
          split at hv
          · exact hv
          · cases hv
    obtain ⟨ab, ao, rfl⟩ : ∃ ab ao, a = some ⟨ab, ao, none⟩ := by
      rcases hs with hs | ⟨b, o, ha, hs⟩
      · simp at hs; simp [hs] at hN; omega
      · exact ⟨b, o, ha⟩
    rw [hN] at hn hc ⊢
    have hc2 : 2000 ≤ c := by omega
    have hc3 : (2000 : Int) ≤ c := by omega
    clear hN hs hb
    go_enter Tryd.func34, Tryd.ntmps34
    go_wp2
    go_ret
    exact ⟨_, rfl, rfl, HR.out, (Below.refl _ _).alloc (Nat.le_refl _) _⟩
  · have HR : Hid (Rd w0 w.heap.size 0 (w.alloc (.cells #[.slice a n c, .int .i64 0] 81))) :=
      ⟨a, c, bs, by rw [hN]; exact (Box.new w _ _).up hb, hs, hb.size, by omega⟩
    rw [hN]
    clear hs
    rw [hN] at hn hc
    clear hN hb
    go_enter Tryd.func34, Tryd.ntmps34
    go_wp2
    go_ret
    exact ⟨_, rfl, rfl, HR.out, (Below.refl _ _).alloc (Nat.le_refl _) _⟩
/-- the draw's boxes and its reader -/
structure InvB (w : World) (b xb ob n : Nat) (x y : Int) (u v : Value) (W : World) : Prop where
  X : Box w xb #[.int .i64 x, .int .i64 y] 24 W
  O : Box w ob #[u, v] 24 W
  R : ∃ p, p ≤ n ∧ Rd w b p W
  hX : w.heap.size ≤ xb
  hO : w.heap.size ≤ ob
  bx : b ≠ xb
  bo : b ≠ ob
  xo : xb ≠ ob
theorem InvB.drew {w : World} {b xb ob n : Nat} {x y : Int} {u v : Value} {W : World} (h : InvB w b xb ob n x y u v W) : InvB w b xb ob n x y u v W.drew := by
  obtain ⟨X, O, ⟨p, hp, R⟩, r1, r2, r3, r4, r5⟩ := h
  exact ⟨X.step ((Drw.refl _).drew.below _), O.step ((Drw.refl _).drew.below _), ⟨p, hp, R.drw (Drw.refl _).drew⟩, r1, r2, r3, r4, r5⟩
theorem InvB.put {w : World} {b xb ob n : Nat} {x y : Int} {u' v' : Value} {W : World} (h : InvB w b xb ob n x y u' v' W) (u v : Value) : InvB w b xb ob n x y u v ((W.setCell ⟨ob, 0, none⟩ u).setCell ⟨ob, 1, none⟩ v) := by
  obtain ⟨X, O, ⟨p, hp, R⟩, r1, r2, r3, r4, r5⟩ := h
  exact ⟨(X.other (p := ⟨ob, 0, none⟩) r2 r5 u).other (p := ⟨ob, 1, none⟩) r2 r5 v, (O.set r2 0 u).set r2 1 v, ⟨p, hp, (R.other (p := ⟨ob, 0, none⟩) r2 r4 u).other (p := ⟨ob, 1, none⟩) r2 r4 v⟩, r1, r2, r3, r4, r5⟩
theorem pick_inv {w : World} {b xb ob n : Nat} {x y : Int} {u v : Value} {W : World} (h : InvB w b xb ob n x y u v W) (hn : n ≤ 1000) (k : Int) (hk : k ≤ 1000) :
    Calls Tryd.prog 48 #[.pointer (some ⟨b, 0, none⟩), .int .i64 k] W fun e w' => (∃ r : Int, e = .returned (.int .i64 r) ∧ 0 ≤ r ∧ (r < k ∨ r = 0)) ∧ InvB w b xb ob (n + 1) x y u v w' ∧ w'.cell? ⟨xb, 0, none⟩ = some (.int .i64 x) ∧ w'.cell? ⟨xb, 1, none⟩ = some (.int .i64 y) ∧ w'.frozen? ⟨ob, 0, none⟩ = false ∧ w'.frozen? ⟨ob, 1, none⟩ = false ∧ w'.cell? ⟨ob, 0, none⟩ = some u ∧ w'.cell? ⟨ob, 1, none⟩ = some v := by
  obtain ⟨X, O, ⟨p, hp, R⟩, r1, r2, r3, r4, r5⟩ := h
  have hb := R.own.1
  refine (pick_any w b p k (by omega) (by omega) W R).mono ?_
  rintro e w' ⟨hr, hR, hO⟩
  have X' := X.only hO r3.symm hb
  have O' := O.only hO r4.symm hb
  exact ⟨hr, ⟨X', O', ⟨p + 1, by omega, hR⟩, r1, r2, r3, r4, r5⟩, X'.cell 0 _ rfl, X'.cell 1 _ rfl, O'.frozen 0, O'.frozen 1, O'.cell 0 _ rfl, O'.cell 1 _ rfl⟩
set_option maxRecDepth 100000 in
set_option maxHeartbeats 4000000 in
theorem drawAngleBits_any (a : Option Addr) (c : Nat) (bs : List UInt8) (hn : bs.length ≤ 1048576) (hc : bs.length ≤ c) (w : World) (hs : Sl w a (bs.map byteV)) :
    Calls Tryd.prog 27 #[.slice a bs.length c] w fun e w' => (∃ x y n : Int, e = .returned (.tuple #[.agg #[.int .i64 x, .int .i64 y], .int .i64 n]) ∧ DrawnA x y) ∧ Below w.heap.size w w' := by
  have H := Lib.hid (open_base a c bs hn hc w _ ((Below.refl _ w).alloc (Nat.le_refl _) (.cells #[.int .i64 0, .int .i64 0] 24)) hs)
  have O := Box.new w #[.int .i64 0, .int .i64 0] 24
  clear hs
  go_enter Tryd.func27, Tryd.ntmps27
  go_wp2_with fail
  refine H.out.mono ?_
  rintro e w1 ⟨b, rfl, hbw, hR, hB⟩
  have hbo : b ≠ w.heap.size := by rw [hbw]; simp
  have hbw' : w.heap.size ≤ b := hR.own.1
  replace O := O.step hB
  clear H hbw hB
  go_wp2_with fail
  refine (l92Angle_own w b 0 (by omega) _ hR).mono ?_
  rintro e w2 ⟨⟨x, y, rfl, hxy⟩, p', hp', hR2, hO⟩
  have HX := Lib.hid hxy
  replace O := O.only hO hbo.symm hbw'
  have hxb : w2.heap.size ≠ b := by have := hR2.own.2; omega
  have hxo : w2.heap.size ≠ w.heap.size := by have := O.lt; omega
  have X := (Box.new w2 #[.int .i64 x, .int .i64 y] 24).up hR2.below
  have I : InvB w b w2.heap.size w.heap.size 3 x y (.int .i64 0) (.int .i64 0) (w2.alloc (.cells #[.int .i64 x, .int .i64 y] 24)) :=
    ⟨X, O.alloc _, ⟨p', by omega, hR2.step ((Below.refl _ _).alloc (Nat.le_refl _) _)⟩, hR2.below.size, Nat.le_refl _, hxb.symm, hbo, hxo⟩
  have c0 := X.cell 0 _ rfl
  have c1 := X.cell 1 _ rfl
  replace O := O.alloc (.cells #[.int .i64 x, .int .i64 y] 24)
  have d0 := O.cell 0 _ rfl
  have d1 := O.cell 1 _ rfl
  have f0 := O.frozen 0
  have f1 := O.frozen 1
  clear X O hR hR2 hO hxy hp'
  go_upto_region 3 with fail
  generalize w2.heap.size = xb at *
  generalize w2.alloc (.cells #[.int .i64 x, .int .i64 y] 24) = W at *
  go_region_with (first
    | (go_at_call 48
       first
         | refine (pick_inv I (by omega) 20 (by omega)).mono ?_
         | refine (pick_inv I.drew (by omega) 20 (by omega)).mono ?_
         | refine (pick_inv (I.put _ _) (by omega) 20 (by omega)).mono ?_
         | refine (pick_inv (I.drew.put _ _) (by omega) 20 (by omega)).mono ?_
       rintro e w5 ⟨⟨r, rfl, r0, r1⟩, I, c0, c1, f0, f1, d0, d1⟩))
  all_goals
    have HX2 := Lib.hid HX.out
    go_wp2
    first
      | exact bodyPost_ret (v := .tuple #[.agg #[.int .i64 x, .int .i64 y], .int .i64 _]) (by simp [results, Tryd.f27, go_sem, d0, d1]; rfl) rfl ⟨⟨x, y, _, rfl, HX2.out⟩, I.X.old⟩
      | exact bodyPost_ret (v := .tuple #[.agg #[.int .i64 x, .int .i64 y], .int .i64 _]) (by simp [results, Tryd.f27, go_sem, d0, d1]; rfl) rfl ⟨⟨x, y, _, rfl, HX2.out⟩, (I.put _ _).X.old⟩
      | trace_state
end Go.Proofs.YtcdkhacccbdmdaaDoor
