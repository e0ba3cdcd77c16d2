/- Walks: an angle and a number drawn. -/
import Derived.Test.YteegdpnidakjiaaDoorAngD
import Derived.Deep.RegionWith
namespace Go.Proofs.YteegdpnidakjiaaDoor
open Go.RowKit

theorem Only.alloc1 {b : Nat} {u v : World} (h : Only b u v) (o : Obj) : Only b u (v.alloc o) := h.trans (Only.of_below ((Below.refl _ _).alloc (Nat.le_refl _) o))
/-- a store into a block that was not there -/
theorem Only.far {b : Nat} {u v : World} (h : Only b u v) {p : Addr} (hp : u.heap.size ≤ p.block) (x : Value) : Only b u (v.setCell p x) :=
  ⟨h.os, h.tape, h.output, by rw [size_set]; exact h.size, fun k hk hne => (Below.heap_setCell v p x k (by omega)).trans (h.block k hk hne)⟩
/-- a reader opened behind blocks of the call's own -/
theorem open_base (a : Option Addr) (c : Nat) (bs : List UInt8) (hn : bs.length ≤ 1048576) (hc : bs.length ≤ c) (w0 w : World) (hb : Below w0.heap.size w0 w) (hs : Sl w0 a (bs.map byteV)) :
    Calls Tryd.prog 9 #[.slice a bs.length c] w fun e w' => ∃ b, e = .returned (.pointer (some ⟨b, 0, none⟩)) ∧ b = w.heap.size ∧ Rd w0 b 0 w' ∧ Below w.heap.size w w' := by
  obtain ⟨n, hN⟩ : ∃ n, bs.length = n := ⟨_, rfl⟩
  by_cases h : 2000 < n
  · have HR : Hid (Rd w0 w.heap.size 0 (w.alloc (.cells #[.slice a 2000 c, .int .i64 0] 64))) := by
      have hl : (bs.take 2000).length = 2000 := by simp; omega
      refine ⟨a, c, bs.take 2000, ?_, ?_, hb.size, by omega⟩
      · rw [hl]; exact (Box.new w _ _).up hb
      · rcases hs with hs | ⟨b, o, ha, hs⟩
        · simp at hs; simp [hs] at hN; omega
        · refine .inr ⟨b, o, ha, fun i v hv => ?_⟩
          refine hs i v ?_
          rw [List.map_take, List.getElem?_take] at hv
          split at hv
          · exact hv
          · cases hv
    obtain ⟨ab, ao, rfl⟩ : ∃ ab ao, a = some ⟨ab, ao, none⟩ := by
      rcases hs with hs | ⟨b, o, ha, hs⟩
      · simp at hs; simp [hs] at hN; omega
      · exact ⟨b, o, ha⟩
    rw [hN] at hn hc ⊢
    have hc2 : 2000 ≤ c := by omega
    have hc3 : (2000 : Int) ≤ c := by omega
    clear hN hs hb
    go_enter Tryd.func9, Tryd.ntmps9
    go_wp2
    go_ret
    exact ⟨_, rfl, rfl, HR.out, (Below.refl _ _).alloc (Nat.le_refl _) _⟩
  · have HR : Hid (Rd w0 w.heap.size 0 (w.alloc (.cells #[.slice a n c, .int .i64 0] 64))) :=
      ⟨a, c, bs, by rw [hN]; exact (Box.new w _ _).up hb, hs, hb.size, by omega⟩
    rw [hN]
    clear hs
    rw [hN] at hn hc
    clear hN hb
    go_enter Tryd.func9, Tryd.ntmps9
    go_wp2
    go_ret
    exact ⟨_, rfl, rfl, HR.out, (Below.refl _ _).alloc (Nat.le_refl _) _⟩
/-- the draw's boxes and its reader -/
structure InvB (w : World) (b xb ob n : Nat) (x y : Int) (u v : Value) (W : World) : Prop where
  X : Box w xb #[.int .i64 x, .int .i64 y] 24 W
  O : Box w ob #[u, v] 24 W
  R : ∃ p, p ≤ n ∧ Rd w b p W
  hX : w.heap.size ≤ xb
  hO : w.heap.size ≤ ob
  bx : b ≠ xb
  bo : b ≠ ob
  xo : xb ≠ ob
theorem InvB.drew {w : World} {b xb ob n : Nat} {x y : Int} {u v : Value} {W : World} (h : InvB w b xb ob n x y u v W) : InvB w b xb ob n x y u v W.drew := by
  obtain ⟨X, O, ⟨p, hp, R⟩, r1, r2, r3, r4, r5⟩ := h
  exact ⟨X.step ((Drw.refl _).drew.below _), O.step ((Drw.refl _).drew.below _), ⟨p, hp, R.drw (Drw.refl _).drew⟩, r1, r2, r3, r4, r5⟩
theorem InvB.put {w : World} {b xb ob n : Nat} {x y : Int} {u' v' : Value} {W : World} (h : InvB w b xb ob n x y u' v' W) (u v : Value) : InvB w b xb ob n x y u v ((W.setCell ⟨ob, 0, none⟩ u).setCell ⟨ob, 1, none⟩ v) := by
  obtain ⟨X, O, ⟨p, hp, R⟩, r1, r2, r3, r4, r5⟩ := h
  exact ⟨(X.other (p := ⟨ob, 0, none⟩) r2 r5 u).other (p := ⟨ob, 1, none⟩) r2 r5 v, (O.set r2 0 u).set r2 1 v, ⟨p, hp, (R.other (p := ⟨ob, 0, none⟩) r2 r4 u).other (p := ⟨ob, 1, none⟩) r2 r4 v⟩, r1, r2, r3, r4, r5⟩
theorem pick_inv {w : World} {b xb ob n : Nat} {x y : Int} {u v : Value} {W : World} (h : InvB w b xb ob n x y u v W) (hn : n ≤ 1000) (k : Int) (hk : k ≤ 1000) :
    Calls Tryd.prog 10 #[.pointer (some ⟨b, 0, none⟩), .int .i64 k] W fun e w' => (∃ r : Int, e = .returned (.int .i64 r) ∧ 0 ≤ r ∧ (r < k ∨ r = 0)) ∧ InvB w b xb ob (n + 1) x y u v w' ∧ w'.cell? ⟨xb, 0, none⟩ = some (.int .i64 x) ∧ w'.cell? ⟨xb, 1, none⟩ = some (.int .i64 y) ∧ w'.frozen? ⟨ob, 0, none⟩ = false ∧ w'.frozen? ⟨ob, 1, none⟩ = false ∧ w'.cell? ⟨ob, 0, none⟩ = some u ∧ w'.cell? ⟨ob, 1, none⟩ = some v := by
  obtain ⟨X, O, ⟨p, hp, R⟩, r1, r2, r3, r4, r5⟩ := h
  have hb := R.own.1
  refine (pick_any w b p k (by omega) (by omega) W R).mono ?_
  rintro e w' ⟨hr, hR, hO⟩
  have X' := X.only hO r3.symm hb
  have O' := O.only hO r4.symm hb
  exact ⟨hr, ⟨X', O', ⟨p + 1, by omega, hR⟩, r1, r2, r3, r4, r5⟩, X'.cell 0 _ rfl, X'.cell 1 _ rfl, O'.frozen 0, O'.frozen 1, O'.cell 0 _ rfl, O'.cell 1 _ rfl⟩
end Go.Proofs.YteegdpnidakjiaaDoor
