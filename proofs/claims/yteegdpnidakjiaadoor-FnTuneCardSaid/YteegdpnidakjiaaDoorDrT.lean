/- Walks: an angle and two texts drawn. -/
import Derived.Test.YteegdpnidakjiaaDoorDrB
import Derived.Test.YteegdpnidakjiaaDoorRdO
namespace Go.Proofs.YteegdpnidakjiaaDoor
open Go.RowKit

set_option maxHeartbeats 4000000 in
theorem l92Bits_own (w0 : World) (b p m : Nat) (hm : m ≤ 10) (hp : p ≤ 1000) (W : World) (h : Rd w0 b p W) :
    Calls Tryd.prog 11 #[.pointer (some ⟨b, 0, none⟩), .int .i64 m] W fun e w' => (∃ s : ByteArray, e = .returned (.string s) ∧ s.size ≤ 30) ∧ ∃ p', p' ≤ p + 20 ∧ Rd w0 b p' w' ∧ Only b W w' := by
  go_enter Tryd.func11, Tryd.ntmps11
  go_wp2_with fail
  refine (pick_any w0 b p (m + 1) (by omega) (by omega) _ h).mono ?_
  rintro e w1 ⟨⟨n, rfl, n0, n1⟩, hR, hO⟩
  have HOn := Lib.hid hO
  obtain ⟨k, rfl⟩ := Int.eq_ofNat_of_zero_le n0
  have hk : k ≤ m := by omega
  have HR := Lib.hid hR
  clear hR h n0 n1 hO
  go_wp2
  go_loopw [5, 7] (fun t i wr => ∃ (j p' : Nat) (s : ByteArray), j ≤ k ∧ i = .int .i64 j ∧ t = .string s ∧ s.size ≤ j ∧ p' ≤ p + 1 + j ∧ Hid (Rd w0 b p' wr) ∧ Hid (Only b W wr)) (fun _ i _ => (k - intOf i).toNat)
  case atStart => exact ⟨0, p + 1, _, by omega, rfl, rfl, by decide, by omega, HR, HOn⟩
  case round =>
    obtain ⟨j, p', s, hj, rfl, rfl, hs, hp', HR, HOn⟩ := hrel
    obtain ⟨wo, rfl⟩ : ∃ wo, wo = wr := ⟨_, rfl⟩
    have hb := HR.out.own.2
    by_cases hlt : j < k
    · have X := Box.new wo #[.string ⟨#[48]⟩, .string ⟨#[49]⟩] 9
      have HR2 := HR.out.step ((Below.refl _ _).alloc (Nat.le_refl _) (.cells #[.string ⟨#[48]⟩, .string ⟨#[49]⟩] 9))
      have HO := Lib.hid (of_any w0 b p' (by omega) _ HR2 wo.heap.size 2 2 [⟨#[48]⟩, ⟨#[49]⟩] rfl (by omega) (by omega) (by omega) (Sl.of_box X rfl))
      clear X HR2
      go_wp2_with fail
      refine HO.out.mono ?_
      rintro e w2 ⟨⟨c, hc, rfl⟩, hR, hO2⟩
      replace HOn := Lib.hid ((HOn.out.alloc1 _).trans hO2)
      clear hO2
      have hcs : c.size ≤ 1 := by
        rcases List.mem_cons.1 hc with rfl | hc
        · decide
        · rcases List.mem_cons.1 hc with rfl | hc
          · decide
          · cases hc
      have HS := Lib.hid (size_cat hs hcs)
      have HR3 := Lib.hid hR
      clear hR hc HO HR
      go_wp2
      go_roundw
      case rel => exact ⟨j + 1, p' + 1, _, by omega, by go_num, rfl, HS.out, by omega, HR3, HOn⟩
      case measure => simp [intOf]; omega
    · have hjk : j = k := by omega
      subst hjk
      go_wp2_with fail
      refine (pick_any w0 b p' 20 (by omega) (by omega) _ HR.out).mono ?_
      rintro e w2 ⟨⟨x, rfl, x0, x1⟩, hR, hO2⟩
      replace HOn := Lib.hid (HOn.out.trans hO2)
      clear hO2
      have HR2 := Lib.hid hR
      have hb2 := hR.own.2
      clear hR HR
      by_cases hx : x = 0
      · subst hx
        have X := Box.new w2 #[.string ⟨#[50]⟩, .string ⟨#[32]⟩, .string ⟨#[48, 48, 48, 48, 48, 48, 48, 48]⟩] 9
        have HR3 := HR2.out.step ((Below.refl _ _).alloc (Nat.le_refl _) (.cells #[.string ⟨#[50]⟩, .string ⟨#[32]⟩, .string ⟨#[48, 48, 48, 48, 48, 48, 48, 48]⟩] 9))
        have HO := Lib.hid (of_any w0 b (p' + 1) (by omega) _ HR3 w2.heap.size 3 3 [⟨#[50]⟩, ⟨#[32]⟩, ⟨#[48, 48, 48, 48, 48, 48, 48, 48]⟩] rfl (by omega) (by omega) (by omega) (Sl.of_box X rfl))
        clear X HR3
        go_wp2_with fail
        refine HO.out.mono ?_
        rintro e w3 ⟨⟨c, hc, rfl⟩, hR, hO2⟩
        replace HOn := Lib.hid ((HOn.out.alloc1 _).trans hO2)
        clear hO2
        have hcs : c.size ≤ 8 := by
          rcases List.mem_cons.1 hc with rfl | hc
          · decide
          · rcases List.mem_cons.1 hc with rfl | hc
            · decide
            · rcases List.mem_cons.1 hc with rfl | hc
              · decide
              · cases hc
        have HS := Lib.hid (size_cat hs hcs)
        have HR4 := Lib.hid hR
        clear hR hc HO HR2
        go_wp2
        go_ret
        exact ⟨⟨_, rfl, by have := HS.out; omega⟩, p' + 1 + 1, by omega, HR4.out, HOn.out⟩
      · have hx2 : (x == 0) = false := by simpa using hx
        go_wp2
        go_ret
        exact ⟨⟨_, rfl, by omega⟩, p' + 1, by omega, HR2.out, HOn.out⟩
/-- the boxes, the reader, and the slices that the call has made -/
structure InvT (w : World) (b xb ob n : Nat) (x y : Int) (u v : Value) (L : List (Nat × Array Value)) (W : World) : Prop where
  I : InvB w b xb ob n x y u v W
  E : ∀ e, e ∈ L → Box w e.1 e.2 9 W ∧ e.1 ≠ b ∧ e.1 ≠ ob
theorem InvT.alloc {w : World} {b xb ob n : Nat} {x y : Int} {u v : Value} {L : List (Nat × Array Value)} {W : World} (h : InvT w b xb ob n x y u v L W) (o : Obj) : InvT w b xb ob n x y u v L (W.alloc o) := by
  obtain ⟨⟨X, O, ⟨p, hp, R⟩, r1, r2, r3, r4, r5⟩, E⟩ := h
  exact ⟨⟨X.alloc o, O.alloc o, ⟨p, hp, R.step ((Below.refl _ _).alloc (Nat.le_refl _) o)⟩, r1, r2, r3, r4, r5⟩, fun e he => ⟨(E e he).1.alloc o, (E e he).2⟩⟩
theorem InvT.slice {w : World} {b xb ob n : Nat} {x y : Int} {u v : Value} {L : List (Nat × Array Value)} {W : World} (h : InvT w b xb ob n x y u v L W) (C : Array Value) : InvT w b xb ob n x y u v ((W.heap.size, C) :: L) (W.alloc (.cells C 9)) := by
  refine ⟨(h.alloc _).I, fun e he => ?_⟩
  rcases List.mem_cons.1 he with rfl | he
  · obtain ⟨p, _, R⟩ := h.I.R
    exact ⟨(Box.new W C 9).up h.I.X.old, by have := R.own.2; show W.heap.size ≠ b; omega, by have := h.I.O.lt; show W.heap.size ≠ ob; omega⟩
  · exact (h.alloc _).E e he
theorem InvT.drew {w : World} {b xb ob n : Nat} {x y : Int} {u v : Value} {L : List (Nat × Array Value)} {W : World} (h : InvT w b xb ob n x y u v L W) : InvT w b xb ob n x y u v L W.drew :=
  ⟨h.I.drew, fun e he => ⟨(h.E e he).1.step ((Drw.refl _).drew.below _), (h.E e he).2⟩⟩
theorem InvT.put {w : World} {b xb ob n : Nat} {x y : Int} {u' v' : Value} {L : List (Nat × Array Value)} {W : World} (h : InvT w b xb ob n x y u' v' L W) (u v : Value) : InvT w b xb ob n x y u v L ((W.setCell ⟨ob, 0, none⟩ u).setCell ⟨ob, 1, none⟩ v) :=
  ⟨h.I.put u v, fun e he => ⟨((h.E e he).1.other (p := ⟨ob, 0, none⟩) h.I.hO (h.E e he).2.2 u).other (p := ⟨ob, 1, none⟩) h.I.hO (h.E e he).2.2 v, (h.E e he).2⟩⟩
theorem InvT.one {w : World} {b xb ob n : Nat} {x y : Int} {u v : Value} {L : List (Nat × Array Value)} {W V : World} (h : InvT w b xb ob n x y u v L V) (hV : V.heap.size = W.heap.size) (C : Array Value) : InvT w b xb ob n x y u v ((W.heap.size, C) :: L) (V.alloc (.cells C 9)) := by
  have := h.slice C
  rwa [hV] at this
/-- two slices, one behind the other -/
theorem InvT.two {w : World} {b xb ob n : Nat} {x y : Int} {u v : Value} {L : List (Nat × Array Value)} {W V : World} (h : InvT w b xb ob n x y u v L V) (hV : V.heap.size = W.heap.size) (C D : Array Value) : InvT w b xb ob n x y u v ((W.heap.size + 1, D) :: (W.heap.size, C) :: L) ((V.alloc (.cells C 9)).alloc (.cells D 9)) := by
  have := (h.one hV C).slice D
  rwa [World.size_alloc, hV] at this
theorem size_put (W : World) (p q : Addr) (u v : Value) : ((W.setCell p u).setCell q v).heap.size = W.heap.size := by rw [size_set, size_set]
theorem InvT.ps {w : World} {b xb ob n : Nat} {x y : Int} {u' v' : Value} {L : List (Nat × Array Value)} {W : World} (h : InvT w b xb ob n x y u' v' L W) (u v : Value) (C : Array Value) : InvT w b xb ob n x y u v ((W.heap.size, C) :: L) (((W.setCell ⟨ob, 0, none⟩ u).setCell ⟨ob, 1, none⟩ v).alloc (.cells C 9)) := (h.put u v).one (size_put _ _ _ _ _) C
theorem InvT.pss {w : World} {b xb ob n : Nat} {x y : Int} {u' v' : Value} {L : List (Nat × Array Value)} {W : World} (h : InvT w b xb ob n x y u' v' L W) (u v : Value) (C D : Array Value) : InvT w b xb ob n x y u v ((W.heap.size + 1, D) :: (W.heap.size, C) :: L) ((((W.setCell ⟨ob, 0, none⟩ u).setCell ⟨ob, 1, none⟩ v).alloc (.cells C 9)).alloc (.cells D 9)) := (h.put u v).two (size_put _ _ _ _ _) C D
theorem InvT.ss {w : World} {b xb ob n : Nat} {x y : Int} {u v : Value} {L : List (Nat × Array Value)} {W : World} (h : InvT w b xb ob n x y u v L W) (C D : Array Value) : InvT w b xb ob n x y u v ((W.heap.size + 1, D) :: (W.heap.size, C) :: L) ((W.alloc (.cells C 9)).alloc (.cells D 9)) := h.two rfl C D
theorem InvT.sps {w : World} {b xb ob n : Nat} {x y : Int} {u' v' : Value} {L : List (Nat × Array Value)} {W : World} (h : InvT w b xb ob n x y u' v' L W) (C : Array Value) (u v : Value) (D : Array Value) : InvT w b xb ob n x y u v ((W.heap.size + 1, D) :: (W.heap.size, C) :: L) ((((W.alloc (.cells C 9)).setCell ⟨ob, 0, none⟩ u).setCell ⟨ob, 1, none⟩ v).alloc (.cells D 9)) := by
  have := ((h.slice C).put u v).slice D
  rwa [size_put, World.size_alloc] at this
theorem mem_one {α : Type} (a : α) (l : List α) : a ∈ a :: l := List.mem_cons_self
theorem mem_two {α : Type} (a b : α) (l : List α) : a ∈ b :: a :: l := List.mem_cons_of_mem _ List.mem_cons_self
theorem mem_three {α : Type} (a b c : α) (l : List α) : a ∈ b :: c :: a :: l := List.mem_cons_of_mem _ (List.mem_cons_of_mem _ List.mem_cons_self)
/-- what the region's other steps read -/
def FactsT (xb ob : Nat) (x y : Int) (u v : Value) (w' : World) : Prop :=
  w'.cell? ⟨xb, 0, none⟩ = some (.int .i64 x) ∧ w'.cell? ⟨xb, 1, none⟩ = some (.int .i64 y) ∧ w'.frozen? ⟨ob, 0, none⟩ = false ∧ w'.frozen? ⟨ob, 1, none⟩ = false ∧ w'.cell? ⟨ob, 0, none⟩ = some u ∧ w'.cell? ⟨ob, 1, none⟩ = some v
theorem InvB.facts {w : World} {b xb ob n : Nat} {x y : Int} {u v : Value} {W : World} (h : InvB w b xb ob n x y u v W) : FactsT xb ob x y u v W :=
  ⟨h.X.cell 0 _ rfl, h.X.cell 1 _ rfl, h.O.frozen 0, h.O.frozen 1, h.O.cell 0 _ rfl, h.O.cell 1 _ rfl⟩
/-- behind a call that leaves all but the reader -/
theorem InvT.only {w : World} {b xb ob n m : Nat} {x y : Int} {u v : Value} {L : List (Nat × Array Value)} {W W' : World} (h : InvT w b xb ob n x y u v L W) (hO : Only b W W') (hR : ∃ p, p ≤ m ∧ Rd w b p W') : InvT w b xb ob m x y u v L W' := by
  obtain ⟨⟨X, O, ⟨p, hp, R⟩, r1, r2, r3, r4, r5⟩, E⟩ := h
  have hb := R.own.1
  exact ⟨⟨X.only hO r3.symm hb, O.only hO r4.symm hb, hR, r1, r2, r3, r4, r5⟩, fun e he => ⟨(E e he).1.only hO (E e he).2.1 hb, (E e he).2⟩⟩
theorem bits_t {w : World} {b xb ob n : Nat} {x y : Int} {u v : Value} {L : List (Nat × Array Value)} {W : World} (h : InvT w b xb ob n x y u v L W) (hn : n ≤ 500) (m : Nat) (hm : m ≤ 10) :
    Calls Tryd.prog 11 #[.pointer (some ⟨b, 0, none⟩), .int .i64 m] W fun e w' => (∃ s : ByteArray, e = .returned (.string s) ∧ s.size ≤ 30) ∧ InvT w b xb ob (n + 20) x y u v L w' ∧ FactsT xb ob x y u v w' := by
  obtain ⟨p, hp, R⟩ := h.I.R
  refine (l92Bits_own w b p m hm (by omega) W R).mono ?_
  rintro e w' ⟨hs, p', hp', hR, hO⟩
  have k := h.only hO ⟨p', show p' ≤ n + 20 by omega, hR⟩
  exact ⟨hs, k, k.I.facts⟩
theorem of_t {w : World} {b xb ob n : Nat} {x y : Int} {u v : Value} {L : List (Nat × Array Value)} {W : World} (h : InvT w b xb ob n x y u v L W) (hn : n ≤ 500) (xs : List ByteArray) (k : Nat) (hk : xs.length = k) (h1 : 1 ≤ k) (h2 : k ≤ 1000) (lb c : Nat) (hl : (lb, (xs.map Value.string).toArray) ∈ L) :
    Calls Tryd.prog 12 #[.pointer (some ⟨b, 0, none⟩), .slice (some ⟨lb, 0, none⟩) k c] W fun e w' => (∃ s : ByteArray, s ∈ xs ∧ e = .returned (.string s)) ∧ InvT w b xb ob (n + 20) x y u v L w' ∧ FactsT xb ob x y u v w' := by
  obtain ⟨p, hp, R⟩ := h.I.R
  obtain ⟨e1, e2, _⟩ := h.E _ hl
  refine (of_any w b p (by omega) W R lb k c xs hk h1 h2 e2 (Sl.of_box e1 (List.toList_toArray))).mono ?_
  rintro e w' ⟨hs, hR, hO⟩
  have k := h.only hO ⟨p + 1, show p + 1 ≤ n + 20 by omega, hR⟩
  exact ⟨hs, k, k.I.facts⟩
end Go.Proofs.YteegdpnidakjiaaDoor
