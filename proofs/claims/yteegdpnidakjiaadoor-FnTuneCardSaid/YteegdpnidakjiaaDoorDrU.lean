/- Walks: what FnTune draws. -/
import Derived.Test.YteegdpnidakjiaaDoorDrT
import Derived.Deep.DrawnRows
import Derived.Deep.RegionHeld3
namespace Go.Proofs.YteegdpnidakjiaaDoor
open Go.RowKit
attribute [local go_sem ↓] Go.wp_at_zero Go.wp_at_succ

theorem Box.cells2 {w0 W : World} {b : Nat} {v0 v1 : Value} {T : TypeId} (h : Box w0 b #[v0, v1] T W) : W.cell? ⟨b, 0, none⟩ = some v0 ∧ W.cell? ⟨b, 1, none⟩ = some v1 := ⟨h.cell 0 _ rfl, h.cell 1 _ rfl⟩
theorem cellsT {w : World} {b xb ob n : Nat} {x y : Int} {u v : Value} {L : List (Nat × Array Value)} {W : World} (h : InvT w b xb ob n x y u v L W) : W.cell? ⟨xb, 0, none⟩ = some (.int .i64 x) ∧ W.cell? ⟨xb, 1, none⟩ = some (.int .i64 y) := h.I.X.cells2
/-- the six angles, as they lie in a slice -/
def sixC : Array Value := #[.int .i64 1, .int .i64 3, .int .i64 2, .int .i64 3, .int .i64 1, .int .i64 7, .int .i64 0, .int .i64 1, .int .i64 3, .int .i64 7, .int .i64 1, .int .i64 2]
theorem six_at (r : Nat) (h : r < 6) : ∃ n d : Nat, sixC[r * 2]? = some (.int .i64 n) ∧ sixC[r * 2 + 1]? = some (.int .i64 d) ∧ d ≤ 7 ∧ angleOK n d = true := by
  rcases (by omega : r = 0 ∨ r = 1 ∨ r = 2 ∨ r = 3 ∨ r = 4 ∨ r = 5) with rfl | rfl | rfl | rfl | rfl | rfl
  · exact ⟨1, 3, rfl, rfl, by decide, by decide⟩
  · exact ⟨2, 3, rfl, rfl, by decide, by decide⟩
  · exact ⟨1, 7, rfl, rfl, by decide, by decide⟩
  · exact ⟨0, 1, rfl, rfl, by decide, by decide⟩
  · exact ⟨3, 7, rfl, rfl, by decide, by decide⟩
  · exact ⟨1, 2, rfl, rfl, by decide, by decide⟩
def zeroT : List ByteArray := [⟨#[48, 49]⟩, ⟨#[48, 49, 49]⟩, ⟨#[48]⟩, ⟨#[48, 48, 49]⟩, ⟨#[49, 48]⟩]
def oneT : List ByteArray := [⟨#[49, 48]⟩, ⟨#[49, 48, 48]⟩, ⟨#[49]⟩, ⟨#[48, 49, 48]⟩, ⟨#[48, 49]⟩]
theorem zeroT_size : ∀ s, s ∈ zeroT → s.size ≤ 30 := by
  intro t ht
  simp only [zeroT, List.mem_cons, List.not_mem_nil, or_false] at ht
  rcases ht with rfl | rfl | rfl | rfl | rfl <;> decide
theorem oneT_size : ∀ s, s ∈ oneT → s.size ≤ 30 := by
  intro t ht
  simp only [oneT, List.mem_cons, List.not_mem_nil, or_false] at ht
  rcases ht with rfl | rfl | rfl | rfl | rfl <;> decide
theorem of_zero {w : World} {b xb ob n : Nat} {x y : Int} {u v : Value} {L : List (Nat × Array Value)} {W : World} (h : InvT w b xb ob n x y u v L W) (hn : n ≤ 500) {lb : Nat} (c : Nat) (hl : (lb, (#[.string ⟨#[48, 49]⟩, .string ⟨#[48, 49, 49]⟩, .string ⟨#[48]⟩, .string ⟨#[48, 48, 49]⟩, .string ⟨#[49, 48]⟩] : Array Value)) ∈ L) :
    Calls Tryd.prog 12 #[.pointer (some ⟨b, 0, none⟩), .slice (some ⟨lb, 0, none⟩) 5 c] W fun e w' => (∃ s : ByteArray, s.size ≤ 30 ∧ e = .returned (.string s)) ∧ InvT w b xb ob (n + 20) x y u v L w' ∧ FactsT xb ob x y u v w' := by
  refine (of_t h hn zeroT 5 rfl (by decide) (by decide) lb c hl).mono ?_
  rintro e w' ⟨⟨s, hs, rfl⟩, r⟩
  exact ⟨⟨s, zeroT_size s hs, rfl⟩, r⟩
theorem of_one {w : World} {b xb ob n : Nat} {x y : Int} {u v : Value} {L : List (Nat × Array Value)} {W : World} (h : InvT w b xb ob n x y u v L W) (hn : n ≤ 500) {lb : Nat} (c : Nat) (hl : (lb, (#[.string ⟨#[49, 48]⟩, .string ⟨#[49, 48, 48]⟩, .string ⟨#[49]⟩, .string ⟨#[48, 49, 48]⟩, .string ⟨#[48, 49]⟩] : Array Value)) ∈ L) :
    Calls Tryd.prog 12 #[.pointer (some ⟨b, 0, none⟩), .slice (some ⟨lb, 0, none⟩) 5 c] W fun e w' => (∃ s : ByteArray, s.size ≤ 30 ∧ e = .returned (.string s)) ∧ InvT w b xb ob (n + 20) x y u v L w' ∧ FactsT xb ob x y u v w' := by
  refine (of_t h hn oneT 5 rfl (by decide) (by decide) lb c hl).mono ?_
  rintro e w' ⟨⟨s, hs, rfl⟩, r⟩
  exact ⟨⟨s, oneT_size s hs, rfl⟩, r⟩
theorem bits_3 {w : World} {b xb ob n : Nat} {x y : Int} {u v : Value} {L : List (Nat × Array Value)} {W : World} (h : InvT w b xb ob n x y u v L W) (hn : n ≤ 500) :
    Calls Tryd.prog 11 #[.pointer (some ⟨b, 0, none⟩), .int .i64 3] W fun e w' => (∃ s : ByteArray, e = .returned (.string s) ∧ s.size ≤ 30) ∧ InvT w b xb ob (n + 20) x y u v L w' ∧ FactsT xb ob x y u v w' := bits_t h hn 3 (by decide)
set_option maxRecDepth 100000 in
set_option maxHeartbeats 4000000 in
theorem drawAngleTune_any (a : Option Addr) (c : Nat) (bs : List UInt8) (hn : bs.length ≤ 1048576) (hc : bs.length ≤ c) (w : World) (hs : Sl w a (bs.map byteV)) :
    Calls Tryd.prog 4 #[.slice a bs.length c] w fun e w' => (∃ (n d : Nat) (z o : ByteArray), e = .returned (.tuple #[.agg #[.int .i64 n, .int .i64 d], .string z, .string o]) ∧ d ≤ 7 ∧ angleOK n d = true ∧ z.size ≤ 30 ∧ o.size ≤ 30) ∧ Below w.heap.size w w' := by
  have H := Lib.hid (open_base a c bs hn hc w _ ((Below.refl _ w).alloc (Nat.le_refl _) (.cells #[.int .i64 0, .int .i64 0] 24)) hs)
  have O := Box.new w #[.int .i64 0, .int .i64 0] 24
  clear hs
  go_enter Tryd.func4, Tryd.ntmps4
  go_wp2_with fail
  refine H.out.mono ?_
  rintro e w1 ⟨b, rfl, hbw, hR, hB⟩
  have hbo : b ≠ w.heap.size := by rw [hbw]; simp
  replace O := O.step hB
  clear H hbw hB
  have S := (Box.new w1 sixC 24).up hR.below
  have hsb : w1.heap.size ≠ b := by have := hR.own.2; omega
  have hso : w1.heap.size ≠ w.heap.size := by have := O.lt; omega
  replace O := O.alloc (.cells sixC 24)
  have HR := Lib.hid (hR.step ((Below.refl _ _).alloc (Nat.le_refl _) (.cells sixC 24)))
  clear hR
  have HK := Lib.hid (pick_any w b 0 6 (by omega) (by omega) _ HR.out)
  unfold sixC at HK
  go_wp2_with fail
  refine HK.out.mono ?_
  rintro e w2 ⟨⟨r, rfl, r0, r1⟩, hR, hO⟩
  have hr6 : r < 6 := by omega
  obtain ⟨n, d, h0, h1, hd7, hok⟩ := six_at r.toNat (by omega)
  replace S := S.only hO hsb HR.out.own.1
  replace O := O.only hO hbo.symm HR.out.own.1
  have s0 := S.cell _ _ h0
  have s1 := S.cell _ _ h1
  have hxb : w2.heap.size ≠ b := by have := hR.own.2; omega
  have hxo : w2.heap.size ≠ w.heap.size := by have := O.lt; omega
  have X := (Box.new w2 #[.int .i64 n, .int .i64 d] 24).up hR.below
  have I : InvB w b w2.heap.size w.heap.size 1 n d (.int .i64 0) (.int .i64 0) (w2.alloc (.cells #[.int .i64 n, .int .i64 d] 24)) :=
    ⟨X, O.alloc _, ⟨1, by omega, hR.step ((Below.refl _ _).alloc (Nat.le_refl _) _)⟩, hR.below.size, Nat.le_refl _, hxb.symm, hbo, hxo⟩
  have HI := Lib.hid I
  clear X O hR hO HR S hxb hxo hsb hso hbo HK h0 h1 I
  go_wp2_with fail
  generalize w2.heap.size = xb at *
  generalize w2.alloc (.cells #[.int .i64 n, .int .i64 d] 24) = W at *
  refine (pick_inv HI.out (by omega) 6 (by omega)).mono ?_
  rintro e w3 ⟨⟨m, rfl, m0, m1⟩, I, c0, c1, f0, f1, d0, d1⟩
  have J : InvT w b xb w.heap.size 2 n d (.int .i64 0) (.int .i64 0) [] w3 := ⟨I, fun e he => by cases he⟩
  have HOK := Lib.hid (show d ≤ 7 ∧ angleOK n d = true from ⟨hd7, hok⟩)
  clear I HI s0 s1 hd7 hok r0 r1 hr6
  by_cases hm : m = 0
  · subst hm
    go_upto_region 4 with fail
    go_region_with (first
      | (go_at_call 11
         first
           | with_reducible refine (bits_3 J (by decide)).mono ?_
           | with_reducible refine (bits_3 J.drew (by decide)).mono ?_
           | with_reducible refine (bits_3 (J.put _ _) (by decide)).mono ?_
           | with_reducible refine (bits_3 (J.drew.put _ _) (by decide)).mono ?_
         rintro e w5 ⟨⟨s, rfl, hsz⟩, J, c0, c1, f0, f1, d0, d1⟩))
    all_goals
      have HOK2 := Lib.hid HOK.out
      go_wp2
      first
        | exact bodyPost_ret (v := .tuple #[.agg #[.int .i64 n, .int .i64 d], .string _, .string _]) (by simp [results, Tryd.f4, go_sem, d0, d1]; exact ⟨rfl, rfl⟩) rfl ⟨⟨n, d, _, _, rfl, HOK2.out.1, HOK2.out.2, by assumption, by assumption⟩, J.I.X.old⟩
        | exact bodyPost_ret (v := .tuple #[.agg #[.int .i64 n, .int .i64 d], .string _, .string _]) (by simp [results, Tryd.f4, go_sem, d0, d1]; exact ⟨rfl, rfl⟩) rfl ⟨⟨n, d, _, _, rfl, HOK2.out.1, HOK2.out.2, by assumption, by assumption⟩, (J.put _ _).I.X.old⟩
        | trace_state
  · have hm2 : (m == 0) = false := by simpa using hm
    go_upto_region 5 with fail
    have HX3 := Lib.hid J.I.X
    go_region_held3 (fun w' => w'.cell? ⟨xb, 0, none⟩ = some (.int .i64 n) ∧ w'.cell? ⟨xb, 1, none⟩ = some (.int .i64 d)) (((first | dsimp only | skip); (apply cellsT (w := w) (b := b) (ob := w.heap.size)); (repeat (first | (with_reducible assumption) | (with_reducible apply InvT.drew) | (with_reducible apply InvT.put) | (with_reducible apply InvT.slice))))) (first
      | (go_at_call 12
         first
         | (apply Calls.mono
            focus
              with_reducible apply of_zero (w := w) (xb := xb) (ob := w.heap.size) (x := (n : Int)) (y := (d : Int))
              focus (repeat (first | (with_reducible assumption) | (with_reducible apply InvT.drew) | (with_reducible apply InvT.put) | (with_reducible apply InvT.slice)))
              focus decide
              focus (first | (with_reducible exact mem_one _ _) | (with_reducible exact mem_two _ _ _) | (simp [World.size_alloc]; done))
            rintro e w5 ⟨⟨s, hsz, rfl⟩, J, c0, c1, f0, f1, d0, d1⟩)
         | (apply Calls.mono
            focus
              with_reducible apply of_one (w := w) (xb := xb) (ob := w.heap.size) (x := (n : Int)) (y := (d : Int))
              focus (repeat (first | (with_reducible assumption) | (with_reducible apply InvT.drew) | (with_reducible apply InvT.put) | (with_reducible apply InvT.slice)))
              focus decide
              focus (first | (with_reducible exact mem_one _ _) | (with_reducible exact mem_two _ _ _) | (simp [World.size_alloc]; done))
            rintro e w5 ⟨⟨s, hsz, rfl⟩, J, c0, c1, f0, f1, d0, d1⟩)
         | (trace_state; fail)))
    all_goals
      have HOK2 := Lib.hid HOK.out
      go_wp2
      first
        | exact bodyPost_ret (v := .tuple #[.agg #[.int .i64 n, .int .i64 d], .string _, .string _]) (by simp [results, Tryd.f4, go_sem, d0, d1]; exact ⟨rfl, rfl⟩) rfl ⟨⟨n, d, _, _, rfl, HOK2.out.1, HOK2.out.2, by assumption, by assumption⟩, J.I.X.old⟩
        | exact bodyPost_ret (v := .tuple #[.agg #[.int .i64 n, .int .i64 d], .string _, .string _]) (by simp [results, Tryd.f4, go_sem, d0, d1]; exact ⟨rfl, rfl⟩) rfl ⟨⟨n, d, _, _, rfl, HOK2.out.1, HOK2.out.2, by assumption, by assumption⟩, (J.put _ _).I.X.old⟩
        | trace_state
end Go.Proofs.YteegdpnidakjiaaDoor
