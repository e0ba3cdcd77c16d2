/- The code reader: what a draw does with its block. -/
import Derived.Test.YtdfoobemgdiobaaDoorRows
import Derived.Test.YtdfoobemgdiobaaDoorSl
import Derived.Laws.BitsAllLaws
import Derived.Deep.Cut
namespace Go.Proofs.YtdfoobemgdiobaaDoor
open Go.RowKit

theorem xor_pos (a b : Nat) (ha : a < 9223372036854775808) (hb : b < 9223372036854775808) : bits .xor .i64 (a : Int) (b : Int) = ((a ^^^ b : Nat) : Int) := by
  have hx : a ^^^ b < 2 ^ 63 := Nat.xor_lt_two_pow (by omega) (by omega)
  show IntKind.i64.wrap ((BitVec.ofInt 64 (a : Int) ^^^ BitVec.ofInt 64 (b : Int)).toNat : Int) = _
  rw [BitVec.toNat_xor, ofInt_u64 a (by omega), ofInt_u64 b (by omega)]
  simp [IntKind.wrap, IntKind.bits, IntKind.signed]
  omega
theorem xor_i64 (a b : Int) (ha : 0 ≤ a) (ha2 : a < 9223372036854775808) (hb : 0 ≤ b) (hb2 : b < 9223372036854775808) : ∃ x, bits .xor .i64 a b = x ∧ 0 ≤ x ∧ x < 9223372036854775808 := by
  obtain ⟨A, rfl⟩ := Int.eq_ofNat_of_zero_le ha
  obtain ⟨B, rfl⟩ := Int.eq_ofNat_of_zero_le hb
  refine ⟨_, xor_pos A B (by omega) (by omega), by omega, ?_⟩
  have hx : A ^^^ B < 2 ^ 63 := Nat.xor_lt_two_pow (by omega) (by omega)
  omega
/-- nothing of what was there is changed, but for one block -/
structure Only (b : Nat) (w w' : World) : Prop where
  os : w'.os = w.os
  tape : w'.tape = w.tape
  output : w'.output = w.output
  size : w.heap.size ≤ w'.heap.size
  block : ∀ k, k < w.heap.size → k ≠ b → w'.heap[k]? = w.heap[k]?
theorem Only.refl (b : Nat) (w : World) : Only b w w := ⟨rfl, rfl, rfl, Nat.le_refl _, fun _ _ _ => rfl⟩
theorem Only.trans {b : Nat} {u v w : World} (h : Only b u v) (k : Only b v w) : Only b u w :=
  ⟨k.os.trans h.os, k.tape.trans h.tape, k.output.trans h.output, Nat.le_trans h.size k.size, fun i hi hne => (k.block i (Nat.lt_of_lt_of_le hi h.size) hne).trans (h.block i hi hne)⟩
theorem Only.of_below {b : Nat} {u v : World} (h : Below u.heap.size u v) : Only b u v := ⟨h.os, h.tape, h.output, h.size, fun i hi _ => h.block i hi⟩
theorem Only.setCell {b : Nat} {u v : World} (h : Only b u v) (j : Nat) (x : Value) : Only b u (v.setCell ⟨b, j, none⟩ x) := by
  refine h.trans ⟨rfl, rfl, rfl, by simp, fun i _ hne => Below.heap_setCell _ _ _ _ (by simpa using hne)⟩
theorem Only.below {b : Nat} {u v : World} (h : Only b u v) (B : Nat) (hB : B ≤ u.heap.size) (hb : B ≤ b) : Below B u v := ⟨h.os, h.tape, h.output, h.size, fun i hi => h.block i (by omega) (by omega)⟩
/-- a reader: its block holds bytes that lay there ahead of the call, and a place -/
def Rd (w0 : World) (b : Nat) (p : Nat) (W : World) : Prop :=
  ∃ (a : Option Addr) (c : Nat) (bs : List UInt8), Box w0 b #[.slice a bs.length c, .int .i64 p] 69 W ∧ Sl w0 a (bs.map byteV) ∧ w0.heap.size ≤ b ∧ bs.length ≤ 2000
theorem Rd.below {w0 : World} {b p : Nat} {W : World} (h : Rd w0 b p W) : Below w0.heap.size w0 W := by
  obtain ⟨_, _, _, h, _⟩ := h; exact h.old
theorem Rd.step {w0 : World} {b p : Nat} {W W' : World} (h : Rd w0 b p W) (k : Below W.heap.size W W') : Rd w0 b p W' := by
  obtain ⟨a, c, bs, h, r⟩ := h; exact ⟨a, c, bs, h.step k, r⟩
theorem Rd.drw {w0 : World} {b p : Nat} {W W' : World} (h : Rd w0 b p W) (k : Drw W W') : Rd w0 b p W' := h.step (k.below _)

theorem byte_le (x : UInt8) : (x.toNat : Int) ≤ 255 := by have := x.toNat_lt; omega
set_option maxHeartbeats 1000000 in
theorem pick_any (w0 : World) (b p : Nat) (k : Int) (hp : p ≤ 1099511627776) (hk : k ≤ 1099511627776) (W : World) (h : Rd w0 b p W) :
    Calls Tryd.prog 18 #[.pointer (some ⟨b, 0, none⟩), .int .i64 k] W fun e w' => (∃ r : Int, e = .returned (.int .i64 r) ∧ 0 ≤ r ∧ (r < k ∨ r = 0)) ∧ Rd w0 b (p + 1) w' ∧ Only b W w' := by
  obtain ⟨a, c, bs, hB, hS, hb, hn⟩ := h
  have c0 := hB.cell 0 _ rfl
  have c1 := hB.cell 1 _ rfl
  have f1 := hB.frozen 1
  have hlt := hB.lt
  obtain ⟨q, hq⟩ : ∃ q : Int, q = (p : Int) + 1 := ⟨_, rfl⟩
  have B2 := hB.set hb 1 (.int .i64 q)
  have O2 := (Only.refl b W).setCell 1 (.int .i64 q)
  have S2 := Lib.hid (hS.step B2.old)
  have HR : Hid (∀ W', Drw (W.setCell ⟨b, 1, none⟩ (.int .i64 q)) W' → Rd w0 b (p + 1) W' ∧ Only b W W') := fun W' hd => by
    refine ⟨⟨a, c, bs, ?_, hS, hb, hn⟩, O2.trans (Only.of_below (hd.below _))⟩
    rw [show ((p + 1 : Nat) : Int) = q by omega]
    exact B2.step (hd.below _)
  have hlt2 := B2.lt
  have d0 := B2.cell 0 _ rfl
  have d1 := B2.cell 1 _ rfl
  clear B2 O2 hS hB
  obtain ⟨n, hN⟩ : ∃ n, bs.length = n := ⟨_, rfl⟩
  rw [hN] at hn d0 d1
  have HN := Lib.hid hN
  clear hN
  go_enter Tryd.func18, Tryd.ntmps18
  go_upto_region 2 with fail
  rw [← hq]
  generalize W.setCell ⟨b, 1, none⟩ (.int .i64 q) = W1 at *
  clear c0 c1 f1 hlt
  by_cases hk1 : k < 1
  · go_wp2
    go_ret
    exact ⟨⟨0, rfl, by omega, .inr rfl⟩, HR.out _ (Drw.refl _)⟩
  by_cases hn0 : n = 0
  · subst hn0
    go_wp2
    go_ret
    exact ⟨⟨0, rfl, by omega, .inr rfl⟩, HR.out _ (Drw.refl _)⟩
  have hnb : ((n : Int) == 0) = false := by simpa using hn0
  by_cases hpn : q - 1 < n
  · have hpl : p < bs.length := by rw [HN.out]; omega
    have hx : (bs.map byteV)[p]? = some (byteV (bs[p])) := by rw [List.getElem?_map, List.getElem?_eq_getElem hpl]; rfl
    obtain ⟨ab, ao, rfl, hc⟩ := S2.out.at hx
    have hle := byte_le bs[p]
    unfold byteV at hc
    clear hx S2
    generalize bs[p] = x at *
    have hx0 : (0 : Int) ≤ x.toNat := by omega
    generalize (x.toNat : Int) = y at *
    have hkb : (k == 0) = false := by simp; omega
    obtain ⟨r, hr⟩ : ∃ r, y.tmod k = r := ⟨_, rfl⟩
    have r0 : 0 ≤ r := by rw [← hr]; exact Int.tmod_nonneg _ (by omega)
    have r1 : r < k := by rw [← hr]; exact Int.tmod_lt_of_pos _ (by omega)
    go_wp2
    go_ret
    exact ⟨⟨r, rfl, r0, .inl r1⟩, HR.out _ (Drw.refl _)⟩
  · have hnp : (0 : Int) < n := by omega
    have hpn' : decide ((p : Int) < n) = false := by simp; omega
    have hpn2 : decide (p < n) = false := by simp; omega
    obtain ⟨i, hi⟩ : ∃ i, (p : Int).tmod n = i := ⟨_, rfl⟩
    obtain ⟨j, hj⟩ : ∃ j, ((p : Int) * 7 + 3).tmod n = j := ⟨_, rfl⟩
    obtain ⟨l, hl⟩ : ∃ l, (p : Int).tdiv n = l := ⟨_, rfl⟩
    have i1 : 0 ≤ i := by rw [← hi]; exact Int.tmod_nonneg _ (by omega)
    have i2 : i < n := by rw [← hi]; exact Int.tmod_lt_of_pos _ hnp
    have j1 : 0 ≤ j := by rw [← hj]; exact Int.tmod_nonneg _ (by omega)
    have j2 : j < n := by rw [← hj]; exact Int.tmod_lt_of_pos _ hnp
    have l1 : 0 ≤ l := by rw [← hl]; exact Int.tdiv_nonneg (by omega) (by omega)
    have l2 : l ≤ p := by rw [← hl, Int.tdiv_eq_ediv_of_nonneg (by omega)]; exact Int.ediv_le_self _ (by omega)
    have hx1 : (bs.map byteV)[i.toNat]? = some (byteV (bs[i.toNat]'(by rw [HN.out]; omega))) := by rw [List.getElem?_map, List.getElem?_eq_getElem (by rw [HN.out]; omega)]; rfl
    have hx2 : (bs.map byteV)[j.toNat]? = some (byteV (bs[j.toNat]'(by rw [HN.out]; omega))) := by rw [List.getElem?_map, List.getElem?_eq_getElem (by rw [HN.out]; omega)]; rfl
    obtain ⟨ab, ao, rfl, hc1⟩ := S2.out.at hx1
    obtain ⟨ab', ao', he, hc2⟩ := S2.out.at hx2
    obtain ⟨rfl, rfl⟩ : ab = ab' ∧ ao = ao' := by injection he with he; injection he with h1 h2 _; exact ⟨h1, h2⟩
    have b1 := byte_le (bs[i.toNat]'(by rw [HN.out]; omega))
    have b2 := byte_le (bs[j.toNat]'(by rw [HN.out]; omega))
    unfold byteV at hc1 hc2
    have b3 : (0 : Int) ≤ ((bs[i.toNat]'(by rw [HN.out]; omega)).toNat : Int) := by omega
    have b4 : (0 : Int) ≤ ((bs[j.toNat]'(by rw [HN.out]; omega)).toNat : Int) := by omega
    clear hx1 hx2 he S2
    generalize ((bs[i.toNat]'(by rw [HN.out]; omega)).toNat : Int) = y1 at *
    generalize ((bs[j.toNat]'(by rw [HN.out]; omega)).toNat : Int) = y2 at *
    go_upto_region 7 with fail
    go_quiet (fail)
    obtain ⟨x, hx⟩ : ∃ x, x = y1 * 131 + y2 * 1117 + (p : Int) * 29 + l * 53 := ⟨_, rfl⟩
    have x0 : 0 ≤ x := by omega
    have x1 : x < 9223372036854775808 := by omega
    rw [← hx]
    obtain ⟨u, hu⟩ : ∃ u, x.tdiv 64 = u := ⟨_, rfl⟩
    have u0 : 0 ≤ u := by rw [← hu]; exact Int.tdiv_nonneg (by omega) (by omega)
    have u1 : u ≤ x := by rw [← hu, Int.tdiv_eq_ediv_of_nonneg (by omega)]; exact Int.ediv_le_self _ (by omega)
    obtain ⟨v, hv, v0, v1⟩ := xor_i64 x u x0 x1 u0 (by omega)
    obtain ⟨r, hr⟩ : ∃ r, v.tmod k = r := ⟨_, rfl⟩
    have r0 : 0 ≤ r := by rw [← hr]; exact Int.tmod_nonneg _ (by omega)
    have r1 : r < k := by rw [← hr]; exact Int.tmod_lt_of_pos _ (by omega)
    have hkb : (k == 0) = false := by simp; omega
    clear hx hi hj hl hc1 hc2 d0 d1
    go_wp2
    go_ret
    exact ⟨⟨r, rfl, r0, .inl r1⟩, HR.out _ ((Drw.refl _).drewN _)⟩
theorem open_any (a : Option Addr) (c : Nat) (bs : List UInt8) (hn : bs.length ≤ 1048576) (hc : bs.length ≤ c) (w : World) (hs : Sl w a (bs.map byteV)) :
    Calls Tryd.prog 16 #[.slice a bs.length c] w fun e w' => ∃ b, e = .returned (.pointer (some ⟨b, 0, none⟩)) ∧ b = w.heap.size ∧ Rd w b 0 w' := by
  obtain ⟨n, hN⟩ : ∃ n, bs.length = n := ⟨_, rfl⟩
  by_cases h : 2000 < n
  · have HR : Hid (Rd w w.heap.size 0 (w.alloc (.cells #[.slice a 2000 c, .int .i64 0] 69))) := by
      have hl : (bs.take 2000).length = 2000 := by simp; omega
      refine ⟨a, c, bs.take 2000, ?_, ?_, Nat.le_refl _, by omega⟩
      · rw [hl]; exact Box.new w _ _
      · rcases hs with hs | ⟨b, o, ha, hs⟩
        · simp at hs; simp [hs] at hN; omega
        · refine .inr ⟨b, o, ha, fun i v hv => ?_⟩
          refine hs i v ?_
          rw [List.map_take, List.getElem?_take] at hv
          split at hv
          · exact hv
          · cases hv
    obtain ⟨ab, ao, rfl⟩ : ∃ ab ao, a = some ⟨ab, ao, none⟩ := by
      rcases hs with hs | ⟨b, o, ha, hs⟩
      · simp at hs; simp [hs] at hN; omega
      · exact ⟨b, o, ha⟩
    rw [hN] at hn hc ⊢
    have hc2 : 2000 ≤ c := by omega
    have hc3 : (2000 : Int) ≤ c := by omega
    clear hN hs
    go_enter Tryd.func16, Tryd.ntmps16
    go_wp2
    go_ret
    exact ⟨_, rfl, rfl, HR.out⟩
  · have HR : Hid (Rd w w.heap.size 0 (w.alloc (.cells #[.slice a n c, .int .i64 0] 69))) :=
      ⟨a, c, bs, by rw [hN]; exact Box.new w _ _, hs, Nat.le_refl _, by omega⟩
    rw [hN]
    clear hs
    rw [hN] at hn hc
    clear hN
    go_enter Tryd.func16, Tryd.ntmps16
    go_wp2
    go_ret
    exact ⟨_, rfl, rfl, HR.out⟩
end Go.Proofs.YtdfoobemgdiobaaDoor
