/- Walks of what the laws do with slices: sizes, copies, comparisons. -/
import Derived.Test.YtcdkhacccbdmdaaRows
import Derived.Test.YtcdkhacccbdmdaaSl
import Derived.Test.YtcdkhacccbdmdaaSame
namespace Go.Proofs.Ytcdkhacccbdmdaa
open Go.RowKit
theorem run_store_float (P : Program) (w : World) (a : Addr) (m : Mode) (k : FloatKind) (b : Nat) : (store a (.float k b) m).run P w = stored P w a (.float k b) m := run_store P w a _ m rfl
theorem run_store_complex (P : Program) (w : World) (a : Addr) (m : Mode) (k : FloatKind) (x y : Nat) : (store a (.complex k x y) m).run P w = stored P w a (.complex k x y) m := run_store P w a _ m rfl
attribute [local go_sem] run_store_float run_store_complex
theorem infoStringS : (Try.prog.info? 9).map (fun i => (i.zero, i.size, decide (i.bytes ≤ 128))) = some (some (.string ⟨#[]⟩), 1, true) := by kernel_rfl
set_option maxHeartbeats 400000 in
theorem toStringS_any (a : Option Addr) (c : Nat) (xs : List ByteArray) (hn : xs.length ≤ 1048576) (w : World) (hs : Sl w a (xs.map (Value.string))) :
    Calls Try.prog 34 #[.slice a xs.length c] w fun e w' => e = .returned (.slice (some ⟨w.heap.size, 0, none⟩) xs.length xs.length) ∧ ∃ C : Array Value, C.toList = xs.map (Value.string) ∧ Box w w.heap.size C 9 w' := by
  obtain ⟨i0, hi, hj⟩ := Option.map_eq_some_iff.1 infoStringS
  simp only [Prod.mk.injEq] at hj
  obtain ⟨C0, hC0, hmk⟩ := run_make_n (P := Try.prog) 30 9 i0 (.string ⟨#[]⟩) Try.underlying30 hi hj.1 xs.length (of_decide_eq_true hj.2.2) (by omega)
  rw [hj.2.1, Nat.mul_one] at hC0
  have HS := Lib.hid hs
  obtain ⟨n, hnn⟩ : ∃ n, xs.length = n := ⟨_, rfl⟩
  rw [hnn] at hmk hn hC0 ⊢
  have HC0 := Lib.hid hC0
  have HN := Lib.hid hnn
  clear hi hj hC0 hs hnn
  go_enter Try.func34, Try.ntmps34
  go_wp2
  go_loopw [4] (fun i wr => ∃ k : Nat, k ≤ n ∧ i = .int .i64 k ∧ ∃ C : Array Value, Hid (C.size = n) ∧ Hid (∀ j, j < k → C[j]? = (xs.map (Value.string))[j]?) ∧ Box w w.heap.size C 9 wr) (fun i _ => (n - intOf i).toNat)
  case atStart => exact ⟨0, by omega, rfl, C0, HC0, fun j hj => by omega, Box.new _ _ _⟩
  case round =>
    obtain ⟨k, hk, rfl, C, HC, HP, hB⟩ := hrel
    by_cases hlt : k < n
    · have hx : (xs.map (Value.string))[k]? = some ((Value.string) (xs[k]'(by rw [HN.out]; exact hlt))) := by
        rw [List.getElem?_map, List.getElem?_eq_getElem (by rw [HN.out]; exact hlt)]; rfl
      obtain ⟨b, off, rfl, hc⟩ := (HS.out.step hB.old).at hx
      obtain ⟨old, ho⟩ : ∃ old, C[k]? = some old := ⟨_, Array.getElem?_eq_getElem (by rw [HC.out]; exact hlt)⟩
      have hc2 := hB.cell k _ ho
      have hf2 := hB.frozen k
      have HX := Lib.hid hx
      have HO := Lib.hid ho
      clear hx ho
      generalize xs[k]'(by rw [HN.out]; exact hlt) = x at *
      go_wp2
      go_roundw
      case rel =>
        refine ⟨k + 1, by omega, by go_num, _, ?_, ?_, hB.set (Nat.le_refl _) k _⟩
        · show Array.size _ = n
          rw [Array.size_setIfInBounds]; exact HC.out
        · intro j hj
          rw [Array.getElem?_setIfInBounds]
          by_cases hjk : k = j
          · subst hjk; rw [if_pos rfl, if_pos (by rw [HC.out]; exact hlt)]; exact HX.out.symm
          · rw [if_neg hjk]; exact HP.out j (by omega)
      case measure => simp [intOf]; omega
    · go_wp2
      go_ret
      obtain rfl : k = n := by omega
      refine ⟨rfl, C, ?_, hB⟩
      apply List.ext_getElem?
      intro j
      by_cases hj : j < k
      · rw [← HP.out j hj]; simp
      · rw [List.getElem?_eq_none (by have := HC.out; simp; omega), List.getElem?_eq_none (by have := HN.out; simp; omega)]
theorem infoIntS : (Try.prog.info? 3).map (fun i => (i.zero, i.size, decide (i.bytes ≤ 128))) = some (some (.int .i64 0), 1, true) := by kernel_rfl
set_option maxHeartbeats 400000 in
theorem toIntS_any (a : Option Addr) (c : Nat) (xs : List Int) (hn : xs.length ≤ 1048576) (w : World) (hs : Sl w a (xs.map (Value.int .i64))) :
    Calls Try.prog 35 #[.slice a xs.length c] w fun e w' => e = .returned (.slice (some ⟨w.heap.size, 0, none⟩) xs.length xs.length) ∧ ∃ C : Array Value, C.toList = xs.map (Value.int .i64) ∧ Box w w.heap.size C 3 w' := by
  obtain ⟨i0, hi, hj⟩ := Option.map_eq_some_iff.1 infoIntS
  simp only [Prod.mk.injEq] at hj
  obtain ⟨C0, hC0, hmk⟩ := run_make_n (P := Try.prog) 31 3 i0 (.int .i64 0) Try.underlying31 hi hj.1 xs.length (of_decide_eq_true hj.2.2) (by omega)
  rw [hj.2.1, Nat.mul_one] at hC0
  have HS := Lib.hid hs
  obtain ⟨n, hnn⟩ : ∃ n, xs.length = n := ⟨_, rfl⟩
  rw [hnn] at hmk hn hC0 ⊢
  have HC0 := Lib.hid hC0
  have HN := Lib.hid hnn
  clear hi hj hC0 hs hnn
  go_enter Try.func35, Try.ntmps35
  go_wp2
  go_loopw [4] (fun i wr => ∃ k : Nat, k ≤ n ∧ i = .int .i64 k ∧ ∃ C : Array Value, Hid (C.size = n) ∧ Hid (∀ j, j < k → C[j]? = (xs.map (Value.int .i64))[j]?) ∧ Box w w.heap.size C 3 wr) (fun i _ => (n - intOf i).toNat)
  case atStart => exact ⟨0, by omega, rfl, C0, HC0, fun j hj => by omega, Box.new _ _ _⟩
  case round =>
    obtain ⟨k, hk, rfl, C, HC, HP, hB⟩ := hrel
    by_cases hlt : k < n
    · have hx : (xs.map (Value.int .i64))[k]? = some ((Value.int .i64) (xs[k]'(by rw [HN.out]; exact hlt))) := by
        rw [List.getElem?_map, List.getElem?_eq_getElem (by rw [HN.out]; exact hlt)]; rfl
      obtain ⟨b, off, rfl, hc⟩ := (HS.out.step hB.old).at hx
      obtain ⟨old, ho⟩ : ∃ old, C[k]? = some old := ⟨_, Array.getElem?_eq_getElem (by rw [HC.out]; exact hlt)⟩
      have hc2 := hB.cell k _ ho
      have hf2 := hB.frozen k
      have HX := Lib.hid hx
      have HO := Lib.hid ho
      clear hx ho
      generalize xs[k]'(by rw [HN.out]; exact hlt) = x at *
      go_wp2
      go_roundw
      case rel =>
        refine ⟨k + 1, by omega, by go_num, _, ?_, ?_, hB.set (Nat.le_refl _) k _⟩
        · show Array.size _ = n
          rw [Array.size_setIfInBounds]; exact HC.out
        · intro j hj
          rw [Array.getElem?_setIfInBounds]
          by_cases hjk : k = j
          · subst hjk; rw [if_pos rfl, if_pos (by rw [HC.out]; exact hlt)]; exact HX.out.symm
          · rw [if_neg hjk]; exact HP.out j (by omega)
      case measure => simp [intOf]; omega
    · go_wp2
      go_ret
      obtain rfl : k = n := by omega
      refine ⟨rfl, C, ?_, hB⟩
      apply List.ext_getElem?
      intro j
      by_cases hj : j < k
      · rw [← HP.out j hj]; simp
      · rw [List.getElem?_eq_none (by have := HC.out; simp; omega), List.getElem?_eq_none (by have := HN.out; simp; omega)]
set_option maxHeartbeats 400000 in
theorem szIntS_any (a : Option Addr) (n c : Nat) (left : Int) (h0 : -1 ≤ left) (h1 : left ≤ 1048576) (hn : n ≤ maxLen) (w : World) :
    Calls Try.prog 33 #[.slice a n c, .int .i64 left] w fun e w' => e = .returned (.int .i64 (if left < n then -1 else left - n)) ∧ w = w' := by
  unfold maxLen at hn
  by_cases h : left < n
  · rw [if_pos h]
    go_enter Try.func33, Try.ntmps33
    go_wp2
    go_ret
    exact ⟨rfl, rfl⟩
  · rw [if_neg h]
    go_enter Try.func33, Try.ntmps33
    go_wp2
    go_ret
    exact ⟨rfl, rfl⟩
set_option maxHeartbeats 400000 in
theorem eqIntS_same (a b : Option Addr) (ca cb : Nat) (xs : List Int) (hn : xs.length ≤ 1048576) (w : World) (ha : Sl w a (xs.map (Value.int .i64))) (hb : Sl w b (xs.map (Value.int .i64))) :
    Calls Try.prog 38 #[.slice a xs.length ca, .slice b xs.length cb] w fun e w' => e = .returned (.bool true) ∧ Drw w w' := by
  obtain ⟨n, hnn⟩ : ∃ n, xs.length = n := ⟨_, rfl⟩
  rw [hnn] at hn ⊢
  have HN := Lib.hid hnn
  have HA := Lib.hid ha
  have HB := Lib.hid hb
  have hne : ((n : Int) != n) = false := by simp
  clear hnn ha hb
  go_enter Try.func38, Try.ntmps38
  go_wp2
  go_loopw [5] (fun i wr => ∃ k : Nat, k ≤ n ∧ i = .int .i64 k ∧ Drw w wr) (fun i _ => (n - intOf i).toNat)
  case atStart => exact ⟨0, by omega, rfl, Drw.refl _⟩
  case round =>
    obtain ⟨k, hk, rfl, hd⟩ := hrel
    obtain ⟨wo, rfl⟩ : ∃ wo : World, wo = wr := ⟨_, rfl⟩
    by_cases hlt : k < n
    · have hx : (xs.map (Value.int .i64))[k]? = some ((Value.int .i64) (xs[k]'(by rw [HN.out]; exact hlt))) := by
        rw [List.getElem?_map, List.getElem?_eq_getElem (by rw [HN.out]; exact hlt)]; rfl
      obtain ⟨p, off, rfl, hc⟩ := (HA.out.drw hd).at hx
      obtain ⟨q, off', rfl, hc'⟩ := (HB.out.drw hd).at hx
      clear hx
      generalize xs[k]'(by rw [HN.out]; exact hlt) = x at *
      have hxx : (x != x) = false := by simp
      have hk1 : (k : Int) < n := by omega
      go_wp2
      go_quiet (fail)
      go_wp2
      go_roundw
      case rel => exact ⟨k + 1, by omega, by go_num, hd.drewN _⟩
      case measure => simp [intOf]; omega
    · go_wp2
      go_ret
      exact ⟨rfl, hd⟩
set_option maxHeartbeats 400000 in
theorem eqStringS_same (a b : Option Addr) (ca cb : Nat) (xs : List ByteArray) (hn : xs.length ≤ 1048576) (w : World) (ha : Sl w a (xs.map (Value.string))) (hb : Sl w b (xs.map (Value.string))) :
    Calls Try.prog 37 #[.slice a xs.length ca, .slice b xs.length cb] w fun e w' => e = .returned (.bool true) ∧ Drw w w' := by
  obtain ⟨n, hnn⟩ : ∃ n, xs.length = n := ⟨_, rfl⟩
  rw [hnn] at hn ⊢
  have HN := Lib.hid hnn
  have HA := Lib.hid ha
  have HB := Lib.hid hb
  have hne : ((n : Int) != n) = false := by simp
  clear hnn ha hb
  go_enter Try.func37, Try.ntmps37
  go_wp2
  go_loopw [5] (fun i wr => ∃ k : Nat, k ≤ n ∧ i = .int .i64 k ∧ Drw w wr) (fun i _ => (n - intOf i).toNat)
  case atStart => exact ⟨0, by omega, rfl, Drw.refl _⟩
  case round =>
    obtain ⟨k, hk, rfl, hd⟩ := hrel
    obtain ⟨wo, rfl⟩ : ∃ wo : World, wo = wr := ⟨_, rfl⟩
    by_cases hlt : k < n
    · have hx : (xs.map (Value.string))[k]? = some ((Value.string) (xs[k]'(by rw [HN.out]; exact hlt))) := by
        rw [List.getElem?_map, List.getElem?_eq_getElem (by rw [HN.out]; exact hlt)]; rfl
      obtain ⟨p, off, rfl, hc⟩ := (HA.out.drw hd).at hx
      obtain ⟨q, off', rfl, hc'⟩ := (HB.out.drw hd).at hx
      clear hx
      generalize xs[k]'(by rw [HN.out]; exact hlt) = x at *
      have hxx : (x.data.toList == x.data.toList) = true := beq_self_eq_true _
      have hk1 : (k : Int) < n := by omega
      go_wp2
      go_quiet (fail)
      go_wp2
      go_roundw
      case rel => exact ⟨k + 1, by omega, by go_num, hd.drewN _⟩
      case measure => simp [intOf]; omega
    · go_wp2
      go_ret
      exact ⟨rfl, hd⟩
/-- what is left of a number when the lengths of texts are taken from it; below 0: -1 -/
def leftOf : List ByteArray → Int → Int
  | [], l => l
  | s :: r, l => if l - s.size < 0 then -1 else leftOf r (l - s.size)
def szStrs (ss : List ByteArray) (l : Int) : Int := if l < ss.length then -1 else leftOf ss (l - ss.length)
set_option maxHeartbeats 400000 in
theorem szStringS_any (a : Option Addr) (c : Nat) (ss : List ByteArray) (left : Int) (h0 : 0 ≤ left) (h1 : left ≤ 1048576) (hn : ss.length ≤ maxLen) (hl : ∀ s ∈ ss, s.size ≤ maxLen) (w : World) (hs : Sl w a (ss.map Value.string)) :
    Calls Try.prog 32 #[.slice a ss.length c, .int .i64 left] w fun e w' => e = .returned (.int .i64 (szStrs ss left)) ∧ w = w' := by
  unfold maxLen at hn hl
  unfold szStrs
  by_cases h : left < ss.length
  · rw [if_pos h]
    go_enter Try.func32, Try.ntmps32
    go_wp2
    go_ret
    exact ⟨rfl, rfl⟩
  · rw [if_neg h]
    obtain ⟨n, hnn⟩ : ∃ n, ss.length = n := ⟨_, rfl⟩
    rw [hnn] at hn h ⊢
    have HN := Lib.hid hnn
    have HS := Lib.hid hs
    have HL := Lib.hid hl
    have hle : (n : Int) ≤ left := by omega
    clear hnn hs hl
    go_enter Try.func32, Try.ntmps32
    go_wp2
    go_loop [1, 5] (fun t i => ∃ (k : Nat) (l : Int), k ≤ n ∧ i = .int .i64 k ∧ 0 ≤ l ∧ l ≤ 1048576 ∧ t = .int .i64 l ∧ Hid (leftOf (ss.drop k) l = leftOf ss (left - n))) (fun _ i => (n - intOf i).toNat)
    case atStart => exact ⟨0, left - n, by omega, rfl, by omega, by omega, rfl, rfl⟩
    case round =>
      obtain ⟨k, l, hk, rfl, hl0, hl1, rfl, HE⟩ := hrel
      by_cases hlt : k < n
      · have hx : (ss.map Value.string)[k]? = some (Value.string (ss[k]'(by rw [HN.out]; exact hlt))) := by
          rw [List.getElem?_map, List.getElem?_eq_getElem (by rw [HN.out]; exact hlt)]; rfl
        obtain ⟨b, off, rfl, hc⟩ := HS.out.at hx
        have hsz := HL.out _ (List.getElem_mem (by rw [HN.out]; exact hlt) : ss[k]'(by rw [HN.out]; exact hlt) ∈ ss)
        have HD : Hid (ss.drop k = ss[k]'(by rw [HN.out]; exact hlt) :: ss.drop (k + 1)) := List.drop_eq_getElem_cons _
        clear hx
        generalize ss[k]'(by rw [HN.out]; exact hlt) = s at *
        by_cases hneg : l - s.size < 0
        · have HR : Hid (leftOf ss (left - n) = -1) := by
            show _ = _
            rw [← HE.out, HD.out, leftOf, if_pos hneg]
          go_wp2
          go_ret
          rw [HR.out]
          exact ⟨rfl, rfl⟩
        · have HR : Hid (leftOf (ss.drop (k + 1)) (l - s.size) = leftOf ss (left - n)) := by
            show _ = _
            rw [← HE.out, HD.out, leftOf, if_neg hneg]
          go_wp2
          go_round
          case rel => exact ⟨k + 1, l - s.size, by omega, by go_num, by omega, by omega, rfl, HR⟩
          case measure => simp [intOf]; omega
      · go_wp2
        go_ret
        have : k = ss.length := by have := HN.out; omega
        have hE := HE.out
        rw [this, List.drop_length, leftOf] at hE
        rw [hE]
        exact ⟨rfl, rfl⟩
end Go.Proofs.Ytcdkhacccbdmdaa
