/- The iterator over an angle's orbit. -/
import Derived.Test.YteegdpnidakjiaaDoorRows
import Derived.Test.YteegdpnidakjiaaDoorIter
import Derived.Test.YteegdpnidakjiaaDoorAngP
import Derived.Lib.FrozenHead
namespace Go.Proofs.YteegdpnidakjiaaDoor
open Go.RowKit
attribute [local go_sem] Oper.semAt_some

set_option maxHeartbeats 400000 in
theorem topsOf_any (a b : Value) (w : World) : Calls Tryd.prog 24 #[.agg #[a, b]] w fun e w' => e = .returned (.func (.func 38) #[] #[.pointer (some ⟨w.heap.size, 0, none⟩)]) ∧ w.alloc (.cells #[a, b] 24) = w' := by
  go_enter Tryd.func24, Tryd.ntmps24
  go_wp2
  go_ret
  exact ⟨rfl, rfl⟩

set_option maxHeartbeats 1000000 in
theorem tops_iters (n a b Bn N : Nat) (hn : 1 ≤ n) (hab : a < b) (hb : b ≤ 1048576) (hN : N ≤ 1048576) :
    Iters Fence.wide n Tryd.prog 38 #[.pointer (some ⟨Bn, 0, none⟩)] (fun k => #[.int .i64 k, .int .i64 (topAt a b k)]) (fun _ => False) N (fun A => A.heap[Bn]? = some (.cells #[.int .i64 a, .int .i64 b] 24 (0, 0))) := by
  intro l J Jx W hJb hJg hY hJ0
  refine callsIn_of_wp Tryd.func38 rfl trivial ?_ rfl
  simp only [Tryd.ntmps38, List.size_toArray, List.length_cons, List.length_nil, Nat.reduceAdd, Nat.reduceSub, Array.replicate_succ, Array.replicate_zero, List.push_toArray, List.append_toArray, List.nil_append, List.cons_append]
  have c0 : W.cell? ⟨Bn, 0, none⟩ = some (.int .i64 a) := by rw [Lib.cell_of_heap (hJb _ _ hJ0)]; rfl
  gi_wp2
  gi_loopw [3, 4] (fun t i wr => ∃ k : Nat, k ≤ N ∧ i = .int .i64 k ∧ t = .int .i64 (topAt a b k) ∧ J k wr) (fun _ i _ => (N + 1 - intOf i).toNat)
  case atStart => exact ⟨0, Nat.zero_le _, rfl, rfl, hJ0⟩
  case round =>
    obtain ⟨k, hk, rfl, rfl, hJ⟩ := hrel
    have ht := topAt_lt hab k
    have ht' : 2 * topAt a b k % b < b := Nat.mod_lt _ (by omega)
    have HS : Hid (topAt a b (k + 1) = 2 * topAt a b k % b) := rfl
    obtain ⟨fn, tmps, assign, body, hy, hR⟩ := hY k wr hk hJ
    gi_wp2
    refine hR.mono ?_
    rintro e W3 (⟨rfl, hkN, hJ3⟩ | ⟨rfl, hJx⟩)
    · have c1 : W3.cell? ⟨Bn, 1, none⟩ = some (.int .i64 b) := by rw [Lib.cell_of_heap (hJb _ _ hJ3)]; rfl
      gi_wp2
      go_roundw
      case rel => exact ⟨k + 1, by omega, by go_num, by rw [HS.out]; go_num, hJ3⟩
      case measure => simp [intOf]; omega
    · gi_wp2
      go_end0
      exact ⟨⟨_, rfl⟩, .inl ⟨k, hk, hJx⟩⟩
end Go.Proofs.YteegdpnidakjiaaDoor
