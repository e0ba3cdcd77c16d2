/- Walks: the program's bits and kneading. -/
import Derived.Test.YteegdpnidakjiaaDoorAngB
import Derived.Test.YteegdpnidakjiaaDoorTops
import Derived.Test.YteegdpnidakjiaaDoorBuilder
namespace Go.Proofs.YteegdpnidakjiaaDoor
open Go.RowKit
attribute [local go_sem] Oper.semAt_some

/-- between two rounds: the boxes, the builder, and old memory -/
structure TopsInv (w : World) (p q m bb : Nat) (f : Nat → UInt8) (k : Nat) (W : World) : Prop where
  ang : W.heap[w.heap.size]? = some (.cells #[.int .i64 p, .int .i64 q] 24 (0, 0))
  num : W.heap[w.heap.size + 1]? = some (.cells #[.int .i64 m] 3 (0, 0))
  box : W.heap[bb + 1]? = some (.cells #[.int .i64 p, .int .i64 q] 24 (0, 0))
  bld : Bld bb bb (firsts f k) W
  old : Below w.heap.size w W
theorem TopsInv.own {w : World} {p q m bb : Nat} {f : Nat → UInt8} {B : Nat} (hB : w.heap.size ≤ B) : OwnFrom B (TopsInv w p q m bb f) := by
  intro k W W' row h hg hr
  have hr' : ∀ r, row = some r → ∃ o : Obj, W.heap[r]? = some o ∧ o.isCells = false := fun r e => (hr r e).2
  exact ⟨own_block h.ang rfl hg hr', own_block h.num rfl hg hr', own_block h.box rfl hg hr', h.bld.own hg hr', h.old.grown hg h.old.size (fun j e => Nat.le_trans hB (hr j e).1)⟩
theorem TopsInv.wrote {w W W' : World} {p q m bb k : Nat} {f : Nat → UInt8} (h : TopsInv w p q m bb f k W) (hlt : w.heap.size + 1 < bb) (hb : Bld bb bb (firsts f k ++ [f k]) W') (hk : BKeep bb bb W W') : TopsInv w p q m bb f (k + 1) W' :=
  ⟨hk.block h.ang (by omega) (fun c fz e => by injection e with _ e _; exact absurd e (by decide)),
   hk.block h.num (by omega) (fun c fz e => by injection e with _ e _; exact absurd e (by decide)),
   hk.block h.box (by omega) (fun c fz e => by injection e with _ e _; exact absurd e (by decide)), hb, h.old.trans (hk.below.mono (by omega))⟩

/-- the check of the angle, behind both boxes -/
theorem valid_boxed (p q m : Int) (w : World) : Calls Tryd.prog 22 #[.agg #[.int .i64 p, .int .i64 q]] ((w.alloc (.cells #[.int .i64 p, .int .i64 q] 24)).alloc (.cells #[.int .i64 m] 3)) fun e w1 => e = .returned (.bool (angleOK p q)) ∧
    w1.heap[w.heap.size]? = some (.cells #[.int .i64 p, .int .i64 q] 24 (0, 0)) ∧ w1.heap[w.heap.size + 1]? = some (.cells #[.int .i64 m] 3 (0, 0)) ∧ Below w.heap.size w w1 ∧ w.heap.size + 1 < w1.heap.size ∧ w.heap.size < w1.heap.size ∧
    w1.cell? ⟨w.heap.size + 1, 0, none⟩ = some (.int .i64 m) ∧ w1.cell? ⟨w.heap.size, 0, none⟩ = some (.int .i64 p) ∧ w1.cell? ⟨w.heap.size, 1, none⟩ = some (.int .i64 q) := by
  refine (implAngleValid_any p q _).mono ?_
  rintro e w1 ⟨rfl, hb⟩
  have hA : w1.heap[w.heap.size]? = some (.cells #[.int .i64 p, .int .i64 q] 24 (0, 0)) := (hb.block _ (by simp; omega)).trans ((Below.heap_alloc _ _ _ (by simp)).trans (World.alloc_heap_new w _))
  have hM : w1.heap[w.heap.size + 1]? = some (.cells #[.int .i64 m] 3 (0, 0)) := (hb.block _ (by simp)).trans (by have := World.alloc_heap_new (w.alloc (.cells #[.int .i64 p, .int .i64 q] 24)) (.cells #[.int .i64 m] 3); rwa [World.size_alloc] at this)
  have hold : Below w.heap.size w w1 := (((Below.refl _ w).alloc (Nat.le_refl _) _).alloc (by simp) _).trans (hb.mono (by simp; omega))
  have hsz : w.heap.size + 1 < w1.heap.size := by have := hb.size; simp at this; omega
  exact ⟨rfl, hA, hM, hold, hsz, by omega, by rw [Lib.cell_of_heap hM]; rfl, by rw [Lib.cell_of_heap hA]; rfl, by rw [Lib.cell_of_heap hA]; rfl⟩

set_option maxRecDepth 100000 in
set_option maxHeartbeats 1000000 in
theorem implAngleBits_yes (p q m : Nat) (hpq : p < q) (hq : q ≤ 1048576) (hok : angleOK p q = true) (hm : m ≤ 64) (w : World) : Calls Tryd.prog 8 #[.agg #[.int .i64 p, .int .i64 q], .int .i64 m] w fun e w' => e = .returned (.tuple #[.string ⟨(firsts (bitAt p q) m).toArray⟩, .bool true]) ∧ Below w.heap.size w w' := by
  refine (callsIn_wide (n := 3)).1 ?_
  refine callsIn_of_wp_marks Tryd.func8 rfl trivial ?_ rfl
  simp only [Tryd.ntmps8, List.size_toArray, List.length_cons, List.length_nil, Nat.reduceAdd, Nat.reduceSub, Array.replicate_succ, Array.replicate_zero, List.push_toArray, List.append_toArray, List.nil_append, List.cons_append]
  have hg1 : decide ((m : Int) < 0) = false := by simp
  have hg2 : decide ((64 : Int) < m) = false := by simp; omega
  gi_wp2_with (first | (refine ⟨trivial, ?_⟩; gi_at_call 22; refine (callsIn_wide.2 (valid_boxed _ _ _ _)).mono ?_; rintro e w1 ⟨rfl, hA, hM, hold, hsz, hsz0, m0, a0, a1⟩) | (refine ⟨trivial, ?_⟩; gi_at_call 24; refine (callsIn_wide.2 (topsOf_any _ _ _)).mono ?_; rintro e w1 ⟨rfl, rfl⟩))
  have hE : ∀ c, OwnFrom ((w1.alloc (.cells #[.pointer none, .slice none 0 0] 51)).alloc (.cells #[.int .i64 p, .int .i64 q] 24)).heap.size (fun k W => (c = Code.exit 0 ∧ k = m) ∧ TopsInv w p q m w1.heap.size (bitAt p q) k W) :=
    fun c => (ownFrom_pure _ _).and (TopsInv.own (by simp; omega))
  refine wpIn_iter rfl (by decide) (gf := 38) (lb := #[.pointer (some ⟨w1.heap.size + 1, 0, none⟩)]) rfl trivial (enters_of Tryd.func38 (by kernel_rfl) rfl)
    (tops_iters _ p q (w1.heap.size + 1) m (by decide) hpq hq (by omega)) (fun _ => rfl) (TopsInv w p q m w1.heap.size (bitAt p q)) (fun c k W => (c = Code.exit 0 ∧ k = m) ∧ TopsInv w p q m w1.heap.size (bitAt p q) k W)
    (TopsInv.own (by simp; omega)) hE (fun k A h => h.box) ?start
    (fun k => { tmps := #[.agg #[.int .i64 p, .int .i64 q], .int .i64 m, .pointer (some ⟨w.heap.size, 0, none⟩), .pointer (some ⟨w.heap.size + 1, 0, none⟩), .string ⟨#[]⟩, .bool false, .pointer (some ⟨w1.heap.size, 0, none⟩), .int .i64 k, .int .i64 (topAt p q k),
      .agg #[.int .i64 p, .int .i64 q], .bool true, .bool false, .bool false, .int .i64 m, .bool false, .bool false, .bool false, .int .i64 m, .bool false, .bool false, .agg #[.int .i64 p, .int .i64 q],
      .func (.func 38) #[] #[.pointer (some ⟨w1.heap.size + 1, 0, none⟩)], .int .i64 k, .int .i64 (topAt p q k), undef, undef, undef, undef, undef, undef, undef, undef, undef, undef, undef], defers := [] })
    ?assign ?body ?done ?stop
  case start =>
    have hlt : w.heap.size < (w1.alloc (.cells #[.pointer none, .slice none 0 0] 51)).heap.size := by simp; omega
    refine ⟨?_, ?_, ?_, ?_, ((hold.alloc (by omega) _).alloc (by simp; omega) _)⟩
    · exact (Below.heap_alloc _ _ _ hlt).trans ((Below.heap_alloc _ _ _ hsz0).trans hA)
    · exact (Below.heap_alloc _ _ _ (by simp; omega)).trans ((Below.heap_alloc _ _ _ hsz).trans hM)
    · have := World.alloc_heap_new (w1.alloc (.cells #[.pointer none, .slice none 0 0] 51)) (.cells #[.int .i64 p, .int .i64 q] 24)
      rwa [World.size_alloc] at this
    · exact (Bld.new w1).own (World.grownBy_alloc _ _ none) (fun r e => by cases e)
  case assign =>
    intro l k W K hK
    gi_wp2
    exact hK
  case body =>
    intro l k W hk h
    have c3 : W.cell? ⟨w.heap.size + 1, 0, none⟩ = some (.int .i64 m) := by rw [Lib.cell_of_heap h.num]; rfl
    have c1 : W.cell? ⟨w.heap.size, 1, none⟩ = some (.int .i64 q) := by rw [Lib.cell_of_heap h.ang]; rfl
    have ht := topAt_lt hpq k
    by_cases hkm : k = m
    · have t1 : ((k : Int) == (m : Int)) = true := by simp; omega
      have HK := Lib.hid hkm
      clear hkm
      gi_wp2
      exact ⟨KeepsFrom.refl _ _, ⟨rfl, HK.out⟩, h⟩
    · have t1 : ((k : Int) == (m : Int)) = false := by simp; omega
      by_cases hb2 : 2 * topAt p q k < q
      · have HC : Hid (bitAt p q k = 48) := if_pos hb2
        generalize topAt p q k = t at *
        gi_wp2_with (refine ⟨trivial, ?_⟩; gi_at_call 25; refine (CallsIn.inRound l (callsIn_wide.2 (WriteByte_any w1.heap.size w1.heap.size (firsts (bitAt p q) k) 48 W h.bld (by rw [firsts_length]; omega) (Nat.le_of_lt h.bld.lt.1)))).mono ?_; rintro e W' ⟨rfl, hb', hk'⟩)
        exact ⟨hk'.from h.bld.isCells, by omega, h.wrote (by omega) (by rw [HC.out]; exact hb') hk'⟩
      · have HC : Hid (bitAt p q k = 49) := if_neg hb2
        generalize topAt p q k = t at *
        gi_wp2_with (refine ⟨trivial, ?_⟩; gi_at_call 25; refine (CallsIn.inRound l (callsIn_wide.2 (WriteByte_any w1.heap.size w1.heap.size (firsts (bitAt p q) k) 49 W h.bld (by rw [firsts_length]; omega) (Nat.le_of_lt h.bld.lt.1)))).mono ?_; rintro e W' ⟨rfl, hb', hk'⟩)
        exact ⟨hk'.from h.bld.isCells, by omega, h.wrote (by omega) (by rw [HC.out]; exact hb') hk'⟩
  case done =>
    intro D k W hD hk hf
    exact hf.elim
  case stop =>
    rintro D c k W hD hk ⟨⟨rfl, rfl⟩, h⟩ hdef
    gi_wp2_with (refine ⟨trivial, ?_⟩; gi_at_call 17; refine (callsIn_wide.2 (String_any w1.heap.size w1.heap.size _ W h.bld (Nat.le_of_lt h.bld.lt.1))).mono ?_; rintro e W' ⟨rfl, hk'⟩)
    have hdef' : W'.heap[D]? = some (.deferred (some [])) := hk'.block hdef (by simp at hD; omega) (fun c fz e => by cases e)
    refine ⟨by simp, .inl ⟨_, _, rfl, run_takeDeferred hdef', ?_⟩⟩
    refine ⟨_, results_tmp2 rfl _ _ _, rfl, ?_⟩
    exact (h.old.trans (hk'.below.mono (by omega))).grown (grownBy_putObj' _ D _) (by have := h.old.size; have := hk'.below.size; omega) (fun j e => by cases e; simp at hD; omega)
set_option maxHeartbeats 1000000 in
theorem implAngleBits_any (a b n : Int) (w : World) : Calls Tryd.prog 8 #[.agg #[.int .i64 a, .int .i64 b], .int .i64 n] w fun e w' => e = .returned (.tuple #[.string ⟨((angBits a b n).getD []).toArray⟩, .bool (angBits a b n).isSome]) ∧ Below w.heap.size w w' := by
  cases hok : angleOK a b with
  | false =>
    have e : angBits a b n = none := by simp [angBits, hok]
    rw [e]
    simp only [Option.getD_none, Option.isSome_none]
    go_enter Tryd.func8, Tryd.ntmps8
    go_wp2_with (go_at_call 22; refine (valid_boxed _ _ _ _).mono ?_; rintro e w1 ⟨rfl, hA, hM, hold, hsz, hsz0, m0, a0, a1⟩)
    go_ret2
    exact ⟨rfl, hold⟩
  | true =>
    by_cases h1 : n < 0
    · have e : angBits a b n = none := by simp [angBits, hok, inB_no (show ¬ (0 ≤ n ∧ n ≤ 64) by omega)]
      rw [e]
      simp only [Option.getD_none, Option.isSome_none]
      have hg1 : decide (n < 0) = true := by simp; omega
      go_enter Tryd.func8, Tryd.ntmps8
      go_wp2_with (go_at_call 22; refine (valid_boxed _ _ _ _).mono ?_; rintro e w1 ⟨rfl, hA, hM, hold, hsz, hsz0, m0, a0, a1⟩)
      go_ret2
      exact ⟨rfl, hold⟩
    · by_cases h2 : 64 < n
      · have e : angBits a b n = none := by simp [angBits, hok, inB_no (show ¬ (0 ≤ n ∧ n ≤ 64) by omega)]
        rw [e]
        simp only [Option.getD_none, Option.isSome_none]
        have hg1 : decide (n < 0) = false := by simp; omega
        have hg2 : decide (64 < n) = true := by simp; omega
        go_enter Tryd.func8, Tryd.ntmps8
        go_wp2_with (go_at_call 22; refine (valid_boxed _ _ _ _).mono ?_; rintro e w1 ⟨rfl, hA, hM, hold, hsz, hsz0, m0, a0, a1⟩)
        go_ret2
        exact ⟨rfl, hold⟩
      · obtain ⟨p, q, rfl, rfl, hpq, hq, hg⟩ := angleOK_nat hok
        obtain ⟨m, rfl⟩ := Int.eq_ofNat_of_zero_le (show 0 ≤ n by omega)
        have e : angBits p q m = some (firsts (bitAt p q) m) := by simp [angBits, hok, inB_yes (show (0 : Int) ≤ m by omega) (show (m : Int) ≤ 64 by omega)]
        rw [e]
        exact implAngleBits_yes p q m hpq hq hok (by omega) w
end Go.Proofs.YteegdpnidakjiaaDoor
