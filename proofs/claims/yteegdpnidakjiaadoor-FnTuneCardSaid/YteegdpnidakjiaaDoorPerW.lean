/- Walk: the reference's period of a small angle. -/
import Derived.Test.YteegdpnidakjiaaDoorPerP
import Derived.Test.YteegdpnidakjiaaDoorSl
import Derived.Deep.RegionWith
namespace Go.Proofs.YteegdpnidakjiaaDoor
open Go.RowKit

theorem infoIntD : (Tryd.prog.info? 3).map (fun i => (i.zero, i.size, decide (i.bytes ≤ 128))) = some (some (.int .i64 0), 1, true) := by kernel_rfl
theorem topN_succ (d : Nat) : ∀ (j n : Nat), topN d (j + 1) n = 2 * topN d j n % d
  | 0, _ => rfl
  | j + 1, n => by
    show topN d (j + 1) (2 * n % d) = 2 * topN d j (2 * n % d) % d
    exact topN_succ d j (2 * n % d)
/-- the cells of a function's first values -/
def fnCells (g : Nat → Nat) (d : Nat) : Array Value := ((List.range d).map fun j => Value.int .i64 (g j)).toArray
theorem fnCells_at (g : Nat → Nat) (d j : Nat) (h : j < d) : (fnCells g d)[j]? = some (.int .i64 (g j)) := by
  simp [fnCells, h]
theorem fnCells_set (g : Nat → Nat) (d j v : Nat) (h : j < d) : (fnCells g d).setIfInBounds j (.int .i64 v) = fnCells (fun i => if i = j then v else g i) d := by
  apply Array.ext_getElem?
  intro i
  rw [Array.getElem?_setIfInBounds]
  by_cases hi : i < d
  · rw [fnCells_at _ _ _ hi]
    by_cases hij : j = i
    · subst hij; simp [fnCells, h]
    · rw [if_neg hij, fnCells_at _ _ _ hi, if_neg (Ne.symm hij)]
  · have e1 : (fnCells g d)[i]? = none := by simp [fnCells]; omega
    have e2 : (fnCells (fun i => if i = j then v else g i) d)[i]? = none := by simp [fnCells]; omega
    rw [e1, e2]
    split
    · split
      · rename_i h1 h2; simp [fnCells] at h2; omega
      · rfl
    · rfl
theorem made_zero (n : Nat) : madeCells (Value.int .i64 0).cells (n * 1) = fnCells (fun _ => 0) n := by
  apply Array.ext_getElem?
  intro j
  by_cases h : j < n
  · rw [fnCells_at _ _ _ h]
    simp [madeCells, Value.cells, h, Nat.mod_one]
  · have e1 : (fnCells (fun _ => 0) n)[j]? = none := by simp [fnCells]; omega
    rw [e1]
    simp [madeCells]; omega
theorem run_make_zero (n : Nat) (hn : n ≤ 1099511627776) (w : World) : (Instr.makeSlice 80 (.int .i64 n) (.int .i64 n)).run Tryd.prog w = .ok (.slice (some ⟨w.heap.size, 0, none⟩) n n) (w.alloc (.cells (fnCells (fun _ => 0) n) 3)) := by
  obtain ⟨i, hi1⟩ : ∃ i, Tryd.prog.info? 3 = some i := by
    cases h : Tryd.prog.info? 3 with
    | none => have := infoIntD; rw [h] at this; cases this
    | some i => exact ⟨i, rfl⟩
  have hi2 := infoIntD
  rw [hi1] at hi2
  simp only [Option.map_some, Option.some.injEq, Prod.mk.injEq, decide_eq_true_eq] at hi2
  obtain ⟨z1, z2, z3⟩ := hi2
  have hm : i.bytes * n ≤ 128 * 1099511627776 := Nat.mul_le_mul z3 hn
  have hm2 : ((i.bytes * n : Nat) : Int) = (i.bytes : Int) * n := by simp
  have h := run_make w 80 3 i _ Tryd.underlying80 hi1 z1 .i64 .i64 (n : Int) n (by omega) (Int.le_refl _) (by omega) (by omega)
  rw [Int.toNat_natCast, z2, made_zero] at h
  exact h
theorem bit_set (mask num : Nat) (h : mask / 2 ^ num % 2 = 0) : (mask + 2 ^ num) / 2 ^ num % 2 = 1 := by
  rw [Nat.add_div_right _ (Nat.two_pow_pos _)]; omega
theorem bit_keep (mask num j : Nat) (h : mask / 2 ^ num % 2 = 0) (hj : j ≠ num) (hb : mask / 2 ^ j % 2 = 1) : (mask + 2 ^ num) / 2 ^ j % 2 = 1 := by
  rcases Nat.lt_or_ge j num with hlt | hge
  · obtain ⟨e, rfl⟩ : ∃ e, num = e + 1 + j := ⟨num - j - 1, by omega⟩
    rw [Nat.pow_add 2 (e + 1) j, Nat.add_mul_div_right _ _ (Nat.two_pow_pos _), Nat.pow_succ]; omega
  · obtain ⟨e, rfl⟩ : ∃ e, j = num + 1 + e := ⟨j - num - 1, by omega⟩
    rw [Nat.pow_add 2 (num + 1) e, ← Nat.div_div_eq_div_mul] at hb ⊢
    rw [show (mask + 2 ^ num) / 2 ^ (num + 1) = mask / 2 ^ (num + 1) by
      rw [Nat.pow_succ, ← Nat.div_div_eq_div_mul, ← Nat.div_div_eq_div_mul, Nat.add_div_right _ (Nat.two_pow_pos _)]; omega]
    exact hb
theorem perOf_le : ∀ d, d < 65 → d ≠ 0 → (perOf d).1 + (perOf d).2 ≤ 100 ∧ 1 ≤ (perOf d).2 := by decide +kernel
set_option maxHeartbeats 1000000 in
theorem specAnglePeriod_any (a b : Int) (hb : b ≤ 64 ∨ 5000 < b) (w : World) : Calls Tryd.prog 18 #[.agg #[.int .i64 a, .int .i64 b]] w fun e w' =>
    (angleOK a b = false ∨ 5000 < b → e = .returned (.tuple #[.int .i64 0, .int .i64 0, .bool false])) ∧
    (∀ d : Nat, b = d → b ≤ 64 → angleOK a b = true → e = .returned (.tuple #[.int .i64 (perOf d).1, .int .i64 (perOf d).2, .bool true])) ∧ Below w.heap.size w w' := by
  have X0 := Box.new w #[.int .i64 a, .int .i64 b] 24
  cases hok : angleOK a b with
  | false =>
    go_enter Tryd.func18, Tryd.ntmps18
    go_wp2_with fail
    refine (specAngleValid_any a b _).mono ?_
    rw [hok]
    rintro e w1 ⟨rfl, hd⟩
    have HB := Lib.hid (X0.step hd).old
    clear X0 hd
    go_wp2
    refine bodyPost_ret (v := .tuple #[.int .i64 0, .int .i64 0, .bool false]) (by simp [results, Tryd.f18, go_sem]) rfl ⟨fun _ => rfl, fun _ _ _ h => by simp at h, HB.out⟩
  | true =>
    obtain ⟨n, d, rfl, rfl, hnd, hd, hg⟩ := angleOK_nat hok
    by_cases hlt : 5000 < (d : Int)
    · go_enter Tryd.func18, Tryd.ntmps18
      go_wp2_with fail
      refine (specAngleValid_any n d _).mono ?_
      rw [hok]
      rintro e w1 ⟨rfl, hd⟩
      replace X0 := X0.step hd
      have b1 := X0.cell 1 _ rfl
      have HB := Lib.hid X0.old
      clear X0 hd
      go_wp2
      refine bodyPost_ret (v := .tuple #[.int .i64 0, .int .i64 0, .bool false]) (by simp [results, Tryd.f18, go_sem]) rfl ⟨fun _ => rfl, fun _ _ h _ => absurd h (by omega), HB.out⟩
    · have hd64 : d ≤ 64 := by omega
      have hmk := fun w => run_make_zero d (by omega) w
      go_enter Tryd.func18, Tryd.ntmps18
      go_wp2_with fail
      refine (specAngleValid_any n d _).mono ?_
      rw [hok]
      rintro e w1 ⟨rfl, hd⟩
      replace X0 := X0.step hd
      have b0 := X0.cell 0 _ rfl
      have b1 := X0.cell 1 _ rfl
      clear hd
      have X1 := X0.alloc (.cells (fnCells (fun _ => 0) d) 3)
      have M := (Box.new w1 (fnCells (fun _ => 0) d) 3).up X0.old
      have c0 := X1.cell 0 _ rfl
      have c1 := X1.cell 1 _ rfl
      have hne : w.heap.size ≠ w1.heap.size := by have := X0.lt; omega
      have hwb : w.heap.size ≤ w1.heap.size := X0.old.size
      obtain ⟨mb, hmb⟩ : ∃ mb, w1.heap.size = mb := ⟨_, rfl⟩
      have hok2 : okSim n d = true := by
        have h := List.all_eq_true.1 (List.all_eq_true.1 okSim_all d (List.mem_range.2 (by omega))) n (List.mem_range.2 hnd)
        rw [hg] at h
        simpa using h
      unfold okSim at hok2
      rw [Bool.and_eq_true, beq_iff_eq] at hok2
      obtain ⟨hL1, hL2⟩ := perOf_le d (by omega) (by omega)
      have HS := Lib.hid hok2.1
      have HE := Lib.hid hok2.2
      clear hok2 X0
      rw [hmb] at M hne hwb
      go_wp2
      go_loopw [6, 7] (fun x y wr => ∃ (f mask num k : Nat) (g : Nat → Nat), num < d ∧ 1 ≤ k ∧ x = .int .i64 num ∧ y = .int .i64 k ∧ k + f = (perOf d).1 + (perOf d).2 + 1 ∧ Hid (freshN d f mask num = true) ∧ Hid (num = topN d (k - 1) n) ∧ Hid (∀ i, i < k - 1 → g (topN d i n) = i + 1) ∧ Hid (∀ j, g j ≠ 0 → mask / 2 ^ j % 2 = 1) ∧ Box w mb (fnCells g d) 3 wr ∧ Box w w.heap.size #[.int .i64 n, .int .i64 d] 24 wr) (fun _ y _ => (200 - intOf y).toNat)
      case atStart => exact ⟨(perOf d).1 + (perOf d).2, 0, n, 1, fun _ => 0, hnd, Nat.le_refl _, rfl, rfl, by omega, HS, rfl, fun i hi => by omega, fun j hj => by simp at hj, M, X1⟩
      case round =>
        obtain ⟨f, mask, num, k, g, r1, r2, rfl, rfl, r3, RF, RT, RG, RM, M, X1⟩ := hrel
        obtain ⟨wo, rfl⟩ : ∃ wo, wo = wr := ⟨_, rfl⟩
        have c0 := X1.cell 0 _ rfl
        have c1 := X1.cell 1 _ rfl
        have m0 := M.cell num _ (fnCells_at g d num r1)
        have mf := M.frozen num
        have hdz : ((d : Int) == 0) = false := by simp; omega
        cases f with
        | zero =>
          have hgn : g num = (perOf d).1 + 1 := by
            have h1 : num = topN d (perOf d).1 n := by rw [RT.out, show k - 1 = (perOf d).1 + (perOf d).2 by omega, HE.out]
            rw [h1]
            exact RG.out _ (by omega)
          rw [hgn] at m0
          have HB := Lib.hid X1.old
          have HK : Hid (k - ((perOf d).1 + 1) = (perOf d).2) := by show _ = _; omega
          obtain ⟨p1, hp1⟩ : ∃ p1, (perOf d).1 = p1 := ⟨_, rfl⟩
          obtain ⟨p2, hp2⟩ : ∃ p2, (perOf d).2 = p2 := ⟨_, rfl⟩
          have HP1 := Lib.hid hp1
          have HP2 := Lib.hid hp2
          rw [hp1, hp2] at r3 hL1
          rw [hp2] at hL2
          rw [hp1] at m0
          have hkk : (k : Int) - ((p1 : Int) + 1) = p2 := by omega
          clear hp1 hp2 HK HE HS RG RM RT
          go_wp2
          go_quiet (fail)
          go_wp2
          refine bodyPost_ret (v := .tuple #[.int .i64 p1, .int .i64 p2, .bool true]) (by simp [results, Tryd.f18, go_sem]) rfl ⟨fun h => absurd h (by first | omega | (simp; omega)), fun d' h3 _ _ => ?_, Below.trans HB.out ((Drw.refl _).drewN _ |>.below _)⟩
          obtain rfl : d = d' := by omega
          rw [HP1.out, HP2.out]
        | succ f =>
          have hgn : g num = 0 := by
            have h1 := RF.out
            unfold freshN at h1
            rw [Bool.and_eq_true, beq_iff_eq] at h1
            rcases Nat.eq_zero_or_pos (g num) with h | h
            · exact h
            · have := RM.out num (by omega); omega
          rw [hgn] at m0
          have h1 := RF.out
          unfold freshN at h1
          rw [Bool.and_eq_true, beq_iff_eq] at h1
          obtain ⟨q, hq⟩ : ∃ q, 2 * num % d = q := ⟨_, rfl⟩
          have hq1 : (2 * (num : Int)).tmod d = (q : Int) := by rw [← hq]; exact (Int.tmod_eq_emod_of_nonneg (by omega)).trans (Int.natCast_emod (2 * num) d).symm
          have hq2 : (2 * (num : Int)) % d = (q : Int) := by rw [← hq]; exact (Int.natCast_emod (2 * num) d).symm
          have hqlt : q < d := by rw [← hq]; exact Nat.mod_lt _ (by omega)
          rw [hq] at h1
          have NF := Lib.hid h1.2
          have NB := Lib.hid h1.1
          have NT : Hid (q = topN d k n) := by
            show _ = _
            have := topN_succ d (k - 1) n
            rw [show k - 1 + 1 = k by omega, ← RT.out, hq] at this
            exact this.symm
          have M2 := M.set hwb num (.int .i64 (k : Nat))
          rw [fnCells_set g d num k r1] at M2
          have X2 := X1.other (p := ⟨mb, num, none⟩) hwb hne (.int .i64 (k : Nat))
          have c2 := X2.cell 1 _ rfl
          clear h1 hq RF
          go_wp2
          go_roundw
          case rel =>
            refine ⟨f, mask + 2 ^ num, q, k + 1, _, hqlt, by omega, rfl, by go_num, by omega, NF, by rw [Nat.add_sub_cancel]; exact NT, ?_, ?_, M2, X2⟩
            · intro i hi
              show (if topN d i n = num then k else g (topN d i n)) = i + 1
              by_cases hik : i = k - 1
              · rw [if_pos (by rw [hik]; exact RT.out.symm)]; omega
              · have h2 := RG.out i (by omega)
                rw [if_neg (fun h => by rw [h, hgn] at h2; omega)]; exact h2
            · intro j hj
              by_cases hjn : j = num
              · rw [hjn]; exact bit_set mask num NB.out
              · refine bit_keep mask num j NB.out hjn (RM.out j ?_)
                have h3 : (if j = num then k else g j) ≠ 0 := hj
                rwa [if_neg hjn] at h3
          case measure => simp [intOf]; omega
end Go.Proofs.YteegdpnidakjiaaDoor
