/- Merged texts: TilK, TilV, LawT, TptB, SamA, WordP. -/
import Derived.Test.YtidbdokoonikpaaGreatDoorJ6
import Derived.Test.YtidbdokoonikpaaGreatDoorJ9
import Derived.Deep.Cut
import Derived.Test.YtidbdokoonikpaaGreatDoorJ7
import Derived.Deep.RegionHeld3
import Derived.WalkKit
import Derived.Laws.BitsAllLaws
import Derived.Lib.Bytealg
section
/- Plain: counts and checksums of the rows of a tile. -/
namespace Go.Proofs.YtidbdokoonikpaaGreatDoor

/-- how many marks are v -/
def cnt (v : Int) (ys : List Int) : Nat := (ys.filter (fun y => decide (y = v))).length
theorem cnt_nil (v : Int) : cnt v [] = 0 := rfl
theorem cnt_cons (v y : Int) (ys : List Int) : cnt v (y :: ys) = cnt v ys + if y = v then 1 else 0 := by
  unfold cnt
  by_cases h : y = v
  · rw [List.filter_cons_of_pos (by simpa using h), if_pos h]; rfl
  · rw [List.filter_cons_of_neg (by simpa using h), if_neg h]; rfl
theorem cnt_snoc (v y : Int) (ys : List Int) : cnt v (ys ++ [y]) = cnt v ys + if y = v then 1 else 0 := by
  unfold cnt
  rw [List.filter_append, List.length_append]
  by_cases h : y = v
  · rw [List.filter_cons_of_pos (by simpa using h), if_pos h]; rfl
  · rw [List.filter_cons_of_neg (by simpa using h), if_neg h]; rfl
theorem cnt_take (v : Int) (ys : List Int) (k : Nat) (h : k < ys.length) : cnt v (ys.take (k + 1)) = cnt v (ys.take k) + if ys[k] = v then 1 else 0 := by
  rw [← List.take_append_getElem h, cnt_snoc]
theorem cnt_le (v : Int) (ys : List Int) : cnt v ys ≤ ys.length := List.length_filter_le _ _
theorem cnt_total {ys : List Int} (h : ∀ y, y ∈ ys → -1 ≤ y ∧ y ≤ 1) : cnt 1 ys + cnt (-1) ys + cnt 0 ys = ys.length := by
  induction ys with
  | nil => rfl
  | cons y ys ih =>
    have h1 := h y (by simp)
    have h2 := ih (fun z hz => h z (List.mem_cons_of_mem _ hz))
    rw [cnt_cons, cnt_cons, cnt_cons, List.length_cons]
    rcases (by omega : y = -1 ∨ y = 0 ∨ y = 1) with rfl | rfl | rfl
    · simp; omega
    · simp; omega
    · simp; omega
theorem cnt_neg (v : Int) (ys : List Int) : cnt v (ys.map (fun y => -y)) = cnt (-v) ys := by
  induction ys with
  | nil => rfl
  | cons y ys ih =>
    rw [List.map_cons, cnt_cons, cnt_cons, ih]
    by_cases h : y = -v
    · rw [if_pos h, if_pos (by omega)]
    · rw [if_neg h, if_neg (by omega)]

/-- a step of the checksum -/
def sstep (h b : Nat) : Nat := ((h ^^^ b) * 16777619) % 4294967296
theorem sstep_lt (h b : Nat) : sstep h b < 4294967296 := Nat.mod_lt _ (by decide)
theorem times_inj_gen {M P Q R a b : Nat} (h : P * Q = 1 + M * R) (ha : a < M) (hb : b < M) (e : a * P % M = b * P % M) : a = b := by
  have k : ∀ x : Nat, x < M → x * P % M * Q % M = x := by
    intro x hx
    rw [Nat.mod_mul_mod, Nat.mul_assoc, h, Nat.mul_add, Nat.mul_one, Nat.mul_left_comm, Nat.add_mul_mod_self_left, Nat.mod_eq_of_lt hx]
  rw [← k a ha, ← k b hb, e]
theorem times_inj {a b : Nat} (ha : a < 4294967296) (hb : b < 4294967296) (h : a * 16777619 % 4294967296 = b * 16777619 % 4294967296) : a = b :=
  times_inj_gen (Q := 899433627) (R := 3513497) (by decide) ha hb h
theorem xor_lt32 {a b : Nat} (ha : a < 4294967296) (hb : b < 4294967296) : a ^^^ b < 4294967296 := Nat.xor_lt_two_pow (n := 32) ha hb
theorem sstep_inj {h h' b : Nat} (hh : h < 4294967296) (hh' : h' < 4294967296) (hb : b < 4294967296) (e : sstep h b = sstep h' b) : h = h' := by
  have := times_inj (xor_lt32 hh hb) (xor_lt32 hh' hb) e
  have h2 : (h ^^^ b) ^^^ b = (h' ^^^ b) ^^^ b := by rw [this]
  rwa [Nat.xor_assoc, Nat.xor_assoc, Nat.xor_self, Nat.xor_zero, Nat.xor_zero] at h2
theorem sstep_inj2 {h b b' : Nat} (hh : h < 4294967296) (hb : b < 4294967296) (hb' : b' < 4294967296) (e : sstep h b = sstep h b') : b = b' := by
  have := times_inj (xor_lt32 hh hb) (xor_lt32 hh hb') e
  have h2 : h ^^^ (h ^^^ b) = h ^^^ (h ^^^ b') := by rw [this]
  rwa [← Nat.xor_assoc, ← Nat.xor_assoc, Nat.xor_self, Nat.zero_xor, Nat.zero_xor] at h2
/-- the checksum of rows -/
def sumF (h : Nat) (p : Nat × Int) : Nat := sstep (sstep h p.1) (p.2 + 2).toNat
def sumL (xs : List Nat) (ys : List Int) (h : Nat) : Nat := (xs.zip ys).foldl sumF h
def sum0 (xs : List Nat) (ys : List Int) : Nat := sumL xs ys 2166136261
theorem sumL_cons (x : Nat) (xs : List Nat) (y : Int) (ys : List Int) (h : Nat) : sumL (x :: xs) (y :: ys) h = sumL xs ys (sumF h (x, y)) := by
  unfold sumL; rw [List.zip_cons_cons, List.foldl_cons]
theorem sumF_eq (x : Nat) (y : Int) (h : Nat) : sumF h (x, y) = sstep (sstep h x) (y + 2).toNat := by unfold sumF; simp only
theorem sumF_lt (p : Nat × Int) (h : Nat) : sumF h p < 4294967296 := by unfold sumF; exact sstep_lt (sstep h p.1) (p.2 + 2).toNat
theorem sumL_nil (ys : List Int) (h : Nat) : sumL [] ys h = h := by unfold sumL; rw [List.zip_nil_left, List.foldl_nil]
theorem sumL_nil2 (xs : List Nat) (h : Nat) : sumL xs [] h = h := by unfold sumL; rw [List.zip_nil_right, List.foldl_nil]
theorem zip_take (xs : List Nat) (ys : List Int) (k : Nat) : (xs.take k).zip (ys.take k) = (xs.zip ys).take k := by
  induction k generalizing xs ys with
  | zero => simp
  | succ k ih =>
    cases xs with
    | nil => simp
    | cons x xs =>
      cases ys with
      | nil => simp
      | cons y ys => rw [List.take_succ_cons, List.take_succ_cons, List.zip_cons_cons, List.zip_cons_cons, List.take_succ_cons, ih]
theorem sum_take (xs : List Nat) (ys : List Int) (h k : Nat) (hx : k < xs.length) (hy : k < ys.length) : sumL (xs.take (k + 1)) (ys.take (k + 1)) h = sumF (sumL (xs.take k) (ys.take k) h) (xs[k], ys[k]) := by
  unfold sumL
  rw [zip_take, zip_take, ← List.take_append_getElem (by rw [List.length_zip]; omega), List.foldl_append, List.foldl_cons, List.foldl_nil, List.getElem_zip]
theorem sumL_inj {xs : List Nat} {ys : List Int} {h h' : Nat} (hx : ∀ x, x ∈ xs → x < 4294967296) (hy : ∀ y, y ∈ ys → -1 ≤ y ∧ y ≤ 2) (hh : h < 4294967296) (hh' : h' < 4294967296) (e : sumL xs ys h = sumL xs ys h') : h = h' := by
  induction xs generalizing ys h h' with
  | nil => rwa [sumL_nil, sumL_nil] at e
  | cons x xs ih =>
    cases ys with
    | nil => rwa [sumL_nil2, sumL_nil2] at e
    | cons y ys =>
      rw [sumL_cons, sumL_cons, sumF_eq, sumF_eq] at e
      have l1 := sstep_lt (sstep h x) (y + 2).toNat
      have l2 := sstep_lt (sstep h' x) (y + 2).toNat
      have h1 := ih (fun z hz => hx z (List.mem_cons_of_mem _ hz)) (fun z hz => hy z (List.mem_cons_of_mem _ hz)) l1 l2 e
      have hy' := hy y (by simp)
      have l3 := sstep_lt h x
      have l4 := sstep_lt h' x
      have h2 := sstep_inj l3 l4 (by omega) h1
      exact sstep_inj hh hh' (hx x (by simp)) h2
theorem sumL_lt {xs : List Nat} {ys : List Int} {h : Nat} (hh : h < 4294967296) : sumL xs ys h < 4294967296 := by
  induction xs generalizing ys h with
  | nil => rwa [sumL_nil]
  | cons x xs ih =>
    cases ys with
    | nil => rwa [sumL_nil2]
    | cons y ys =>
      rw [sumL_cons]
      have l1 := sumF_lt (x, y) h
      exact ih l1
/-- another first mark: another checksum -/
theorem sum_mark {xs : List Nat} {ys : List Int} {x : Nat} {y y' : Int} (hx : ∀ z, z ∈ x :: xs → z < 4294967296) (hy : ∀ z, z ∈ ys → -1 ≤ z ∧ z ≤ 2) (h1 : -1 ≤ y ∧ y ≤ 2) (h2 : -1 ≤ y' ∧ y' ≤ 2) (hne : y ≠ y') : sum0 (x :: xs) (y :: ys) ≠ sum0 (x :: xs) (y' :: ys) := by
  intro e
  unfold sum0 at e
  rw [sumL_cons, sumL_cons, sumF_eq, sumF_eq] at e
  generalize (2166136261 : Nat) = q at e
  have l1 := sstep_lt (sstep q x) (y + 2).toNat
  have l2 := sstep_lt (sstep q x) (y' + 2).toNat
  have h3 := sumL_inj (fun z hz => hx z (List.mem_cons_of_mem _ hz)) hy l1 l2 e
  have l3 := sstep_lt q x
  have h4 := sstep_inj2 l3 (by omega) (by omega) h3
  omega
/-- another first smooth value: another checksum -/
theorem sum_smooth {xs : List Nat} {ys : List Int} {x x' : Nat} {y : Int} (hx : ∀ z, z ∈ xs → z < 4294967296) (hy : ∀ z, z ∈ ys → -1 ≤ z ∧ z ≤ 2) (h0 : -1 ≤ y ∧ y ≤ 2) (h1 : x < 4294967296) (h2 : x' < 4294967296) (hne : x ≠ x') : sum0 (x :: xs) (y :: ys) ≠ sum0 (x' :: xs) (y :: ys) := by
  intro e
  unfold sum0 at e
  rw [sumL_cons, sumL_cons, sumF_eq, sumF_eq] at e
  have l0 : (2166136261 : Nat) < 4294967296 := by decide
  generalize (2166136261 : Nat) = q at e l0
  have l1 := sstep_lt (sstep q x) (y + 2).toNat
  have l2 := sstep_lt (sstep q x') (y + 2).toNat
  have h3 := sumL_inj hx hy l1 l2 e
  have l3 := sstep_lt q x
  have l4 := sstep_lt q x'
  have h4 := sstep_inj l3 l4 (by omega) h3
  exact hne (sstep_inj2 l0 h1 h2 h4)
end Go.Proofs.YtidbdokoonikpaaGreatDoor
end

section
/- Walks: the program's and the reference's TileCounts at a tile whose place is told. -/
namespace Go.Proofs.YtidbdokoonikpaaGreatDoor
open Go.RowKit

theorem cnt_round {ys : List Int} (hy : ∀ y, y ∈ ys → -1 ≤ y ∧ y ≤ 1) (k : Nat) (h : k < ys.length) :
    ∃ y : Int, (ys.map intV)[k]? = some (.int .i64 y) ∧
      ((y = 1 ∧ cnt 1 (ys.take (k + 1)) = cnt 1 (ys.take k) + 1 ∧ cnt (-1) (ys.take (k + 1)) = cnt (-1) (ys.take k) ∧ cnt 0 (ys.take (k + 1)) = cnt 0 (ys.take k)) ∨
       (y = -1 ∧ cnt 1 (ys.take (k + 1)) = cnt 1 (ys.take k) ∧ cnt (-1) (ys.take (k + 1)) = cnt (-1) (ys.take k) + 1 ∧ cnt 0 (ys.take (k + 1)) = cnt 0 (ys.take k)) ∨
       (y = 0 ∧ cnt 1 (ys.take (k + 1)) = cnt 1 (ys.take k) ∧ cnt (-1) (ys.take (k + 1)) = cnt (-1) (ys.take k) ∧ cnt 0 (ys.take (k + 1)) = cnt 0 (ys.take k) + 1)) := by
  have hb := hy _ (List.getElem_mem h)
  have t1 := cnt_take 1 ys k h
  have t2 := cnt_take (-1) ys k h
  have t3 := cnt_take 0 ys k h
  refine ⟨ys[k], by rw [List.getElem?_map, List.getElem?_eq_getElem h]; rfl, ?_⟩
  generalize ys[k] = y at *
  rcases (by omega : y = 1 ∨ y = -1 ∨ y = 0) with rfl | rfl | rfl
  · exact .inl ⟨rfl, t1, t2, t3⟩
  · exact .inr (.inl ⟨rfl, t1, t2, t3⟩)
  · exact .inr (.inr ⟨rfl, t1, t2, t3⟩)
def cntC (ys : List Int) (k : Nat) : Array Value := #[.int .i64 (cnt 1 (ys.take k)), .int .i64 (cnt (-1) (ys.take k)), .int .i64 (cnt 0 (ys.take k))]
theorem cntC_zero (ys : List Int) : cntC ys 0 = #[.int .i64 0, .int .i64 0, .int .i64 0] := rfl
theorem cnt_lim {ys : List Int} (k : Nat) (hl : ys.length ≤ 1048576) (v : Int) : (cnt v (ys.take k) : Int) ≤ 1048576 := by
  have := cnt_le v (ys.take k)
  simp at this
  omega
/-- one more mark is counted in the block b -/
theorem cnt_step {w W : World} {b : Nat} {ys : List Int} {T : TypeId} (k : Nat) (h : Box w b (cntC ys k) T W) (hb : w.heap.size ≤ b) :
    (∀ p q r : Nat, cnt 1 (ys.take k) = p → cnt (-1) (ys.take k) = q → cnt 0 (ys.take k) = r →
      (cnt 1 (ys.take (k + 1)) = p + 1 → cnt (-1) (ys.take (k + 1)) = q → cnt 0 (ys.take (k + 1)) = r → Box w b (cntC ys (k + 1)) T (W.setCell ⟨b, 0, none⟩ (.int .i64 (p + 1)))) ∧
      (cnt 1 (ys.take (k + 1)) = p → cnt (-1) (ys.take (k + 1)) = q + 1 → cnt 0 (ys.take (k + 1)) = r → Box w b (cntC ys (k + 1)) T (W.setCell ⟨b, 1, none⟩ (.int .i64 (q + 1)))) ∧
      (cnt 1 (ys.take (k + 1)) = p → cnt (-1) (ys.take (k + 1)) = q → cnt 0 (ys.take (k + 1)) = r + 1 → Box w b (cntC ys (k + 1)) T (W.setCell ⟨b, 2, none⟩ (.int .i64 (r + 1))))) := by
  rintro p q r rfl rfl rfl
  refine ⟨fun e1 e2 e3 => ?_, fun e1 e2 e3 => ?_, fun e1 e2 e3 => ?_⟩
  · have := h.set hb 0 (.int .i64 ((cnt 1 (ys.take k) : Int) + 1))
    unfold cntC at this ⊢
    rw [e1, e2, e3]
    exact this
  · have := h.set hb 1 (.int .i64 ((cnt (-1) (ys.take k) : Int) + 1))
    unfold cntC at this ⊢
    rw [e1, e2, e3]
    exact this
  · have := h.set hb 2 (.int .i64 ((cnt 0 (ys.take k) : Int) + 1))
    unfold cntC at this ⊢
    rw [e1, e2, e3]
    exact this
end Go.Proofs.YtidbdokoonikpaaGreatDoor
end

section
/- Walks of what the laws of tiles do with slices of ints. -/
namespace Go.Proofs.YtidbdokoonikpaaGreatDoor
open Go.RowKit

set_option maxHeartbeats 1000000 in
theorem sameInts_same (a b : Option Addr) (ca cb : Nat) (xs : List Int) (hn : xs.length ≤ 1048576) (w : World) (ha : Sl w a (xs.map intV)) (hb : Sl w b (xs.map intV)) :
    Calls Tryz.prog 39 #[.slice a xs.length ca, .slice b xs.length cb] w fun e w' => e = .returned (.bool true) ∧ Drw w w' := by
  obtain ⟨n, hnn⟩ : ∃ n, xs.length = n := ⟨_, rfl⟩
  have HX : Hid (∀ k, k < n → ∃ x, (xs.map intV)[k]? = some (.int .i64 x)) := fun k h => ⟨xs[k]'(by omega), by rw [List.getElem?_map, List.getElem?_eq_getElem (by omega)]; rfl⟩
  have HA := Lib.hid ha
  have HB := Lib.hid hb
  rw [hnn] at hn ⊢
  clear ha hb hnn
  go_enter Tryz.func39, Tryz.ntmps39
  go_wp2
  go_loopw [5] (fun i wr => ∃ k : Nat, k ≤ n ∧ i = .int .i64 k ∧ Hid (Drw w wr)) (fun i _ => (n - intOf i).toNat)
  case atStart => exact ⟨0, by omega, rfl, Drw.refl _⟩
  case round =>
    obtain ⟨k, hk, rfl, HD⟩ := hrel
    by_cases hlt : k < n
    · obtain ⟨x, hx⟩ := HX.out k hlt
      obtain ⟨b1, o1, rfl, hc1⟩ := (HA.out.drw HD.out).at hx
      obtain ⟨b2, o2, rfl, hc2⟩ := (HB.out.drw HD.out).at hx
      clear hx
      go_upto_region 6 with fail
      go_quiet (fail)
      have HD2 := Lib.hid (HD.out.drewN nq)
      go_wp2
      go_roundw
      case rel => exact ⟨k + 1, by omega, by go_num, HD2⟩
      case measure => simp [intOf]; omega
    · go_wp2
      go_ret
      exact ⟨rfl, HD.out⟩
theorem wellB_neg {size : Int} {n : Nat} {ys : List Int} (h : wellB size n ys = true) : wellB size n (ys.map (fun y => -y)) = true := by
  obtain ⟨h1, h2, h3⟩ := wellB_all h
  refine wellB_ok h1 (by rw [List.length_map]; exact h2) (fun j hj => ?_)
  rw [List.getElem_map]
  have := h3 _ (List.getElem_mem (by simpa using hj : j < ys.length))
  unfold markB inB
  simp
  omega
theorem neg_take (ys : List Int) (k : Nat) (h : k < ys.length) : (ys.take (k + 1)).map (fun y => -y) = (ys.take k).map (fun y => -y) ++ [-ys[k]] := by
  rw [← List.take_append_getElem h, List.map_append]; rfl
theorem map_intV (ys : List Int) (z : Int) : (ys ++ [z]).map intV = ys.map intV ++ [intV z] := by rw [List.map_append]; rfl
end Go.Proofs.YtidbdokoonikpaaGreatDoor
end

section
/- Draws: a tile and a cell. -/
namespace Go.Proofs.YtidbdokoonikpaaGreatDoor
open Go.RowKit

attribute [local go_sem] run_store_float run_store_complex

theorem Box.other5 {w0 W : World} {b : Nat} {C : Array Value} {T : TypeId} (h : Box w0 b C T W) {p : Nat} (hp : w0.heap.size ≤ p) (hne : b ≠ p) (u0 u1 u2 u3 u4 : Value) :
    Box w0 b C T (((((W.setCell ⟨p, 0, none⟩ u0).setCell ⟨p, 1, none⟩ u1).setCell ⟨p, 2, none⟩ u2).setCell ⟨p, 3, none⟩ u3).setCell ⟨p, 4, none⟩ u4) :=
  ((((h.other (p := ⟨p, 0, none⟩) hp hne u0).other (p := ⟨p, 1, none⟩) hp hne u1).other (p := ⟨p, 2, none⟩) hp hne u2).other (p := ⟨p, 3, none⟩) hp hne u3).other (p := ⟨p, 4, none⟩) hp hne u4
def DrawnTileP (w : World) (e : Ending) (w' : World) : Prop :=
  (∃ a1 c1 a2 c2 cx cy deep size xs ys row col, e = .returned (.tuple #[.agg #[.complex .f32 cx cy, .int .i64 deep, .int .i64 size, .slice a1 xs.length c1, .slice a2 ys.length c2], .int .i64 row, .int .i64 col]) ∧ -1 ≤ row ∧ row ≤ 4 ∧ 0 ≤ col ∧ col ≤ 3 ∧ TileV w.heap.size a1 c1 a2 c2 cx cy deep size xs ys w') ∧ Below w.heap.size w w'
end Go.Proofs.YtidbdokoonikpaaGreatDoor
end

section
/- Draws: two tiles. -/
namespace Go.Proofs.YtidbdokoonikpaaGreatDoor
open Go.RowKit

attribute [local go_sem] run_store_float run_store_complex

def DrawnTwo (w : World) (e : Ending) (w' : World) : Prop :=
  (∃ a1 c1 a2 c2 cx cy deep size xs ys a1' c1' a2' c2' cx' cy' deep' size' xs' ys', e = .returned (.tuple #[.agg #[.complex .f32 cx cy, .int .i64 deep, .int .i64 size, .slice a1 xs.length c1, .slice a2 ys.length c2], .agg #[.complex .f32 cx' cy', .int .i64 deep', .int .i64 size', .slice a1' xs'.length c1', .slice a2' ys'.length c2']]) ∧ TileV w.heap.size a1 c1 a2 c2 cx cy deep size xs ys w' ∧ TileV w.heap.size a1' c1' a2' c2' cx' cy' deep' size' xs' ys' w') ∧ Below w.heap.size w w'
abbrev ZT : Obj := .cells #[.complex .f32 0 0, .int .i64 0, .int .i64 0, .slice none 0 0, .slice none 0 0] 27
end Go.Proofs.YtidbdokoonikpaaGreatDoor
end

section
/- Plain: the hexadecimal digits of a word of 32 bits. -/
namespace Go.Proofs.YtidbdokoonikpaaGreatDoor
/-- the digits -/
def hexL : List UInt8 := [48, 49, 50, 51, 52, 53, 54, 55, 56, 57, 97, 98, 99, 100, 101, 102]
theorem hexL_length : hexL.length = 16 := rfl
def hexD (d : Nat) : UInt8 := hexL.getD d 0
/-- digit number j, from the highest on -/
def hexAt (n j : Nat) : Nat := n / 2 ^ (4 * (7 - j)) % 16
theorem hexAt_lt (n j : Nat) : hexAt n j < 16 := Nat.mod_lt _ (by omega)
/-- the first j digits -/
def wordTo (n : Nat) : Nat → List UInt8
  | 0 => []
  | j + 1 => wordTo n j ++ [hexD (hexAt n j)]
def wordL (n : Nat) : List UInt8 := wordTo n 8
theorem wordTo_length (n j : Nat) : (wordTo n j).length = j := by
  induction j with
  | zero => rfl
  | succ j ih => simp [wordTo, ih]
theorem hexL_extract (d : Nat) (h : d < 16) : (⟨hexL.toArray⟩ : ByteArray).extract d (d + 1) = ⟨#[hexD d]⟩ := by
  have : ∀ d : Fin 16, (⟨hexL.toArray⟩ : ByteArray).extract d (d + 1) = ⟨#[hexD d]⟩ := by decide +kernel
  exact this ⟨d, h⟩
theorem hexAt_walk (n j : Nat) (h : n < 4294967296) : bits BinOp.and IntKind.u32 ((n : Int) / 2 ^ (4 * (7 - j))) 15 = ((hexAt n j : Nat) : Int) := by
  have e : (n : Int) / 2 ^ (4 * (7 - j)) = ((n / 2 ^ (4 * (7 - j)) : Nat) : Int) := by simp
  have hl : n / 2 ^ (4 * (7 - j)) ≤ n := Nat.div_le_self _ _
  rw [e, show (15 : Int) = ((15 : Nat) : Int) from rfl, u32_and_nat _ _ (by omega) (by omega)]
  rw [Nat.and_two_pow_sub_one_eq_mod _ 4]; rfl
/-- the cells of the array behind j rounds -/
def wordCells (n j : Nat) : Array Value := ((wordTo n j ++ List.replicate (8 - j) 0).map fun b : UInt8 => Value.int .u8 b.toNat).toArray
theorem wordCells_size (n j : Nat) (h : j ≤ 8) : (wordCells n j).size = 8 := by
  simp [wordCells, wordTo_length]; omega
theorem wordCells_set (n j : Nat) (h : j < 8) : (wordCells n j).setIfInBounds j (.int .u8 (hexD (hexAt n j)).toNat) = wordCells n (j + 1) := by
  apply Array.toList_inj.1
  simp only [wordCells, Array.toList_setIfInBounds]
  have e : List.replicate (8 - j) (0 : UInt8) = 0 :: List.replicate (8 - (j + 1)) 0 := by
    rw [show 8 - j = (8 - (j + 1)) + 1 by omega]; rfl
  rw [e, wordTo]
  have hl := wordTo_length n j
  rw [List.map_append, List.set_append_right _ _ (by simp [hl])]
  simp [hl]
theorem wordCells_zero (n : Nat) : wordCells n 0 = #[.int .u8 0, .int .u8 0, .int .u8 0, .int .u8 0, .int .u8 0, .int .u8 0, .int .u8 0, .int .u8 0] := rfl
theorem wordCells_cell (n j : Nat) (h : j < 8) : (wordCells n 8)[j]? = some (.int .u8 ((wordL n)[j]'(by rw [wordL, wordTo_length]; exact h)).toNat) := by
  have hl := wordTo_length n 8
  simp [wordCells, wordL, List.getElem?_eq_getElem (show j < (wordTo n 8).length by omega)]
theorem wordL_length (n : Nat) : (wordL n).length = 8 := wordTo_length n 8
theorem hex_get (d : Nat) (h : d < (⟨#[48, 49, 50, 51, 52, 53, 54, 55, 56, 57, 97, 98, 99, 100, 101, 102]⟩ : ByteArray).size) : (⟨#[48, 49, 50, 51, 52, 53, 54, 55, 56, 57, 97, 98, 99, 100, 101, 102]⟩ : ByteArray)[d] = hexD d := by
  have hd : d < 16 := h
  have : ∀ d : Fin 16, (⟨#[48, 49, 50, 51, 52, 53, 54, 55, 56, 57, 97, 98, 99, 100, 101, 102]⟩ : ByteArray)[d.val]'d.isLt = hexD d := by decide +kernel
  exact this ⟨d, hd⟩
/-- the digit that a byte is -/
def hexV (c : UInt8) : Option Nat := hexL.idxOf? c
/-- the first j digits' number; none: one of them is no digit -/
def readTo (l : List UInt8) : Nat → Option Nat
  | 0 => some 0
  | j + 1 => (readTo l j).bind fun n => (hexV (l.getD j 0)).map fun d => n * 16 + d
/-- what a word reads as -/
def wordR (l : List UInt8) : Option Nat := if l.length = 8 then readTo l 8 else none
theorem hexV_some {c : UInt8} {m : Nat} (hm : m < 16) (hne : ∀ i, i < m → hexL.getD i 0 ≠ c) (he : hexL.getD m 0 = c) : hexV c = some m := by
  subst he
  revert hne
  have : ∀ m : Fin 16, (hexV (hexL.getD m 0) = some m.val) := by decide +kernel
  intro _
  exact this ⟨m, hm⟩
theorem hexV_none {c : UInt8} (hne : ∀ i, i < 16 → hexL.getD i 0 ≠ c) : hexV c = none := by
  unfold hexV
  rw [List.idxOf?_eq_none_iff]
  intro hc
  obtain ⟨i, hi, he⟩ := List.getElem_of_mem hc
  refine hne i (by simpa [hexL] using hi) ?_
  rw [List.getD_eq_getElem?_getD, List.getElem?_eq_getElem hi]
  simpa using he
theorem hexV_lt {c : UInt8} {d : Nat} (h : hexV c = some d) : d < 16 := by
  unfold hexV at h
  have := List.idxOf?_eq_some_iff.1 h
  obtain ⟨hd, _⟩ := this
  simpa [hexL] using hd
theorem readTo_lt {l : List UInt8} : ∀ {j n : Nat}, readTo l j = some n → n < 16 ^ j := by
  intro j
  induction j with
  | zero => intro n h; simp [readTo] at h; subst h; decide
  | succ j ih =>
    intro n h
    simp only [readTo] at h
    cases hj : readTo l j with
    | none => rw [hj] at h; simp at h
    | some a =>
      rw [hj] at h
      cases hd : hexV (l.getD j 0) with
      | none => simp only [hd, Option.bind_some, Option.map_none] at h; cases h
      | some d =>
        have h1 := ih hj
        have h2 := hexV_lt hd
        simp only [hd, Option.bind_some, Option.map_some, Option.some.injEq] at h
        subst h
        rw [Nat.pow_succ]
        omega
theorem readTo_none_le {l : List UInt8} {j k : Nat} (h : readTo l j = none) (hk : j ≤ k) : readTo l k = none := by
  induction k with
  | zero => obtain rfl : j = 0 := by omega
            exact h
  | succ k ih =>
    by_cases e : j = k + 1
    · subst e; exact h
    · simp [readTo, ih (by omega)]
theorem wordR_lt {l : List UInt8} {n : Nat} (h : wordR l = some n) : n < 4294967296 := by
  unfold wordR at h
  split at h
  · exact readTo_lt h
  · cases h
theorem indexByte_eq (l : List UInt8) (c : UInt8) : Lib.indexByte l c = match l.idxOf? c with | some d => (d : Int) | none => -1 := by
  induction l with
  | nil => rfl
  | cons b l ih =>
    unfold Lib.indexByte
    rw [List.idxOf?_cons]
    by_cases h : b == c
    · simp [h]
    · simp only [h, Bool.false_eq_true, if_false]
      rw [ih]
      cases hl : l.idxOf? c with
      | none => simp
      | some d => simp
theorem hexV_index (c : UInt8) : Lib.indexByte hexL c = match hexV c with | some d => (d : Int) | none => -1 := indexByte_eq hexL c
end Go.Proofs.YtidbdokoonikpaaGreatDoor
end
