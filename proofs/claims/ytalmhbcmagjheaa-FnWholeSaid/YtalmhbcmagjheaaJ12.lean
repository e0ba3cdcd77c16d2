/- Merged texts: JoiA, JoiB, TrdF, JoiC, QuiK. -/
import Derived.Test.YtalmhbcmagjheaaJ7
import Derived.Test.YtalmhbcmagjheaaJ9
import Derived.Test.YtalmhbcmagjheaaJ11
import Derived.Test.YtalmhbcmagjheaaJ3
import Derived.Deep.RegionHeld3
import Derived.Test.YtalmhbcmagjheaaJ10
import Derived.Test.YtalmhbcmagjheaaJ1
import Derived.BigQuiet
section
/- Words for slices of tiles that are read. -/
namespace Go.Proofs.Ytalmhbcmagjheaa
open Go.RowKit Flo

/-- a tile as data, and where its rows lie -/
structure JT where
  cx : Nat
  cy : Nat
  deep : Int
  size : Int
  a1 : Option Addr
  c1 : Nat
  a2 : Option Addr
  c2 : Nat
  xs : List Nat
  ys : List Int
def JT.cells (t : JT) : List Value := [.complex .f32 t.cx t.cy, .int .i64 t.deep, .int .i64 t.size, .slice t.a1 t.xs.length t.c1, .slice t.a2 t.ys.length t.c2]
def JT.val (t : JT) : Value := .agg #[.complex .f32 t.cx t.cy, .int .i64 t.deep, .int .i64 t.size, .slice t.a1 t.xs.length t.c1, .slice t.a2 t.ys.length t.c2]
/-- its rows are readable -/
def JT.Ok (t : JT) (B : Nat) (W : World) : Prop := TileV B t.a1 t.c1 t.a2 t.c2 t.cx t.cy t.deep t.size t.xs t.ys W
/-- a list of tiles lies in the block g -/
structure JIn (B g : Nat) (L : List JT) (W : World) : Prop where
  cell : ∀ (k j : Nat) (t : JT) (v : Value), L[k]? = some t → t.cells[j]? = some v → W.cell? ⟨g, k * 5 + j, none⟩ = some v
  own : ∀ t, t ∈ L → t.Ok B W
theorem JIn.cells5 {B g : Nat} {L : List JT} {W : World} (h : JIn B g L W) {k : Nat} {t : JT} (ht : L[k]? = some t) :
    W.cell? ⟨g, k * 5, none⟩ = some (.complex .f32 t.cx t.cy) ∧ W.cell? ⟨g, k * 5 + 1, none⟩ = some (.int .i64 t.deep) ∧ W.cell? ⟨g, k * 5 + 2, none⟩ = some (.int .i64 t.size) ∧ W.cell? ⟨g, k * 5 + 3, none⟩ = some (.slice t.a1 t.xs.length t.c1) ∧ W.cell? ⟨g, k * 5 + 4, none⟩ = some (.slice t.a2 t.ys.length t.c2) :=
  ⟨h.cell k 0 t _ ht rfl, h.cell k 1 t _ ht rfl, h.cell k 2 t _ ht rfl, h.cell k 3 t _ ht rfl, h.cell k 4 t _ ht rfl⟩
theorem JIn.step {B g : Nat} {L : List JT} {W W' : World} (h : JIn B g L W) (k : Below W.heap.size W W') : JIn B g L W' :=
  ⟨fun i j t v ht hv => by
    have h1 := h.cell i j t v ht hv
    exact (k.cell (p := ⟨g, i * 5 + j, none⟩) (World.block_lt_of_cell? W _ h1)).trans h1, fun t ht => TileV.step (h.own t ht) k⟩
theorem JIn.alloc {B g : Nat} {L : List JT} {W : World} (h : JIn B g L W) (o : Obj) : JIn B g L (W.alloc o) := h.step ((Below.refl _ _).alloc (Nat.le_refl _) o)
theorem JIn.drw {B g : Nat} {L : List JT} {W W' : World} (h : JIn B g L W) (k : Drw W W') : JIn B g L W' := h.step (k.below _)
theorem JIn.lt {B g : Nat} {L : List JT} {W : World} (h : JIn B g L W) (hl : 0 < L.length) : g < W.heap.size := by
  obtain ⟨r0, -⟩ := h.cells5 (k := 0) (List.getElem?_eq_getElem hl)
  exact World.block_lt_of_cell? W ⟨g, 0 * 5, none⟩ r0
/-- a tile of the call's own, as data -/
def JT.of (t : TRec) : JT := ⟨t.cx, t.cy, t.deep, t.size, some ⟨t.gs, 0, none⟩, t.cs, some ⟨t.gm, 0, none⟩, t.cm, t.xs, t.ys⟩
theorem TOwn.lens {B : Nat} {t : TRec} {W : World} (h : TOwn B t W) : t.xs.length = t.n ∧ t.ys.length = t.n := ⟨h.made.lx, h.made.ly⟩
theorem TOwn.cells_of {B : Nat} {t : TRec} {W : World} (h : TOwn B t W) : (JT.of t).cells = t.cells := by
  obtain ⟨h1, h2⟩ := h.lens
  unfold JT.cells JT.of TRec.cells
  dsimp only
  rw [h1, h2]
theorem TOwn.ok {B : Nat} {t : TRec} {W : World} (h : TOwn B t W) : (JT.of t).Ok B W := by
  obtain ⟨h1, h2⟩ := h.lens
  have b1 := own_ge h.made.S
  have b2 := own_ge h.made.M
  exact ⟨sl_of_own h.made.S, sl_of_own h.made.M, by show t.xs.length ≤ t.cs; rw [h1]; exact h.ks, by show t.ys.length ≤ t.cm; rw [h2]; exact h.km, fun g o s e => by injection e with e; injection e with e; omega, fun g o s e => by injection e with e; injection e with e; omega, h.made.hx, fun y hy => by have := h.made.hy y hy; omega, h.bx, h.by1, h.pl, h2, .inl (h1.trans h2.symm)⟩
theorem cellsL_at : ∀ (L : List TRec) (k j : Nat) (t : TRec) (v : Value), L[k]? = some t → t.cells[j]? = some v → (cellsL L)[k * 5 + j]? = some v
  | [], k, j, t, v, h, _ => by simp at h
  | u :: L, 0, j, t, v, h, hv => by
    have e : u = t := by simpa using h
    subst e
    show (u.cells ++ cellsL L)[0 * 5 + j]? = _
    have hj : j < 5 := (List.getElem?_eq_some_iff.1 hv).1
    rw [List.getElem?_append_left (by show 0 * 5 + j < 5; omega), Nat.zero_mul, Nat.zero_add]
    exact hv
  | u :: L, k + 1, j, t, v, h, hv => by
    show (u.cells ++ cellsL L)[(k + 1) * 5 + j]? = _
    rw [List.getElem?_append_right (by show 5 ≤ (k + 1) * 5 + j; omega)]
    show (cellsL L)[(k + 1) * 5 + j - 5]? = _
    rw [show (k + 1) * 5 + j - 5 = k * 5 + j by omega]
    exact cellsL_at L k j t v (by simpa using h) hv
theorem TList.jin {B : Nat} {L : List TRec} {g cap : Nat} {W : World} (h : TList B L (.slice (some ⟨g, 0, none⟩) L.length cap) W) : JIn B g (L.map JT.of) W := by
  refine ⟨fun k j t v ht hv => ?_, fun t ht => ?_⟩
  · rw [List.getElem?_map] at ht
    obtain ⟨u, hu, rfl⟩ := Option.map_eq_some_iff.1 ht
    have hm := List.mem_of_getElem? hu
    rw [(h.own u hm).cells_of] at hv
    have hk : k < L.length := (List.getElem?_eq_some_iff.1 hu).1
    have hj : j < 5 := (List.getElem?_eq_some_iff.1 hv).1
    rw [h.row.cellAt (k * 5 + j) (by omega)]
    exact cellsL_at L k j u v hu hv
  · obtain ⟨u, hu, rfl⟩ := List.mem_map.1 ht
    exact (h.own u hu).ok
end Go.Proofs.Ytalmhbcmagjheaa
end

section
/- Walks: the corners of the four tiles of a tile, where the place is told one step finer. -/
namespace Go.Proofs.Ytalmhbcmagjheaa
open Go.RowKit Flo
attribute [local go_sem] run_store_float run_store_complex

def QuartOk (cx cy d : Nat) (s : Int) : Prop :=
  floatBits .mul .f32 (floatOfInt .f32 s) (sideF (d + 1)) = some (farF d s) ∧ floatBits .add .f32 cx (farF d s) = some (addF cx (farF d s)) ∧ floatBits .add .f32 cy (farF d s) = some (addF cy (farF d s)) ∧ floatBits .add .f32 cx 0 = some (addF cx 0) ∧ floatBits .add .f32 cy 0 = some (addF cy 0)
theorem quart_ok {cx cy d : Nat} {A B s : Int} (hd : d ≤ 10) (hx : Pt cx (d + 1) A) (hy : Pt cy (d + 1) B) (hA : A.natAbs ≤ 16384) (hB : B.natAbs ≤ 16384) (hs : s.natAbs ≤ 100) : QuartOk cx cy d s := by
  have f := farF_is (s := s) hd (by omega)
  have z := pt_zero (d + 1)
  have h1 := addF_is (by omega) hx f.2 (by omega)
  have h2 := addF_is (by omega) hy f.2 (by omega)
  have h3 := addF_is (by omega) hx z (by omega)
  have h4 := addF_is (by omega) hy z (by omega)
  exact ⟨f.1, h1.1, h2.1, h3.1, h4.1⟩
set_option maxRecDepth 100000 in
set_option maxHeartbeats 1000000 in
theorem l7Corners_ok (cx cy d : Nat) (s : Int) (hd : d ≤ 10) (hq : QuartOk cx cy d s) (ua ub : Option Addr) (un uc vn vc : Nat) (w : World) :
    Calls Try.prog 40 #[.agg #[.complex .f32 cx cy, .int .i64 d, .int .i64 s, .slice ua un uc, .slice ub vn vc]] w fun e w' => ∃ b, e = .returned (.slice (some ⟨b, 0, none⟩) 4 4) ∧ w.heap.size ≤ b ∧ Box w b (quartC cx cy d s) 34 w' := by
  obtain ⟨h1, h2, h3, h4, h5⟩ := hq
  have R := Box.new w #[.complex .f32 cx cy, .int .i64 d, .int .i64 s, .slice ua un uc, .slice ub vn vc] 37
  have g0 := fun w => run_float_arith (P := Try.prog) w .mul 41 .f32 _ _ _ h1
  have g1 := fun w => run_complex_sum (P := Try.prog) w .add (.inl rfl) 34 .f32 cx cy (farF d s) 0 _ _ (by unfold cSumBits; rw [h2, h5]; rfl)
  have g2 := fun w => run_complex_sum (P := Try.prog) w .add (.inl rfl) 34 .f32 cx cy 0 (farF d s) _ _ (by unfold cSumBits; rw [h4, h3]; rfl)
  have g3 := fun w => run_complex_sum (P := Try.prog) w .add (.inl rfl) 34 .f32 cx cy (farF d s) (farF d s) _ _ (by unfold cSumBits; rw [h2, h3]; rfl)
  have HS : Hid (∀ w, Calls Try.prog 54 #[.int .i64 ((d : Int) + 1)] w fun e w' => e = .returned (.float .f32 (sideF (d + 1))) ∧ w = w') := fun w => l7Side_is (d + 1) (by omega) w
  unfold quartC
  clear h1 h2 h3 h4 h5
  generalize addF cx (farF d s) = x1 at *
  generalize addF cy (farF d s) = y1 at *
  generalize addF cx 0 = x0 at *
  generalize addF cy 0 = y0 at *
  generalize farF d s = f at *
  generalize sideF (d + 1) = sd at *
  obtain ⟨r0, r1, r2, r3, r4⟩ := R.cells5
  have e1 : IntKind.i64.wrap ((d : Int) + 1) = (d : Int) + 1 := IntWalk.i64_in _ (by omega)
  go_enter Try.func40, Try.ntmps40
  go_upto_region 1 with fail
  go_quiet ((go_at_call 54; exact quiet_eq (HS.out _)))
  clear e1
  have R2 := R.step ((Drw.refl _).drewN nq |>.below _)
  obtain ⟨t0, t1, t2, t3, t4⟩ := R2.cells5
  have HB := Lib.hid R2.old
  have hsz := R2.old.size
  clear R R2
  have X := (Box.new ((w.alloc (.cells #[.complex .f32 cx cy, .int .i64 d, .int .i64 s, .slice ua un uc, .slice ub vn vc] 37)).drewN nq) #[.complex .f32 cx cy, .complex .f32 x1 y0, .complex .f32 x0 y1, .complex .f32 x1 y1] 34).up HB.out
  rw [show ((w.alloc (.cells #[.complex .f32 cx cy, .int .i64 d, .int .i64 s, .slice ua un uc, .slice ub vn vc] 37)).drewN nq).heap.size = w.heap.size + 1 by simp] at X
  have HX := Lib.hid X
  clear X
  go_wp2
  go_ret
  exact ⟨w.heap.size + 1, rfl, by omega, HX.out⟩
set_option maxRecDepth 100000 in
set_option maxHeartbeats 1000000 in
theorem quarterCorners_ok (cx cy d : Nat) (s : Int) (hd : d ≤ 10) (hq : QuartOk cx cy d s) (w : World) :
    Calls Try.prog 41 #[.complex .f32 cx cy, .int .i64 d, .int .i64 s] w fun e w' => e = .returned (.agg (quartC cx cy d s)) ∧ Below w.heap.size w w' := by
  obtain ⟨h1, h2, h3, h4, h5⟩ := hq
  have R := Box.new w #[.complex .f32 0 0, .complex .f32 0 0, .complex .f32 0 0, .complex .f32 0 0] 80
  have g0 := fun w => run_float_arith (P := Try.prog) w .mul 41 .f32 _ _ _ h1
  have g1 := fun w => run_complex_sum (P := Try.prog) w .add (.inl rfl) 34 .f32 cx cy (farF d s) 0 _ _ (by unfold cSumBits; rw [h2, h5]; rfl)
  have g2 := fun w => run_complex_sum (P := Try.prog) w .add (.inl rfl) 34 .f32 cx cy 0 (farF d s) _ _ (by unfold cSumBits; rw [h4, h3]; rfl)
  have g3 := fun w => run_complex_sum (P := Try.prog) w .add (.inl rfl) 34 .f32 cx cy (farF d s) (farF d s) _ _ (by unfold cSumBits; rw [h2, h3]; rfl)
  have HS : Hid (∀ w, Calls Try.prog 55 #[.int .i64 ((d : Int) + 1)] w fun e w' => e = .returned (.float .f32 (sideF (d + 1))) ∧ w = w') := fun w => sideOf_is (d + 1) (by omega) w
  unfold quartC
  clear h1 h2 h3 h4 h5
  generalize addF cx (farF d s) = x1 at *
  generalize addF cy (farF d s) = y1 at *
  generalize addF cx 0 = x0 at *
  generalize addF cy 0 = y0 at *
  generalize farF d s = f at *
  generalize sideF (d + 1) = sd at *
  have e1 : IntKind.i64.wrap ((d : Int) + 1) = (d : Int) + 1 := IntWalk.i64_in _ (by omega)
  clear R
  go_enter Try.func41, Try.ntmps41
  go_wp2_with (go_at_call 55; refine (HS.out _).mono ?_; rintro e w' ⟨rfl, rfl⟩)
  exact bodyPost_ret (v := .agg #[.complex .f32 cx cy, .complex .f32 x1 y0, .complex .f32 x0 y1, .complex .f32 x1 y1]) (by simp [results, Try.f41, go_sem]) rfl ⟨rfl, (Below.refl _ _).alloc (Nat.le_refl _) _⟩
end Go.Proofs.Ytalmhbcmagjheaa
end

section
/- Walks: the program's placeWell at whatever place. -/
namespace Go.Proofs.Ytalmhbcmagjheaa
open Go.RowKit

theorem order_flip (f : Ieee.Format) (x y : Nat) : f.order y x = (f.order x y).map Ordering.swap := by
  unfold Ieee.Format.order
  cases f.read x with
  | nan s t => cases f.read y <;> rfl
  | infinity s =>
    cases f.read y with
    | nan => rfl
    | infinity t => cases s <;> cases t <;> rfl
    | number => cases s <;> rfl
  | number s m i =>
    cases f.read y with
    | nan => rfl
    | infinity t => cases t <;> rfl
    | number t n j =>
      simp only [Ieee.Datum.order, Option.map_some, Option.some.injEq]
      rw [Int.min_comm j i]
      exact Std.OrientedCmp.eq_swap
theorem flip_ge (f : Ieee.Format) (x y : Nat) : (f.order y x == some .lt || f.order y x == some .eq) = (f.order x y == some .gt || f.order x y == some .eq) := by
  rw [order_flip f x y]
  cases f.order x y with
  | none => rfl
  | some o => cases o <;> rfl
theorem cut_le (s : Bool) (n drop : Nat) : Ieee.Toward.down.cut s n drop ≤ n / 2 ^ drop + 1 := by
  have h := Flo.cut_zero s n drop
  unfold Ieee.Toward.cut at h ⊢
  simp only [Bool.toNat_false, Nat.add_zero] at h
  simp only [h]
  have : ∀ b : Bool, b.toNat ≤ 1 := by decide
  have := this (s && n % (1 <<< min drop (n.log2 + 2)) != 0)
  omega
theorem floor_any {z : Nat} {v : Int} (hz : Flo.Val Ieee.double z v) (hb : v.natAbs ≤ 1048576 * 2 ^ Flo.u64) :
    ∃ (s : Bool) (m : Nat) (e B : Int), FloatKind.f64.decode z = .number s m e ∧ Flo.Val Ieee.double (FloatKind.f64.encode ((Ieee.Datum.number s m e).integral .down)) (B * (2 ^ Flo.u64 : Nat)) := by
  have hd := Flo.val_digits hz
  obtain ⟨K, hK, hK2⟩ : ∃ K, Ieee.Toward.down.cut (Flo.sgn Ieee.double z) (Flo.rm Ieee.double (Flo.rung Ieee.double z) <<< (Ieee.double.leastPlace + Flo.re Ieee.double (Flo.rung Ieee.double z)).toNat) (-(Ieee.double.leastPlace + (Flo.re Ieee.double (Flo.rung Ieee.double z) : Int))).toNat = K ∧ K ≤ 1048577 := by
    refine ⟨_, rfl, ?_⟩
    refine Nat.le_trans (cut_le _ _ _) ?_
    rw [Flo.least64]
    rw [hd] at hb
    generalize Flo.re Ieee.double (Flo.rung Ieee.double z) = e at *
    generalize Flo.rm Ieee.double (Flo.rung Ieee.double z) = m at *
    rcases Nat.le_total Flo.u64 e with h | h
    · obtain ⟨r, rfl⟩ : ∃ r, e = r + Flo.u64 := ⟨e - Flo.u64, by omega⟩
      have e1 : (-(Flo.u64 : Int) + ((r + Flo.u64 : Nat) : Int)).toNat = r := by omega
      have e2 : (-(-(Flo.u64 : Int) + ((r + Flo.u64 : Nat) : Int))).toNat = 0 := by omega
      rw [e1, e2, Nat.pow_zero, Nat.div_one, Nat.shiftLeft_eq]
      rw [Nat.pow_add, ← Nat.mul_assoc] at hb
      have := Nat.le_of_mul_le_mul_right hb (Nat.two_pow_pos Flo.u64)
      omega
    · obtain ⟨r, hr⟩ : ∃ r, Flo.u64 = r + e := ⟨Flo.u64 - e, by omega⟩
      have e1 : (-(Flo.u64 : Int) + (e : Int)).toNat = 0 := by omega
      have e2 : (-(-(Flo.u64 : Int) + (e : Int))).toNat = r := by omega
      rw [e1, e2, Nat.shiftLeft_zero]
      rw [hr, Nat.pow_add, ← Nat.mul_assoc] at hb
      have h1 := Nat.le_of_mul_le_mul_right hb (Nat.two_pow_pos e)
      have h2 : m / 2 ^ r ≤ 1048576 := Nat.div_le_of_le_mul (by rw [Nat.mul_comm]; exact h1)
      omega
  refine ⟨_, _, _, if Flo.sgn Ieee.double z then -(K : Int) else K, Flo.read_fin hz.fin, ?_⟩
  show Flo.Val Ieee.double (Ieee.double.nearest (Flo.sgn Ieee.double z) (Ieee.Toward.down.cut (Flo.sgn Ieee.double z) (Flo.rm Ieee.double (Flo.rung Ieee.double z) <<< (Ieee.double.leastPlace + Flo.re Ieee.double (Flo.rung Ieee.double z)).toNat) (-(Ieee.double.leastPlace + (Flo.re Ieee.double (Flo.rung Ieee.double z) : Int))).toNat) 0) _
  rw [hK]
  generalize Flo.sgn Ieee.double z = s at *
  have hna : ((if s then -(K : Int) else K) * ((2 ^ Flo.u64 : Nat) : Int)).natAbs = K * 2 ^ Flo.u64 := by
    rw [Int.natAbs_mul, Int.natAbs_natCast]
    cases s <;> simp
  have hpos : (0 : Int) < ((2 ^ Flo.u64 : Nat) : Int) := by have := Nat.two_pow_pos Flo.u64; omega
  refine Flo.nearest_val (a := Flo.u64) (b := 0) (Flo.rep_gen (m := K) (e := Flo.u64) hna (by rw [Flo.double_binade]; omega) ?_) (by rw [Flo.least64]; omega) (by rw [hna, Nat.pow_zero, Nat.mul_one]) (fun hneg => ?_) (fun hp => ?_)
  · rw [Flo.double_inf, Flo.u64_eq]; exact Nat.mul_le_mul_right _ (by omega)
  · cases s
    · exfalso
      have : (0 : Int) ≤ (K : Int) * ((2 ^ Flo.u64 : Nat) : Int) := Int.mul_nonneg (by omega) (by omega)
      simp only [Bool.false_eq_true, if_false] at hneg
      omega
    · rfl
  · cases s
    · rfl
    · exfalso
      have : (0 : Int) ≤ (K : Int) * ((2 ^ Flo.u64 : Nat) : Int) := Int.mul_nonneg (by omega) (by omega)
      simp only [if_true, Int.neg_mul] at hp
      omega
set_option maxRecDepth 100000 in
theorem mathFloor_any (z : Nat) (v : Int) (hz : Flo.Val Ieee.double z v) (hb : v.natAbs ≤ 1048576 * 2 ^ Flo.u64) (w : World) : Calls Try.prog 57 #[.float .f64 z] w fun e w' => (∃ (y : Nat) (B : Int), e = .returned (.float .f64 y) ∧ Flo.Val Ieee.double y (B * (2 ^ Flo.u64 : Nat))) ∧ w = w' := by
  obtain ⟨s, m, e, B, hd, hv⟩ := floor_any hz hb
  have hr : ∀ w, (callFunc 68 #[.float .f64 z]).run Try.prog w = .ok (.value (.float .f64 (FloatKind.f64.encode ((Ieee.Datum.number s m e).integral .down)))) w := fun w => by
    rw [archFloor_run, toIntegral_num z s m e hd]
    rfl
  have HV := Lib.hid hv
  generalize FloatKind.f64.encode ((Ieee.Datum.number s m e).integral .down) = y at *
  clear hz hb hv hd
  go_enter Try.func57, Try.ntmps57
  go_wp2
  go_ret
  exact ⟨⟨y, B, rfl, HV.out⟩, rfl⟩
set_option maxRecDepth 100000 in
set_option maxHeartbeats 1000000 in
theorem cornerWell_no (x d : Nat) (hx : x < 4294967296) (hd : d ≤ 11) (h : Flo.wholeB x d = false) (w : World) : Calls Try.prog 46 #[.float .f32 x, .int .i64 d] w fun e w' => e = .returned (.bool false) ∧ w = w' := by
  unfold Flo.wholeB at h
  cases hin : Flo.inFour x with
  | false =>
    unfold Flo.inFour at hin
    rw [← flip_ge] at hin
    cases t1 : (FloatKind.f32.format.order 3229614080 x == some .lt || FloatKind.f32.format.order 3229614080 x == some .eq) with
    | false =>
      clear h hin
      go_enter Try.func46, Try.ntmps46
      go_wp2
      go_ret
      exact ⟨rfl, rfl⟩
    | true =>
      rw [t1, Bool.true_and] at hin
      have t2 := hin
      clear h hin
      go_enter Try.func46, Try.ntmps46
      go_wp2
      go_ret
      exact ⟨rfl, rfl⟩
  | true =>
    rw [hin, Bool.true_and, decide_eq_false_iff_not] at h
    obtain ⟨hv, hb⟩ := Flo.inFour_val hx hin
    obtain ⟨v, hvv⟩ : ∃ v, Flo.iv Ieee.single x = v := ⟨_, rfl⟩
    rw [hvv] at hv hb h
    have hdp : 2 ^ d ≤ 2 ^ 11 := Nat.pow_le_pow_right (by omega) hd
    obtain ⟨y1, h1, v1⟩ := Flo.widen_val hv
    have hD : Flo.Val Ieee.double (floatOfInt .f64 ((2 ^ d : Nat) : Int)) (((2 ^ d : Nat) : Int) * (2 ^ Flo.u64 : Nat)) := Flo.ofInt_val (k := .f64) Flo.least64 _ (by rw [Int.natAbs_natCast]; show _ < 2 * Ieee.double.binade; rw [Flo.double_binade]; omega) (by show (Flo.u64 + 2) * Ieee.double.binade ≤ Ieee.double.infRung; rw [Flo.double_inf, Flo.u64_eq]; exact Nat.mul_le_mul_right _ (by omega))
    have hdg := Flo.val_digits hv
    have hre := Flo.re_lt (e := 254) hv.fin (by decide)
    have hrm := Flo.rm_lt Ieee.single (Flo.rung Ieee.single x)
    rw [Flo.single_binade] at hrm
    have hrep : Flo.Rep Ieee.double (v * (2 ^ Flo.wup : Nat) * (2 ^ d : Nat)) := by
      refine Flo.rep_gen (m := Flo.rm Ieee.single (Flo.rung Ieee.single x)) (e := Flo.re Ieee.single (Flo.rung Ieee.single x) + Flo.wup + d) ?_ (by rw [Flo.double_binade]; omega) ?_
      · rw [Int.natAbs_mul, Int.natAbs_mul, Int.natAbs_natCast, Int.natAbs_natCast, hdg, Nat.pow_add, Nat.pow_add]
        simp only [Nat.mul_assoc]
      · rw [Flo.double_inf, Flo.wup_eq]; exact Nat.mul_le_mul_right _ (by omega)
    have hc : v * (2 ^ Flo.wup : Nat) * (((2 ^ d : Nat) : Int) * (2 ^ Flo.u64 : Nat)) = v * (2 ^ Flo.wup : Nat) * (2 ^ d : Nat) * (2 ^ Flo.u64 : Nat) := by
      simp only [Int.mul_assoc]
    obtain ⟨y, hy, v2⟩ := Flo.mul_val (f := Ieee.double) (c := v * (2 ^ Flo.wup : Nat) * (2 ^ d : Nat)) Flo.least64 v1 hD hc hrep
    have hU : (2 ^ Flo.u64 : Nat) = 2 ^ Flo.u32 * 2 ^ Flo.wup := by rw [← Nat.pow_add]; congr 1
    have hV : (v * (2 ^ Flo.wup : Nat) * (2 ^ d : Nat)).natAbs ≤ 1048576 * 2 ^ Flo.u64 := by
      rw [Int.natAbs_mul, Int.natAbs_mul, Int.natAbs_natCast, Int.natAbs_natCast, hU]
      calc v.natAbs * 2 ^ Flo.wup * 2 ^ d ≤ (4 * 2 ^ Flo.u32) * 2 ^ Flo.wup * 2 ^ 11 := Nat.mul_le_mul (Nat.mul_le_mul_right _ hb) hdp
        _ = 8192 * (2 ^ Flo.u32 * 2 ^ Flo.wup) := by rw [Nat.mul_comm, ← Nat.mul_assoc, ← Nat.mul_assoc, Nat.mul_assoc]
        _ ≤ 1048576 * (2 ^ Flo.u32 * 2 ^ Flo.wup) := Nat.mul_le_mul_right _ (by omega)
    have hne : ∀ B : Int, v * (2 ^ Flo.wup : Nat) * (2 ^ d : Nat) ≠ B * (2 ^ Flo.u64 : Nat) := by
      intro B hB
      apply h
      rw [hU, Int.natCast_mul, ← Int.mul_assoc, Int.mul_right_comm v] at hB
      have hp : ((2 ^ Flo.wup : Nat) : Int) ≠ 0 := by have := Nat.two_pow_pos Flo.wup; omega
      have := Int.eq_of_mul_eq_mul_right hp hB
      rw [this]
      exact Int.mul_emod_left _ _
    have hF := Lib.hid (mathFloor_any y _ v2 hV)
    have hee : Hid (∀ (t : Nat) (B : Int), Flo.Val Ieee.double t (B * (2 ^ Flo.u64 : Nat)) → (FloatKind.f64.format.order y t == some .eq) = false) := fun t B ht => by rw [Flo.order_eq_val (k := .f64) v2 ht]; simpa using hne B
    obtain ⟨q, hq⟩ : ∃ q : Int, wrap64 (2 ^ d) = q := ⟨_, rfl⟩
    have hqd : ((2 ^ d : Nat) : Int) = q := by rw [← hq, wrap_pow d hd]
    rw [hqd] at hy
    have g1 := fun w => run_convert_float_float (P := Try.prog) w 41 67 .f32 .f64 _ _ (by kernel_rfl) Try.underlying67 h1
    have g2 := fun w => run_float_arith (P := Try.prog) w .mul 67 .f64 _ _ _ hy
    unfold Flo.inFour at hin
    rw [← flip_ge, Bool.and_eq_true] at hin
    obtain ⟨t1, t2⟩ := hin
    clear h hv hb hvv hdp h1 v1 hD hdg hre hrm hrep hc hy v2 hqd hx hU hV hne
    go_enter Try.func46, Try.ntmps46
    go_wp2_with (go_at_call 57; refine (hF.out _).mono ?_; rintro e w' ⟨⟨t, B, rfl, ht⟩, rfl⟩; have hte := hee.out t B ht; clear ht)
    go_ret
    exact ⟨rfl, rfl⟩
theorem cornerWell_is (x d : Nat) (hx : x < 4294967296) (hd : d ≤ 11) (w : World) : Calls Try.prog 46 #[.float .f32 x, .int .i64 d] w fun e w' => e = .returned (.bool (Flo.wholeB x d)) ∧ w = w' := by
  cases h : Flo.wholeB x d with
  | true => exact cornerWell_ok x d hx hd h w
  | false => exact cornerWell_no x d hx hd h w
set_option maxRecDepth 100000 in
set_option maxHeartbeats 1000000 in
theorem placeWell_is (cx cy : Nat) (deep size : Int) (hx : cx < 4294967296) (hy : cy < 4294967296) (w : World) : Calls Try.prog 36 #[.complex .f32 cx cy, .int .i64 deep, .int .i64 size] w fun e w' => e = .returned (.bool (placeB cx cy deep size)) ∧ w = w' := by
  by_cases hin : 0 ≤ deep ∧ deep ≤ 10 ∧ 1 ≤ size ∧ size ≤ 8
  · obtain ⟨d, rfl⟩ := Int.eq_ofNat_of_zero_le hin.1
    have hX := Lib.hid (cornerWell_is cx d hx (by omega))
    have hY := Lib.hid (cornerWell_is cy d hy (by omega))
    have HP : Hid (placeB cx cy d size = (Flo.wholeB cx d && Flo.wholeB cy d)) := by
      show _ = _
      unfold placeB inB
      rw [Int.toNat_natCast, decide_eq_true hin.1, decide_eq_true hin.2.1, decide_eq_true hin.2.2.1, decide_eq_true hin.2.2.2]
      rfl
    have a1 : decide ((d : Int) < 0) = false := by simp
    have a2 : decide (10 < (d : Int)) = false := by simp; omega
    have a3 : decide (size < 1) = false := by simp; omega
    have a4 : decide (8 < size) = false := by simp; omega
    rw [HP.out]
    generalize Flo.wholeB cx d = b1 at *
    generalize Flo.wholeB cy d = b2 at *
    clear HP hin
    cases b1 <;> cases b2
    all_goals
      go_enter Try.func36, Try.ntmps36
      go_wp2_with (first | (go_at_call 46; (with_reducible refine (hX.out _).mono ?_); rintro e w' ⟨rfl, rfl⟩) | (go_at_call 46; (with_reducible refine (hY.out _).mono ?_); rintro e w' ⟨rfl, rfl⟩))
      go_ret
      exact ⟨rfl, rfl⟩
  · have HP : Hid (placeB cx cy deep size = false) := by
      show _ = false
      cases h : placeB cx cy deep size with
      | false => rfl
      | true => exact absurd (placeB_bd h) (by omega)
    rw [HP.out]
    clear HP
    by_cases a1 : deep < 0
    · have a1 := decide_eq_true a1
      go_enter Try.func36, Try.ntmps36
      go_wp2
      go_ret
      exact ⟨rfl, rfl⟩
    · by_cases a2 : 10 < deep
      · have a1 := decide_eq_false a1
        have a2 := decide_eq_true a2
        go_enter Try.func36, Try.ntmps36
        go_wp2
        go_ret
        exact ⟨rfl, rfl⟩
      · by_cases a3 : size < 1
        · have a1 := decide_eq_false a1
          have a2 := decide_eq_false a2
          have a3 := decide_eq_true a3
          go_enter Try.func36, Try.ntmps36
          go_wp2
          go_ret
          exact ⟨rfl, rfl⟩
        · have a4 : 8 < size := by omega
          have a1 := decide_eq_false a1
          have a2 := decide_eq_false a2
          have a3 := decide_eq_false a3
          have a4 := decide_eq_true a4
          clear hin
          go_enter Try.func36, Try.ntmps36
          go_wp2
          go_ret
          exact ⟨rfl, rfl⟩
end Go.Proofs.Ytalmhbcmagjheaa
end

section
/- Walks: the program's quartersWell. -/
namespace Go.Proofs.Ytalmhbcmagjheaa
open Go.RowKit Flo
attribute [local go_sem] run_store_float run_store_complex

/-- a tile is well made, with the size and the depth of the first one -/
def gdB (t0 t : JT) : Bool := wellB t.size t.xs.length t.ys && decide (t.size = t0.size) && decide (t.deep = t0.deep) && !decide (t.deep = 0)
def eqcB (x y p q : Nat) : Bool := (FloatKind.f32.format.order x p == some .eq) && (FloatKind.f32.format.order y q == some .eq)
def corB (t0 : JT) (k : Nat) (t : JT) : Bool := eqcB t.cx t.cy (quart t0.cx t0.cy (t0.deep - 1).toNat t0.size k).1 (quart t0.cx t0.cy (t0.deep - 1).toNat t0.size k).2
/-- four tiles lie together, but for the place of the whole -/
structure Fit4 (L : List JT) (t0 : JT) : Prop where
  len : L.length = 4
  hd : L[0]? = some t0
  gd : ∀ (k : Nat) (t : JT), L[k]? = some t → gdB t0 t = true
  cor : ∀ (k : Nat) (t : JT), L[k]? = some t → corB t0 k t = true
def placeJ (t0 : JT) : Bool := placeB t0.cx t0.cy (t0.deep - 1) t0.size
theorem gdB_of {t0 t : JT} (h : gdB t0 t = true) : wellB t.size t.xs.length t.ys = true ∧ t.size = t0.size ∧ t.deep = t0.deep ∧ t.deep ≠ 0 := by
  unfold gdB at h
  simp only [Bool.and_eq_true, decide_eq_true_eq, Bool.not_eq_true', decide_eq_false_iff_not] at h
  exact ⟨h.1.1.1, h.1.1.2, h.1.2, h.2⟩
/-- the first tile, if it is good: its depth, and the corners -/
theorem first_ok {t : JT} {B : Nat} {W : World} (h : t.Ok B W) (h0 : t.deep ≠ 0) : ∃ d : Nat, t.deep = (d : Int) + 1 ∧ (t.deep - 1).toNat = d ∧ d ≤ 9 ∧ 1 ≤ t.size ∧ t.size ≤ 8 ∧ QuartOk t.cx t.cy d t.size ∧ t.cx < 4294967296 ∧ t.cy < 4294967296 := by
  obtain ⟨d', A, B', hd', hd, hA, hB, -, -, ha, hb⟩ := place_pts h.bx h.by1 h.pl
  obtain ⟨h1, h2, h3, h4⟩ := placeB_bd h.pl
  refine ⟨d' - 1, by omega, by omega, by omega, h3, h4, ?_, h.bx, h.by1⟩
  have e : d' = d' - 1 + 1 := by omega
  rw [e] at hA hB
  exact quart_ok (by omega) hA hB (by omega) (by omega) (by omega)
set_option maxRecDepth 100000 in
theorem run_index_quart (cx cy d : Nat) (s : Int) (k : Nat) (h : k < 4) (w : World) : (Instr.index 80 (.agg (quartC cx cy d s)) (.int .i64 k)).run Try.prog w = .ok (.complex .f32 (quart cx cy d s k).1 (quart cx cy d s k).2) w := by
  rcases (by omega : k = 0 ∨ k = 1 ∨ k = 2 ∨ k = 3) with rfl | rfl | rfl | rfl <;> kernel_rfl
set_option maxRecDepth 100000 in
set_option maxHeartbeats 4000000 in
theorem quartersWell_is (B g cap : Nat) (L : List JT) (t0 : JT) (h0 : L[0]? = some t0) (hl : L.length ≤ 4) (w : World) (hL : JIn B g L w) :
    Calls Try.prog 27 #[.slice (some ⟨g, 0, none⟩) L.length cap] w fun e w' => (∃ b, e = .returned (.bool b) ∧ (b = true ↔ Fit4 L t0 ∧ placeJ t0 = true)) ∧ Below w.heap.size w w' := by
  obtain ⟨n, hn⟩ : ∃ n, L.length = n := ⟨_, rfl⟩
  have HN := Lib.hid hn
  rw [hn] at hl ⊢
  by_cases h4 : n = 4
  · subst h4
    have hok := hL.own t0 (List.mem_of_getElem? h0)
    have HOK := Lib.hid hok
    have HL := Lib.hid hL
    have H0 := Lib.hid h0
    obtain ⟨p0, p1, p2, p3, p4⟩ := hL.cells5 h0
    have HAT : Hid (∀ k, k < 4 → ∃ t, L[k]? = some t) := fun k hk => ⟨_, List.getElem?_eq_getElem (by omega)⟩
    clear hL hok h0 hn hl
    have X0 := Box.new w #[.complex .f32 t0.cx t0.cy, .int .i64 t0.deep, .int .i64 t0.size, .slice t0.a1 t0.xs.length t0.c1, .slice t0.a2 t0.ys.length t0.c2] 37
    have HX0 := Lib.hid X0
    clear X0
    go_enter Try.func27, Try.ntmps27
    go_wp2
    go_loopw [16] (fun i wr => ∃ k : Nat, k ≤ 4 ∧ i = .int .i64 k ∧ Hid (Box w w.heap.size #[.complex .f32 t0.cx t0.cy, .int .i64 t0.deep, .int .i64 t0.size, .slice t0.a1 t0.xs.length t0.c1, .slice t0.a2 t0.ys.length t0.c2] 37 wr) ∧ Hid (∀ (j : Nat) (t : JT), j < k → L[j]? = some t → gdB t0 t = true)) (fun i _ => (4 - intOf i).toNat)
    case atStart => exact ⟨0, by omega, rfl, HX0, fun j t hj => by omega⟩
    case round =>
      clear HX0 p0 p1 p2 p3 p4
      obtain ⟨k, hk, rfl, HX, HG⟩ := hrel
      by_cases hlt : k < 4
      · obtain ⟨t, ht⟩ := HAT.out k hlt
        obtain ⟨p0, p1, p2, p3, p4⟩ := (HL.out.step HX.out.old).cells5 ht
        have T := (HL.out.step HX.out.old).own t (List.mem_of_getElem? ht)
        obtain ⟨x0, x1, x2, x3, x4⟩ := HX.out.cells5
        have X1 := (Box.new wr #[.complex .f32 t.cx t.cy, .int .i64 t.deep, .int .i64 t.size, .slice t.a1 t.xs.length t.c1, .slice t.a2 t.ys.length t.c2] 37).up HX.out.old
        have HX1 := Lib.hid X1
        have HX2 := Lib.hid (HX.out.alloc (.cells #[.complex .f32 t.cx t.cy, .int .i64 t.deep, .int .i64 t.size, .slice t.a1 t.xs.length t.c1, .slice t.a2 t.ys.length t.c2] 37))
        have hlm := T.lim
        have CW := Lib.hid (implWell_is t.cx t.cy t.deep t.size T.bx T.by1 T.pl t.a1 t.a2 t.xs.length t.c1 t.c2 t.ys (by omega) _ (T.s2.alloc (.cells #[.complex .f32 t.cx t.cy, .int .i64 t.deep, .int .i64 t.size, .slice t.a1 t.xs.length t.c1, .slice t.a2 t.ys.length t.c2] 37)))
        clear hlm T X1
        go_wp2_with fail
        with_reducible refine CW.out.mono ?_
        rintro e w2 ⟨rfl, hd⟩
        have HT := Lib.hid ht
        have HX3 := Lib.hid (HX2.out.step hd)
        have HY3 := HX1.out.step hd
        have HB := Lib.hid HY3.old
        clear x0 x1 x2 x3 x4 p0 p1 p2 p3 p4 CW hd HX1 HX2 HX ht
        obtain ⟨x0, x1, x2, x3, x4⟩ := HX3.out.cells5
        obtain ⟨y0, y1, y2, y3, y4⟩ := HY3.cells5
        clear HY3
        cases hwb : wellB t.size t.xs.length t.ys with
        | false =>
          have HF : Hid (¬ Fit4 L t0) := fun h => by have := (gdB_of (h.gd k t HT.out)).1; rw [hwb] at this; cases this
          clear hwb
          go_wp2
          go_ret
          exact ⟨⟨false, rfl, by simp; exact fun h => absurd h HF.out⟩, HB.out⟩
        | true =>
          by_cases e2 : t.size = t0.size
          · have f2 : (t.size != t0.size) = false := by simpa using e2
            by_cases e3 : t.deep = t0.deep
            · have f3 : (t.deep != t0.deep) = false := by simpa using e3
              by_cases e4 : t.deep = 0
              · have HF : Hid (¬ Fit4 L t0) := fun h => (gdB_of (h.gd k t HT.out)).2.2.2 e4
                have f4 : (t.deep == 0) = true := by simpa using e4
                clear hwb e2 e3 e4
                go_wp2
                go_ret
                exact ⟨⟨false, rfl, by simp; exact fun h => absurd h HF.out⟩, HB.out⟩
              · have f4 : (t.deep == 0) = false := by simpa using e4
                have HG2 : Hid (∀ (j : Nat) (u : JT), j < k + 1 → L[j]? = some u → gdB t0 u = true) := fun j u hj hu => by
                  by_cases hjk : j = k
                  · subst hjk
                    obtain rfl : u = t := Option.some.inj (hu.symm.trans HT.out)
                    unfold gdB
                    rw [hwb, decide_eq_true e2, decide_eq_true e3, decide_eq_false e4]
                    rfl
                  · exact HG.out j u (by omega) hu
                clear hwb e2 e3 e4 HG
                go_wp2
                go_roundw
                case rel => exact ⟨k + 1, by omega, by go_num, HX3, HG2⟩
                case measure => simp [intOf]; omega
            · have HF : Hid (¬ Fit4 L t0) := fun h => e3 (gdB_of (h.gd k t HT.out)).2.2.1
              have f3 : (t.deep != t0.deep) = true := by simpa using e3
              clear hwb e2 e3
              go_wp2
              go_ret
              exact ⟨⟨false, rfl, by simp; exact fun h => absurd h HF.out⟩, HB.out⟩
          · have HF : Hid (¬ Fit4 L t0) := fun h => e2 (gdB_of (h.gd k t HT.out)).2.1
            have f2 : (t.size != t0.size) = true := by simpa using e2
            clear hwb e2
            go_wp2
            go_ret
            exact ⟨⟨false, rfl, by simp; exact fun h => absurd h HF.out⟩, HB.out⟩
      · obtain rfl : k = 4 := by omega
        obtain ⟨d, hd1, hd2, hd3, hs1, hs2, hq, hbx, hby⟩ := first_ok HOK.out (gdB_of (HG.out 0 t0 (by omega) H0.out)).2.2.2
        have CQ : Hid (∀ W, Calls Try.prog 41 #[.complex .f32 t0.cx t0.cy, .int .i64 (t0.deep - 1), .int .i64 t0.size] W fun e w' => e = .returned (.agg (quartC t0.cx t0.cy d t0.size)) ∧ Below W.heap.size W w') := fun W => by
          have := quarterCorners_ok t0.cx t0.cy d t0.size (by omega) hq W
          rw [show (d : Int) = t0.deep - 1 by omega] at this
          exact this
        have CP : Hid (∀ W, Calls Try.prog 36 #[.complex .f32 t0.cx t0.cy, .int .i64 (t0.deep - 1), .int .i64 t0.size] W fun e w' => e = .returned (.bool (placeJ t0)) ∧ W = w') := fun W => placeWell_is t0.cx t0.cy (t0.deep - 1) t0.size hbx hby W
        have hb1 : 1 ≤ t0.deep ∧ t0.deep ≤ 10 := by omega
        have HD2 := Lib.hid hd2
        clear hd1 hd2 hd3 hs1 hs2 hq hbx hby hlt hk
        obtain ⟨x0, x1, x2, x3, x4⟩ := HX.out.cells5
        go_wp2_with fail
        with_reducible refine (CQ.out _).mono ?_
        rintro e w2 ⟨rfl, hd⟩
        have HX3 := Lib.hid (HX.out.step hd)
        clear hd HX x0 x1 x2 x3 x4 CQ
        go_wp2
        go_loopw [51] (fun i wr => ∃ k : Nat, k ≤ 4 ∧ i = .int .i64 k ∧ Hid (Box w w.heap.size #[.complex .f32 t0.cx t0.cy, .int .i64 t0.deep, .int .i64 t0.size, .slice t0.a1 t0.xs.length t0.c1, .slice t0.a2 t0.ys.length t0.c2] 37 wr) ∧ Hid (∀ (j : Nat) (t : JT), j < k → L[j]? = some t → corB t0 j t = true)) (fun i _ => (4 - intOf i).toNat)
        case atStart => exact ⟨0, by omega, rfl, HX3, fun j t hj => by omega⟩
        case round =>
          clear HX3
          obtain ⟨k, hk, rfl, HX, HC⟩ := hrel
          by_cases hlt : k < 4
          · obtain ⟨t, ht⟩ := HAT.out k hlt
            obtain ⟨p0, -⟩ := (HL.out.step HX.out.old).cells5 ht
            have hqk := run_index_quart t0.cx t0.cy d t0.size k hlt
            have HT := Lib.hid ht
            have HCB : Hid (corB t0 k t = eqcB t.cx t.cy (quart t0.cx t0.cy d t0.size k).1 (quart t0.cx t0.cy d t0.size k).2) := by
              show _ = _
              unfold corB
              rw [HD2.out]
            clear ht
            generalize (quart t0.cx t0.cy d t0.size k).1 = qx at *
            generalize (quart t0.cx t0.cy d t0.size k).2 = qy at *
            cases hcb : eqcB t.cx t.cy qx qy with
            | false =>
              have HF : Hid (¬ Fit4 L t0) := fun h => by have := h.cor k t HT.out; rw [HCB.out, hcb] at this; cases this
              have hcc : ((FloatKind.f32.format.order t.cx qx == some .eq) && (FloatKind.f32.format.order t.cy qy == some .eq)) = false := hcb
              have HB := Lib.hid HX.out.old
              clear hcb
              go_wp2
              go_ret
              exact ⟨⟨false, rfl, by simp; exact fun h => absurd h HF.out⟩, HB.out⟩
            | true =>
              have hcc : ((FloatKind.f32.format.order t.cx qx == some .eq) && (FloatKind.f32.format.order t.cy qy == some .eq)) = true := hcb
              have HC2 : Hid (∀ (j : Nat) (u : JT), j < k + 1 → L[j]? = some u → corB t0 j u = true) := fun j u hj hu => by
                by_cases hjk : j = k
                · subst hjk
                  obtain rfl : u = t := Option.some.inj (hu.symm.trans HT.out)
                  exact HCB.out.trans hcb
                · exact HC.out j u (by omega) hu
              clear hcb HC
              go_wp2
              go_roundw
              case rel => exact ⟨k + 1, by omega, by go_num, HX, HC2⟩
              case measure => simp [intOf]; omega
          · obtain rfl : k = 4 := by omega
            obtain ⟨x0, x1, x2, x3, x4⟩ := HX.out.cells5
            have HF : Hid (Fit4 L t0) := ⟨HN.out, H0.out, fun k t h => HG.out k t (by have := (List.getElem?_eq_some_iff.1 h).1; have := HN.out; omega) h, fun k t h => HC.out k t (by have := (List.getElem?_eq_some_iff.1 h).1; have := HN.out; omega) h⟩
            have HB := Lib.hid HX.out.old
            go_wp2_with fail
            with_reducible refine (CP.out _).mono ?_
            rintro e w3 ⟨rfl, rfl⟩
            go_wp2
            go_ret
            exact ⟨⟨_, rfl, ⟨fun h => ⟨HF.out, h⟩, fun h => h.2⟩⟩, HB.out⟩
  · have hne : ((n : Int) != 4) = true := by simp; omega
    have HF : Hid (¬ Fit4 L t0) := fun h => h4 (HN.out.symm.trans h.len)
    go_enter Try.func27, Try.ntmps27
    go_wp2
    go_ret
    exact ⟨⟨false, rfl, by simp; exact fun h => absurd h HF.out⟩, Below.refl _ _⟩
end Go.Proofs.Ytalmhbcmagjheaa
end

section
/- A region that draws its order, whose operations only read and whose callees change nothing that was there: one walk in the order of the text. -/
namespace Go.Proofs.Ytalmhbcmagjheaa
open Go.RowKit

/-- a world in which all that w had stands -/
structure Kw (w : World) where
  W : World
  h : Below w.heap.size w W
instance (w : World) : Inhabited (Kw w) := ⟨⟨w, Below.refl _ _⟩⟩
def Kw.step {w : World} (s : Kw w) {w' : World} (k : Below s.W.heap.size s.W w') : Kw w := ⟨w', s.h.trans (k.mono s.h.size)⟩
theorem wp_region_kept {P : Program} {id : Nat} {Q : Exit → Act → World → Prop} {a : Act} {w : World} {l : List Oper} (hm : P.follows .mixedOrders = true) (hB : Region.lexB .any l.toArray = true)
    (h : wpQuiet P l.toArray (fun w' => ∃ s : Kw w, w' = s.W) (fun a' => ∀ w', (∃ s : Kw w, w' = s.W) → Q .normal a' w') l a) : (Code.region id l.toArray true).wp P Q a w :=
  wp_region_quiet (C := fun w' => ∃ s : Kw w, w' = s.W) hm hB ⟨⟨w.drew, (Below.refl _ _).drew⟩, rfl⟩ (by simpa using h)
end Go.Proofs.Ytalmhbcmagjheaa
end
