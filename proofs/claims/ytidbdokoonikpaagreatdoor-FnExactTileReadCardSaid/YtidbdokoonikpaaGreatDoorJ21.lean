/- Merged texts: TxrA, TxrB. -/
import Derived.Test.YtidbdokoonikpaaGreatDoorJ3
import Derived.Test.YtidbdokoonikpaaGreatDoorJ11
import Derived.Test.YtidbdokoonikpaaGreatDoorJ6
import Derived.Test.YtidbdokoonikpaaGreatDoorJ10
section
/- Walks of what the exact laws do with tiles: eqFloat32S. -/
namespace Go.Proofs.YtidbdokoonikpaaGreatDoor
open Go.RowKit
attribute [local go_sem] run_store_float run_store_complex

/-- a float widened, whatever it is, in every world -/
theorem widen_every (x : Nat) (hx : x < 4294967296) : (∃ y, Flo.nan .f64 y = false ∧ ∀ w, (convert 57 92 (.float .f32 x)).run Tryz.prog w = .ok (.float .f64 y) w) ∨ ∃ f : World → Nat, ∀ w, (convert 57 92 (.float .f32 x)).run Tryz.prog w = .ok (.float .f64 (f w)) w.drew ∧ Flo.nan .f64 (f w) = true := by
  by_cases h : Flo.nan .f32 x = true
  · right
    have hh := fun w => run_convert_nan64 57 92 (by kernel_rfl) Tryz.underlying92 h w
    exact ⟨fun w => (hh w).choose, fun w => (hh w).choose_spec⟩
  · left
    obtain ⟨y, hy, hy2⟩ := Flo.widen_any (by rw [Flo.pow32]; exact hx) (by simpa using h)
    exact ⟨y, hy2, fun w => run_convert_float_float (P := Tryz.prog) w 57 92 .f32 .f64 x y (by kernel_rfl) Tryz.underlying92 hy⟩
set_option maxRecDepth 100000 in
set_option maxHeartbeats 2000000 in
theorem eqFloat32S_same (a b : Option Addr) (ca cb : Nat) (xs : List Nat) (hn : xs.length ≤ 1048576) (hx : ∀ x, x ∈ xs → x < 4294967296) (w : World) (ha : Sl w a (xs.map floV)) (hb : Sl w b (xs.map floV)) :
    Calls Tryz.prog 48 #[.slice a xs.length ca, .slice b xs.length cb] w fun e w' => e = .returned (.bool true) ∧ Drw w w' := by
  obtain ⟨n, hnn⟩ : ∃ n, xs.length = n := ⟨_, rfl⟩
  have HX : Hid (∀ k, k < n → ∃ x, x < 4294967296 ∧ (xs.map floV)[k]? = some (.float .f32 x)) := fun k h => ⟨xs[k]'(by omega), hx _ (List.getElem_mem _), by rw [List.getElem?_map, List.getElem?_eq_getElem (by omega)]; rfl⟩
  have HA := Lib.hid ha
  have HB := Lib.hid hb
  rw [hnn] at hn ⊢
  clear ha hb hnn hx
  go_enter Tryz.func48, Tryz.ntmps48
  go_wp2
  go_loopw [5] (fun i wr => ∃ k : Nat, k ≤ n ∧ i = .int .i64 k ∧ Hid (Drw w wr)) (fun i _ => (n - intOf i).toNat)
  case atStart => exact ⟨0, by omega, rfl, Drw.refl _⟩
  case round =>
    obtain ⟨k, hk, rfl, HD⟩ := hrel
    by_cases hlt : k < n
    · obtain ⟨x, hx, hxe⟩ := HX.out k hlt
      obtain ⟨b1, o1, rfl, hc1⟩ := (HA.out.drw HD.out).at hxe
      obtain ⟨b2, o2, rfl, hc2⟩ := (HB.out.drw HD.out).at hxe
      clear hxe
      rcases widen_every x hx with ⟨y, hy, hcv⟩ | ⟨f, hf⟩
      · have HF := Lib.hid (fun W => sameFloat_refl y hy W)
        go_upto_region 6 with fail
        go_quiet ((go_at_call 71; exact quiet_eq (HF.out _)))
        have HD2 := Lib.hid (HD.out.drewN nq)
        go_wp2
        go_roundw
        case rel => exact ⟨k + 1, by omega, by go_num, HD2⟩
        case measure => simp [intOf] <;> omega
      · have hcv := fun w => (hf w).1
        have HF := Lib.hid (fun U V W => sameFloat_nan (f U) (f V) (hf U).2 (hf V).2 W)
        clear hf
        go_upto_region 6 with fail
        go_region_with (go_at_call 71
                        refine (HF.out _ _ _).mono ?_
                        rintro e w' ⟨rfl, rfl⟩)
        all_goals
          go_wp2
          go_roundw
          case rel => exact ⟨k + 1, by omega, by go_num, by show Drw w _; repeat (first | exact HD.out | apply Drw.drew)⟩
          case measure => simp [intOf] <;> omega
    · go_wp2
      go_ret
      exact ⟨rfl, HD.out⟩
end Go.Proofs.YtidbdokoonikpaaGreatDoor
end

section
/- Walks of what the exact laws do with a tile of their own: marks are written into its rows, and are read back. -/
namespace Go.Proofs.YtidbdokoonikpaaGreatDoor
open Go.RowKit
attribute [local go_sem] run_store_float run_store_complex

def markI (k0 j : Nat) : Value := .int .i64 ((k0 + j : Nat) : Int)
def markF (k0 j : Nat) : Value := .float .f32 (floatOfInt .f32 ((k0 + j : Nat) : Int))
def marks (f : Nat → Nat → Value) (k0 n : Nat) : List Value := (List.range n).map (f k0)
theorem marks_at (f : Nat → Nat → Value) (k0 n j : Nat) (h : j < n) : (marks f k0 n)[j]? = some (f k0 j) := by
  unfold marks
  rw [List.getElem?_map, List.getElem?_range h]; rfl
theorem marks_all {f : Nat → Nat → Value} {k0 n : Nat} {xs : List Value} (hl : xs.length = n) (h : ∀ j, j < n → xs[j]? = some (f k0 j)) : xs = marks f k0 n := by
  apply List.ext_getElem?
  intro j
  by_cases hj : j < n
  · rw [h j hj, marks_at f k0 n j hj]
  · rw [List.getElem?_eq_none (by omega), List.getElem?_eq_none (by unfold marks; simp; omega)]
theorem floatOfInt_num (k : Nat) (hk : k ≤ 2000) : Flo.nan .f32 (floatOfInt .f32 (k : Int)) = false := by
  have := Flo.ofInt_val (k := .f32) Flo.least32 (k : Int) (by show _ < 2 * Ieee.single.binade; rw [Flo.single_binade]; omega) (by show (Flo.u32 + 2) * Ieee.single.binade ≤ Ieee.single.infRung; rw [Flo.u32_eq]; decide)
  exact Flo.val_nan this
set_option maxHeartbeats 400000 in
theorem markIntS_own (B g n cap k0 : Nat) (xs : List Value) (hn : n ≤ 100) (hk0 : k0 ≤ 1000) (w : World) (hs : w.ownsRow B 3 1 (.slice (some ⟨g, 0, none⟩) n cap) n xs) :
    Calls Tryz.prog 51 #[.slice (some ⟨g, 0, none⟩) n cap, .int .i64 k0] w fun e w' => e = .returned (.int .i64 ((k0 + n : Nat) : Int)) ∧ w'.ownsRow B 3 1 (.slice (some ⟨g, 0, none⟩) n cap) n (marks markI k0 n) ∧ Only g w w' := by
  have HS := Lib.hid hs
  clear hs
  go_enter Tryz.func51, Tryz.ntmps51
  go_wp2
  go_loopw [1, 5] (fun t i wr => ∃ (k : Nat) (ys : List Value), k ≤ n ∧ i = .int .i64 k ∧ t = .int .i64 ((k0 + k : Nat) : Int) ∧ Hid (wr.ownsRow B 3 1 (.slice (some ⟨g, 0, none⟩) n cap) n ys) ∧ Hid (∀ j, j < k → ys[j]? = some (markI k0 j)) ∧ Hid (Only g w wr)) (fun _ i _ => (n - intOf i).toNat)
  case atStart => exact ⟨0, xs, by omega, rfl, rfl, HS, fun j hj => by omega, Only.refl _ _⟩
  case round =>
    obtain ⟨k, ys, hk, rfl, rfl, HY, HP, HO⟩ := hrel
    have hl : ys.length = n := by have := HY.out.1; omega
    by_cases hlt : k < n
    · obtain ⟨old, hc⟩ : ∃ old, wr.cell? ⟨g, k, none⟩ = some old := ⟨ys[k]'(by omega), by rw [HY.out.cellAt k (by omega)]; exact List.getElem?_eq_getElem _⟩
      have hf := HY.out.frozenAt k
      have HY2 : Hid ((wr.setCell ⟨g, k, none⟩ (markI k0 k)).ownsRow B 3 1 (.slice (some ⟨g, 0, none⟩) n cap) n (ys.set k (markI k0 k))) := (HY.out.stored k _).1
      have HP2 : Hid (∀ j, j < k + 1 → (ys.set k (markI k0 k))[j]? = some (markI k0 j)) := fun j hj => by
        rw [List.getElem?_set]
        by_cases hjk : k = j
        · subst hjk; rw [if_pos rfl, if_pos (by omega)]
        · rw [if_neg hjk]; exact HP.out j (by omega)
      have HO2 : Hid (Only g w (wr.setCell ⟨g, k, none⟩ (markI k0 k))) := HO.out.setCell k _
      clear HP HY HO HS hl
      unfold markI at HY2 HP2 HO2
      go_wp2
      go_roundw
      case rel => exact ⟨k + 1, _, by omega, by go_num, by go_num, HY2, HP2, HO2⟩
      case measure => simp [intOf]; omega
    · obtain rfl : k = n := by omega
      have HE := Lib.hid (marks_all hl HP.out)
      go_wp2
      go_ret
      refine ⟨by go_num, ?_, HO.out⟩
      rw [← HE.out]; exact HY.out
set_option maxHeartbeats 400000 in
theorem markFloat32S_own (B g n cap k0 : Nat) (xs : List Value) (hn : n ≤ 100) (hk0 : k0 ≤ 1000) (w : World) (hs : w.ownsRow B 57 1 (.slice (some ⟨g, 0, none⟩) n cap) n xs) :
    Calls Tryz.prog 50 #[.slice (some ⟨g, 0, none⟩) n cap, .int .i64 k0] w fun e w' => e = .returned (.int .i64 ((k0 + n : Nat) : Int)) ∧ w'.ownsRow B 57 1 (.slice (some ⟨g, 0, none⟩) n cap) n (marks markF k0 n) ∧ Only g w w' := by
  have HS := Lib.hid hs
  clear hs
  go_enter Tryz.func50, Tryz.ntmps50
  go_wp2
  go_loopw [1, 5] (fun t i wr => ∃ (k : Nat) (ys : List Value), k ≤ n ∧ i = .int .i64 k ∧ t = .int .i64 ((k0 + k : Nat) : Int) ∧ Hid (wr.ownsRow B 57 1 (.slice (some ⟨g, 0, none⟩) n cap) n ys) ∧ Hid (∀ j, j < k → ys[j]? = some (markF k0 j)) ∧ Hid (Only g w wr)) (fun _ i _ => (n - intOf i).toNat)
  case atStart => exact ⟨0, xs, by omega, rfl, rfl, HS, fun j hj => by omega, Only.refl _ _⟩
  case round =>
    obtain ⟨k, ys, hk, rfl, rfl, HY, HP, HO⟩ := hrel
    have hl : ys.length = n := by have := HY.out.1; omega
    by_cases hlt : k < n
    · obtain ⟨old, hc⟩ : ∃ old, wr.cell? ⟨g, k, none⟩ = some old := ⟨ys[k]'(by omega), by rw [HY.out.cellAt k (by omega)]; exact List.getElem?_eq_getElem _⟩
      have hf := HY.out.frozenAt k
      have HY2 : Hid ((wr.setCell ⟨g, k, none⟩ (markF k0 k)).ownsRow B 57 1 (.slice (some ⟨g, 0, none⟩) n cap) n (ys.set k (markF k0 k))) := (HY.out.stored k _).1
      have HP2 : Hid (∀ j, j < k + 1 → (ys.set k (markF k0 k))[j]? = some (markF k0 j)) := fun j hj => by
        rw [List.getElem?_set]
        by_cases hjk : k = j
        · subst hjk; rw [if_pos rfl, if_pos (by omega)]
        · rw [if_neg hjk]; exact HP.out j (by omega)
      have HO2 : Hid (Only g w (wr.setCell ⟨g, k, none⟩ (markF k0 k))) := HO.out.setCell k _
      clear HP HY HO HS hl
      unfold markF at HY2 HO2
      go_wp2
      go_roundw
      case rel => exact ⟨k + 1, _, by omega, by go_num, by go_num, HY2, HP2, HO2⟩
      case measure => simp [intOf]; omega
    · obtain rfl : k = n := by omega
      have HE := Lib.hid (marks_all hl HP.out)
      go_wp2
      go_ret
      refine ⟨by go_num, ?_, HO.out⟩
      rw [← HE.out]; exact HY.out
set_option maxHeartbeats 400000 in
theorem heldIntS_own (B g n cap k0 : Nat) (hn : n ≤ 100) (hk0 : k0 ≤ 1000) (w : World) (hs : w.ownsRow B 3 1 (.slice (some ⟨g, 0, none⟩) n cap) n (marks markI k0 n)) :
    Calls Tryz.prog 53 #[.slice (some ⟨g, 0, none⟩) n cap, .int .i64 k0] w fun e w' => e = .returned (.int .i64 ((k0 + n : Nat) : Int)) ∧ Drw w w' := by
  have HS := Lib.hid hs
  clear hs
  go_enter Tryz.func53, Tryz.ntmps53
  go_wp2
  go_loopw [1, 5] (fun t i wr => ∃ k : Nat, k ≤ n ∧ i = .int .i64 k ∧ t = .int .i64 ((k0 + k : Nat) : Int) ∧ Hid (Drw w wr)) (fun _ i _ => (n - intOf i).toNat)
  case atStart => exact ⟨0, by omega, rfl, rfl, Drw.refl _⟩
  case round =>
    obtain ⟨k, hk, rfl, rfl, HD⟩ := hrel
    by_cases hlt : k < n
    · have hc : wr.cell? ⟨g, k, none⟩ = some (.int .i64 ((k0 + k : Nat) : Int)) := by rw [HD.out.cell, HS.out.cellAt k (by omega)]; exact marks_at _ _ _ _ hlt
      obtain ⟨m, hm⟩ : ∃ m, k0 + k = m := ⟨_, rfl⟩
      rw [hm] at hc
      have hm2 : m ≤ 2000 := by omega
      have hxx : ((m : Int) != (m : Int)) = false := by simp
      have HM := Lib.hid hm
      rw [hm]
      clear hm
      go_wp2
      go_roundw
      case rel => exact ⟨k + 1, by omega, by go_num, by rw [← Nat.add_assoc, HM.out]; go_num, HD⟩
      case measure => simp [intOf]; omega
    · obtain rfl : k = n := by omega
      go_wp2
      go_ret
      exact ⟨by go_num, HD.out⟩
set_option maxHeartbeats 400000 in
theorem heldFloat32S_own (B g n cap k0 : Nat) (hn : n ≤ 100) (hk0 : k0 ≤ 1000) (w : World) (hs : w.ownsRow B 57 1 (.slice (some ⟨g, 0, none⟩) n cap) n (marks markF k0 n)) :
    Calls Tryz.prog 52 #[.slice (some ⟨g, 0, none⟩) n cap, .int .i64 k0] w fun e w' => e = .returned (.int .i64 ((k0 + n : Nat) : Int)) ∧ Drw w w' := by
  have HS := Lib.hid hs
  clear hs
  go_enter Tryz.func52, Tryz.ntmps52
  go_wp2
  go_loopw [1, 5] (fun t i wr => ∃ k : Nat, k ≤ n ∧ i = .int .i64 k ∧ t = .int .i64 ((k0 + k : Nat) : Int) ∧ Hid (Drw w wr)) (fun _ i _ => (n - intOf i).toNat)
  case atStart => exact ⟨0, by omega, rfl, rfl, Drw.refl _⟩
  case round =>
    obtain ⟨k, hk, rfl, rfl, HD⟩ := hrel
    by_cases hlt : k < n
    · have hc : wr.cell? ⟨g, k, none⟩ = some (.float .f32 (floatOfInt .f32 ((k0 + k : Nat) : Int))) := by rw [HD.out.cell, HS.out.cellAt k (by omega)]; exact marks_at _ _ _ _ hlt
      obtain ⟨m, hm⟩ : ∃ m, k0 + k = m := ⟨_, rfl⟩
      rw [hm] at hc
      have hm2 : m ≤ 2000 := by omega
      have hxx : (FloatKind.f32.format.order (floatOfInt .f32 (m : Int)) (floatOfInt .f32 (m : Int)) != some .eq) = false := by rw [Flo.order_self (floatOfInt_num m hm2)]; rfl
      have HM := Lib.hid hm
      rw [hm]
      clear hm
      go_wp2
      go_roundw
      case rel => exact ⟨k + 1, by omega, by go_num, by rw [← Nat.add_assoc, HM.out]; go_num, HD⟩
      case measure => simp [intOf]; omega
    · obtain rfl : k = n := by omega
      go_wp2
      go_ret
      exact ⟨by go_num, HD.out⟩
set_option maxHeartbeats 400000 in
theorem sameComplex_val {x y : Nat} (n1 : Flo.nan .f64 x = false) (n2 : Flo.nan .f64 y = false) (w : World) :
    Calls Tryz.prog 47 #[.complex .f64 x y, .complex .f64 x y] w fun e w' => e = .returned (.bool true) ∧ w = w' := by
  have H1 := Lib.hid (sameFloat_refl x n1)
  have H2 := Lib.hid (sameFloat_refl y n2)
  clear n1 n2
  go_enter Tryz.func47, Tryz.ntmps47
  go_wp2_with fail
  refine (H1.out _).mono ?_
  rintro e w3 ⟨rfl, rfl⟩
  go_wp2_with fail
  refine (H2.out _).mono ?_
  rintro e w3 ⟨rfl, rfl⟩
  go_wp2
  go_ret
  exact ⟨rfl, rfl⟩
set_option maxRecDepth 100000 in
set_option maxHeartbeats 2000000 in
theorem eqTile_same {cx cy : Nat} {da db : Int} (hcx : Flo.Val Ieee.single cx da) (hcy : Flo.Val Ieee.single cy db) (deep size : Int) (a1 b1 a2 b2 : Option Addr) (c1 e1 c2 e2 : Nat) (xs : List Nat) (ys : List Int) (hn : xs.length ≤ 1048576) (hm : ys.length ≤ 1048576) (hx : ∀ x, x ∈ xs → x < 4294967296) (w : World) (s1 : Sl w a1 (xs.map floV)) (t1 : Sl w b1 (xs.map floV)) (s2 : Sl w a2 (ys.map intV)) (t2 : Sl w b2 (ys.map intV)) :
    Calls Tryz.prog 18 #[.agg #[.complex .f32 cx cy, .int .i64 deep, .int .i64 size, .slice a1 xs.length c1, .slice a2 ys.length c2], .agg #[.complex .f32 cx cy, .int .i64 deep, .int .i64 size, .slice b1 xs.length e1, .slice b2 ys.length e2]] w fun e w' => e = .returned (.bool true) ∧ Below w.heap.size w w' := by
  obtain ⟨C0, hC0⟩ : ∃ C0, C0 = #[Value.complex .f32 cx cy, .int .i64 deep, .int .i64 size, .slice a1 xs.length c1, .slice a2 ys.length c2] := ⟨_, rfl⟩
  obtain ⟨C1, hC1⟩ : ∃ C0, C0 = #[Value.complex .f32 cx cy, .int .i64 deep, .int .i64 size, .slice b1 xs.length e1, .slice b2 ys.length e2] := ⟨_, rfl⟩
  have X0 : Box w w.heap.size C0 27 ((w.alloc (.cells C0 27)).alloc (.cells C1 27)) := (Box.new w C0 _).alloc _
  have X1 : Box w (w.heap.size + 1) C1 27 ((w.alloc (.cells C0 27)).alloc (.cells C1 27)) := by
    have := (Box.new (w.alloc (.cells C0 27)) C1 27).up (w0 := w) ((Below.refl _ _).alloc (Nat.le_refl _) _)
    rwa [World.size_alloc] at this
  subst hC0 hC1
  have HA := Lib.hid (s1.step X0.old)
  have HB := Lib.hid (t1.step X0.old)
  have HS := Lib.hid (s2.step X0.old)
  have HT := Lib.hid (t2.step X0.old)
  have HX0 := Lib.hid X0
  have HX1 := Lib.hid X1
  have HXX := Lib.hid hx
  have q1 : (deep != deep) = false := by simp
  have q2 : (size != size) = false := by simp
  obtain ⟨p, q, w1, h1, p1, u1, d1, ap, aq⟩ := Flo.cwiden_al (P := Tryz.prog) 23 79 (by kernel_rfl) Tryz.underlying79 cx cy hcx.lt hcy.lt ((w.alloc (.cells #[.complex .f32 cx cy, .int .i64 deep, .int .i64 size, .slice a1 xs.length c1, .slice a2 ys.length c2] 27)).alloc (.cells #[.complex .f32 cx cy, .int .i64 deep, .int .i64 size, .slice b1 xs.length e1, .slice b2 ys.length e2] 27))
  obtain ⟨p', q', w2, h2, p1', u1', d2, ap', aq'⟩ := Flo.cwiden_al (P := Tryz.prog) 23 79 (by kernel_rfl) Tryz.underlying79 cx cy hcx.lt hcy.lt w1
  have n1 : Flo.nan .f64 p = false := Flo.val_nan (k := .f64) (widen_fin hcx ap)
  have n2 : Flo.nan .f64 q = false := Flo.val_nan (k := .f64) (widen_fin hcy aq)
  have k1 : p' = p := Al.same (ap.symm.trans ap') n1
  have k2 : q' = q := Al.same (aq.symm.trans aq') n2
  subst k1 k2
  have HC := Lib.hid (sameComplex_val n1 n2)
  obtain ⟨r0, r1, r2, r3, r4⟩ := X0.cells5
  obtain ⟨z0, z1, z2, z3, z4⟩ := X1.cells5
  obtain ⟨t0, t1, t2, t3, t4⟩ := (X1.step (d1.below _)).cells5
  have HD := Lib.hid (d1.trans d2)
  clear X0 X1 s1 t1 s2 t2 hx hcx hcy n1 n2 ap aq ap' aq' d1 d2 p1 u1 p1' u1' z0 z1 z2 z3 z4
  go_enter Tryz.func18, Tryz.ntmps18
  go_wp2_with fail
  with_reducible refine (HC.out _).mono ?_
  rintro e w1 ⟨rfl, rfl⟩
  have HX01 := Lib.hid (HX0.out.step (HD.out.below _))
  have HX11 := Lib.hid (HX1.out.step (HD.out.below _))
  have HF := Lib.hid (eqFloat32S_same a1 b1 c1 e1 xs hn HXX.out _ (HA.out.drw HD.out) (HB.out.drw HD.out))
  have HS1 := Lib.hid (HS.out.drw HD.out)
  have HT1 := Lib.hid (HT.out.drw HD.out)
  clear r0 r1 r2 r3 r4 t0 t1 t2 t3 t4 HX0 HX1 HA HB HS HT HC h1 h2 HD
  obtain ⟨r0, r1, r2, r3, r4⟩ := HX01.out.cells5
  obtain ⟨z0, z1, z2, z3, z4⟩ := HX11.out.cells5
  go_wp2_with fail
  with_reducible refine HF.out.mono ?_
  rintro e w3 ⟨rfl, hd⟩
  have HX02 := Lib.hid (HX01.out.step (hd.below _))
  have HX12 := Lib.hid (HX11.out.step (hd.below _))
  have HI := Lib.hid (eqIntS_same a2 b2 c2 e2 ys hm _ (HS1.out.drw hd) (HT1.out.drw hd))
  clear r0 r1 r2 r3 r4 z0 z1 z2 z3 z4 hd HF HS1 HT1 HX01 HX11
  obtain ⟨r0, r1, r2, r3, r4⟩ := HX02.out.cells5
  obtain ⟨z0, z1, z2, z3, z4⟩ := HX12.out.cells5
  go_wp2_with fail
  with_reducible refine HI.out.mono ?_
  rintro e w4 ⟨rfl, hd⟩
  have HO := Lib.hid (HX02.out.step (hd.below _)).old
  clear hd
  go_wp2
  go_ret
  exact ⟨rfl, HO.out⟩
/-- nothing but two older blocks is written -/
structure Only2 (a b : Nat) (w w' : World) : Prop where
  os : w'.os = w.os
  tape : w'.tape = w.tape
  output : w'.output = w.output
  size : w.heap.size ≤ w'.heap.size
  block : ∀ i, i < w.heap.size → i ≠ a → i ≠ b → w'.heap[i]? = w.heap[i]?
theorem Only2.of {a b : Nat} {w w1 w2 w3 : World} (h0 : Below w.heap.size w w1) (h1 : Only a w1 w2) (h2 : Only b w2 w3) : Only2 a b w w3 :=
  ⟨h2.os.trans (h1.os.trans h0.os), h2.tape.trans (h1.tape.trans h0.tape), h2.output.trans (h1.output.trans h0.output), Nat.le_trans h0.size (Nat.le_trans h1.size h2.size), fun i hi ha hb => ((h2.block i (Nat.lt_of_lt_of_le hi (Nat.le_trans h0.size h1.size)) hb).trans (h1.block i (Nat.lt_of_lt_of_le hi h0.size) ha)).trans (h0.block i hi)⟩
theorem Only2.below {a b : Nat} {w w' : World} (h : Only2 a b w w') {B : Nat} (hB : B ≤ w.heap.size) (ha : B ≤ a) (hb : B ≤ b) : Below B w w' := ⟨h.os, h.tape, h.output, h.size, fun i hi => h.block i (by omega) (by omega) (by omega)⟩
theorem Box.only2 {w0 W W' : World} {b : Nat} {C : Array Value} {T : TypeId} (h : Box w0 b C T W) {a c : Nat} (k : Only2 a c W W') (ha : b ≠ a) (hc : b ≠ c) (h1 : w0.heap.size ≤ a) (h2 : w0.heap.size ≤ c) : Box w0 b C T W' :=
  ⟨(k.block b h.lt ha hc).trans h.blk, h.old.trans (k.below h.old.size h1 h2)⟩
theorem Sl.only2 {W W' : World} {g : Nat} {xs : List Value} (h : Sl W (some ⟨g, 0, none⟩) xs) {a c : Nat} (k : Only2 a c W W') (ha : g ≠ a) (hc : g ≠ c) : Sl W' (some ⟨g, 0, none⟩) xs := by
  rcases h with h | ⟨b, off, hb, h⟩
  · exact .inl h
  · obtain ⟨rfl, rfl⟩ : b = g ∧ off = 0 := by simp at hb; exact ⟨hb.1.symm, hb.2.symm⟩
    refine .inr ⟨_, _, rfl, fun i v hv => ?_⟩
    have h1 := h i v hv
    exact (World.cell?_of_block (k.block _ (World.block_lt_of_cell? W _ h1) ha hc)).trans h1
theorem ownsRow_onlyX {w w' : World} {base : Nat} {e : TypeId} {size : Nat} {v : Value} {n : Nat} {xs : List Value} (h : w.ownsRow base e size v n xs) {b : Nat} (k : Only b w w') (hne : v.ownBlock ≠ some b) : w'.ownsRow base e size v n xs :=
  h.kept ⟨k.os, k.tape, k.output, k.size, fun i hi hn => k.block i hi (fun e => hn (by rw [e]))⟩ (row := some b) (.inr hne)
theorem own_lt {w : World} {base g n cap : Nat} {e : TypeId} {size : Nat} {xs : List Value} (h : w.ownsRow base e size (.slice (some ⟨g, 0, none⟩) n cap) n xs) : g < w.heap.size := by
  rcases h.2 with ⟨h', _⟩ | ⟨g', cap', cur, h', _, hg, _⟩
  · simp at h'
  · simp only [Value.slice.injEq, Option.some.injEq, Addr.mk.injEq, and_true, true_and] at h'
    obtain ⟨rfl, rfl⟩ := h'
    exact (Array.getElem?_eq_some_iff.1 hg).1
set_option maxRecDepth 100000 in
set_option maxHeartbeats 1000000 in
theorem markTile_own (B gs gm n cs cm cx cy : Nat) (d s : Int) (xs ys : List Value) (hn : n ≤ 100) (w : World) (hs : w.ownsRow B 57 1 (.slice (some ⟨gs, 0, none⟩) n cs) n xs) (hm : w.ownsRow B 3 1 (.slice (some ⟨gm, 0, none⟩) n cm) n ys) :
    Calls Tryz.prog 19 #[.agg #[.complex .f32 cx cy, .int .i64 d, .int .i64 s, .slice (some ⟨gs, 0, none⟩) n cs, .slice (some ⟨gm, 0, none⟩) n cm], .int .i64 1] w fun e w' => e = .returned (.int .i64 ((1 + n + n : Nat) : Int)) ∧ w'.ownsRow B 57 1 (.slice (some ⟨gs, 0, none⟩) n cs) n (marks markF 1 n) ∧ w'.ownsRow B 3 1 (.slice (some ⟨gm, 0, none⟩) n cm) n (marks markI (1 + n) n) ∧ Only2 gs gm w w' := by
  have l1 := own_lt hs
  have l2 := own_lt hm
  have hap : gs ≠ gm := by
    have := ownsRow_apart hs hm (by decide)
    simp [Value.ownBlock] at this
    exact this
  have X := Box.new w #[.complex .f32 cx cy, .int .i64 d, .int .i64 s, .slice (some ⟨gs, 0, none⟩) n cs, .slice (some ⟨gm, 0, none⟩) n cm] 27
  have HS := Lib.hid (ownsRow_step hs X.old)
  have HM := Lib.hid (ownsRow_step hm X.old)
  have HX := Lib.hid X
  obtain ⟨r0, r1, r2, r3, r4⟩ := X.cells5
  clear hs hm X
  go_enter Tryz.func19, Tryz.ntmps19
  go_wp2_with fail
  refine (markFloat32S_own B gs n cs 1 xs hn (by omega) _ HS.out).mono ?_
  rintro e w1 ⟨rfl, hs, ho⟩
  have HS1 := Lib.hid hs
  have HO1 := Lib.hid ho
  have HM1 := Lib.hid (ownsRow_onlyX HM.out ho (by simp [Value.ownBlock]; omega))
  have z4 : w1.cell? ⟨w.heap.size, 4, none⟩ = some (.slice (some ⟨gm, 0, none⟩) n cm) := (World.cell?_of_block (ho.block w.heap.size (by simp) (by omega))).trans r4
  clear hs ho HS HM r0 r1 r2 r3 r4
  go_wp2_with fail
  refine (markIntS_own B gm n cm (1 + n) ys hn (by omega) _ HM1.out).mono ?_
  rintro e w2 ⟨rfl, hm, ho⟩
  have HM2 := Lib.hid hm
  have HS2 := Lib.hid (ownsRow_onlyX HS1.out ho (by simp [Value.ownBlock]; omega))
  have HO2 := Lib.hid (Only2.of HX.out.old HO1.out ho)
  clear hm ho HO1 HS1 HM1 HX z4
  go_wp2
  go_ret
  exact ⟨rfl, HS2.out, HM2.out, HO2.out⟩
set_option maxRecDepth 100000 in
set_option maxHeartbeats 1000000 in
theorem heldTile_own (B gs gm n cs cm cx cy : Nat) (d s : Int) (hn : n ≤ 100) (w : World) (hs : w.ownsRow B 57 1 (.slice (some ⟨gs, 0, none⟩) n cs) n (marks markF 1 n)) (hm : w.ownsRow B 3 1 (.slice (some ⟨gm, 0, none⟩) n cm) n (marks markI (1 + n) n)) :
    Calls Tryz.prog 20 #[.agg #[.complex .f32 cx cy, .int .i64 d, .int .i64 s, .slice (some ⟨gs, 0, none⟩) n cs, .slice (some ⟨gm, 0, none⟩) n cm], .int .i64 1] w fun e w' => e = .returned (.int .i64 ((1 + n + n : Nat) : Int)) ∧ Below w.heap.size w w' := by
  have X := Box.new w #[.complex .f32 cx cy, .int .i64 d, .int .i64 s, .slice (some ⟨gs, 0, none⟩) n cs, .slice (some ⟨gm, 0, none⟩) n cm] 27
  have HS := Lib.hid (ownsRow_step hs X.old)
  have HM := Lib.hid (ownsRow_step hm X.old)
  have HX := Lib.hid X
  obtain ⟨r0, r1, r2, r3, r4⟩ := X.cells5
  clear hs hm X
  go_enter Tryz.func20, Tryz.ntmps20
  go_wp2_with fail
  refine (heldFloat32S_own B gs n cs 1 hn (by omega) _ HS.out).mono ?_
  rintro e w1 ⟨rfl, hd⟩
  have HX1 := Lib.hid (HX.out.step (hd.below _))
  have HM1 := Lib.hid (ownsRow_step HM.out (hd.below _))
  clear hd HS HM r0 r1 r2 r3 r4 HX
  obtain ⟨r0, r1, r2, r3, r4⟩ := HX1.out.cells5
  go_wp2_with fail
  refine (heldIntS_own B gm n cm (1 + n) hn (by omega) _ HM1.out).mono ?_
  rintro e w2 ⟨rfl, hd⟩
  have HX2 := Lib.hid (HX1.out.step (hd.below _)).old
  clear hd HM1 HX1 r0 r1 r2 r3 r4
  go_wp2
  go_ret
  exact ⟨rfl, HX2.out⟩
theorem markTile_nil (w : World) :
    Calls Tryz.prog 19 #[.agg #[.complex .f32 0 0, .int .i64 0, .int .i64 0, .slice none 0 0, .slice none 0 0], .int .i64 1] w fun e w' => e = .returned (.int .i64 1) ∧ Below w.heap.size w w' := by
  have X := Box.new w #[.complex .f32 0 0, .int .i64 0, .int .i64 0, .slice none 0 0, .slice none 0 0] 27
  have HF : Hid (∀ w, Calls Tryz.prog 50 #[.slice none 0 0, .int .i64 1] w fun e w' => e = .returned (.int .i64 1) ∧ w = w') := by
    intro w
    go_enter Tryz.func50, Tryz.ntmps50
    go_wp2
    go_loopw [1, 5] (fun t i wr => t = .int .i64 1 ∧ i = .int .i64 0 ∧ wr = w) (fun _ _ _ => 0)
    case atStart => exact ⟨rfl, rfl, rfl⟩
    case round =>
      obtain ⟨rfl, rfl, rfl⟩ := hrel
      go_wp2
      go_ret
      exact ⟨rfl, rfl⟩
  have HI : Hid (∀ w, Calls Tryz.prog 51 #[.slice none 0 0, .int .i64 1] w fun e w' => e = .returned (.int .i64 1) ∧ w = w') := by
    intro w
    go_enter Tryz.func51, Tryz.ntmps51
    go_wp2
    go_loopw [1, 5] (fun t i wr => t = .int .i64 1 ∧ i = .int .i64 0 ∧ wr = w) (fun _ _ _ => 0)
    case atStart => exact ⟨rfl, rfl, rfl⟩
    case round =>
      obtain ⟨rfl, rfl, rfl⟩ := hrel
      go_wp2
      go_ret
      exact ⟨rfl, rfl⟩
  have HO := Lib.hid X.old
  obtain ⟨r0, r1, r2, r3, r4⟩ := X.cells5
  clear X
  go_enter Tryz.func19, Tryz.ntmps19
  go_wp2_with (first | (go_at_call 50; refine (HF.out _).mono ?_; rintro e w' ⟨rfl, rfl⟩) | (go_at_call 51; refine (HI.out _).mono ?_; rintro e w' ⟨rfl, rfl⟩))
  go_ret
  exact ⟨rfl, HO.out⟩
theorem heldTile_nil (w : World) :
    Calls Tryz.prog 20 #[.agg #[.complex .f32 0 0, .int .i64 0, .int .i64 0, .slice none 0 0, .slice none 0 0], .int .i64 1] w fun e w' => e = .returned (.int .i64 1) ∧ Below w.heap.size w w' := by
  have X := Box.new w #[.complex .f32 0 0, .int .i64 0, .int .i64 0, .slice none 0 0, .slice none 0 0] 27
  have HF : Hid (∀ w, Calls Tryz.prog 52 #[.slice none 0 0, .int .i64 1] w fun e w' => e = .returned (.int .i64 1) ∧ w = w') := by
    intro w
    go_enter Tryz.func52, Tryz.ntmps52
    go_wp2
    go_loopw [1, 5] (fun t i wr => t = .int .i64 1 ∧ i = .int .i64 0 ∧ wr = w) (fun _ _ _ => 0)
    case atStart => exact ⟨rfl, rfl, rfl⟩
    case round =>
      obtain ⟨rfl, rfl, rfl⟩ := hrel
      go_wp2
      go_ret
      exact ⟨rfl, rfl⟩
  have HI : Hid (∀ w, Calls Tryz.prog 53 #[.slice none 0 0, .int .i64 1] w fun e w' => e = .returned (.int .i64 1) ∧ w = w') := by
    intro w
    go_enter Tryz.func53, Tryz.ntmps53
    go_wp2
    go_loopw [1, 5] (fun t i wr => t = .int .i64 1 ∧ i = .int .i64 0 ∧ wr = w) (fun _ _ _ => 0)
    case atStart => exact ⟨rfl, rfl, rfl⟩
    case round =>
      obtain ⟨rfl, rfl, rfl⟩ := hrel
      go_wp2
      go_ret
      exact ⟨rfl, rfl⟩
  have HO := Lib.hid X.old
  obtain ⟨r0, r1, r2, r3, r4⟩ := X.cells5
  clear X
  go_enter Tryz.func20, Tryz.ntmps20
  go_wp2_with (first | (go_at_call 52; refine (HF.out _).mono ?_; rintro e w' ⟨rfl, rfl⟩) | (go_at_call 53; refine (HI.out _).mono ?_; rintro e w' ⟨rfl, rfl⟩))
  go_ret
  exact ⟨rfl, HO.out⟩
end Go.Proofs.YtidbdokoonikpaaGreatDoor
end
