/- FnPoint: points of cells are exact. No condition. -/
import Derived.Test.YtdfoobemgdiobaaDoorTptA
import Derived.Test.YtdfoobemgdiobaaDoorTptB
import Derived.Test.YtdfoobemgdiobaaDoorCardP
namespace Go.Proofs.YtdfoobemgdiobaaDoor
open Go.ChangeShapes Go.WideShapes Go.ChangeAt Go.RowKit Flo
attribute [local go_sem] run_store_float run_store_complex

theorem zero_val32 : Val Ieee.single 0 ((0 : Int) * (2 ^ u32 : Nat)) := by
  have := ofInt_val (k := .f32) least32 0 (by show _ < 2 * Ieee.single.binade; rw [single_binade]; omega) (by show (u32 + 2) * Ieee.single.binade ≤ Ieee.single.infRung; rw [u32_eq]; decide)
  have e : floatOfInt .f32 0 = 0 := by kernel_rfl
  rw [e] at this
  exact this
theorem zero_pt (d : Nat) : Pt 0 d 0 := by
  have h := zero_val32
  unfold Pt
  rw [Int.zero_mul] at h ⊢
  exact h
theorem pt_wide (n : Int) {d : Nat} (hd : d ≤ 11) : n * (2 ^ (u32 - d) : Nat) * (2 ^ wup : Nat) = n * (2 ^ (u64 - d) : Nat) := by
  rw [Int.mul_assoc, ← Int.natCast_mul, ← Nat.pow_add, show u32 - d + wup = u64 - d by rw [u32_eq, wup_eq, u64_eq]; omega]
theorem widen_pt {x y d : Nat} {a b : Int} (hd : d ≤ 11) (hx : Pt x d a) (hy : Pt y d b) (w : World) :
    Calls Tryd.prog 10 #[.complex .f32 x y] w fun e w' => (∃ p q, e = .returned (.complex .f64 p q) ∧ Val Ieee.double p (a * (2 ^ (u64 - d) : Nat)) ∧ Val Ieee.double q (b * (2 ^ (u64 - d) : Nat))) ∧ Drw w w' := by
  refine (implWiden_val hx hy w).mono ?_
  rintro e w1 ⟨⟨p, q, rfl, h1, h2⟩, hd1⟩
  rw [pt_wide _ hd] at h1 h2
  exact ⟨⟨p, q, rfl, h1, h2⟩, hd1⟩
theorem ptC_pt {cx cy d : Nat} {A B : Int} (hd : d ≤ 10) (hA : Pt cx d A) (hB : Pt cy d B) (ha : A.natAbs ≤ 4096) (hb : B.natAbs ≤ 4096) (i j : Int) (hi : i.natAbs ≤ 5000) (hj : j.natAbs ≤ 5000) : Pt (ptC cx cy d i j).1 d (A + j) ∧ Pt (ptC cx cy d i j).2 d (B + i) := by
  obtain ⟨p, _, _, h1⟩ := ptF_is (by omega) hA (by omega) j (by omega)
  obtain ⟨q, _, _, h2⟩ := ptF_is (by omega) hB (by omega) i (by omega)
  unfold ptC
  rw [Int.toNat_natCast]
  exact ⟨h1, h2⟩
theorem lowT_le (X Y : Int) (d : Nat) : (lowT X Y d).2.2 ≤ d := (lowT_is X Y d).le
set_option maxRecDepth 100000 in
set_option maxHeartbeats 4000000 in
theorem FnPoint_walk (w : World) (hT : Tab w) (a : Option Addr) (c : Nat) (bs : List UInt8) (_ : bs.length ≤ maxLen) (hc : bs.length ≤ c) (hs : Sl w a (bs.map byteV)) :
    Calls Tryd.prog 3 #[.slice a bs.length c] w fun e w' => e = .returned (.bool true) ∧ Below w.heap.size w w' := by
  by_cases hb : 1048576 < bs.length
  · clear hT hs
    go_enter Tryd.func3, Tryd.ntmps3
    go_wp2
    go_ret
    exact ⟨rfl, Below.refl _ _⟩
  have H := Lib.hid (drawTilePoint_any a c bs (by omega) hc w hs)
  have HT := Lib.hid hT
  clear hs hT
  go_enter Tryd.func3, Tryd.ntmps3
  go_wp2_with fail
  refine H.out.mono ?_
  rintro e w1 ⟨⟨a1, c1, a2, c2, cx, cy, deep, size, xs, ys, row, col, rfl, m0, m1, m2, m3, T⟩, hd⟩
  have R := (Box.new w1 #[.complex .f32 cx cy, .int .i64 deep, .int .i64 size, .slice a1 xs.length c1, .slice a2 ys.length c2] 27).up hd
  replace T := T.step ((Below.refl _ _).alloc (Nat.le_refl _) (.cells #[.complex .f32 cx cy, .int .i64 deep, .int .i64 size, .slice a1 xs.length c1, .slice a2 ys.length c2] 27))
  replace HT := Lib.hid ((HT.out.step hd).step ((Below.refl _ _).alloc (Nat.le_refl _) (.cells #[.complex .f32 cx cy, .int .i64 deep, .int .i64 size, .slice a1 xs.length c1, .slice a2 ys.length c2] 27)))
  have hlim := T.lim
  obtain ⟨q1, q2, q3, q4, -, l1, l2, -⟩ := hlim
  obtain ⟨r0, r1, r2, r3, r4⟩ := R.cells5
  have hwb := R.lt
  clear H hd
  by_cases hbad : wellB size xs.length ys = false ∨ row < 0 ∨ size ≤ row ∨ col < 0 ∨ size ≤ col
  · have HS := Lib.hid (fun w => sameSingle_val (zero_pt 0) (zero_pt 0) w)
    have HBAD := Lib.hid hbad
    clear hbad
    go_wp2_with fail
    refine (implTPoint_bad cx cy deep size T.bx T.by1 T.pl a1 a2 xs.length c1 c2 ys (by omega) row col _ T.s2 HBAD.out).mono ?_
    rintro e w2 ⟨rfl, hd⟩
    replace R := R.step hd
    replace T := T.step hd
    obtain ⟨r0, r1, r2, r3, r4⟩ := R.cells5
    clear hd
    go_wp2_with fail
    refine (specTPoint_bad cx cy deep size T.bx T.by1 T.pl a1 a2 xs.length c1 c2 ys (by omega) row col _ T.s2 HBAD.out).mono ?_
    rintro e w3 ⟨rfl, hd⟩
    replace R := R.step hd
    have HB := Lib.hid R.old
    clear hd R T
    go_wp2_with fail
    refine (HS.out _).mono ?_
    rintro e w4 ⟨rfl, hd⟩
    have HB2 := Lib.hid (HB.out.trans ((hd.below w3.heap.size).mono HB.out.size))
    clear hd
    go_wp2_with fail
    refine (HS.out _).mono ?_
    rintro e w5 ⟨rfl, hd⟩
    have HB3 := Lib.hid (HB2.out.trans ((hd.below w4.heap.size).mono HB2.out.size))
    clear hd
    go_wp2
    go_ret
    exact ⟨rfl, HB3.out⟩
  · have hw : wellB size xs.length ys = true := by
      cases h : wellB size xs.length ys with
      | true => rfl
      | false => exact absurd (.inl h) hbad
    have hrc : 0 ≤ row ∧ row < size ∧ 0 ≤ col ∧ col < size := by
      refine ⟨?_, ?_, ?_, ?_⟩ <;> (apply Classical.byContradiction; intro h; apply hbad) <;> omega
    clear hbad
    obtain ⟨d, A, B, rfl, hd10, hA, hB, -, -, ha, hb'⟩ := place_pts T.bx T.by1 T.pl
    obtain ⟨P1, P2⟩ := ptC_pt hd10 hA hB ha hb' row col (by omega) (by omega)
    obtain ⟨N1, N2⟩ := ptC_pt hd10 hA hB ha hb' row (col + 1) (by omega) (by omega)
    obtain ⟨X, hX⟩ : ∃ X, A + col = X := ⟨_, rfl⟩
    obtain ⟨Y, hY⟩ : ∃ Y, B + row = Y := ⟨_, rfl⟩
    rw [hX] at P1
    rw [hY] at P2 N2
    rw [show A + (col + 1) = X + 1 by omega] at N1
    have hXb : X.natAbs ≤ 8000 := by omega
    have hYb : Y.natAbs ≤ 8000 := by omega
    have HS := Lib.hid (fun w => sameSingle_val P1 P2 w)
    have HWD := Lib.hid (fun w => widen_pt (by omega) P1 P2 w)
    have HW := Lib.hid hw
    clear hw hX hY hA hB ha hb' P1 P2
    have HG := Lib.hid (fun W (hs : Sl W a2 (ys.map intV)) => implTPoint_good cx cy d size T.bx T.by1 T.pl a1 a2 xs.length c1 c2 ys (by omega) row col hrc.1 hrc.2.1 hrc.2.2.1 hrc.2.2.2 W hs HW.out)
    have HG2 := Lib.hid (fun W (hs : Sl W a2 (ys.map intV)) => specTPoint_good cx cy d size T.bx T.by1 T.pl a1 a2 xs.length c1 c2 ys (by omega) row col hrc.1 hrc.2.1 hrc.2.2.1 hrc.2.2.2 W hs HW.out)
    have HN : Hid (∃ (nx ny : Nat) (ok : Bool) (X' Y' : Int), Pt nx d X' ∧ Pt ny d Y' ∧ X'.natAbs ≤ 8192 ∧ Y'.natAbs ≤ 8192 ∧ (ok = true → X' = X + 1 ∧ Y' = Y) ∧ ∀ W, Sl W a2 (ys.map intV) → Calls Tryd.prog 6 #[.agg #[.complex .f32 cx cy, .int .i64 d, .int .i64 size, .slice a1 xs.length c1, .slice a2 ys.length c2], .int .i64 row, .int .i64 (col + 1)] W fun e w' => e = .returned (.tuple #[.complex .f32 nx ny, .bool ok]) ∧ Below W.heap.size W w') := by
      by_cases hn : col + 1 < size
      · exact ⟨_, _, true, X + 1, Y, N1, N2, by omega, by omega, fun _ => ⟨rfl, rfl⟩, fun W hs => implTPoint_good cx cy d size T.bx T.by1 T.pl a1 a2 xs.length c1 c2 ys (by omega) row (col + 1) hrc.1 hrc.2.1 (by omega) hn W hs HW.out⟩
      · exact ⟨0, 0, false, 0, 0, zero_pt d, zero_pt d, by decide, by decide, (fun h => by cases h), fun W hs => implTPoint_bad cx cy d size T.bx T.by1 T.pl a1 a2 xs.length c1 c2 ys (by omega) row (col + 1) W hs (by omega)⟩
    obtain ⟨nx, ny, ok, X', Y', K1, K2, K3, K4, K5, K6⟩ := HN.out
    have HN2 := Lib.hid K6
    have HOK := Lib.hid K5
    have HWN := Lib.hid (fun w => widen_pt (by omega) K1 K2 w)
    clear HN K1 K2 K5 K6 N1 N2
    generalize (ptC cx cy d row col).1 = px at *
    generalize (ptC cx cy d row col).2 = py at *
    have HR := Lib.hid R
    have HTV := Lib.hid T
    clear R T
    go_wp2_with fail
    refine (HG.out _ HTV.out.s2).mono ?_
    rintro e w2 ⟨rfl, hd⟩
    have HR2 := Lib.hid (HR.out.step hd)
    have HTV2 := Lib.hid (HTV.out.step hd)
    have HT2 := Lib.hid (HT.out.step hd)
    clear r0 r1 r2 r3 r4 hd
    obtain ⟨r0, r1, r2, r3, r4⟩ := HR2.out.cells5
    go_wp2_with fail
    refine (HG2.out _ HTV2.out.s2).mono ?_
    rintro e w3 ⟨rfl, hd⟩
    have HR3 := Lib.hid (HR2.out.step hd)
    have HTV3 := Lib.hid (HTV2.out.step hd)
    have HT3 := Lib.hid (HT2.out.step hd)
    clear r0 r1 r2 r3 r4 hd HG HG2 HR2 HTV2 HT2 HR HTV HT
    go_wp2_with fail
    refine (HS.out _).mono ?_
    rintro e w4 ⟨rfl, hd⟩
    have HR := Lib.hid (HR3.out.step (hd.below _))
    have HTV := Lib.hid (HTV3.out.step (hd.below _))
    have HT := Lib.hid (HT3.out.step (hd.below _))
    clear hd HS HR3 HTV3 HT3
    go_wp2_with fail
    refine (HWD.out _).mono ?_
    rintro e w5 ⟨⟨p, q, rfl, V1, V2⟩, hd⟩
    have HR2 := Lib.hid (HR.out.step (hd.below _))
    have HTV2 := Lib.hid (HTV.out.step (hd.below _))
    have HT2 := Lib.hid (HT.out.step (hd.below _))
    have GD := Lib.hid (dyadOf_is (by omega) (by omega) (by omega) V1 V2 _ HT2.out)
    have HADD := Lib.hid (fun w => dyadAdd_is X Y d (by omega) (by omega) (by omega) w)
    have hle := lowT_le X Y d
    obtain ⟨u0, u1, u2, hu⟩ : ∃ u0 u1 u2, lowT X Y d = (u0, u1, u2) := ⟨_, _, _, rfl⟩
    rw [hu] at GD HADD hle
    simp only at hle
    clear V1 V2 hd HWD HR HTV HT hu
    go_wp2_with fail
    refine GD.out.mono ?_
    rintro e w6 ⟨rfl, hd⟩
    have R6 := HR2.out.step hd
    have T6 := HTV2.out.step hd
    have O6 := HT2.out.step hd
    have D7 := (Box.new w6 #[.int .i64 u0, .int .i64 u1, .int .i64 u2] 34).up R6.old
    have R7 := R6.alloc (.cells #[.int .i64 u0, .int .i64 u1, .int .i64 u2] 34)
    have k7 := (Below.refl w6.heap.size w6).alloc (Nat.le_refl _) (.cells #[.int .i64 u0, .int .i64 u1, .int .i64 u2] 34)
    have T7 := T6.step k7
    have O7 := O6.step k7
    have A1 := R7.cell 1 (.int .i64 d) rfl
    have S8 := (Box.new (w6.alloc (.cells #[.int .i64 u0, .int .i64 u1, .int .i64 u2] 34)) #[.int .i64 1, .int .i64 0, .int .i64 d] 34).up R7.old
    rw [show (w6.alloc (.cells #[.int .i64 u0, .int .i64 u1, .int .i64 u2] 34)).heap.size = w6.heap.size + 1 by simp] at S8
    have R8 := R7.alloc (.cells #[.int .i64 1, .int .i64 0, .int .i64 d] 34)
    have D8 := D7.alloc (.cells #[.int .i64 1, .int .i64 0, .int .i64 d] 34)
    have k8 := (Below.refl (w6.alloc (.cells #[.int .i64 u0, .int .i64 u1, .int .i64 u2] 34)).heap.size (w6.alloc (.cells #[.int .i64 u0, .int .i64 u1, .int .i64 u2] 34))).alloc (Nat.le_refl _) (.cells #[.int .i64 1, .int .i64 0, .int .i64 d] 34)
    have HTV8 := Lib.hid (T7.step k8)
    have HT8 := Lib.hid (O7.step k8)
    have HR8 := Lib.hid R8
    have HD8 := Lib.hid D8
    have HS8 := Lib.hid S8
    obtain ⟨r0, r1, r2, r3, r4⟩ := R8.cells5
    clear hd R6 T6 O6 D7 R7 k7 T7 O7 S8 R8 D8 k8 HR2 HTV2 HT2 GD
    go_wp2_with fail
    refine (HN2.out _ HTV8.out.s2).mono ?_
    rintro e w8 ⟨rfl, hd⟩
    have HR9 := Lib.hid (HR8.out.step hd)
    have HD9 := Lib.hid (HD8.out.step hd)
    have HS9 := Lib.hid (HS8.out.step hd)
    have HT9 := Lib.hid (HT8.out.step hd)
    clear hd r0 r1 r2 r3 r4 A1 HR8 HD8 HS8 HT8 HTV8 HN2
    go_wp2_with fail
    refine (HWN.out _).mono ?_
    rintro e w9 ⟨⟨p2, q2, rfl, V1, V2⟩, hd⟩
    have GN := Lib.hid (dyadOf_is (by omega) K3 K4 V1 V2 _ (HT9.out.step (hd.below _)))
    have HR10 := Lib.hid (HR9.out.step (hd.below _))
    have HD10 := Lib.hid (HD9.out.step (hd.below _))
    have HS10 := Lib.hid (HS9.out.step (hd.below _))
    obtain ⟨v0, v1, v2, hv⟩ : ∃ v0 v1 v2, lowT X' Y' d = (v0, v1, v2) := ⟨_, _, _, rfl⟩
    rw [hv] at GN
    obtain ⟨s0, s1, s2, hs'⟩ : ∃ s0 s1 s2, lowT (X + 1) Y d = (s0, s1, s2) := ⟨_, _, _, rfl⟩
    rw [hs'] at HADD
    have HEQ : Hid (ok = true → v0 = s0 ∧ v1 = s1 ∧ v2 = s2) := fun h => by
      obtain ⟨h1, h2⟩ := HOK.out h
      rw [h1, h2, hs'] at hv
      injection hv with e1 e2
      injection e2 with e2 e3
      exact ⟨e1.symm, e2.symm, e3.symm⟩
    clear hd V1 V2 hv hs' HR9 HD9 HS9 HT9 HWN HOK
    go_wp2_with fail
    refine GN.out.mono ?_
    rintro e w10 ⟨rfl, hd⟩
    have R11 := (HR10.out.step hd).alloc (.cells #[.int .i64 v0, .int .i64 v1, .int .i64 v2] 34)
    have D11 := (HD10.out.step hd).alloc (.cells #[.int .i64 v0, .int .i64 v1, .int .i64 v2] 34)
    have S11 := (HS10.out.step hd).alloc (.cells #[.int .i64 v0, .int .i64 v1, .int .i64 v2] 34)
    have E11 := (Box.new w10 #[.int .i64 v0, .int .i64 v1, .int .i64 v2] 34).up (HR10.out.step hd).old
    have HR11 := Lib.hid R11
    have HD11 := Lib.hid D11
    have HS11 := Lib.hid S11
    have HE11 := Lib.hid E11
    obtain ⟨a0, a1', a2'⟩ := D11.cells3
    obtain ⟨b0, b1, b2⟩ := S11.cells3
    clear hd R11 D11 S11 E11 HR10 HD10 HS10 GN
    go_wp2_with fail
    refine (HADD.out _).mono ?_
    rintro e w11 ⟨rfl, hd⟩
    have R12 := (HR11.out.step hd).alloc (.cells #[.int .i64 s0, .int .i64 s1, .int .i64 s2] 34)
    have D12 := (HD11.out.step hd).alloc (.cells #[.int .i64 s0, .int .i64 s1, .int .i64 s2] 34)
    have E12 := (HE11.out.step hd).alloc (.cells #[.int .i64 s0, .int .i64 s1, .int .i64 s2] 34)
    have F12 := (Box.new w11 #[.int .i64 s0, .int .i64 s1, .int .i64 s2] 34).up (HR11.out.step hd).old
    have HB := Lib.hid R12.old
    clear a0 a1' a2' b0 b1 b2
    obtain ⟨a0, a1', a2'⟩ := D12.cells3
    obtain ⟨b0, b1, b2⟩ := E12.cells3
    obtain ⟨f0, f1, f2⟩ := F12.cells3
    have A1 := R12.cell 1 (.int .i64 d) rfl
    have d1 : decide ((u2 : Int) ≤ d) = true := by simp; omega
    clear hd R12 D12 E12 F12 HR11 HD11 HS11 HE11 HADD
    cases ok with
    | true =>
      obtain ⟨rfl, rfl, rfl⟩ := HEQ.out rfl
      go_wp2
      go_ret
      exact ⟨rfl, HB.out⟩
    | false =>
      go_wp2
      go_ret
      exact ⟨rfl, HB.out⟩
set_option maxRecDepth 100000 in
theorem FnPoint_contract (H : Type) (enc : TypeId × Value → H) (W : World) (base : Nat) (args : Array Value) (ds gs : List (DataW H)) (before : List MemPlace)
    (hval : ∀ (j : Nat) t v, Tryd.f3.params[j]? = some t → args[j]? = some v → Value.okWide Tryd.prog W .any base t v)
    (hW : DataW.Whole enc Tryd.prog Tryd.f3.params.toList Rows.fnPointSpec.vars false W args.toList ds gs before) (hL : laidMetH Tryd.prog Rows.fnPointRow.laid W) :
    Calls Tryd.prog 3 args W fun e W' => ∃ v, e = .returned v ∧ Rows.fnPointSpec.post enc Tryd.prog Tryd.f3 false true false false W args v W' := by
  have hW' := hW
  obtain ⟨p, q, hA0, hV, rfl, _, _⟩ := hW
  have hA : DataW.TrodAll enc Tryd.prog W 0 (fun _ => true) true Tryd.f3.params.toList args.toList ds p := hA0
  rw [Tryd.params3] at hA hval
  obtain ⟨v0, vs0, d0, ds0, p0, q0, hargs, rfl, rfl, h0, r0⟩ := trodAll_cons hA
  obtain ⟨rfl, rfl, rfl⟩ := trodAll_nil r0
  obtain rfl : args = #[v0] := by cases args; simp_all
  obtain ⟨rfl, rfl⟩ := trodVars_none hV
  obtain ⟨a0, c0, l0, rfl, n0, m0, s0⟩ := open_bytes Tryd.underlying22 Tryd.underlying5 (by kernel_rfl) (hval 0 22 v0 rfl rfl) h0
  clear hA0
  refine (FnPoint_walk W (tab_of1 hL) a0 c0 l0 n0 m0 s0).mono fun e W' ⟨he, hb⟩ => ⟨_, he, ?_⟩
  exact law_post laidOut (by kernel_rfl) (by kernel_rfl) rfl Tryd.underlying4 hW' rfl rfl rfl hb
set_option maxRecDepth 100000 in
theorem FnPoint_reads (os : Os) {H : Type} (enc : TypeId × Value → H) : ∃ places, DataW.whole enc Tryd.prog ((laidWorldP os).forCall (fun _ _ => 0) ⟨#[], #[.slice none 0 0], []⟩).memory Tryd.f3.params.toList Rows.fnPointSpec.vars false #[(.slice none 0 0 : Value)].toList 8 = some ([.nil], [], places) :=
  ⟨[], by kernel_rfl⟩
set_option maxRecDepth 100000 in
theorem FnPoint_lifted (os : Os) (started : os.Started) (H : Type) (enc : TypeId × Value → H) (F : Stop.Interp) :
    ReturnsInHanded {} Tryd.checked os 3 .any ((OpenSpec.ofChange Rows.fnPointSpec).preRow enc Tryd.prog Tryd.f3 Rows.fnPointRow.domain false Rows.fnPointRow.laid) (((OpenSpec.ofChange Rows.fnPointSpec).at F).post enc Tryd.prog Tryd.f3 false true false false) := by
  obtain ⟨places, hx⟩ := FnPoint_reads os enc
  refine returnsInHanded_of_row (C := Tryd.checked) (s := OpenSpec.ofChange Rows.fnPointSpec) own started (by kernel_rfl) Tryd.func3
    (witness_row_at (enc := enc) (C := Tryd.checked) false (laidWorldP os) #[.slice none 0 0] rfl (by kernel_rfl) (by kernel_rfl) (by kernel_rfl)
      (OpenSpec.preRow_of_cond 8 hx (by kernel_rfl) (fun k hk => by cases hk) (by kernel_rfl) (laid_metP os))) ?_
  intro W base args ds gs before hval hW _ _ _ hL _ _
  exact FnPoint_contract H enc W base args ds gs before hval hW hL
set_option maxRecDepth 100000 in
theorem FnPoint_said : Rows.FnPointSaid :=
  OpenClaim.holds_of_cond 3 Tryd.f3 rfl rfl rfl rfl rfl rfl rfl ⟨rfl, rfl, rfl, rfl, rfl⟩ rfl rfl rfl rfl rfl (by kernel_rfl) Tryd.func3 (by kernel_rfl)
    (of_decide_eq_true (by kernel_rfl)) (by unfold Func.isWrapper; first | (rw [if_pos (by decide +kernel)]; kernel_rfl) | (rw [if_neg (by decide +kernel)]; exact ⟨rfl, rfl⟩))
    (fun os started H enc _ F => by rw [OpenClaim.pre_eq_preRow]; exact FnPoint_lifted os started H enc F)
set_option maxRecDepth 100000 in
theorem FnPoint_plain (f : FuncId) (fn : Func) (hf : Tryd.pinned.checked.prog.funcNamed "loop.example/quadraticorbits/laws.FnPoint" = some f) (hfn : Tryd.pinned.checked.prog.funcs[f]? = some fn) :
    false = Tryd.pinned.checked.prog.looks [] ∧ ∀ (j : Nat) t, fn.params[j]? = some t → Tryd.pinned.checked.prog.wantsStandIn t = false := by
  obtain rfl : f = 3 := Option.some.inj ((show Tryd.prog.funcNamed "loop.example/quadraticorbits/laws.FnPoint" = some 3 by kernel_rfl).symm.trans hf) |>.symm
  obtain rfl : fn = Tryd.f3 := (Option.some.inj (Tryd.func3.symm.trans hfn)).symm
  refine ⟨by kernel_rfl, fun j t ht => ?_⟩
  rw [Tryd.params3] at ht
  obtain rfl : t = 22 := by simpa using Array.mem_of_getElem? ht
  exact (show Tryd.prog.wantsStandIn 22 = false by kernel_rfl)

set_option maxRecDepth 100000 in
theorem FnPoint_holds : Rows.FnPointCardSaid :=
  Claim7.holds_tied_plain_at .later [] _ _ _ _ FnPoint_said (fun _ h => by cases h) (by kernel_rfl) (fun _ h => by cases h) fnPoint_row_tie rfl ⟨rfl, rfl⟩ (by kernel_rfl) rfl FnPoint_plain (by kernel_rfl)
end Go.Proofs.YtdfoobemgdiobaaDoor
