/- FnMirrorAngle: mirrored angles double to mirrored ones. No condition. -/
import Derived.Test.YtcdkhacccbdmdaaDoorAngO
import Derived.Test.YtcdkhacccbdmdaaDoorAngD
import Derived.Deep.RegionWith
import Derived.Test.YtcdkhacccbdmdaaDoorCard
namespace Go.Proofs.YtcdkhacccbdmdaaDoor
open Go.ChangeShapes Go.WideShapes Go.ChangeAt Go.RowKit

/-- what the law says of one angle, in plain numbers -/
def okM (n d : Nat) : Bool :=
  decide (lowN (d - n) d < d) && decide (lowD (d - n) d = d) && (Nat.gcd (lowN (d - n) d) d == 1) &&
  decide (lowN (d - lowN (d - n) d) d = n) && decide (lowD (d - lowN (d - n) d) d = d) &&
  decide (lowN (2 * n) d < lowD (2 * n) d) && decide (lowD (2 * n) d ≤ 1048576) && (Nat.gcd (lowN (2 * n) d) (lowD (2 * n) d) == 1) &&
  decide (lowN (2 * lowN (d - n) d) d = lowN (lowD (2 * n) d - lowN (2 * n) d) (lowD (2 * n) d)) &&
  decide (lowD (2 * lowN (d - n) d) d = lowD (lowD (2 * n) d - lowN (2 * n) d) (lowD (2 * n) d))
theorem okM_small : ∀ d, d < 65 → ∀ n, n < d → Nat.gcd n d = 1 → okM n d = true := by decide +kernel
theorem okM_great : okM 1 1048576 = true := by decide +kernel
set_option maxHeartbeats 4000000 in
theorem FnMirrorAngle_walk (w : World) (hT : Tab w) (a : Option Addr) (c : Nat) (bs : List UInt8) (_ : bs.length ≤ maxLen) (hc : bs.length ≤ c) (hs : Sl w a (bs.map byteV)) :
    Calls Tryd.prog 4 #[.slice a bs.length c] w fun e w' => e = .returned (.bool true) ∧ Below w.heap.size w w' := by
  by_cases hb : 1048576 < bs.length
  · go_enter Tryd.func4, Tryd.ntmps4
    go_wp2
    go_ret
    exact ⟨rfl, Below.refl _ _⟩
  have H := Lib.hid (drawAngleMirror_any a c bs (by omega) hc w hs)
  have HT := Lib.hid hT
  clear hs hT
  go_enter Tryd.func4, Tryd.ntmps4
  go_wp2_with fail
  refine H.out.mono ?_
  rintro e w1 ⟨⟨x, y, rfl, hxy⟩, hb⟩
  have HX := Lib.hid hxy
  clear hxy H
  replace HT := Lib.hid (HT.out.step hb)
  have Ba := (Box.new w1 #[.int .i64 x, .int .i64 y] 24).up hb
  replace HT := Lib.hid (HT.out.step ((Below.refl _ _).alloc (Nat.le_refl _) (.cells #[.int .i64 x, .int .i64 y] 24)))
  clear hb
  have a0 := Ba.cell 0 _ rfl
  have a1 := Ba.cell 1 _ rfl
  cases hok : angleOK x y with
  | false =>
    go_wp2_with fail
    refine (implAngleMirror_any x y _).mono ?_
    rintro e w2 ⟨h1, -, hb⟩
    obtain rfl := h1 hok
    clear h1
    clear a0 a1
    replace Ba := Ba.step hb
    replace HT := Lib.hid (HT.out.step hb)
    have Bo := (Box.new w2 #[.int .i64 0, .int .i64 0] 24).up Ba.old
    replace Ba := Ba.alloc (.cells #[.int .i64 0, .int .i64 0] 24)
    replace HT := Lib.hid (HT.out.step ((Below.refl _ _).alloc (Nat.le_refl _) (.cells #[.int .i64 0, .int .i64 0] 24)))
    clear hb
    have a0 := Ba.cell 0 _ rfl
    have a1 := Ba.cell 1 _ rfl
    have o0 := Bo.cell 0 _ rfl
    have o1 := Bo.cell 1 _ rfl
    go_wp2_with fail
    refine (specAngleMirror_any x y _).mono ?_
    rintro e w3 ⟨h1, -, hb⟩
    obtain rfl := h1 hok
    clear h1
    clear a0 a1 o0 o1
    replace Ba := Ba.step hb
    replace Bo := Bo.step hb
    replace HT := Lib.hid (HT.out.step hb)
    have Bu := (Box.new w3 #[.int .i64 0, .int .i64 0] 24).up Ba.old
    replace Ba := Ba.alloc (.cells #[.int .i64 0, .int .i64 0] 24)
    replace Bo := Bo.alloc (.cells #[.int .i64 0, .int .i64 0] 24)
    replace HT := Lib.hid (HT.out.step ((Below.refl _ _).alloc (Nat.le_refl _) (.cells #[.int .i64 0, .int .i64 0] 24)))
    clear hb
    have a0 := Ba.cell 0 _ rfl
    have a1 := Ba.cell 1 _ rfl
    have o0 := Bo.cell 0 _ rfl
    have o1 := Bo.cell 1 _ rfl
    have u0 := Bu.cell 0 _ rfl
    have u1 := Bu.cell 1 _ rfl
    have HB := Lib.hid Ba.old
    clear Ba Bo Bu
    go_wp2
    go_ret
    exact ⟨rfl, HB.out⟩
  | true =>
    obtain ⟨n, d, rfl, rfl, hnd, hd, hg⟩ := angleOK_nat hok
    have hper : (d : Int) ≤ 64 ∨ 5000 < (d : Int) := by
      rcases HX.out with h | ⟨h1, h2⟩
      · exact .inl h
      · exact .inr (by omega)
    have hM : okM n d = true := by
      rcases HX.out with h | ⟨h1, h2⟩
      · exact okM_small d (by omega) n hnd hg
      · obtain rfl : n = 1 := by omega
        obtain rfl : d = 1048576 := by omega
        exact okM_great
    simp only [okM, Bool.and_eq_true, decide_eq_true_eq, beq_iff_eq] at hM
    obtain ⟨⟨⟨⟨⟨⟨⟨⟨⟨q1, q2⟩, q3⟩, q4⟩, q5⟩, q6⟩, q7⟩, q8⟩, q9⟩, q10⟩ := hM
    generalize hm : lowN (d - n) d = m at *
    generalize hy1 : lowN (2 * n) d = y1 at *
    generalize hy2 : lowD (2 * n) d = y2 at *
    generalize hz1 : lowN (2 * m) d = z1 at *
    generalize hz2 : lowD (2 * m) d = z2 at *
    have okm : angleOK (m : Int) d = true := by rw [angleOK_of q1 hd, q3]; rfl
    have oky : angleOK (y1 : Int) y2 = true := by rw [angleOK_of q6 q7, q8]; rfl
    have C1 : Hid (∀ w, Calls Tryd.prog 16 #[.agg #[.int .i64 n, .int .i64 d]] w fun e w' => e = .returned (.tuple #[.agg #[.int .i64 m, .int .i64 d], .bool true]) ∧ Below w.heap.size w w') := fun w => (implAngleMirror_any n d w).mono fun e w' h => ⟨by have := h.2.1 n d rfl rfl hok; rwa [hm, q2] at this, h.2.2⟩
    have C2 : Hid (∀ w, Calls Tryd.prog 17 #[.agg #[.int .i64 n, .int .i64 d]] w fun e w' => e = .returned (.tuple #[.agg #[.int .i64 m, .int .i64 d], .bool true]) ∧ Below w.heap.size w w') := fun w => (specAngleMirror_any n d w).mono fun e w' h => ⟨by have := h.2.1 n d rfl rfl hok; rwa [hm, q2] at this, h.2.2⟩
    have C3 : Hid (∀ w, Calls Tryd.prog 16 #[.agg #[.int .i64 m, .int .i64 d]] w fun e w' => e = .returned (.tuple #[.agg #[.int .i64 n, .int .i64 d], .bool true]) ∧ Below w.heap.size w w') := fun w => (implAngleMirror_any m d w).mono fun e w' h => ⟨by have := h.2.1 m d rfl rfl okm; rwa [q4, q5] at this, h.2.2⟩
    have C4 : Hid (∀ w, Calls Tryd.prog 14 #[.agg #[.int .i64 m, .int .i64 d]] w fun e w' => e = .returned (.tuple #[.agg #[.int .i64 z1, .int .i64 z2], .bool true]) ∧ Below w.heap.size w w') := fun w => (implAngleDouble_any m d w).mono fun e w' h => ⟨by have := h.2.1 m d rfl rfl okm; rwa [hz1, hz2] at this, h.2.2⟩
    have C5 : Hid (∀ w, Calls Tryd.prog 14 #[.agg #[.int .i64 n, .int .i64 d]] w fun e w' => e = .returned (.tuple #[.agg #[.int .i64 y1, .int .i64 y2], .bool true]) ∧ Below w.heap.size w w') := fun w => (implAngleDouble_any n d w).mono fun e w' h => ⟨by have := h.2.1 n d rfl rfl hok; rwa [hy1, hy2] at this, h.2.2⟩
    have C6 : Hid (∀ w, Calls Tryd.prog 16 #[.agg #[.int .i64 y1, .int .i64 y2]] w fun e w' => e = .returned (.tuple #[.agg #[.int .i64 z1, .int .i64 z2], .bool true]) ∧ Below w.heap.size w w') := fun w => (implAngleMirror_any y1 y2 w).mono fun e w' h => ⟨by have := h.2.1 y1 y2 rfl rfl oky; rwa [← q9, ← q10] at this, h.2.2⟩
    obtain ⟨P1, P2, P3, C7, C8⟩ : ∃ (P1 P2 : Int) (P3 : Bool), Hid (∀ w, Tab w → Calls Tryd.prog 12 #[.agg #[.int .i64 n, .int .i64 d]] w fun e w' => e = .returned (.tuple #[.int .i64 P1, .int .i64 P2, .bool P3]) ∧ Below w.heap.size w w') ∧
        Hid (∀ w, Tab w → Calls Tryd.prog 12 #[.agg #[.int .i64 m, .int .i64 d]] w fun e w' => e = .returned (.tuple #[.int .i64 P1, .int .i64 P2, .bool P3]) ∧ Below w.heap.size w w') := by
      rcases hper with h | h
      · exact ⟨_, _, _, fun w hT => (implAnglePeriod_any n d (.inl h) w hT).mono fun e w' k => ⟨k.2.1 d rfl h hok, k.2.2⟩, fun w hT => (implAnglePeriod_any m d (.inl h) w hT).mono fun e w' k => ⟨k.2.1 d rfl h okm, k.2.2⟩⟩
      · exact ⟨_, _, _, fun w hT => (implAnglePeriod_any n d (.inr h) w hT).mono fun e w' k => ⟨k.1 (.inr h), k.2.2⟩, fun w hT => (implAnglePeriod_any m d (.inr h) w hT).mono fun e w' k => ⟨k.1 (.inr h), k.2.2⟩⟩
    have r3 : (P3 == P3) = true := by simp
    clear hm hy1 hy2 hz1 hz2 q1 q2 q3 q4 q5 q6 q7 q8 q9 q10 okm oky hper HX hnd hd hg hok hc
    go_wp2_with fail
    refine (C1.out _).mono ?_
    rintro e w2 ⟨rfl, hb⟩
    clear a0 a1
    replace Ba := Ba.step hb
    replace HT := Lib.hid (HT.out.step hb)
    have Bo := (Box.new w2 #[.int .i64 m, .int .i64 d] 24).up Ba.old
    replace Ba := Ba.alloc (.cells #[.int .i64 m, .int .i64 d] 24)
    replace HT := Lib.hid (HT.out.step ((Below.refl _ _).alloc (Nat.le_refl _) (.cells #[.int .i64 m, .int .i64 d] 24)))
    clear hb
    have a0 := Ba.cell 0 _ rfl
    have a1 := Ba.cell 1 _ rfl
    have o0 := Bo.cell 0 _ rfl
    have o1 := Bo.cell 1 _ rfl
    go_wp2_with fail
    refine (C2.out _).mono ?_
    rintro e w3 ⟨rfl, hb⟩
    clear a0 a1 o0 o1
    replace Ba := Ba.step hb
    replace Bo := Bo.step hb
    replace HT := Lib.hid (HT.out.step hb)
    have Bu := (Box.new w3 #[.int .i64 m, .int .i64 d] 24).up Ba.old
    replace Ba := Ba.alloc (.cells #[.int .i64 m, .int .i64 d] 24)
    replace Bo := Bo.alloc (.cells #[.int .i64 m, .int .i64 d] 24)
    replace HT := Lib.hid (HT.out.step ((Below.refl _ _).alloc (Nat.le_refl _) (.cells #[.int .i64 m, .int .i64 d] 24)))
    clear hb
    have a0 := Ba.cell 0 _ rfl
    have a1 := Ba.cell 1 _ rfl
    have o0 := Bo.cell 0 _ rfl
    have o1 := Bo.cell 1 _ rfl
    have u0 := Bu.cell 0 _ rfl
    have u1 := Bu.cell 1 _ rfl
    go_wp2_with fail
    refine (C3.out _).mono ?_
    rintro e w4 ⟨rfl, hb⟩
    clear a0 a1 o0 o1 u0 u1
    replace Ba := Ba.step hb
    replace Bo := Bo.step hb
    replace Bu := Bu.step hb
    replace HT := Lib.hid (HT.out.step hb)
    have Bk := (Box.new w4 #[.int .i64 n, .int .i64 d] 24).up Ba.old
    replace Ba := Ba.alloc (.cells #[.int .i64 n, .int .i64 d] 24)
    replace Bo := Bo.alloc (.cells #[.int .i64 n, .int .i64 d] 24)
    replace Bu := Bu.alloc (.cells #[.int .i64 n, .int .i64 d] 24)
    replace HT := Lib.hid (HT.out.step ((Below.refl _ _).alloc (Nat.le_refl _) (.cells #[.int .i64 n, .int .i64 d] 24)))
    clear hb
    have o0 := Bo.cell 0 _ rfl
    have o1 := Bo.cell 1 _ rfl
    have a0 := Ba.cell 0 _ rfl
    have a1 := Ba.cell 1 _ rfl
    go_wp2_with fail
    refine (C4.out _).mono ?_
    rintro e w5 ⟨rfl, hb⟩
    clear o0 o1 a0 a1
    replace Ba := Ba.step hb
    replace Bo := Bo.step hb
    replace Bu := Bu.step hb
    replace Bk := Bk.step hb
    replace HT := Lib.hid (HT.out.step hb)
    have Bx := (Box.new w5 #[.int .i64 z1, .int .i64 z2] 24).up Ba.old
    replace Ba := Ba.alloc (.cells #[.int .i64 z1, .int .i64 z2] 24)
    replace Bo := Bo.alloc (.cells #[.int .i64 z1, .int .i64 z2] 24)
    replace Bu := Bu.alloc (.cells #[.int .i64 z1, .int .i64 z2] 24)
    replace Bk := Bk.alloc (.cells #[.int .i64 z1, .int .i64 z2] 24)
    replace HT := Lib.hid (HT.out.step ((Below.refl _ _).alloc (Nat.le_refl _) (.cells #[.int .i64 z1, .int .i64 z2] 24)))
    clear hb
    have a0 := Ba.cell 0 _ rfl
    have a1 := Ba.cell 1 _ rfl
    go_wp2_with fail
    refine (C5.out _).mono ?_
    rintro e w6 ⟨rfl, hb⟩
    clear a0 a1
    replace Ba := Ba.step hb
    replace Bo := Bo.step hb
    replace Bu := Bu.step hb
    replace Bk := Bk.step hb
    replace Bx := Bx.step hb
    replace HT := Lib.hid (HT.out.step hb)
    have By := (Box.new w6 #[.int .i64 y1, .int .i64 y2] 24).up Ba.old
    replace Ba := Ba.alloc (.cells #[.int .i64 y1, .int .i64 y2] 24)
    replace Bo := Bo.alloc (.cells #[.int .i64 y1, .int .i64 y2] 24)
    replace Bu := Bu.alloc (.cells #[.int .i64 y1, .int .i64 y2] 24)
    replace Bk := Bk.alloc (.cells #[.int .i64 y1, .int .i64 y2] 24)
    replace Bx := Bx.alloc (.cells #[.int .i64 y1, .int .i64 y2] 24)
    replace HT := Lib.hid (HT.out.step ((Below.refl _ _).alloc (Nat.le_refl _) (.cells #[.int .i64 y1, .int .i64 y2] 24)))
    clear hb
    have y0 := By.cell 0 _ rfl
    have y1 := By.cell 1 _ rfl
    have a0 := Ba.cell 0 _ rfl
    have a1 := Ba.cell 1 _ rfl
    go_wp2_with fail
    refine (C6.out _).mono ?_
    rintro e w7 ⟨rfl, hb⟩
    clear y0 y1 a0 a1
    replace Ba := Ba.step hb
    replace Bo := Bo.step hb
    replace Bu := Bu.step hb
    replace Bk := Bk.step hb
    replace Bx := Bx.step hb
    replace By := By.step hb
    replace HT := Lib.hid (HT.out.step hb)
    have Bz := (Box.new w7 #[.int .i64 z1, .int .i64 z2] 24).up Ba.old
    replace Ba := Ba.alloc (.cells #[.int .i64 z1, .int .i64 z2] 24)
    replace Bo := Bo.alloc (.cells #[.int .i64 z1, .int .i64 z2] 24)
    replace Bu := Bu.alloc (.cells #[.int .i64 z1, .int .i64 z2] 24)
    replace Bk := Bk.alloc (.cells #[.int .i64 z1, .int .i64 z2] 24)
    replace Bx := Bx.alloc (.cells #[.int .i64 z1, .int .i64 z2] 24)
    replace By := By.alloc (.cells #[.int .i64 z1, .int .i64 z2] 24)
    replace HT := Lib.hid (HT.out.step ((Below.refl _ _).alloc (Nat.le_refl _) (.cells #[.int .i64 z1, .int .i64 z2] 24)))
    clear hb
    have a0 := Ba.cell 0 _ rfl
    have a1 := Ba.cell 1 _ rfl
    have o0 := Bo.cell 0 _ rfl
    have o1 := Bo.cell 1 _ rfl
    go_wp2_with fail
    refine (C7.out _ HT.out).mono ?_
    rintro e w8 ⟨rfl, hb⟩
    clear a0 a1 o0 o1
    replace Ba := Ba.step hb
    replace Bo := Bo.step hb
    replace Bu := Bu.step hb
    replace Bk := Bk.step hb
    replace Bx := Bx.step hb
    replace By := By.step hb
    replace Bz := Bz.step hb
    replace HT := Lib.hid (HT.out.step hb)
    clear hb
    have o0 := Bo.cell 0 _ rfl
    have o1 := Bo.cell 1 _ rfl
    have a0 := Ba.cell 0 _ rfl
    have a1 := Ba.cell 1 _ rfl
    go_wp2_with fail
    refine (C8.out _ HT.out).mono ?_
    rintro e w9 ⟨rfl, hb⟩
    clear o0 o1 a0 a1
    replace Ba := Ba.step hb
    replace Bo := Bo.step hb
    replace Bu := Bu.step hb
    replace Bk := Bk.step hb
    replace Bx := Bx.step hb
    replace By := By.step hb
    replace Bz := Bz.step hb
    replace HT := Lib.hid (HT.out.step hb)
    clear hb
    have k0 := Bk.cell 0 _ rfl
    have k1 := Bk.cell 1 _ rfl
    have a0 := Ba.cell 0 _ rfl
    have a1 := Ba.cell 1 _ rfl
    have x0 := Bx.cell 0 _ rfl
    have x1 := Bx.cell 1 _ rfl
    have z0 := Bz.cell 0 _ rfl
    have z1 := Bz.cell 1 _ rfl
    have HB := Lib.hid Ba.old
    clear Ba Bo Bu Bk Bx By Bz
    go_wp2
    go_ret
    exact ⟨rfl, HB.out⟩
set_option maxRecDepth 100000 in
theorem FnMirrorAngle_contract (H : Type) (enc : TypeId × Value → H) (W : World) (base : Nat) (args : Array Value) (ds gs : List (DataW H)) (before : List MemPlace)
    (hval : ∀ (j : Nat) t v, Tryd.f4.params[j]? = some t → args[j]? = some v → Value.okWide Tryd.prog W .any base t v)
    (hW : DataW.Whole enc Tryd.prog Tryd.f4.params.toList Rows.fnMirrorAngleSpec.vars false W args.toList ds gs before) (hL : laidMetH Tryd.prog Rows.fnMirrorAngleRow.laid W) :
    Calls Tryd.prog 4 args W fun e W' => ∃ v, e = .returned v ∧ Rows.fnMirrorAngleSpec.post enc Tryd.prog Tryd.f4 false true false false W args v W' := by
  have hW' := hW
  obtain ⟨p, q, hA0, hV, rfl, _, _⟩ := hW
  have hA : DataW.TrodAll enc Tryd.prog W 0 (fun _ => true) true Tryd.f4.params.toList args.toList ds p := hA0
  rw [Tryd.params4] at hA hval
  obtain ⟨v0, vs0, d0, ds0, p0, q0, hargs, rfl, rfl, h0, r0⟩ := trodAll_cons hA
  obtain ⟨rfl, rfl, rfl⟩ := trodAll_nil r0
  obtain rfl : args = #[v0] := by cases args; simp_all
  obtain ⟨rfl, rfl⟩ := trodVars_none hV
  obtain ⟨a0, c0, l0, rfl, n0, m0, s0⟩ := open_bytes Tryd.underlying22 Tryd.underlying5 (by kernel_rfl) (hval 0 22 v0 rfl rfl) h0
  clear hA0
  refine (FnMirrorAngle_walk W (tab_of hL) a0 c0 l0 n0 m0 s0).mono fun e W' ⟨he, hb⟩ => ⟨_, he, ?_⟩
  exact law_post laidOut (by kernel_rfl) (by kernel_rfl) rfl Tryd.underlying4 hW' rfl rfl rfl hb
set_option maxRecDepth 100000 in
theorem FnMirrorAngle_reads (os : Os) {H : Type} (enc : TypeId × Value → H) : ∃ places, DataW.whole enc Tryd.prog ((laidWorld os).forCall (fun _ _ => 0) ⟨#[], #[.slice none 0 0], []⟩).memory Tryd.f4.params.toList Rows.fnMirrorAngleSpec.vars false #[Value.slice none 0 0].toList 8 = some ([.nil], [], places) :=
  ⟨[], by kernel_rfl⟩
set_option maxRecDepth 100000 in
theorem FnMirrorAngle_lifted (os : Os) (started : os.Started) (H : Type) (enc : TypeId × Value → H) (F : Stop.Interp) :
    ReturnsInHanded {} Tryd.checked os 4 .any ((OpenSpec.ofChange Rows.fnMirrorAngleSpec).preRow enc Tryd.prog Tryd.f4 Rows.fnMirrorAngleRow.domain false Rows.fnMirrorAngleRow.laid) (((OpenSpec.ofChange Rows.fnMirrorAngleSpec).at F).post enc Tryd.prog Tryd.f4 false true false false) := by
  obtain ⟨places, hx⟩ := FnMirrorAngle_reads os enc
  refine returnsInHanded_of_row (C := Tryd.checked) (s := OpenSpec.ofChange Rows.fnMirrorAngleSpec) own started (by kernel_rfl) Tryd.func4
    (witness_row_at (enc := enc) (C := Tryd.checked) false (laidWorld os) #[.slice none 0 0] rfl (by kernel_rfl) (by kernel_rfl) (by kernel_rfl)
      (OpenSpec.preRow_of_cond 8 hx (by kernel_rfl) (fun k hk => by cases hk) (by kernel_rfl) (laid_met os))) ?_
  intro W base args ds gs before hval hW _ _ _ hL _ _
  exact FnMirrorAngle_contract H enc W base args ds gs before hval hW hL
set_option maxRecDepth 100000 in
theorem FnMirrorAngle_said : Rows.FnMirrorAngleSaid :=
  OpenClaim.holds_of_cond 4 Tryd.f4 rfl rfl rfl rfl rfl rfl rfl ⟨rfl, rfl, rfl, rfl, rfl⟩ rfl rfl rfl rfl rfl (by kernel_rfl) Tryd.func4 (by kernel_rfl)
    (of_decide_eq_true (by kernel_rfl)) (by unfold Func.isWrapper; first | (rw [if_pos (by decide +kernel)]; kernel_rfl) | (rw [if_neg (by decide +kernel)]; exact ⟨rfl, rfl⟩))
    (fun os started H enc _ F => by rw [OpenClaim.pre_eq_preRow]; exact FnMirrorAngle_lifted os started H enc F)
set_option maxRecDepth 100000 in
theorem FnMirrorAngle_plain (f : FuncId) (fn : Func) (hf : Tryd.pinned.checked.prog.funcNamed "loop.example/quadraticorbits/laws.FnMirrorAngle" = some f) (hfn : Tryd.pinned.checked.prog.funcs[f]? = some fn) :
    true = Tryd.pinned.checked.prog.looks [] ∧ ∀ (j : Nat) t, fn.params[j]? = some t → Tryd.pinned.checked.prog.wantsStandIn t = false := by
  obtain rfl : f = 4 := Option.some.inj ((show Tryd.prog.funcNamed "loop.example/quadraticorbits/laws.FnMirrorAngle" = some 4 by kernel_rfl).symm.trans hf) |>.symm
  obtain rfl : fn = Tryd.f4 := (Option.some.inj (Tryd.func4.symm.trans hfn)).symm
  refine ⟨by kernel_rfl, fun j t ht => ?_⟩
  rw [Tryd.params4] at ht
  obtain rfl : t = 22 := by simpa using Array.mem_of_getElem? ht
  exact (show Tryd.prog.wantsStandIn 22 = false by kernel_rfl)

set_option maxRecDepth 100000 in
theorem FnMirrorAngle_holds : Rows.FnMirrorAngleCardSaid :=
  Claim7.holds_tied_plain_at .later [] _ _ _ _ FnMirrorAngle_said (fun _ h => by cases h) (by kernel_rfl) (fun _ h => by cases h) fnMirrorAngle_row_tie rfl ⟨rfl, rfl⟩ (by kernel_rfl) rfl FnMirrorAngle_plain (by kernel_rfl)
end Go.Proofs.YtcdkhacccbdmdaaDoor
