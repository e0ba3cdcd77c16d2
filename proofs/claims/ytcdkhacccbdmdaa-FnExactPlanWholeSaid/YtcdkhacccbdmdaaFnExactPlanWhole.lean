/- FnExactPlanWhole: the program's PlanWhole returns what the reference's returns, for all arguments. No condition. -/
import Derived.Test.YtcdkhacccbdmdaaPlanL
import Derived.Test.YtcdkhacccbdmdaaWholeW
import Derived.Deep.RegionWith
namespace Go.Proofs.Ytcdkhacccbdmdaa
open Go.ChangeShapes Go.WideShapes Go.ChangeAt Go.RowKit

set_option maxHeartbeats 2000000 in
theorem FnExactPlanWhole_walk (w : World) (v : Value) (h : PlanIn w v) :
    Calls Try.prog 4 #[v] w fun e w' => e = .returned (.bool true) ∧ Below w.heap.size w w' := by
  obtain ⟨a, a2, c, c2, ss, ms, p, q, r, rfl, hn, hm, hl, hs, hs2, _, hp, hq, hr⟩ := h
  have HL := Lib.hid hl
  have HN := Lib.hid hn
  have HM := Lib.hid hm
  have B := Box.new w #[.slice a ss.length c, .slice a2 ms.length c2, .int .i64 p, .int .i64 q, .int .i64 r] 33
  have S1 := Lib.hid (hs.alloc (.cells #[.slice a ss.length c, .slice a2 ms.length c2, .int .i64 p, .int .i64 q, .int .i64 r] 33))
  have S2 := Lib.hid (hs2.alloc (.cells #[.slice a ss.length c, .slice a2 ms.length c2, .int .i64 p, .int .i64 q, .int .i64 r] 33))
  have HB := Lib.hid (szPl_bd ss ms.length 1048576 (by omega))
  have HZ := Lib.hid (fun w => szPlan_any a a2 c c2 ms.length p q r ss 1048576 (by omega) (by omega) hn hm hl w)
  clear hl hs hs2 hn hm
  generalize szPl ss ms.length 1048576 = z at *
  by_cases hz : z < 0
  · go_enter Try.func4, Try.ntmps4
    go_wp2_with (go_at_call 12; refine (HZ.out _ S1.out).mono ?_; rintro e w1 ⟨rfl, hd⟩)
    go_ret
    exact ⟨rfl, B.old.trans (hd.mono (by simp))⟩
  · obtain ⟨hn, hm, hl⟩ := HB.out hz
    have hn' : ss.length ≤ 1048576 := by omega
    have hm' : ms.length ≤ 1048576 := by omega
    have HL' : Hid (∀ s ∈ ss, s.size ≤ 1048576) := fun s hs => by have := hl s hs; omega
    have hmax := HN.out
    clear HB hl hn hm HN HM HL
    have hzz : (decide (z < 0)) = false := by simpa using hz
    go_enter Try.func4, Try.ntmps4
    go_wp2_with fail
    refine (HZ.out _ S1.out).mono ?_
    rintro e w1 ⟨rfl, hd⟩
    clear HZ
    replace B := B.step hd
    have T1 := Lib.hid (S1.out.step hd)
    have T2 := Lib.hid (S2.out.step hd)
    clear S1 S2 hd
    have b0 := B.cell 0 _ rfl
    have b1 := B.cell 1 _ rfl
    have b2 := B.cell 2 _ rfl
    have b3 := B.cell 3 _ rfl
    have b4 := B.cell 4 _ rfl
    go_wp2_with fail
    refine (toPlan_any a a2 c c2 p q r ss ms hn' hm' _ T1.out T2.out).mono ?_
    rintro e w2 ⟨x1, x2, rfl, K1, K2, hd⟩
    replace B := B.step hd
    have T1' := Lib.hid (T1.out.step hd)
    have T2' := Lib.hid (T2.out.step hd)
    have HK1 := Lib.hid K1
    clear T1 T2 hd b0 b1 b2 b3 b4 K1 K2
    go_wp2_with fail
    refine (specPlanWhole_any _ _ _ _ _ p q r ss hn' HL'.out _ HK1.out).mono ?_
    rintro e w3 ⟨rfl, hd⟩
    replace B := B.step hd
    have T1 := Lib.hid (T1'.out.step hd)
    have T2 := Lib.hid (T2'.out.step hd)
    clear T1' T2' hd HK1
    have HI := Lib.hid (fun a a2 c m c2 hc hc2 w => implPlanWhole_any a a2 c m c2 p q r ss hn' hc hc2 HL'.out w)
    generalize hD : planWhole ss ms.length = D at *
    have b0 := B.cell 0 _ rfl
    have b1 := B.cell 1 _ rfl
    have b2 := B.cell 2 _ rfl
    have b3 := B.cell 3 _ rfl
    have b4 := B.cell 4 _ rfl
    go_wp2_with fail
    refine (toPlan_any a a2 c c2 p q r ss ms hn' hm' _ T1.out T2.out).mono ?_
    rintro e w4 ⟨y1, y2, rfl, K1, K2, hd⟩
    have hB0 := (B.step hd).lt
    replace B := (B.step hd).alloc (.cells #[.slice (some ⟨y1, 0, none⟩) ss.length ss.length, .slice (some ⟨y2, 0, none⟩) ms.length ms.length, .int .i64 p, .int .i64 q, .int .i64 r] 36)
    have X := (Box.new w4 #[.slice (some ⟨y1, 0, none⟩) ss.length ss.length, .slice (some ⟨y2, 0, none⟩) ms.length ms.length, .int .i64 p, .int .i64 q, .int .i64 r] 36)
    have hX : w.heap.size < w4.heap.size := hB0
    have T1' := Lib.hid ((T1.out.step hd).alloc (.cells #[.slice (some ⟨y1, 0, none⟩) ss.length ss.length, .slice (some ⟨y2, 0, none⟩) ms.length ms.length, .int .i64 p, .int .i64 q, .int .i64 r] 36))
    have T2' := Lib.hid ((T2.out.step hd).alloc (.cells #[.slice (some ⟨y1, 0, none⟩) ss.length ss.length, .slice (some ⟨y2, 0, none⟩) ms.length ms.length, .int .i64 p, .int .i64 q, .int .i64 r] 36))
    have HK1 := Lib.hid (K1.alloc (.cells #[.slice (some ⟨y1, 0, none⟩) ss.length ss.length, .slice (some ⟨y2, 0, none⟩) ms.length ms.length, .int .i64 p, .int .i64 q, .int .i64 r] 36))
    have HK2 := Lib.hid (K2.alloc (.cells #[.slice (some ⟨y1, 0, none⟩) ss.length ss.length, .slice (some ⟨y2, 0, none⟩) ms.length ms.length, .int .i64 p, .int .i64 q, .int .i64 r] 36))
    clear T1 T2 hd b0 b1 b2 b3 b4 K1 K2
    go_wp2_with fail
    refine (HI.out _ _ _ _ _ (Nat.le_refl _) hmax _ HK1.out).mono ?_
    rw [hD]
    rintro e w5 ⟨rfl, hd⟩
    replace B := B.step hd
    replace X := X.step hd
    have U1 := Lib.hid (T1'.out.step hd)
    have U2 := Lib.hid (T2'.out.step hd)
    have L1 := Lib.hid (HK1.out.step hd)
    have L2 := Lib.hid (HK2.out.step hd)
    clear T1' T2' HK1 HK2 hd HI
    have b0 := B.cell 0 _ rfl
    have b1 := B.cell 1 _ rfl
    have b2 := B.cell 2 _ rfl
    have b3 := B.cell 3 _ rfl
    have b4 := B.cell 4 _ rfl
    have x0 := X.cell 0 _ rfl
    have x1 := X.cell 1 _ rfl
    have x2 := X.cell 2 _ rfl
    have x3 := X.cell 3 _ rfl
    have x4 := X.cell 4 _ rfl
    have e2 : (D != D) = false := by simp
    go_wp2_with fail
    go_region_with (first
      | (go_at_call 14
         refine (toPlan_any a a2 c c2 p q r ss ms hn' hm' _ (U1.out.drw (Drw.refl _).drew) (U2.out.drw (Drw.refl _).drew)).mono ?_
         rintro e w6 ⟨z1, z2, rfl, M1, M2, hd⟩
         replace B := B.step (((Drw.refl _).drew.below _).trans hd)
         replace X := X.step (((Drw.refl _).drew.below _).trans hd)
         have V1 := Lib.hid (L1.out.step (((Drw.refl _).drew.below _).trans hd))
         have V2 := Lib.hid (L2.out.step (((Drw.refl _).drew.below _).trans hd))
         have x0 := X.cell 0 _ rfl
         have x1 := X.cell 1 _ rfl
         have x2 := X.cell 2 _ rfl
         have x3 := X.cell 3 _ rfl
         have x4 := X.cell 4 _ rfl)
      | (go_at_call 16
         refine (eqPlan_same _ _ _ _ _ _ _ _ p q r ss ms hn' hm' _ V1.out V2.out M1 M2).mono ?_
         rintro e w7 ⟨rfl, hd⟩
         replace B := B.step hd))
    all_goals
      go_wp2
      go_ret
      exact ⟨rfl, B.old⟩
set_option maxRecDepth 100000 in
theorem FnExactPlanWhole_lifted (os : Os) (started : os.Started) (H : Type) (enc : TypeId × Value → H) :
    ReturnsInHanded {} Try.checked os 4 .any (Rows.fnExactPlanWholeSpec.pre6 enc Try.prog Try.f4 Rows.fnExactPlanWholeRow.domain false) (Rows.fnExactPlanWholeSpec.post enc Try.prog Try.f4 false true false false) := by
  refine returnsInHanded_of_change (C := Try.checked) own started (by kernel_rfl) Try.func4
    (ChangeSpec.witness6 (enc := enc) (C := Try.checked) false ⟨#[], #[.agg #[.slice none 0 0, .slice none 0 0, .int .i64 0, .int .i64 0, .int .i64 0]], []⟩ 8 (by kernel_rfl) (by kernel_rfl) (by kernel_rfl) (by kernel_rfl)) ?_
  intro W base args ds gs before hval0 hW _ _
  have hval : ∀ (j : Nat) t v, Try.f4.params[j]? = some t → args[j]? = some v → Value.okWide Try.prog W .any base t v := hval0
  have hW' := hW
  obtain ⟨p, q, hA0, hV, rfl, _, _⟩ := hW
  have hA : DataW.TrodAll enc Try.prog W 0 (fun _ => true) true Try.f4.params.toList args.toList ds p := hA0
  rw [Try.params4] at hA hval
  obtain ⟨v0, vs0, d0, ds0, p0, q0, hargs, rfl, rfl, h0, r0⟩ := trodAll_cons hA
  obtain ⟨rfl, rfl, rfl⟩ := trodAll_nil r0
  obtain rfl : args = #[v0] := by cases args; simp_all
  obtain ⟨rfl, rfl⟩ := trodVars_none hV
  have t0 := open_plan (hval 0 33 v0 rfl rfl) h0
  clear hA0 hval0
  refine (FnExactPlanWhole_walk W v0 t0).mono fun e W' ⟨he, hb⟩ => ⟨_, he, ?_⟩
  exact law_post laidOut (by kernel_rfl) (by kernel_rfl) rfl Try.underlying4 hW' rfl rfl rfl hb

theorem FnExactPlanWhole_holds : Rows.FnExactPlanWholeSaid :=
  OpenClaim.holds_of_wide 4 Try.f4 rfl rfl rfl rfl rfl rfl rfl ⟨rfl, rfl, rfl, rfl, rfl⟩ rfl rfl rfl rfl rfl (by kernel_rfl) Try.func4 (by kernel_rfl)
    (of_decide_eq_true (by kernel_rfl)) (by unfold Func.isWrapper; first | (rw [if_pos (by decide +kernel)]; kernel_rfl) | (rw [if_neg (by decide +kernel)]; exact ⟨rfl, rfl⟩))
    (fun os started H enc _ => FnExactPlanWhole_lifted os started H enc)
end Go.Proofs.Ytcdkhacccbdmdaa
