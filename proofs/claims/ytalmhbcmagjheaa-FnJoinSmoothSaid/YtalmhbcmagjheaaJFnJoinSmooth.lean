/- FnJoinSmooth -/
import Derived.Test.YtalmhbcmagjheaaJ17
import Derived.Test.YtalmhbcmagjheaaJ18
/- FnJoinSmoothSmooth: joined smooth values are between those of their parts. No condition. -/
namespace Go.Proofs.Ytalmhbcmagjheaa
open Go.ChangeShapes Go.WideShapes Go.ChangeAt Go.RowKit Flo
attribute [local go_sem] run_store_float run_store_complex

set_option maxRecDepth 100000 in
set_option maxHeartbeats 8000000 in
theorem FnJoinSmooth_walk (w : World) (a : Option Addr) (c : Nat) (bs : List UInt8) (_ : bs.length ≤ maxLen) (hc : bs.length ≤ c) (hs : Sl w a (bs.map byteV)) :
    Calls Try.prog 5 #[.slice a bs.length c] w fun e w' => e = .returned (.bool true) ∧ Below w.heap.size w w' := by
  by_cases hb : 1048576 < bs.length
  · go_enter Try.func5, Try.ntmps5
    go_wp2
    go_ret
    exact ⟨rfl, Below.refl _ _⟩
  have H := Lib.hid (drawTileJoin_any a c bs (by omega) hc w hs)
  clear hs
  go_enter Try.func5, Try.ntmps5
  go_wp2_with fail
  refine H.out.mono ?_
  rintro e w1 ⟨hd, g, cap, L, t0, rfl, h0, hl, J⟩
  have HD := Lib.hid hd
  have HJ := Lib.hid J
  have HS := Lib.hid (fun W (k : Below w1.heap.size w1 W) => specJoin_is w.heap.size g cap L t0 h0 hl W (J.step k))
  have H0 := Lib.hid h0
  have HO := Lib.hid (J.own t0 (List.mem_of_getElem? h0))
  have HLL := Lib.hid hl
  clear H hd
  go_wp2_with fail
  refine (implJoin_is w.heap.size g cap L t0 h0 hl _ J).mono ?_
  intro e w2 h2
  clear J h0
  by_cases hF : FitW L t0
  · have HF := Lib.hid hF
    have hlen : L.length = 4 := hF.1.len
    obtain ⟨d, -, -, -, hs1, hs2, -⟩ := first_ok HO.out (gdB_of (hF.1.gd 0 t0 H0.out)).2.2.2
    obtain ⟨n, hn⟩ := Int.eq_ofNat_of_zero_le (show 0 ≤ t0.size by omega)
    have hn1 : 1 ≤ n := by omega
    have hn8 : n ≤ 8 := by omega
    have hnn : n * n ≤ 64 := by have : n * n ≤ 8 * 8 := Nat.mul_le_mul hn8 hn8; omega
    obtain ⟨a1, c1, a2, c2, xs, ys, rfl, O1, hb2⟩ := h2.fit hF hn hn1
    have HN := Lib.hid hn
    have HNN := Lib.hid hnn
    have X2 := (Box.new w2 #[.complex .f32 t0.cx t0.cy, .int .i64 (t0.deep - 1), .int .i64 n, .slice a1 (n * n) c1, .slice a2 (n * n) c2] 37).up hb2
    have O2 := O1.step ((Below.refl _ _).alloc (Nat.le_refl _) (.cells #[.complex .f32 t0.cx t0.cy, .int .i64 (t0.deep - 1), .int .i64 n, .slice a1 (n * n) c1, .slice a2 (n * n) c2] 37))
    have HX2 := Lib.hid X2
    have HO2 := Lib.hid O2
    have HSS := HS.out _ X2.old
    rw [hlen] at HSS ⊢
    replace HSS := Lib.hid HSS
    clear h2 hF O1 hb2 X2 O2 HS hn hs1 hs2
    go_wp2_with fail
    refine HSS.out.mono ?_
    intro e w3 h3
    obtain ⟨b1, e1, b2, e2, xs', ys', rfl, O3, hb3⟩ := h3.fit HF.out HN.out hn1
    have HX3 := Lib.hid (HX2.out.step (hb3.alloc hb3.size (.cells #[.complex .f32 t0.cx t0.cy, .int .i64 (t0.deep - 1), .int .i64 n, .slice b1 (n * n) e1, .slice b2 (n * n) e2] 37)))
    have HO3 := Lib.hid (HO2.out.step (hb3.alloc hb3.size (.cells #[.complex .f32 t0.cx t0.cy, .int .i64 (t0.deep - 1), .int .i64 n, .slice b1 (n * n) e1, .slice b2 (n * n) e2] 37)))
    have X4 := (Box.new w3 #[.complex .f32 t0.cx t0.cy, .int .i64 (t0.deep - 1), .int .i64 n, .slice b1 (n * n) e1, .slice b2 (n * n) e2] 37).up (HX2.out.step hb3).old
    have O4 := O3.step ((Below.refl _ _).alloc (Nat.le_refl _) (.cells #[.complex .f32 t0.cx t0.cy, .int .i64 (t0.deep - 1), .int .i64 n, .slice b1 (n * n) e1, .slice b2 (n * n) e2] 37))
    have hyy : ys' = ys := by rw [O3.jy, HO2.out.jy]
    subst hyy
    obtain ⟨da, db, va, vb⟩ := HO.out.vals
    have CT := Lib.hid (sameTile_al va vb (t0.deep - 1) n a1 b1 a2 b2 c1 e1 c2 e2 xs xs' ys' (n * n) (by omega) (n * n) O3.ly (by omega) (HO2.out.jx.alike O3.jx) _ HO3.out.s1 O4.s1 HO3.out.s2 O4.s2)
    obtain ⟨p0, p1, p2, p3, p4⟩ := HX3.out.cells5
    obtain ⟨q0, q1, q2, q3, q4⟩ := X4.cells5
    have hob : w2.heap.size < w3.heap.size := by have := HX2.out.lt; have := hb3.size; omega
    have HX4 := Lib.hid X4.old
    clear h3 O3 hb3 X4 O4 va vb HX2 HO2 HSS
    go_wp2_with fail
    refine CT.out.mono ?_
    rintro e w4 ⟨rfl, hd4⟩
    have HX5 := Lib.hid (HX3.out.step hd4)
    have HO5 := Lib.hid (HO3.out.step hd4)
    clear hd4 CT HX3 HO3 HX4 p0 p1 p2 p3 p4 q0 q1 q2 q3 q4
    generalize w2.heap.size = ob at *
    clear hob
    have hplace : placeB t0.cx t0.cy (t0.deep - 1) n = true := by have := HF.out.2; unfold placeJ at this; rwa [HN.out] at this
    have CR := implRange_good t0.cx t0.cy (t0.deep - 1) n HO.out.bx HO.out.by1 hplace a1 a2 c1 c2 xs ys' (by rw [HO5.out.ly]; omega) HO5.out.hx w4 HO5.out.s1 HO5.out.s2 (by rw [HO5.out.lx]; exact wellB_true rfl HO5.out.ly HO5.out.hy)
    rw [HO5.out.lx, HO5.out.ly] at CR
    obtain ⟨low, hlow⟩ : ∃ z, (rgL xs).1 = z := ⟨_, rfl⟩
    obtain ⟨high, hhigh⟩ : ∃ z, (rgL xs).2.1 = z := ⟨_, rfl⟩
    rw [hlow, hhigh] at CR
    have HLOW := Lib.hid (And.intro hlow hhigh)
    replace CR := Lib.hid CR
    obtain ⟨r0, r1, r2, r3, r4⟩ := HX5.out.cells5
    clear hplace hlow hhigh
    go_wp2_with fail
    refine CR.out.mono ?_
    rintro e w5 ⟨rfl, hd5⟩
    have HB5 := Lib.hid hd5
    have HI0 : Hid (Val Ieee.single 1900671690 mBig ∧ Val Ieee.single 4048155338 (-mBig) ∧ (-mBig ≤ mBig ∧ mBig ≤ mBig) ∧ (-mBig ≤ -mBig ∧ -mBig ≤ mBig) ∧ ∀ q, q < 0 → ∀ x, x ∈ JXs L q → Val Ieee.single x (iv Ieee.single x) ∧ mBig ≤ iv Ieee.single x ∧ iv Ieee.single x ≤ -mBig) := by
      have := big_ge
      exact ⟨big_pos, big_neg, ⟨by omega, by omega⟩, ⟨by omega, by omega⟩, fun q hq => by omega⟩
    clear hd5 CR r0 r1 r2 r3 r4
    go_wp2
    go_loopw [11, 12, 13] (fun y1 y2 x wr => ∃ (k lo hi : Nat) (T U : Int), k ≤ 4 ∧ y1 = .float .f32 lo ∧ y2 = .float .f32 hi ∧ x = .int .i64 k ∧ Hid (Below w4.heap.size w4 wr) ∧ Hid (Val Ieee.single lo T ∧ Val Ieee.single hi U ∧ (-mBig ≤ T ∧ T ≤ mBig) ∧ (-mBig ≤ U ∧ U ≤ mBig) ∧ ∀ q, q < k → ∀ x, x ∈ JXs L q → Val Ieee.single x (iv Ieee.single x) ∧ T ≤ iv Ieee.single x ∧ iv Ieee.single x ≤ U)) (fun _ _ x _ => (4 - intOf x).toNat)
    case atStart => exact ⟨0, 1900671690, 4048155338, mBig, -mBig, by omega, rfl, rfl, rfl, HB5, HI0⟩
    case round =>
      clear HB5 HI0
      obtain ⟨k, lo, hi, T, U, hk, rfl, rfl, rfl, HBW, HV⟩ := hrel
      have hdw := HX5.out.old.trans (HBW.out.mono HX5.out.old.size)
      by_cases hlt : k < 4
      · obtain ⟨t, ht⟩ := HF.out.1.tile hlt
        have V := (HJ.out.step hdw).own t (List.mem_of_getElem? ht)
        have hlm := V.lim
        obtain ⟨p0, p1, p2, p3, p4⟩ := (HJ.out.step hdw).cells5 ht
        obtain ⟨lx, ly, -⟩ := HF.out.1.lens HN.out ht
        have CC := implRange_good t.cx t.cy t.deep t.size V.bx V.by1 V.pl t.a1 t.a2 t.c1 t.c2 t.xs t.ys (by omega) V.hx wr V.s1 V.s2 (gdB_of (HF.out.1.gd k t ht)).1
        have HR := Lib.hid (fun h : AllIn t.xs => range_of h)
        have HVX := Lib.hid (And.intro V.hx (And.intro lx (And.intro ht (JXs_at ht))))
        generalize (rgL t.xs).1 = l1 at *
        generalize (rgL t.xs).2.1 = l2 at *
        rw [lx, ly] at CC
        rw [lx] at p3
        rw [ly] at p4
        replace CC := Lib.hid CC
        have b5 : (k : Int) < 4 := by omega
        have b6 : (0 : Int) ≤ k := by omega
        clear V hlm lx ly ht hdw
        go_wp2_with fail
        refine CC.out.mono ?_
        rintro e w6 ⟨rfl, hd6⟩
        have HB6 := Lib.hid (HBW.out.trans (hd6.mono HBW.out.size))
        clear hd6 CC HBW p0 p1 p2 p3 p4
        go_wp2
        obtain ⟨nn, hnn2⟩ : ∃ nn, n * n = nn := ⟨_, rfl⟩
        have HN2 := Lib.hid hnn2
        go_loopw [17] (fun x wr => ∃ i : Nat, i ≤ nn ∧ x = .int .i64 i ∧ Hid (Below w4.heap.size w4 wr) ∧ Hid (∀ j, j < i → ∀ z, t.xs[j]? = some z → Val Ieee.single z (iv Ieee.single z) ∧ -mBig ≤ iv Ieee.single z ∧ iv Ieee.single z ≤ mBig)) (fun x _ => (nn - intOf x).toNat)
        case atStart => exact ⟨0, by omega, rfl, HB6, fun j hj => by omega⟩
        case round =>
          clear HB6
          obtain ⟨i, hi, rfl, HBW, HIN⟩ := hrel
          have hdw := HX5.out.old.trans (HBW.out.mono HX5.out.old.size)
          obtain ⟨-, -, -, p3, -⟩ := (HJ.out.step hdw).cells5 HVX.out.2.2.1
          rw [HVX.out.2.1, HN2.out] at p3
          by_cases hil : i < nn
          · have hxi : t.xs[i]? = some (t.xs[i]'(by have := HVX.out.2.1; have := HN2.out; omega)) := List.getElem?_eq_getElem _
            generalize t.xs[i]'(by have := HVX.out.2.1; have := HN2.out; omega) = z at hxi
            have hz : z < 4294967296 := HVX.out.1 z (List.mem_of_getElem? hxi)
            obtain ⟨g1, o1, ha1, hc1⟩ := ((HJ.out.step hdw).own t (List.mem_of_getElem? HVX.out.2.2.1)).s1.at (show (t.xs.map floV)[i]? = some (.float .f32 z) by rw [List.getElem?_map, hxi]; rfl)
            rw [ha1] at p3
            have HXI := Lib.hid (And.intro hxi hz)
            have b7 : (i : Int) < nn := by omega
            have b8 : (0 : Int) ≤ i := by omega
            clear ha1 hxi hz hdw
            cases o1' : (FloatKind.f32.format.order z 4048155338 == some .gt) with
            | false =>
              have HBF := Lib.hid (HD.out.trans ((HX5.out.old.trans (HBW.out.mono HX5.out.old.size)).mono HD.out.size))
              go_wp2
              go_ret
              exact ⟨rfl, HBF.out⟩
            | true =>
              cases o2' : (FloatKind.f32.format.order z 1900671690 == some .lt) with
              | false =>
                have HBF := Lib.hid (HD.out.trans ((HX5.out.old.trans (HBW.out.mono HX5.out.old.size)).mono HD.out.size))
                go_wp2
                go_ret
                exact ⟨rfl, HBF.out⟩
              | true =>
                have HIN2 : Hid (∀ j, j < i + 1 → ∀ z, t.xs[j]? = some z → Val Ieee.single z (iv Ieee.single z) ∧ -mBig ≤ iv Ieee.single z ∧ iv Ieee.single z ≤ mBig) := fun j hj y hy => by
                  by_cases hji : j = i
                  · subst hji
                    obtain rfl : z = y := Option.some.inj (HXI.out.1.symm.trans hy)
                    exact in_range HXI.out.2 o1' o2'
                  · exact HIN.out j (by omega) y hy
                go_wp2
                go_roundw
                case rel => exact ⟨i + 1, by omega, by go_num, HBW, HIN2⟩
                case measure => simp [intOf]; omega
          · obtain rfl : i = nn := by omega
            have hall : AllIn t.xs := fun z hz => by
              obtain ⟨j, hj⟩ := List.getElem?_of_mem hz
              exact HIN.out j (by have := (List.getElem?_eq_some_iff.1 hj).1; have := HVX.out.2.1; have := HN2.out; omega) z hj
            obtain ⟨⟨v1, v2, v3⟩, ⟨v4, v5, v6⟩, v7, -⟩ := HR.out hall
            obtain ⟨wl, wh, wt, wu, wq⟩ := HV.out
            obtain ⟨zl, hzl, rl⟩ := run_min_val (P := Try.prog) wl v1
            obtain ⟨zh, hzh, rh⟩ := run_max_val (P := Try.prog) wh v4
            have HV2 : Hid (Val Ieee.single zl (min T (iv Ieee.single l1)) ∧ Val Ieee.single zh (max U (iv Ieee.single l2)) ∧ (-mBig ≤ min T (iv Ieee.single l1) ∧ min T (iv Ieee.single l1) ≤ mBig) ∧ (-mBig ≤ max U (iv Ieee.single l2) ∧ max U (iv Ieee.single l2) ≤ mBig) ∧ ∀ q, q < k + 1 → ∀ x, x ∈ JXs L q → Val Ieee.single x (iv Ieee.single x) ∧ min T (iv Ieee.single l1) ≤ iv Ieee.single x ∧ iv Ieee.single x ≤ max U (iv Ieee.single l2)) := by
              refine ⟨hzl, hzh, by omega, by omega, fun q hq x hx => ?_⟩
              by_cases hqk : q = k
              · subst hqk
                rw [HVX.out.2.2.2] at hx
                obtain ⟨a1, a2⟩ := v7 x hx
                exact ⟨(hall x hx).1, by omega, by omega⟩
              · obtain ⟨a0, a1, a2⟩ := wq q (by omega) x hx
                exact ⟨a0, by omega, by omega⟩
            clear v1 v2 v3 v4 v5 v6 v7 wl wh wt wu wq hzl hzh hall hdw HR HV
            go_wp2
            go_roundw
            case rel => exact ⟨k + 1, zl, zh, _, _, by omega, rfl, rfl, by go_num, HBW, HV2⟩
            case measure => simp [intOf]; omega
      · obtain rfl : k = 4 := by omega
        have hfin := join_range (X := JXs L) hn1 hn8 HV.out.1 HV.out.2.1 HV.out.2.2.1 HV.out.2.2.2.1 (fun q hq => by
          obtain ⟨t, ht⟩ := HF.out.1.tile hq
          refine ⟨?_, HV.out.2.2.2.2 q hq⟩
          rw [JXs_at ht]
          exact (HF.out.1.lens HN.out ht).1) HO5.out.jx
        rw [HLOW.out.1, HLOW.out.2] at hfin
        obtain ⟨f1, f2⟩ := hfin
        have HBF := Lib.hid (HD.out.trans (hdw.mono HD.out.size))
        clear hdw
        go_wp2
        go_ret
        exact ⟨rfl, HBF.out⟩
  · obtain ⟨rfl, hb2⟩ := h2.not hF
    have X2 := (Box.new w2 #[.complex .f32 0 0, .int .i64 0, .int .i64 0, .slice none 0 0, .slice none 0 0] 37).up hb2
    have HX2 := Lib.hid X2
    have HNF := Lib.hid hF
    have HSS := Lib.hid (HS.out _ X2.old)
    clear h2 hF hb2 X2 HS
    go_wp2_with fail
    refine HSS.out.mono ?_
    intro e w3 h3
    obtain ⟨rfl, hb3⟩ := h3.not HNF.out
    have HX3 := Lib.hid (HX2.out.step (hb3.alloc hb3.size (.cells #[.complex .f32 0 0, .int .i64 0, .int .i64 0, .slice none 0 0, .slice none 0 0] 37)))
    have X4 := (Box.new w3 #[.complex .f32 0 0, .int .i64 0, .int .i64 0, .slice none 0 0, .slice none 0 0] 37).up (HX2.out.step hb3).old
    have HX4 := Lib.hid X4
    obtain ⟨p0, p1, p2, p3, p4⟩ := HX3.out.cells5
    obtain ⟨q0, q1, q2, q3, q4⟩ := X4.cells5
    have hob : w2.heap.size < w3.heap.size := by have := HX2.out.lt; have := hb3.size; omega
    clear h3 hb3 X4 HX2 HSS
    go_wp2_with fail
    refine (sameTile_zero _).mono ?_
    rintro e w4 ⟨rfl, hd4⟩
    have HX5 := Lib.hid (HX3.out.step hd4)
    have HX6 := Lib.hid (HX4.out.step hd4)
    clear hd4 HX3 HX4 p0 p1 p2 p3 p4 q0 q1 q2 q3 q4
    obtain ⟨p0, p1, p2, p3, p4⟩ := HX5.out.cells5
    obtain ⟨q0, q1, q2, q3, q4⟩ := HX6.out.cells5
    have HBB := Lib.hid (HD.out.trans (HX6.out.old.mono HD.out.size))
    clear HX5 HX6
    go_wp2_with fail
    refine (sameTile_zero _).mono ?_
    rintro e w5 ⟨rfl, hd5⟩
    have HB5 := Lib.hid (HBB.out.trans (hd5.mono HBB.out.size))
    clear hd5 HBB
    go_wp2
    go_ret
    exact ⟨rfl, HB5.out⟩
set_option maxRecDepth 100000 in
theorem FnJoinSmooth_lifted (os : Os) (started : os.Started) (H : Type) (enc : TypeId × Value → H) :
    ReturnsInHanded {} Try.checked os 5 .any (Rows.fnJoinSmoothSpec.pre6 enc Try.prog Try.f5 Rows.fnJoinSmoothRow.domain false) (Rows.fnJoinSmoothSpec.post enc Try.prog Try.f5 false true false false) := by
  refine returnsInHanded_of_change (C := Try.checked) own started (by kernel_rfl) Try.func5
    (ChangeSpec.witness6 (enc := enc) (C := Try.checked) false ⟨#[], #[.slice none 0 0], []⟩ 8 (by kernel_rfl) (by kernel_rfl) (by kernel_rfl) (by kernel_rfl)) ?_
  intro W base args ds gs before hval0 hW _ _
  have hval : ∀ (j : Nat) t v, Try.f5.params[j]? = some t → args[j]? = some v → Value.okWide Try.prog W .any base t v := hval0
  have hW' := hW
  obtain ⟨p, q, hA0, hV, rfl, _, _⟩ := hW
  have hA : DataW.TrodAll enc Try.prog W 0 (fun _ => true) true Try.f5.params.toList args.toList ds p := hA0
  rw [Try.params5] at hA hval
  obtain ⟨v0, vs0, d0, ds0, p0, q0, hargs, rfl, rfl, h0, r0⟩ := trodAll_cons hA
  obtain ⟨rfl, rfl, rfl⟩ := trodAll_nil r0
  obtain rfl : args = #[v0] := by cases args; simp_all
  obtain ⟨rfl, rfl⟩ := trodVars_none hV
  obtain ⟨a0, c0, l0, rfl, n0, m0, s0⟩ := open_bytes Try.underlying22 Try.underlying5 (by kernel_rfl) (hval 0 22 v0 rfl rfl) h0
  clear hA0 hval0
  refine (FnJoinSmooth_walk W a0 c0 l0 n0 m0 s0).mono fun e W' ⟨he, hb⟩ => ⟨_, he, ?_⟩
  exact law_post laidOut (by kernel_rfl) (by kernel_rfl) rfl Try.underlying4 hW' rfl rfl rfl hb

theorem FnJoinSmooth_holds : Rows.FnJoinSmoothSaid :=
  OpenClaim.holds_of_wide 5 Try.f5 rfl rfl rfl rfl rfl rfl rfl ⟨rfl, rfl, rfl, rfl, rfl⟩ rfl rfl rfl rfl rfl (by kernel_rfl) Try.func5 (by kernel_rfl)
    (of_decide_eq_true (by kernel_rfl)) (by unfold Func.isWrapper; first | (rw [if_pos (by decide +kernel)]; kernel_rfl) | (rw [if_neg (by decide +kernel)]; exact ⟨rfl, rfl⟩))
    (fun os started H enc _ => FnJoinSmooth_lifted os started H enc)
end Go.Proofs.Ytalmhbcmagjheaa
