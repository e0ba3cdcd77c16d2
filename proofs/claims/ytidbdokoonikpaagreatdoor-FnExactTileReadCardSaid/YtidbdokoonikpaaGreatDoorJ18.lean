/- Merged texts: TrdJ, Law, CardV. -/
import Derived.Test.YtidbdokoonikpaaGreatDoorJ16
import Derived.Test.YtidbdokoonikpaaGreatDoorJ17
import Derived.Test.YtidbdokoonikpaaGreatDoorJ13
import Derived.Deep.Cut
import Derived.Test.YtidbdokoonikpaaGreatDoorRows
import Derived.WalkKit
import Derived.ProofKit
import Derived.OpenVars
import Derived.Lib.SmallJoins
import Derived.Test.YtidbdokoonikpaaGreatDoorJ3
import Derived.Test.YtidbdokoonikpaaGreatDoorCards
import Derived.Test.YtidbdokoonikpaaGreatDoorTie
import Derived.LaidMore
import Derived.LaidSub
import Derived.LaidEql
import Derived.LaidHandle
import Derived.Stop.LaidErr
import Derived.OpenShut
import Derived.Deep.DeepHandedRow
section
/- Walks: the program's TileRead at whatever text. -/
namespace Go.Proofs.YtidbdokoonikpaaGreatDoor
open Go.RowKit Flo
attribute [local go_sem] run_store_float run_store_complex

set_option maxRecDepth 100000 in
set_option maxHeartbeats 8000000 in
theorem implRead_any (s : ByteArray) (hs : s.size ≤ 1048576) (w : World) (hV : VarsT w) : Calls Tryz.prog 10 #[.string s] w (ReadRes w s.data.toList) := by
  have R := Box.new w (tileC 0 0 0 0 (.slice none 0 0) (.slice none 0 0)) 27
  have hlen := len_eq s
  have hml := splitL_len s.data.toList
  have HV := Lib.hid (hV.step R.old)
  have HSP := Lib.hid (fun W h => split_any s hs W h)
  obtain ⟨P, hP⟩ : ∃ P, splitL s.data.toList = P := ⟨_, rfl⟩
  have hcl := fun j => splitL_getD_len s.data.toList j
  rw [hP] at HSP hml hcl
  have HP := Lib.hid hP
  have HR := Lib.hid R
  clear hP R hV
  unfold tileC at HR HV
  go_enter Tryz.func10, Tryz.ntmps10
  go_wp2_with fail
  with_reducible refine (HSP.out _ HV.out).mono ?_
  rintro e w1 ⟨rfl, hw1⟩
  have HR1 : Hid (Box w w.heap.size #[.complex .f32 0 0, .int .i64 0, .int .i64 0, .slice none 0 0, .slice none 0 0] 27 w1) := by rw [hw1]; exact HR.out.alloc _
  have HV1 : Hid (VarsT w1) := by rw [hw1]; exact HV.out.step ((Below.refl _ _).alloc (Nat.le_refl _) _)
  have HO1 : Hid (w1.ownsRow w.heap.size 9 1 (.slice (some ⟨w.heap.size + 1, 0, none⟩) P.length P.length) P.length (P.map strV)) := by
    have h := World.ownsRow_lit (e := 9) (size := 1) (base := w.heap.size) (w.alloc (.cells #[.complex .f32 0 0, .int .i64 0, .int .i64 0, .slice none 0 0, .slice none 0 0] 27)) (P.map strV).toArray P.length (by simp) (by unfold maxLen; omega) (by simp)
    rw [hw1]
    exact Lib.hid (by simpa using h)
  obtain ⟨g, hg⟩ : ∃ g, w.heap.size + 1 = g := ⟨_, rfl⟩
  have hge : (w.alloc (.cells #[.complex .f32 0 0, .int .i64 0, .int .i64 0, .slice none 0 0, .slice none 0 0] 27)).heap.size = g := by rw [World.size_alloc]; exact hg
  rw [hg] at HO1
  simp only [World.size_alloc]
  rw [hg]
  clear hw1 HSP HR HV hge hg
  obtain ⟨c0, c1, c2, c3, c4⟩ := HR1.out.cells5
  obtain ⟨f0, f1, f2, f3, f4⟩ := HR1.out.free5
  have HPS : Hid (∀ t : TD, t.text = s.data.toList → splitL t.text = P) := fun t e => by rw [e]; exact HP.out
  by_cases h6 : P.length < 6
  · have d1 : decide ((P.length : Int) < 6) = true := by simp; omega
    have hno : Hid (∀ t : TD, t.Good → t.text ≠ s.data.toList) := fun t ht e => by
      have h := (TD.pieces ht (HPS.out t e)).1
      omega
    have HOld := Lib.hid HR1.out.old
    clear HO1 HR1
    go_wp2
    exact bodyPost_ret (v := .tuple #[.agg #[.complex .f32 0 0, .int .i64 0, .int .i64 0, .slice none 0 0, .slice none 0 0], .bool false]) (by simp [results, Tryz.f10, go_sem, c0, c1, c2, c3, c4]) rfl ⟨set5 HOld.out (Nat.le_refl _) _ _ _ _ _, .inl ⟨hno.out, rfl⟩⟩
  · have d1 : decide ((P.length : Int) < 6) = false := by simp; omega
    have HPC : Hid (∀ j, j < P.length → w1.cell? ⟨g, j, none⟩ = some (.string ⟨(P.getD j []).toArray⟩)) := fun j h => by
      have h1 := HO1.out.cellAt j (by omega)
      rw [List.getElem?_map, List.getElem?_eq_getElem h] at h1
      rw [h1, List.getD_eq_getElem?_getD, List.getElem?_eq_getElem h]
      rfl
    have HPL := Lib.hid (readPlace_any P g P.length (by omega) (by omega) (fun j => Nat.le_trans (hcl j) (by omega)) w1 HV1.out HPC.out)
    have hP6 : 6 ≤ P.length := by omega
    have hPm : P.length ≤ 1048577 := by omega
    clear c0 c1 c2 c3 c4 f0 f1 f2 f3 f4 h6 hcl hml hs HPC
    go_wp2_with fail
    with_reducible refine HPL.out.mono ?_
    rintro e w2 ⟨hd, hcase⟩
    have HR2 := Lib.hid (HR1.out.step hd)
    have HO2 := Lib.hid (ownsRow_step HO1.out hd)
    clear hd HPL HR1 HO1 HV1
    rcases hcase with ⟨hno, v, rfl, x, y, d, n, rfl⟩ | ⟨x, y, d, n, hpl, hx, hy, rfl, v1, v2, v3, v4⟩
    · have hno : Hid (∀ t : TD, t.Good → t.text ≠ s.data.toList) := fun t ht e => hno t ht (HPS.out t e)
      obtain ⟨c0, c1, c2, c3, c4⟩ := HR2.out.cells5
      obtain ⟨f0, f1, f2, f3, f4⟩ := HR2.out.free5
      have HY := Lib.hid ((HR2.out.set5 (Nat.le_refl _) (.complex .f32 0 0) (.int .i64 0) (.int .i64 0) (.slice none 0 0) (.slice none 0 0)).alloc (.cells #[.complex .f32 x y, .int .i64 d, .int .i64 n, .slice none 0 0, .slice none 0 0] 27))
      have hlt := HR2.out.lt
      clear HR2 HO2
      go_wp2
      obtain ⟨y0, y1, y2, y3, y4⟩ := HY.out.cells5
      exact bodyPost_ret (v := .tuple #[.agg #[.complex .f32 0 0, .int .i64 0, .int .i64 0, .slice none 0 0, .slice none 0 0], .bool false]) (by simp [results, Tryz.f10, go_sem, y0, y1, y2, y3, y4]) rfl ⟨HY.out.old, .inl ⟨hno.out, rfl⟩⟩
    · obtain ⟨p1, p2, p3, p4⟩ := placeB_bd hpl
      obtain ⟨d, rfl⟩ := Int.eq_ofNat_of_zero_le p1
      obtain ⟨n, rfl⟩ := Int.eq_ofNat_of_zero_le (show 0 ≤ n by omega)
      have HPLC := Lib.hid (And.intro hpl (And.intro hx hy))
      have HVV := Lib.hid (And.intro v1 (And.intro v2 (And.intro v3 v4)))
      obtain ⟨q, hq⟩ : ∃ q, n * n = q := ⟨_, rfl⟩
      have hq64 : q ≤ 64 := by rw [← hq]; exact Nat.mul_le_mul (show n ≤ 8 by omega) (show n ≤ 8 by omega)
      have hq1 : 1 ≤ q := by rw [← hq]; exact Nat.mul_le_mul (show 1 ≤ n by omega) (show 1 ≤ n by omega)
      have hqq : wrap64 ((n : Int) * n) = q := by
        rw [← Int.natCast_mul, hq]; unfold wrap64; omega
      have HQ := Lib.hid hq
      have HTM : Hid (TMS w w.heap.size w2.heap.size x y d n 0 0 [] [] (.slice none 0 0) (.slice none 0 0) g P.length P (w2.alloc (.cells #[.complex .f32 x y, .int .i64 d, .int .i64 n, .slice none 0 0, .slice none 0 0] 27))) := by
        have hlt := HR2.out.lt
        refine ⟨⟨(Box.new w2 _ _).up HR2.out.old, HR2.out.alloc _, ⟨by simp, .inl ⟨rfl, rfl⟩⟩, ⟨by simp, .inl ⟨rfl, rfl⟩⟩, (fun x hx => by cases hx), (fun x hx => by cases hx), by omega, Nat.le_refl _, by omega⟩, ownsRow_step HO2.out ((Below.refl _ _).alloc (Nat.le_refl _) _)⟩
      obtain ⟨ob, hob⟩ : ∃ ob, w2.heap.size = ob := ⟨_, rfl⟩
      clear hpl hx hy v1 v2 v3 v4 hq p1 p2 p3 p4 HR2 HO2
      obtain ⟨o0, o1, o2, o3, o4⟩ := HTM.out.T.oc
      rw [hob] at HTM o0 o1 o2 o3 o4
      go_upto_region 5 with fail
      generalize w2.alloc (.cells #[.complex .f32 x y, .int .i64 d, .int .i64 n, .slice none 0 0, .slice none 0 0] 27) = w3 at *
      clear hob
      have hbad : Hid (P.length ≠ 6 + q → ∀ t : TD, t.Good → t.text ≠ s.data.toList) := fun hn t ht e => by
        have hp := HPS.out t e
        obtain ⟨pl, -, -, -, -, pe4, -⟩ := TD.pieces ht hp
        have hb := TD.bd ht
        have e4 := HVV.out.2.2.2 t.s (by omega) pe4
        have e5 : n = t.s := by omega
        apply hn
        rw [pl, hb.2.2.2.1, ← e5]
        have : n * n = q := HQ.out
        omega
      by_cases h6 : P.length = 6 + q
      · have e6 : ((P.length : Int) != 6 + (q : Int)) = false := by simp; omega
        have HL := Lib.hid h6
        have w1' : IntKind.i64.wrap ((P.length : Int) - 1) = (P.length : Int) - 1 := IntWalk.i64_in _ (by omega)
        have hP7 : 7 ≤ P.length := by omega
        clear h6
        obtain ⟨iF, hiF, hzF0, hzF1, hzF2⟩ := info_parts infoF
        obtain ⟨iI, hiI, hzI0, hzI1, hzI2⟩ := info_parts infoI
        clear o0 o1 o3 o4
        have HTM0 : Hid (TMS w w.heap.size ob x y d n 0 0 [] [] (.slice none 0 0) (.slice none 0 0) g P.length P w3) := HTM
        go_wp2_with fail
        clear o2 HTM hqq e6 w1' d1
        go_loopw [8, 9, 10, 11, 45] (fun _ _ _ _ i wr => ∃ (N : Nat) (smv mkv : Value) (xs : List Nat) (ys : List Int), N + 6 ≤ P.length ∧ i = .int .i64 N ∧ Hid (∀ j, j < N → cellRd (P.getD (5 + j) []) = some (xs.getD j 0, ys.getD j 0)) ∧ Hid (TMS w w.heap.size ob x y d n N N xs ys smv mkv g P.length P wr)) (fun _ _ _ _ i _ => (P.length - intOf i).toNat)
        case atStart => exact ⟨0, _, _, [], [], by omega, rfl, (fun j h => by omega), HTM0⟩
        case round =>
          obtain ⟨N, smv, mkv, xs, ys, hN, rfl, HCE, HT⟩ := hrel
          clear HTM0
          have HRc := Lib.hid HT.out.T.rc
          have HRf := Lib.hid HT.out.T.R.free5
          have HOld := Lib.hid HT.out.T.old
          have hbase := HOld.out.size
          by_cases hlt : N + 6 < P.length
          · obtain ⟨A, hA⟩ : ∃ A : ByteArray, (⟨(P.getD (5 + N) []).toArray⟩ : ByteArray) = A := ⟨_, rfl⟩
            have cA := HT.out.part (show 5 + N < P.length by omega) hA
            have hlt2 : N < P.length - 1 - 5 := by omega
            have HAd : Hid (A.data.toList = P.getD (5 + N) []) := by show _ = _; rw [← hA]
            have HRCL := Lib.hid (fun w => readCell_any A w)
            clear hA
            go_wp2_with fail
            with_reducible refine (HRCL.out _).mono ?_
            rintro e w4 ⟨⟨v, z, ok, rfl, hy, hn⟩, rfl⟩
            have HY := Lib.hid hy
            have HNO := Lib.hid hn
            clear HRCL cA hy hn
            cases ok with
            | false =>
              have hno : Hid (∀ t : TD, t.Good → t.text ≠ s.data.toList) := fun t ht e => by
                have hp := HPS.out t e
                have hl := (TD.pieces ht hp).1
                have h1 := TD.cellsI ht hp (j := N) (by omega)
                have h2 := HNO.out rfl
                rw [show A.data.toList = P.getD (5 + N) [] from HAd.out, h1] at h2
                cases h2
              obtain ⟨c0, c1, c2, c3, c4⟩ := HRc.out
              obtain ⟨f0, f1, f2, f3, f4⟩ := HRf.out
              go_wp2
              exact bodyPost_ret (v := .tuple #[.agg #[.complex .f32 0 0, .int .i64 0, .int .i64 0, .slice none 0 0, .slice none 0 0], .bool false]) (by simp [results, Tryz.f10, go_sem, c0, c1, c2, c3, c4]) rfl ⟨set5 HOld.out (Nat.le_refl _) _ _ _ _ _, .inl ⟨hno.out, rfl⟩⟩
            | true =>
              obtain ⟨h1, hv32, z1, z2⟩ := HY.out rfl
              have HC1 : Hid (cellRd (P.getD (5 + N) []) = some (v, z)) := by
                have := cellIm_rd h1
                rw [show A.data.toList = P.getD (5 + N) [] from HAd.out] at this
                exact this
              obtain ⟨o0, o1, o2, o3, o4⟩ := HT.out.T.oc
              obtain ⟨o0', o1', o2', o3', o4'⟩ := (HT.out.alloc (.cells #[.float .f32 v] 57)).T.oc
              clear h1
              go_upto_region 14 with (at_builtin; refine wpList_append_lies _ rfl _ _ _ rfl w.heap.size 57 iF _ 1 4 Tryz.underlying24 hiF hzF0 hzF1 hzF2 rfl (by omega) _ N (xs.map floV) rfl (HT.out.T.S.alloc _) ⟨wr.heap.size, 0, none⟩ 1 1 [floV v] rfl rfl (World.news_of_block (cs := #[floV v]) (t := 57) (fr := (0, 0)) (heap_alloc_new wr _)) (by simp [floV, Value.oneCell']) (by omega) (by unfold maxLen; omega) (by omega) (by simp; omega) (wr.heap.size + 1) (by simp) ?_; intro g6 c6 w6 hown hgrow _ _; obtain ⟨T6, k6, f6⟩ := (HT.out.alloc _).smooth hv32 hown hgrow; have HT6 := Lib.hid T6; clear T6 hown hgrow)
              obtain ⟨-, -, -, -, k7⟩ := HT6.out.T.oc
              obtain ⟨-, -, -, -, k8⟩ := (HT6.out.alloc (.cells #[.int .i64 z] 3)).T.oc
              have hb6 := HT6.out.T.old.size
              clear k6 f6 o0 o1 o2 o3 o4 o0' o1' o2' o3' o4'
              generalize w6.setCell ⟨ob, 3, none⟩ (.slice (some ⟨g6, 0, none⟩) (N + 1) c6) = w7 at *
              go_wp2_with (at_builtin; refine wpList_append_lies _ rfl _ _ _ rfl w.heap.size 3 iI _ 1 8 Tryz.underlying25 hiI hzI0 hzI1 hzI2 rfl (by omega) _ N (ys.map intV) rfl (HT6.out.T.M.alloc _) ⟨w7.heap.size, 0, none⟩ 1 1 [intV z] rfl rfl (World.news_of_block (cs := #[intV z]) (t := 3) (fr := (0, 0)) (heap_alloc_new w7 _)) (by simp [intV, Value.oneCell']) (by omega) (by unfold maxLen; omega) (by omega) (by simp; omega) (w7.heap.size + 1) (by simp) ?_; intro g8 c8 w8 hown hgrow _ _; obtain ⟨T8, k9, f9⟩ := (HT6.out.alloc _).mark ⟨z1, z2⟩ hown hgrow; have HT8 := Lib.hid T8; clear T8 hown hgrow)
              go_roundw
              case rel =>
                first
                  | exact ⟨N + 1, _, _, xs ++ [v], ys ++ [z], by omega, by go_num, cells_snoc HCE.out rfl HT.out.T.lenS HT.out.T.lenM HC1.out, HT8⟩
                  | ((repeat apply Exists.intro); exact ⟨⟨N + 1, _, _, xs ++ [v], ys ++ [z], by omega, by go_num, cells_snoc HCE.out rfl HT.out.T.lenS HT.out.T.lenM HC1.out, HT8⟩, rfl⟩)
              case measure => simp [intOf]; omega
          · have hNe : N + 6 = P.length := by omega
            have hNq : N = q := by have : P.length = 6 + q := HL.out; omega
            obtain ⟨gs, cs, rfl, -, hcs⟩ := ownsRow_form HT.out.T.S (by omega)
            obtain ⟨gm, cm, rfl, -, hcm⟩ := ownsRow_form HT.out.T.M (by omega)
            have HTX : Hid (∃ t : TD, t.Good ∧ t.cx = x ∧ t.cy = y ∧ t.d = d ∧ t.s = n ∧ t.xs = xs ∧ t.ys = ys) := by
              have lS := HT.out.T.lenS
              have lM := HT.out.T.lenM
              refine ⟨⟨x, y, d, n, xs, ys⟩, ⟨HPLC.out.2.1, HPLC.out.2.2, HPLC.out.1, ?_, HT.out.T.hx⟩, rfl, rfl, rfl, rfl, rfl, rfl⟩
              refine wellB_ok ?_ (by rw [lS, lM]) (fun j hj => ?_)
              · have : n * n = q := HQ.out
                rw [lS, hNq, ← Int.natCast_mul, this]
              · have := HT.out.T.hy _ (List.getElem_mem hj)
                unfold markB inB
                simp
                omega
            have HTXT : Hid (∀ t : TD, t.Good → t.cx = x → t.cy = y → t.d = d → t.s = n → t.xs = xs → t.ys = ys → Calls Tryz.prog 8 #[.agg #[.complex .f32 x y, .int .i64 d, .int .i64 n, .slice (some ⟨gs, 0, none⟩) N cs, .slice (some ⟨gm, 0, none⟩) N cm]] wr fun e w' => e = .returned (.tuple #[.string ⟨t.text.toArray⟩, .bool true]) ∧ Below wr.heap.size wr w') := fun t ht e1 e2 e3 e4 e5 e6 => by
              subst e1 e2 e3 e4 e5 e6
              have lS := HT.out.T.lenS
              have lM := HT.out.T.lenM
              have h := implText_good t.cx t.cy t.d t.s ht.bx ht.by1 ht.pl (some ⟨gs, 0, none⟩) (some ⟨gm, 0, none⟩) cs cm t.xs t.ys (by omega) ht.hx wr (sl_of_own HT.out.T.S) (sl_of_own HT.out.T.M) ht.wl
              rw [lS, lM] at h
              exact h
            have HTOLD : Hid (∀ t : TD, t.Good → t.text = s.data.toList → t.cx = x ∧ t.cy = y ∧ t.d = d ∧ t.s = n ∧ t.xs = xs ∧ t.ys = ys) := fun t ht e => by
              have hp := HPS.out t e
              have lS := HT.out.T.lenS
              have lM := HT.out.T.lenM
              obtain ⟨g1, g2, g3, g4, g5, g6⟩ := TD.told ht hp rfl rfl rfl rfl HVV.out.2.2.1 HVV.out.2.2.2 (by omega) (by omega) (fun j hj => HCE.out j (by omega))
              rw [HVV.out.1] at g1
              rw [HVV.out.2.1] at g2
              injection g1 with g1
              injection g2 with g2
              exact ⟨g1.symm, g2.symm, by omega, by omega, g5, g6⟩
            obtain ⟨t, y0, y1, y2, y3, y4, y5, y6⟩ := HTX.out
            have HCT := Lib.hid (HTXT.out t y0 y1 y2 y3 y4 y5 y6)
            have HTT := Lib.hid (And.intro y0 (And.intro y1 (And.intro y2 (And.intro y3 (And.intro y4 (And.intro y5 y6))))))
            obtain ⟨o0, o1, o2, o3, o4⟩ := HT.out.T.oc
            obtain ⟨T, hTe⟩ : ∃ T : ByteArray, (⟨t.text.toArray⟩ : ByteArray) = T := ⟨_, rfl⟩
            have HTD : Hid (T.data.toList = t.text) := by show _ = _; rw [← hTe]
            rw [hTe] at HCT
            clear HTX HTXT y0 y1 y2 y3 y4 y5 y6 hTe HCE hcs hcm hNq HRc HRf HOld hlt
            go_wp2_with fail
            with_reducible refine HCT.out.mono ?_
            rintro e w5 ⟨rfl, hd⟩
            have HT5 := Lib.hid (HT.out.step hd)
            have HRc := Lib.hid HT5.out.T.rc
            have HRf := Lib.hid HT5.out.T.R.free5
            have HOld := Lib.hid HT5.out.T.old
            clear hd HT HCT o0 o1 o2 o3 o4
            by_cases hTs : T.data.toList = s.data.toList
            · have hq : (T.toList == s.toList) = true := by rw [ByteArray.toList_eq, ByteArray.toList_eq, hTs]; simp
              have HFIN : Hid (∀ u0 u1 u2 u3 u4, ReadRes w s.data.toList (.returned (.tuple #[.agg #[.complex .f32 x y, .int .i64 d, .int .i64 n, .slice (some ⟨gs, 0, none⟩) N cs, .slice (some ⟨gm, 0, none⟩) N cm], .bool true])) (((((w5.setCell ⟨w.heap.size, 0, none⟩ u0).setCell ⟨w.heap.size, 1, none⟩ u1).setCell ⟨w.heap.size, 2, none⟩ u2).setCell ⟨w.heap.size, 3, none⟩ u3).setCell ⟨w.heap.size, 4, none⟩ u4)) := fun u0 u1 u2 u3 u4 => by
                refine ⟨set5 HOld.out (Nat.le_refl _) _ _ _ _ _, .inr ?_⟩
                obtain ⟨y0, y1, y2, y3, y4, y5, y6⟩ := HTT.out
                refine ⟨t, .slice (some ⟨gs, 0, none⟩) N cs, .slice (some ⟨gm, 0, none⟩) N cm, y0, HTD.out ▸ hTs, ?_, ?_⟩
                · rw [y1, y2, y3, y4]; rfl
                · rw [y5, y6, HT5.out.T.lenS]
                  exact HT5.out.T.madeN _ _ _ _ _
              obtain ⟨c0, c1, c2, c3, c4⟩ := HRc.out
              obtain ⟨f0, f1, f2, f3, f4⟩ := HRf.out
              obtain ⟨o0, o1, o2, o3, o4⟩ := HT5.out.T.oc
              have hne := HT5.out.T.ne
              clear hTs
              go_wp2
              exact bodyPost_ret (v := .tuple #[.agg #[.complex .f32 x y, .int .i64 d, .int .i64 n, .slice (some ⟨gs, 0, none⟩) N cs, .slice (some ⟨gm, 0, none⟩) N cm], .bool true]) (by simp [results, Tryz.f10, go_sem, c0, c1, c2, c3, c4]) rfl (HFIN.out _ _ _ _ _)
            · have hq : (T.toList == s.toList) = false := by rw [ByteArray.toList_eq, ByteArray.toList_eq]; simpa using hTs
              have hno : Hid (∀ t : TD, t.Good → t.text ≠ s.data.toList) := fun t' ht e => by
                obtain ⟨y0, y1, y2, y3, y4, y5, y6⟩ := HTT.out
                obtain ⟨u1, u2, u3, u4, u5, u6⟩ := HTOLD.out t' ht e
                have : t' = t := by
                  cases t; cases t'
                  simp only at y1 y2 y3 y4 y5 y6 u1 u2 u3 u4 u5 u6
                  subst y1 y2 y3 y4 y5 y6 u1 u2 u3 u4 u5 u6
                  rfl
                subst this
                exact hTs (HTD.out.trans e)
              clear hTs
              obtain ⟨c0, c1, c2, c3, c4⟩ := HRc.out
              obtain ⟨f0, f1, f2, f3, f4⟩ := HRf.out
              go_wp2
              exact bodyPost_ret (v := .tuple #[.agg #[.complex .f32 0 0, .int .i64 0, .int .i64 0, .slice none 0 0, .slice none 0 0], .bool false]) (by simp [results, Tryz.f10, go_sem, c0, c1, c2, c3, c4]) rfl ⟨set5 HOld.out (Nat.le_refl _) _ _ _ _ _, .inl ⟨hno.out, rfl⟩⟩
      · have e6 : ((P.length : Int) != 6 + (q : Int)) = true := by simp; omega
        have hno : Hid (∀ t : TD, t.Good → t.text ≠ s.data.toList) := hbad.out h6
        obtain ⟨c0, c1, c2, c3, c4⟩ := HTM.out.T.rc
        obtain ⟨f0, f1, f2, f3, f4⟩ := HTM.out.T.R.free5
        have HOld := Lib.hid HTM.out.T.old
        clear HTM h6
        go_wp2
        exact bodyPost_ret (v := .tuple #[.agg #[.complex .f32 0 0, .int .i64 0, .int .i64 0, .slice none 0 0, .slice none 0 0], .bool false]) (by simp [results, Tryz.f10, go_sem, c0, c1, c2, c3, c4]) rfl ⟨set5 HOld.out (Nat.le_refl _) _ _ _ _ _, .inl ⟨hno.out, rfl⟩⟩
end Go.Proofs.YtidbdokoonikpaaGreatDoor
end

section
/- What closes a law: from 'the call returns true and leaves old memory as it was' to the given row's post. -/
namespace Go.Proofs.YtidbdokoonikpaaGreatDoor
open Go.ChangeShapes Go.WideShapes Go.ChangeAt Go.RowKit

theorem own : ownKnob Tryz.prog.godebug = none := by kernel_rfl
theorem laidOut : laidOutB Tryz.prog = true := by kernel_rfl

/-- each parameter's type can be read and is a row of the table -/
def parsRowed (P : Program) (ts : List TypeId) : Bool := ts.all fun t => P.readableRec t && decide (t < P.types.size)

theorem trodAll_below {H : Type} {enc : TypeId × Value → H} {P : Program} (hl : laidOutB P = true) {W W' : World} (hb : Below W.heap.size W W') :
    ∀ {ts : List TypeId} {vs : List Value} {ds : List (DataW H)} {ps : List MemPlace}, parsRowed P ts = true →
      DataW.TrodAll enc P W 0 (fun _ => true) true ts vs ds ps → (∀ x ∈ ps, x.block < W.heap.size) →
      DataW.TrodAll enc P W' 0 (fun b => decide (b < W.heap.size)) true ts vs ds ps
  | [], [], [], _, _, h, _ => h
  | [], [], _ :: _, _, _, h, _ => h.elim
  | [], _ :: _, _, _, _, h, _ => h.elim
  | _ :: _, [], _, _, _, h, _ => h.elim
  | _ :: _, _ :: _, [], _, _, h, _ => h.elim
  | t :: ts, v :: vs, d :: ds, ps, hv, h, hlt => by
    obtain ⟨p, q, h1, h2, rfl⟩ := h
    simp only [parsRowed, List.all_cons, Bool.and_eq_true, decide_eq_true_eq] at hv
    exact ⟨p, q, Below.trod hl hv.1.1 hv.1.2 h1 hb (fun x hx => hlt x (by simp [hx])),
      trodAll_below hl hb (by simpa [parsRowed] using hv.2) h2 (fun x hx => hlt x (by simp [hx])), rfl⟩

/-- THE POST OF A LAW -/
theorem law_post {H : Type} {enc : TypeId × Value → H} {P : Program} {fn : Func} {s : ChangeSpec} {apart : Bool} {W W' : World} {args : Array Value} {ds gs : List (DataW H)} {before : List MemPlace} {tb : TypeId}
    (hl : laidOutB P = true) (hp : parsRowed P fn.params.toList = true) (hvr : varsRowed P s.vars = true) (hr : fn.resultTypes = #[tb]) (htb : P.underlying tb = some .bool)
    (hW : DataW.Whole enc P fn.params.toList s.vars apart W args.toList ds gs before)
    (hs : (s.fn H (ds ++ gs)).results = [.lit (.bool true)]) (ha : (s.fn H (ds ++ gs)).args = ds) (hv : (s.fn H (ds ++ gs)).vars = gs)
    (hb : Below W.heap.size W W') : s.post enc P fn apart true false false W args (.bool true) W' := by
  have hlt := hW.lt
  have hW2 := hW
  obtain ⟨p, q, hA, hV, rfl, hz, hn⟩ := hW
  refine ⟨ds, gs, p ++ q, [], p, q, hW2, ?_, ?_, ?_, ?_, fun h => by cases h⟩
  · rw [hs, hr]
    exact trodAll_mk1 (shut_bool htb true)
  · rw [ha]
    exact trodAll_below hl hb hp hA (fun x hx => hlt x (by simp [hx]))
  · rw [hv]
    exact Below.trodVars hl hb hvr hV
  · exact hb.frame _
/-- a struct of two ints, by value -/
theorem open_angle {H : Type} {enc : TypeId × Value → H} {P : Program} {w : World} {base : Nat} {spare : Nat → Bool} {held : Bool} {r : Reach} {b0 : Nat} {t : TypeId} {f0 f1 : Field} {v : Value} {d : DataW H} {p : List MemPlace}
    (hs : P.underlying t = some (.struct #[f0, f1])) (hone : Deep.oneCellFields P #[f0, f1] = true) (hC : P.cellsOf t = 2) (h0 : P.underlying f0.type = some (.int .i64)) (h1 : P.underlying f1.type = some (.int .i64))
    (hv : Value.okWide P w r b0 t v) (h : DataW.Trod enc P w base spare held t v d p) :
    ∃ x y : Int, v = .agg #[.int .i64 x, .int .i64 y] ∧ (Lit.int .i64 x).wf = true ∧ (Lit.int .i64 y).wf = true := by
  obtain ⟨c0, c1, y0, y1, m, rfl, rfl, rfl, hy0, hy1⟩ := Joins.open_agg2 hs hone hC hv h
  obtain ⟨a, e0, rfl, wa⟩ := DataW.trod_int h0 hy0
  obtain ⟨b, e1, rfl, wb⟩ := DataW.trod_int h1 hy1
  simp at e0 e1
  subst e0 e1
  exact ⟨a, b, rfl, wa, wb⟩
open Go.Deep in
/-- a struct of five fields of one cell each, by value -/
theorem open_agg5 {H : Type} {enc : TypeId × Value → H} {P : Program} {w : World} {base : Nat} {spare : Nat → Bool} {held : Bool} {r : Reach} {b0 : Nat} {t : TypeId} {f0 f1 f2 f3 f4 : Field} {v : Value} {d : DataW H} {p : List MemPlace} (hs : P.underlying t = some (.struct #[f0, f1, f2, f3, f4])) (hone : oneCellFields P #[f0, f1, f2, f3, f4] = true) (hC : P.cellsOf t = 5)
    (hv : Value.okWide P w r b0 t v) (h : DataW.Trod enc P w base spare held t v d p) :
    ∃ (v0 v1 v2 v3 v4 : Value) (y0 y1 y2 y3 y4 : DataW H × List MemPlace) (n : Nat), v = .agg #[v0, v1, v2, v3, v4] ∧
      DataW.trod enc P w base spare held n f0.type [v0] = some y0 ∧ DataW.trod enc P w base spare held n f1.type [v1] = some y1 ∧ DataW.trod enc P w base spare held n f2.type [v2] = some y2 ∧ DataW.trod enc P w base spare held n f3.type [v3] = some y3 ∧ DataW.trod enc P w base spare held n f4.type [v4] = some y4 := by
  obtain ⟨cs, rfl, hsz⟩ := okWide_struct hs hv
  obtain ⟨c0, c1, c2, c3, c4, rfl⟩ : ∃ c0 c1 c2 c3 c4, cs = #[c0, c1, c2, c3, c4] := by
    replace hsz := hsz.trans hC
    obtain ⟨l⟩ := cs
    match l, hsz with
    | [c0, c1, c2, c3, c4], _ => exact ⟨c0, c1, c2, c3, c4, rfl⟩
  obtain ⟨fuel, hf⟩ := h
  obtain ⟨xs, n, _, _, hl, hlen, hf⟩ := DataW.trod_struct hs hf
  obtain ⟨o0, k0⟩ := hone_of hone 0 f0 rfl
  obtain ⟨o1, k1⟩ := hone_of hone 1 f1 rfl
  obtain ⟨o2, k2⟩ := hone_of hone 2 f2 rfl
  obtain ⟨o3, k3⟩ := hone_of hone 3 f3 rfl
  obtain ⟨o4, k4⟩ := hone_of hone 4 f4 rfl
  match xs, hlen with
  | [y0, y1, y2, y3, y4], _ =>
    have g0 := by simpa using hf 0 f0 rfl
    have g1 := by simpa using hf 1 f1 rfl
    have g2 := by simpa using hf 2 f2 rfl
    have g3 := by simpa using hf 3 f3 rfl
    have g4 := by simpa using hf 4 f4 rfl
    exact ⟨c0, c1, c2, c3, c4, y0, y1, y2, y3, y4, n, rfl, by simpa [Value.cells, o0, k0] using g0, by simpa [Value.cells, o1, k1] using g1, by simpa [Value.cells, o2, k2] using g2, by simpa [Value.cells, o3, k3] using g3, by simpa [Value.cells, o4, k4] using g4⟩
theorem list_of {α : Type} {f : α → Value} {R : α → Prop} {V : Nat → Value} : ∀ {len : Nat}, (∀ i, i < len → ∃ x, V i = f x ∧ R x) → ∃ X : List α, X.length = len ∧ ∀ i x, X[i]? = some x → V i = f x ∧ R x
  | 0, _ => ⟨[], rfl, by simp⟩
  | k + 1, hV => by
    obtain ⟨X, hX, hX2⟩ := list_of (len := k) (fun i hi => hV i (by omega))
    obtain ⟨x, hx⟩ := hV k (by omega)
    refine ⟨X ++ [x], by simp [hX], fun i u hu => ?_⟩
    by_cases hi : i < X.length
    · rw [List.getElem?_append_left hi] at hu; exact hX2 i u hu
    · rw [List.getElem?_append_right (by omega)] at hu
      have : i - X.length = 0 := by
        rcases Nat.eq_zero_or_pos (i - X.length) with h | h
        · exact h
        · rw [List.getElem?_eq_none (by simp; omega)] at hu; cases hu
      rw [this] at hu
      simp at hu
      subst hu
      obtain rfl : i = k := by omega
      exact hx
/-- a slice that came in, its elements of one cell -/
theorem open_sl {H : Type} {enc : TypeId × Value → H} {P : Program} {w : World} {base : Nat} {spare : Nat → Bool} {held : Bool} {t e : TypeId} {α : Type} {f : α → Value} {R : α → Prop} (ht : P.underlying t = some (.slice e)) (hc : P.cellsOf e = 1)
    (he : ∀ n v (y : DataW H × List MemPlace), DataW.trod enc P w base spare held n e [v] = some y → ∃ x, v = f x ∧ R x) {n : Nat} {v : Value} {y : DataW H × List MemPlace} (h : DataW.trod enc P w base spare held n t [v] = some y) :
    ∃ (a : Option Addr) (c : Nat) (xs : List α), v = .slice a xs.length c ∧ xs.length ≤ maxLen ∧ Sl w a (xs.map f) ∧ (∀ x ∈ xs, R x) ∧ xs.length ≤ c := by
  rcases Deep.open_slice1 ht hc h with ⟨h, _⟩ | ⟨a, len, cap, m, n, V, D, Pl, hcs, _, hl, hm, hmm, _, hx⟩
  · simp at h; exact ⟨none, 0, [], h, Nat.zero_le _, .inl rfl, by simp, Nat.le_refl _⟩
  · have hlm : len ≤ m := by rw [hmm]; split <;> omega
    have hV : ∀ i, i < len → ∃ x, V i = f x ∧ R x := fun i hi => he _ _ _ (hx i (by omega)).2
    obtain ⟨X, hX, hX2⟩ := list_of hV
    simp at hcs
    subst hcs
    refine ⟨some a, cap, X, by rw [hX], by omega, ?_, fun x hx => ?_, by omega⟩
    · by_cases h0 : len = 0
      · exact .inl (by rw [List.eq_nil_of_length_eq_zero (show X.length = 0 by omega)]; rfl)
      · have hspot : a = ⟨a.block, a.off, none⟩ := by
          have := (hx 0 (by omega)).1
          obtain ⟨b, o, s⟩ := a
          cases s with
          | none => rfl
          | some s => simp [Addr.add, World.cell?] at this; split at this <;> simp at this
        refine .inr ⟨a.block, a.off, by rw [← hspot], fun i v hv => ?_⟩
        rw [List.getElem?_map] at hv
        obtain ⟨x, hx1, rfl⟩ := Option.map_eq_some_iff.1 hv
        have hi : i < len := by
          have := (List.getElem?_eq_some_iff.1 hx1).1; omega
        rw [← (hX2 i x hx1).1, ← (hx i (by omega)).1]
        congr 1
        unfold Addr.add
        by_cases hi0 : i = 0
        · rw [if_pos hi0, hi0, Nat.add_zero]; exact hspot.symm
        · rw [if_neg hi0]
    · obtain ⟨i, hi, rfl⟩ := List.getElem_of_mem hx
      exact (hX2 i _ (List.getElem?_eq_getElem hi)).2
/-- bytes that came in -/
theorem open_bytes {H : Type} {enc : TypeId × Value → H} {P : Program} {w : World} {base : Nat} {spare : Nat → Bool} {held : Bool} {r : Reach} {b0 : Nat} {t e : TypeId} {v : Value} {d : DataW H} {p : List MemPlace} (ht : P.underlying t = some (.slice e)) (hu : P.underlying e = some (.int .u8)) (hc : P.cellsOf e = 1)
    (hv : Value.okWide P w r b0 t v) (h : DataW.Trod enc P w base spare held t v d p) : ∃ (a : Option Addr) (c : Nat) (bs : List UInt8), v = .slice a bs.length c ∧ bs.length ≤ maxLen ∧ bs.length ≤ c ∧ Sl w a (bs.map byteV) := by
  obtain ⟨fuel, hf⟩ := h
  obtain ⟨a, l, c, rfl⟩ : ∃ a l c, v = .slice a l c := okWide_slice ht hv
  obtain ⟨a, c, xs, e, hn, hS, _, hc⟩ := open_sl (f := byteV) (R := fun _ => True) ht hc (fun n v y hy => by
    obtain ⟨x, e, _, hw⟩ := DataW.trod_int hu hy
    simp at e
    subst e
    have : x.toNat < 256 ∧ 0 ≤ x := by simp [Lit.wf, IntKind.min, IntKind.max, IntKind.signed, IntKind.bits] at hw; omega
    refine ⟨⟨⟨x.toNat, by omega⟩⟩, ?_, trivial⟩
    unfold byteV
    congr 1
    show x = (x.toNat : Int)
    omega) (by simpa [Value.cells] using hf)
  exact ⟨a, c, xs, e, hn, hc, hS⟩
end Go.Proofs.YtidbdokoonikpaaGreatDoor
end

section
/- What the rows' lists of seven variables give; a world that lays them. -/
namespace Go.Proofs.YtidbdokoonikpaaGreatDoor
open Go.ChangeShapes Go.WideShapes Go.ChangeAt Go.RowKit

theorem sevenRow : Rows.fnTextRow.laid = [("math/bits.deBruijn32tab", Rows.laid_math_bits_deBruijn32tab), ("math/bits.deBruijn64tab", Rows.laid_math_bits_deBruijn64tab), ("internal/strconv.uint64pow10", Rows.laid_internal_strconv_uint64pow10), ("unicode/utf8.acceptRanges", Rows.laid_unicode_utf8_acceptRanges), ("strconv.ErrRange", Rows.laid_strconv_ErrRange), ("strconv.ErrSyntax", Rows.laid_strconv_ErrSyntax), ("unicode/utf8.first", Rows.laid_unicode_utf8_first)] := rfl
theorem gES : Tryz.prog.globalNamed "strconv.ErrSyntax" = some 3 := by kernel_rfl
theorem gER : Tryz.prog.globalNamed "strconv.ErrRange" = some 4 := by kernel_rfl
theorem tES : (Tryz.prog.globals[3]?).map (·.type) = some 53 := by kernel_rfl
theorem tER : (Tryz.prog.globals[4]?).map (·.type) = some 53 := by kernel_rfl
theorem starV : "*" ++ "errors.errorString" = "*errors.errorString" := by decide
theorem rowV (u : TypeId) (h : Tryz.prog.typeName? 3 u = some "*errors.errorString") : u = 173 :=
  typeName_ptr_named (nm := "errors.errorString") (by rw [starV]; kernel_rfl) (by kernel_rfl) (by decide) u (by rw [starV]; exact h)
theorem cellsE : Tryz.prog.cellsOf 175 = 1 := by kernel_rfl
theorem cellsStr : Tryz.prog.cellsOf 9 = 1 := by kernel_rfl
theorem varsT_of {W : World} (h : laidMetH Tryz.prog Rows.fnTextRow.laid W) (hsh : W.ShapedOpen Tryz.prog) : VarsT W := by
  have h1 : laidMetH Tryz.prog [("strconv.ErrRange", Rows.laid_strconv_ErrRange), ("strconv.ErrSyntax", Rows.laid_strconv_ErrSyntax)] W := h.filter (fun x => x.1 == "strconv.ErrRange" || x.1 == "strconv.ErrSyntax")
  have h2 : laidMet Tryz.prog [("strconv.ErrRange", Rows.laid_strconv_ErrRange), ("strconv.ErrSyntax", Rows.laid_strconv_ErrSyntax)] W := h1
  obtain ⟨a0, s0, hv0, -, -, -⟩ := laid_sentinel h2 gER tER Tryz.underlying53 rowV Tryz.underlying173 Tryz.underlying175 rfl rfl Tryz.underlying9 cellsE cellsStr
  obtain ⟨a1, s1, hv1, -, -, -⟩ := laid_sentinel h2.tail gES tES Tryz.underlying53 rowV Tryz.underlying173 Tryz.underlying175 rfl rfl Tryz.underlying9 cellsE cellsStr
  exact ⟨Tryz.laysM146.s1_3 W hsh, ⟨_, _, by have h0 := World.var?_cell gES hv1 0; simpa using h0⟩, ⟨_, _, by have h0 := World.var?_cell gER hv0 0; simpa using h0⟩⟩
def putTab (cs : Array Value) : Obj → Obj
  | .cells _ t frozen => .cells cs t frozen
  | o => o
noncomputable def laidWorldV (os : Os) : World :=
  { World.doorLaid Tryz.prog 72 os with heap := (World.doorLaid Tryz.prog 72 os).heap.modify 5 (putTab (Pinned.utf8FirstZ.map (fun n : Nat => Value.int .u8 n)).toArray) }
set_option maxRecDepth 100000 in
theorem laid_metV (os : Os) (args : Array Value) : laidMetH Tryz.prog Rows.fnTextRow.laid ((laidWorldV os).forCall (fun _ _ => 0) ⟨#[], args, []⟩).memory :=
  laidMetH_of_parts3 (fuel := 8) (laidMet_of_run' 8 (by kernel_rfl) (by kernel_rfl)) (by kernel_rfl) (by kernel_rfl)
end Go.Proofs.YtidbdokoonikpaaGreatDoor
end
