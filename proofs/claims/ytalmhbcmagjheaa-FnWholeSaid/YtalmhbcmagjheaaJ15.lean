/- Merged texts: JoiH. -/
import Derived.Test.YtalmhbcmagjheaaJ13
import Derived.Test.YtalmhbcmagjheaaJ14
import Derived.Deep.Cut
import Derived.Deep.CutRange
import Derived.Deep.AppendLies
import Derived.Deep.RegionWith
import Derived.Deep.RegionLaw
section
/- Walks: the reference's TileJoin. -/
namespace Go.Proofs.Ytalmhbcmagjheaa
open Go.RowKit Flo
attribute [local go_sem ↓] Go.wp_at_zero Go.wp_at_succ
attribute [local go_sem] run_store_float run_store_complex

set_option maxRecDepth 100000 in
set_option maxHeartbeats 1000000 in
theorem specWell_noJ (cx cy : Nat) (deep size : Int) (hx : cx < 4294967296) (hy : cy < 4294967296) (hp : placeB cx cy deep size = false) (va vb : Value) (w : World) :
    Calls Try.prog 30 #[.agg #[.complex .f32 cx cy, .int .i64 deep, .int .i64 size, va, vb]] w fun e w' => e = .returned (.bool false) ∧ Below w.heap.size w w' := by
  have hP := l7Place_is cx cy deep size hx hy
  rw [hp] at hP
  have HP := Lib.hid hP
  have B := Box.new w #[.complex .f32 cx cy, .int .i64 deep, .int .i64 size, va, vb] 37
  clear hP hp
  go_enter Try.func30, Try.ntmps30
  go_wp2_with fail
  refine (HP.out _).mono ?_
  rintro e w1 ⟨rfl, hd⟩
  have HB := Lib.hid (B.step (hd.below _)).old
  clear B hd
  go_wp2
  go_ret
  exact ⟨rfl, HB.out⟩
set_option maxRecDepth 100000 in
set_option maxHeartbeats 16000000 in
theorem specJoin_is (B g cap : Nat) (L : List JT) (t0 : JT) (h0 : L[0]? = some t0) (hl : L.length ≤ 4) (w : World) (hL : JIn B g L w) :
    Calls Try.prog 15 #[.slice (some ⟨g, 0, none⟩) L.length cap] w (JoinRes w L t0) := by
  have CW := Lib.hid (fun W (d : Below w.heap.size w W) => l7Four_is B g cap L t0 h0 hl W (hL.step d))
  have hok := hL.own t0 (List.mem_of_getElem? h0)
  have HOK := Lib.hid hok
  have HL := Lib.hid hL
  have H0 := Lib.hid h0
  have R := Box.new w (tileC 0 0 0 0 (.slice none 0 0) (.slice none 0 0)) 37
  have HR := Lib.hid R
  have hpos : 0 < L.length := (List.getElem?_eq_some_iff.1 h0).1
  have HLEN : Hid (Fit4 L t0 → L.length = 4) := fun h => h.len
  generalize hln : L.length = ln at *
  clear R hL h0 hok hln
  obtain ⟨iF, hiF, hzF0, hzF1, hzF2⟩ := info_parts infoF
  obtain ⟨iI, hiI, hzI0, hzI1, hzI2⟩ := info_parts infoI
  go_enter Try.func15, Try.ntmps15
  go_wp2_with fail
  refine (CW.out _ HR.out.old).mono ?_
  rintro e w1 ⟨⟨b, rfl, hb⟩, hd⟩
  have HFB : Hid (b = true ↔ Fit4 L t0) := hb
  replace HR := Lib.hid (HR.out.step hd)
  unfold tileC at HR
  clear hb hd CW
  cases b with
  | false =>
    have HN : Hid (¬ FitW L t0) := fun h => by have := HFB.out.2 h.1; cases this
    obtain ⟨c0, c1, c2, c3, c4⟩ := HR.out.cells5
    obtain ⟨f0, f1, f2, f3, f4⟩ := HR.out.free5
    have HB := Lib.hid HR.out.old
    clear HR HFB
    go_wp2
    exact bodyPost_ret (v := .tuple #[.agg #[.complex .f32 0 0, .int .i64 0, .int .i64 0, .slice none 0 0, .slice none 0 0], .bool false]) (by simp [results, Try.f15, go_sem, c0, c1, c2, c3, c4]) rfl (JoinRes.no (set5 HB.out (Nat.le_refl _) _ _ _ _ _) HN.out)
  | true =>
    have HF := Lib.hid (HFB.out.1 rfl)
    have hfour : ln = 4 := HLEN.out HF.out
    subst hfour
    obtain ⟨d, hd1, hd2, hd3, hs1, hs2, hq, hbx, hby⟩ := first_ok HOK.out (gdB_of (HF.out.gd 0 t0 H0.out)).2.2.2
    obtain ⟨n, hn⟩ := Int.eq_ofNat_of_zero_le (show 0 ≤ t0.size by omega)
    have HN := Lib.hid hn
    have hn1 : 1 ≤ n := by omega
    have hn8 : n ≤ 8 := by omega
    have hdd : 1 ≤ t0.deep ∧ t0.deep ≤ 10 := by omega
    have hw1 : IntKind.i64.wrap (t0.deep - 1) = t0.deep - 1 := IntWalk.i64_in _ (by omega)
    obtain ⟨x0, x1, x2, x3, x4⟩ := (HL.out.step HR.out.old).cells5 H0.out
    rw [Nat.zero_mul] at x0
    rw [Nat.zero_mul, Nat.zero_add] at x1 x2
    rw [hn] at x2
    have hgl : g < w1.heap.size := World.block_lt_of_cell? w1 ⟨g, 1, none⟩ x1
    obtain ⟨dj, hdj⟩ : ∃ dj, dj = t0.deep - 1 := ⟨_, rfl⟩
    have HDJ := Lib.hid hdj
    rw [← hdj] at hw1
    replace hdj : t0.deep - 1 = dj := hdj.symm
    obtain ⟨cx, hcx⟩ : ∃ cx, t0.cx = cx := ⟨_, rfl⟩
    obtain ⟨cy, hcy⟩ : ∃ cy, t0.cy = cy := ⟨_, rfl⟩
    have HCX := Lib.hid hcx
    have HCY := Lib.hid hcy
    rw [hcx, hcy] at x0
    obtain ⟨td, htd⟩ : ∃ td, t0.deep = td := ⟨_, rfl⟩
    rw [htd] at x1 hdj
    clear hd1 hd2 hd3 hs1 hs2 hq hbx hby hn HFB hcx hcy htd hdd HLEN hpos
    go_upto_region 4 with fail
    go_cut [5] from 25 to 37 (fun o wx => ∃ (ob gs gm : Nat), o = .pointer (some ⟨ob, 0, none⟩) ∧ Hid (JLitOut w w1 ob gs gm cx cy dj n wx))
    case first =>
      have HRW := HR
      have HKd : JKW w1 { w1 with drawn := w1.drawn + 1 } := (Below.refl _ _).drew
      refine wp_region_inv (by kernel_rfl) (fun D a W => ∃ u : Nat → Value, a = ⟨((Value.slice (some ⟨g, 0, none⟩) 4 cap) :: undef :: (Value.pointer (some ⟨w.heap.size, 0, none⟩)) :: (Value.bool false) :: (Value.int IntKind.i64 n) :: (u 13) :: undef :: undef :: undef :: undef :: undef :: undef :: undef :: undef :: undef :: undef :: undef :: (Value.slice (some ⟨g, 0, none⟩) 4 cap) :: (Value.bool true) :: (Value.bool false) :: undef :: (Value.slice (some ⟨g, 0, none⟩) 4 cap) :: (Value.pointer (some ⟨g, 0, none⟩)) :: (Value.pointer (some ⟨g, 2, none⟩)) :: (Value.int IntKind.i64 n) :: (u 0) :: (u 1) :: (u 2) :: (u 3) :: (u 4) :: (u 5) :: (u 6) :: (u 7) :: (u 8) :: (u 9) :: (u 10) :: (u 11) :: (u 12) :: undef :: undef :: undef :: undef :: undef :: undef :: undef :: undef :: undef :: undef :: undef :: undef :: undef :: undef :: undef :: undef :: undef :: undef :: undef :: undef :: undef :: undef :: undef :: undef :: undef :: undef :: undef :: undef :: undef :: undef :: undef :: undef :: undef :: undef :: undef :: undef :: undef :: undef :: undef :: undef :: undef :: undef :: undef :: undef :: undef :: undef :: undef :: undef :: undef :: undef :: undef :: undef :: undef :: undef :: undef :: undef :: undef :: undef :: undef :: undef :: undef :: undef :: undef :: undef :: undef :: undef :: undef :: undef :: undef :: undef :: undef :: undef :: undef :: undef :: undef :: undef :: undef :: undef :: undef :: undef :: undef :: undef :: undef :: undef :: undef :: undef :: undef :: undef :: undef :: undef :: undef :: undef :: undef :: undef :: undef :: undef :: undef :: undef :: undef :: undef :: undef :: []).toArray, []⟩ ∧ JLitS w w1 g cap cx cy n td dj D u W) (Jhac_of (by kernel_rfl)) ⟨fun _ => undef, rfl, .inl ⟨rfl, HKd, fun j h => by cases h⟩⟩ ?_ ?_
      · rintro D a W ⟨u, rfl, I⟩ i o ho hD hdep
        have hi : i < 15 := (Array.getElem?_eq_some_iff.1 ho).1
        obtain ⟨h15, hK, hF⟩ := I.open hi hD
        have HFF := Lib.hid (And.intro h15 (And.intro hK hF))
        have cA : W.cell? ⟨g, 0, none⟩ = some (.complex .f32 cx cy) := (Below.cell hK (p := ⟨g, 0, none⟩) hgl).trans x0
        have cB : W.cell? ⟨g, 1, none⟩ = some (.int .i64 td) := (Below.cell hK (p := ⟨g, 1, none⟩) hgl).trans x1
        clear I h15 x0 x1 x2 x3 x4
        rcases (by omega : i = 0 ∨ i = 1 ∨ i = 2 ∨ i = 3 ∨ i = 4 ∨ i = 5 ∨ i = 6 ∨ i = 7 ∨ i = 8 ∨ i = 9 ∨ i = 10 ∨ i = 11 ∨ i = 12 ∨ i = 13 ∨ i = 14) with rfl | rfl | rfl | rfl | rfl | rfl | rfl | rfl | rfl | rfl | rfl | rfl | rfl | rfl | rfl
        · simp only [List.getElem?_toArray, List.getElem?_cons_zero, Option.some.injEq] at ho
          subst ho
          rw [if_pos (by rfl)]
          refine Jwp_hold fun K hKK => ?_
          clear hF hdep hK
          go_simp
          exact hKK _ _ ⟨fun j => if j = 0 then .slice (some ⟨g, 0, none⟩) 4 cap else u j, rfl, JLitS.put HFF.out 0 (by omega) _ (Below.refl _ _) rfl⟩
        · simp only [List.getElem?_toArray, List.getElem?_cons_zero, List.getElem?_cons_succ, Option.some.injEq] at ho
          subst ho
          have d0 : D 0 = true := hdep ⟨0, .data⟩ (by simp) rfl
          have e0 := hF 0 d0
          simp only [JLitF] at e0
          rw [if_pos (by rfl)]
          refine Jwp_hold fun K hKK => ?_
          clear hF hdep hK
          go_simp
          exact hKK _ _ ⟨fun j => if j = 1 then .pointer (some ⟨g, 0, none⟩) else u j, by simp only [e0]; rfl, JLitS.put HFF.out 1 (by omega) _ (Below.refl _ _) rfl⟩
        · simp only [List.getElem?_toArray, List.getElem?_cons_zero, List.getElem?_cons_succ, Option.some.injEq] at ho
          subst ho
          have d1 : D 1 = true := hdep ⟨1, .data⟩ (by simp) rfl
          have e1 := hF 1 d1
          simp only [JLitF] at e1
          rw [if_pos (by rfl)]
          refine Jwp_hold fun K hKK => ?_
          clear hF hdep hK
          go_simp
          exact hKK _ _ ⟨fun j => if j = 2 then .pointer (some ⟨g, 0, none⟩) else u j, by simp only [e1]; rfl, JLitS.put HFF.out 2 (by omega) _ (Below.refl _ _) rfl⟩
        · simp only [List.getElem?_toArray, List.getElem?_cons_zero, List.getElem?_cons_succ, Option.some.injEq] at ho
          subst ho
          have d2 : D 2 = true := hdep ⟨2, .data⟩ (by simp) rfl
          have e2 := hF 2 d2
          simp only [JLitF] at e2
          rw [if_pos (by rfl)]
          refine Jwp_hold fun K hKK => ?_
          clear hF hdep hK
          go_simp
          exact hKK _ _ ⟨fun j => if j = 3 then .complex .f32 cx cy else u j, by simp only [e2]; rfl, JLitS.put HFF.out 3 (by omega) _ (Below.refl _ _) rfl⟩
        · simp only [List.getElem?_toArray, List.getElem?_cons_zero, List.getElem?_cons_succ, Option.some.injEq] at ho
          subst ho
          rw [if_pos (by rfl)]
          refine Jwp_hold fun K hKK => ?_
          clear hF hdep hK
          go_simp
          exact hKK _ _ ⟨fun j => if j = 4 then .slice (some ⟨g, 0, none⟩) 4 cap else u j, rfl, JLitS.put HFF.out 4 (by omega) _ (Below.refl _ _) rfl⟩
        · simp only [List.getElem?_toArray, List.getElem?_cons_zero, List.getElem?_cons_succ, Option.some.injEq] at ho
          subst ho
          have d4 : D 4 = true := hdep ⟨4, .data⟩ (by simp) rfl
          have e4 := hF 4 d4
          simp only [JLitF] at e4
          rw [if_pos (by rfl)]
          refine Jwp_hold fun K hKK => ?_
          clear hF hdep hK
          go_simp
          exact hKK _ _ ⟨fun j => if j = 5 then .pointer (some ⟨g, 0, none⟩) else u j, by simp only [e4]; rfl, JLitS.put HFF.out 5 (by omega) _ (Below.refl _ _) rfl⟩
        · simp only [List.getElem?_toArray, List.getElem?_cons_zero, List.getElem?_cons_succ, Option.some.injEq] at ho
          subst ho
          have d5 : D 5 = true := hdep ⟨5, .data⟩ (by simp) rfl
          have e5 := hF 5 d5
          simp only [JLitF] at e5
          rw [if_pos (by rfl)]
          refine Jwp_hold fun K hKK => ?_
          clear hF hdep hK
          go_simp
          exact hKK _ _ ⟨fun j => if j = 6 then .pointer (some ⟨g, 1, none⟩) else u j, by simp only [e5]; rfl, JLitS.put HFF.out 6 (by omega) _ (Below.refl _ _) rfl⟩
        · simp only [List.getElem?_toArray, List.getElem?_cons_zero, List.getElem?_cons_succ, Option.some.injEq] at ho
          subst ho
          have d6 : D 6 = true := hdep ⟨6, .data⟩ (by simp) rfl
          have e6 := hF 6 d6
          simp only [JLitF] at e6
          rw [if_pos (by rfl)]
          refine Jwp_hold fun K hKK => ?_
          clear hF hdep hK
          go_simp
          exact hKK _ _ ⟨fun j => if j = 7 then .int .i64 td else u j, by simp only [e6]; rfl, JLitS.put HFF.out 7 (by omega) _ (Below.refl _ _) rfl⟩
        · simp only [List.getElem?_toArray, List.getElem?_cons_zero, List.getElem?_cons_succ, Option.some.injEq] at ho
          subst ho
          have d7 : D 7 = true := hdep ⟨7, .data⟩ (by simp) rfl
          have e7 := hF 7 d7
          simp only [JLitF] at e7
          rw [if_pos (by rfl)]
          refine Jwp_hold fun K hKK => ?_
          clear hF hdep hK
          go_simp
          exact hKK _ _ ⟨fun j => if j = 8 then .int .i64 dj else u j, by simp only [e7]; rfl, JLitS.put HFF.out 8 (by omega) _ (Below.refl _ _) rfl⟩
        · simp only [List.getElem?_toArray, List.getElem?_cons_zero, List.getElem?_cons_succ, Option.some.injEq] at ho
          subst ho
          rw [if_pos (by rfl)]
          refine Jwp_hold fun K hKK => ?_
          clear hF hdep hK
          go_simp
          exact hKK _ _ ⟨fun j => if j = 9 then .int .i64 n else u j, rfl, JLitS.put HFF.out 9 (by omega) _ (Below.refl _ _) rfl⟩
        · simp only [List.getElem?_toArray, List.getElem?_cons_zero, List.getElem?_cons_succ, Option.some.injEq] at ho
          subst ho
          rw [if_pos (by rfl)]
          refine Jwp_hold fun K hKK => ?_
          clear hF hdep hK
          go_simp
          exact hKK _ _ ⟨fun j => if j = 10 then .slice (some ⟨W.heap.size, 0, none⟩) 0 0 else u j, rfl, JLitS.put HFF.out 10 (by omega) _ ((Below.refl _ _).alloc (Nat.le_refl _) _) ⟨_, rfl, JEM.new HFF.out.2.1⟩⟩
        · simp only [List.getElem?_toArray, List.getElem?_cons_zero, List.getElem?_cons_succ, Option.some.injEq] at ho
          subst ho
          rw [if_pos (by rfl)]
          refine Jwp_hold fun K hKK => ?_
          clear hF hdep hK
          go_simp
          exact hKK _ _ ⟨fun j => if j = 11 then .slice (some ⟨W.heap.size, 0, none⟩) 0 0 else u j, rfl, JLitS.put HFF.out 11 (by omega) _ ((Below.refl _ _).alloc (Nat.le_refl _) _) ⟨_, rfl, JEM.new HFF.out.2.1⟩⟩
        · simp only [List.getElem?_toArray, List.getElem?_cons_zero, List.getElem?_cons_succ, Option.some.injEq] at ho
          subst ho
          have d3 : D 3 = true := hdep ⟨3, .data⟩ (by simp) rfl
          have d8 : D 8 = true := hdep ⟨8, .data⟩ (by simp) rfl
          have d9 : D 9 = true := hdep ⟨9, .data⟩ (by simp) rfl
          have d10 : D 10 = true := hdep ⟨10, .data⟩ (by simp) rfl
          have d11 : D 11 = true := hdep ⟨11, .data⟩ (by simp) rfl
          have e3 := hF 3 d3
          simp only [JLitF] at e3
          have e8 := hF 8 d8
          simp only [JLitF] at e8
          have e9 := hF 9 d9
          simp only [JLitF] at e9
          obtain ⟨gs, e10, E1⟩ := hF 10 d10
          obtain ⟨gm, e11, E2⟩ := hF 11 d11
          have HO := Lib.hid (And.intro E1 E2)
          clear E1 E2
          rw [if_pos (by rfl)]
          refine Jwp_hold fun K hKK => ?_
          clear hF hdep hK
          go_simp
          exact hKK _ _ ⟨fun j => if j = 12 then .agg #[.complex .f32 cx cy, .int .i64 dj, .int .i64 n, .slice (some ⟨gs, 0, none⟩) 0 0, .slice (some ⟨gm, 0, none⟩) 0 0] else u j, by simp only [e3, e8, e9, e10, e11]; rfl, JLitS.put HFF.out 12 (by omega) _ (Below.refl _ _) ⟨gs, gm, rfl, HO.out.1, HO.out.2⟩⟩
        · simp only [List.getElem?_toArray, List.getElem?_cons_zero, List.getElem?_cons_succ, Option.some.injEq] at ho
          subst ho
          rw [if_pos (by rfl)]
          refine Jwp_hold fun K hKK => ?_
          clear hF hdep hK
          go_simp
          exact hKK _ _ ⟨fun j => if j = 13 then .pointer (some ⟨W.heap.size, 0, none⟩) else u j, rfl, JLitS.put HFF.out 13 (by omega) _ ((Below.refl _ _).alloc (Nat.le_refl _) _) ⟨_, rfl, HFF.out.2.1.size, Box.jnewK HFF.out.2.1⟩⟩
        · simp only [List.getElem?_toArray, List.getElem?_cons_zero, List.getElem?_cons_succ, Option.some.injEq] at ho
          subst ho
          have d13 : D 13 = true := hdep ⟨13, .data⟩ (by simp) rfl
          have d12 : D 12 = true := hdep ⟨12, .data⟩ (by simp) rfl
          obtain ⟨ob, e13, hob, O⟩ := hF 13 d13
          obtain ⟨gs, gm, e12, E1, E2⟩ := hF 12 d12
          have HALL : Hid (∀ j, j < 14 → D j = true) := fun j hj => hdep ⟨j, .phase⟩ (by rcases (by omega : j = 0 ∨ j = 1 ∨ j = 2 ∨ j = 3 ∨ j = 4 ∨ j = 5 ∨ j = 6 ∨ j = 7 ∨ j = 8 ∨ j = 9 ∨ j = 10 ∨ j = 11 ∨ j = 12 ∨ j = 13) with rfl | rfl | rfl | rfl | rfl | rfl | rfl | rfl | rfl | rfl | rfl | rfl | rfl | rfl <;> simp) rfl
          obtain ⟨t0, t1, t2, t3, t4⟩ := O.cells5
          obtain ⟨z0, z1, z2, z3, z4⟩ := O.free5
          have hlt := O.lt
          have HFIN := Lib.hid (Jlit_set (cx := cx) (cy := cy) (deep := dj) (size := n) HRW.out hK E1 E2 O hob)
          clear E1 E2 O
          rw [if_pos (by rfl)]
          refine Jwp_hold fun K hKK => ?_
          clear hF hdep hK
          go_simp
          exact hKK _ _ ⟨u, by simp only [e13, e12], .inr ⟨rfl, fun j hj => by simp only; rw [if_neg (by omega)]; exact HALL.out j hj, ob, gs, gm, e13, HFIN.out⟩⟩
      · rintro D a W ⟨u, rfl, I⟩ hall
        rcases I with ⟨h, _⟩ | ⟨_, _, ob, gs, gm, e13, h⟩
        · rw [hall 14 (by decide)] at h; cases h
        · have HFIN := Lib.hid h
          clear h hall
          go_wp2_with fail
          go_meet
          exact ⟨ob, gs, gm, e13, HFIN.out⟩
    case rest =>
      obtain ⟨ob, gs, gm, rfl, HL0⟩ := hcut
      have HT : Hid (TM w w.heap.size ob cx cy dj n 0 0 [] [] (.slice (some ⟨gs, 0, none⟩) 0 0) (.slice (some ⟨gm, 0, none⟩) 0 0) wc) := HL0.out.1
      clear HR x0 x1 x2 x3 x4 hgl hw1 hdj HL0
      obtain ⟨nn, hnn⟩ : ∃ nn : Nat, n * n = nn := ⟨_, rfl⟩
      have HNN := Lib.hid hnn
      have hnnb : nn ≤ 64 := by have : n * n ≤ 8 * 8 := Nat.mul_le_mul hn8 hn8; omega
      clear hnn
      have HX0 : Hid (JX (JXs L) n 0 []) := ⟨rfl, fun c x h => by simp at h⟩
      go_wp2
      go_loopw [6] (fun x wr => ∃ (i N gs cs gm cm : Nat) (xs : List Nat) (ys : List Int), i ≤ n ∧ x = .int .i64 i ∧ Hid (N = i * n) ∧ Hid (TM w w.heap.size ob cx cy dj n N N xs ys (.slice (some ⟨gs, 0, none⟩) N cs) (.slice (some ⟨gm, 0, none⟩) N cm) wr) ∧ Hid (JX (JXs L) n N xs) ∧ Hid (ys = (List.range N).map (jmark (JYs L) n))) (fun x _ => (n - intOf x).toNat)
      case atStart => exact ⟨0, 0, gs, 0, gm, 0, [], [], by omega, rfl, (by show 0 = 0 * n; simp), HT, HX0, rfl⟩
      case round =>
        clear HT HX0 gs gm
        obtain ⟨i, N, gs, cs, gm, cm, xs, ys, hi, rfl, HNI, HT, HX, HY⟩ := hrel
        obtain ⟨wo, rfl⟩ : ∃ wo, wo = wr := ⟨_, rfl⟩
        by_cases hlt : i < n
        · go_wp2
          go_loopw [7] (fun x wr => ∃ (j N gs cs gm cm : Nat) (xs : List Nat) (ys : List Int), j ≤ n ∧ x = .int .i64 j ∧ Hid (N = i * n + j) ∧ Hid (TM w w.heap.size ob cx cy dj n N N xs ys (.slice (some ⟨gs, 0, none⟩) N cs) (.slice (some ⟨gm, 0, none⟩) N cm) wr) ∧ Hid (JX (JXs L) n N xs) ∧ Hid (ys = (List.range N).map (jmark (JYs L) n))) (fun x _ => (n - intOf x).toNat)
          case atStart => exact ⟨0, N, gs, cs, gm, cm, xs, ys, by omega, rfl, HNI, HT, HX, HY⟩
          case round =>
            clear HT HNI HX HY xs ys N gs cs gm cm
            obtain ⟨j, N, gs, cs, gm, cm, xs, ys, hj, rfl, HNI, HT, HX, HY⟩ := hrel
            clear wo
            obtain ⟨wo, rfl⟩ : ∃ wo, wo = wr := ⟨_, rfl⟩
            by_cases hls : j < n
            · have HNB : Hid (N < nn) := by
                show N < nn
                have h1 := HNI.out
                have h2 := HNN.out
                have : (i + 1) * n ≤ n * n := Nat.mul_le_mul_right n hlt
                rw [Nat.succ_mul] at this
                omega
              have hlt2 : N < nn := HNB.out
              have HFC := Lib.hid (fun k (hk : k < 4) => HF.out.cell HN.out hn1 hn8 (c := N) (k := k) (by have := HNN.out; omega) hk)
              have HI : Hid (N / n = i) := by
                show N / n = i
                rw [HNI.out, Nat.mul_comm, Nat.mul_add_div (by omega), Nat.div_eq_of_lt hls]; rfl
              have HJ : Hid (N % n = j) := by
                show N % n = j
                rw [HNI.out, Nat.mul_comm, Nat.mul_add_mod, Nat.mod_eq_of_lt hls]
              have hob : ob < wo.heap.size := HT.out.O.lt
              have hrb : w.heap.size < wo.heap.size := HT.out.R.lt
              have HQ : Hid (QM w w.heap.size ob wo.heap.size (wo.heap.size + 1) cx cy dj n N N xs ys (.slice (some ⟨gs, 0, none⟩) N cs) (.slice (some ⟨gm, 0, none⟩) N cm) (sfC (jx (JXs L) n N) 0) (mfC (jm (JYs L) n N) 0) ((wo.alloc (.cells #[.float .f32 0, .float .f32 0, .float .f32 0, .float .f32 0] 58)).alloc (.cells #[.int .i64 0, .int .i64 0, .int .i64 0, .int .i64 0] 59))) := by
                have ho := HT.out.old
                have h1 := (Box.new wo (sfC (jx (JXs L) n N) 0) 58).up ho
                have h2 := (Box.new (wo.alloc (.cells (sfC (jx (JXs L) n N) 0) 58)) (mfC (jm (JYs L) n N) 0) 59).up (ho.alloc ho.size _)
                rw [World.size_alloc] at h2
                exact ⟨(HT.out.alloc _).alloc _, h1.alloc _, h2, by omega, by omega, by omega, by omega, by omega, by omega, by omega⟩
              have HFN := Lib.hid (fun k (hk : k < 4) => fourN_is (n := n) (i := i) (j := j) (k := k) hn1 hn8 hlt hls hk)
              have hin : (i : Int) ≤ 8 ∧ (j : Int) ≤ 8 := by omega
              clear HT
              go_upto_region 13 with fail
              generalize hsb : wo.heap.size = sb at *
              generalize (wo.alloc (.cells #[.float .f32 0, .float .f32 0, .float .f32 0, .float .f32 0] 58)).alloc (.cells #[.int .i64 0, .int .i64 0, .int .i64 0, .int .i64 0] 59) = w5 at *
              clear hsb
              go_wp2
              go_loopw [10] (fun x wr => ∃ k : Nat, k ≤ 4 ∧ x = .int .i64 k ∧ Hid (QM w w.heap.size ob sb (sb + 1) cx cy dj n N N xs ys (.slice (some ⟨gs, 0, none⟩) N cs) (.slice (some ⟨gm, 0, none⟩) N cm) (sfC (jx (JXs L) n N) k) (mfC (jm (JYs L) n N) k) wr)) (fun x _ => (4 - intOf x).toNat)
              case atStart => exact ⟨0, by omega, rfl, HQ⟩
              case round =>
                clear HQ
                obtain ⟨k, hk, rfl, HQ⟩ := hrel
                by_cases hlk : k < 4
                · obtain ⟨t, ht, hx, hy, hq4, hqn, hlx, hly⟩ := HFC.out k hlk
                  obtain ⟨kh, km, r, cc, rq, cq, rm, cm', r2, rn, ⟨q1, q2, q3, q4, q5, q6, q7, q8, w0, w1', u1, u2, u3, u4, y1, y2, y3, y4, y5, z1, z2⟩⟩ := HFN.out k hlk
                  have JO := HL.out.own t (List.mem_of_getElem? ht)
                  obtain ⟨g1, o1, g2, o2, ha1, ha2, hc1, hc2⟩ := JO.rows hx hy
                  obtain ⟨p0, p1, p2, p3, p4⟩ := HL.out.cells5 ht
                  rw [ha1, hlx] at p3
                  rw [ha2, hly] at p4
                  have hqe : jq n N k = qN n i j k := by rw [jq_eq, HI.out, HJ.out]
                  have hae : jat n N k = aN n i j k := by rw [jat_eq, HI.out, HJ.out]
                  rw [hqe] at p0 p1 p2 p3 p4 hq4
                  rw [hae] at hc1 hc2 hqn
                  rw [HNN.out] at p3 p4 hqn
                  generalize qN n i j k = q at *
                  generalize aN n i j k = at' at *
                  have hgl : g < w.heap.size := World.block_lt_of_cell? w ⟨g, q * 5 + 3, none⟩ p3
                  have hg1 : g1 < w.heap.size := World.block_lt_of_cell? w ⟨g1, o1 + at', none⟩ hc1
                  have hg2 : g2 < w.heap.size := World.block_lt_of_cell? w ⟨g2, o2 + at', none⟩ hc2
                  obtain ⟨v1, hv1⟩ := sfC_at (jx (JXs L) n N) k hlk
                  obtain ⟨v2, hv2⟩ := mfC_at (jm (JYs L) n N) k hlk
                  have dw := HQ.out.T.old
                  have hsw := HQ.out.hs
                  have hsl : sb < wr.heap.size := HQ.out.S.lt
                  have hml : sb + 1 < wr.heap.size := HQ.out.M.lt
                  have p0' : wr.cell? ⟨g, q * 5, none⟩ = _ := (dw.cell hgl).trans p0
                  have p1' : wr.cell? ⟨g, q * 5 + 1, none⟩ = _ := (dw.cell hgl).trans p1
                  have p2' : wr.cell? ⟨g, q * 5 + 2, none⟩ = _ := (dw.cell hgl).trans p2
                  have p3' : wr.cell? ⟨g, q * 5 + 3, none⟩ = _ := (dw.cell hgl).trans p3
                  have p4' : wr.cell? ⟨g, q * 5 + 4, none⟩ = _ := (dw.cell hgl).trans p4
                  have hww := dw.size
                  have hgw : g < wr.heap.size := by omega
                  have b1 : (q : Int) < 4 := by omega
                  have b2 : (0 : Int) ≤ q := by omega
                  have b3 : (at' : Int) < nn := by omega
                  have b4 : (0 : Int) ≤ at' := by omega
                  have b5 : (k : Int) < 4 := by omega
                  have b6 : (0 : Int) ≤ k := by omega
                  have HW := Lib.hid (And.intro hc1 (And.intro hc2 (And.intro hv1 hv2)))
                  clear JO ht hx hy ha1 ha2 hqe hae hv1 hv2 hlx hly p0 p1 p2 p3 p4 hc1 hc2 dw
                  go_upto_region 18 with fail
                  go_cut [13] from 62 to 72 (fun p wx => p = .pointer (some ⟨wr.heap.size, 0, none⟩) ∧ wx = (wr.alloc (.cells #[.complex .f32 t.cx t.cy, .int .i64 t.deep, .int .i64 t.size, .slice (some ⟨g1, o1, none⟩) nn t.c1, .slice (some ⟨g2, o2, none⟩) nn t.c2] 37)).drew)
                  case first =>
                    go_region_with (fail)
                    all_goals
                      go_wp2_with fail
                      go_meet
                      with_reducible exact ⟨rfl, rfl⟩
                  case rest =>
                    obtain ⟨rfl, rfl⟩ := hcut
                    obtain ⟨hc1, hc2, hv1, hv2⟩ := HW.out
                    have A := (Box.new wr #[.complex .f32 t.cx t.cy, .int .i64 t.deep, .int .i64 t.size, .slice (some ⟨g1, o1, none⟩) nn t.c1, .slice (some ⟨g2, o2, none⟩) nn t.c2] 37).step ((Drw.refl _).drew.below _)
                    have HQA := Lib.hid (HQ.out.step (((Below.refl _ _).alloc (Nat.le_refl _) _).trans (((Drw.refl (wr.alloc (.cells #[.complex .f32 t.cx t.cy, .int .i64 t.deep, .int .i64 t.size, .slice (some ⟨g1, o1, none⟩) nn t.c1, .slice (some ⟨g2, o2, none⟩) nn t.c2] 37))).drew.below _))))
                    generalize hab : wr.heap.size = ab at *
                    generalize (wr.alloc (.cells #[.complex .f32 t.cx t.cy, .int .i64 t.deep, .int .i64 t.size, .slice (some ⟨g1, o1, none⟩) nn t.c1, .slice (some ⟨g2, o2, none⟩) nn t.c2] 37)).drew = wa at *
                    have HA := Lib.hid A
                    clear A HQ p0' p1' p2' p3' p4' hab
                    go_upto_region 19 with fail
                    refine wp_region_kept (by kernel_rfl) (by kernel_rfl) ?_
                    repeat (go_big_quiet_step (fail))
                    refine wpQuiet_nil ?_
                    rintro _ ⟨sq, rfl⟩
                    replace HQA := Lib.hid (HQA.out.step sq.h)
                    have A := HA.out.step sq.h
                    generalize sq.W = wb at *
                    clear sq HA
                    obtain ⟨-, -, -, a3, a4⟩ := A.cells5
                    have dw := HQA.out.T.old
                    have hc1' : wb.cell? ⟨g1, o1 + at', none⟩ = _ := (dw.cell hg1).trans hc1
                    have hc2' : wb.cell? ⟨g2, o2 + at', none⟩ = _ := (dw.cell hg2).trans hc2
                    have s1' := HQA.out.S.cell k _ hv1
                    have s2' := HQA.out.M.cell k _ hv2
                    have f1' := HQA.out.S.frozen k
                    have f2' := HQA.out.M.frozen k
                    have hal := A.lt
                    generalize hjx : jx (JXs L) n N k = xk at *
                    generalize hjm : jm (JYs L) n N k = yk at *
                    have HQ3 : Hid (QM w w.heap.size ob sb (sb + 1) cx cy dj n N N xs ys (.slice (some ⟨gs, 0, none⟩) N cs) (.slice (some ⟨gm, 0, none⟩) N cm) (sfC (jx (JXs L) n N) (k + 1)) (mfC (jm (JYs L) n N) (k + 1)) ((wb.setCell ⟨sb, k, none⟩ (.float .f32 xk)).setCell ⟨sb + 1, k, none⟩ (.int .i64 yk))) := by
                      subst hjx hjm
                      exact HQA.out.both hlk (Below.refl _ _) (Below.refl _ _)
                    clear A dw hc1 hc2 hv1 hv2 HQA q1 q2 q3 q4 q5 q6 q7 q8 w0 w1' u1 u2 u3 u4 y1 y2 y3 y4 y5 z1 z2
                    go_wp2
                    go_roundw
                    case rel => exact ⟨k + 1, by omega, by go_num, HQ3⟩
                    case measure => simp [intOf]; omega
                · obtain rfl : k = 4 := by omega
                  have Q := HQ.out
                  obtain ⟨sx0, sx1, sx2, sx3⟩ : (wr.cell? ⟨sb, 0, none⟩ = some (.float .f32 (jx (JXs L) n N 0))) ∧ (wr.cell? ⟨sb, 1, none⟩ = some (.float .f32 (jx (JXs L) n N 1))) ∧ (wr.cell? ⟨sb, 2, none⟩ = some (.float .f32 (jx (JXs L) n N 2))) ∧ (wr.cell? ⟨sb, 3, none⟩ = some (.float .f32 (jx (JXs L) n N 3))) := ⟨Q.S.cell 0 _ rfl, Q.S.cell 1 _ rfl, Q.S.cell 2 _ rfl, Q.S.cell 3 _ rfl⟩
                  obtain ⟨lo, w7, r1, hlo, D1, A1⟩ := Flo.arith_al (P := Try.prog) .add (by simp) 41 .f32 (jx (JXs L) n N 0) (jx (JXs L) n N 1) wr
                  have Q7 := Q.drw D1
                  have sy2 : w7.cell? ⟨sb, 2, none⟩ = some (.float .f32 (jx (JXs L) n N 2)) := Q7.S.cell 2 _ rfl
                  have sy3 : w7.cell? ⟨sb, 3, none⟩ = some (.float .f32 (jx (JXs L) n N 3)) := Q7.S.cell 3 _ rfl
                  obtain ⟨hi, w8, r2, hhi, D2, A2⟩ := Flo.arith_al (P := Try.prog) .add (by simp) 41 .f32 (jx (JXs L) n N 2) (jx (JXs L) n N 3) w7
                  have Q8 := Q7.drw D2
                  have HJM : Hid (jmark (JYs L) n N = if jm (JYs L) n N 0 = jm (JYs L) n N 0 ∧ jm (JYs L) n N 1 = jm (JYs L) n N 0 ∧ jm (JYs L) n N 2 = jm (JYs L) n N 0 ∧ jm (JYs L) n N 3 = jm (JYs L) n N 0 then jm (JYs L) n N 0 else 0) := rfl
                  obtain ⟨md, w9, r3, hmd, D3, A3⟩ := Flo.arith_al (P := Try.prog) .add (by simp) 41 .f32 lo hi w8
                  have Q9 := Q8.drw D3
                  obtain ⟨z, w10, r4, hz, D4, A4⟩ := Flo.arith_al (P := Try.prog) .quo (by simp) 41 .f32 md 1082130432 w9
                  have Q10 := Q9.drw D4
                  have HZ : Hid (Al .f32 (jsm (JXs L) n N) z ∧ z < 4294967296) := by
                    refine ⟨?_, hz⟩
                    unfold jsm jmean
                    rw [opC_al A1 A2, opC_al A3 (.inl rfl)]
                    exact A4
                  have k8 : w8.cell? ⟨ob, 3, none⟩ = some (.slice (some ⟨gs, 0, none⟩) N cs) := Q8.T.oc.2.2.2.1
                  have HQ8 := Lib.hid Q8
                  have HQ10 := Lib.hid Q10
                  have HD := Lib.hid (D3.trans D4)
                  have hb10 := Q10.T.old.size
                  have HM4 : Hid ((mfC (jm (JYs L) n N) 4)[0]? = some (.int .i64 (jm (JYs L) n N 0)) ∧ (mfC (jm (JYs L) n N) 4)[1]? = some (.int .i64 (jm (JYs L) n N 1)) ∧ (mfC (jm (JYs L) n N) 4)[2]? = some (.int .i64 (jm (JYs L) n N 2)) ∧ (mfC (jm (JYs L) n N) 4)[3]? = some (.int .i64 (jm (JYs L) n N 3))) := ⟨rfl, rfl, rfl, rfl⟩
                  have HM5 : Hid (((mfC (jm (JYs L) n N) 4).setIfInBounds 0 (.int .i64 0))[0]? = some (.int .i64 0)) := rfl
                  generalize mfC (jm (JYs L) n N) 4 = mf at *
                  generalize jx (JXs L) n N 0 = y0 at *
                  generalize jx (JXs L) n N 1 = y1 at *
                  generalize jx (JXs L) n N 2 = y2 at *
                  generalize jx (JXs L) n N 3 = y3 at *
                  generalize jm (JYs L) n N 0 = u0 at *
                  generalize jm (JYs L) n N 1 = u1 at *
                  generalize jm (JYs L) n N 2 = u2 at *
                  generalize jm (JYs L) n N 3 = u3 at *
                  clear Q Q7 Q8 Q9 Q10 D1 D2 D3 D4 A1 A2 A3 A4 hlo hhi hmd hz HQ HFC
                  go_upto_region 25 with (at_builtin; refine wpList_append_lies _ rfl _ _ _ rfl w.heap.size 41 iF _ 1 4 Try.underlying35 hiF hzF0 hzF1 hzF2 rfl (by omega) _ N (xs.map floV) rfl (HQ10.out.T.S.alloc _) ⟨w10.heap.size, 0, none⟩ 1 1 [floV z] rfl rfl (World.news_of_block (cs := #[floV z]) (t := 41) (fr := (0, 0)) (heap_alloc_new w10 _)) (by simp [floV, Value.oneCell']) (by omega) (by unfold maxLen; omega) (by omega) (by simp; omega) (w10.heap.size + 1) (by simp) ?_; intro g6 c6 w11 hown hgrow _ _; obtain ⟨T6, k6, f6⟩ := (HQ10.out.alloc _).smooth HZ.out.2 hown hgrow; have HT6 := Lib.hid T6; clear T6 hown hgrow)
                  clear k6 f6 k8 r1 r2 r3 r4 sx0 sx1 sx2 sx3 sy2 sy3 hb10
                  generalize w11.setCell ⟨ob, 3, none⟩ (.slice (some ⟨g6, 0, none⟩) (N + 1) c6) = w12 at *
                  have m0 : w12.cell? ⟨sb + 1, 0, none⟩ = some (.int .i64 u0) := HT6.out.M.cell 0 _ HM4.out.1
                  have m1 : w12.cell? ⟨sb + 1, 1, none⟩ = some (.int .i64 u1) := HT6.out.M.cell 1 _ HM4.out.2.1
                  have m2 : w12.cell? ⟨sb + 1, 2, none⟩ = some (.int .i64 u2) := HT6.out.M.cell 2 _ HM4.out.2.2.1
                  have m3 : w12.cell? ⟨sb + 1, 3, none⟩ = some (.int .i64 u3) := HT6.out.M.cell 3 _ HM4.out.2.2.2
                  have fm := HT6.out.M.frozen 0
                  have heq := run_eq4 u0 u1 u2 u3 u0 u0 u0 u0 w12
                  have HMB : Hid (-1 ≤ jmark (JYs L) n N ∧ jmark (JYs L) n N ≤ 1) := jmark_bd (fun q y hy => HF.out.marks q y hy) n N
                  by_cases hc : u0 = u0 ∧ u1 = u0 ∧ u2 = u0 ∧ u3 = u0
                  · have HMK : Hid (jmark (JYs L) n N = u0) := by have := HJM.out; rw [if_pos hc] at this; exact this
                    rw [decide_eq_true hc] at heq
                    clear hc HJM
                    go_upto_region 27 with fail
                    have HT7 := Lib.hid HT6.out.T
                    have hmk : -1 ≤ (u0 : Int) ∧ (u0 : Int) ≤ 1 := HMK.out ▸ HMB.out
                    obtain ⟨-, -, -, -, k7⟩ := HT7.out.oc
                    obtain ⟨-, -, -, -, k8'⟩ := (HT7.out.alloc (.cells #[.int .i64 u0] 3)).oc
                    have hb6 := HT7.out.old.size
                    have hob6 := HT7.out.O.lt
                    clear heq fm
                    go_wp2_with (at_builtin; refine wpList_append_lies _ rfl _ _ _ rfl w.heap.size 3 iI _ 1 8 Try.underlying24 hiI hzI0 hzI1 hzI2 rfl (by omega) _ N (ys.map intV) rfl (HT7.out.M.alloc _) ⟨w12.heap.size, 0, none⟩ 1 1 [intV u0] rfl rfl (World.news_of_block (cs := #[intV u0]) (t := 3) (fr := (0, 0)) (heap_alloc_new w12 _)) (by simp [intV, Value.oneCell']) (by omega) (by unfold maxLen; omega) (by omega) (by simp; omega) (w12.heap.size + 1) (by simp) ?_; intro g8 c8 w13 hown hgrow _ _; obtain ⟨T8, k9, f9⟩ := (HT7.out.alloc _).mark hmk hown hgrow; have HT8 := Lib.hid T8; clear T8 hown hgrow)
                    go_roundw
                    case rel => exact ⟨j + 1, N + 1, g6, c6, g8, c8, xs ++ [z], ys ++ [u0], by omega, by go_num, (by show N + 1 = i * n + (j + 1); have := HNI.out; omega), HT8, HX.out.snoc HZ.out.1 HZ.out.2, (by have := jys_snoc (JYs L) n N; rw [HMK.out, ← HY.out] at this; exact this.symm)⟩
                    case measure => simp [intOf]; omega
                  · have HMK : Hid (jmark (JYs L) n N = 0) := by have := HJM.out; rw [if_neg hc] at this; exact this
                    rw [decide_eq_false hc] at heq
                    clear hc HJM
                    go_upto_region 27 with fail
                    have HQ7 := HT6.out.setM 0 (.int .i64 0)
                    generalize w12.setCell ⟨sb + 1, 0, none⟩ (.int .i64 0) = w14 at *
                    have m0' : w14.cell? ⟨sb + 1, 0, none⟩ = some (.int .i64 0) := HQ7.M.cell 0 _ HM5.out
                    have HT7 := Lib.hid HQ7.T
                    have hmk : -1 ≤ (0 : Int) ∧ (0 : Int) ≤ 1 := HMK.out ▸ HMB.out
                    clear m0 m1 m2 m3 HQ7
                    obtain ⟨-, -, -, -, k7⟩ := HT7.out.oc
                    obtain ⟨-, -, -, -, k8'⟩ := (HT7.out.alloc (.cells #[.int .i64 0] 3)).oc
                    have hb6 := HT7.out.old.size
                    have hob6 := HT7.out.O.lt
                    clear heq fm
                    go_wp2_with (at_builtin; refine wpList_append_lies _ rfl _ _ _ rfl w.heap.size 3 iI _ 1 8 Try.underlying24 hiI hzI0 hzI1 hzI2 rfl (by omega) _ N (ys.map intV) rfl (HT7.out.M.alloc _) ⟨w14.heap.size, 0, none⟩ 1 1 [intV 0] rfl rfl (World.news_of_block (cs := #[intV 0]) (t := 3) (fr := (0, 0)) (heap_alloc_new w14 _)) (by simp [intV, Value.oneCell']) (by omega) (by unfold maxLen; omega) (by omega) (by simp; omega) (w14.heap.size + 1) (by simp) ?_; intro g8 c8 w13 hown hgrow _ _; obtain ⟨T8, k9, f9⟩ := (HT7.out.alloc _).mark hmk hown hgrow; have HT8 := Lib.hid T8; clear T8 hown hgrow)
                    go_roundw
                    case rel => exact ⟨j + 1, N + 1, g6, c6, g8, c8, xs ++ [z], ys ++ [0], by omega, by go_num, (by show N + 1 = i * n + (j + 1); have := HNI.out; omega), HT8, HX.out.snoc HZ.out.1 HZ.out.2, (by have := jys_snoc (JYs L) n N; rw [HMK.out, ← HY.out] at this; exact this.symm)⟩
                    case measure => simp [intOf]; omega
            · obtain rfl : j = n := by omega
              go_wp2
              go_roundw
              case rel => exact ⟨i + 1, N, gs, cs, gm, cm, xs, ys, by omega, by go_num, (by show N = (i + 1) * j; rw [Nat.succ_mul]; exact HNI.out), HT, HX, HY⟩
              case measure => simp [intOf]; omega
        · obtain rfl : i = n := by omega
          have hNn : N = nn := by rw [← HNN.out, HNI.out]
          subst hNn
          obtain ⟨c0, c1, c2, c3, c4⟩ := HT.out.rc
          obtain ⟨f0, f1, f2, f3, f4⟩ := HT.out.R.free5
          obtain ⟨o0, o1, o2, o3, o4⟩ := HT.out.oc
          have hne := HT.out.ne
          have hly : ys.length = N := by have := HT.out.M.1; simpa using this
          have hsl := sl_of_own HT.out.M
          have hbx : cx < 4294967296 := by rw [← HCX.out]; exact HOK.out.bx
          have hby : cy < 4294967296 := by rw [← HCY.out]; exact HOK.out.by1
          have hpj : placeJ t0 = placeB cx cy dj i := by unfold placeJ; rw [HCX.out, HCY.out, ← HDJ.out, HN.out]
          have HPJ := Lib.hid hpj
          cases hpb : placeB cx cy dj i with
          | true =>
            have CW := Lib.hid (specWell_is cx cy dj i hbx hby hpb (some ⟨gs, 0, none⟩) (some ⟨gm, 0, none⟩) N cs cm ys (by omega) wo hsl)
            rw [wellB_true HNN.out.symm hly HT.out.hy, hly] at CW
            have HFW : Hid (FitW L t0) := ⟨HF.out, HPJ.out.trans hpb⟩
            clear hpb hpj hsl
            go_wp2_with fail
            refine CW.out.mono ?_
            rintro e w2 ⟨rfl, hd⟩
            have HT2 := Lib.hid (HT.out.step hd)
            clear c0 c1 c2 c3 c4 f0 f1 f2 f3 f4 o0 o1 o2 o3 o4 hd CW
            obtain ⟨c0, c1, c2, c3, c4⟩ := HT2.out.rc
            obtain ⟨f0, f1, f2, f3, f4⟩ := HT2.out.R.free5
            obtain ⟨o0, o1, o2, o3, o4⟩ := HT2.out.oc
            go_wp2
            exact bodyPost_ret (v := .tuple #[.agg #[.complex .f32 cx cy, .int .i64 dj, .int .i64 i, .slice (some ⟨gs, 0, none⟩) N cs, .slice (some ⟨gm, 0, none⟩) N cm], .bool true]) (by simp [results, Try.f15, go_sem, c0, c1, c2, c3, c4]) rfl (JoinRes.yes HN.out HNN.out.symm HCX.out.symm HCY.out.symm HDJ.out (set5 HT2.out.old (Nat.le_refl _) _ _ _ _ _) HFW.out (HT2.out.made HNN.out.symm _ _ _ _ _) HX.out HY.out)
          | false =>
            have CW := Lib.hid (specWell_noJ cx cy dj i hbx hby hpb (.slice (some ⟨gs, 0, none⟩) N cs) (.slice (some ⟨gm, 0, none⟩) N cm) wo)
            have HNF : Hid (¬ FitW L t0) := fun h => by have := h.2; rw [HPJ.out, hpb] at this; cases this
            clear hpb hpj hsl
            go_wp2_with fail
            refine CW.out.mono ?_
            rintro e w2 ⟨rfl, hd⟩
            have HT2 := Lib.hid (HT.out.step hd)
            clear c0 c1 c2 c3 c4 f0 f1 f2 f3 f4 o0 o1 o2 o3 o4 hd CW
            obtain ⟨c0, c1, c2, c3, c4⟩ := HT2.out.rc
            obtain ⟨f0, f1, f2, f3, f4⟩ := HT2.out.R.free5
            have HB := Lib.hid HT2.out.old
            go_wp2
            exact bodyPost_ret (v := .tuple #[.agg #[.complex .f32 0 0, .int .i64 0, .int .i64 0, .slice none 0 0, .slice none 0 0], .bool false]) (by simp [results, Try.f15, go_sem, c0, c1, c2, c3, c4]) rfl (JoinRes.no (set5 HB.out (Nat.le_refl _) _ _ _ _ _) HNF.out)
end Go.Proofs.Ytalmhbcmagjheaa
end
