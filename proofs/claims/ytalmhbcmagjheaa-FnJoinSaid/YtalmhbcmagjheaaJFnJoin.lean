/- FnJoin -/
import Derived.Test.YtalmhbcmagjheaaJ17
/- FnJoin: joined tiles are no surer than their parts. No condition. -/
namespace Go.Proofs.Ytalmhbcmagjheaa
open Go.ChangeShapes Go.WideShapes Go.ChangeAt Go.RowKit Flo
attribute [local go_sem] run_store_float run_store_complex

set_option maxRecDepth 100000 in
set_option maxHeartbeats 8000000 in
theorem FnJoin_walk (w : World) (a : Option Addr) (c : Nat) (bs : List UInt8) (_ : bs.length ≤ maxLen) (hc : bs.length ≤ c) (hs : Sl w a (bs.map byteV)) :
    Calls Try.prog 6 #[.slice a bs.length c] w fun e w' => e = .returned (.bool true) ∧ Below w.heap.size w w' := by
  by_cases hb : 1048576 < bs.length
  · go_enter Try.func6, Try.ntmps6
    go_wp2
    go_ret
    exact ⟨rfl, Below.refl _ _⟩
  have H := Lib.hid (drawTileJoin_any a c bs (by omega) hc w hs)
  clear hs
  go_enter Try.func6, Try.ntmps6
  go_wp2_with fail
  refine H.out.mono ?_
  rintro e w1 ⟨hd, g, cap, L, t0, rfl, h0, hl, J⟩
  have HD := Lib.hid hd
  have HJ := Lib.hid J
  have HS := Lib.hid (fun W (k : Below w1.heap.size w1 W) => specJoin_is w.heap.size g cap L t0 h0 hl W (J.step k))
  have H0 := Lib.hid h0
  have HO := Lib.hid (J.own t0 (List.mem_of_getElem? h0))
  have HLL := Lib.hid hl
  clear H hd
  go_wp2_with fail
  refine (implJoin_is w.heap.size g cap L t0 h0 hl _ J).mono ?_
  intro e w2 h2
  clear J h0
  by_cases hF : FitW L t0
  · have HF := Lib.hid hF
    have hlen : L.length = 4 := hF.1.len
    obtain ⟨d, -, -, -, hs1, hs2, -⟩ := first_ok HO.out (gdB_of (hF.1.gd 0 t0 H0.out)).2.2.2
    obtain ⟨n, hn⟩ := Int.eq_ofNat_of_zero_le (show 0 ≤ t0.size by omega)
    have hn1 : 1 ≤ n := by omega
    have hn8 : n ≤ 8 := by omega
    have hnn : n * n ≤ 64 := by have : n * n ≤ 8 * 8 := Nat.mul_le_mul hn8 hn8; omega
    obtain ⟨a1, c1, a2, c2, xs, ys, rfl, O1, hb2⟩ := h2.fit hF hn hn1
    have HN := Lib.hid hn
    have HNN := Lib.hid hnn
    have X2 := (Box.new w2 #[.complex .f32 t0.cx t0.cy, .int .i64 (t0.deep - 1), .int .i64 n, .slice a1 (n * n) c1, .slice a2 (n * n) c2] 37).up hb2
    have O2 := O1.step ((Below.refl _ _).alloc (Nat.le_refl _) (.cells #[.complex .f32 t0.cx t0.cy, .int .i64 (t0.deep - 1), .int .i64 n, .slice a1 (n * n) c1, .slice a2 (n * n) c2] 37))
    have HX2 := Lib.hid X2
    have HO2 := Lib.hid O2
    have HSS := HS.out _ X2.old
    rw [hlen] at HSS ⊢
    replace HSS := Lib.hid HSS
    clear h2 hF O1 hb2 X2 O2 HS hn hs1 hs2
    go_wp2_with fail
    refine HSS.out.mono ?_
    intro e w3 h3
    obtain ⟨b1, e1, b2, e2, xs', ys', rfl, O3, hb3⟩ := h3.fit HF.out HN.out hn1
    have HX3 := Lib.hid (HX2.out.step (hb3.alloc hb3.size (.cells #[.complex .f32 t0.cx t0.cy, .int .i64 (t0.deep - 1), .int .i64 n, .slice b1 (n * n) e1, .slice b2 (n * n) e2] 37)))
    have HO3 := Lib.hid (HO2.out.step (hb3.alloc hb3.size (.cells #[.complex .f32 t0.cx t0.cy, .int .i64 (t0.deep - 1), .int .i64 n, .slice b1 (n * n) e1, .slice b2 (n * n) e2] 37)))
    have X4 := (Box.new w3 #[.complex .f32 t0.cx t0.cy, .int .i64 (t0.deep - 1), .int .i64 n, .slice b1 (n * n) e1, .slice b2 (n * n) e2] 37).up (HX2.out.step hb3).old
    have O4 := O3.step ((Below.refl _ _).alloc (Nat.le_refl _) (.cells #[.complex .f32 t0.cx t0.cy, .int .i64 (t0.deep - 1), .int .i64 n, .slice b1 (n * n) e1, .slice b2 (n * n) e2] 37))
    have hyy : ys' = ys := by rw [O3.jy, HO2.out.jy]
    subst hyy
    obtain ⟨da, db, va, vb⟩ := HO.out.vals
    have CT := Lib.hid (sameTile_al va vb (t0.deep - 1) n a1 b1 a2 b2 c1 e1 c2 e2 xs xs' ys' (n * n) (by omega) (n * n) O3.ly (by omega) (HO2.out.jx.alike O3.jx) _ HO3.out.s1 O4.s1 HO3.out.s2 O4.s2)
    obtain ⟨p0, p1, p2, p3, p4⟩ := HX3.out.cells5
    obtain ⟨q0, q1, q2, q3, q4⟩ := X4.cells5
    have hob : w2.heap.size < w3.heap.size := by have := HX2.out.lt; have := hb3.size; omega
    have HX4 := Lib.hid X4.old
    clear h3 O3 hb3 X4 O4 va vb HX2 HO2 HSS
    go_wp2_with fail
    refine CT.out.mono ?_
    rintro e w4 ⟨rfl, hd4⟩
    have HX5 := Lib.hid (HX3.out.step hd4)
    have HO5 := Lib.hid (HO3.out.step hd4)
    clear hd4 CT HX3 HO3 HX4 p0 p1 p2 p3 p4 q0 q1 q2 q3 q4
    generalize w2.heap.size = ob at *
    clear hob
    have hsb : ob < w4.heap.size := HX5.out.lt
    have HYL : Hid (∀ q, q < 4 → (JYs L q).length ≤ 64) := fun q hq => by
      obtain ⟨t, ht⟩ := HF.out.1.tile hq
      rw [JYs_at ht, (HF.out.1.lens HN.out ht).2.1]
      exact hnn
    have HU : Hid (Box w4 w4.heap.size #[.int .i64 (sumJ (JYs L) 1 0 : Nat), .int .i64 (sumJ (JYs L) (-1) 0 : Nat), .int .i64 0] 3 (w4.alloc (.cells #[.int .i64 0, .int .i64 0, .int .i64 0] 3))) := Box.new w4 _ _
    go_upto_region 10 with fail
    go_loopw [9] (fun x wr => ∃ k : Nat, k ≤ 4 ∧ x = .int .i64 k ∧ Hid (Box w4 w4.heap.size #[.int .i64 (sumJ (JYs L) 1 k : Nat), .int .i64 (sumJ (JYs L) (-1) k : Nat), .int .i64 0] 3 wr)) (fun x _ => (4 - intOf x).toNat)
    case atStart => exact ⟨0, by omega, rfl, HU⟩
    case round =>
      clear HU
      obtain ⟨k, hk, rfl, HU⟩ := hrel
      have hdw := HX5.out.old.trans (HU.out.old.mono HX5.out.old.size)
      by_cases hlt : k < 4
      · obtain ⟨t, ht⟩ := HF.out.1.tile hlt
        have T := (HJ.out.step hdw).own t (List.mem_of_getElem? ht)
        have hlm := T.lim
        obtain ⟨p0, p1, p2, p3, p4⟩ := (HJ.out.step hdw).cells5 ht
        have CC := implCounts_good t.cx t.cy t.deep t.size T.bx T.by1 T.pl t.a1 t.a2 t.xs.length t.c1 t.c2 t.ys (by omega) wr T.s2 (gdB_of (HF.out.1.gd k t ht)).1
        have HYK := Lib.hid (JYs_at ht)
        have hcq : cntC t.ys t.ys.length = #[.int .i64 (cnt 1 t.ys : Nat), .int .i64 (cnt (-1) t.ys : Nat), .int .i64 (cnt 0 t.ys : Nat)] := by unfold cntC; rw [List.take_length]
        rw [hcq] at CC
        replace CC := Lib.hid CC
        have k1 := sumJ_le HYL.out 1 k (by omega)
        have k2 := sumJ_le HYL.out (-1) k (by omega)
        have k3 := cnt_le 1 t.ys
        have k4 := cnt_le (-1) t.ys
        have b5 : (k : Int) < 4 := by omega
        have b6 : (0 : Int) ≤ k := by omega
        obtain ⟨s0, hs0⟩ : ∃ x, sumJ (JYs L) 1 k = x := ⟨_, rfl⟩
        obtain ⟨s1, hs1⟩ : ∃ x, sumJ (JYs L) (-1) k = x := ⟨_, rfl⟩
        obtain ⟨m0, hm0⟩ : ∃ x, cnt 1 t.ys = x := ⟨_, rfl⟩
        obtain ⟨m1, hm1⟩ : ∃ x, cnt (-1) t.ys = x := ⟨_, rfl⟩
        obtain ⟨m2, hm2⟩ : ∃ x, cnt 0 t.ys = x := ⟨_, rfl⟩
        have HE0 : Hid (sumJ (JYs L) 1 (k + 1) = s0 + m0) := by show sumJ (JYs L) 1 k + cnt 1 (JYs L k) = _; rw [HYK.out, hs0, hm0]
        have HE1 : Hid (sumJ (JYs L) (-1) (k + 1) = s1 + m1) := by show sumJ (JYs L) (-1) k + cnt (-1) (JYs L k) = _; rw [HYK.out, hs1, hm1]
        rw [hm0, hm1, hm2] at CC
        rw [hs0, hs1] at HU
        have u1 : IntKind.i64.wrap ((s0 : Int) + m0) = ((s0 + m0 : Nat) : Int) := by rw [Int.natCast_add]; exact IntWalk.i64_in _ (by omega)
        have u2 : IntKind.i64.wrap ((s1 : Int) + m1) = ((s1 + m1 : Nat) : Int) := by rw [Int.natCast_add]; exact IntWalk.i64_in _ (by omega)
        generalize s0 + m0 = v0 at *
        generalize s1 + m1 = v1 at *
        clear T hlm k1 k2 k3 k4 hs0 hs1 hm0 hm1 hm2 hcq ht hdw
        go_wp2_with fail
        refine CC.out.mono ?_
        rintro e w6 ⟨b, rfl, hbb, hC⟩
        have HU2 := Lib.hid (HU.out.step hC.old)
        have j0 := hC.cell 0 _ rfl
        have j1 := hC.cell 1 _ rfl
        have z0 := HU2.out.cell 0 _ rfl
        have z1 := HU2.out.cell 1 _ rfl
        have y0 := HU2.out.frozen 0
        have y1 := HU2.out.frozen 1
        have hbs : w4.heap.size < b := by have := HU.out.lt; omega
        have hb6 := hC.lt
        clear hC CC HU p0 p1 p2 p3 p4
        go_upto_region 15 with fail
        go_cut [] from 67 to 75 (fun wx => wx = (w6.setCell ⟨w4.heap.size, 0, none⟩ (.int .i64 v0)).drew)
        case first =>
          go_region_with (fail)
          all_goals
            go_wp2_with fail
            go_meet
            with_reducible exact rfl
        case rest =>
          subst hcut
          have HU3 : Hid (Box w4 w4.heap.size #[.int .i64 v0, .int .i64 v1, .int .i64 0] 3 ((w6.setCell ⟨w4.heap.size, 0, none⟩ (.int .i64 v0)).drew.setCell ⟨w4.heap.size, 1, none⟩ (.int .i64 v1)).drew) :=
            ((((HU2.out.set (Nat.le_refl _) 0 (.int .i64 v0)).step ((Drw.refl _).drew.below _)).set (Nat.le_refl _) 1 (.int .i64 v1)).step ((Drw.refl _).drew.below _))
          clear HU2
          go_upto_region 16 with fail
          go_region_with (fail)
          all_goals
            clear j0 j1 z0 z1 y0 y1 u1 u2
            go_wp2
            go_roundw
            case rel => exact ⟨k + 1, by omega, by go_num, by rw [HE0.out, HE1.out]; exact HU3⟩
            case measure => simp [intOf]; omega
      · obtain rfl : k = 4 := by omega
        have X := HX5.out.step HU.out.old
        have O := HO5.out.step HU.out.old
        obtain ⟨r0, r1, r2, r3, r4⟩ := X.cells5
        have hplace : placeB t0.cx t0.cy (t0.deep - 1) n = true := by have := HF.out.2; unfold placeJ at this; rwa [HN.out] at this
        have hwell : wellB (n : Int) (n * n) ys' = true := wellB_true rfl O.ly O.hy
        have CC := implCounts_good t0.cx t0.cy (t0.deep - 1) n HO.out.bx HO.out.by1 hplace a1 a2 (n * n) c1 c2 ys' (by rw [O.ly]; omega) wr O.s2 hwell
        have hcq : cntC ys' ys'.length = #[.int .i64 (cnt 1 ys' : Nat), .int .i64 (cnt (-1) ys' : Nat), .int .i64 (cnt 0 ys' : Nat)] := by unfold cntC; rw [List.take_length]
        rw [hcq, O.ly] at CC
        replace CC := Lib.hid CC
        have hl4 : ∀ q, q < 4 → (JYs L q).length = n * n := fun q hq => by
          obtain ⟨t, ht⟩ := HF.out.1.tile hq
          rw [JYs_at ht]
          exact (HF.out.1.lens HN.out ht).2.1
        have j1 := join_cnt (Y := JYs L) (v := 1) (by decide) hn8 hl4
        have j2 := join_cnt (Y := JYs L) (v := -1) (by decide) hn8 hl4
        rw [← O.jy] at j1 j2
        have e1 : sumJ (JYs L) 1 4 = cnt 1 (JYs L 0) + cnt 1 (JYs L 1) + cnt 1 (JYs L 2) + cnt 1 (JYs L 3) := by simp [sumJ]
        have e2 : sumJ (JYs L) (-1) 4 = cnt (-1) (JYs L 0) + cnt (-1) (JYs L 1) + cnt (-1) (JYs L 2) + cnt (-1) (JYs L 3) := by simp [sumJ]
        rw [← e1] at j1
        rw [← e2] at j2
        have k1 := sumJ_le HYL.out 1 4 (by omega)
        have k2 := sumJ_le HYL.out (-1) 4 (by omega)
        generalize sumJ (JYs L) 1 4 = s0 at *
        generalize sumJ (JYs L) (-1) 4 = s1 at *
        generalize cnt 1 ys' = m0 at *
        generalize cnt (-1) ys' = m1 at *
        generalize cnt 0 ys' = m2 at *
        have HXO := Lib.hid (And.intro X O)
        have HPW := Lib.hid (And.intro hplace hwell)
        clear e1 e2 hcq X O hplace hwell hl4 hdw
        go_wp2_with fail
        refine CC.out.mono ?_
        rintro e w6 ⟨b, rfl, hbb, hC⟩
        have X6 := HXO.out.1.step hC.old
        have O6 := HXO.out.2.step hC.old
        have U6 := HU.out.step hC.old
        have J6 := HJ.out.step X6.old
        have HC6 := Lib.hid hC
        have HALL := Lib.hid (And.intro X6 (And.intro O6 (And.intro U6 J6)))
        obtain ⟨c0, c1', c2', c3, c4⟩ : (∀ s : Kw w6, s.W.cell? ⟨ob, 0, none⟩ = some (.complex .f32 t0.cx t0.cy)) ∧ (∀ s : Kw w6, s.W.cell? ⟨ob, 1, none⟩ = some (.int .i64 (t0.deep - 1))) ∧ (∀ s : Kw w6, s.W.cell? ⟨ob, 2, none⟩ = some (.int .i64 n)) ∧ (∀ s : Kw w6, s.W.cell? ⟨ob, 3, none⟩ = some (.slice a1 (n * n) c1)) ∧ (∀ s : Kw w6, s.W.cell? ⟨ob, 4, none⟩ = some (.slice a2 (n * n) c2)) := by
          have F := fun s : Kw w6 => (HALL.out.1.step s.h).cells5
          exact ⟨fun s => (F s).1, fun s => (F s).2.1, fun s => (F s).2.2.1, fun s => (F s).2.2.2.1, fun s => (F s).2.2.2.2⟩
        have l0 : ∀ s : Kw w6, s.W.cell? ⟨g, 0, none⟩ = some (.complex .f32 t0.cx t0.cy) := fun s => by
          have := ((HALL.out.2.2.2.step s.h).cells5 H0.out).1
          rwa [Nat.zero_mul] at this
        have d0 : ∀ s : Kw w6, s.W.cell? ⟨b, 0, none⟩ = some (.int .i64 m0) := fun s => (HC6.out.step s.h).cell 0 _ rfl
        have d1 : ∀ s : Kw w6, s.W.cell? ⟨b, 1, none⟩ = some (.int .i64 m1) := fun s => (HC6.out.step s.h).cell 1 _ rfl
        have v0 : ∀ s : Kw w6, s.W.cell? ⟨w4.heap.size, 0, none⟩ = some (.int .i64 s0) := fun s => (HALL.out.2.2.1.step s.h).cell 0 _ rfl
        have v1 : ∀ s : Kw w6, s.W.cell? ⟨w4.heap.size, 1, none⟩ = some (.int .i64 s1) := fun s => (HALL.out.2.2.1.step s.h).cell 1 _ rfl
        have CWL : Hid (∀ s : Kw w6, Calls Try.prog 19 #[.agg #[.complex .f32 t0.cx t0.cy, .int .i64 (t0.deep - 1), .int .i64 n, .slice a1 (n * n) c1, .slice a2 (n * n) c2]] s.W fun e w' => e = .returned (.bool true) ∧ ∃ s' : Kw w6, w' = s'.W) := fun s => by
          have hO := HALL.out.2.1.step s.h
          have := implWell_is t0.cx t0.cy (t0.deep - 1) n HO.out.bx HO.out.by1 HPW.out.1 a1 a2 (n * n) c1 c2 ys' (by rw [hO.ly]; omega) s.W hO.s2
          rw [HPW.out.2, hO.ly] at this
          refine this.mono ?_
          rintro e w' ⟨rfl, hd⟩
          exact ⟨rfl, s.step hd, rfl⟩
        obtain ⟨da, db, va, vb⟩ := HO.out.vals
        have o1 : (FloatKind.f32.format.order t0.cx t0.cx == some .eq) = true := by rw [Flo.order_self (val_nan (k := .f32) va)]; rfl
        have o2 : (FloatKind.f32.format.order t0.cy t0.cy == some .eq) = true := by rw [Flo.order_self (val_nan (k := .f32) vb)]; rfl
        have g1 : IntKind.i64.wrap (4 * (m0 : Int)) = 4 * (m0 : Int) := IntWalk.i64_in _ (by omega)
        have g2 : IntKind.i64.wrap (4 * (m1 : Int)) = 4 * (m1 : Int) := IntWalk.i64_in _ (by omega)
        have f1 : 4 * (m0 : Int) ≤ s0 := by omega
        have f2 : 4 * (m1 : Int) ≤ s1 := by omega
        have HFIN := Lib.hid (HD.out.trans (X6.old.mono HD.out.size))
        clear X6 O6 U6 J6 hC CC va vb r0 r1 r2 r3 r4 j1 j2
        go_upto_region 18 with fail
        refine wp_region_kept (by kernel_rfl) (by kernel_rfl) ?_
        repeat (go_big_quiet_step ((go_at_call 19; exact CWL.out _)))
        refine wpQuiet_nil ?_
        rintro _ ⟨sq, rfl⟩
        have HB3 := Lib.hid (HFIN.out.trans (sq.h.mono HFIN.out.size))
        go_wp2
        go_ret
        exact ⟨rfl, HB3.out⟩
  · obtain ⟨rfl, hb2⟩ := h2.not hF
    have X2 := (Box.new w2 #[.complex .f32 0 0, .int .i64 0, .int .i64 0, .slice none 0 0, .slice none 0 0] 37).up hb2
    have HX2 := Lib.hid X2
    have HNF := Lib.hid hF
    have HSS := Lib.hid (HS.out _ X2.old)
    clear h2 hF hb2 X2 HS
    go_wp2_with fail
    refine HSS.out.mono ?_
    intro e w3 h3
    obtain ⟨rfl, hb3⟩ := h3.not HNF.out
    have HX3 := Lib.hid (HX2.out.step (hb3.alloc hb3.size (.cells #[.complex .f32 0 0, .int .i64 0, .int .i64 0, .slice none 0 0, .slice none 0 0] 37)))
    have X4 := (Box.new w3 #[.complex .f32 0 0, .int .i64 0, .int .i64 0, .slice none 0 0, .slice none 0 0] 37).up (HX2.out.step hb3).old
    have HX4 := Lib.hid X4
    obtain ⟨p0, p1, p2, p3, p4⟩ := HX3.out.cells5
    obtain ⟨q0, q1, q2, q3, q4⟩ := X4.cells5
    have hob : w2.heap.size < w3.heap.size := by have := HX2.out.lt; have := hb3.size; omega
    clear h3 hb3 X4 HX2 HSS
    go_wp2_with fail
    refine (sameTile_zero _).mono ?_
    rintro e w4 ⟨rfl, hd4⟩
    have HX5 := Lib.hid (HX3.out.step hd4)
    have HX6 := Lib.hid (HX4.out.step hd4)
    clear hd4 HX3 HX4 p0 p1 p2 p3 p4 q0 q1 q2 q3 q4
    obtain ⟨p0, p1, p2, p3, p4⟩ := HX5.out.cells5
    obtain ⟨q0, q1, q2, q3, q4⟩ := HX6.out.cells5
    have HBB := Lib.hid (HD.out.trans (HX6.out.old.mono HD.out.size))
    clear HX5 HX6
    go_wp2_with fail
    refine (sameTile_zero _).mono ?_
    rintro e w5 ⟨rfl, hd5⟩
    have HB5 := Lib.hid (HBB.out.trans (hd5.mono HBB.out.size))
    clear hd5 HBB
    go_wp2
    go_ret
    exact ⟨rfl, HB5.out⟩
set_option maxRecDepth 100000 in
theorem FnJoin_lifted (os : Os) (started : os.Started) (H : Type) (enc : TypeId × Value → H) :
    ReturnsInHanded {} Try.checked os 6 .any (Rows.fnJoinSpec.pre6 enc Try.prog Try.f6 Rows.fnJoinRow.domain false) (Rows.fnJoinSpec.post enc Try.prog Try.f6 false true false false) := by
  refine returnsInHanded_of_change (C := Try.checked) own started (by kernel_rfl) Try.func6
    (ChangeSpec.witness6 (enc := enc) (C := Try.checked) false ⟨#[], #[.slice none 0 0], []⟩ 8 (by kernel_rfl) (by kernel_rfl) (by kernel_rfl) (by kernel_rfl)) ?_
  intro W base args ds gs before hval0 hW _ _
  have hval : ∀ (j : Nat) t v, Try.f6.params[j]? = some t → args[j]? = some v → Value.okWide Try.prog W .any base t v := hval0
  have hW' := hW
  obtain ⟨p, q, hA0, hV, rfl, _, _⟩ := hW
  have hA : DataW.TrodAll enc Try.prog W 0 (fun _ => true) true Try.f6.params.toList args.toList ds p := hA0
  rw [Try.params6] at hA hval
  obtain ⟨v0, vs0, d0, ds0, p0, q0, hargs, rfl, rfl, h0, r0⟩ := trodAll_cons hA
  obtain ⟨rfl, rfl, rfl⟩ := trodAll_nil r0
  obtain rfl : args = #[v0] := by cases args; simp_all
  obtain ⟨rfl, rfl⟩ := trodVars_none hV
  obtain ⟨a0, c0, l0, rfl, n0, m0, s0⟩ := open_bytes Try.underlying22 Try.underlying5 (by kernel_rfl) (hval 0 22 v0 rfl rfl) h0
  clear hA0 hval0
  refine (FnJoin_walk W a0 c0 l0 n0 m0 s0).mono fun e W' ⟨he, hb⟩ => ⟨_, he, ?_⟩
  exact law_post laidOut (by kernel_rfl) (by kernel_rfl) rfl Try.underlying4 hW' rfl rfl rfl hb

theorem FnJoin_holds : Rows.FnJoinSaid :=
  OpenClaim.holds_of_wide 6 Try.f6 rfl rfl rfl rfl rfl rfl rfl ⟨rfl, rfl, rfl, rfl, rfl⟩ rfl rfl rfl rfl rfl (by kernel_rfl) Try.func6 (by kernel_rfl)
    (of_decide_eq_true (by kernel_rfl)) (by unfold Func.isWrapper; first | (rw [if_pos (by decide +kernel)]; kernel_rfl) | (rw [if_neg (by decide +kernel)]; exact ⟨rfl, rfl⟩))
    (fun os started H enc _ => FnJoin_lifted os started H enc)
end Go.Proofs.Ytalmhbcmagjheaa
