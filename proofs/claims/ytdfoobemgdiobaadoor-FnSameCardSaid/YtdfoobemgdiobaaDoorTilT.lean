/- Walk of the reference's TileMake: it ends; what it makes has the shape of a tile. -/
import Derived.Test.YtdfoobemgdiobaaDoorTilM
import Derived.Test.YtdfoobemgdiobaaDoorTilC
import Derived.Test.YtdfoobemgdiobaaDoorTilE
import Derived.Test.YtdfoobemgdiobaaDoorCellS
import Derived.Deep.RegionLaw
namespace Go.Proofs.YtdfoobemgdiobaaDoor
open Go.RowKit
attribute [local go_sem ↓] Go.wp_at_zero Go.wp_at_succ
attribute [local go_sem] run_store_float run_store_complex

set_option maxRecDepth 100000 in
set_option maxHeartbeats 8000000 in
theorem tileMake_gen (G : Prop) (cx cy : Nat) (deep size most : Int) (hx : cx < 4294967296) (hy : cy < 4294967296)
    (hbox : ∀ d s : Nat, deep = d → size = s → d ≤ 10 → s ≤ 8 → placeB cx cy deep size = true → ∀ i j : Nat, i < s → j < s → ∀ W, Calls Tryd.prog 57 #[.complex .f32 cx cy, .int .i64 d, .int .i64 i, .int .i64 j] W fun e w' => (∃ (p q r s : Int) (t : Bool), e = .returned (.tuple #[.agg #[.int .i64 p, .int .i64 q, .int .i64 r, .int .i64 s], .bool t]) ∧ (G → t = true)) ∧ Below W.heap.size W w')
    (w : World) : Calls Tryd.prog 36 #[.complex .f32 cx cy, .int .i64 deep, .int .i64 size, .int .i64 most] w (TileRet w cx cy deep size (G ∧ placeB cx cy deep size = true)) := by
  have R := Box.new w (tileC 0 0 0 0 (.slice none 0 0) (.slice none 0 0)) 27
  have HP := Lib.hid (fun w => l7Place_is cx cy deep size hx hy w)
  cases hp : placeB cx cy deep size with
  | false =>
    rw [hp] at HP
    unfold tileC at R
    go_enter Tryd.func36, Tryd.ntmps36
    go_wp2_with fail
    refine (HP.out _).mono ?_
    rintro e w1 ⟨rfl, hd⟩
    replace R := R.step (hd.below _)
    have c0 := R.cell 0 _ rfl
    have c1 := R.cell 1 _ rfl
    have c2 := R.cell 2 _ rfl
    have c3 := R.cell 3 _ rfl
    have c4 := R.cell 4 _ rfl
    have f0 := R.frozen 0
    have f1 := R.frozen 1
    have f2 := R.frozen 2
    have f3 := R.frozen 3
    have f4 := R.frozen 4
    have HB := Lib.hid R.old
    clear R hd
    go_wp2
    exact bodyPost_ret (v := .tuple #[.agg #[.complex .f32 0 0, .int .i64 0, .int .i64 0, .slice none 0 0, .slice none 0 0], .bool false]) (by simp [results, Tryd.f36, go_sem, c0, c1, c2, c3, c4]) rfl (TileRet.no (set5 HB.out (Nat.le_refl _) _ _ _ _ _) (fun h => by cases h.2))
  | true =>
    rw [hp] at HP
    obtain ⟨h1, h2, h3, h4⟩ := placeB_bd hp
    obtain ⟨d, rfl⟩ := Int.eq_ofNat_of_zero_le h1
    obtain ⟨s, rfl⟩ := Int.eq_ofNat_of_zero_le (show 0 ≤ size by omega)
    have HX := Lib.hid (hbox d s rfl rfl (by omega) (by omega) hp)
    have hd10 : d ≤ 10 := by omega
    have hs8 : s ≤ 8 := by omega
    have HPL := Lib.hid hp
    clear hp hbox h1 h2 h3 h4
    unfold tileC at R
    go_enter Tryd.func36, Tryd.ntmps36
    go_wp2_with fail
    refine (HP.out _).mono ?_
    rintro e w1 ⟨rfl, hd⟩
    have HR := Lib.hid (R.step (hd.below _))
    clear R hd
    obtain ⟨iF, hiF, hzF0, hzF1, hzF2⟩ := info_parts infoF
    obtain ⟨iI, hiI, hzI0, hzI1, hzI2⟩ := info_parts infoI
    have HT := Lib.hid (TM.start cx cy d s HR.out (Nat.le_refl _))
    unfold tileC at HT
    clear HR
    go_wp2
    generalize w1.heap.size + 1 + 1 = ob at *
    generalize w1.heap.size + 1 = gm0 at *
    generalize w1.heap.size = gs0 at *
    go_loopw [11] (fun i wr => ∃ (k N gs cs gm cm : Nat) (xs : List Nat) (ys : List Int), k ≤ s ∧ i = .int .i64 k ∧ Hid (N = k * s) ∧ Hid (TM w w.heap.size ob cx cy d s N N xs ys (.slice (some ⟨gs, 0, none⟩) N cs) (.slice (some ⟨gm, 0, none⟩) N cm) wr)) (fun i _ => (s - intOf i).toNat)
    case atStart => exact ⟨0, 0, gs0, 0, gm0, 0, [], [], by omega, rfl, (by show 0 = 0 * s; simp), HT⟩
    case round =>
      obtain ⟨k, N, gs, cs, gm, cm, xs, ys, hk, rfl, HN, HT⟩ := hrel
      obtain ⟨wo, rfl⟩ : ∃ wo, wo = wr := ⟨_, rfl⟩
      by_cases hks : k < s
      · go_wp2
        go_loopw [12] (fun j wr => ∃ (l N gs cs gm cm : Nat) (xs : List Nat) (ys : List Int), l ≤ s ∧ j = .int .i64 l ∧ Hid (N = k * s + l) ∧ Hid (TM w w.heap.size ob cx cy d s N N xs ys (.slice (some ⟨gs, 0, none⟩) N cs) (.slice (some ⟨gm, 0, none⟩) N cm) wr)) (fun j _ => (s - intOf j).toNat)
        case atStart => exact ⟨0, N, gs, cs, gm, cm, xs, ys, by omega, rfl, HN, HT⟩
        case round =>
          clear HT HN
          obtain ⟨l, N, gs, cs, gm, cm, xs, ys, hl, rfl, HN, HT⟩ := hrel
          clear wo
          obtain ⟨wo, rfl⟩ : ∃ wo, wo = wr := ⟨_, rfl⟩
          by_cases hls : l < s
          · have hN72 : N ≤ 72 := by
              have h1 : k * s ≤ 8 * 8 := Nat.mul_le_mul (by omega) hs8
              have h2 := HN.out
              omega
            have HC := Lib.hid (HX.out k l hks hls)
            go_wp2_with fail
            refine (HC.out _).mono ?_
            rintro e w2 ⟨⟨p, q, r, u, t, rfl, hG⟩, hb⟩
            have T := HT.out.step hb
            clear HT hb HC
            cases t with
            | false =>
              have HG : Hid (¬ G) := fun h => by cases hG h
              replace T := T.alloc (.cells #[.int .i64 p, .int .i64 q, .int .i64 r, .int .i64 u] 96)
              obtain ⟨c0, c1, c2, c3, c4⟩ := T.rc
              obtain ⟨f0, f1, f2, f3, f4⟩ := T.R.free5
              have HB := Lib.hid T.old
              clear T hG
              go_wp2
              exact bodyPost_ret (v := .tuple #[.agg #[.complex .f32 0 0, .int .i64 0, .int .i64 0, .slice none 0 0, .slice none 0 0], .bool false]) (by simp [results, Tryd.f36, go_sem, c0, c1, c2, c3, c4]) rfl (TileRet.no (set5 HB.out (Nat.le_refl _) _ _ _ _ _) (fun h => HG.out h.1))
            | true =>
              clear hG
              have X := Box.new w2 #[.int .i64 p, .int .i64 q, .int .i64 r, .int .i64 u] 96
              have x0 := X.cell 0 _ rfl
              have x1 := X.cell 1 _ rfl
              have x2 := X.cell 2 _ rfl
              have x3 := X.cell 3 _ rfl
              have HT2 := Lib.hid (T.alloc (.cells #[.int .i64 p, .int .i64 q, .int .i64 r, .int .i64 u] 96))
              clear X T
              go_wp2_with fail
              refine (cellState_any p q r u most _).mono ?_
              rintro e w3 ⟨⟨st, tt, rfl, y0, y1⟩, hb⟩
              have T3 := HT2.out.step hb
              have hbase := T3.old.size
              obtain ⟨-, -, -, k3, -⟩ := T3.oc
              clear x0 x1 x2 x3 HT2 hb
              go_wp2_with fail
              go_region_law (first
                | (go_simp
                   go_at_call 23
                   refine (l7Point_any cx cy d k l (by omega) _).mono ?_
                   rintro e w4 ⟨⟨x, y, rfl, hx, hy⟩, hd⟩
                   have T4 := T3.drw ((Drw.refl _).drew.trans hd)
                   obtain ⟨-, -, -, k4, -⟩ := T4.oc
                   clear hd)
                | (go_simp
                   go_at_call 59
                   refine (specSmooth_any x y most _).mono ?_
                   rintro e w5 ⟨⟨z, rfl, hz⟩, hd⟩
                   have T5 := T4.drw hd
                   have hb5 := T5.old.size
                   obtain ⟨-, -, -, k5, -⟩ := T5.oc
                   obtain ⟨-, -, -, k5', -⟩ := (T5.alloc (.cells #[.float .f32 z] 66)).oc
                   clear hd)
                | (refine step_append_lies _ (by rfl) _ _ _ (by rfl) w.heap.size 66 iF _ 1 4 Tryd.underlying24 hiF hzF0 hzF1 hzF2 rfl (by omega) _ N (xs.map floV) (by rfl) (T5.S.alloc _) ⟨w5.heap.size, 0, none⟩ 1 1 [floV z] (by rfl) (by rfl) (World.news_of_block (cs := #[floV z]) (t := 66) (fr := (0, 0)) (heap_alloc_new w5 _)) (by simp [floV, Value.oneCell']) (by omega) (by unfold maxLen; omega) (by omega) (by simp; omega) (w5.heap.size + 1) (by simp) ?_
                   intro g6 c6 w6 hown hgrow _ _
                   obtain ⟨T6, k6, f6⟩ := (T5.alloc _).smooth hz hown hgrow))
              all_goals
                have HT6 := Lib.hid T6
                obtain ⟨-, -, -, -, k7⟩ := T6.oc
                obtain ⟨-, -, -, -, k8⟩ := (T6.alloc (.cells #[.int .i64 st] 3)).oc
                have hb6 := T6.old.size
                clear T3 T4 T5 T6 k3 k4 k5 k5' k6 f6 hown hgrow
                generalize w6.setCell ⟨ob, 3, none⟩ (.slice (some ⟨g6, 0, none⟩) (N + 1) c6) = w7 at *
                go_wp2_with (at_builtin; refine wpList_append_lies _ rfl _ _ _ rfl w.heap.size 3 iI _ 1 8 Tryd.underlying25 hiI hzI0 hzI1 hzI2 rfl (by omega) _ N (ys.map intV) rfl (HT6.out.M.alloc _) ⟨w7.heap.size, 0, none⟩ 1 1 [intV st] rfl rfl (World.news_of_block (cs := #[intV st]) (t := 3) (fr := (0, 0)) (heap_alloc_new w7 _)) (by simp [intV, Value.oneCell']) (by omega) (by unfold maxLen; omega) (by omega) (by simp; omega) (w7.heap.size + 1) (by simp) ?_; intro g8 c8 w8 hown hgrow _ _; obtain ⟨T8, k9, f9⟩ := (HT6.out.alloc _).mark ⟨y0, y1⟩ hown hgrow; have HT8 := Lib.hid T8; clear T8 hown hgrow)
                go_roundw
                case rel => exact ⟨l + 1, N + 1, g6, c6, g8, c8, xs ++ [z], ys ++ [st], by omega, by go_num, (by show N + 1 = k * s + (l + 1); have := HN.out; omega), HT8⟩
                case measure => simp [intOf]; omega
          · obtain rfl : l = s := by omega
            go_wp2
            go_roundw
            case rel => exact ⟨k + 1, N, gs, cs, gm, cm, xs, ys, by omega, by go_num, (by show N = (k + 1) * l; rw [Nat.succ_mul]; exact HN.out), HT⟩
            case measure => simp [intOf]; omega
      · obtain rfl : k = s := by omega
        obtain ⟨c0, c1, c2, c3, c4⟩ := HT.out.rc
        obtain ⟨f0, f1, f2, f3, f4⟩ := HT.out.R.free5
        obtain ⟨o0, o1, o2, o3, o4⟩ := HT.out.oc
        have hne := HT.out.ne
        go_wp2
        exact bodyPost_ret (v := .tuple #[.agg #[.complex .f32 cx cy, .int .i64 d, .int .i64 k, .slice (some ⟨gs, 0, none⟩) N cs, .slice (some ⟨gm, 0, none⟩) N cm], .bool true]) (by simp [results, Tryd.f36, go_sem, c0, c1, c2, c3, c4]) rfl (TileRet.yes (set5 HT.out.old (Nat.le_refl _) _ _ _ _ _) HPL.out (HT.out.made HN.out _ _ _ _ _))
end Go.Proofs.YtdfoobemgdiobaaDoor
