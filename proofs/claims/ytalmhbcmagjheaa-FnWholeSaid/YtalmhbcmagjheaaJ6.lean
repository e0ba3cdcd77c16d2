/- Merged texts: TilT, Rd, RdF, TilP, TilR. -/
import Derived.Test.YtalmhbcmagjheaaJ4
import Derived.Test.YtalmhbcmagjheaaJ5
import Derived.Deep.RegionLaw
import Derived.Test.YtalmhbcmagjheaaRows
import Derived.Test.YtalmhbcmagjheaaJ3
import Derived.Laws.BitsAllLaws
import Derived.Deep.Cut
import Derived.Test.YtalmhbcmagjheaaJ2
section
/- Walk of the reference's TileMake: it ends; what it makes has the shape of a tile. -/
namespace Go.Proofs.Ytalmhbcmagjheaa
open Go.RowKit
attribute [local go_sem ↓] Go.wp_at_zero Go.wp_at_succ
attribute [local go_sem] run_store_float run_store_complex

set_option maxRecDepth 100000 in
set_option maxHeartbeats 8000000 in
theorem tileMake_gen (G : Prop) (cx cy : Nat) (deep size most : Int) (hx : cx < 4294967296) (hy : cy < 4294967296)
    (hbox : ∀ d s : Nat, deep = d → size = s → d ≤ 10 → s ≤ 8 → placeB cx cy deep size = true → ∀ i j : Nat, i < s → j < s → ∀ W, Calls Try.prog 50 #[.complex .f32 cx cy, .int .i64 d, .int .i64 i, .int .i64 j] W fun e w' => (∃ (p q r s : Int) (t : Bool), e = .returned (.tuple #[.agg #[.int .i64 p, .int .i64 q, .int .i64 r, .int .i64 s], .bool t]) ∧ (G → t = true)) ∧ Below W.heap.size W w')
    (w : World) : Calls Try.prog 39 #[.complex .f32 cx cy, .int .i64 deep, .int .i64 size, .int .i64 most] w (TileRet w cx cy deep size (G ∧ placeB cx cy deep size = true)) := by
  have R := Box.new w (tileC 0 0 0 0 (.slice none 0 0) (.slice none 0 0)) 37
  have HP := Lib.hid (fun w => l7Place_is cx cy deep size hx hy w)
  cases hp : placeB cx cy deep size with
  | false =>
    rw [hp] at HP
    unfold tileC at R
    go_enter Try.func39, Try.ntmps39
    go_wp2_with fail
    refine (HP.out _).mono ?_
    rintro e w1 ⟨rfl, hd⟩
    replace R := R.step (hd.below _)
    have c0 := R.cell 0 _ rfl
    have c1 := R.cell 1 _ rfl
    have c2 := R.cell 2 _ rfl
    have c3 := R.cell 3 _ rfl
    have c4 := R.cell 4 _ rfl
    have f0 := R.frozen 0
    have f1 := R.frozen 1
    have f2 := R.frozen 2
    have f3 := R.frozen 3
    have f4 := R.frozen 4
    have HB := Lib.hid R.old
    clear R hd
    go_wp2
    exact bodyPost_ret (v := .tuple #[.agg #[.complex .f32 0 0, .int .i64 0, .int .i64 0, .slice none 0 0, .slice none 0 0], .bool false]) (by simp [results, Try.f39, go_sem, c0, c1, c2, c3, c4]) rfl (TileRet.no (set5 HB.out (Nat.le_refl _) _ _ _ _ _) (fun h => by cases h.2))
  | true =>
    rw [hp] at HP
    obtain ⟨h1, h2, h3, h4⟩ := placeB_bd hp
    obtain ⟨d, rfl⟩ := Int.eq_ofNat_of_zero_le h1
    obtain ⟨s, rfl⟩ := Int.eq_ofNat_of_zero_le (show 0 ≤ size by omega)
    have HX := Lib.hid (hbox d s rfl rfl (by omega) (by omega) hp)
    have hd10 : d ≤ 10 := by omega
    have hs8 : s ≤ 8 := by omega
    have HPL := Lib.hid hp
    clear hp hbox h1 h2 h3 h4
    unfold tileC at R
    go_enter Try.func39, Try.ntmps39
    go_wp2_with fail
    refine (HP.out _).mono ?_
    rintro e w1 ⟨rfl, hd⟩
    have HR := Lib.hid (R.step (hd.below _))
    clear R hd
    obtain ⟨iF, hiF, hzF0, hzF1, hzF2⟩ := info_parts infoF
    obtain ⟨iI, hiI, hzI0, hzI1, hzI2⟩ := info_parts infoI
    have HT := Lib.hid (TM.start cx cy d s HR.out (Nat.le_refl _))
    unfold tileC at HT
    clear HR
    go_wp2
    generalize w1.heap.size + 1 + 1 = ob at *
    generalize w1.heap.size + 1 = gm0 at *
    generalize w1.heap.size = gs0 at *
    go_loopw [11] (fun i wr => ∃ (k N gs cs gm cm : Nat) (xs : List Nat) (ys : List Int), k ≤ s ∧ i = .int .i64 k ∧ Hid (N = k * s) ∧ Hid (TM w w.heap.size ob cx cy d s N N xs ys (.slice (some ⟨gs, 0, none⟩) N cs) (.slice (some ⟨gm, 0, none⟩) N cm) wr)) (fun i _ => (s - intOf i).toNat)
    case atStart => exact ⟨0, 0, gs0, 0, gm0, 0, [], [], by omega, rfl, (by show 0 = 0 * s; simp), HT⟩
    case round =>
      obtain ⟨k, N, gs, cs, gm, cm, xs, ys, hk, rfl, HN, HT⟩ := hrel
      obtain ⟨wo, rfl⟩ : ∃ wo, wo = wr := ⟨_, rfl⟩
      by_cases hks : k < s
      · go_wp2
        go_loopw [12] (fun j wr => ∃ (l N gs cs gm cm : Nat) (xs : List Nat) (ys : List Int), l ≤ s ∧ j = .int .i64 l ∧ Hid (N = k * s + l) ∧ Hid (TM w w.heap.size ob cx cy d s N N xs ys (.slice (some ⟨gs, 0, none⟩) N cs) (.slice (some ⟨gm, 0, none⟩) N cm) wr)) (fun j _ => (s - intOf j).toNat)
        case atStart => exact ⟨0, N, gs, cs, gm, cm, xs, ys, by omega, rfl, HN, HT⟩
        case round =>
          clear HT HN
          obtain ⟨l, N, gs, cs, gm, cm, xs, ys, hl, rfl, HN, HT⟩ := hrel
          clear wo
          obtain ⟨wo, rfl⟩ : ∃ wo, wo = wr := ⟨_, rfl⟩
          by_cases hls : l < s
          · have hN72 : N ≤ 72 := by
              have h1 : k * s ≤ 8 * 8 := Nat.mul_le_mul (by omega) hs8
              have h2 := HN.out
              omega
            have HC := Lib.hid (HX.out k l hks hls)
            go_wp2_with fail
            refine (HC.out _).mono ?_
            rintro e w2 ⟨⟨p, q, r, u, t, rfl, hG⟩, hb⟩
            have T := HT.out.step hb
            clear HT hb HC
            cases t with
            | false =>
              have HG : Hid (¬ G) := fun h => by cases hG h
              replace T := T.alloc (.cells #[.int .i64 p, .int .i64 q, .int .i64 r, .int .i64 u] 91)
              obtain ⟨c0, c1, c2, c3, c4⟩ := T.rc
              obtain ⟨f0, f1, f2, f3, f4⟩ := T.R.free5
              have HB := Lib.hid T.old
              clear T hG
              go_wp2
              exact bodyPost_ret (v := .tuple #[.agg #[.complex .f32 0 0, .int .i64 0, .int .i64 0, .slice none 0 0, .slice none 0 0], .bool false]) (by simp [results, Try.f39, go_sem, c0, c1, c2, c3, c4]) rfl (TileRet.no (set5 HB.out (Nat.le_refl _) _ _ _ _ _) (fun h => HG.out h.1))
            | true =>
              clear hG
              have X := Box.new w2 #[.int .i64 p, .int .i64 q, .int .i64 r, .int .i64 u] 91
              have x0 := X.cell 0 _ rfl
              have x1 := X.cell 1 _ rfl
              have x2 := X.cell 2 _ rfl
              have x3 := X.cell 3 _ rfl
              have HT2 := Lib.hid (T.alloc (.cells #[.int .i64 p, .int .i64 q, .int .i64 r, .int .i64 u] 91))
              clear X T
              go_wp2_with fail
              refine (cellState_any p q r u most _).mono ?_
              rintro e w3 ⟨⟨st, tt, rfl, y0, y1⟩, hb⟩
              have T3 := HT2.out.step hb
              have hbase := T3.old.size
              obtain ⟨-, -, -, k3, -⟩ := T3.oc
              clear x0 x1 x2 x3 HT2 hb
              go_wp2_with fail
              go_region_law (first
                | (go_simp
                   go_at_call 53
                   refine (l7Point_any cx cy d k l (by omega) _).mono ?_
                   rintro e w4 ⟨⟨x, y, rfl, hx, hy⟩, hd⟩
                   have T4 := T3.drw ((Drw.refl _).drew.trans hd)
                   obtain ⟨-, -, -, k4, -⟩ := T4.oc
                   clear hd)
                | (go_simp
                   go_at_call 52
                   refine (specSmooth_any x y most _).mono ?_
                   rintro e w5 ⟨⟨z, rfl, hz⟩, hd⟩
                   have T5 := T4.drw hd
                   have hb5 := T5.old.size
                   obtain ⟨-, -, -, k5, -⟩ := T5.oc
                   obtain ⟨-, -, -, k5', -⟩ := (T5.alloc (.cells #[.float .f32 z] 41)).oc
                   clear hd)
                | (refine step_append_lies _ (by rfl) _ _ _ (by rfl) w.heap.size 41 iF _ 1 4 Try.underlying35 hiF hzF0 hzF1 hzF2 rfl (by omega) _ N (xs.map floV) (by rfl) (T5.S.alloc _) ⟨w5.heap.size, 0, none⟩ 1 1 [floV z] (by rfl) (by rfl) (World.news_of_block (cs := #[floV z]) (t := 41) (fr := (0, 0)) (heap_alloc_new w5 _)) (by simp [floV, Value.oneCell']) (by omega) (by unfold maxLen; omega) (by omega) (by simp; omega) (w5.heap.size + 1) (by simp) ?_
                   intro g6 c6 w6 hown hgrow _ _
                   obtain ⟨T6, k6, f6⟩ := (T5.alloc _).smooth hz hown hgrow))
              all_goals
                have HT6 := Lib.hid T6
                obtain ⟨-, -, -, -, k7⟩ := T6.oc
                obtain ⟨-, -, -, -, k8⟩ := (T6.alloc (.cells #[.int .i64 st] 3)).oc
                have hb6 := T6.old.size
                clear T3 T4 T5 T6 k3 k4 k5 k5' k6 f6 hown hgrow
                generalize w6.setCell ⟨ob, 3, none⟩ (.slice (some ⟨g6, 0, none⟩) (N + 1) c6) = w7 at *
                go_wp2_with (at_builtin; refine wpList_append_lies _ rfl _ _ _ rfl w.heap.size 3 iI _ 1 8 Try.underlying24 hiI hzI0 hzI1 hzI2 rfl (by omega) _ N (ys.map intV) rfl (HT6.out.M.alloc _) ⟨w7.heap.size, 0, none⟩ 1 1 [intV st] rfl rfl (World.news_of_block (cs := #[intV st]) (t := 3) (fr := (0, 0)) (heap_alloc_new w7 _)) (by simp [intV, Value.oneCell']) (by omega) (by unfold maxLen; omega) (by omega) (by simp; omega) (w7.heap.size + 1) (by simp) ?_; intro g8 c8 w8 hown hgrow _ _; obtain ⟨T8, k9, f9⟩ := (HT6.out.alloc _).mark ⟨y0, y1⟩ hown hgrow; have HT8 := Lib.hid T8; clear T8 hown hgrow)
                go_roundw
                case rel => exact ⟨l + 1, N + 1, g6, c6, g8, c8, xs ++ [z], ys ++ [st], by omega, by go_num, (by show N + 1 = k * s + (l + 1); have := HN.out; omega), HT8⟩
                case measure => simp [intOf]; omega
          · obtain rfl : l = s := by omega
            go_wp2
            go_roundw
            case rel => exact ⟨k + 1, N, gs, cs, gm, cm, xs, ys, by omega, by go_num, (by show N = (k + 1) * l; rw [Nat.succ_mul]; exact HN.out), HT⟩
            case measure => simp [intOf]; omega
      · obtain rfl : k = s := by omega
        obtain ⟨c0, c1, c2, c3, c4⟩ := HT.out.rc
        obtain ⟨f0, f1, f2, f3, f4⟩ := HT.out.R.free5
        obtain ⟨o0, o1, o2, o3, o4⟩ := HT.out.oc
        have hne := HT.out.ne
        go_wp2
        exact bodyPost_ret (v := .tuple #[.agg #[.complex .f32 cx cy, .int .i64 d, .int .i64 k, .slice (some ⟨gs, 0, none⟩) N cs, .slice (some ⟨gm, 0, none⟩) N cm], .bool true]) (by simp [results, Try.f39, go_sem, c0, c1, c2, c3, c4]) rfl (TileRet.yes (set5 HT.out.old (Nat.le_refl _) _ _ _ _ _) HPL.out (HT.out.made HN.out _ _ _ _ _))
end Go.Proofs.Ytalmhbcmagjheaa
end

section
/- The code reader: what a draw does with its block. -/
namespace Go.Proofs.Ytalmhbcmagjheaa
open Go.RowKit

theorem xor_pos (a b : Nat) (ha : a < 9223372036854775808) (hb : b < 9223372036854775808) : bits .xor .i64 (a : Int) (b : Int) = ((a ^^^ b : Nat) : Int) := by
  have hx : a ^^^ b < 2 ^ 63 := Nat.xor_lt_two_pow (by omega) (by omega)
  show IntKind.i64.wrap ((BitVec.ofInt 64 (a : Int) ^^^ BitVec.ofInt 64 (b : Int)).toNat : Int) = _
  rw [BitVec.toNat_xor, ofInt_u64 a (by omega), ofInt_u64 b (by omega)]
  simp [IntKind.wrap, IntKind.bits, IntKind.signed]
  omega
theorem xor_i64 (a b : Int) (ha : 0 ≤ a) (ha2 : a < 9223372036854775808) (hb : 0 ≤ b) (hb2 : b < 9223372036854775808) : ∃ x, bits .xor .i64 a b = x ∧ 0 ≤ x ∧ x < 9223372036854775808 := by
  obtain ⟨A, rfl⟩ := Int.eq_ofNat_of_zero_le ha
  obtain ⟨B, rfl⟩ := Int.eq_ofNat_of_zero_le hb
  refine ⟨_, xor_pos A B (by omega) (by omega), by omega, ?_⟩
  have hx : A ^^^ B < 2 ^ 63 := Nat.xor_lt_two_pow (by omega) (by omega)
  omega
/-- nothing of what was there is changed, but for one block -/
structure Only (b : Nat) (w w' : World) : Prop where
  os : w'.os = w.os
  tape : w'.tape = w.tape
  output : w'.output = w.output
  size : w.heap.size ≤ w'.heap.size
  block : ∀ k, k < w.heap.size → k ≠ b → w'.heap[k]? = w.heap[k]?
theorem Only.refl (b : Nat) (w : World) : Only b w w := ⟨rfl, rfl, rfl, Nat.le_refl _, fun _ _ _ => rfl⟩
theorem Only.trans {b : Nat} {u v w : World} (h : Only b u v) (k : Only b v w) : Only b u w :=
  ⟨k.os.trans h.os, k.tape.trans h.tape, k.output.trans h.output, Nat.le_trans h.size k.size, fun i hi hne => (k.block i (Nat.lt_of_lt_of_le hi h.size) hne).trans (h.block i hi hne)⟩
theorem Only.of_below {b : Nat} {u v : World} (h : Below u.heap.size u v) : Only b u v := ⟨h.os, h.tape, h.output, h.size, fun i hi _ => h.block i hi⟩
theorem Only.setCell {b : Nat} {u v : World} (h : Only b u v) (j : Nat) (x : Value) : Only b u (v.setCell ⟨b, j, none⟩ x) := by
  refine h.trans ⟨rfl, rfl, rfl, by simp, fun i _ hne => Below.heap_setCell _ _ _ _ (by simpa using hne)⟩
theorem Only.below {b : Nat} {u v : World} (h : Only b u v) (B : Nat) (hB : B ≤ u.heap.size) (hb : B ≤ b) : Below B u v := ⟨h.os, h.tape, h.output, h.size, fun i hi => h.block i (by omega) (by omega)⟩
/-- a reader: its block holds bytes that lay there ahead of the call, and a place -/
def Rd (w0 : World) (b : Nat) (p : Nat) (W : World) : Prop :=
  ∃ (a : Option Addr) (c : Nat) (bs : List UInt8), Box w0 b #[.slice a bs.length c, .int .i64 p] 76 W ∧ Sl w0 a (bs.map byteV) ∧ w0.heap.size ≤ b ∧ bs.length ≤ 2000
theorem Rd.below {w0 : World} {b p : Nat} {W : World} (h : Rd w0 b p W) : Below w0.heap.size w0 W := by
  obtain ⟨_, _, _, h, _⟩ := h; exact h.old
theorem Rd.step {w0 : World} {b p : Nat} {W W' : World} (h : Rd w0 b p W) (k : Below W.heap.size W W') : Rd w0 b p W' := by
  obtain ⟨a, c, bs, h, r⟩ := h; exact ⟨a, c, bs, h.step k, r⟩
theorem Rd.drw {w0 : World} {b p : Nat} {W W' : World} (h : Rd w0 b p W) (k : Drw W W') : Rd w0 b p W' := h.step (k.below _)

theorem byte_le (x : UInt8) : (x.toNat : Int) ≤ 255 := by have := x.toNat_lt; omega
set_option maxHeartbeats 1000000 in
theorem pick_any (w0 : World) (b p : Nat) (k : Int) (hp : p ≤ 1099511627776) (hk : k ≤ 1099511627776) (W : World) (h : Rd w0 b p W) :
    Calls Try.prog 26 #[.pointer (some ⟨b, 0, none⟩), .int .i64 k] W fun e w' => (∃ r : Int, e = .returned (.int .i64 r) ∧ 0 ≤ r ∧ (r < k ∨ r = 0)) ∧ Rd w0 b (p + 1) w' ∧ Only b W w' := by
  obtain ⟨a, c, bs, hB, hS, hb, hn⟩ := h
  have c0 := hB.cell 0 _ rfl
  have c1 := hB.cell 1 _ rfl
  have f1 := hB.frozen 1
  have hlt := hB.lt
  obtain ⟨q, hq⟩ : ∃ q : Int, q = (p : Int) + 1 := ⟨_, rfl⟩
  have B2 := hB.set hb 1 (.int .i64 q)
  have O2 := (Only.refl b W).setCell 1 (.int .i64 q)
  have S2 := Lib.hid (hS.step B2.old)
  have HR : Hid (∀ W', Drw (W.setCell ⟨b, 1, none⟩ (.int .i64 q)) W' → Rd w0 b (p + 1) W' ∧ Only b W W') := fun W' hd => by
    refine ⟨⟨a, c, bs, ?_, hS, hb, hn⟩, O2.trans (Only.of_below (hd.below _))⟩
    rw [show ((p + 1 : Nat) : Int) = q by omega]
    exact B2.step (hd.below _)
  have hlt2 := B2.lt
  have d0 := B2.cell 0 _ rfl
  have d1 := B2.cell 1 _ rfl
  clear B2 O2 hS hB
  obtain ⟨n, hN⟩ : ∃ n, bs.length = n := ⟨_, rfl⟩
  rw [hN] at hn d0 d1
  have HN := Lib.hid hN
  clear hN
  go_enter Try.func26, Try.ntmps26
  go_upto_region 2 with fail
  rw [← hq]
  generalize W.setCell ⟨b, 1, none⟩ (.int .i64 q) = W1 at *
  clear c0 c1 f1 hlt
  by_cases hk1 : k < 1
  · go_wp2
    go_ret
    exact ⟨⟨0, rfl, by omega, .inr rfl⟩, HR.out _ (Drw.refl _)⟩
  by_cases hn0 : n = 0
  · subst hn0
    go_wp2
    go_ret
    exact ⟨⟨0, rfl, by omega, .inr rfl⟩, HR.out _ (Drw.refl _)⟩
  have hnb : ((n : Int) == 0) = false := by simpa using hn0
  by_cases hpn : q - 1 < n
  · have hpl : p < bs.length := by rw [HN.out]; omega
    have hx : (bs.map byteV)[p]? = some (byteV (bs[p])) := by rw [List.getElem?_map, List.getElem?_eq_getElem hpl]; rfl
    obtain ⟨ab, ao, rfl, hc⟩ := S2.out.at hx
    have hle := byte_le bs[p]
    unfold byteV at hc
    clear hx S2
    generalize bs[p] = x at *
    have hx0 : (0 : Int) ≤ x.toNat := by omega
    generalize (x.toNat : Int) = y at *
    have hkb : (k == 0) = false := by simp; omega
    obtain ⟨r, hr⟩ : ∃ r, y.tmod k = r := ⟨_, rfl⟩
    have r0 : 0 ≤ r := by rw [← hr]; exact Int.tmod_nonneg _ (by omega)
    have r1 : r < k := by rw [← hr]; exact Int.tmod_lt_of_pos _ (by omega)
    go_wp2
    go_ret
    exact ⟨⟨r, rfl, r0, .inl r1⟩, HR.out _ (Drw.refl _)⟩
  · have hnp : (0 : Int) < n := by omega
    have hpn' : decide ((p : Int) < n) = false := by simp; omega
    have hpn2 : decide (p < n) = false := by simp; omega
    obtain ⟨i, hi⟩ : ∃ i, (p : Int).tmod n = i := ⟨_, rfl⟩
    obtain ⟨j, hj⟩ : ∃ j, ((p : Int) * 7 + 3).tmod n = j := ⟨_, rfl⟩
    obtain ⟨l, hl⟩ : ∃ l, (p : Int).tdiv n = l := ⟨_, rfl⟩
    have i1 : 0 ≤ i := by rw [← hi]; exact Int.tmod_nonneg _ (by omega)
    have i2 : i < n := by rw [← hi]; exact Int.tmod_lt_of_pos _ hnp
    have j1 : 0 ≤ j := by rw [← hj]; exact Int.tmod_nonneg _ (by omega)
    have j2 : j < n := by rw [← hj]; exact Int.tmod_lt_of_pos _ hnp
    have l1 : 0 ≤ l := by rw [← hl]; exact Int.tdiv_nonneg (by omega) (by omega)
    have l2 : l ≤ p := by rw [← hl, Int.tdiv_eq_ediv_of_nonneg (by omega)]; exact Int.ediv_le_self _ (by omega)
    have hx1 : (bs.map byteV)[i.toNat]? = some (byteV (bs[i.toNat]'(by rw [HN.out]; omega))) := by rw [List.getElem?_map, List.getElem?_eq_getElem (by rw [HN.out]; omega)]; rfl
    have hx2 : (bs.map byteV)[j.toNat]? = some (byteV (bs[j.toNat]'(by rw [HN.out]; omega))) := by rw [List.getElem?_map, List.getElem?_eq_getElem (by rw [HN.out]; omega)]; rfl
    obtain ⟨ab, ao, rfl, hc1⟩ := S2.out.at hx1
    obtain ⟨ab', ao', he, hc2⟩ := S2.out.at hx2
    obtain ⟨rfl, rfl⟩ : ab = ab' ∧ ao = ao' := by injection he with he; injection he with h1 h2 _; exact ⟨h1, h2⟩
    have b1 := byte_le (bs[i.toNat]'(by rw [HN.out]; omega))
    have b2 := byte_le (bs[j.toNat]'(by rw [HN.out]; omega))
    unfold byteV at hc1 hc2
    have b3 : (0 : Int) ≤ ((bs[i.toNat]'(by rw [HN.out]; omega)).toNat : Int) := by omega
    have b4 : (0 : Int) ≤ ((bs[j.toNat]'(by rw [HN.out]; omega)).toNat : Int) := by omega
    clear hx1 hx2 he S2
    generalize ((bs[i.toNat]'(by rw [HN.out]; omega)).toNat : Int) = y1 at *
    generalize ((bs[j.toNat]'(by rw [HN.out]; omega)).toNat : Int) = y2 at *
    go_upto_region 7 with fail
    go_quiet (fail)
    obtain ⟨x, hx⟩ : ∃ x, x = y1 * 131 + y2 * 1117 + (p : Int) * 29 + l * 53 := ⟨_, rfl⟩
    have x0 : 0 ≤ x := by omega
    have x1 : x < 9223372036854775808 := by omega
    rw [← hx]
    obtain ⟨u, hu⟩ : ∃ u, x.tdiv 64 = u := ⟨_, rfl⟩
    have u0 : 0 ≤ u := by rw [← hu]; exact Int.tdiv_nonneg (by omega) (by omega)
    have u1 : u ≤ x := by rw [← hu, Int.tdiv_eq_ediv_of_nonneg (by omega)]; exact Int.ediv_le_self _ (by omega)
    obtain ⟨v, hv, v0, v1⟩ := xor_i64 x u x0 x1 u0 (by omega)
    obtain ⟨r, hr⟩ : ∃ r, v.tmod k = r := ⟨_, rfl⟩
    have r0 : 0 ≤ r := by rw [← hr]; exact Int.tmod_nonneg _ (by omega)
    have r1 : r < k := by rw [← hr]; exact Int.tmod_lt_of_pos _ (by omega)
    have hkb : (k == 0) = false := by simp; omega
    clear hx hi hj hl hc1 hc2 d0 d1
    go_wp2
    go_ret
    exact ⟨⟨r, rfl, r0, .inl r1⟩, HR.out _ ((Drw.refl _).drewN _)⟩
theorem open_any (a : Option Addr) (c : Nat) (bs : List UInt8) (hn : bs.length ≤ 1048576) (hc : bs.length ≤ c) (w : World) (hs : Sl w a (bs.map byteV)) :
    Calls Try.prog 21 #[.slice a bs.length c] w fun e w' => ∃ b, e = .returned (.pointer (some ⟨b, 0, none⟩)) ∧ b = w.heap.size ∧ Rd w b 0 w' := by
  obtain ⟨n, hN⟩ : ∃ n, bs.length = n := ⟨_, rfl⟩
  by_cases h : 2000 < n
  · have HR : Hid (Rd w w.heap.size 0 (w.alloc (.cells #[.slice a 2000 c, .int .i64 0] 76))) := by
      have hl : (bs.take 2000).length = 2000 := by simp; omega
      refine ⟨a, c, bs.take 2000, ?_, ?_, Nat.le_refl _, by omega⟩
      · rw [hl]; exact Box.new w _ _
      · rcases hs with hs | ⟨b, o, ha, hs⟩
        · simp at hs; simp [hs] at hN; omega
        · refine .inr ⟨b, o, ha, fun i v hv => ?_⟩
          refine hs i v ?_
          rw [List.map_take, List.getElem?_take] at hv
          split at hv
          · exact hv
          · cases hv
    obtain ⟨ab, ao, rfl⟩ : ∃ ab ao, a = some ⟨ab, ao, none⟩ := by
      rcases hs with hs | ⟨b, o, ha, hs⟩
      · simp at hs; simp [hs] at hN; omega
      · exact ⟨b, o, ha⟩
    rw [hN] at hn hc ⊢
    have hc2 : 2000 ≤ c := by omega
    have hc3 : (2000 : Int) ≤ c := by omega
    clear hN hs
    go_enter Try.func21, Try.ntmps21
    go_wp2
    go_ret
    exact ⟨_, rfl, rfl, HR.out⟩
  · have HR : Hid (Rd w w.heap.size 0 (w.alloc (.cells #[.slice a n c, .int .i64 0] 76))) :=
      ⟨a, c, bs, by rw [hN]; exact Box.new w _ _, hs, Nat.le_refl _, by omega⟩
    rw [hN]
    clear hs
    rw [hN] at hn hc
    clear hN
    go_enter Try.func21, Try.ntmps21
    go_wp2
    go_ret
    exact ⟨_, rfl, rfl, HR.out⟩
end Go.Proofs.Ytalmhbcmagjheaa
end

section
/- The draws of numbers. -/
namespace Go.Proofs.Ytalmhbcmagjheaa
open Go.RowKit

set_option maxHeartbeats 2000000 in
theorem part_any (w0 : World) (b p : Nat) (hp : p ≤ 1099511627000) (W : World) (h : Rd w0 b p W) :
    Calls Try.prog 70 #[.pointer (some ⟨b, 0, none⟩)] W fun e w' => (∃ x, e = .returned (.float .f64 x) ∧ x < 18446744073709551616) ∧ (∃ p', p' ≤ p + 3 ∧ Rd w0 b p' w') ∧ Only b W w' := by
  go_enter Try.func70, Try.ntmps70
  go_wp2_with fail
  refine (pick_any w0 b p 24 (by omega) (by omega) _ h).mono ?_
  rintro e w1 ⟨⟨r, rfl, r0, r1⟩, hR, hO⟩
  have HR := Lib.hid hR
  have HO := Lib.hid hO
  have HF : Hid (∀ x w', x < 18446744073709551616 → Drw w1 w' → (∃ y, Ending.returned (.float .f64 x) = .returned (.float .f64 y) ∧ y < 18446744073709551616) ∧ (∃ p', p' ≤ p + 3 ∧ Rd w0 b p' w') ∧ Only b W w') :=
    fun x w' hx hd => ⟨⟨x, rfl, hx⟩, ⟨p + 1, by omega, hR.drw hd⟩, hO.trans (Only.of_below (hd.below _))⟩
  clear hR hO h
  by_cases h0 : r = 0
  · subst h0; go_wp2; go_ret; exact HF.out _ _ (by omega) (Drw.refl _)
  by_cases h1 : r = 1
  · subst h1
    obtain ⟨z, w2, hz, hz2, hd⟩ := Flo.arith_any (P := Try.prog) .mul (by simp) 67 .f64 (Op.negFloat .f64 0) 4607182418800017408 w1
    have hn := fun w => Flo.run_neg (P := Try.prog) .f64 0 w
    generalize Op.negFloat .f64 0 = q at *
    go_wp2; go_ret; exact HF.out _ _ hz2 hd
  by_cases h2 : r = 2
  · subst h2
    obtain ⟨z, w2, hz, hz2, hd⟩ := Flo.arith_any (P := Try.prog) .quo (by simp) 67 .f64 4607182418800017408 0 w1
    go_wp2; go_ret; exact HF.out _ _ hz2 hd
  by_cases h3 : r = 3
  · subst h3
    obtain ⟨z, w2, hz, hz2, hd⟩ := Flo.arith_any (P := Try.prog) .quo (by simp) 67 .f64 0 0 w1
    go_wp2; go_ret; exact HF.out _ _ hz2 hd
  by_cases h4 : r = 4
  · subst h4
    obtain ⟨z, w2, hz, hz2, hd⟩ := Flo.arith_any (P := Try.prog) .quo (by simp) 67 .f64 13830554455654793216 0 w1
    go_wp2; go_ret; exact HF.out _ _ hz2 hd
  by_cases h5 : r = 5
  · subst h5; go_wp2; go_ret; exact HF.out _ _ (by omega) (Drw.refl _)
  by_cases h6 : r = 6
  · subst h6; go_wp2; go_ret; exact HF.out _ _ (by omega) (Drw.refl _)
  by_cases h7 : r = 7
  · subst h7; go_wp2; go_ret; exact HF.out _ _ (by omega) (Drw.refl _)
  by_cases h8 : r = 8
  · subst h8; go_wp2; go_ret; exact HF.out _ _ (by omega) (Drw.refl _)
  by_cases h9 : r = 9
  · subst h9; go_wp2; go_ret; exact HF.out _ _ (by omega) (Drw.refl _)
  have g0 : (r == 0) = false := by simpa using h0
  have g1 : (r == 1) = false := by simpa using h1
  have g2 : (r == 2) = false := by simpa using h2
  have g3 : (r == 3) = false := by simpa using h3
  have g4 : (r == 4) = false := by simpa using h4
  have g5 : (r == 5) = false := by simpa using h5
  have g6 : (r == 6) = false := by simpa using h6
  have g7 : (r == 7) = false := by simpa using h7
  have g8 : (r == 8) = false := by simpa using h8
  have g9 : (r == 9) = false := by simpa using h9
  clear HF
  go_wp2_with fail
  refine (pick_any w0 b (p + 1) 65 (by omega) (by omega) _ HR.out).mono ?_
  rintro e w2 ⟨⟨x, rfl, x0, x1⟩, hR2, hO2⟩
  have HR2 := Lib.hid hR2
  have HO2 := Lib.hid (HO.out.trans hO2)
  clear hR2 hO2 HR HO
  go_wp2_with fail
  refine (pick_any w0 b (p + 1 + 1) 7 (by omega) (by omega) _ HR2.out).mono ?_
  rintro e w3 ⟨⟨y, rfl, y0, y1⟩, hR3, hO3⟩
  have HR3 := Lib.hid hR3
  have HO3 := Lib.hid (HO2.out.trans hO3)
  clear hR3 hO3 HR2 HO2
  have HF : Hid (∀ x w', x < 18446744073709551616 → Drw w3 w' → (∃ y, Ending.returned (.float .f64 x) = .returned (.float .f64 y) ∧ y < 18446744073709551616) ∧ (∃ p', p' ≤ p + 3 ∧ Rd w0 b p' w') ∧ Only b W w') :=
    fun x w' hx hd => ⟨⟨x, rfl, hx⟩, ⟨p + 1 + 1 + 1, by omega, HR3.out.drw hd⟩, HO3.out.trans (Only.of_below (hd.below _))⟩
  clear HR3 HO3
  have key := fun q => Flo.arith_any (P := Try.prog) .quo (by simp) 67 .f64 (floatOfInt .f64 (x - 32)) (floatOfInt .f64 q) w3
  rcases (by omega : y = 0 ∨ y = 1 ∨ y = 2 ∨ y = 3 ∨ y = 4 ∨ y = 5 ∨ y = 6) with rfl | rfl | rfl | rfl | rfl | rfl | rfl
  · obtain ⟨z, w4, hz, hz2, hd⟩ := key 1
    clear key; go_wp2; go_ret; exact HF.out _ _ hz2 hd
  · obtain ⟨z, w4, hz, hz2, hd⟩ := key 2
    clear key; go_wp2; go_ret; exact HF.out _ _ hz2 hd
  · obtain ⟨z, w4, hz, hz2, hd⟩ := key 4
    clear key; go_wp2; go_ret; exact HF.out _ _ hz2 hd
  · obtain ⟨z, w4, hz, hz2, hd⟩ := key 8
    clear key; go_wp2; go_ret; exact HF.out _ _ hz2 hd
  · obtain ⟨z, w4, hz, hz2, hd⟩ := key 16
    clear key; go_wp2; go_ret; exact HF.out _ _ hz2 hd
  · obtain ⟨z, w4, hz, hz2, hd⟩ := key 32
    clear key; go_wp2; go_ret; exact HF.out _ _ hz2 hd
  · obtain ⟨z, w4, hz, hz2, hd⟩ := key 64
    clear key; go_wp2; go_ret; exact HF.out _ _ hz2 hd
end Go.Proofs.Ytalmhbcmagjheaa
end

section
/- Walks of what draws places of tiles. -/
namespace Go.Proofs.Ytalmhbcmagjheaa
open Go.RowKit

set_option maxHeartbeats 1000000 in
theorem wide_any (w0 : World) (b p : Nat) (hp : p ≤ 1099511626000) (W : World) (h : Rd w0 b p W) :
    Calls Try.prog 58 #[.pointer (some ⟨b, 0, none⟩)] W fun e w' => (∃ x y, e = .returned (.complex .f64 x y) ∧ x < 18446744073709551616 ∧ y < 18446744073709551616) ∧ (∃ p', p' ≤ p + 6 ∧ Rd w0 b p' w') ∧ Only b W w' := by
  go_enter Try.func58, Try.ntmps58
  go_wp2_with fail
  refine (part_any w0 b p (by omega) _ h).mono ?_
  rintro e w1 ⟨⟨x, rfl, hx⟩, ⟨p1, hp1, hR⟩, hO⟩
  have HO := Lib.hid hO
  clear hO h
  go_wp2_with fail
  refine (part_any w0 b p1 (by omega) _ hR).mono ?_
  rintro e w2 ⟨⟨y, rfl, hy⟩, ⟨p2, hp2, hR2⟩, hO2⟩
  have HR2 := Lib.hid hR2
  have HO2 := Lib.hid (HO.out.trans hO2)
  clear hO2 hR hR2
  go_wp2
  go_ret
  exact ⟨⟨x, y, rfl, hx, hy⟩, ⟨p2, by omega, HR2.out⟩, HO2.out⟩
set_option maxRecDepth 100000 in
set_option maxHeartbeats 4000000 in
theorem corner_any (w0 : World) (b p d : Nat) (hd : d ≤ 4) (hp : p ≤ 1099511620000) (W : World) (h : Rd w0 b p W) :
    Calls Try.prog 47 #[.pointer (some ⟨b, 0, none⟩), .int .i64 d] W fun e w' => (∃ x y, e = .returned (.complex .f32 x y) ∧ x < 4294967296 ∧ y < 4294967296) ∧ (∃ p', p' ≤ p + 10 ∧ Rd w0 b p' w') ∧ Only b W w' := by
  obtain ⟨q, hq⟩ : ∃ q : Int, wrap64 (2 ^ d) = q := ⟨_, rfl⟩
  have hqb : 1 ≤ q ∧ q ≤ 16 := by
    rcases (by omega : d = 0 ∨ d = 1 ∨ d = 2 ∨ d = 3 ∨ d = 4) with rfl | rfl | rfl | rfl | rfl
    · have : wrap64 (2 ^ 0) = 1 := by kernel_rfl
      omega
    · have : wrap64 (2 ^ 1) = 2 := by kernel_rfl
      omega
    · have : wrap64 (2 ^ 2) = 4 := by kernel_rfl
      omega
    · have : wrap64 (2 ^ 3) = 8 := by kernel_rfl
      omega
    · have : wrap64 (2 ^ 4) = 16 := by kernel_rfl
      omega
  obtain ⟨q1, q2⟩ := hqb
  obtain ⟨u, hu⟩ : ∃ u, (5 * q) % 251 = u := ⟨_, rfl⟩
  obtain ⟨v, hv⟩ : ∃ v, (3 * q) % 251 = v := ⟨_, rfl⟩
  have u1 : 0 ≤ u := by omega
  have u2 : u ≤ 251 := by omega
  have v1 : 0 ≤ v := by omega
  have v2 : v ≤ 251 := by omega
  go_enter Try.func47, Try.ntmps47
  go_wp2_with fail
  refine (pick_any w0 b p (u + 1) (by omega) (by omega) _ h).mono ?_
  rintro e w1 ⟨⟨r, rfl, r0, r1⟩, hR, hO⟩
  obtain ⟨x1, w1', h1, _, d1⟩ := Flo.arith_any (P := Try.prog) .quo (by simp) 41 .f32 (floatOfInt .f32 r) (floatOfInt .f32 q) w1
  have HR := Lib.hid (hR.drw d1)
  have HO := Lib.hid (hO.trans (Only.of_below (d1.below _)))
  clear hR hO d1 h
  go_wp2_with fail
  refine (pick_any w0 b (p + 1) (v + 1) (by omega) (by omega) _ HR.out).mono ?_
  rintro e w2 ⟨⟨r', rfl, r0', r1'⟩, hR, hO⟩
  obtain ⟨x2, w2', h2, _, d2⟩ := Flo.arith_any (P := Try.prog) .quo (by simp) 41 .f32 (floatOfInt .f32 r') (floatOfInt .f32 q) w2
  have HR2 := Lib.hid (hR.drw d2)
  have HO2 := Lib.hid (HO.out.trans (hO.trans (Only.of_below (d2.below _))))
  clear hR hO d2 h1 HR HO
  go_wp2_with fail
  refine (pick_any w0 b (p + 1 + 1) 20 (by omega) (by omega) _ HR2.out).mono ?_
  rintro e w3 ⟨⟨r3, rfl, r30, r31⟩, hR, hO⟩
  have HR3 := Lib.hid hR
  have HO3 := Lib.hid (HO2.out.trans hO)
  clear hR hO h2 HR2 HO2 hq hu hv
  by_cases h3 : r3 = 0
  · subst h3
    go_wp2_with fail
    refine (wide_any w0 b (p + 1 + 1 + 1) (by omega) _ HR3.out).mono ?_
    rintro e w4 ⟨⟨x, y, rfl, hx, hy⟩, ⟨p4, hp4, hR⟩, hO⟩
    obtain ⟨a, c, w5, h5, ha, hc, d5⟩ := Flo.cconvert_any (P := Try.prog) 84 34 .f64 .f32 (by kernel_rfl) Try.underlying34 x y hx hy w4
    have HR5 := Lib.hid (hR.drw d5)
    have HO5 := Lib.hid (HO3.out.trans (hO.trans (Only.of_below (d5.below _))))
    clear hR hO d5 hx hy HR3 HO3
    go_wp2
    go_ret
    exact ⟨⟨a, c, rfl, ha, hc⟩, ⟨p4, by omega, HR5.out⟩, HO5.out⟩
  · have h3' : (r3 == 0) = false := by simpa using h3
    obtain ⟨x3, w4, h4, hx3, d4⟩ := Flo.arith_any (P := Try.prog) .sub (by simp) 41 .f32 x1 1073741824 w3
    obtain ⟨x4, w5, h5, _, d5⟩ := Flo.arith_any (P := Try.prog) .sub (by simp) 41 .f32 x2 1069547520 w4
    have HR5 := Lib.hid (HR3.out.drw (d4.trans d5))
    have HO5 := Lib.hid (HO3.out.trans (Only.of_below ((d4.trans d5).below _)))
    clear d4 d5 HR3 HO3
    go_wp2_with fail
    refine (pick_any w0 b (p + 1 + 1 + 1) 2 (by omega) (by omega) _ HR5.out).mono ?_
    rintro e w6 ⟨⟨r6, rfl, r60, r61⟩, hR, hO⟩
    obtain ⟨x5, w7, h7, _, d7⟩ := Flo.arith_any (P := Try.prog) .mul (by simp) 41 .f32 1056964608 (floatOfInt .f32 r6) w6
    obtain ⟨x6, w8, h8, hx6, d8⟩ := Flo.arith_any (P := Try.prog) .add (by simp) 41 .f32 x4 x5 w7
    have HR8 := Lib.hid (hR.drw (d7.trans d8))
    have HO8 := Lib.hid (HO5.out.trans (hO.trans (Only.of_below ((d7.trans d8).below _))))
    clear hR hO d7 d8 HR5 HO5 h4 h5
    go_wp2
    go_ret
    exact ⟨⟨x3, x6, rfl, hx3, hx6⟩, ⟨p + 1 + 1 + 1 + 1, by omega, HR8.out⟩, HO8.out⟩
set_option maxRecDepth 100000 in
set_option maxHeartbeats 4000000 in
theorem place_any (w0 : World) (b p : Nat) (hp : p ≤ 1099511610000) (W : World) (h : Rd w0 b p W) :
    Calls Try.prog 37 #[.pointer (some ⟨b, 0, none⟩)] W fun e w' => (∃ (x y : Nat) (d s m : Int), e = .returned (.tuple #[.complex .f32 x y, .int .i64 d, .int .i64 s, .int .i64 m]) ∧ x < 4294967296 ∧ y < 4294967296 ∧ 1 ≤ m ∧ m ≤ 31) ∧ (∃ p', p' ≤ p + 20 ∧ Rd w0 b p' w') ∧ Only b W w' := by
  go_enter Try.func37, Try.ntmps37
  go_wp2_with fail
  refine (pick_any w0 b p 5 (by omega) (by omega) _ h).mono ?_
  rintro e w1 ⟨⟨r, rfl, r0, r1⟩, hR, hO⟩
  have HO := Lib.hid hO
  obtain ⟨d, rfl⟩ := Int.eq_ofNat_of_zero_le r0
  have hd : d ≤ 4 := by omega
  clear h hO r0 r1
  go_wp2_with fail
  refine (corner_any w0 b (p + 1) d hd (by omega) _ hR).mono ?_
  rintro e w2 ⟨⟨x, y, rfl, hx, hy⟩, ⟨p2, hp2, hR2⟩, hO⟩
  have HO2 := Lib.hid (HO.out.trans hO)
  clear hO HO hR
  go_wp2_with fail
  refine (pick_any w0 b p2 4 (by omega) (by omega) _ hR2).mono ?_
  rintro e w3 ⟨⟨s, rfl, s0, s1⟩, hR3, hO⟩
  have HO3 := Lib.hid (HO2.out.trans hO)
  clear hO HO2 hR2
  go_wp2_with fail
  refine (pick_any w0 b (p2 + 1) 24 (by omega) (by omega) _ hR3).mono ?_
  rintro e w4 ⟨⟨k, rfl, k0, k1⟩, hR4, hO⟩
  have HO4 := Lib.hid (HO3.out.trans hO)
  have HK := Lib.hid (pick_any w0 b (p2 + 1 + 1) 30 (by omega) (by omega) w4 hR4)
  clear hO HO3 hR3 hR4
  have fin : ∀ (x y : Nat) (d s m : Int) w', x < 4294967296 → y < 4294967296 → 0 ≤ m → (m < 30 ∨ m = 0) → Rd w0 b (p2 + 1 + 1 + 1) w' → Only b w4 w' → (∃ (x' y' : Nat) (d' s' m' : Int), Ending.returned (.tuple #[.complex .f32 x y, .int .i64 d, .int .i64 s, .int .i64 (1 + m)]) = .returned (.tuple #[.complex .f32 x' y', .int .i64 d', .int .i64 s', .int .i64 m']) ∧ x' < 4294967296 ∧ y' < 4294967296 ∧ 1 ≤ m' ∧ m' ≤ 31) ∧ (∃ p', p' ≤ p + 20 ∧ Rd w0 b p' w') ∧ Only b W w' :=
    fun x y d s m w' h1 h2 h3 h4 h5 h6 => ⟨⟨x, y, d, s, 1 + m, rfl, h1, h2, by omega, by omega⟩, ⟨_, by omega, h5⟩, HO4.out.trans h6⟩
  have HF := Lib.hid fin
  clear fin
  by_cases c0 : k = 0
  · subst c0
    go_wp2_with fail
    refine HK.out.mono ?_
    rintro e w5 ⟨⟨m, rfl, m0, m1⟩, hR5, hO⟩
    have H5 := Lib.hid (And.intro hR5 hO)
    clear hR5 hO
    go_wp2
    exact bodyPost_ret (v := .tuple #[.complex .f32 x y, .int .i64 d, .int .i64 9, .int .i64 (1 + m)]) (by simp [results, Try.f37, go_sem]) rfl (HF.out _ _ _ _ _ _ hx hy m0 m1 H5.out.1 H5.out.2)
  by_cases c1 : k = 1
  · subst c1
    go_wp2_with fail
    refine HK.out.mono ?_
    rintro e w5 ⟨⟨m, rfl, m0, m1⟩, hR5, hO⟩
    have H5 := Lib.hid (And.intro hR5 hO)
    clear hR5 hO
    go_wp2
    exact bodyPost_ret (v := .tuple #[.complex .f32 x y, .int .i64 11, .int .i64 (1 + s), .int .i64 (1 + m)]) (by simp [results, Try.f37, go_sem]) rfl (HF.out _ _ _ _ _ _ hx hy m0 m1 H5.out.1 H5.out.2)
  by_cases c2 : k = 2
  · subst c2
    go_wp2_with fail
    refine HK.out.mono ?_
    rintro e w5 ⟨⟨m, rfl, m0, m1⟩, hR5, hO⟩
    have H5 := Lib.hid (And.intro hR5 hO)
    clear hR5 hO
    go_wp2
    exact bodyPost_ret (v := .tuple #[.complex .f32 1082130432 1082130432, .int .i64 d, .int .i64 (1 + s), .int .i64 (1 + m)]) (by simp [results, Try.f37, go_sem]) rfl (HF.out _ _ _ _ _ _ (by omega) (by omega) m0 m1 H5.out.1 H5.out.2)
  have g0 : (k == 0) = false := by simpa using c0
  have g1 : (k == 1) = false := by simpa using c1
  have g2 : (k == 2) = false := by simpa using c2
  go_wp2_with fail
  refine HK.out.mono ?_
  rintro e w5 ⟨⟨m, rfl, m0, m1⟩, hR5, hO⟩
  have H5 := Lib.hid (And.intro hR5 hO)
  clear hR5 hO
  go_wp2
  exact bodyPost_ret (v := .tuple #[.complex .f32 x y, .int .i64 d, .int .i64 (1 + s), .int .i64 (1 + m)]) (by simp [results, Try.f37, go_sem]) rfl (HF.out _ _ _ _ _ _ hx hy m0 m1 H5.out.1 H5.out.2)
end Go.Proofs.Ytalmhbcmagjheaa
end

section
/- Words for the rows of tiles that are drawn. -/
namespace Go.Proofs.Ytalmhbcmagjheaa
open Go.RowKit

/-- the rows of a tile that is drawn: floats, and marks from -1 to 2 -/
structure TRows (B n m : Nat) (xs : List Nat) (ys : List Int) (smv mkv : Value) (W : World) : Prop where
  S : W.ownsRow B 41 1 smv n (xs.map floV)
  M : W.ownsRow B 3 1 mkv m (ys.map intV)
  hx : ∀ x, x ∈ xs → x < 4294967296
  hy : ∀ y, y ∈ ys → -1 ≤ y ∧ y ≤ 2
theorem TRows.lx {B n m : Nat} {xs : List Nat} {ys : List Int} {smv mkv : Value} {W : World} (h : TRows B n m xs ys smv mkv W) : xs.length = n := by have := h.S.1; simpa using this
theorem TRows.ly {B n m : Nat} {xs : List Nat} {ys : List Int} {smv mkv : Value} {W : World} (h : TRows B n m xs ys smv mkv W) : ys.length = m := by have := h.M.1; simpa using this
theorem Made.rows {B n : Nat} {xs : List Nat} {ys : List Int} {smv mkv : Value} {W : World} (h : Made B n xs ys smv mkv W) : TRows B n n xs ys smv mkv W :=
  ⟨h.S, h.M, h.hx, fun y hy => by have := h.hy y hy; omega⟩
theorem ownsRow_form {w : World} {base : Nat} {e : TypeId} {size : Nat} {v : Value} {n : Nat} {xs : List Value} (h : w.ownsRow base e size v n xs) (hn : 0 < n) : ∃ g cap, v = .slice (some ⟨g, 0, none⟩) n cap ∧ base ≤ g ∧ n ≤ cap := by
  rcases h.2 with ⟨_, h0⟩ | ⟨g, cap, cur, rfl, hg, _, hc, _⟩
  · omega
  · exact ⟨g, cap, rfl, hg, hc⟩
theorem TRows.step {B n m : Nat} {xs : List Nat} {ys : List Int} {smv mkv : Value} {W W' : World} (h : TRows B n m xs ys smv mkv W) (k : Below W.heap.size W W') : TRows B n m xs ys smv mkv W' :=
  ⟨ownsRow_step h.S k, ownsRow_step h.M k, h.hx, h.hy⟩
theorem TRows.drw {B n m : Nat} {xs : List Nat} {ys : List Int} {smv mkv : Value} {W W' : World} (h : TRows B n m xs ys smv mkv W) (k : Drw W W') : TRows B n m xs ys smv mkv W' := h.step (k.below _)
theorem TRows.alloc {B n m : Nat} {xs : List Nat} {ys : List Int} {smv mkv : Value} {W : World} (h : TRows B n m xs ys smv mkv W) (o : Obj) : TRows B n m xs ys smv mkv (W.alloc o) := h.step ((Below.refl _ _).alloc (Nat.le_refl _) o)
/-- a store into a tile's box -/
theorem TRows.box {B n m : Nat} {xs : List Nat} {ys : List Int} {smv mkv : Value} {W w0 : World} (h : TRows B n m xs ys smv mkv W) {b : Nat} {C : Array Value} (hb : Box w0 b C 37 W) (j : Nat) (u : Value) : TRows B n m xs ys smv mkv (W.setCell ⟨b, j, none⟩ u) :=
  ⟨ownsRow_set h.S hb.blk (by decide) u, ownsRow_set h.M hb.blk (by decide) u, h.hx, h.hy⟩
theorem Box.set5 {w0 W : World} {b : Nat} {v0 v1 v2 v3 v4 : Value} {T : TypeId} (h : Box w0 b #[v0, v1, v2, v3, v4] T W) (hb : w0.heap.size ≤ b) (u0 u1 u2 u3 u4 : Value) :
    Box w0 b #[u0, u1, u2, u3, u4] T (((((W.setCell ⟨b, 0, none⟩ u0).setCell ⟨b, 1, none⟩ u1).setCell ⟨b, 2, none⟩ u2).setCell ⟨b, 3, none⟩ u3).setCell ⟨b, 4, none⟩ u4) :=
  ((((h.set hb 0 u0).set hb 1 u1).set hb 2 u2).set hb 3 u3).set hb 4 u4
theorem TRows.box5 {B n m : Nat} {xs : List Nat} {ys : List Int} {smv mkv : Value} {W w0 : World} (h : TRows B n m xs ys smv mkv W) {b : Nat} {v0 v1 v2 v3 v4 : Value} (hb : Box w0 b #[v0, v1, v2, v3, v4] 37 W) (hw : w0.heap.size ≤ b) (u0 u1 u2 u3 u4 : Value) :
    TRows B n m xs ys smv mkv (((((W.setCell ⟨b, 0, none⟩ u0).setCell ⟨b, 1, none⟩ u1).setCell ⟨b, 2, none⟩ u2).setCell ⟨b, 3, none⟩ u3).setCell ⟨b, 4, none⟩ u4) := by
  have b1 := hb.set hw 0 u0
  have b2 := b1.set hw 1 u1
  have b3 := b2.set hw 2 u2
  have b4 := b3.set hw 3 u3
  exact ((((h.box hb 0 u0).box b1 1 u1).box b2 2 u2).box b3 3 u3).box b4 4 u4
theorem TRows.setM {B n m : Nat} {xs : List Nat} {ys : List Int} {smv : Value} {g cap : Nat} {W : World} (h : TRows B n m xs ys smv (.slice (some ⟨g, 0, none⟩) m cap) W) (j : Nat) {u : Int} (hu : -1 ≤ u ∧ u ≤ 2) :
    TRows B n m xs (ys.set j u) smv (.slice (some ⟨g, 0, none⟩) m cap) (W.setCell ⟨g, j, none⟩ (.int .i64 u)) := by
  have hs := h.M.stored j (.int .i64 u)
  refine ⟨?_, ?_, h.hx, ?_⟩
  · exact h.S.kept hs.2 (by have := ownsRow_apart h.S h.M (by decide); simpa [Value.ownBlock] using this)
  · have := hs.1
    rw [List.map_set]
    exact this
  · intro y hy
    rcases List.mem_or_eq_of_mem_set hy with hy | rfl
    · exact h.hy y hy
    · exact hu
theorem TRows.setS {B n m : Nat} {xs : List Nat} {ys : List Int} {mkv : Value} {g cap : Nat} {W : World} (h : TRows B n m xs ys (.slice (some ⟨g, 0, none⟩) n cap) mkv W) (j : Nat) {u : Nat} (hu : u < 4294967296) :
    TRows B n m (xs.set j u) ys (.slice (some ⟨g, 0, none⟩) n cap) mkv (W.setCell ⟨g, j, none⟩ (.float .f32 u)) := by
  have hs := h.S.stored j (.float .f32 u)
  refine ⟨?_, ?_, ?_, h.hy⟩
  · have := hs.1
    rw [List.map_set]
    exact this
  · exact h.M.kept hs.2 (by have := ownsRow_apart h.M h.S (by decide); simpa [Value.ownBlock] using this)
  · intro x hx
    rcases List.mem_or_eq_of_mem_set hx with hx | rfl
    · exact h.hx x hx
    · exact hu
theorem cellM {B n m : Nat} {xs : List Nat} {ys : List Int} {smv : Value} {g cap : Nat} {W : World} (h : TRows B n m xs ys smv (.slice (some ⟨g, 0, none⟩) m cap) W) {j : Nat} (hj : j < m) : (∃ y, W.cell? ⟨g, j, none⟩ = some (.int .i64 y)) ∧ W.frozen? ⟨g, j, none⟩ = false := by
  have hl := h.ly
  refine ⟨⟨ys[j]'(by omega), ?_⟩, h.M.frozenAt j⟩
  rw [h.M.cellAt j (by omega), List.getElem?_map, List.getElem?_eq_getElem (by omega)]
  rfl
theorem cellS {B n m : Nat} {xs : List Nat} {ys : List Int} {mkv : Value} {g cap : Nat} {W : World} (h : TRows B n m xs ys (.slice (some ⟨g, 0, none⟩) n cap) mkv W) {j : Nat} (hj : j < n) : (∃ y, W.cell? ⟨g, j, none⟩ = some (.float .f32 y)) ∧ W.frozen? ⟨g, j, none⟩ = false := by
  have hl := h.lx
  refine ⟨⟨xs[j]'(by omega), ?_⟩, h.S.frozenAt j⟩
  rw [h.S.cellAt j (by omega), List.getElem?_map, List.getElem?_eq_getElem (by omega)]
  rfl
/-- a tile as a value, its rows readable -/
structure TileIn (B : Nat) (W : World) (v : Value) (cx cy : Nat) (deep size : Int) (xs : List Nat) (ys : List Int) : Prop where
  form : ∃ a c a' c', v = .agg #[.complex .f32 cx cy, .int .i64 deep, .int .i64 size, .slice a xs.length c, .slice a' ys.length c'] ∧ Sl W a (xs.map floV) ∧ Sl W a' (ys.map intV) ∧ xs.length ≤ c ∧ ys.length ≤ c' ∧ (∀ g o s, a = some ⟨g, o, s⟩ → B ≤ g) ∧ (∀ g o s, a' = some ⟨g, o, s⟩ → B ≤ g)
  hx : ∀ x, x ∈ xs → x < 4294967296
  hy : ∀ y, y ∈ ys → -1 ≤ y ∧ y ≤ 2
theorem TileIn.step {B : Nat} {W W' : World} {v : Value} {cx cy : Nat} {deep size : Int} {xs : List Nat} {ys : List Int} (h : TileIn B W v cx cy deep size xs ys) (k : Below W.heap.size W W') : TileIn B W' v cx cy deep size xs ys := by
  obtain ⟨⟨a, c, a', c', rfl, h1, h2, h3⟩, hx, hy⟩ := h
  exact ⟨⟨a, c, a', c', rfl, h1.step k, h2.step k, h3⟩, hx, hy⟩
theorem TileIn.drw {B : Nat} {W W' : World} {v : Value} {cx cy : Nat} {deep size : Int} {xs : List Nat} {ys : List Int} (h : TileIn B W v cx cy deep size xs ys) (k : Drw W W') : TileIn B W' v cx cy deep size xs ys := h.step (k.below _)
theorem sl_of_own {w : World} {base : Nat} {e : TypeId} {g cap n : Nat} {xs : List Value} (h : w.ownsRow base e 1 (.slice (some ⟨g, 0, none⟩) n cap) n xs) : Sl w (some ⟨g, 0, none⟩) xs := by
  refine .inr ⟨g, 0, rfl, fun i v hv => ?_⟩
  have hl : i < xs.length := (List.getElem?_eq_some_iff.1 hv).1
  rw [Nat.zero_add, h.cellAt i (by have := h.1; omega)]
  exact hv
theorem sl_tail {w : World} {g : Nat} {x : Value} {xs : List Value} (h : Sl w (some ⟨g, 0, none⟩) (x :: xs)) : Sl w (some ⟨g, 1, none⟩) xs := by
  rcases h with h | ⟨b, o, hb, h⟩
  · cases h
  · injection hb with hb
    injection hb with h1 h2 _
    subst h1 h2
    refine .inr ⟨g, 1, rfl, fun i v hv => ?_⟩
    have := h (i + 1) v (by simpa using hv)
    rw [Nat.zero_add] at this
    rw [Nat.add_comm 1 i]
    exact this
/-- what draws a tile leaves: its rows lie from block B on -/
def TileOut (B : Nat) (e : Ending) (w' : World) : Prop :=
  ∃ v cx cy deep size xs ys, e = .returned v ∧ TileIn B w' v cx cy deep size xs ys ∧ cx < 4294967296 ∧ cy < 4294967296 ∧ placeB cx cy deep size = true ∧ ys.length = size.toNat * size.toNat ∧ (xs.length = ys.length ∨ xs.length + 1 = ys.length)
theorem own_ge {w : World} {base : Nat} {e : TypeId} {g cap n m size : Nat} {xs : List Value} (h : w.ownsRow base e size (.slice (some ⟨g, 0, none⟩) m cap) n xs) : base ≤ g := by
  rcases h.2 with ⟨h, _⟩ | ⟨g', cap', cur, hv, hg, _⟩
  · cases h
  · injection hv with h1 h2 h3
    injection h1 with h1
    injection h1 with h1
    rw [h1]; exact hg
theorem TileOut.rows {B n gs cs gm cm cx cy : Nat} {deep size : Int} {xs : List Nat} {ys : List Int} {W : World} (h : TRows B n n xs ys (.slice (some ⟨gs, 0, none⟩) n cs) (.slice (some ⟨gm, 0, none⟩) n cm) W) (hx : cx < 4294967296) (hy : cy < 4294967296) (hp : placeB cx cy deep size = true) (hn : n = size.toNat * size.toNat) (h1 : n ≤ cs) (h2 : n ≤ cm) :
    TileOut B (.returned (.agg #[.complex .f32 cx cy, .int .i64 deep, .int .i64 size, .slice (some ⟨gs, 0, none⟩) n cs, .slice (some ⟨gm, 0, none⟩) n cm])) W := by
  have lx := h.lx
  have ly := h.ly
  refine ⟨_, cx, cy, deep, size, xs, ys, rfl, ⟨⟨_, cs, _, cm, by rw [lx, ly], sl_of_own h.S, sl_of_own h.M, by omega, by omega, fun g o s e => ?_, fun g o s e => ?_⟩, h.hx, h.hy⟩, hx, hy, hp, by omega, .inl (by omega)⟩
  · injection e with e; injection e with e; rw [← e]; exact own_ge h.S
  · injection e with e; injection e with e; rw [← e]; exact own_ge h.M
theorem TileOut.tail {B n gs cs gm cm cx cy : Nat} {deep size : Int} {xs : List Nat} {ys : List Int} {W : World} {a : Option Addr} {c l : Nat} (h : TRows B n n xs ys (.slice (some ⟨gs, 0, none⟩) n cs) (.slice (some ⟨gm, 0, none⟩) n cm) W) (hx : cx < 4294967296) (hy : cy < 4294967296) (hp : placeB cx cy deep size = true) (hn : n = size.toNat * size.toNat) (h1 : n ≤ cs) (h2 : n ≤ cm)
    (hl : l + 1 = n) (hc : c + 1 = cs) (ha : (l = 0 ∧ a = some ⟨gs, 0, none⟩) ∨ a = some ⟨gs, 1, none⟩) :
    TileOut B (.returned (.agg #[.complex .f32 cx cy, .int .i64 deep, .int .i64 size, .slice a l c, .slice (some ⟨gm, 0, none⟩) n cm])) W := by
  have lx := h.lx
  have ly := h.ly
  cases xs with
  | nil => simp at lx; omega
  | cons x xs =>
    have hl2 : xs.length = l := by simp at lx; omega
    refine ⟨_, cx, cy, deep, size, xs, ys, rfl, ⟨⟨_, c, _, cm, by rw [hl2, ly], ?_, sl_of_own h.M, by omega, by omega, fun g o s e => ?_, fun g o s e => ?_⟩, fun x hx => h.hx x (List.mem_cons_of_mem _ hx), h.hy⟩, hx, hy, hp, by omega, .inr (by omega)⟩
    rotate_left
    · rcases ha with ⟨_, rfl⟩ | rfl
      · injection e with e; injection e with e; rw [← e]; exact own_ge h.S
      · injection e with e; injection e with e; rw [← e]; exact own_ge h.S
    · injection e with e; injection e with e; rw [← e]; exact own_ge h.M
    rcases ha with ⟨h0, _⟩ | rfl
    · left
      have : xs = [] := List.eq_nil_of_length_eq_zero (by omega)
      rw [this]; rfl
    · exact sl_tail (sl_of_own h.S)
end Go.Proofs.Ytalmhbcmagjheaa
end
