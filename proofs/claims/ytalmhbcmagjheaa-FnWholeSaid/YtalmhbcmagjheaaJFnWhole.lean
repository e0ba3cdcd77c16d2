/- FnWhole -/
import Derived.Test.YtalmhbcmagjheaaJ21
import Derived.Test.YtalmhbcmagjheaaJ22
import Derived.Test.YtalmhbcmagjheaaJ17
/- FnWhole: a whole stays whole when a part is cut. No condition. -/
namespace Go.Proofs.Ytalmhbcmagjheaa
open Go.ChangeShapes Go.WideShapes Go.ChangeAt Go.RowKit

theorem wpList_append_own' {P : Program} (w : World) {ops : Array Oper} {rest : List Oper} {o : Oper} {a : Act} {Q : Exit → Act → World → Prop} (hgd : o.guard = none) (s x : Operand) (t : TypeId)
    (ho : o.op = .call { callee := .builtin .append, args := #[s, x], argTypes := #[t, t] })
    (base : Nat) (e : TypeId) (i : TypeInfo) (z : Value) (size bytes : Nat) (ht : P.underlying t = some (.slice e)) (hi : P.info? e = some i) (hz : i.zero = some z)
    (hsize : i.size = size) (hby : i.bytes = bytes) (hzs : z.cells.size = size) (hsz : 0 < size)
    (v : Value) (n : Nat) (xs : List Value) (hs : a.eval s = v) (hown : w.ownsRow base e size v n xs)
    (ad : Addr) (m c : Nat) (news : List Value) (hx : a.eval x = .slice (some ad) m c) (hl : news.length = m * size) (hnews : ∀ j u, news[j]? = some u → w.cell? (ad.add j) = some u) (h1 : ∀ u ∈ news, u.oneCell' = true)
    (h63 : n + m ≤ maxLen) (hbytes : (n + m) * bytes ≤ 140737488355328) (hbase : base ≤ w.heap.size)
    (h : ∀ v' w', w'.ownsRow base e size v' (n + m) (xs ++ news) → w.grownBy w' v.ownBlock → wpList P ops Q rest (a.put o.dst v') w') : wpList P ops Q (o :: rest) a w :=
  wpList_plain hgd fun _ hK => wp_append_own' w s x t ho base e i z size bytes ht hi hz hsize hby hzs hsz v n xs hs hown ad m c news hx hl hnews h1 h63 hbytes hbase fun v' w' h2 h3 => hK _ _ (h v' w' h2 h3)
theorem planWhole_depth {ss : List ByteArray} {m : Nat} (h : planWhole ss m = true) : ∃ d, planDepth ss m = some d := by
  unfold planWhole at h
  simp only [Bool.and_eq_true, Option.isSome_iff_exists] at h
  exact h.1
theorem dr_end {g : Nat} {ms : List Int} {w : World} (hl : (ms.map intV).length = 1) :
    ((ms.drop 1).map intV).length = 0 * 1 ∧ (∀ W, Below w.heap.size w W → ∀ j u, ((ms.drop 1).map intV)[j]? = some u → W.cell? ((⟨g, 0, none⟩ : Addr).add j) = some u) ∧ ∀ u ∈ (ms.drop 1).map intV, u.oneCell' = true := by
  have e : ms.drop 1 = [] := List.drop_of_length_le (by rw [List.length_map] at hl; omega)
  rw [e]
  exact ⟨rfl, fun W d j u hj => by simp at hj, fun u hu => by simp at hu⟩
theorem dr_tail {g n : Nat} {ms : List Int} {w : World} (h : Sl w (some ⟨g, 0, none⟩) (ms.map intV)) (hl : (ms.map intV).length = n) :
    ((ms.drop 1).map intV).length = (n - 1) * 1 ∧ (∀ W, Below w.heap.size w W → ∀ j u, ((ms.drop 1).map intV)[j]? = some u → W.cell? ((⟨g, 1, none⟩ : Addr).add j) = some u) ∧ ∀ u ∈ (ms.drop 1).map intV, u.oneCell' = true := by
  refine ⟨by rw [List.length_map] at hl ⊢; rw [List.length_drop]; omega, fun W d j u hj => ?_, fun u hu => ?_⟩
  · rw [addr_add]
    rw [List.map_drop, List.getElem?_drop] at hj
    obtain ⟨b, o, e, hc⟩ := (h.step d).at hj
    injection e with e
    injection e with e1 e2
    subst e1 e2
    rw [Nat.zero_add] at hc
    exact hc
  · obtain ⟨x, -, rfl⟩ := List.mem_map.1 hu
    rfl
theorem dr_endS {g : Nat} {ss rr : List ByteArray} {s : ByteArray} {w : World} (hs : ss = s :: rr) (hl : ss.length = 1) :
    (rr.map Value.string).length = 0 * 1 ∧ (∀ W, Below w.heap.size w W → ∀ j u, (rr.map Value.string)[j]? = some u → W.cell? ((⟨g, 0, none⟩ : Addr).add j) = some u) ∧ ∀ u ∈ rr.map Value.string, u.oneCell' = true := by
  have e : rr = [] := by rw [hs, List.length_cons] at hl; exact List.eq_nil_of_length_eq_zero (by omega)
  rw [e]
  exact ⟨rfl, fun W d j u hj => by simp at hj, fun u hu => by simp at hu⟩
theorem dr_tailS {g n : Nat} {ss rr : List ByteArray} {s : ByteArray} {w : World} (h : Sl w (some ⟨g, 0, none⟩) (ss.map Value.string)) (hs : ss = s :: rr) (hl : ss.length = n) :
    (rr.map Value.string).length = (n - 1) * 1 ∧ (∀ W, Below w.heap.size w W → ∀ j u, (rr.map Value.string)[j]? = some u → W.cell? ((⟨g, 1, none⟩ : Addr).add j) = some u) ∧ ∀ u ∈ rr.map Value.string, u.oneCell' = true := by
  refine ⟨by rw [hs, List.length_cons] at hl; rw [List.length_map]; omega, fun W d j u hj => ?_, fun u hu => strs_one rr u hu⟩
  rw [addr_add]
  have hj2 : (ss.map Value.string)[1 + j]? = some u := by
    rw [hs, List.map_cons, Nat.add_comm 1 j, List.getElem?_cons_succ]; exact hj
  obtain ⟨b, o, e, hc⟩ := (h.step d).at hj2
  injection e with e
  injection e with e1 e2
  subst e1 e2
  rw [Nat.zero_add] at hc
  exact hc
set_option maxRecDepth 100000 in
set_option maxHeartbeats 4000000 in
theorem FnWhole_walk (w : World) (a : Option Addr) (c : Nat) (bs : List UInt8) (_ : bs.length ≤ maxLen) (hc : bs.length ≤ c) (hs : Sl w a (bs.map byteV)) :
    Calls Try.prog 4 #[.slice a bs.length c] w fun e w' => e = .returned (.bool true) ∧ Below w.heap.size w w' := by
  by_cases hb : 1048576 < bs.length
  · go_enter Try.func4, Try.ntmps4
    go_wp2
    go_ret
    exact ⟨rfl, Below.refl _ _⟩
  have H := Lib.hid (drawPlanWhole_any a c bs (by omega) hc w hs)
  clear hs
  go_enter Try.func4, Try.ntmps4
  go_wp2_with fail
  refine H.out.mono ?_
  rintro e w1 ⟨⟨gp, cp, g, cap, ss, ms, p, q, r, rfl, -, -, h1, h2, h3, h4, h5, h6, h7, h8, h9, s1, s2⟩, hd⟩
  clear H
  have X := (Box.new w1 #[.slice (some ⟨gp, 0, none⟩) ss.length cp, .slice (some ⟨g, 0, none⟩) ms.length cap, .int .i64 p, .int .i64 q, .int .i64 r] 26).up hd
  have kk : Below w1.heap.size w1 (w1.alloc (.cells #[.slice (some ⟨gp, 0, none⟩) ss.length cp, .slice (some ⟨g, 0, none⟩) ms.length cap, .int .i64 p, .int .i64 q, .int .i64 r] 26)) := (Below.refl _ _).alloc (Nat.le_refl _) _
  have HX := Lib.hid X
  have HS := Lib.hid (And.intro (s1.step kk) (s2.step kk))
  have HZ := Lib.hid h9
  obtain ⟨x0, x1, x2, x3, x4⟩ := X.cells5
  have CI := Lib.hid (fun W (d : Below w1.heap.size w1 W) => implPlanWhole_any (some ⟨gp, 0, none⟩) (some ⟨g, 0, none⟩) cp ms.length cap p q r ss (by omega) h5 h6 (fun s hs => by have := h9 s hs; omega) W (s1.step d))
  have CS := Lib.hid (fun W (d : Below w1.heap.size w1 W) => specPlanWhole_any (some ⟨gp, 0, none⟩) (some ⟨g, 0, none⟩) cp ms.length cap p q r ss (by omega) (fun s hs => by have := h9 s hs; omega) W (s1.step d))
  have CD := Lib.hid (fun W (d : Below w1.heap.size w1 W) => implPlanDepth_any (some ⟨gp, 0, none⟩) (some ⟨g, 0, none⟩) cp ms.length cap p q r ss (by omega) (fun s hs => by have := h9 s hs; omega) W (s1.step d))
  have HK1 := Lib.hid kk
  clear hd X s1 s2 h9 kk
  obtain ⟨n, hn⟩ : ∃ n, ss.length = n := ⟨_, rfl⟩
  obtain ⟨ml, hml⟩ : ∃ ml, ms.length = ml := ⟨_, rfl⟩
  have HN := Lib.hid hn
  have HM := Lib.hid hml
  rw [hn] at x0 CI CS CD HX HS HK1 h1 h3 h5 ⊢
  rw [hml] at x1 CI CS CD HX HS HK1 h2 h4 h7 ⊢
  clear hn hml
  go_wp2_with fail
  refine (CI.out _ HK1.out).mono ?_
  rintro e w2 ⟨rfl, hd2⟩
  have HX2 := Lib.hid (HX.out.step hd2)
  have HS2 := Lib.hid (And.intro (HS.out.1.step hd2) (HS.out.2.step hd2))
  have HK2 := Lib.hid (HK1.out.trans (hd2.mono HK1.out.size))
  clear hd2 HX HS CI HK1 x0 x1 x2 x3 x4
  generalize hpb : w1.heap.size = pb at HX2 ⊢
  obtain ⟨x0, x1, x2, x3, x4⟩ := HX2.out.cells5
  go_wp2_with fail
  refine (CS.out _ HK2.out).mono ?_
  rintro e w3 ⟨rfl, hd3⟩
  have HX3 := Lib.hid (HX2.out.step hd3)
  have HS3 := Lib.hid (And.intro (HS2.out.1.step hd3) (HS2.out.2.step hd3))
  have HK3 := Lib.hid (HK2.out.trans (hd3.mono HK2.out.size))
  clear hd3 HX2 HS2 CS HK2 x0 x1 x2 x3 x4
  obtain ⟨x0, x1, x2, x3, x4⟩ := HX3.out.cells5
  cases hpw : planWhole ss ml with
  | false =>
    have HB := Lib.hid HX3.out.old
    clear hpw
    go_wp2
    go_ret
    exact ⟨rfl, HB.out⟩
  | true =>
    obtain ⟨d, hpd⟩ := planWhole_depth hpw
    have HW := Lib.hid (And.intro hpw hpd)
    have CD3 := CD.out _ HK3.out
    rw [hpd] at CD3
    replace CD3 := Lib.hid CD3
    clear hpw hpd CD
    go_wp2_with fail
    refine CD3.out.mono ?_
    rintro e w4 ⟨rfl, hd4⟩
    have HX4 := Lib.hid (HX3.out.step hd4)
    have HS4 := Lib.hid (And.intro (HS3.out.1.step hd4) (HS3.out.2.step hd4))
    clear hd4 HX3 HS3 CD3 HK3 x0 x1 x2 x3 x4 hpb
    obtain ⟨x0, x1, x2, x3, x4⟩ := HX4.out.cells5
    by_cases h10 : 9 < d
    · have e1 : decide ((9 : Int) < d) = true := decide_eq_true (by omega)
      have HB := Lib.hid HX4.out.old
      go_wp2
      go_ret
      exact ⟨rfl, HB.out⟩
    · have e1 : ¬ (9 : Int) < d := by omega
      have hd9 : d ≤ 9 := by omega
      obtain ⟨s, rr, hss⟩ : ∃ s rr, ss = s :: rr := by
        cases ss with
        | nil => have := HN.out; simp at this; omega
        | cons s rr => exact ⟨s, rr, rfl⟩
      have HSS := Lib.hid hss
      have hsz : s.size ≤ 100 := HZ.out s (by rw [hss]; exact List.mem_cons_self ..)
      have hcell : w4.cell? ⟨gp, 0, none⟩ = some (.string s) := by
        obtain ⟨gb, go', hg, hcl⟩ := HS4.out.1.at (show (ss.map Value.string)[0]? = some (.string s) by rw [hss]; rfl)
        injection hg with hg
        injection hg with hg1 hg2
        subst hg1 hg2
        exact hcl
      have A0 := fun W : World => run_string_add_sum (P := Try.prog) W s ⟨#[48]⟩ (by show s.size + 1 ≤ _; omega)
      have A1 := fun W : World => run_string_add_sum (P := Try.prog) W s ⟨#[49]⟩ (by show s.size + 1 ≤ _; omega)
      have A2 := fun W : World => run_string_add_sum (P := Try.prog) W s ⟨#[50]⟩ (by show s.size + 1 ≤ _; omega)
      have A3 := fun W : World => run_string_add_sum (P := Try.prog) W s ⟨#[51]⟩ (by show s.size + 1 ≤ _; omega)
      have HC4 : Hid (cut4 s = [s ++ ⟨#[48]⟩, s ++ ⟨#[49]⟩, s ++ ⟨#[50]⟩, s ++ ⟨#[51]⟩]) := rfl
      have HSZ := Lib.hid hsz
      generalize s ++ ⟨#[48]⟩ = t0 at *
      generalize s ++ ⟨#[49]⟩ = t1 at *
      generalize s ++ ⟨#[50]⟩ = t2 at *
      generalize s ++ ⟨#[51]⟩ = t3 at *
      obtain ⟨iI, hiI, hzI0, hzI1, hzI2⟩ := info_parts infoI
      obtain ⟨iS, hiS, hzS0, hzS1, hzS2⟩ := info_parts infoS
      have i1 : (1 : Int) ≤ n := by omega
      have i2 : (1 : Int) ≤ ml := by omega
      have i3 : (n : Int) ≤ cp := by omega
      have i4 : (ml : Int) ≤ cap := by omega
      have hpl := HX4.out.lt
      have HT9 : Hid (∀ u, u ∈ cut4 s → u.size ≤ 101) := fun u hu => by
        have h0 := HSZ.out
        unfold cut4 at hu
        simp only [List.mem_cons, List.not_mem_nil, or_false] at hu
        rcases hu with rfl | rfl | rfl | rfl <;> (rw [ByteArray.size_append]; show s.size + 1 ≤ _; omega)
      clear h10 hsz hss
      go_upto_region 12 with fail
      by_cases hcz : cp = 1
      · obtain rfl : cp = 1 := hcz
        obtain rfl : n = 1 := by omega
        have HOL : Hid ((w4.alloc (.cells #[.string t0, .string t1, .string t2, .string t3] 9)).ownsRow w4.heap.size 9 1 (.slice (some ⟨w4.heap.size, 0, none⟩) 4 4) 4 [.string t0, .string t1, .string t2, .string t3]) := (World.ownsRow_lit (e := 9) (size := 1) (base := w4.heap.size) w4 #[.string t0, .string t1, .string t2, .string t3] 4 (Nat.le_refl _) (by decide) rfl)
        have HB3 : Hid ((rr.map Value.string).length = 0 * 1 ∧ (∀ W, Below w4.heap.size w4 W → ∀ j u, (rr.map Value.string)[j]? = some u → W.cell? ((⟨gp, 0, none⟩ : Addr).add j) = some u) ∧ ∀ u ∈ rr.map Value.string, u.oneCell' = true) := dr_endS HSS.out HN.out
        go_upto_region 13 with (at_builtin; refine wpList_append_own' _ rfl _ _ _ rfl w4.heap.size 9 iS _ 1 16 Try.underlying23 hiS hzS0 hzS1 hzS2 rfl (by omega) _ 4 [.string t0, .string t1, .string t2, .string t3] rfl HOL.out ⟨gp, 0, none⟩ (0) _ (rr.map Value.string) rfl HB3.out.1 (HB3.out.2.1 _ ((Below.refl _ _).alloc (Nat.le_refl _) _)) HB3.out.2.2 (by unfold maxLen; omega) (by omega) (by simp) ?_; intro v6 w6 hown6 hgrow6; have B6 := Lib.hid (((Below.refl w4.heap.size w4).alloc (Nat.le_refl _) (.cells #[.string t0, .string t1, .string t2, .string t3] 9)).grown hgrow6 (by simp) (fun j hj => (HOL.out.lt j hj).1)); have O6 := Lib.hid hown6; clear hown6 hgrow6)
        have HI6 := Lib.hid (HS4.out.2.step B6.out)
        have X6 := HX4.out.step B6.out
        obtain ⟨y0, y1, y2, y3, y4⟩ := X6.cells5
        have hpl6 := X6.lt
        clear X6 x0 x1 x2 x3 x4 hpl HB3 hcell
        by_cases hcw : cap = 1
        · obtain rfl : cap = 1 := hcw
          obtain rfl : ml = 1 := by omega
          have HOI : Hid ((w6.alloc (.cells #[.int .i64 0, .int .i64 0, .int .i64 0, .int .i64 0] 3)).ownsRow w6.heap.size 3 1 (.slice (some ⟨w6.heap.size, 0, none⟩) 4 4) 4 ([0, 0, 0, 0].map intV)) := (World.ownsRow_lit (e := 3) (size := 1) (base := w6.heap.size) w6 #[.int .i64 0, .int .i64 0, .int .i64 0, .int .i64 0] 4 (Nat.le_refl _) (by decide) rfl)
          have HB4 : Hid (((ms.drop 1).map intV).length = 0 * 1 ∧ (∀ W, Below w6.heap.size w6 W → ∀ j u, ((ms.drop 1).map intV)[j]? = some u → W.cell? ((⟨g, 0, none⟩ : Addr).add j) = some u) ∧ ∀ u ∈ (ms.drop 1).map intV, u.oneCell' = true) := dr_end (by rw [List.length_map, HM.out])
          go_upto_region 14 with (at_builtin; refine wpList_append_own' _ rfl _ _ _ rfl w6.heap.size 3 iI _ 1 8 Try.underlying24 hiI hzI0 hzI1 hzI2 rfl (by omega) _ 4 ([0, 0, 0, 0].map intV) rfl HOI.out ⟨g, 0, none⟩ (0) _ ((ms.drop 1).map intV) rfl HB4.out.1 (HB4.out.2.1 _ ((Below.refl _ _).alloc (Nat.le_refl _) _)) HB4.out.2.2 (by unfold maxLen; omega) (by omega) (by simp) ?_; intro v7 w7 hown7 hgrow7; have B7 := Lib.hid (((Below.refl w6.heap.size w6).alloc (Nat.le_refl _) (.cells #[.int .i64 0, .int .i64 0, .int .i64 0, .int .i64 0] 3)).grown hgrow7 (by simp) (fun j hj => (HOI.out.lt j hj).1)); have O7 := Lib.hid hown7; clear hown7 hgrow7)
          obtain ⟨g9, c9, hv9, -, -⟩ := ownsRow_form O6.out (by omega)
          obtain ⟨g8, c8, hv8, -, -⟩ := ownsRow_form O7.out (by omega)
          have hS9 := ownsRow_step O6.out B7.out
          subst hv9 hv8
          obtain ⟨-, k1, k2⟩ := own_lim (by omega) hS9
          have hl9 : (cut4 s ++ rr).length = 4 + 0 := by
            have := HN.out
            rw [HSS.out, List.length_cons] at this
            rw [List.length_append]
            show 4 + rr.length = _
            omega
          have hsl : Sl w7 (some ⟨g9, 0, none⟩) ((cut4 s ++ rr).map Value.string) := by
            have h0 := sl_of_own hS9
            rw [List.map_append, HC4.out]
            exact h0
          have hz9 : ∀ u, u ∈ cut4 s ++ rr → u.size ≤ 1048576 := fun u hu => by
            rcases List.mem_append.1 hu with hu | hu
            · have := HT9.out u hu; omega
            · have := HZ.out u (by rw [HSS.out]; exact List.mem_cons_of_mem _ hu); omega
          have CW := implPlanWhole_any (some ⟨g9, 0, none⟩) (some ⟨g8, 0, none⟩) c9 (4 + 0) c8 0 0 0 (cut4 s ++ rr) (by rw [hl9]; omega) (by rw [hl9]; exact k1) k2 hz9 w7 hsl
          have hwc := whole_cut HSS.out HW.out.1 HW.out.2 hd9
          rw [hl9] at CW
          rw [show 4 + 0 = 4 + (1 - 1) by omega, hwc] at CW
          rw [show 4 + (1 - 1) = 4 + 0 by omega] at CW
          replace CW := Lib.hid CW
          have HBB := Lib.hid ((HX4.out.step B6.out).step B7.out).old
          clear hwc hz9 hsl hS9 k1 k2
          go_wp2_with fail
          refine CW.out.mono ?_
          rintro e w8 ⟨rfl, hd8⟩
          have HBF := Lib.hid (HBB.out.trans (hd8.mono HBB.out.size))
          go_wp2
          go_ret
          exact ⟨rfl, HBF.out⟩
        · have HOI : Hid ((w6.alloc (.cells #[.int .i64 0, .int .i64 0, .int .i64 0, .int .i64 0] 3)).ownsRow w6.heap.size 3 1 (.slice (some ⟨w6.heap.size, 0, none⟩) 4 4) 4 ([0, 0, 0, 0].map intV)) := (World.ownsRow_lit (e := 3) (size := 1) (base := w6.heap.size) w6 #[.int .i64 0, .int .i64 0, .int .i64 0, .int .i64 0] 4 (Nat.le_refl _) (by decide) rfl)
          have HB4 : Hid (((ms.drop 1).map intV).length = (ml - 1) * 1 ∧ (∀ W, Below w6.heap.size w6 W → ∀ j u, ((ms.drop 1).map intV)[j]? = some u → W.cell? ((⟨g, 1, none⟩ : Addr).add j) = some u) ∧ ∀ u ∈ (ms.drop 1).map intV, u.oneCell' = true) := dr_tail HI6.out (by rw [List.length_map, HM.out])
          go_upto_region 14 with (at_builtin; refine wpList_append_own' _ rfl _ _ _ rfl w6.heap.size 3 iI _ 1 8 Try.underlying24 hiI hzI0 hzI1 hzI2 rfl (by omega) _ 4 ([0, 0, 0, 0].map intV) rfl HOI.out ⟨g, 1, none⟩ ((ml - 1)) _ ((ms.drop 1).map intV) rfl HB4.out.1 (HB4.out.2.1 _ ((Below.refl _ _).alloc (Nat.le_refl _) _)) HB4.out.2.2 (by unfold maxLen; omega) (by omega) (by simp) ?_; intro v7 w7 hown7 hgrow7; have B7 := Lib.hid (((Below.refl w6.heap.size w6).alloc (Nat.le_refl _) (.cells #[.int .i64 0, .int .i64 0, .int .i64 0, .int .i64 0] 3)).grown hgrow7 (by simp) (fun j hj => (HOI.out.lt j hj).1)); have O7 := Lib.hid hown7; clear hown7 hgrow7)
          obtain ⟨g9, c9, hv9, -, -⟩ := ownsRow_form O6.out (by omega)
          obtain ⟨g8, c8, hv8, -, -⟩ := ownsRow_form O7.out (by omega)
          have hS9 := ownsRow_step O6.out B7.out
          subst hv9 hv8
          obtain ⟨-, k1, k2⟩ := own_lim (by omega) hS9
          have hl9 : (cut4 s ++ rr).length = 4 + 0 := by
            have := HN.out
            rw [HSS.out, List.length_cons] at this
            rw [List.length_append]
            show 4 + rr.length = _
            omega
          have hsl : Sl w7 (some ⟨g9, 0, none⟩) ((cut4 s ++ rr).map Value.string) := by
            have h0 := sl_of_own hS9
            rw [List.map_append, HC4.out]
            exact h0
          have hz9 : ∀ u, u ∈ cut4 s ++ rr → u.size ≤ 1048576 := fun u hu => by
            rcases List.mem_append.1 hu with hu | hu
            · have := HT9.out u hu; omega
            · have := HZ.out u (by rw [HSS.out]; exact List.mem_cons_of_mem _ hu); omega
          have CW := implPlanWhole_any (some ⟨g9, 0, none⟩) (some ⟨g8, 0, none⟩) c9 (4 + (ml - 1)) c8 0 0 0 (cut4 s ++ rr) (by rw [hl9]; omega) (by rw [hl9]; exact k1) k2 hz9 w7 hsl
          have hwc := whole_cut HSS.out HW.out.1 HW.out.2 hd9
          rw [hl9] at CW
          rw [show 4 + (ml - 1) = 4 + (ml - 1) by omega, hwc] at CW
          rw [show 4 + (ml - 1) = 4 + (ml - 1) by omega] at CW
          replace CW := Lib.hid CW
          have HBB := Lib.hid ((HX4.out.step B6.out).step B7.out).old
          clear hwc hz9 hsl hS9 k1 k2
          go_wp2_with fail
          refine CW.out.mono ?_
          rintro e w8 ⟨rfl, hd8⟩
          have HBF := Lib.hid (HBB.out.trans (hd8.mono HBB.out.size))
          go_wp2
          go_ret
          exact ⟨rfl, HBF.out⟩
      · have HOL : Hid ((w4.alloc (.cells #[.string t0, .string t1, .string t2, .string t3] 9)).ownsRow w4.heap.size 9 1 (.slice (some ⟨w4.heap.size, 0, none⟩) 4 4) 4 [.string t0, .string t1, .string t2, .string t3]) := (World.ownsRow_lit (e := 9) (size := 1) (base := w4.heap.size) w4 #[.string t0, .string t1, .string t2, .string t3] 4 (Nat.le_refl _) (by decide) rfl)
        have HB3 : Hid ((rr.map Value.string).length = (n - 1) * 1 ∧ (∀ W, Below w4.heap.size w4 W → ∀ j u, (rr.map Value.string)[j]? = some u → W.cell? ((⟨gp, 1, none⟩ : Addr).add j) = some u) ∧ ∀ u ∈ rr.map Value.string, u.oneCell' = true) := dr_tailS HS4.out.1 HSS.out HN.out
        go_upto_region 13 with (at_builtin; refine wpList_append_own' _ rfl _ _ _ rfl w4.heap.size 9 iS _ 1 16 Try.underlying23 hiS hzS0 hzS1 hzS2 rfl (by omega) _ 4 [.string t0, .string t1, .string t2, .string t3] rfl HOL.out ⟨gp, 1, none⟩ ((n - 1)) _ (rr.map Value.string) rfl HB3.out.1 (HB3.out.2.1 _ ((Below.refl _ _).alloc (Nat.le_refl _) _)) HB3.out.2.2 (by unfold maxLen; omega) (by omega) (by simp) ?_; intro v6 w6 hown6 hgrow6; have B6 := Lib.hid (((Below.refl w4.heap.size w4).alloc (Nat.le_refl _) (.cells #[.string t0, .string t1, .string t2, .string t3] 9)).grown hgrow6 (by simp) (fun j hj => (HOL.out.lt j hj).1)); have O6 := Lib.hid hown6; clear hown6 hgrow6)
        have HI6 := Lib.hid (HS4.out.2.step B6.out)
        have X6 := HX4.out.step B6.out
        obtain ⟨y0, y1, y2, y3, y4⟩ := X6.cells5
        have hpl6 := X6.lt
        clear X6 x0 x1 x2 x3 x4 hpl HB3 hcell
        by_cases hcw : cap = 1
        · obtain rfl : cap = 1 := hcw
          obtain rfl : ml = 1 := by omega
          have HOI : Hid ((w6.alloc (.cells #[.int .i64 0, .int .i64 0, .int .i64 0, .int .i64 0] 3)).ownsRow w6.heap.size 3 1 (.slice (some ⟨w6.heap.size, 0, none⟩) 4 4) 4 ([0, 0, 0, 0].map intV)) := (World.ownsRow_lit (e := 3) (size := 1) (base := w6.heap.size) w6 #[.int .i64 0, .int .i64 0, .int .i64 0, .int .i64 0] 4 (Nat.le_refl _) (by decide) rfl)
          have HB4 : Hid (((ms.drop 1).map intV).length = 0 * 1 ∧ (∀ W, Below w6.heap.size w6 W → ∀ j u, ((ms.drop 1).map intV)[j]? = some u → W.cell? ((⟨g, 0, none⟩ : Addr).add j) = some u) ∧ ∀ u ∈ (ms.drop 1).map intV, u.oneCell' = true) := dr_end (by rw [List.length_map, HM.out])
          go_upto_region 14 with (at_builtin; refine wpList_append_own' _ rfl _ _ _ rfl w6.heap.size 3 iI _ 1 8 Try.underlying24 hiI hzI0 hzI1 hzI2 rfl (by omega) _ 4 ([0, 0, 0, 0].map intV) rfl HOI.out ⟨g, 0, none⟩ (0) _ ((ms.drop 1).map intV) rfl HB4.out.1 (HB4.out.2.1 _ ((Below.refl _ _).alloc (Nat.le_refl _) _)) HB4.out.2.2 (by unfold maxLen; omega) (by omega) (by simp) ?_; intro v7 w7 hown7 hgrow7; have B7 := Lib.hid (((Below.refl w6.heap.size w6).alloc (Nat.le_refl _) (.cells #[.int .i64 0, .int .i64 0, .int .i64 0, .int .i64 0] 3)).grown hgrow7 (by simp) (fun j hj => (HOI.out.lt j hj).1)); have O7 := Lib.hid hown7; clear hown7 hgrow7)
          obtain ⟨g9, c9, hv9, -, -⟩ := ownsRow_form O6.out (by omega)
          obtain ⟨g8, c8, hv8, -, -⟩ := ownsRow_form O7.out (by omega)
          have hS9 := ownsRow_step O6.out B7.out
          subst hv9 hv8
          obtain ⟨-, k1, k2⟩ := own_lim (by omega) hS9
          have hl9 : (cut4 s ++ rr).length = 4 + (n - 1) := by
            have := HN.out
            rw [HSS.out, List.length_cons] at this
            rw [List.length_append]
            show 4 + rr.length = _
            omega
          have hsl : Sl w7 (some ⟨g9, 0, none⟩) ((cut4 s ++ rr).map Value.string) := by
            have h0 := sl_of_own hS9
            rw [List.map_append, HC4.out]
            exact h0
          have hz9 : ∀ u, u ∈ cut4 s ++ rr → u.size ≤ 1048576 := fun u hu => by
            rcases List.mem_append.1 hu with hu | hu
            · have := HT9.out u hu; omega
            · have := HZ.out u (by rw [HSS.out]; exact List.mem_cons_of_mem _ hu); omega
          have CW := implPlanWhole_any (some ⟨g9, 0, none⟩) (some ⟨g8, 0, none⟩) c9 (4 + 0) c8 0 0 0 (cut4 s ++ rr) (by rw [hl9]; omega) (by rw [hl9]; exact k1) k2 hz9 w7 hsl
          have hwc := whole_cut HSS.out HW.out.1 HW.out.2 hd9
          rw [hl9] at CW
          rw [show 4 + 0 = 4 + (1 - 1) by omega, hwc] at CW
          rw [show 4 + (1 - 1) = 4 + 0 by omega] at CW
          replace CW := Lib.hid CW
          have HBB := Lib.hid ((HX4.out.step B6.out).step B7.out).old
          clear hwc hz9 hsl hS9 k1 k2
          go_wp2_with fail
          refine CW.out.mono ?_
          rintro e w8 ⟨rfl, hd8⟩
          have HBF := Lib.hid (HBB.out.trans (hd8.mono HBB.out.size))
          go_wp2
          go_ret
          exact ⟨rfl, HBF.out⟩
        · have HOI : Hid ((w6.alloc (.cells #[.int .i64 0, .int .i64 0, .int .i64 0, .int .i64 0] 3)).ownsRow w6.heap.size 3 1 (.slice (some ⟨w6.heap.size, 0, none⟩) 4 4) 4 ([0, 0, 0, 0].map intV)) := (World.ownsRow_lit (e := 3) (size := 1) (base := w6.heap.size) w6 #[.int .i64 0, .int .i64 0, .int .i64 0, .int .i64 0] 4 (Nat.le_refl _) (by decide) rfl)
          have HB4 : Hid (((ms.drop 1).map intV).length = (ml - 1) * 1 ∧ (∀ W, Below w6.heap.size w6 W → ∀ j u, ((ms.drop 1).map intV)[j]? = some u → W.cell? ((⟨g, 1, none⟩ : Addr).add j) = some u) ∧ ∀ u ∈ (ms.drop 1).map intV, u.oneCell' = true) := dr_tail HI6.out (by rw [List.length_map, HM.out])
          go_upto_region 14 with (at_builtin; refine wpList_append_own' _ rfl _ _ _ rfl w6.heap.size 3 iI _ 1 8 Try.underlying24 hiI hzI0 hzI1 hzI2 rfl (by omega) _ 4 ([0, 0, 0, 0].map intV) rfl HOI.out ⟨g, 1, none⟩ ((ml - 1)) _ ((ms.drop 1).map intV) rfl HB4.out.1 (HB4.out.2.1 _ ((Below.refl _ _).alloc (Nat.le_refl _) _)) HB4.out.2.2 (by unfold maxLen; omega) (by omega) (by simp) ?_; intro v7 w7 hown7 hgrow7; have B7 := Lib.hid (((Below.refl w6.heap.size w6).alloc (Nat.le_refl _) (.cells #[.int .i64 0, .int .i64 0, .int .i64 0, .int .i64 0] 3)).grown hgrow7 (by simp) (fun j hj => (HOI.out.lt j hj).1)); have O7 := Lib.hid hown7; clear hown7 hgrow7)
          obtain ⟨g9, c9, hv9, -, -⟩ := ownsRow_form O6.out (by omega)
          obtain ⟨g8, c8, hv8, -, -⟩ := ownsRow_form O7.out (by omega)
          have hS9 := ownsRow_step O6.out B7.out
          subst hv9 hv8
          obtain ⟨-, k1, k2⟩ := own_lim (by omega) hS9
          have hl9 : (cut4 s ++ rr).length = 4 + (n - 1) := by
            have := HN.out
            rw [HSS.out, List.length_cons] at this
            rw [List.length_append]
            show 4 + rr.length = _
            omega
          have hsl : Sl w7 (some ⟨g9, 0, none⟩) ((cut4 s ++ rr).map Value.string) := by
            have h0 := sl_of_own hS9
            rw [List.map_append, HC4.out]
            exact h0
          have hz9 : ∀ u, u ∈ cut4 s ++ rr → u.size ≤ 1048576 := fun u hu => by
            rcases List.mem_append.1 hu with hu | hu
            · have := HT9.out u hu; omega
            · have := HZ.out u (by rw [HSS.out]; exact List.mem_cons_of_mem _ hu); omega
          have CW := implPlanWhole_any (some ⟨g9, 0, none⟩) (some ⟨g8, 0, none⟩) c9 (4 + (ml - 1)) c8 0 0 0 (cut4 s ++ rr) (by rw [hl9]; omega) (by rw [hl9]; exact k1) k2 hz9 w7 hsl
          have hwc := whole_cut HSS.out HW.out.1 HW.out.2 hd9
          rw [hl9] at CW
          rw [show 4 + (ml - 1) = 4 + (ml - 1) by omega, hwc] at CW
          rw [show 4 + (ml - 1) = 4 + (ml - 1) by omega] at CW
          replace CW := Lib.hid CW
          have HBB := Lib.hid ((HX4.out.step B6.out).step B7.out).old
          clear hwc hz9 hsl hS9 k1 k2
          go_wp2_with fail
          refine CW.out.mono ?_
          rintro e w8 ⟨rfl, hd8⟩
          have HBF := Lib.hid (HBB.out.trans (hd8.mono HBB.out.size))
          go_wp2
          go_ret
          exact ⟨rfl, HBF.out⟩
set_option maxRecDepth 100000 in
theorem FnWhole_lifted (os : Os) (started : os.Started) (H : Type) (enc : TypeId × Value → H) :
    ReturnsInHanded {} Try.checked os 4 .any (Rows.fnWholeSpec.pre6 enc Try.prog Try.f4 Rows.fnWholeRow.domain false) (Rows.fnWholeSpec.post enc Try.prog Try.f4 false true false false) := by
  refine returnsInHanded_of_change (C := Try.checked) own started (by kernel_rfl) Try.func4
    (ChangeSpec.witness6 (enc := enc) (C := Try.checked) false ⟨#[], #[.slice none 0 0], []⟩ 8 (by kernel_rfl) (by kernel_rfl) (by kernel_rfl) (by kernel_rfl)) ?_
  intro W base args ds gs before hval0 hW _ _
  have hval : ∀ (j : Nat) t v, Try.f4.params[j]? = some t → args[j]? = some v → Value.okWide Try.prog W .any base t v := hval0
  have hW' := hW
  obtain ⟨p, q, hA0, hV, rfl, _, _⟩ := hW
  have hA : DataW.TrodAll enc Try.prog W 0 (fun _ => true) true Try.f4.params.toList args.toList ds p := hA0
  rw [Try.params4] at hA hval
  obtain ⟨v0, vs0, d0, ds0, p0, q0, hargs, rfl, rfl, h0, r0⟩ := trodAll_cons hA
  obtain ⟨rfl, rfl, rfl⟩ := trodAll_nil r0
  obtain rfl : args = #[v0] := by cases args; simp_all
  obtain ⟨rfl, rfl⟩ := trodVars_none hV
  obtain ⟨a0, c0, l0, rfl, n0, m0, s0⟩ := open_bytes Try.underlying22 Try.underlying5 (by kernel_rfl) (hval 0 22 v0 rfl rfl) h0
  clear hA0 hval0
  refine (FnWhole_walk W a0 c0 l0 n0 m0 s0).mono fun e W' ⟨he, hb⟩ => ⟨_, he, ?_⟩
  exact law_post laidOut (by kernel_rfl) (by kernel_rfl) rfl Try.underlying4 hW' rfl rfl rfl hb

theorem FnWhole_holds : Rows.FnWholeSaid :=
  OpenClaim.holds_of_wide 4 Try.f4 rfl rfl rfl rfl rfl rfl rfl ⟨rfl, rfl, rfl, rfl, rfl⟩ rfl rfl rfl rfl rfl (by kernel_rfl) Try.func4 (by kernel_rfl)
    (of_decide_eq_true (by kernel_rfl)) (by unfold Func.isWrapper; first | (rw [if_pos (by decide +kernel)]; kernel_rfl) | (rw [if_neg (by decide +kernel)]; exact ⟨rfl, rfl⟩))
    (fun os started H enc _ => FnWhole_lifted os started H enc)
end Go.Proofs.Ytalmhbcmagjheaa
