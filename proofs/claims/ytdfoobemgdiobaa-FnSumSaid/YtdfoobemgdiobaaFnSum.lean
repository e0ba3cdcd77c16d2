/- FnSum: checksums see each bit. No condition. -/
import Derived.Test.YtdfoobemgdiobaaTilH
import Derived.Test.YtdfoobemgdiobaaTilS
import Derived.Test.YtdfoobemgdiobaaLawT
import Derived.Test.YtdfoobemgdiobaaLaw
import Derived.Deep.RegionWith
import Derived.Deep.AppendLies
namespace Go.Proofs.Ytdfoobemgdiobaa
open Go.ChangeShapes Go.WideShapes Go.ChangeAt Go.RowKit
attribute [local go_sem] run_store_float run_store_complex

theorem cons_of {α : Type} {xs : List α} (h : 0 < xs.length) : ∃ x l, xs = x :: l := by
  cases xs with
  | nil => simp at h
  | cons x l => exact ⟨x, l, rfl⟩
theorem sl_cells {w : World} {a : Option Addr} {xs : List Value} (h : Sl w a xs) (hne : xs ≠ []) : ∃ b o, a = some ⟨b, o, none⟩ ∧ ∀ j u, xs[j]? = some u → w.cell? (Addr.add ⟨b, o, none⟩ j) = some u := by
  rcases h with h | ⟨b, o, ha, h⟩
  · exact absurd h hne
  · exact ⟨b, o, ha, fun j u hu => by rw [Addr.add_lit]; exact h j u hu⟩
/-- all that the law asks of the changed rows -/
theorem sum_facts {size : Int} {xs : List Nat} {ys : List Int} (hx : ∀ x, x ∈ xs → x < 4294967296) (hw : wellB size xs.length ys = true) (hn : 0 < xs.length) :
    ∃ (x0 nz : Nat) (y0 y1 : Int) (xs1 : List Nat) (ys1 : List Int), Hid ((ys.map intV)[0]? = some (intV y0)) ∧ Hid ((xs.map floV)[0]? = some (floV x0)) ∧ Hid (nz = Op.negFloat .f32 x0) ∧ -1 ≤ y0 ∧ y0 ≤ 1 ∧ Hid ((y0 + 2) % 3 - 1 = y1) ∧
      Hid ((ys.map intV).set 0 (intV y1) = ys1.map intV) ∧ Hid ((xs.map floV).set 0 (floV nz) = xs1.map floV) ∧ Hid (ys1.length = ys.length) ∧ Hid (xs1.length = xs.length) ∧
      Hid (wellB size xs.length ys1 = true) ∧ Hid (∀ x, x ∈ xs1 → x < 4294967296) ∧ Hid (sum0 xs ys1 ≠ sum0 xs ys) ∧ Hid (sum0 xs1 ys ≠ sum0 xs ys) := by
  obtain ⟨g1, g2, g3⟩ := wellB_all hw
  obtain ⟨x0, xs', rfl⟩ := cons_of hn
  obtain ⟨y0, ys', rfl⟩ := cons_of (show 0 < ys.length by omega)
  have hy0 := g3 y0 (by simp)
  have hx0 := hx x0 (by simp)
  have hyt : ∀ z, z ∈ ys' → -1 ≤ z ∧ z ≤ 1 := fun z hz => g3 z (List.mem_cons_of_mem _ hz)
  have hnz : Op.negFloat .f32 x0 < 4294967296 := Flo.neg_lt .f32 x0 hx0
  refine ⟨x0, Op.negFloat .f32 x0, y0, (y0 + 2) % 3 - 1, Op.negFloat .f32 x0 :: xs', ((y0 + 2) % 3 - 1) :: ys', rfl, rfl, rfl, hy0.1, hy0.2, rfl, rfl, rfl, rfl, rfl, ?_, ?_, ?_, ?_⟩
  · show wellB _ _ _ = true
    refine wellB_ok g1 (by simpa using g2) (fun j hj => ?_)
    have : ∀ z, z ∈ ((y0 + 2) % 3 - 1) :: ys' → -1 ≤ z ∧ z ≤ 1 := fun z hz => by
      rcases List.mem_cons.1 hz with rfl | hz
      · omega
      · exact hyt z hz
    have := this _ (List.getElem_mem hj)
    unfold markB inB
    simp
    omega
  · intro z hz
    rcases List.mem_cons.1 hz with rfl | hz
    · exact hnz
    · exact hx z (List.mem_cons_of_mem _ hz)
  · exact sum_mark (fun z hz => hx z hz) (fun z hz => by have := hyt z hz; omega) (by omega) (by omega) (by omega)
  · exact sum_smooth (fun z hz => hx z (List.mem_cons_of_mem _ hz)) (fun z hz => by have := hyt z hz; omega) (by omega) hnz hx0 (Flo.neg_ne .f32 x0)
set_option maxRecDepth 100000 in
set_option maxHeartbeats 4000000 in
theorem FnSum_walk (w : World) (a : Option Addr) (c : Nat) (bs : List UInt8) (_ : bs.length ≤ maxLen) (hc : bs.length ≤ c) (hs : Sl w a (bs.map byteV)) :
    Calls Try.prog 8 #[.slice a bs.length c] w fun e w' => e = .returned (.bool true) ∧ Below w.heap.size w w' := by
  by_cases hb : 1048576 < bs.length
  · go_enter Try.func8, Try.ntmps8
    go_wp2
    go_ret
    exact ⟨rfl, Below.refl _ _⟩
  have H := Lib.hid (drawTileSum_any a c bs (by omega) hc w hs)
  clear hs
  go_enter Try.func8, Try.ntmps8
  go_wp2_with fail
  refine H.out.mono ?_
  rintro e w1 ⟨⟨a1, c1, a2, c2, cx, cy, deep, size, xs, ys, rfl, T⟩, hd⟩
  have R := (Box.new w1 #[.complex .f32 cx cy, .int .i64 deep, .int .i64 size, .slice a1 xs.length c1, .slice a2 ys.length c2] 35).up hd
  replace T := T.step ((Below.refl _ _).alloc (Nat.le_refl _) (.cells #[.complex .f32 cx cy, .int .i64 deep, .int .i64 size, .slice a1 xs.length c1, .slice a2 ys.length c2] 35))
  have hlim := T.lim
  obtain ⟨-, -, -, -, l0, l1, l2, -⟩ := hlim
  obtain ⟨r0, r1, r2, r3, r4⟩ := R.cells5
  have hwb := R.lt
  clear H hd
  cases hw : wellB size xs.length ys with
  | false =>
    have HW := Lib.hid hw
    clear hw
    go_wp2_with fail
    refine (implSum_bad cx cy deep size T.bx T.by1 T.pl a1 a2 xs.length c1 c2 ys (by omega) _ T.s2 HW.out).mono ?_
    rintro e w2 ⟨rfl, hd⟩
    replace R := R.step hd
    replace T := T.step hd
    obtain ⟨r0, r1, r2, r3, r4⟩ := R.cells5
    clear hd
    go_wp2_with fail
    refine (specSum_bad cx cy deep size T.bx T.by1 T.pl a1 a2 xs.length c1 c2 ys (by omega) _ T.s2 HW.out).mono ?_
    rintro e w3 ⟨rfl, hd⟩
    replace R := R.step hd
    have HB := Lib.hid R.old
    clear hd R T
    go_wp2
    go_ret
    exact ⟨rfl, HB.out⟩
  | true =>
    have HW := Lib.hid hw
    clear hw
    go_wp2_with fail
    refine (implSum_good cx cy deep size T.bx T.by1 T.pl a1 a2 c1 c2 xs ys (by omega) T.hx _ T.s1 T.s2 HW.out).mono ?_
    rintro e w2 ⟨rfl, hd⟩
    replace R := R.step hd
    replace T := T.step hd
    obtain ⟨r0, r1, r2, r3, r4⟩ := R.cells5
    clear hd
    go_wp2_with fail
    refine (specSum_good cx cy deep size T.bx T.by1 T.pl a1 a2 c1 c2 xs ys (by omega) T.hx _ T.s1 T.s2 HW.out).mono ?_
    rintro e w3 ⟨rfl, hd⟩
    replace R := R.step hd
    replace T := T.step hd
    obtain ⟨g1, g2, g3⟩ := wellB_all HW.out
    obtain ⟨x0, nz, y0, y1, xs1, ys1, F1, F2, F3, f4, f5, F6, F7, F8, F9, F10, F11, F12, F13, F14⟩ := sum_facts T.hx HW.out (by omega)
    obtain ⟨m, hm⟩ : ∃ m, xs.length = m := ⟨_, rfl⟩
    have hm2 : ys.length = m := by omega
    obtain ⟨ab, ao, hab, hac⟩ := sl_cells T.s2 (by intro h; have := congrArg List.length h; simp at this; simp [this] at l0)
    obtain ⟨fb, fo, hfb, hfc⟩ := sl_cells T.s1 (by intro h; have := congrArg List.length h; simp at this; simp [this] at hm; omega)
    subst hab hfb
    obtain ⟨iF, hiF, hzF0, hzF1, hzF2⟩ := info_parts infoF
    obtain ⟨iI, hiI, hzI0, hzI1, hzI2⟩ := info_parts infoI
    have HT := Lib.hid T
    have HR := Lib.hid R
    have HZ1 := Lib.hid hm
    have HZ2 := Lib.hid hm2
    have HAC := Lib.hid hac
    have HFC := Lib.hid hfc
    have hm0 : 0 < m := by omega
    have hm64 : m ≤ 64 := by omega
    obtain ⟨r0, r1, r2, r3, r4⟩ := R.cells5
    have hlt3 := R.lt
    rw [hm] at r3
    rw [hm2] at r4
    clear T R hd hm hm2 hac hfc g1 g2 g3 l0 l1 l2
    generalize hS0 : sum0 xs ys = S0 at *
    have HS0 := Lib.hid hS0
    clear hS0
    have hlz : (ys.map intV).length = m * 1 := by rw [List.length_map, HZ2.out, Nat.mul_one]
    have hlf : (xs.map floV).length = m * 1 := by rw [List.length_map, HZ1.out, Nat.mul_one]
    have HLZ := Lib.hid hlz
    have HLF := Lib.hid hlf
    clear hlz hlf
    have e6 := F6.out
    go_wp2_with (at_builtin; refine wpList_append_lies _ rfl _ _ _ rfl w3.heap.size 3 iI _ 1 8 Try.underlying24 hiI hzI0 hzI1 hzI2 rfl (by omega) _ 0 [] rfl (World.ownsRow_lit (e := 3) (size := 1) (base := w3.heap.size) w3 #[] 0 (Nat.le_refl _) (by decide) rfl) ⟨ab, ao, none⟩ m c2 (ys.map intV) rfl HLZ.out (fun j u hu => (((Below.refl w3.heap.size w3).alloc (Nat.le_refl _) (.cells #[] 3)).cell (p := Addr.add ⟨ab, ao, none⟩ j) (by have := World.block_lt_of_cell? w3 _ (HAC.out j u hu); exact this)).trans (HAC.out j u hu)) (by intro u hu; obtain ⟨y, -, rfl⟩ := List.mem_map.1 hu; rfl) (by omega) (by unfold maxLen; omega) (by omega) (by simp) (w3.heap.size + 1) (by simp) ?_; intro g4 c4 w4 hown hgrow _ _; rw [Nat.zero_add, List.nil_append] at hown; have HB4 := Lib.hid (((Below.refl w3.heap.size w3).alloc (Nat.le_refl _) (.cells #[] 3)).grown hgrow (by simp) (fun k hk => by have hk' : some w3.heap.size = some k := hk; injection hk' with hk'; omega)); have hg4 := own_ge hown; have k0 : w4.cell? ⟨g4, 0, none⟩ = some (.int .i64 y0) := (hown.cellAt 0 (by omega)).trans F1.out; have f0 := hown.frozenAt 0; have HO := Lib.hid (hown.stored 0 (intV y1)).1; have HB5 := Lib.hid (HB4.out.setCell (p := ⟨g4, 0, none⟩) hg4 (.int .i64 y1)); obtain ⟨s0, s1, s2, s3, s4⟩ := (HR.out.step HB4.out).cells5; obtain ⟨t0, t1, t2, t3, t4⟩ := (HR.out.step HB5.out).cells5; rw [HZ1.out] at s3 t3; rw [HZ2.out] at s4 t4; clear hown hgrow)
    have HI : Hid (Calls Try.prog 22 #[.agg #[.complex .f32 cx cy, .int .i64 deep, .int .i64 size, .slice (some ⟨fb, fo, none⟩) m c1, .slice (some ⟨g4, 0, none⟩) m c4]] (w4.setCell ⟨g4, 0, none⟩ (.int .i64 y1)) fun e w' => e = .returned (.tuple #[.int .u32 (sum0 xs ys1), .bool true]) ∧ Below (w4.setCell ⟨g4, 0, none⟩ (.int .i64 y1)).heap.size (w4.setCell ⟨g4, 0, none⟩ (.int .i64 y1)) w') := by
      have T5 := HT.out.step HB5.out
      have hl1 : ys1.length = m := by rw [F9.out]; exact HZ2.out
      have S5 := sl_of_own HO.out
      rw [F7.out] at S5
      have := implSum_good cx cy deep size T5.bx T5.by1 T5.pl (some ⟨fb, fo, none⟩) (some ⟨g4, 0, none⟩) c1 c4 xs ys1 (by omega) T5.hx _ T5.s1 S5 F11.out
      rw [hl1, HZ1.out] at this
      exact this
    clear s0 s1 s2 s3 s4 k0 f0 HO HB4
    go_wp2_with fail
    refine HI.out.mono ?_
    rintro e w6 ⟨rfl, hd⟩
    have HB6 := Lib.hid (HB5.out.trans (hd.mono HB5.out.size))
    obtain ⟨s0, s1, s2, s3, s4⟩ := (HR.out.step HB6.out).cells5
    rw [HZ1.out] at s3
    rw [HZ2.out] at s4
    have hlt6 := (HR.out.step HB6.out).lt
    have HAF : Hid (∀ j u, (xs.map floV)[j]? = some u → w6.cell? (Addr.add ⟨fb, fo, none⟩ j) = some u) := fun j u hu => by
      have h1 := HFC.out j u hu
      exact (HB6.out.cell (p := Addr.add ⟨fb, fo, none⟩ j) (World.block_lt_of_cell? w3 _ h1)).trans h1
    have hneg : ∀ w, (Op.unary .neg (.float .f32 x0)).run Try.prog w = .ok (.float .f32 nz) w := fun w => by rw [F3.out]; exact Flo.run_neg .f32 x0 w
    obtain ⟨S1, hS1⟩ : ∃ S1, sum0 xs ys1 = S1 := ⟨_, rfl⟩
    have HS1 := Lib.hid hS1
    rw [hS1]
    clear hd HI t0 t1 t2 t3 t4 HB5 hS1 e6 hg4
    go_wp2_with (at_builtin; refine wpList_append_lies _ rfl _ _ _ rfl w6.heap.size 44 iF _ 1 4 Try.underlying33 hiF hzF0 hzF1 hzF2 rfl (by omega) _ 0 [] rfl (World.ownsRow_lit (e := 44) (size := 1) (base := w6.heap.size) w6 #[] 0 (Nat.le_refl _) (by decide) rfl) ⟨fb, fo, none⟩ m c1 (xs.map floV) rfl HLF.out (fun j u hu => (((Below.refl w6.heap.size w6).alloc (Nat.le_refl _) (.cells #[] 44)).cell (p := Addr.add ⟨fb, fo, none⟩ j) (by have := World.block_lt_of_cell? w6 _ (HAF.out j u hu); exact this)).trans (HAF.out j u hu)) (by intro u hu; obtain ⟨y, -, rfl⟩ := List.mem_map.1 hu; rfl) (by omega) (by unfold maxLen; omega) (by omega) (by simp) (w6.heap.size + 1) (by simp) ?_; intro g7 c7 w7 hown hgrow _ _; rw [Nat.zero_add, List.nil_append] at hown; have HB7 := Lib.hid (((Below.refl w6.heap.size w6).alloc (Nat.le_refl _) (.cells #[] 44)).grown hgrow (by simp) (fun k hk => by have hk' : some w6.heap.size = some k := hk; injection hk' with hk'; omega)); have hg7 := own_ge hown; have k0 : w7.cell? ⟨g7, 0, none⟩ = some (.float .f32 x0) := (hown.cellAt 0 (by omega)).trans F2.out; have f0 := hown.frozenAt 0; have HO := Lib.hid (hown.stored 0 (floV nz)).1; have HB8 := Lib.hid (HB7.out.setCell (p := ⟨g7, 0, none⟩) hg7 (.float .f32 nz)); have HB9 := Lib.hid (HB6.out.trans (HB8.out.mono HB6.out.size)); obtain ⟨u0, u1, u2, u3, u4⟩ := (HR.out.step (HB6.out.trans (HB7.out.mono HB6.out.size))).cells5; obtain ⟨t0, t1, t2, t3, t4⟩ := (HR.out.step HB9.out).cells5; rw [HZ1.out] at u3 t3; rw [HZ2.out] at u4 t4; clear hown hgrow)
    have HI : Hid (Calls Try.prog 22 #[.agg #[.complex .f32 cx cy, .int .i64 deep, .int .i64 size, .slice (some ⟨g7, 0, none⟩) m c7, .slice (some ⟨ab, ao, none⟩) m c2]] (w7.setCell ⟨g7, 0, none⟩ (.float .f32 nz)) fun e w' => e = .returned (.tuple #[.int .u32 (sum0 xs1 ys), .bool true]) ∧ Below (w7.setCell ⟨g7, 0, none⟩ (.float .f32 nz)).heap.size (w7.setCell ⟨g7, 0, none⟩ (.float .f32 nz)) w') := by
      have T5 := HT.out.step HB9.out
      have hl1 : xs1.length = m := by rw [F10.out]; exact HZ1.out
      have S5 := sl_of_own HO.out
      rw [F8.out] at S5
      have hw1 : wellB size xs1.length ys = true := by rw [F10.out]; exact HW.out
      have := implSum_good cx cy deep size T5.bx T5.by1 T5.pl (some ⟨g7, 0, none⟩) (some ⟨ab, ao, none⟩) c7 c2 xs1 ys (by have := HZ2.out; omega) F12.out _ S5 T5.s2 hw1
      rw [hl1, HZ2.out] at this
      exact this
    have HK : Hid ((w7.setCell ⟨g7, 0, none⟩ (.float .f32 nz)).cell? ⟨g7, 0, none⟩ = some (.float .f32 nz)) := by
      have h1 := (HO.out.cellAt 0 (by omega))
      rw [F8.out] at h1
      refine h1.trans ?_
      rw [← F8.out, List.getElem?_set_self (by rw [List.length_map, HZ1.out]; exact hm0)]
      rfl
    have hlt9 : g7 < (w7.setCell ⟨g7, 0, none⟩ (.float .f32 nz)).heap.size := World.block_lt_of_cell? _ _ HK.out
    clear u0 u1 u2 u3 u4 k0 f0 HO HB7 s0 s1 s2 s3 s4 hneg
    go_wp2_with fail
    refine HI.out.mono ?_
    rintro e w8 ⟨rfl, hd⟩
    have k0 : w8.cell? ⟨g7, 0, none⟩ = some (.float .f32 nz) := (hd.cell (p := ⟨g7, 0, none⟩) hlt9).trans HK.out
    have HD := Lib.hid ((HR.out.step (HB9.out.trans (hd.mono HB9.out.size))).old)
    obtain ⟨S2, hS2⟩ : ∃ S2, sum0 xs1 ys = S2 := ⟨_, rfl⟩
    have b1 : ((S1 : Int) != S0) = true := by
      have := F13.out
      rw [HS1.out] at this
      simp; omega
    have b2 : ((S2 : Int) != S0) = true := by
      have := F14.out
      rw [hS2] at this
      simp; omega
    rw [hS2]
    clear hd HI HK HB8 HB9 hS2 t0 t1 t2 t3 t4
    cases hn : (FloatKind.f32.format.order nz nz != some .eq) with
    | true =>
      go_upto_region 14 with fail
      go_quiet (fail)
      go_wp2
      go_ret
      exact ⟨rfl, below_drewN HD.out _⟩
    | false =>
      go_upto_region 14 with fail
      go_quiet (fail)
      go_wp2
      go_ret
      exact ⟨rfl, below_drewN HD.out _⟩
set_option maxRecDepth 100000 in
theorem FnSum_lifted (os : Os) (started : os.Started) (H : Type) (enc : TypeId × Value → H) :
    ReturnsInHanded {} Try.checked os 8 .any (Rows.fnSumSpec.pre6 enc Try.prog Try.f8 Rows.fnSumRow.domain false) (Rows.fnSumSpec.post enc Try.prog Try.f8 false true false false) := by
  refine returnsInHanded_of_change (C := Try.checked) own started (by kernel_rfl) Try.func8
    (ChangeSpec.witness6 (enc := enc) (C := Try.checked) false ⟨#[], #[.slice none 0 0], []⟩ 8 (by kernel_rfl) (by kernel_rfl) (by kernel_rfl) (by kernel_rfl)) ?_
  intro W base args ds gs before hval0 hW _ _
  have hval : ∀ (j : Nat) t v, Try.f8.params[j]? = some t → args[j]? = some v → Value.okWide Try.prog W .any base t v := hval0
  have hW' := hW
  obtain ⟨p, q, hA0, hV, rfl, _, _⟩ := hW
  have hA : DataW.TrodAll enc Try.prog W 0 (fun _ => true) true Try.f8.params.toList args.toList ds p := hA0
  rw [Try.params8] at hA hval
  obtain ⟨v0, vs0, d0, ds0, p0, q0, hargs, rfl, rfl, h0, r0⟩ := trodAll_cons hA
  obtain ⟨rfl, rfl, rfl⟩ := trodAll_nil r0
  obtain rfl : args = #[v0] := by cases args; simp_all
  obtain ⟨rfl, rfl⟩ := trodVars_none hV
  obtain ⟨a0, c0, l0, rfl, n0, m0, s0⟩ := open_bytes Try.underlying22 Try.underlying5 (by kernel_rfl) (hval 0 22 v0 rfl rfl) h0
  clear hA0 hval0
  refine (FnSum_walk W a0 c0 l0 n0 m0 s0).mono fun e W' ⟨he, hb⟩ => ⟨_, he, ?_⟩
  exact law_post laidOut (by kernel_rfl) (by kernel_rfl) rfl Try.underlying4 hW' rfl rfl rfl hb

theorem FnSum_holds : Rows.FnSumSaid :=
  OpenClaim.holds_of_wide 8 Try.f8 rfl rfl rfl rfl rfl rfl rfl ⟨rfl, rfl, rfl, rfl, rfl⟩ rfl rfl rfl rfl rfl (by kernel_rfl) Try.func8 (by kernel_rfl)
    (of_decide_eq_true (by kernel_rfl)) (by unfold Func.isWrapper; first | (rw [if_pos (by decide +kernel)]; kernel_rfl) | (rw [if_neg (by decide +kernel)]; exact ⟨rfl, rfl⟩))
    (fun os started H enc _ => FnSum_lifted os started H enc)
end Go.Proofs.Ytdfoobemgdiobaa
