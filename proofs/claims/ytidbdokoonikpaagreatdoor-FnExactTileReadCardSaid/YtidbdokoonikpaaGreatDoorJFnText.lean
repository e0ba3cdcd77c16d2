/- FnText -/
import Derived.Test.YtidbdokoonikpaaGreatDoorJ13
import Derived.Test.YtidbdokoonikpaaGreatDoorJ18
import Derived.Test.YtidbdokoonikpaaGreatDoorJ9
/- FnText: texts of tiles are read. No condition. -/
namespace Go.Proofs.YtidbdokoonikpaaGreatDoor
open Go.ChangeShapes Go.WideShapes Go.ChangeAt Go.RowKit Flo
attribute [local go_sem] run_store_float run_store_complex

theorem ttxt_td {B : Nat} {a1 : Option Addr} {c1 : Nat} {a2 : Option Addr} {c2 cx cy : Nat} {deep size : Int} {xs : List Nat} {ys : List Int} {w : World} (T : TileV B a1 c1 a2 c2 cx cy deep size xs ys w) (hw : wellB size xs.length ys = true) :
    ∃ d s : Nat, deep = d ∧ size = s ∧ (⟨cx, cy, d, s, xs, ys⟩ : TD).Good ∧ (ttxt cx cy deep size xs ys).data.toList = (⟨cx, cy, d, s, xs, ys⟩ : TD).text ∧ (ttxt cx cy deep size xs ys).size ≤ 1048576 := by
  have hl := T.lim
  obtain ⟨d, rfl⟩ := Int.eq_ofNat_of_zero_le hl.2.2.1
  obtain ⟨s, rfl⟩ := Int.eq_ofNat_of_zero_le (show 0 ≤ size by omega)
  have hg : (⟨cx, cy, d, s, xs, ys⟩ : TD).Good := ⟨T.bx, T.by1, T.pl, hw, T.hx⟩
  have ht : (ttxt cx cy d s xs ys).data.toList = (⟨cx, cy, d, s, xs, ys⟩ : TD).text := by
    unfold ttxt
    rw [if_pos hw]
    rfl
  refine ⟨d, s, rfl, rfl, hg, ht, ?_⟩
  have h7 := TD.text_len hg
  rw [← ht, len_eq] at h7
  omega
theorem read_own {w w' : World} {s : List UInt8} {e : Ending} (h : ReadRes w s e w') {t : TD} (hg : t.Good) (ht : s = t.text) :
    ∃ gs cs gm cm, e = .returned (.tuple #[.agg #[.complex .f32 t.cx t.cy, .int .i64 t.d, .int .i64 t.s, .slice (some ⟨gs, 0, none⟩) t.xs.length cs, .slice (some ⟨gm, 0, none⟩) t.ys.length cm], .bool true]) ∧ Sl w' (some ⟨gs, 0, none⟩) (t.xs.map floV) ∧ Sl w' (some ⟨gm, 0, none⟩) (t.ys.map intV) ∧ Below w.heap.size w w' := by
  obtain ⟨hb, ⟨hno, -⟩ | ⟨u, smv, mkv, hu, htx, rfl, hM⟩⟩ := h
  · exact absurd ht.symm (hno t hg)
  · obtain rfl : u = t := TD.text_inj hu hg (htx.trans ht)
    obtain ⟨h1, h2, h3, h4, h5, h6, h7⟩ := TD.bd hg
    have hn : 0 < u.xs.length := by
      rw [h4]
      exact Nat.mul_pos (by omega) (by omega)
    obtain ⟨gs, cs, rfl, -, -⟩ := ownsRow_form hM.S hn
    obtain ⟨gm, cm, rfl, -, -⟩ := ownsRow_form hM.M hn
    refine ⟨gs, cs, gm, cm, ?_, sl_of_own hM.S, sl_of_own hM.M, hb⟩
    rw [h5]
    rfl
set_option maxRecDepth 100000 in
set_option maxHeartbeats 4000000 in
theorem FnText_walk (w : World) (hV : VarsT w) (a : Option Addr) (c : Nat) (bs : List UInt8) (_ : bs.length ≤ maxLen) (hc : bs.length ≤ c) (hs : Sl w a (bs.map byteV)) :
    Calls Tryz.prog 3 #[.slice a bs.length c] w fun e w' => e = .returned (.bool true) ∧ Below w.heap.size w w' := by
  by_cases hb : 1048576 < bs.length
  · go_enter Tryz.func3, Tryz.ntmps3
    go_wp2
    go_ret
    exact ⟨rfl, Below.refl _ _⟩
  have H := Lib.hid (drawTileText_any a c bs (by omega) hc w hs)
  have HVV := Lib.hid hV
  clear hs hV
  go_enter Tryz.func3, Tryz.ntmps3
  go_wp2_with fail
  refine H.out.mono ?_
  rintro e w1 ⟨⟨a1, c1, a2, c2, cx, cy, deep, size, xs, ys, rfl, T⟩, hd⟩
  have X0 : Box w w1.heap.size #[.complex .f32 cx cy, .int .i64 deep, .int .i64 size, .slice a1 xs.length c1, .slice a2 ys.length c2] 27 (w1.alloc (.cells #[.complex .f32 cx cy, .int .i64 deep, .int .i64 size, .slice a1 xs.length c1, .slice a2 ys.length c2] 27)) := (Box.new w1 _ _).up hd
  have k := (Below.refl w1.heap.size w1).alloc (Nat.le_refl _) (.cells #[.complex .f32 cx cy, .int .i64 deep, .int .i64 size, .slice a1 xs.length c1, .slice a2 ys.length c2] 27)
  have HT := Lib.hid (T.step k)
  have HX := Lib.hid X0
  obtain ⟨r0, r1, r2, r3, r4⟩ := HX.out.cells5
  have HG := Lib.hid (fun (hw : wellB size xs.length ys = true) => ttxt_td T hw)
  obtain ⟨da, db, hcx, hcy⟩ : ∃ da db, Val Ieee.single cx da ∧ Val Ieee.single cy db := by
    obtain ⟨d, A, B, -, -, ha, hb', -⟩ := place_pts T.bx T.by1 T.pl
    exact ⟨_, _, ha, hb'⟩
  have HC := Lib.hid (And.intro hcx hcy)
  clear hcx hcy X0 T H hd k
  have C1 : Hid (∀ W, TileV w.heap.size a1 c1 a2 c2 cx cy deep size xs ys W → Calls Tryz.prog 8 #[.agg #[.complex .f32 cx cy, .int .i64 deep, .int .i64 size, .slice a1 xs.length c1, .slice a2 ys.length c2]] W fun e w' => e = .returned (.tuple #[.string (ttxt cx cy deep size xs ys), .bool (wellB size xs.length ys)]) ∧ Below W.heap.size W w') := fun W h => implText_is h
  have C2 : Hid (∀ W, TileV w.heap.size a1 c1 a2 c2 cx cy deep size xs ys W → Calls Tryz.prog 9 #[.agg #[.complex .f32 cx cy, .int .i64 deep, .int .i64 size, .slice a1 xs.length c1, .slice a2 ys.length c2]] W fun e w' => e = .returned (.tuple #[.string (ttxt cx cy deep size xs ys), .bool (wellB size xs.length ys)]) ∧ Below W.heap.size W w') := fun W h => specText_is h
  obtain ⟨tx, htx⟩ : ∃ t, ttxt cx cy deep size xs ys = t := ⟨_, rfl⟩
  obtain ⟨b, hwb⟩ : ∃ b, wellB size xs.length ys = b := ⟨_, rfl⟩
  rw [htx, hwb] at C1 C2
  have hbb : (tx.toList == tx.toList) = true := by simp
  have HG2 : Hid (b = true → ∃ d s : Nat, deep = d ∧ size = s ∧ (⟨cx, cy, d, s, xs, ys⟩ : TD).Good ∧ tx.data.toList = (⟨cx, cy, d, s, xs, ys⟩ : TD).text ∧ tx.size ≤ 1048576) := fun e => htx ▸ HG.out (hwb.trans e)
  clear HG htx hwb
  go_wp2_with fail
  with_reducible refine (C1.out _ HT.out).mono ?_
  rintro e w2 ⟨rfl, hd⟩
  have HX1 := Lib.hid (HX.out.step hd)
  have HT1 := Lib.hid (HT.out.step hd)
  clear hd HX HT r0 r1 r2 r3 r4
  obtain ⟨r0, r1, r2, r3, r4⟩ := HX1.out.cells5
  go_wp2_with fail
  with_reducible refine (C2.out _ HT1.out).mono ?_
  rintro e w3 ⟨rfl, hd⟩
  have HX2 := Lib.hid (HX1.out.step hd)
  have HT2 := Lib.hid (HT1.out.step hd)
  clear hd HX1 HT1 r0 r1 r2 r3 r4
  obtain ⟨r0, r1, r2, r3, r4⟩ := HX2.out.cells5
  cases b with
  | false =>
    have HB := Lib.hid HX2.out.old
    go_wp2
    go_ret
    exact ⟨rfl, HB.out⟩
  | true =>
    obtain ⟨d, s, rfl, rfl, hg, htd, hsz⟩ := HG2.out rfl
    have HG3 := Lib.hid (And.intro hg htd)
    have CR := Lib.hid (implRead_any tx hsz w3 (HVV.out.step HX2.out.old))
    clear hg htd hsz HG2
    go_wp2_with fail
    with_reducible refine CR.out.mono ?_
    intro e w4 hR
    obtain ⟨gs, cs, gm, cm, rfl, hS, hM, hd⟩ := read_own hR HG3.out.1 HG3.out.2
    have X4 := HX2.out.step hd
    have Y : Box w w4.heap.size #[.complex .f32 cx cy, .int .i64 d, .int .i64 s, .slice (some ⟨gs, 0, none⟩) xs.length cs, .slice (some ⟨gm, 0, none⟩) ys.length cm] 27 (w4.alloc (.cells #[.complex .f32 cx cy, .int .i64 d, .int .i64 s, .slice (some ⟨gs, 0, none⟩) xs.length cs, .slice (some ⟨gm, 0, none⟩) ys.length cm] 27)) := (Box.new w4 _ _).up X4.old
    have kk := (Below.refl w4.heap.size w4).alloc (Nat.le_refl _) (.cells #[.complex .f32 cx cy, .int .i64 d, .int .i64 s, .slice (some ⟨gs, 0, none⟩) xs.length cs, .slice (some ⟨gm, 0, none⟩) ys.length cm] 27)
    have HX4 := Lib.hid (X4.alloc (.cells #[.complex .f32 cx cy, .int .i64 d, .int .i64 s, .slice (some ⟨gs, 0, none⟩) xs.length cs, .slice (some ⟨gm, 0, none⟩) ys.length cm] 27))
    have HY := Lib.hid Y
    have T4 := (HT2.out.step hd).step kk
    obtain ⟨q1, q2, q3, q4, q5, q6, q7⟩ := TD.bd HG3.out.1
    have q5' : ys.length = xs.length := q5
    have q7' : xs.length ≤ 64 := q7
    have CS := Lib.hid (sameTile_same HC.out.1 HC.out.2 d s (some ⟨gs, 0, none⟩) a1 (some ⟨gm, 0, none⟩) a2 cs c1 cm c2 xs ys xs.length rfl (by omega) (by omega) T4.hx _ (hS.step kk) T4.s1 (hM.step kk) T4.s2)
    clear hR hS hM hd X4 Y kk T4 q1 q2 q3 q4 q5 q6 q7 q5' q7' CR C1 C2 r0 r1 r2 r3 r4
    obtain ⟨r0, r1, r2, r3, r4⟩ := HX4.out.cells5
    obtain ⟨z0, z1, z2, z3, z4⟩ := HY.out.cells5
    go_wp2_with fail
    with_reducible refine CS.out.mono ?_
    rintro e w5 ⟨rfl, hd⟩
    have HB := Lib.hid (HY.out.step hd).old
    go_wp2
    go_ret
    exact ⟨rfl, HB.out⟩
set_option maxRecDepth 100000 in
theorem FnText_contract (H : Type) (enc : TypeId × Value → H) (W : World) (base : Nat) (args : Array Value) (ds gs : List (DataW H)) (before : List MemPlace)
    (hval : ∀ (j : Nat) t v, Tryz.f3.params[j]? = some t → args[j]? = some v → Value.okWide Tryz.prog W .any base t v)
    (hW : DataW.Whole enc Tryz.prog Tryz.f3.params.toList Rows.fnTextSpec.vars false W args.toList ds gs before) (hL : laidMetH Tryz.prog Rows.fnTextRow.laid W) (hsh : W.ShapedOpen Tryz.prog) :
    Calls Tryz.prog 3 args W fun e W' => ∃ v, e = .returned v ∧ Rows.fnTextSpec.post enc Tryz.prog Tryz.f3 false true false false W args v W' := by
  have hW' := hW
  obtain ⟨p, q, hA0, hV, rfl, _, _⟩ := hW
  have hA : DataW.TrodAll enc Tryz.prog W 0 (fun _ => true) true Tryz.f3.params.toList args.toList ds p := hA0
  rw [Tryz.params3] at hA hval
  obtain ⟨v0, vs0, d0, ds0, p0, q0, hargs, rfl, rfl, h0, r0⟩ := trodAll_cons hA
  obtain ⟨rfl, rfl, rfl⟩ := trodAll_nil r0
  obtain rfl : args = #[v0] := by cases args; simp_all
  obtain ⟨rfl, rfl⟩ := trodVars_none hV
  obtain ⟨a0, c0, l0, rfl, n0, m0, s0⟩ := open_bytes Tryz.underlying22 Tryz.underlying5 (by kernel_rfl) (hval 0 22 v0 rfl rfl) h0
  clear hA0
  refine (FnText_walk W (varsT_of hL hsh) a0 c0 l0 n0 m0 s0).mono fun e W' ⟨he, hb⟩ => ⟨_, he, ?_⟩
  exact law_post laidOut (by kernel_rfl) (by kernel_rfl) rfl Tryz.underlying4 hW' rfl rfl rfl hb
set_option maxRecDepth 100000 in
theorem FnText_reads (os : Os) {H : Type} (enc : TypeId × Value → H) : ∃ places, DataW.whole enc Tryz.prog ((laidWorldV os).forCall (fun _ _ => 0) ⟨#[], #[.slice none 0 0], []⟩).memory Tryz.f3.params.toList Rows.fnTextSpec.vars false #[(.slice none 0 0 : Value)].toList 8 = some ([.nil], [], places) :=
  ⟨[], by kernel_rfl⟩
set_option maxRecDepth 100000 in
theorem FnText_lifted (os : Os) (started : os.Started) (H : Type) (enc : TypeId × Value → H) (F : Stop.Interp) :
    ReturnsInHanded {} Tryz.checked os 3 .any ((OpenSpec.ofChange Rows.fnTextSpec).preRow enc Tryz.prog Tryz.f3 Rows.fnTextRow.domain false Rows.fnTextRow.laid) (((OpenSpec.ofChange Rows.fnTextSpec).at F).post enc Tryz.prog Tryz.f3 false true false false) := by
  obtain ⟨places, hx⟩ := FnText_reads os enc
  refine returnsInHanded_of_row (C := Tryz.checked) (s := OpenSpec.ofChange Rows.fnTextSpec) own started (by kernel_rfl) Tryz.func3
    (witness_row_at (enc := enc) (C := Tryz.checked) false (laidWorldV os) #[.slice none 0 0] rfl (by kernel_rfl) (by kernel_rfl) (by kernel_rfl)
      (OpenSpec.preRow_of_cond 8 hx (by kernel_rfl) (fun k hk => by cases hk) (by kernel_rfl) (laid_metV os _))) ?_
  intro W base args ds gs before hval hW _ _ _ hL hsh _
  exact FnText_contract H enc W base args ds gs before hval hW hL hsh
set_option maxRecDepth 100000 in
theorem FnText_said : Rows.FnTextSaid :=
  OpenClaim.holds_of_cond 3 Tryz.f3 rfl rfl rfl rfl rfl rfl rfl ⟨rfl, rfl, rfl, rfl, rfl⟩ rfl rfl rfl rfl rfl (by kernel_rfl) Tryz.func3 (by kernel_rfl)
    (of_decide_eq_true (by kernel_rfl)) (by unfold Func.isWrapper; first | (rw [if_pos (by decide +kernel)]; kernel_rfl) | (rw [if_neg (by decide +kernel)]; exact ⟨rfl, rfl⟩))
    (fun os started H enc _ F => by rw [OpenClaim.pre_eq_preRow]; exact FnText_lifted os started H enc F)
set_option maxRecDepth 100000 in
theorem FnText_plain (f : FuncId) (fn : Func) (hf : Tryz.pinned.checked.prog.funcNamed "loop.example/quadraticorbits/laws.FnText" = some f) (hfn : Tryz.pinned.checked.prog.funcs[f]? = some fn) :
    true = Tryz.pinned.checked.prog.looks [] ∧ ∀ (j : Nat) t, fn.params[j]? = some t → Tryz.pinned.checked.prog.wantsStandIn t = false := by
  obtain rfl : f = 3 := Option.some.inj ((show Tryz.prog.funcNamed "loop.example/quadraticorbits/laws.FnText" = some 3 by kernel_rfl).symm.trans hf) |>.symm
  obtain rfl : fn = Tryz.f3 := (Option.some.inj (Tryz.func3.symm.trans hfn)).symm
  refine ⟨by kernel_rfl, fun j t ht => ?_⟩
  rw [Tryz.params3] at ht
  obtain rfl : t = 22 := by simpa using Array.mem_of_getElem? ht
  exact (show Tryz.prog.wantsStandIn 22 = false by kernel_rfl)

set_option maxRecDepth 100000 in
theorem FnText_holds : Rows.FnTextCardSaid :=
  Claim7.holds_tied_plain_at .later [] _ _ _ _ FnText_said (fun _ h => by cases h) (by kernel_rfl) (fun _ h => by cases h) fnText_row_tie rfl ⟨rfl, rfl⟩ (by kernel_rfl) rfl FnText_plain (by kernel_rfl)
end Go.Proofs.YtidbdokoonikpaaGreatDoor
