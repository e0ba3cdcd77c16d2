/- FnSame: the same tiles have the same checksum. No condition. -/
import Derived.Test.YtdfoobemgdiobaaDoorSamT
import Derived.Test.YtdfoobemgdiobaaDoorCards
import Derived.Test.YtdfoobemgdiobaaDoorTie
import Derived.Test.YtdfoobemgdiobaaDoorLaw
import Derived.OpenShut
import Derived.Deep.DeepHandedRow
import Derived.Lib.LaidTab
import Derived.LaidSub
import Derived.Lib.TrailingZeros
namespace Go.Proofs.YtdfoobemgdiobaaDoor
open Go.ChangeShapes Go.WideShapes Go.ChangeAt Go.RowKit
attribute [local go_sem] run_store_float run_store_complex

def tabZ : List Int := Lib.deBruijn64tab.map fun n : Nat => (n : Int)
def tabZ32 : List Int := Lib.deBruijn32tab.map fun n : Nat => (n : Int)
def powZ : List Int := [1, 10, 100, 1000, 10000, 100000, 1000000, 10000000, 100000000, 1000000000, 10000000000, 100000000000, 1000000000000, 10000000000000, 100000000000000, 1000000000000000, 10000000000000000, 100000000000000000, 1000000000000000000, 10000000000000000000]
def putTab (cs : Array Value) : Obj → Obj
  | .cells _ t frozen => .cells cs t frozen
  | o => o
noncomputable def laidWorldS (os : Os) : World :=
  { World.holding Tryd.prog os ⟨#[], #[], []⟩ with heap := (((World.holding Tryd.prog os ⟨#[], #[], []⟩).heap.modify 3 (putTab (tabZ32.map (Value.int .u8)).toArray)).modify 1 (putTab (tabZ.map (Value.int .u8)).toArray)).modify 2 (putTab (powZ.map (Value.int .u64)).toArray) }
theorem laid_metS (os : Os) : laidMet Tryd.prog [("math/bits.deBruijn32tab", Rows.laid_math_bits_deBruijn32tab), ("math/bits.deBruijn64tab", Rows.laid_math_bits_deBruijn64tab), ("internal/strconv.uint64pow10", Rows.laid_internal_strconv_uint64pow10)] ((laidWorldS os).forCall (fun _ _ => 0) ⟨#[], #[.slice none 0 0], []⟩).memory :=
  laidMet_of_run' 8 (by kernel_rfl) (by kernel_rfl)
theorem ttxt_sum {cx cy : Nat} {deep size : Int} {xs : List Nat} {ys : List Int} {cx' cy' : Nat} {deep' size' : Int} {xs' : List Nat} {ys' : List Int} (hw : wellB size xs.length ys = true) (hw' : wellB size' xs'.length ys' = true)
    (h : ((ttxt cx cy deep size xs ys).toList == (ttxt cx' cy' deep' size' xs' ys').toList) = true) : sum0 xs ys = sum0 xs' ys' := by
  unfold ttxt at h
  rw [if_pos hw, if_pos hw', ByteArray.toList_eq, ByteArray.toList_eq] at h
  have h1 := textT_word (by simpa using h)
  exact wordL_inj (sumL_lt (by decide)) (sumL_lt (by decide)) h1
theorem beq_flip (a b : List UInt8) : (a == b) = (b == a) := by
  by_cases h : a = b
  · subst h; rfl
  · rw [beq_eq_false_iff_ne.2 h, beq_eq_false_iff_ne.2 (fun e => h e.symm)]
set_option maxRecDepth 100000 in
set_option maxHeartbeats 4000000 in
theorem FnSame_walk (w : World) (a : Option Addr) (c : Nat) (bs : List UInt8) (_ : bs.length ≤ maxLen) (hc : bs.length ≤ c) (hs : Sl w a (bs.map byteV)) :
    Calls Tryd.prog 4 #[.slice a bs.length c] w fun e w' => e = .returned (.bool true) ∧ Below w.heap.size w w' := by
  by_cases hb : 1048576 < bs.length
  · go_enter Tryd.func4, Tryd.ntmps4
    go_wp2
    go_ret
    exact ⟨rfl, Below.refl _ _⟩
  have H := Lib.hid (drawTileSame_any a c bs (by omega) hc w hs)
  clear hs
  go_enter Tryd.func4, Tryd.ntmps4
  go_wp2_with fail
  refine H.out.mono ?_
  rintro e w1 ⟨⟨a1, c1, a2, c2, cx, cy, deep, size, xs, ys, a1', c1', a2', c2', cx', cy', deep', size', xs', ys', rfl, T, T'⟩, hd⟩
  have X0 : Box w w1.heap.size #[.complex .f32 cx cy, .int .i64 deep, .int .i64 size, .slice a1 xs.length c1, .slice a2 ys.length c2] 27 ((w1.alloc (.cells #[.complex .f32 cx cy, .int .i64 deep, .int .i64 size, .slice a1 xs.length c1, .slice a2 ys.length c2] 27)).alloc (.cells #[.complex .f32 cx' cy', .int .i64 deep', .int .i64 size', .slice a1' xs'.length c1', .slice a2' ys'.length c2'] 27)) := ((Box.new w1 _ _).up hd).alloc _
  have X1 : Box w (w1.heap.size + 1) #[.complex .f32 cx' cy', .int .i64 deep', .int .i64 size', .slice a1' xs'.length c1', .slice a2' ys'.length c2'] 27 ((w1.alloc (.cells #[.complex .f32 cx cy, .int .i64 deep, .int .i64 size, .slice a1 xs.length c1, .slice a2 ys.length c2] 27)).alloc (.cells #[.complex .f32 cx' cy', .int .i64 deep', .int .i64 size', .slice a1' xs'.length c1', .slice a2' ys'.length c2'] 27)) := by
    have := (Box.new (w1.alloc (.cells #[.complex .f32 cx cy, .int .i64 deep, .int .i64 size, .slice a1 xs.length c1, .slice a2 ys.length c2] 27)) #[.complex .f32 cx' cy', .int .i64 deep', .int .i64 size', .slice a1' xs'.length c1', .slice a2' ys'.length c2'] 27).up (w0 := w) (hd.alloc hd.size _)
    rwa [World.size_alloc] at this
  have k := ((Below.refl w1.heap.size w1).alloc (Nat.le_refl _) (.cells #[.complex .f32 cx cy, .int .i64 deep, .int .i64 size, .slice a1 xs.length c1, .slice a2 ys.length c2] 27)).alloc (by simp) (.cells #[.complex .f32 cx' cy', .int .i64 deep', .int .i64 size', .slice a1' xs'.length c1', .slice a2' ys'.length c2'] 27)
  have HT := Lib.hid (T.step k)
  have HT' := Lib.hid (T'.step k)
  have HX0 := Lib.hid X0
  have HX1 := Lib.hid X1
  obtain ⟨r0, r1, r2, r3, r4⟩ := HX0.out.cells5
  obtain ⟨s0, s1, s2, s3, s4⟩ := HX1.out.cells5
  clear X0 X1 T T' H hd k
  obtain ⟨b, hb⟩ : ∃ b, (wellB size xs.length ys && wellB size' xs'.length ys' && ((ttxt cx cy deep size xs ys).toList == (ttxt cx' cy' deep' size' xs' ys').toList)) = b := ⟨_, rfl⟩
  have C1 : Hid (∀ W, TileV w.heap.size a1 c1 a2 c2 cx cy deep size xs ys W → TileV w.heap.size a1' c1' a2' c2' cx' cy' deep' size' xs' ys' W → Calls Tryd.prog 13 #[.agg #[.complex .f32 cx cy, .int .i64 deep, .int .i64 size, .slice a1 xs.length c1, .slice a2 ys.length c2], .agg #[.complex .f32 cx' cy', .int .i64 deep', .int .i64 size', .slice a1' xs'.length c1', .slice a2' ys'.length c2']] W fun e w' => e = .returned (.bool b) ∧ Below W.heap.size W w') := fun W h h' => hb ▸ implSame_is h h'
  have C2 : Hid (∀ W, TileV w.heap.size a1 c1 a2 c2 cx cy deep size xs ys W → TileV w.heap.size a1' c1' a2' c2' cx' cy' deep' size' xs' ys' W → Calls Tryd.prog 14 #[.agg #[.complex .f32 cx cy, .int .i64 deep, .int .i64 size, .slice a1 xs.length c1, .slice a2 ys.length c2], .agg #[.complex .f32 cx' cy', .int .i64 deep', .int .i64 size', .slice a1' xs'.length c1', .slice a2' ys'.length c2']] W fun e w' => e = .returned (.bool b) ∧ Below W.heap.size W w') := fun W h h' => hb ▸ specSame_is h h'
  have HBB := Lib.hid hb
  clear hb
  go_wp2_with fail
  with_reducible refine (C1.out _ HT.out HT'.out).mono ?_
  rintro e v1 ⟨rfl, hd⟩
  have HX01 := Lib.hid (HX0.out.step hd)
  have HX11 := Lib.hid (HX1.out.step hd)
  have HT1 := Lib.hid (HT.out.step hd)
  have HT'1 := Lib.hid (HT'.out.step hd)
  clear hd r0 r1 r2 r3 r4 s0 s1 s2 s3 s4 HX0 HX1 HT HT'
  obtain ⟨r0, r1, r2, r3, r4⟩ := HX01.out.cells5
  obtain ⟨s0, s1, s2, s3, s4⟩ := HX11.out.cells5
  go_wp2_with fail
  with_reducible refine (C2.out _ HT1.out HT'1.out).mono ?_
  rintro e v2 ⟨rfl, hd⟩
  have HX02 := Lib.hid (HX01.out.step hd)
  have HX12 := Lib.hid (HX11.out.step hd)
  have HT2 := Lib.hid (HT1.out.step hd)
  have HT'2 := Lib.hid (HT'1.out.step hd)
  clear hd r0 r1 r2 r3 r4 s0 s1 s2 s3 s4 HX01 HX11 HT1 HT'1
  obtain ⟨r0, r1, r2, r3, r4⟩ := HX02.out.cells5
  obtain ⟨s0, s1, s2, s3, s4⟩ := HX12.out.cells5
  cases b with
  | false =>
    have HB := Lib.hid HX02.out.old
    go_wp2
    go_ret
    exact ⟨rfl, HB.out⟩
  | true =>
    have HF : Hid (∃ S : Nat, (∀ W, TileV w.heap.size a1 c1 a2 c2 cx cy deep size xs ys W → Calls Tryd.prog 15 #[.agg #[.complex .f32 cx cy, .int .i64 deep, .int .i64 size, .slice a1 xs.length c1, .slice a2 ys.length c2]] W fun e w' => e = .returned (.tuple #[.int .u32 S, .bool true]) ∧ Below W.heap.size W w') ∧ (∀ W, TileV w.heap.size a1' c1' a2' c2' cx' cy' deep' size' xs' ys' W → Calls Tryd.prog 15 #[.agg #[.complex .f32 cx' cy', .int .i64 deep', .int .i64 size', .slice a1' xs'.length c1', .slice a2' ys'.length c2']] W fun e w' => e = .returned (.tuple #[.int .u32 S, .bool true]) ∧ Below W.heap.size W w') ∧ (∀ W, TileV w.heap.size a1 c1 a2 c2 cx cy deep size xs ys W → TileV w.heap.size a1' c1' a2' c2' cx' cy' deep' size' xs' ys' W → Calls Tryd.prog 13 #[.agg #[.complex .f32 cx' cy', .int .i64 deep', .int .i64 size', .slice a1' xs'.length c1', .slice a2' ys'.length c2'], .agg #[.complex .f32 cx cy, .int .i64 deep, .int .i64 size, .slice a1 xs.length c1, .slice a2 ys.length c2]] W fun e w' => e = .returned (.bool true) ∧ Below W.heap.size W w')) := by
      show ∃ S, _
      have hb : (wellB size xs.length ys && wellB size' xs'.length ys' && ((ttxt cx cy deep size xs ys).toList == (ttxt cx' cy' deep' size' xs' ys').toList)) = true := HBB.out
      rw [Bool.and_eq_true, Bool.and_eq_true] at hb
      obtain ⟨⟨g1, g2⟩, g3⟩ := hb
      have e := ttxt_sum g1 g2 g3
      refine ⟨sum0 xs ys, fun W h => ?_, fun W h => ?_, fun W h h' => ?_⟩
      · have hl := h.lim
        exact implSum_good cx cy deep size h.bx h.by1 h.pl a1 a2 c1 c2 xs ys (by omega) h.hx _ h.s1 h.s2 g1
      · have hl := h.lim
        rw [e]
        exact implSum_good cx' cy' deep' size' h.bx h.by1 h.pl a1' a2' c1' c2' xs' ys' (by omega) h.hx _ h.s1 h.s2 g2
      · have := implSame_is h' h
        rw [g1, g2, beq_flip, g3] at this
        exact this
    obtain ⟨S, K1, K2, K3⟩ := HF.out
    have HK1 := Lib.hid K1
    have HK2 := Lib.hid K2
    have HK3 := Lib.hid K3
    clear HF HBB C1 C2 K1 K2 K3
    go_wp2_with fail
    with_reducible refine (HK1.out _ HT2.out).mono ?_
    rintro e v3 ⟨rfl, hd⟩
    have HX03 := Lib.hid (HX02.out.step hd)
    have HX13 := Lib.hid (HX12.out.step hd)
    have HT3 := Lib.hid (HT2.out.step hd)
    have HT'3 := Lib.hid (HT'2.out.step hd)
    clear hd r0 r1 r2 r3 r4 s0 s1 s2 s3 s4 HX02 HX12 HT2 HT'2
    obtain ⟨r0, r1, r2, r3, r4⟩ := HX03.out.cells5
    obtain ⟨s0, s1, s2, s3, s4⟩ := HX13.out.cells5
    go_wp2_with fail
    with_reducible refine (HK2.out _ HT'3.out).mono ?_
    rintro e v4 ⟨rfl, hd⟩
    have HX04 := Lib.hid (HX03.out.step hd)
    have HX14 := Lib.hid (HX13.out.step hd)
    have HT4 := Lib.hid (HT3.out.step hd)
    have HT'4 := Lib.hid (HT'3.out.step hd)
    clear hd r0 r1 r2 r3 r4 s0 s1 s2 s3 s4 HX03 HX13 HT3 HT'3
    obtain ⟨r0, r1, r2, r3, r4⟩ := HX04.out.cells5
    obtain ⟨s0, s1, s2, s3, s4⟩ := HX14.out.cells5
    go_wp2_with fail
    with_reducible refine (HK3.out _ HT4.out HT'4.out).mono ?_
    rintro e v5 ⟨rfl, hd⟩
    have HX05 := Lib.hid (HX04.out.step hd)
    have HX15 := Lib.hid (HX14.out.step hd)
    have HT5 := Lib.hid (HT4.out.step hd)
    have HT'5 := Lib.hid (HT'4.out.step hd)
    clear hd r0 r1 r2 r3 r4 s0 s1 s2 s3 s4 HX04 HX14 HT4 HT'4
    obtain ⟨r0, r1, r2, r3, r4⟩ := HX05.out.cells5
    obtain ⟨s0, s1, s2, s3, s4⟩ := HX15.out.cells5
    have HB := Lib.hid HX05.out.old
    go_wp2
    go_ret
    exact ⟨rfl, HB.out⟩
set_option maxRecDepth 100000 in
theorem FnSame_contract (H : Type) (enc : TypeId × Value → H) (W : World) (base : Nat) (args : Array Value) (ds gs : List (DataW H)) (before : List MemPlace)
    (hval : ∀ (j : Nat) t v, Tryd.f4.params[j]? = some t → args[j]? = some v → Value.okWide Tryd.prog W .any base t v)
    (hW : DataW.Whole enc Tryd.prog Tryd.f4.params.toList Rows.fnSameSpec.vars false W args.toList ds gs before) (_hL : laidMetH Tryd.prog Rows.fnSameRow.laid W) :
    Calls Tryd.prog 4 args W fun e W' => ∃ v, e = .returned v ∧ Rows.fnSameSpec.post enc Tryd.prog Tryd.f4 false true false false W args v W' := by
  have hW' := hW
  obtain ⟨p, q, hA0, hV, rfl, _, _⟩ := hW
  have hA : DataW.TrodAll enc Tryd.prog W 0 (fun _ => true) true Tryd.f4.params.toList args.toList ds p := hA0
  rw [Tryd.params4] at hA hval
  obtain ⟨v0, vs0, d0, ds0, p0, q0, hargs, rfl, rfl, h0, r0⟩ := trodAll_cons hA
  obtain ⟨rfl, rfl, rfl⟩ := trodAll_nil r0
  obtain rfl : args = #[v0] := by cases args; simp_all
  obtain ⟨rfl, rfl⟩ := trodVars_none hV
  obtain ⟨a0, c0, l0, rfl, n0, m0, s0⟩ := open_bytes Tryd.underlying22 Tryd.underlying5 (by kernel_rfl) (hval 0 22 v0 rfl rfl) h0
  clear hA0
  refine (FnSame_walk W  a0 c0 l0 n0 m0 s0).mono fun e W' ⟨he, hb⟩ => ⟨_, he, ?_⟩
  exact law_post laidOut (by kernel_rfl) (by kernel_rfl) rfl Tryd.underlying4 hW' rfl rfl rfl hb
set_option maxRecDepth 100000 in
theorem FnSame_reads (os : Os) {H : Type} (enc : TypeId × Value → H) : ∃ places, DataW.whole enc Tryd.prog ((laidWorldS os).forCall (fun _ _ => 0) ⟨#[], #[.slice none 0 0], []⟩).memory Tryd.f4.params.toList Rows.fnSameSpec.vars false #[(.slice none 0 0 : Value)].toList 8 = some ([.nil], [], places) :=
  ⟨[], by kernel_rfl⟩
set_option maxRecDepth 100000 in
theorem FnSame_lifted (os : Os) (started : os.Started) (H : Type) (enc : TypeId × Value → H) (F : Stop.Interp) :
    ReturnsInHanded {} Tryd.checked os 4 .any ((OpenSpec.ofChange Rows.fnSameSpec).preRow enc Tryd.prog Tryd.f4 Rows.fnSameRow.domain false Rows.fnSameRow.laid) (((OpenSpec.ofChange Rows.fnSameSpec).at F).post enc Tryd.prog Tryd.f4 false true false false) := by
  obtain ⟨places, hx⟩ := FnSame_reads os enc
  refine returnsInHanded_of_row (C := Tryd.checked) (s := OpenSpec.ofChange Rows.fnSameSpec) own started (by kernel_rfl) Tryd.func4
    (witness_row_at (enc := enc) (C := Tryd.checked) false (laidWorldS os) #[.slice none 0 0] rfl (by kernel_rfl) (by kernel_rfl) (by kernel_rfl)
      (OpenSpec.preRow_of_cond 8 hx (by kernel_rfl) (fun k hk => by cases hk) (by kernel_rfl) (laid_metS os))) ?_
  intro W base args ds gs before hval hW _ _ _ hL _ _
  exact FnSame_contract H enc W base args ds gs before hval hW hL
set_option maxRecDepth 100000 in
theorem FnSame_said : Rows.FnSameSaid :=
  OpenClaim.holds_of_cond 4 Tryd.f4 rfl rfl rfl rfl rfl rfl rfl ⟨rfl, rfl, rfl, rfl, rfl⟩ rfl rfl rfl rfl rfl (by kernel_rfl) Tryd.func4 (by kernel_rfl)
    (of_decide_eq_true (by kernel_rfl)) (by unfold Func.isWrapper; first | (rw [if_pos (by decide +kernel)]; kernel_rfl) | (rw [if_neg (by decide +kernel)]; exact ⟨rfl, rfl⟩))
    (fun os started H enc _ F => by rw [OpenClaim.pre_eq_preRow]; exact FnSame_lifted os started H enc F)
set_option maxRecDepth 100000 in
theorem FnSame_plain (f : FuncId) (fn : Func) (hf : Tryd.pinned.checked.prog.funcNamed "loop.example/quadraticorbits/laws.FnSame" = some f) (hfn : Tryd.pinned.checked.prog.funcs[f]? = some fn) :
    false = Tryd.pinned.checked.prog.looks [] ∧ ∀ (j : Nat) t, fn.params[j]? = some t → Tryd.pinned.checked.prog.wantsStandIn t = false := by
  obtain rfl : f = 4 := Option.some.inj ((show Tryd.prog.funcNamed "loop.example/quadraticorbits/laws.FnSame" = some 4 by kernel_rfl).symm.trans hf) |>.symm
  obtain rfl : fn = Tryd.f4 := (Option.some.inj (Tryd.func4.symm.trans hfn)).symm
  refine ⟨by kernel_rfl, fun j t ht => ?_⟩
  rw [Tryd.params4] at ht
  obtain rfl : t = 22 := by simpa using Array.mem_of_getElem? ht
  exact (show Tryd.prog.wantsStandIn 22 = false by kernel_rfl)

set_option maxRecDepth 100000 in
theorem FnSame_holds : Rows.FnSameCardSaid :=
  Claim7.holds_tied_plain_at .later [] _ _ _ _ FnSame_said (fun _ h => by cases h) (by kernel_rfl) (fun _ h => by cases h) fnSame_row_tie rfl ⟨rfl, rfl⟩ (by kernel_rfl) rfl FnSame_plain (by kernel_rfl)
end Go.Proofs.YtdfoobemgdiobaaDoor
