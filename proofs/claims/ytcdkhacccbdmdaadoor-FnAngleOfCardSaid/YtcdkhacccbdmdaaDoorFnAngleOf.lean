/- FnAngleOf: angles of bits have these bits. No condition. -/
import Derived.Test.YtcdkhacccbdmdaaDoorAngOs
import Derived.Test.YtcdkhacccbdmdaaDoorBitsL
import Derived.Test.YtcdkhacccbdmdaaDoorRdO
import Derived.Test.YtcdkhacccbdmdaaDoorAngI
import Derived.Test.YtcdkhacccbdmdaaDoorCardE
namespace Go.Proofs.YtcdkhacccbdmdaaDoor
open Go.ChangeShapes Go.WideShapes Go.ChangeAt Go.RowKit

theorem cat_bits {l : List UInt8} {f s : ByteArray} (h : l = f.data.toList ++ s.data.toList) : (⟨l.toArray⟩ : ByteArray) = f ++ s := by
  rw [h]; simp [ByteArray.ext_iff]
set_option maxHeartbeats 4000000 in
theorem FnAngleOf_walk (w : World) (hE : ErrT w) (a : Option Addr) (c : Nat) (bs : List UInt8) (_ : bs.length ≤ maxLen) (hc : bs.length ≤ c) (hs : Sl w a (bs.map byteV)) :
    Calls Tryd.prog 7 #[.slice a bs.length c] w fun e w' => e = .returned (.bool true) ∧ Below w.heap.size w w' := by
  by_cases hb : 1048576 < bs.length
  · clear hE hs
    go_enter Tryd.func7, Tryd.ntmps7
    go_wp2
    go_ret
    exact ⟨rfl, Below.refl _ _⟩
  have H := Lib.hid (drawAngleOf_any a c bs (by omega) hc w hs)
  have HE := Lib.hid hE
  clear hs hE
  go_enter Tryd.func7, Tryd.ntmps7
  go_wp2_with fail
  refine H.out.mono ?_
  rintro e w1 ⟨⟨f, s, rfl, hf, hs⟩, hb⟩
  replace HE := Lib.hid (HE.out.step hb)
  have HB := Lib.hid hb
  clear hb H
  have H1 := Lib.hid (fun w hE => implAngleOf_any f s w hE)
  have H2 := Lib.hid (fun w => specAngleOf_any f s (by omega) (by omega) w)
  cases ho : angOf f s with
  | none =>
    rw [ho, angV_no] at H1 H2
    clear ho
    go_wp2_with fail
    refine (H1.out _ HE.out).mono ?_
    rintro e w2 ⟨rfl, hb⟩
    have X := (Box.new w2 #[.int .i64 0, .int .i64 0] 24).up (HB.out.trans (hb.mono HB.out.size))
    clear hb HE HB
    go_wp2_with fail
    refine (H2.out _).mono ?_
    rintro e w3 ⟨rfl, hb⟩
    replace X := X.step hb
    clear hb
    have Y := (Box.new w3 #[.int .i64 0, .int .i64 0] 24).up X.old
    replace X := X.alloc (.cells #[.int .i64 0, .int .i64 0] 24)
    have c0 := X.cell 0 _ rfl
    have c1 := X.cell 1 _ rfl
    have d0 := Y.cell 0 _ rfl
    have d1 := Y.cell 1 _ rfl
    have HB := Lib.hid X.old
    clear X Y
    go_wp2
    go_ret
    exact ⟨rfl, HB.out⟩
  | some o =>
    obtain ⟨x, y⟩ := o
    obtain ⟨k1, k2, k3, k4, k5, k6, k7⟩ := angOf_bits ho
    have e1 : angV (some (x, y)) = .tuple #[.agg #[.int .i64 x, .int .i64 y], .bool true] := rfl
    rw [ho, e1] at H1 H2
    have hok : angleOK (x : Int) y = true := by rw [angleOK_of k1 k2, k3]; rfl
    have C3 : Hid (∀ w, Calls Tryd.prog 25 #[.agg #[.int .i64 x, .int .i64 y], .int .i64 ((f.size : Int) + s.size)] w fun e w' => e = .returned (.tuple #[.string (f ++ s), .bool true]) ∧ Below w.heap.size w w') := by
      intro w
      refine (implAngleBits_any x y _ w).mono fun e w' h => ⟨?_, h.2⟩
      have hin : inB ((f.size : Int) + s.size) 0 64 = true := inB_yes (by omega) (by omega)
      have hq : angBits x y ((f.size : Int) + s.size) = some (firsts (bitAt x y) (f.size + s.size)) := by
        unfold angBits
        rw [hok, hin]
        rfl
      have h1 := h.1
      rw [hq, Option.getD_some, Option.isSome_some, cat_bits k4] at h1
      exact h1
    have C4 : Hid (∀ w, Calls Tryd.prog 26 #[.agg #[.int .i64 x, .int .i64 y]] w fun e w' => e = .returned (.bool true) ∧ Below w.heap.size w w') := by
      intro w
      have h := implAngleValid_any x y w
      rw [hok] at h
      exact h
    have hi1 : (f.size : Int) ≤ 9 := by omega
    have hi2 : (s.size : Int) ≤ 9 := by omega
    clear ho e1 hok k4 k3 k1 k2
    go_wp2_with fail
    refine (H1.out _ HE.out).mono ?_
    rintro e w2 ⟨rfl, hb⟩
    have X := (Box.new w2 #[.int .i64 x, .int .i64 y] 24).up (HB.out.trans (hb.mono HB.out.size))
    clear hb HE HB
    go_wp2_with fail
    refine (H2.out _).mono ?_
    rintro e w3 ⟨rfl, hb⟩
    replace X := X.step hb
    clear hb
    have Y := (Box.new w3 #[.int .i64 x, .int .i64 y] 24).up X.old
    replace X := X.alloc (.cells #[.int .i64 x, .int .i64 y] 24)
    have c0 := X.cell 0 _ rfl
    have c1 := X.cell 1 _ rfl
    have d0 := Y.cell 0 _ rfl
    have d1 := Y.cell 1 _ rfl
    go_wp2_with fail
    refine (C3.out _).mono ?_
    rintro e w4 ⟨rfl, hb⟩
    replace X := X.step hb
    clear hb Y c0 c1 d0 d1
    have c0 := X.cell 0 _ rfl
    have c1 := X.cell 1 _ rfl
    generalize hfs : f ++ s = fs at *
    go_wp2_with fail
    refine (C4.out _).mono ?_
    rintro e w5 ⟨rfl, hb⟩
    have HB := Lib.hid (X.step hb).old
    clear X hb c0 c1
    go_wp2
    go_ret
    exact ⟨rfl, HB.out⟩
set_option maxRecDepth 100000 in
theorem FnAngleOf_contract (H : Type) (enc : TypeId × Value → H) (W : World) (base : Nat) (args : Array Value) (ds gs : List (DataW H)) (before : List MemPlace)
    (hval : ∀ (j : Nat) t v, Tryd.f7.params[j]? = some t → args[j]? = some v → Value.okWide Tryd.prog W .any base t v)
    (hW : DataW.Whole enc Tryd.prog Tryd.f7.params.toList Rows.fnAngleOfSpec.vars false W args.toList ds gs before) (hL : laidMetH Tryd.prog Rows.fnAngleOfRow.laid W) :
    Calls Tryd.prog 7 args W fun e W' => ∃ v, e = .returned v ∧ Rows.fnAngleOfSpec.post enc Tryd.prog Tryd.f7 false true false false W args v W' := by
  have hW' := hW
  obtain ⟨p, q, hA0, hV, rfl, _, _⟩ := hW
  have hA : DataW.TrodAll enc Tryd.prog W 0 (fun _ => true) true Tryd.f7.params.toList args.toList ds p := hA0
  rw [Tryd.params7] at hA hval
  obtain ⟨v0, vs0, d0, ds0, p0, q0, hargs, rfl, rfl, h0, r0⟩ := trodAll_cons hA
  obtain ⟨rfl, rfl, rfl⟩ := trodAll_nil r0
  obtain rfl : args = #[v0] := by cases args; simp_all
  obtain ⟨rfl, rfl⟩ := trodVars_none hV
  obtain ⟨a0, c0, l0, rfl, n0, m0, s0⟩ := open_bytes Tryd.underlying22 Tryd.underlying5 (by kernel_rfl) (hval 0 22 v0 rfl rfl) h0
  clear hA0
  refine (FnAngleOf_walk W (err_of hL) a0 c0 l0 n0 m0 s0).mono fun e W' ⟨he, hb⟩ => ⟨_, he, ?_⟩
  exact law_post laidOut (by kernel_rfl) (by kernel_rfl) rfl Tryd.underlying4 hW' rfl rfl rfl hb
set_option maxRecDepth 100000 in
theorem FnAngleOf_reads (os : Os) {H : Type} (enc : TypeId × Value → H) : ∃ places, DataW.whole enc Tryd.prog ((laidWorldE os).forCall (fun _ _ => 0) ⟨#[], #[.slice none 0 0], []⟩).memory Tryd.f7.params.toList Rows.fnAngleOfSpec.vars false #[(.slice none 0 0 : Value)].toList 8 = some ([.nil], [], places) :=
  ⟨[], by kernel_rfl⟩
set_option maxRecDepth 100000 in
theorem FnAngleOf_lifted (os : Os) (started : os.Started) (H : Type) (enc : TypeId × Value → H) (F : Stop.Interp) :
    ReturnsInHanded {} Tryd.checked os 7 .any ((OpenSpec.ofChange Rows.fnAngleOfSpec).preRow enc Tryd.prog Tryd.f7 Rows.fnAngleOfRow.domain false Rows.fnAngleOfRow.laid) (((OpenSpec.ofChange Rows.fnAngleOfSpec).at F).post enc Tryd.prog Tryd.f7 false true false false) := by
  obtain ⟨places, hx⟩ := FnAngleOf_reads os enc
  refine returnsInHanded_of_row (C := Tryd.checked) (s := OpenSpec.ofChange Rows.fnAngleOfSpec) own started (by kernel_rfl) Tryd.func7
    (witness_row_at (enc := enc) (C := Tryd.checked) false (laidWorldE os) #[.slice none 0 0] rfl (by kernel_rfl) (by kernel_rfl) (by kernel_rfl)
      (OpenSpec.preRow_of_cond 8 hx (by kernel_rfl) (fun k hk => by cases hk) (by kernel_rfl) (laid_metE os _))) ?_
  intro W base args ds gs before hval hW _ _ _ hL _ _
  exact FnAngleOf_contract H enc W base args ds gs before hval hW hL
set_option maxRecDepth 100000 in
theorem FnAngleOf_said : Rows.FnAngleOfSaid :=
  OpenClaim.holds_of_cond 7 Tryd.f7 rfl rfl rfl rfl rfl rfl rfl ⟨rfl, rfl, rfl, rfl, rfl⟩ rfl rfl rfl rfl rfl (by kernel_rfl) Tryd.func7 (by kernel_rfl)
    (of_decide_eq_true (by kernel_rfl)) (by unfold Func.isWrapper; first | (rw [if_pos (by decide +kernel)]; kernel_rfl) | (rw [if_neg (by decide +kernel)]; exact ⟨rfl, rfl⟩))
    (fun os started H enc _ F => by rw [OpenClaim.pre_eq_preRow]; exact FnAngleOf_lifted os started H enc F)
set_option maxRecDepth 100000 in
theorem FnAngleOf_plain (f : FuncId) (fn : Func) (hf : Tryd.pinned.checked.prog.funcNamed "loop.example/quadraticorbits/laws.FnAngleOf" = some f) (hfn : Tryd.pinned.checked.prog.funcs[f]? = some fn) :
    true = Tryd.pinned.checked.prog.looks [] ∧ ∀ (j : Nat) t, fn.params[j]? = some t → Tryd.pinned.checked.prog.wantsStandIn t = false := by
  obtain rfl : f = 7 := Option.some.inj ((show Tryd.prog.funcNamed "loop.example/quadraticorbits/laws.FnAngleOf" = some 7 by kernel_rfl).symm.trans hf) |>.symm
  obtain rfl : fn = Tryd.f7 := (Option.some.inj (Tryd.func7.symm.trans hfn)).symm
  refine ⟨by kernel_rfl, fun j t ht => ?_⟩
  rw [Tryd.params7] at ht
  obtain rfl : t = 22 := by simpa using Array.mem_of_getElem? ht
  exact (show Tryd.prog.wantsStandIn 22 = false by kernel_rfl)

set_option maxRecDepth 100000 in
theorem FnAngleOf_holds : Rows.FnAngleOfCardSaid :=
  Claim7.holds_tied_plain_at .later [] _ _ _ _ FnAngleOf_said (fun _ h => by cases h) (by kernel_rfl) (fun _ h => by cases h) fnAngleOf_row_tie rfl ⟨rfl, rfl⟩ (by kernel_rfl) rfl FnAngleOf_plain (by kernel_rfl)
end Go.Proofs.YtcdkhacccbdmdaaDoor
