/- FnFind -/
import Derived.Test.YtidbdokoonikpaaGreatDoorJ20
import Derived.Test.YtidbdokoonikpaaGreatDoorJ18
/- FnFind: what is found lies there, and nothing ahead of it. No condition. -/
namespace Go.Proofs.YtidbdokoonikpaaGreatDoor
open Go.ChangeShapes Go.WideShapes Go.ChangeAt Go.RowKit Flo
attribute [local go_sem] run_store_float run_store_complex

set_option maxRecDepth 100000 in
set_option maxHeartbeats 4000000 in
theorem FnFind_walk (w : World) (hV : VarsT w) (a : Option Addr) (c : Nat) (bs : List UInt8) (_ : bs.length ≤ maxLen) (hc : bs.length ≤ c) (hs : Sl w a (bs.map byteV)) :
    Calls Tryz.prog 5 #[.slice a bs.length c] w fun e w' => e = .returned (.bool true) ∧ Below w.heap.size w w' := by
  by_cases hb : 1048576 < bs.length
  · go_enter Tryz.func5, Tryz.ntmps5
    go_wp2
    go_ret
    exact ⟨rfl, Below.refl _ _⟩
  have H := Lib.hid (drawArchiveFind_any a c bs (by omega) hc w hs)
  have HVV := Lib.hid hV
  clear hs hV
  go_enter Tryz.func5, Tryz.ntmps5
  go_wp2_with fail
  refine H.out.mono ?_
  rintro e w1 ⟨⟨g, cap, L, cx, cy, D, Z, rfl, hL, hz, hS⟩, hd⟩
  have HB := Lib.hid hd
  have HS := Lib.hid hS
  have HZ := Lib.hid (fun (s : ByteArray) (h : s ∈ L) => show s.size ≤ 1048576 by have := hz s h; omega)
  have C1 := Lib.hid (implFind_is (some ⟨g, 0, none⟩) cap L (by omega) HZ.out cx cy D Z w1 (HVV.out.step hd) hS)
  clear hd hS hz H
  go_wp2_with fail
  refine C1.out.mono ?_
  rintro e w2 ⟨⟨out, rfl, hF⟩, hd⟩
  have HB2 := Lib.hid (HB.out.trans (hd.mono HB.out.size))
  have HS2 := Lib.hid (HS.out.step hd)
  have HF := Lib.hid hF
  have C2 := Lib.hid (specFind_is (some ⟨g, 0, none⟩) cap L (by omega) HZ.out cx cy D Z w2 HS2.out)
  clear hd hF C1 HB HS
  go_wp2_with fail
  refine C2.out.mono ?_
  rintro e w3 ⟨⟨out2, rfl, hF2⟩, hd⟩
  obtain rfl := FindIs.one HF.out hF2
  have HB3 := Lib.hid (HB2.out.trans (hd.mono HB2.out.size))
  have HS3 := Lib.hid (HS2.out.step hd)
  clear hd hF2 C2 HB2 HS2
  rcases HF.out with ⟨rfl, -⟩ | ⟨m, sm, rfl, hm, hhit, hno⟩
  · clear HF
    go_wp2
    go_ret
    exact ⟨rfl, HB3.out⟩
  · have hml : m < L.length := (List.getElem?_eq_some_iff.1 hm).1
    have HM := Lib.hid (And.intro hm hhit)
    have HNO := Lib.hid hno
    clear HF hm hhit hno
    go_wp2
    go_loopw [9] (fun i wr => ∃ k : Nat, k ≤ m + 1 ∧ i = .int .i64 k ∧ Hid (Below w3.heap.size w3 wr)) (fun i _ => (m + 1 - intOf i).toNat)
    case atStart => exact ⟨0, by omega, rfl, Below.refl _ _⟩
    case round =>
      obtain ⟨k, hk, rfl, HD⟩ := hrel
      by_cases hlt : k ≤ m
      · obtain ⟨tx, htx⟩ : ∃ s, L[k]? = some s := ⟨_, List.getElem?_eq_getElem (by omega)⟩
        have hv : (L.map Value.string)[k]? = some (.string tx) := by rw [List.getElem?_map, htx]; rfl
        obtain ⟨b1, o1, he, hc1⟩ := (HS3.out.step HD.out).at hv
        obtain ⟨rfl, rfl⟩ : g = b1 ∧ 0 = o1 := by injection he with he; injection he with h3 h4 _; exact ⟨h3, h4⟩
        rw [Nat.zero_add] at hc1
        have HT := Lib.hid htx
        have CR := Lib.hid (implRead_any tx (HZ.out _ (List.mem_of_getElem? htx)) wr (HVV.out.step (HB3.out.trans (HD.out.mono HB3.out.size))))
        clear htx hv he
        go_wp2_with fail
        with_reducible refine CR.out.mono ?_
        intro e w5 hR
        obtain ⟨x, y, d, z, a1, n1, c1, a2, n2, c2, ok, rfl, hH, hd⟩ := read_hit hR
        have HH := Lib.hid (hH cx cy D Z)
        have X := (Box.new w5 #[.complex .f32 x y, .int .i64 d, .int .i64 z, .slice a1 n1 c1, .slice a2 n2 c2] 27).up (HD.out.trans (hd.mono HD.out.size))
        have HX := Lib.hid X.old
        obtain ⟨r0, r1, r2, r3, r4⟩ := X.cells5
        clear hR hH hd X hc1 CR
        obtain ⟨p1, o1⟩ : ∃ p, (FloatKind.f32.format.order x cx == some .eq) = p := ⟨_, rfl⟩
        obtain ⟨p2, o2⟩ : ∃ p, (FloatKind.f32.format.order y cy == some .eq) = p := ⟨_, rfl⟩
        obtain ⟨p3, o3⟩ : ∃ p, (d == D) = p := ⟨_, rfl⟩
        obtain ⟨p4, o4⟩ : ∃ p, (z == Z) = p := ⟨_, rfl⟩
        have HH2 := HH.out
        rw [o1, o2, o3, o4] at HH2
        have HH3 := Lib.hid HH2
        clear HH HH2
        by_cases e : k = m
        · subst e
          obtain rfl : tx = sm := Option.some.inj (HT.out.symm.trans HM.out.1)
          have hh := HH3.out.symm.trans HM.out.2
          simp only [Bool.and_eq_true] at hh
          obtain ⟨rfl, ⟨⟨rfl, rfl⟩, rfl⟩, rfl⟩ := hh
          have ek : ((k : Int) == k) = true := by simp
          clear HH3 HT
          go_wp2
          go_roundw
          case rel => exact ⟨k + 1, by omega, by go_num, HX⟩
          case measure => simp [intOf] <;> omega
        · have ek : ((k : Int) == m) = false := by simp; omega
          have hh := HH3.out.symm.trans (HNO.out k tx (by omega) HT.out)
          clear HH3 HT
          cases ok with
          | false =>
            clear hh
            go_wp2
            go_roundw
            case rel => exact ⟨k + 1, by omega, by go_num, HX⟩
            case measure => simp [intOf] <;> omega
          | true =>
            cases p1 with
            | false =>
              clear hh
              go_wp2
              go_roundw
              case rel => exact ⟨k + 1, by omega, by go_num, HX⟩
              case measure => simp [intOf] <;> omega
            | true =>
              cases p2 with
              | false =>
                clear hh
                go_wp2
                go_roundw
                case rel => exact ⟨k + 1, by omega, by go_num, HX⟩
                case measure => simp [intOf] <;> omega
              | true =>
                cases p3 with
                | false =>
                  clear hh
                  go_wp2
                  go_roundw
                  case rel => exact ⟨k + 1, by omega, by go_num, HX⟩
                  case measure => simp [intOf] <;> omega
                | true =>
                  obtain rfl : p4 = false := by simpa using hh
                  clear hh
                  go_wp2
                  go_roundw
                  case rel => exact ⟨k + 1, by omega, by go_num, HX⟩
                  case measure => simp [intOf] <;> omega
      · obtain rfl : k = m + 1 := by omega
        have HE := Lib.hid (HB3.out.trans (HD.out.mono HB3.out.size))
        go_wp2
        go_ret
        exact ⟨by simp <;> omega, HE.out⟩
set_option maxRecDepth 100000 in
theorem FnFind_contract (H : Type) (enc : TypeId × Value → H) (W : World) (base : Nat) (args : Array Value) (ds gs : List (DataW H)) (before : List MemPlace)
    (hval : ∀ (j : Nat) t v, Tryz.f5.params[j]? = some t → args[j]? = some v → Value.okWide Tryz.prog W .any base t v)
    (hW : DataW.Whole enc Tryz.prog Tryz.f5.params.toList Rows.fnFindSpec.vars false W args.toList ds gs before) (hL : laidMetH Tryz.prog Rows.fnFindRow.laid W) (hsh : W.ShapedOpen Tryz.prog) :
    Calls Tryz.prog 5 args W fun e W' => ∃ v, e = .returned v ∧ Rows.fnFindSpec.post enc Tryz.prog Tryz.f5 false true false false W args v W' := by
  have hW' := hW
  obtain ⟨p, q, hA0, hV, rfl, _, _⟩ := hW
  have hA : DataW.TrodAll enc Tryz.prog W 0 (fun _ => true) true Tryz.f5.params.toList args.toList ds p := hA0
  rw [Tryz.params5] at hA hval
  obtain ⟨v0, vs0, d0, ds0, p0, q0, hargs, rfl, rfl, h0, r0⟩ := trodAll_cons hA
  obtain ⟨rfl, rfl, rfl⟩ := trodAll_nil r0
  obtain rfl : args = #[v0] := by cases args; simp_all
  obtain ⟨rfl, rfl⟩ := trodVars_none hV
  obtain ⟨a0, c0, l0, rfl, n0, m0, s0⟩ := open_bytes Tryz.underlying22 Tryz.underlying5 (by kernel_rfl) (hval 0 22 v0 rfl rfl) h0
  clear hA0
  refine (FnFind_walk W (varsT_of hL hsh) a0 c0 l0 n0 m0 s0).mono fun e W' ⟨he, hb⟩ => ⟨_, he, ?_⟩
  exact law_post laidOut (by kernel_rfl) (by kernel_rfl) rfl Tryz.underlying4 hW' rfl rfl rfl hb
set_option maxRecDepth 100000 in
theorem FnFind_reads (os : Os) {H : Type} (enc : TypeId × Value → H) : ∃ places, DataW.whole enc Tryz.prog ((laidWorldV os).forCall (fun _ _ => 0) ⟨#[], #[.slice none 0 0], []⟩).memory Tryz.f5.params.toList Rows.fnFindSpec.vars false #[(.slice none 0 0 : Value)].toList 8 = some ([.nil], [], places) :=
  ⟨[], by kernel_rfl⟩
set_option maxRecDepth 100000 in
theorem FnFind_lifted (os : Os) (started : os.Started) (H : Type) (enc : TypeId × Value → H) (F : Stop.Interp) :
    ReturnsInHanded {} Tryz.checked os 5 .any ((OpenSpec.ofChange Rows.fnFindSpec).preRow enc Tryz.prog Tryz.f5 Rows.fnFindRow.domain false Rows.fnFindRow.laid) (((OpenSpec.ofChange Rows.fnFindSpec).at F).post enc Tryz.prog Tryz.f5 false true false false) := by
  obtain ⟨places, hx⟩ := FnFind_reads os enc
  refine returnsInHanded_of_row (C := Tryz.checked) (s := OpenSpec.ofChange Rows.fnFindSpec) own started (by kernel_rfl) Tryz.func5
    (witness_row_at (enc := enc) (C := Tryz.checked) false (laidWorldV os) #[.slice none 0 0] rfl (by kernel_rfl) (by kernel_rfl) (by kernel_rfl)
      (OpenSpec.preRow_of_cond 8 hx (by kernel_rfl) (fun k hk => by cases hk) (by kernel_rfl) (laid_metV os _))) ?_
  intro W base args ds gs before hval hW _ _ _ hL hsh _
  exact FnFind_contract H enc W base args ds gs before hval hW hL hsh
set_option maxRecDepth 100000 in
theorem FnFind_said : Rows.FnFindSaid :=
  OpenClaim.holds_of_cond 5 Tryz.f5 rfl rfl rfl rfl rfl rfl rfl ⟨rfl, rfl, rfl, rfl, rfl⟩ rfl rfl rfl rfl rfl (by kernel_rfl) Tryz.func5 (by kernel_rfl)
    (of_decide_eq_true (by kernel_rfl)) (by unfold Func.isWrapper; first | (rw [if_pos (by decide +kernel)]; kernel_rfl) | (rw [if_neg (by decide +kernel)]; exact ⟨rfl, rfl⟩))
    (fun os started H enc _ F => by rw [OpenClaim.pre_eq_preRow]; exact FnFind_lifted os started H enc F)
set_option maxRecDepth 100000 in
theorem FnFind_plain (f : FuncId) (fn : Func) (hf : Tryz.pinned.checked.prog.funcNamed "loop.example/quadraticorbits/laws.FnFind" = some f) (hfn : Tryz.pinned.checked.prog.funcs[f]? = some fn) :
    true = Tryz.pinned.checked.prog.looks [] ∧ ∀ (j : Nat) t, fn.params[j]? = some t → Tryz.pinned.checked.prog.wantsStandIn t = false := by
  obtain rfl : f = 5 := Option.some.inj ((show Tryz.prog.funcNamed "loop.example/quadraticorbits/laws.FnFind" = some 5 by kernel_rfl).symm.trans hf) |>.symm
  obtain rfl : fn = Tryz.f5 := (Option.some.inj (Tryz.func5.symm.trans hfn)).symm
  refine ⟨by kernel_rfl, fun j t ht => ?_⟩
  rw [Tryz.params5] at ht
  obtain rfl : t = 22 := by simpa using Array.mem_of_getElem? ht
  exact (show Tryz.prog.wantsStandIn 22 = false by kernel_rfl)

set_option maxRecDepth 100000 in
theorem FnFind_holds : Rows.FnFindCardSaid :=
  Claim7.holds_tied_plain_at .later [] _ _ _ _ FnFind_said (fun _ h => by cases h) (by kernel_rfl) (fun _ h => by cases h) fnFind_row_tie rfl ⟨rfl, rfl⟩ (by kernel_rfl) rfl FnFind_plain (by kernel_rfl)
end Go.Proofs.YtidbdokoonikpaaGreatDoor
