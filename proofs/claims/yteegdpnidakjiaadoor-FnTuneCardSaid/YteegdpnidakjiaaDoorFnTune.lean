/- FnTune: tuned angles have longer periods. No condition. -/
import Derived.Test.YteegdpnidakjiaaDoorTunB
import Derived.Test.YteegdpnidakjiaaDoorBitsL
import Derived.Test.YteegdpnidakjiaaDoorDrU
import Derived.Test.YteegdpnidakjiaaDoorCardE
namespace Go.Proofs.YteegdpnidakjiaaDoor
open Go.ChangeShapes Go.WideShapes Go.ChangeAt Go.RowKit

/-- what is told of a tuned angle -/
theorem tune_some {n d k p : Nat} {z o : ByteArray} {x y : Nat} (h : tuneOf n d k p z o = some (x, y)) :
    k = 0 ∧ z.size = o.size ∧ 1 ≤ z.size ∧ p * z.size ≤ 9 ∧ angOf ⟨#[]⟩ ⟨(dueL z.data.toList o.data.toList (firsts (bitAt n d) p)).toArray⟩ = some (x, y) := by
  unfold tuneOf at h
  split at h
  · rename_i hc
    exact ⟨hc.1, hc.2.1, hc.2.2.1, hc.2.2.2.1, h⟩
  · cases h
/-- the bottom of an angle of a round divides 2^m - 1 -/
theorem angOf_round {s : ByteArray} {x y : Nat} (h : angOf ⟨#[]⟩ s = some (x, y)) : y ∣ 2 ^ s.size - 1 := by
  unfold angOf at h
  split at h
  · split at h
    · injection h with h
      injection h with hx hy
      rw [← hy]
      show lowD _ _ ∣ _
      have e : (2 ^ s.size - 1) * 2 ^ (⟨#[]⟩ : ByteArray).size = 2 ^ s.size - 1 := Nat.mul_one _
      rw [e]
      exact Nat.div_dvd_of_dvd (Nat.gcd_dvd_right _ _)
    · cases h
  · cases h
/-- its period divides m -/
theorem round_period {s : ByteArray} {x y z p : Nat} (h : angOf ⟨#[]⟩ s = some (x, y)) (hy : 1 ≤ y) (hy2 : y ≤ 1048576) (hP : PerIs y z p) : p ∣ s.size := by
  obtain ⟨q1, q2, _⟩ := perIs_parts (show y ≠ 0 by omega) (by omega) hP
  refine isPer_dvd hP.2 ?_
  have h1 := angOf_round h
  have h2 : y / 2 ^ z ∣ 2 ^ s.size - 1 := Nat.dvd_trans ⟨2 ^ z, by rw [Nat.mul_comm]; exact q1.symm⟩ h1
  exact ((mod_eq_dvd Nat.one_le_two_pow).2 h2).symm
set_option maxRecDepth 100000 in
set_option maxHeartbeats 8000000 in
theorem FnTune_walk (w : World) (hT : Tab w) (hE : ErrT w) (a : Option Addr) (c : Nat) (bs : List UInt8) (_ : bs.length ≤ maxLen) (hc : bs.length ≤ c) (hs : Sl w a (bs.map byteV)) :
    Calls Tryd.prog 3 #[.slice a bs.length c] w fun e w' => e = .returned (.bool true) ∧ Below w.heap.size w w' := by
  by_cases hb : 1048576 < bs.length
  · clear hT hs hE
    go_enter Tryd.func3, Tryd.ntmps3
    go_wp2
    go_ret
    exact ⟨rfl, Below.refl _ _⟩
  have H := Lib.hid (drawAngleTune_any a c bs (by omega) hc w hs)
  have HE := Lib.hid (fun W (h : Below w.heap.size w W) => hE.step h)
  have HT := Lib.hid (fun W (h : Below w.heap.size w W) => hT.step h)
  clear hs hT hE
  go_enter Tryd.func3, Tryd.ntmps3
  go_wp2_with fail
  refine H.out.mono ?_
  rintro e w1 ⟨⟨n, d, z, o, rfl, hd7, hok, hz, ho⟩, hb⟩
  have Ba := (Box.new w1 #[.int .i64 n, .int .i64 d] 24).up hb
  clear hb H
  have a0 := Ba.cell 0 _ rfl
  have a1 := Ba.cell 1 _ rfl
  obtain ⟨nn', d', e1, e2, hnd, _, _⟩ := angleOK_nat hok
  obtain ⟨k, p, hPI⟩ := perIs_exists (d := d) (by omega) (by omega)
  obtain ⟨t1, t2⟩ := tune_good n d k p hok (by omega) hPI z o (by omega) (by omega)
  cases hv : tuneOf n d k p z o with
  | none =>
    rw [hv, angV_no] at t1 t2
    have C1 := Lib.hid (t1 _ (HT.out _ Ba.old) (HE.out _ Ba.old))
    have C2 := Lib.hid t2
    clear t1 t2 hv hPI hok hnd e1 e2
    go_wp2_with fail
    refine C1.out.mono ?_
    rintro e w2 ⟨rfl, hb⟩
    clear a0 a1 C1
    replace Ba := Ba.step hb
    clear hb
    have X := (Box.new w2 #[.int .i64 0, .int .i64 0] 24).up Ba.old
    replace Ba := Ba.alloc (.cells #[.int .i64 0, .int .i64 0] 24)
    have a0 := Ba.cell 0 _ rfl
    have a1 := Ba.cell 1 _ rfl
    go_wp2_with fail
    refine (C2.out _).mono ?_
    rintro e w3 ⟨rfl, hb⟩
    clear a0 a1 Ba
    replace X := X.step hb
    clear hb
    have Y := (Box.new w3 #[.int .i64 0, .int .i64 0] 24).up X.old
    replace X := X.alloc (.cells #[.int .i64 0, .int .i64 0] 24)
    have c0 := X.cell 0 _ rfl
    have c1 := X.cell 1 _ rfl
    have d0 := Y.cell 0 _ rfl
    have d1 := Y.cell 1 _ rfl
    have HB := Lib.hid X.old
    clear X Y
    go_wp2
    go_ret
    exact ⟨rfl, HB.out⟩
  | some xy =>
    obtain ⟨x, y⟩ := xy
    obtain ⟨c1, c2, c3, c4, c5⟩ := tune_some hv
    obtain ⟨k1, k2, k3, k4, k5, k6, k7⟩ := angOf_bits c5
    have e3 : angV (some (x, y)) = .tuple #[.agg #[.int .i64 x, .int .i64 y], .bool true] := rfl
    rw [hv, e3] at t1 t2
    have okx : angleOK (x : Int) y = true := by rw [angleOK_of k1 k2, k3]; rfl
    have hdiv := angOf_round c5
    have hp9 : p ≤ 9 := Nat.le_trans (Nat.le_mul_of_pos_right p c3) c4
    obtain ⟨_, _, _, _, _, p1, _, _⟩ := perIs_parts (show d ≠ 0 by omega) (by omega) hPI
    have hz9 : z.size ≤ 9 := Nat.le_trans (Nat.le_mul_of_pos_left z.size p1) c4
    -- the due text
    obtain ⟨s, hs⟩ : ∃ s : ByteArray, s = ⟨(dueL z.data.toList o.data.toList (firsts (bitAt n d) p)).toArray⟩ := ⟨_, rfl⟩
    rw [← hs] at c5 k4 k6 k7 hdiv
    have hy5 : y ≤ 5000 := by
      have h2 : 2 ^ s.size ≤ 2 ^ 9 := Nat.pow_le_pow_right (by omega) k7
      have h3 : 2 ^ 1 ≤ 2 ^ s.size := Nat.pow_le_pow_right (by omega) k6
      have := Nat.le_of_dvd (by omega) hdiv
      omega
    obtain ⟨ky, py, hPy⟩ := perIs_exists (d := y) (by omega) (by omega)
    have hpd := round_period c5 (by omega) k2 hPy
    obtain ⟨_, _, _, _, _, py1, py2, _⟩ := perIs_parts (show y ≠ 0 by omega) (by omega) hPy
    have C1 := Lib.hid (t1 _ (HT.out _ Ba.old) (HE.out _ Ba.old))
    have C2 := Lib.hid t2
    have C3 : Hid (∀ w, Tab w → Calls Tryd.prog 7 #[.agg #[.int .i64 n, .int .i64 d]] w fun e w' => e = .returned (.tuple #[.int .i64 k, .int .i64 p, .bool true]) ∧ Below w.heap.size w w') := fun w hT => (implAnglePeriod_gen n d w hT).mono fun e w' h => ⟨h.2.1 d k p rfl (by omega) hok hPI, h.2.2⟩
    have hq : angBits n d p = some (firsts (bitAt n d) p) := by
      unfold angBits
      rw [hok, inB_yes (by omega) (by omega)]
      rfl
    obtain ⟨q, hqe⟩ : ∃ q : ByteArray, q = ⟨(firsts (bitAt n d) p).toArray⟩ := ⟨_, rfl⟩
    have C4 : Hid (∀ w, Calls Tryd.prog 8 #[.agg #[.int .i64 n, .int .i64 d], .int .i64 p] w fun e w' => e = .returned (.tuple #[.string q, .bool true]) ∧ Below w.heap.size w w') := by
      intro w
      have h := implAngleBits_any n d p w
      rw [hq, Option.getD_some, Option.isSome_some, ← hqe] at h
      exact h
    have hqs : q.size = p := by rw [hqe]; exact bits_size n d p
    have hqd : q.data.toList = firsts (bitAt n d) p := by rw [hqe]
    have hsd : s = ⟨(dueL z.data.toList o.data.toList q.data.toList).toArray⟩ := by rw [hqd]; exact hs
    have C5 : Hid (∀ w, Calls Tryd.prog 8 #[.agg #[.int .i64 x, .int .i64 y], .int .i64 (s.size : Nat)] w fun e w' => e = .returned (.tuple #[.string s, .bool true]) ∧ Below w.heap.size w w') := by
      intro w
      have h := implAngleBits_any x y (s.size : Nat) w
      have hq2 : angBits x y (s.size : Nat) = some (firsts (bitAt x y) s.size) := by
        unfold angBits
        rw [okx, inB_yes (by omega) (by omega)]
        rfl
      have k4' : firsts (bitAt x y) s.size = s.data.toList := by
        have e0 : (⟨#[]⟩ : ByteArray).size + s.size = s.size := Nat.zero_add _
        rw [e0] at k4
        rw [k4]; rfl
      rw [hq2, Option.getD_some, Option.isSome_some, k4'] at h
      have e5 : (⟨s.data.toList.toArray⟩ : ByteArray) = s := by simp
      rw [e5] at h
      exact h
    have C6 : Hid (∀ w, Tab w → Calls Tryd.prog 7 #[.agg #[.int .i64 x, .int .i64 y]] w fun e w' => e = .returned (.tuple #[.int .i64 ky, .int .i64 py, .bool true]) ∧ Below w.heap.size w w') := fun w hT => (implAnglePeriod_gen x y w hT).mono fun e w' h => ⟨h.2.1 y ky py rfl (by omega) okx hPy, h.2.2⟩
    have HSD := Lib.hid hsd
    have hmod : ((s.size : Nat) : Int).tmod py = 0 := by
      rw [Int.tmod_eq_emod_of_nonneg (by omega)]
      have : ((s.size : Nat) : Int) % (py : Int) = ((s.size % py : Nat) : Int) := (Int.natCast_emod _ _).symm
      rw [this, Nat.mod_eq_zero_of_dvd hpd]; rfl
    have hpz : ((py : Int) == 0) = false := by simp; omega
    have hs9 : s.size ≤ 9 := k7
    clear t1 t2 hv hPI hok hnd e1 e2 e3 k1 k2 k3 k4 k5 k6 k7 c1 c4 c5 okx hdiv hs hy5 hPy hpd py2 hq hqe hqd hsd
    go_wp2_with fail
    refine C1.out.mono ?_
    rintro e w2 ⟨rfl, hb⟩
    clear a0 a1 C1
    replace Ba := Ba.step hb
    clear hb
    have X := (Box.new w2 #[.int .i64 x, .int .i64 y] 24).up Ba.old
    replace Ba := Ba.alloc (.cells #[.int .i64 x, .int .i64 y] 24)
    have a0 := Ba.cell 0 _ rfl
    have a1 := Ba.cell 1 _ rfl
    go_wp2_with fail
    refine (C2.out _).mono ?_
    rintro e w3 ⟨rfl, hb⟩
    clear a0 a1 C2
    replace X := X.step hb
    replace Ba := Ba.step hb
    clear hb
    have Y := (Box.new w3 #[.int .i64 x, .int .i64 y] 24).up X.old
    replace X := X.alloc (.cells #[.int .i64 x, .int .i64 y] 24)
    replace Ba := Ba.alloc (.cells #[.int .i64 x, .int .i64 y] 24)
    have x0 := X.cell 0 _ rfl
    have x1 := X.cell 1 _ rfl
    have y0 := Y.cell 0 _ rfl
    have y1 := Y.cell 1 _ rfl
    have a0 := Ba.cell 0 _ rfl
    have a1 := Ba.cell 1 _ rfl
    have K3 := Lib.hid (C3.out _ (HT.out _ Ba.old))
    go_wp2_with fail
    refine K3.out.mono ?_
    rintro e w4 ⟨rfl, hb⟩
    clear a0 a1 x0 x1 y0 y1 Y C3 K3
    replace X := X.step hb
    replace Ba := Ba.step hb
    clear hb
    have a0 := Ba.cell 0 _ rfl
    have a1 := Ba.cell 1 _ rfl
    go_wp2_with fail
    refine (C4.out _).mono ?_
    rintro e w5 ⟨rfl, hb⟩
    clear a0 a1 C4
    replace X := X.step hb
    clear hb Ba
    have HX := Lib.hid X
    clear X
    go_wp2
    go_loopw [15, 16] (fun t i wr => ∃ (j : Nat) (u : ByteArray), j ≤ q.size ∧ i = .int .i64 j ∧ t = .string u ∧ u.size ≤ 9 * j ∧ Hid (u = ⟨(dueL z.data.toList o.data.toList (q.data.toList.take j)).toArray⟩) ∧ w5 = wr) (fun _ i _ => (q.size - intOf i).toNat)
    case atStart => exact ⟨0, _, by omega, rfl, rfl, by decide, rfl, rfl⟩
    case round =>
      obtain ⟨j, u, hj, rfl, rfl, hsz, HS, rfl⟩ := hrel
      by_cases hp : j < q.size
      · have hp1 : (j : Int) < q.size := by omega
        have HTK := Lib.hid (take_succ_at q j hp)
        have hz9' : (u ++ z).size ≤ 9 * (j + 1) := by rw [ByteArray.size_append]; omega
        have ho9' : (u ++ o).size ≤ 9 * (j + 1) := by rw [ByteArray.size_append]; omega
        have HZ9 := Lib.hid hz9'
        have HO9 := Lib.hid ho9'
        clear hz9' ho9'
        by_cases c48 : (q[j]'hp).toNat = 48
        · have e1 : ((((q[j]'hp).toNat : Nat) : Int) == 48) = true := by simp; omega
          have HD : Hid (u ++ z = ⟨(dueL z.data.toList o.data.toList (q.data.toList.take (j + 1))).toArray⟩) := by
            show _ = _
            rw [HTK.out, dueL_append, show q[j]'hp = 48 from UInt8.toNat.inj c48, HS.out, cat_list]; simp [dueL]
          clear c48
          go_wp2
          go_roundw
          case rel => exact ⟨j + 1, _, by omega, by go_num, rfl, HZ9.out, HD, trivial⟩
          case measure => simp [intOf]; omega
        · have e1 : ((((q[j]'hp).toNat : Nat) : Int) == 48) = false := by simp; omega
          have HD : Hid (u ++ o = ⟨(dueL z.data.toList o.data.toList (q.data.toList.take (j + 1))).toArray⟩) := by
            show _ = _
            have hne : ¬ q[j]'hp = 48 := fun e => c48 (by rw [e]; rfl)
            rw [HTK.out, dueL_append, HS.out, cat_list]; simp [dueL, hne]
          clear c48
          go_wp2
          go_roundw
          case rel => exact ⟨j + 1, _, by omega, by go_num, rfl, HO9.out, HD, trivial⟩
          case measure => simp [intOf]; omega
      · have hjq : j = q.size := by omega
        have hp1 : ¬ (j : Int) < q.size := by omega
        have hall : q.data.toList.take j = q.data.toList := List.take_of_length_le (by rw [len_eq]; omega)
        have hus : u = s := by rw [HS.out, hall, HSD.out]
        subst hus
        have x0 := HX.out.cell 0 _ rfl
        have x1 := HX.out.cell 1 _ rfl
        clear hall HS hjq HSD
        go_wp2_with fail
        refine (C5.out _).mono ?_
        rintro e w6 ⟨rfl, hb⟩
        clear x0 x1 C5
        have X := HX.out.step hb
        clear hb
        have x0 := X.cell 0 _ rfl
        have x1 := X.cell 1 _ rfl
        have K6 := Lib.hid (C6.out _ (HT.out _ X.old))
        go_wp2_with fail
        refine K6.out.mono ?_
        rintro e w7 ⟨rfl, hb⟩
        have HB := Lib.hid (X.step hb).old
        clear x0 x1 X hb K6 C6 HX
        go_wp2
        go_ret
        exact ⟨rfl, HB.out⟩
set_option maxRecDepth 100000 in
theorem FnTune_contract (H : Type) (enc : TypeId × Value → H) (W : World) (base : Nat) (args : Array Value) (ds gs : List (DataW H)) (before : List MemPlace)
    (hval : ∀ (j : Nat) t v, Tryd.f3.params[j]? = some t → args[j]? = some v → Value.okWide Tryd.prog W .any base t v)
    (hW : DataW.Whole enc Tryd.prog Tryd.f3.params.toList Rows.fnTuneSpec.vars false W args.toList ds gs before) (hL : laidMetH Tryd.prog Rows.fnTuneRow.laid W) :
    Calls Tryd.prog 3 args W fun e W' => ∃ v, e = .returned v ∧ Rows.fnTuneSpec.post enc Tryd.prog Tryd.f3 false true false false W args v W' := by
  have hW' := hW
  obtain ⟨p, q, hA0, hV, rfl, _, _⟩ := hW
  have hA : DataW.TrodAll enc Tryd.prog W 0 (fun _ => true) true Tryd.f3.params.toList args.toList ds p := hA0
  rw [Tryd.params3] at hA hval
  obtain ⟨v0, vs0, d0, ds0, p0, q0, hargs, rfl, rfl, h0, r0⟩ := trodAll_cons hA
  obtain ⟨rfl, rfl, rfl⟩ := trodAll_nil r0
  obtain rfl : args = #[v0] := by cases args; simp_all
  obtain ⟨rfl, rfl⟩ := trodVars_none hV
  obtain ⟨a0, c0, l0, rfl, n0, m0, s0⟩ := open_bytes Tryd.underlying22 Tryd.underlying5 (by kernel_rfl) (hval 0 22 v0 rfl rfl) h0
  clear hA0
  refine (FnTune_walk W (tab_of3 hL) (err_of3 hL) a0 c0 l0 n0 m0 s0).mono fun e W' ⟨he, hb⟩ => ⟨_, he, ?_⟩
  exact law_post laidOut (by kernel_rfl) (by kernel_rfl) rfl Tryd.underlying4 hW' rfl rfl rfl hb
set_option maxRecDepth 100000 in
theorem FnTune_reads (os : Os) {H : Type} (enc : TypeId × Value → H) : ∃ places, DataW.whole enc Tryd.prog ((laidWorld3 os).forCall (fun _ _ => 0) ⟨#[], #[.slice none 0 0], []⟩).memory Tryd.f3.params.toList Rows.fnTuneSpec.vars false #[(.slice none 0 0 : Value)].toList 8 = some ([.nil], [], places) :=
  ⟨[], by kernel_rfl⟩
set_option maxRecDepth 100000 in
theorem FnTune_lifted (os : Os) (started : os.Started) (H : Type) (enc : TypeId × Value → H) (F : Stop.Interp) :
    ReturnsInHanded {} Tryd.checked os 3 .any ((OpenSpec.ofChange Rows.fnTuneSpec).preRow enc Tryd.prog Tryd.f3 Rows.fnTuneRow.domain false Rows.fnTuneRow.laid) (((OpenSpec.ofChange Rows.fnTuneSpec).at F).post enc Tryd.prog Tryd.f3 false true false false) := by
  obtain ⟨places, hx⟩ := FnTune_reads os enc
  refine returnsInHanded_of_row (C := Tryd.checked) (s := OpenSpec.ofChange Rows.fnTuneSpec) own started (by kernel_rfl) Tryd.func3
    (witness_row_at (enc := enc) (C := Tryd.checked) false (laidWorld3 os) #[.slice none 0 0] rfl (by kernel_rfl) (by kernel_rfl) (by kernel_rfl)
      (OpenSpec.preRow_of_cond 8 hx (by kernel_rfl) (fun k hk => by cases hk) (by kernel_rfl) (laid_met3 os _))) ?_
  intro W base args ds gs before hval hW _ _ _ hL _ _
  exact FnTune_contract H enc W base args ds gs before hval hW hL
set_option maxRecDepth 100000 in
theorem FnTune_said : Rows.FnTuneSaid :=
  OpenClaim.holds_of_cond 3 Tryd.f3 rfl rfl rfl rfl rfl rfl rfl ⟨rfl, rfl, rfl, rfl, rfl⟩ rfl rfl rfl rfl rfl (by kernel_rfl) Tryd.func3 (by kernel_rfl)
    (of_decide_eq_true (by kernel_rfl)) (by unfold Func.isWrapper; first | (rw [if_pos (by decide +kernel)]; kernel_rfl) | (rw [if_neg (by decide +kernel)]; exact ⟨rfl, rfl⟩))
    (fun os started H enc _ F => by rw [OpenClaim.pre_eq_preRow]; exact FnTune_lifted os started H enc F)
set_option maxRecDepth 100000 in
theorem FnTune_plain (f : FuncId) (fn : Func) (hf : Tryd.pinned.checked.prog.funcNamed "loop.example/quadraticorbits/laws.FnTune" = some f) (hfn : Tryd.pinned.checked.prog.funcs[f]? = some fn) :
    true = Tryd.pinned.checked.prog.looks [] ∧ ∀ (j : Nat) t, fn.params[j]? = some t → Tryd.pinned.checked.prog.wantsStandIn t = false := by
  obtain rfl : f = 3 := Option.some.inj ((show Tryd.prog.funcNamed "loop.example/quadraticorbits/laws.FnTune" = some 3 by kernel_rfl).symm.trans hf) |>.symm
  obtain rfl : fn = Tryd.f3 := (Option.some.inj (Tryd.func3.symm.trans hfn)).symm
  refine ⟨by kernel_rfl, fun j t ht => ?_⟩
  rw [Tryd.params3] at ht
  obtain rfl : t = 22 := by simpa using Array.mem_of_getElem? ht
  exact (show Tryd.prog.wantsStandIn 22 = false by kernel_rfl)

set_option maxRecDepth 100000 in
theorem FnTune_holds : Rows.FnTuneCardSaid :=
  Claim7.holds_tied_plain_at .later [] _ _ _ _ FnTune_said (fun _ h => by cases h) (by kernel_rfl) (fun _ h => by cases h) fnTune_row_tie rfl ⟨rfl, rfl⟩ (by kernel_rfl) rfl FnTune_plain (by kernel_rfl)
end Go.Proofs.YteegdpnidakjiaaDoor
