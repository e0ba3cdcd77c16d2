/- FnKneading: mirrored angles have the same kneading. No condition. -/
import Derived.Test.YtcdkhacccbdmdaaDoorKneP
import Derived.Test.YtcdkhacccbdmdaaDoorPerW
import Derived.Test.YtcdkhacccbdmdaaDoorDrB
import Derived.Test.YtcdkhacccbdmdaaDoorAngI
import Derived.Test.YtcdkhacccbdmdaaDoorCard
namespace Go.Proofs.YtcdkhacccbdmdaaDoor
open Go.ChangeShapes Go.WideShapes Go.ChangeAt Go.RowKit

set_option maxHeartbeats 1000000 in
theorem drawAngleKneading_any (a : Option Addr) (c : Nat) (bs : List UInt8) (hn : bs.length ≤ 1048576) (hc : bs.length ≤ c) (w : World) (hs : Sl w a (bs.map byteV)) :
    Calls Tryd.prog 18 #[.slice a bs.length c] w fun e w' => (∃ x y n : Int, e = .returned (.tuple #[.agg #[.int .i64 x, .int .i64 y], .int .i64 n]) ∧ DrawnA x y) ∧ Below w.heap.size w w' := by
  have X := Box.new w #[.int .i64 0, .int .i64 0] 24
  have H := Lib.hid (drawAngleBits_any a c bs hn hc _ (hs.alloc (.cells #[.int .i64 0, .int .i64 0] 24)))
  clear hs
  go_enter Tryd.func18, Tryd.ntmps18
  go_wp2_with fail
  refine H.out.mono ?_
  rintro e w1 ⟨⟨x, y, n, rfl, hxy⟩, hb⟩
  replace X := X.step hb
  have HX := Lib.hid hxy
  have c0 := X.cell 0 _ rfl
  have c1 := X.cell 1 _ rfl
  have f0 := X.frozen 0
  have f1 := X.frozen 1
  have HB := Lib.hid X.old
  clear X hb hxy H
  go_wp2
  exact bodyPost_ret (v := .tuple #[.agg #[.int .i64 x, .int .i64 y], .int .i64 n]) (by simp [results, Tryd.f18, go_sem, c0, c1]) rfl ⟨⟨x, y, n, rfl, HX.out⟩, (HB.out.setCell (p := ⟨w.heap.size, 0, none⟩) (Nat.le_refl _) _).setCell (p := ⟨w.heap.size, 1, none⟩) (Nat.le_refl _) _⟩
set_option maxHeartbeats 4000000 in
theorem FnKneading_walk (w : World) (hT : Tab w) (a : Option Addr) (c : Nat) (bs : List UInt8) (_ : bs.length ≤ maxLen) (hc : bs.length ≤ c) (hs : Sl w a (bs.map byteV)) :
    Calls Tryd.prog 5 #[.slice a bs.length c] w fun e w' => e = .returned (.bool true) ∧ Below w.heap.size w w' := by
  by_cases hb : 1048576 < bs.length
  · clear hT hs
    go_enter Tryd.func5, Tryd.ntmps5
    go_wp2
    go_ret
    exact ⟨rfl, Below.refl _ _⟩
  have H := Lib.hid (drawAngleKneading_any a c bs (by omega) hc w hs)
  have HT := Lib.hid hT
  clear hs hT
  go_enter Tryd.func5, Tryd.ntmps5
  go_wp2_with fail
  refine H.out.mono ?_
  rintro e w1 ⟨⟨x, y, n, rfl, hxy⟩, hb⟩
  have HX := Lib.hid hxy
  have hper : y ≤ 64 ∨ 5000 < y := by
    rcases hxy with h | ⟨h1, h2⟩
    · exact .inl h
    · exact .inr (by omega)
  clear hxy H
  replace HT := Lib.hid ((HT.out.step hb).step ((Below.refl _ _).alloc (Nat.le_refl _) (.cells #[.int .i64 x, .int .i64 y] 24)))
  have Ba := (Box.new w1 #[.int .i64 x, .int .i64 y] 24).up hb
  clear hb
  have a0 := Ba.cell 0 _ rfl
  have a1 := Ba.cell 1 _ rfl
  cases hq : angSigns x y n with
  | none =>
    have C1 := Lib.hid (fun w => implAngleKneading_any x y n w)
    have C2 := Lib.hid (fun w => specAngleKneading_any x y n w)
    rw [hq] at C1 C2
    simp only [Option.getD_none, Option.isSome_none] at C1 C2
    clear hq
    go_wp2_with fail
    refine (C1.out _).mono ?_
    rintro e w2 ⟨rfl, hb⟩
    clear a0 a1
    replace Ba := Ba.step hb
    clear hb
    have a0 := Ba.cell 0 _ rfl
    have a1 := Ba.cell 1 _ rfl
    go_wp2_with fail
    refine (C2.out _).mono ?_
    rintro e w3 ⟨rfl, hb⟩
    have HB := Lib.hid (Ba.step hb).old
    clear a0 a1 Ba hb
    go_wp2
    go_ret
    exact ⟨rfl, HB.out⟩
  | some l =>
    have hok : angleOK x y = true := by
      cases h : angleOK x y with
      | true => rfl
      | false => simp [angSigns, h] at hq
    have hin : inB n 0 64 = true := by
      cases h : inB n 0 64 with
      | true => rfl
      | false => simp [angSigns, h] at hq
    have hn64 : 0 ≤ n ∧ n ≤ 64 := by simpa [inB] using hin
    obtain ⟨k, rfl⟩ := Int.eq_ofNat_of_zero_le hn64.1
    obtain ⟨nn, d, rfl, rfl, hnd, hd, hg⟩ := angleOK_nat hok
    have hl : l = firsts (signAt nn d) k := by
      unfold angSigns at hq
      rw [hok, hin] at hq
      exact (Option.some.inj hq).symm
    have hkk : k ≤ 64 := by omega
    -- the plain facts
    obtain ⟨P1, P2, P3, m, hm1, hm2, hmd, hsame, hstar, C5⟩ : ∃ (P1 P2 : Nat) (P3 : Bool) (m : Nat), lowN (d - nn) d = m ∧ lowD (d - nn) d = d ∧ (m < d ∧ Nat.gcd m d = 1) ∧ (∀ j, j < 64 → signAt nn d j = signAt m d j) ∧
        ((P3 && decide (P1 = 0)) = true → 1 ≤ P2 ∧ ∀ j, j < 64 → ((signAt nn d j).toNat = 42 ↔ (j + 1) % P2 = 0)) ∧
        Hid (∀ w, Tab w → Calls Tryd.prog 12 #[.agg #[.int .i64 nn, .int .i64 d]] w fun e w' => e = .returned (.tuple #[.int .i64 P1, .int .i64 P2, .bool P3]) ∧ Below w.heap.size w w') := by
      rcases HX.out with h | ⟨h1, h2⟩
      · have h0 := List.all_eq_true.1 (List.all_eq_true.1 okKn_all d (List.mem_range.2 (by omega))) nn (List.mem_range.2 hnd)
        have h1 : (Nat.beq (lowD (d - nn) d) d && okKn nn d (lowN (d - nn) d) (perOf d).2 (Nat.beq (perOf d).1 0) 64 0 nn (lowN (d - nn) d)) = true := by
          rw [hg] at h0
          simpa using h0
        rw [Bool.and_eq_true, Nat.beq_eq] at h1
        obtain ⟨h2, h3⟩ := h1
        have h4 := okKn_at nn d (lowN (d - nn) d) _ _ 64 0 h3
        have hgp : 1 ≤ Nat.gcd ((d - nn) % d) d := Nat.gcd_pos_of_pos_right _ (by omega)
        have hm3 : lowN (d - nn) d < d ∧ Nat.gcd (lowN (d - nn) d) d = 1 := by
          have e1 : Nat.gcd (lowN (d - nn) d) (lowD (d - nn) d) = 1 := Nat.coprime_div_gcd_div_gcd hgp
          have e2 : lowN (d - nn) d < lowD (d - nn) d := by
            have := Nat.mod_lt (d - nn) (show d > 0 by omega)
            have f1 : Nat.gcd ((d - nn) % d) d * ((d - nn) % d / Nat.gcd ((d - nn) % d) d) = (d - nn) % d := Nat.mul_div_cancel' (Nat.gcd_dvd_left _ _)
            have f2 : Nat.gcd ((d - nn) % d) d * (d / Nat.gcd ((d - nn) % d) d) = d := Nat.mul_div_cancel' (Nat.gcd_dvd_right _ _)
            unfold lowN lowD
            exact (Nat.mul_lt_mul_left hgp).1 (by rw [f1, f2]; exact this)
          rw [h2] at e1 e2
          exact ⟨e2, e1⟩
        refine ⟨(perOf d).1, (perOf d).2, true, _, rfl, h2, hm3, fun j hj => (h4 j (Nat.zero_le _) (by omega)).1, fun hz => ⟨(perOf_le d (by omega) (by omega)).2, fun j hj => (h4 j (Nat.zero_le _) (by omega)).2 ?_⟩, fun w hT => (implAnglePeriod_any nn d hper w hT).mono fun e w' k => ⟨k.2.1 d rfl h hok, k.2.2⟩⟩
        simpa [Nat.beq_eq] using hz
      · obtain rfl : nn = 1 := by omega
        obtain rfl : d = 1048576 := by omega
        have h1 := okKn_great
        rw [Bool.and_eq_true, Bool.and_eq_true, Nat.beq_eq, Nat.beq_eq] at h1
        obtain ⟨⟨g1, g2⟩, g3⟩ := h1
        have h4 := okKn_at 1 1048576 1048575 0 false 64 0 g3
        exact ⟨0, 0, false, 1048575, g1, g2, ⟨by decide, by decide⟩, fun j hj => (h4 j (Nat.zero_le _) (by omega)).1, fun hz => by simp at hz, fun w hT => (implAnglePeriod_any (1 : Nat) (1048576 : Nat) hper w hT).mono fun e w' k => ⟨k.1 (.inr (by decide)), k.2.2⟩⟩
    have hlm : l = firsts (signAt m d) k := by rw [hl]; exact firsts_same k (fun j hj => hsame j (by omega))
    have okm : angleOK (m : Int) d = true := by rw [angleOK_of hmd.1 hd, hmd.2]; rfl
    have hqm : angSigns m d k = some l := by
      unfold angSigns
      rw [okm, hin, hlm]
      rfl
    have C1 := Lib.hid (fun w => implAngleKneading_any nn d k w)
    have C2 := Lib.hid (fun w => specAngleKneading_any nn d k w)
    have C4 := Lib.hid (fun w => implAngleKneading_any m d k w)
    rw [hq] at C1 C2
    rw [hqm] at C4
    simp only [Option.getD_some, Option.isSome_some] at C1 C2 C4
    have C3 : Hid (∀ w, Calls Tryd.prog 16 #[.agg #[.int .i64 nn, .int .i64 d]] w fun e w' => e = .returned (.tuple #[.agg #[.int .i64 m, .int .i64 d], .bool true]) ∧ Below w.heap.size w w') := fun w => (implAngleMirror_any nn d w).mono fun e w' h => ⟨by have := h.2.1 nn d rfl rfl hok; rwa [hm1, hm2] at this, h.2.2⟩
    obtain ⟨s, hs⟩ : ∃ s : ByteArray, s = ⟨l.toArray⟩ := ⟨_, rfl⟩
    rw [← hs] at C1 C2 C4
    have hsz : s.size = k := by rw [hs, hl]; show (firsts (signAt nn d) k).toArray.size = k; simp [firsts_length]
    have HST : Hid ((P3 && decide (P1 = 0)) = true → 1 ≤ P2 ∧ ∀ j (hj : j < s.size), ((s[j]'hj).toNat = 42 ↔ (j + 1) % P2 = 0)) := by
      intro hz
      obtain ⟨z1, z2⟩ := hstar hz
      refine ⟨z1, fun j hj => ?_⟩
      rw [← z2 j (by omega), byte_eq s j hj]
      have e1 : s.data.toList = firsts (signAt nn d) k := by rw [hs, hl]
      rw [e1, firsts_get _ _ _ (by omega)]
    have r3 : (P3 != P3) = false := by simp
    clear hq hqm hl hlm okm hmd hsame hstar hs hm1 hm2 hok hin hn64 HX hg hnd hd
    go_wp2_with fail
    refine (C1.out _).mono ?_
    rintro e w2 ⟨rfl, hb⟩
    clear a0 a1
    replace Ba := Ba.step hb
    replace HT := Lib.hid (HT.out.step hb)
    clear hb
    have a0 := Ba.cell 0 _ rfl
    have a1 := Ba.cell 1 _ rfl
    go_wp2_with fail
    refine (C2.out _).mono ?_
    rintro e w3 ⟨rfl, hb⟩
    clear a0 a1
    replace Ba := Ba.step hb
    replace HT := Lib.hid (HT.out.step hb)
    clear hb
    have a0 := Ba.cell 0 _ rfl
    have a1 := Ba.cell 1 _ rfl
    go_wp2_with fail
    refine (C3.out _).mono ?_
    rintro e w4 ⟨rfl, hb⟩
    clear a0 a1
    replace Ba := Ba.step hb
    replace HT := Lib.hid ((HT.out.step hb).step ((Below.refl _ _).alloc (Nat.le_refl _) (.cells #[.int .i64 m, .int .i64 d] 24)))
    clear hb
    have Bm := (Box.new w4 #[.int .i64 m, .int .i64 d] 24).up Ba.old
    replace Ba := Ba.alloc (.cells #[.int .i64 m, .int .i64 d] 24)
    have m0 := Bm.cell 0 _ rfl
    have m1 := Bm.cell 1 _ rfl
    go_wp2_with fail
    refine (C4.out _).mono ?_
    rintro e w5 ⟨rfl, hb⟩
    clear m0 m1 Bm
    replace Ba := Ba.step hb
    replace HT := Lib.hid (HT.out.step hb)
    clear hb
    have a0 := Ba.cell 0 _ rfl
    have a1 := Ba.cell 1 _ rfl
    go_wp2_with fail
    refine (C5.out _ HT.out).mono ?_
    rintro e w6 ⟨rfl, hb⟩
    have HB := Lib.hid (Ba.step hb).old
    clear a0 a1 Ba hb HT C1 C2 C3 C4 C5
    go_wp2
    go_loopw [16] (fun i wr => ∃ j : Nat, j ≤ k ∧ i = .int .i64 j ∧ Drw w6 wr) (fun i _ => (k - intOf i).toNat)
    case atStart => exact ⟨0, by omega, rfl, Drw.refl _⟩
    case round =>
      obtain ⟨j, hj, rfl, hwr⟩ := hrel
      obtain ⟨wo, rfl⟩ : ∃ wo : World, wo = wr := ⟨_, rfl⟩
      have HBo := Lib.hid (HB.out.trans (hwr.below _))
      by_cases hlt : j < k
      · cases P3 with
        | false =>
          go_wp2
          go_ret
          exact ⟨rfl, HBo.out⟩
        | true =>
          by_cases hP1 : P1 = 0
          · obtain ⟨z1, z2⟩ := HST.out (by simp [hP1])
            have z3 := z2 j (by omega)
            have hp1 : ((P1 : Int) == 0) = true := by simp; omega
            have hz : ((P2 : Int) == 0) = false := by simp; omega
            have hjs : (j : Int) < s.size := by omega
            obtain ⟨bb, e1⟩ : ∃ bb, (((s[j]'(by omega)).toNat : Int) == 42) = bb := ⟨_, rfl⟩
            obtain ⟨r, hr⟩ : ∃ r, ((j : Int) + 1).tmod P2 = r := ⟨_, rfl⟩
            have hr0 : 0 ≤ r := by rw [← hr]; exact Int.tmod_nonneg _ (by omega)
            have hr1 : r < P2 := by rw [← hr]; exact Int.tmod_lt_of_pos _ (by omega)
            have e2 : (r == 0) = bb := by
              rw [← e1, ← hr, Int.tmod_eq_emod_of_nonneg (by omega)]
              apply Bool.eq_iff_iff.2
              rw [beq_iff_eq, beq_iff_eq]
              have q : ((j : Int) + 1) % (P2 : Int) = (((j + 1) % P2 : Nat) : Int) := (Int.natCast_emod (j + 1) P2).symm
              rw [q]
              have q2 : ((((j + 1) % P2 : Nat) : Int) = 0) ↔ (j + 1) % P2 = 0 := by omega
              rw [q2, ← z3]
              omega
            have e3 : (bb != bb) = false := by simp
            clear z2 z3
            go_wp2
            go_quiet (fail)
            go_wp2
            go_roundw
            case rel => exact ⟨j + 1, by omega, by go_num, hwr.drewN _⟩
            case measure => simp [intOf]; omega
          · have hp1 : ((P1 : Int) == 0) = false := by simp; omega
            go_wp2
            go_ret
            exact ⟨rfl, HBo.out⟩
      · have hjk : j = k := by omega
        have hlt2 : decide ((j : Int) < k) = false := by simp; omega
        go_wp2
        go_ret
        exact ⟨rfl, HBo.out⟩
set_option maxRecDepth 100000 in
theorem FnKneading_contract (H : Type) (enc : TypeId × Value → H) (W : World) (base : Nat) (args : Array Value) (ds gs : List (DataW H)) (before : List MemPlace)
    (hval : ∀ (j : Nat) t v, Tryd.f5.params[j]? = some t → args[j]? = some v → Value.okWide Tryd.prog W .any base t v)
    (hW : DataW.Whole enc Tryd.prog Tryd.f5.params.toList Rows.fnKneadingSpec.vars false W args.toList ds gs before) (hL : laidMetH Tryd.prog Rows.fnKneadingRow.laid W) :
    Calls Tryd.prog 5 args W fun e W' => ∃ v, e = .returned v ∧ Rows.fnKneadingSpec.post enc Tryd.prog Tryd.f5 false true false false W args v W' := by
  have hW' := hW
  obtain ⟨p, q, hA0, hV, rfl, _, _⟩ := hW
  have hA : DataW.TrodAll enc Tryd.prog W 0 (fun _ => true) true Tryd.f5.params.toList args.toList ds p := hA0
  rw [Tryd.params5] at hA hval
  obtain ⟨v0, vs0, d0, ds0, p0, q0, hargs, rfl, rfl, h0, r0⟩ := trodAll_cons hA
  obtain ⟨rfl, rfl, rfl⟩ := trodAll_nil r0
  obtain rfl : args = #[v0] := by cases args; simp_all
  obtain ⟨rfl, rfl⟩ := trodVars_none hV
  obtain ⟨a0, c0, l0, rfl, n0, m0, s0⟩ := open_bytes Tryd.underlying22 Tryd.underlying5 (by kernel_rfl) (hval 0 22 v0 rfl rfl) h0
  clear hA0
  refine (FnKneading_walk W (tab_of hL) a0 c0 l0 n0 m0 s0).mono fun e W' ⟨he, hb⟩ => ⟨_, he, ?_⟩
  exact law_post laidOut (by kernel_rfl) (by kernel_rfl) rfl Tryd.underlying4 hW' rfl rfl rfl hb
set_option maxRecDepth 100000 in
theorem FnKneading_reads (os : Os) {H : Type} (enc : TypeId × Value → H) : ∃ places, DataW.whole enc Tryd.prog ((laidWorld os).forCall (fun _ _ => 0) ⟨#[], #[.slice none 0 0], []⟩).memory Tryd.f5.params.toList Rows.fnKneadingSpec.vars false #[(.slice none 0 0 : Value)].toList 8 = some ([.nil], [], places) :=
  ⟨[], by kernel_rfl⟩
set_option maxRecDepth 100000 in
theorem FnKneading_lifted (os : Os) (started : os.Started) (H : Type) (enc : TypeId × Value → H) (F : Stop.Interp) :
    ReturnsInHanded {} Tryd.checked os 5 .any ((OpenSpec.ofChange Rows.fnKneadingSpec).preRow enc Tryd.prog Tryd.f5 Rows.fnKneadingRow.domain false Rows.fnKneadingRow.laid) (((OpenSpec.ofChange Rows.fnKneadingSpec).at F).post enc Tryd.prog Tryd.f5 false true false false) := by
  obtain ⟨places, hx⟩ := FnKneading_reads os enc
  refine returnsInHanded_of_row (C := Tryd.checked) (s := OpenSpec.ofChange Rows.fnKneadingSpec) own started (by kernel_rfl) Tryd.func5
    (witness_row_at (enc := enc) (C := Tryd.checked) false (laidWorld os) #[.slice none 0 0] rfl (by kernel_rfl) (by kernel_rfl) (by kernel_rfl)
      (OpenSpec.preRow_of_cond 8 hx (by kernel_rfl) (fun k hk => by cases hk) (by kernel_rfl) (laid_met os))) ?_
  intro W base args ds gs before hval hW _ _ _ hL _ _
  exact FnKneading_contract H enc W base args ds gs before hval hW hL
set_option maxRecDepth 100000 in
theorem FnKneading_said : Rows.FnKneadingSaid :=
  OpenClaim.holds_of_cond 5 Tryd.f5 rfl rfl rfl rfl rfl rfl rfl ⟨rfl, rfl, rfl, rfl, rfl⟩ rfl rfl rfl rfl rfl (by kernel_rfl) Tryd.func5 (by kernel_rfl)
    (of_decide_eq_true (by kernel_rfl)) (by unfold Func.isWrapper; first | (rw [if_pos (by decide +kernel)]; kernel_rfl) | (rw [if_neg (by decide +kernel)]; exact ⟨rfl, rfl⟩))
    (fun os started H enc _ F => by rw [OpenClaim.pre_eq_preRow]; exact FnKneading_lifted os started H enc F)
set_option maxRecDepth 100000 in
theorem FnKneading_plain (f : FuncId) (fn : Func) (hf : Tryd.pinned.checked.prog.funcNamed "loop.example/quadraticorbits/laws.FnKneading" = some f) (hfn : Tryd.pinned.checked.prog.funcs[f]? = some fn) :
    true = Tryd.pinned.checked.prog.looks [] ∧ ∀ (j : Nat) t, fn.params[j]? = some t → Tryd.pinned.checked.prog.wantsStandIn t = false := by
  obtain rfl : f = 5 := Option.some.inj ((show Tryd.prog.funcNamed "loop.example/quadraticorbits/laws.FnKneading" = some 5 by kernel_rfl).symm.trans hf) |>.symm
  obtain rfl : fn = Tryd.f5 := (Option.some.inj (Tryd.func5.symm.trans hfn)).symm
  refine ⟨by kernel_rfl, fun j t ht => ?_⟩
  rw [Tryd.params5] at ht
  obtain rfl : t = 22 := by simpa using Array.mem_of_getElem? ht
  exact (show Tryd.prog.wantsStandIn 22 = false by kernel_rfl)

set_option maxRecDepth 100000 in
theorem FnKneading_holds : Rows.FnKneadingCardSaid :=
  Claim7.holds_tied_plain_at .later [] _ _ _ _ FnKneading_said (fun _ h => by cases h) (by kernel_rfl) (fun _ h => by cases h) fnKneading_row_tie rfl ⟨rfl, rfl⟩ (by kernel_rfl) rfl FnKneading_plain (by kernel_rfl)
end Go.Proofs.YtcdkhacccbdmdaaDoor
