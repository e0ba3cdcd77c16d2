/- Merged texts: TrdC, TrdV, TrdF, TrdE. -/
import Derived.Test.YtidbdokoonikpaaGreatDoorJ14
import Derived.Test.YtidbdokoonikpaaGreatDoorJ15
import Derived.Test.YtidbdokoonikpaaGreatDoorShelf
import Derived.Lib.Split
import Derived.Lib.SplitLaws
import Derived.Lib.IndexMore
import Derived.Test.YtidbdokoonikpaaGreatDoorJ8
import Derived.Test.YtidbdokoonikpaaGreatDoorJ11
import Derived.Deep.RegionHeld3
import Derived.Deep.Cut
section
/- Walks: the program's readCell. -/
namespace Go.Proofs.YtidbdokoonikpaaGreatDoor
open Go.RowKit

/-- what the program reads of a cell -/
def cellIm (p : List UInt8) : Option (Nat × Int) := if p.getD 8 0 = 45 ∨ p.getD 8 0 = 111 ∨ p.getD 8 0 = 43 then cellRd p else none
theorem cellIm_rd {p : List UInt8} {v : Nat × Int} (h : cellIm p = some v) : cellRd p = some v := by
  unfold cellIm at h
  split at h
  · exact h
  · cases h
theorem TD.cellsI {t : TD} (h : t.Good) {P : List (List UInt8)} (hP : splitL t.text = P) {j : Nat} (hj : j < t.xs.length) : cellIm (P.getD (5 + j) []) = some (t.xs.getD j 0, t.ys.getD j 0) := by
  obtain ⟨h1, h2, h3, h4, h5, h6, h7⟩ := TD.bd h
  have hc := TD.cells h hP hj
  have hp := (TD.pieces h hP).2.2.2.2.2.2 j hj
  unfold cellIm
  rw [if_pos ?_]
  · exact hc
  · rw [hp, List.getD_eq_getElem?_getD, List.getElem?_append_right (by rw [wordL_length]; omega), wordL_length]
    have hy : -1 ≤ t.ys.getD j 0 ∧ t.ys.getD j 0 ≤ 1 := by
      rw [List.getD_eq_getElem?_getD, List.getElem?_eq_getElem (show j < t.ys.length by omega)]; exact h6 _ (List.getElem_mem _)
    show sgnC _ = 45 ∨ sgnC _ = 111 ∨ sgnC _ = 43
    rcases (by omega : t.ys.getD j 0 = -1 ∨ t.ys.getD j 0 = 0 ∨ t.ys.getD j 0 = 1) with e | e | e <;> rw [e] <;> decide
theorem sign_at (c : UInt8) : (c = 45 ∧ Lib.indexByte [45, 111, 43] c = 0) ∨ (c = 111 ∧ Lib.indexByte [45, 111, 43] c = 1) ∨ (c = 43 ∧ Lib.indexByte [45, 111, 43] c = 2) ∨ (¬ (c = 45 ∨ c = 111 ∨ c = 43) ∧ Lib.indexByte [45, 111, 43] c = -1) := by
  have : ∀ k : Fin 256, (UInt8.ofNat k.val = 45 ∧ Lib.indexByte [45, 111, 43] (UInt8.ofNat k.val) = 0) ∨ (UInt8.ofNat k.val = 111 ∧ Lib.indexByte [45, 111, 43] (UInt8.ofNat k.val) = 1) ∨ (UInt8.ofNat k.val = 43 ∧ Lib.indexByte [45, 111, 43] (UInt8.ofNat k.val) = 2) ∨ (¬ (UInt8.ofNat k.val = 45 ∨ UInt8.ofNat k.val = 111 ∨ UInt8.ofNat k.val = 43) ∧ Lib.indexByte [45, 111, 43] (UInt8.ofNat k.val) = -1) := by decide +kernel
  have h := this ⟨c.toNat, c.toNat_lt⟩
  rwa [show UInt8.ofNat c.toNat = c by simp] at h
set_option maxRecDepth 100000 in
set_option maxHeartbeats 2000000 in
theorem readCell_any (A : ByteArray) (w : World) : Calls Tryz.prog 36 #[.string A] w fun e w' => (∃ (x : Nat) (y : Int) (ok : Bool), e = .returned (.tuple #[.float .f32 x, .int .i64 y, .bool ok]) ∧ (ok = true → cellIm A.data.toList = some (x, y) ∧ x < 4294967296 ∧ -1 ≤ y ∧ y ≤ 1) ∧ (ok = false → cellIm A.data.toList = none)) ∧ w = w' := by
  by_cases h9 : A.size = 9
  · have e9 : ((A.size : Int) != 9) = false := by simp; omega
    obtain ⟨E, hE⟩ : ∃ E : ByteArray, A.extract 0 8 = E := ⟨_, rfl⟩
    have hEd : E.data.toList = A.data.toList.take 8 := by rw [← hE, Lib.extract_data]; simp
    have hEs : E.size ≤ 1048576 := by rw [← len_eq, hEd, List.length_take]; omega
    obtain ⟨x, hx⟩ : ∃ x, (wordR E.data.toList).getD 0 = x := ⟨_, rfl⟩
    obtain ⟨ok, hok⟩ : ∃ x, (wordR E.data.toList).isSome = x := ⟨_, rfl⟩
    have HWR := Lib.hid (fun w => implWordRead_any E hEs w)
    rw [hx, hok] at HWR
    have hEx : ∀ wx, (Instr.slice 9 (.string A) none (some (.int .i64 8)) none).run Tryz.prog wx = .ok (.string (A.extract 0 8)) wx := fun wx => by
      rw [run_slice_string_h (ht := Tryz.underlying9) (h0 := by omega) (h2 := by omega)]
      rfl
    rw [hE] at hEx
    have h8 : 8 < A.size := by omega
    have h8i : (8 : Int) < A.size := by omega
    obtain ⟨c, hc⟩ : ∃ c, (A[8]'h8) = c := ⟨_, rfl⟩
    have hcd : A.data.toList.getD 8 0 = c := by rw [← hc, byte_eq A 8 h8]
    have HRD : Hid (cellRd A.data.toList = (wordR E.data.toList).map (fun x => (x, markS c))) := by
      show _ = _
      unfold cellRd
      rw [if_pos (by rw [len_eq]; exact h9), hEd, hcd]
    have HIM : Hid (cellIm A.data.toList = if c = 45 ∨ c = 111 ∨ c = 43 then (wordR E.data.toList).map (fun x => (x, markS c)) else none) := by
      show _ = _
      unfold cellIm
      rw [hcd, HRD.out]
    have HS := Lib.hid (sign_at c)
    have HIB := Lib.hid (fun w => IndexByte_any ⟨#[45, 111, 43]⟩ (c.toNat : Int) w)
    rw [show ((c.toNat : Int)).toNat.toUInt8 = c by simp] at HIB
    have HIB2 : Hid (∀ w, Calls Tryz.prog 63 #[.string ⟨#[45, 111, 43]⟩, .int .u8 c.toNat] w fun e w' => e = .returned (.int .i64 (Lib.indexByte [45, 111, 43] c)) ∧ w = w') := HIB.out
    obtain ⟨z, hz⟩ : ∃ z, Lib.indexByte [45, 111, 43] c = z := ⟨_, rfl⟩
    rw [hz] at HIB2 HS
    have HX := Lib.hid (And.intro hx hok)
    clear hE hEd hEs hx hok hcd HRD HIB hz h9
    go_enter Tryz.func36, Tryz.ntmps36
    go_wp2_with fail
    with_reducible refine (HWR.out _).mono ?_
    rintro e w1 ⟨rfl, rfl⟩
    clear HWR hEx
    go_wp2_with fail
    with_reducible refine (HIB2.out _).mono ?_
    rintro e w2 ⟨rfl, rfl⟩
    clear HIB2
    cases ok with
    | false =>
      have HNO : Hid (cellIm A.data.toList = none) := by
        show _ = none
        rw [HIM.out]
        have := HX.out.2
        cases hq : wordR E.data.toList with
        | none => simp
        | some v => rw [hq] at this; cases this
      go_wp2
      go_ret3
      exact ⟨⟨_, _, false, rfl, (fun h => by cases h), fun _ => HNO.out⟩, rfl⟩
    | true =>
      have HV : Hid (wordR E.data.toList = some x) := by
        show _ = _
        have h1 := HX.out.1
        have h2 := HX.out.2
        cases hq : wordR E.data.toList with
        | none => rw [hq] at h2; cases h2
        | some v => rw [hq] at h1; simp at h1; rw [h1]
      rcases HS.out with ⟨e, rfl⟩ | ⟨e, rfl⟩ | ⟨e, rfl⟩ | ⟨e, rfl⟩
      · have HY : Hid (cellIm A.data.toList = some (x, -1) ∧ x < 4294967296) := ⟨by rw [HIM.out, HV.out, if_pos (.inl e), e]; rfl, wordR_lt HV.out⟩
        clear e
        go_wp2
        go_ret3
        exact ⟨⟨_, _, true, rfl, (fun _ => ⟨HY.out.1, HY.out.2, by decide, by decide⟩), fun h => by cases h⟩, rfl⟩
      · have HY : Hid (cellIm A.data.toList = some (x, 0) ∧ x < 4294967296) := ⟨by rw [HIM.out, HV.out, if_pos (.inr (.inl e)), e]; rfl, wordR_lt HV.out⟩
        clear e
        go_wp2
        go_ret3
        exact ⟨⟨_, _, true, rfl, (fun _ => ⟨HY.out.1, HY.out.2, by decide, by decide⟩), fun h => by cases h⟩, rfl⟩
      · have HY : Hid (cellIm A.data.toList = some (x, 1) ∧ x < 4294967296) := ⟨by rw [HIM.out, HV.out, if_pos (.inr (.inr e)), e]; rfl, wordR_lt HV.out⟩
        clear e
        go_wp2
        go_ret3
        exact ⟨⟨_, _, true, rfl, (fun _ => ⟨HY.out.1, HY.out.2, by decide, by decide⟩), fun h => by cases h⟩, rfl⟩
      · have HNO : Hid (cellIm A.data.toList = none) := by show _ = none; rw [HIM.out, if_neg e]
        clear e
        go_wp2
        go_ret3
        exact ⟨⟨_, _, false, rfl, (fun h => by cases h), fun _ => HNO.out⟩, rfl⟩
  · have e9 : ((A.size : Int) != 9) = true := by simp; omega
    have HNO : Hid (cellIm A.data.toList = none) := by
      show _ = none
      have h : cellRd A.data.toList = none := by unfold cellRd; rw [if_neg (by rw [len_eq]; exact h9)]
      unfold cellIm
      rw [h]
      split <;> rfl
    clear h9
    go_enter Tryz.func36, Tryz.ntmps36
    go_wp2
    go_ret3
    exact ⟨⟨_, _, false, rfl, (fun h => by cases h), fun _ => HNO.out⟩, rfl⟩
end Go.Proofs.YtidbdokoonikpaaGreatDoor
end

section
/- The library's Split at one space, and Atoi at whatever text. -/
namespace Go.Proofs.YtidbdokoonikpaaGreatDoor
open Go.RowKit

theorem occ_one (l : List UInt8) (j : Nat) : Lib.occAt l [32] j = true ↔ l[j]? = some 32 := by
  unfold Lib.occAt
  rw [← List.head?_drop]
  cases h : l.drop j with
  | nil => simp
  | cons a r =>
    simp only [List.isPrefixOf, Bool.and_true, List.head?_cons, Option.some.injEq, beq_iff_eq]
    exact eq_comm
theorem splitK_one : ∀ (k : Nat) (l : List UInt8), l.count 32 ≤ k → Lib.splitK [32] 0 k l = splitL l
  | 0, l, h => by
    have hn : ∀ c, c ∈ l → c ≠ 32 := fun c hc e => by
      subst e
      have := List.count_pos_iff.2 hc
      omega
    rw [splitL_one l hn]
    rfl
  | k + 1, l, h => by
    unfold Lib.splitK
    rcases Lib.index_spec l [32] with ⟨h1, h2⟩ | ⟨i, h1, h2, h3, h4⟩
    · rw [if_pos (by rw [h1]; rfl)]
      refine (splitL_one l fun c hc e => ?_).symm
      subst e
      obtain ⟨j, hj, hj2⟩ := List.getElem_of_mem hc
      have := h2 j (by omega)
      rw [(occ_one l j).2 (by rw [List.getElem?_eq_getElem hj, hj2])] at this
      cases this
    · have hi := (occ_one l i).1 h3
      obtain ⟨hil, hie⟩ := List.getElem?_eq_some_iff.1 hi
      have hne : ¬ (Lib.index l [32] == -1) = true := by rw [h1]; simp
      rw [if_neg hne, h1, Int.toNat_natCast, Nat.add_zero]
      have e : l = l.take i ++ 32 :: l.drop (i + 1) := by
        conv => lhs; rw [← List.take_append_drop i l, List.drop_eq_getElem_cons hil, hie]
      have hno : ∀ c, c ∈ l.take i → c ≠ 32 := fun c hc e => by
        subst e
        obtain ⟨j, hj, hj2⟩ := List.getElem_of_mem hc
        rw [List.length_take] at hj
        rw [List.getElem_take] at hj2
        have := h4 j (by omega)
        rw [(occ_one l j).2 (by rw [List.getElem?_eq_getElem (by omega), hj2])] at this
        cases this
      have hcount : (l.drop (i + 1)).count 32 ≤ k := by
        have := congrArg (List.count 32) e
        rw [List.count_append, List.count_cons_self] at this
        omega
      show l.take i :: Lib.splitK [32] 0 k (l.drop (i + [(32 : UInt8)].length)) = _
      rw [show i + [(32 : UInt8)].length = i + 1 from rfl, splitK_one k _ hcount]
      conv => rhs; rw [e]
      rw [splitL_hit _ _ hno]
theorem strV_data (b : ByteArray) : Value.string b = strV b.data.toList := by
  unfold strV
  congr 1
/-- what the library's cut yields -/
theorem splitB_one (s : ByteArray) : (Lib.splitB ⟨#[32]⟩ 0 (Lib.countB s ⟨#[32]⟩) s).map Value.string = (splitL s.data.toList).map strV := by
  have h := Lib.splitB_data ⟨#[32]⟩ 0 (Lib.countB s ⟨#[32]⟩) s
  have hc : Lib.countB s ⟨#[32]⟩ = s.data.toList.count 32 := by
    show Lib.count s.data.toList [32] = _
    exact Lib.count_one 32 _
  rw [hc] at h ⊢
  have e : (Lib.splitB ⟨#[32]⟩ 0 (s.data.toList.count 32) s).map (·.data.toList) = splitL s.data.toList := h.trans (splitK_one _ _ (Nat.le_refl _))
  rw [← e, List.map_map]
  refine List.map_congr_left fun b _ => ?_
  exact strV_data b
theorem count_split (s : ByteArray) : Lib.countB s ⟨#[32]⟩ + 1 = (splitL s.data.toList).length := by
  have h := congrArg List.length (splitB_one s)
  rw [List.length_map, List.length_map, Lib.splitB_all ⟨#[32]⟩ (by decide) 0 _ s rfl] at h
  exact h
/-- the library's variables, as far as the texts read them -/
structure VarsT (w : World) : Prop where
  m : ∃ m, w.cell? ⟨2, 0, none⟩ = some (.int .i64 m)
  s : ∃ tp p, w.cell? ⟨3, 0, none⟩ = some (.iface tp p)
  r : ∃ tp p, w.cell? ⟨4, 0, none⟩ = some (.iface tp p)
theorem cell_step {w w' : World} (k : Below w.heap.size w w') {p : Addr} {v : Value} (h : w.cell? p = some v) : w'.cell? p = some v :=
  (k.cell (World.block_lt_of_cell? w _ h)).trans h
theorem VarsT.step {w w' : World} (h : VarsT w) (k : Below w.heap.size w w') : VarsT w' := by
  obtain ⟨⟨m, hm⟩, ⟨t1, p1, h1⟩, ⟨t2, p2, h2⟩⟩ := h
  exact ⟨⟨m, cell_step k hm⟩, ⟨t1, p1, cell_step k h1⟩, ⟨t2, p2, cell_step k h2⟩⟩
theorem split_any (s : ByteArray) (hs : s.size ≤ 1048576) (w : World) (hV : VarsT w) : Calls Tryz.prog 34 #[.string s, .string ⟨#[32]⟩] w fun e w' => e = .returned (.slice (some ⟨w.heap.size, 0, none⟩) (splitL s.data.toList).length (splitL s.data.toList).length) ∧ w' = w.alloc (.cells ((splitL s.data.toList).map strV).toArray 9) := by
  obtain ⟨m, hm⟩ := hV.m
  refine (Tryz.strings_Split s ⟨#[32]⟩ m w (by omega) hm (by decide)).mono ?_
  rintro e w' ⟨rfl, rfl⟩
  rw [splitB_one, count_split]
  exact ⟨rfl, rfl⟩
theorem atoi_dec (n : Nat) (hn : n ≤ 10) : Lib.atoiAll (decS n).data.toList = .ok n := by
  have : ∀ k : Fin 11, Lib.atoiAll (decS k.val).data.toList = .ok (k.val : Int) := by decide +kernel
  exact this ⟨n, by omega⟩
theorem atoi_any (s : ByteArray) (hs : s.size ≤ 1048576) (w : World) (hV : VarsT w) : Calls Tryz.prog 62 #[.string s] w fun e w' => (∃ (k : Int) (ev : Value), e = .returned (.tuple #[.int .i64 k, ev]) ∧ (ev = .nilIface ∨ ∃ te p, ev = .iface te p) ∧ ∀ n : Nat, n ≤ 10 → s.data.toList = (decS n).data.toList → k = n ∧ ev = .nilIface) ∧ Below w.heap.size w w' := by
  rcases h : Lib.atoiAll s.data.toList with v | _ | _
  · refine (Tryz.strconv_Atoi_ok s (by omega) v h w).mono ?_
    rintro e w' ⟨rfl, hw⟩
    refine ⟨⟨v, _, rfl, .inl rfl, fun n hn e => ?_⟩, ?_⟩
    · rw [e, atoi_dec n hn] at h
      injection h with h
      exact ⟨h.symm, rfl⟩
    · rcases hw with rfl | ⟨t, rfl⟩
      · exact Below.refl _ _
      · exact Lib.bytesWorld_below _ _ _
  · obtain ⟨tp, p, hp⟩ := hV.s
    refine (Tryz.strconv_Atoi_syntax s (by omega) h _ w hp (.inr ⟨tp, p, rfl⟩)).mono ?_
    rintro e w' ⟨N, rfl, _, _, hb⟩
    refine ⟨⟨0, _, rfl, .inr ⟨_, _, rfl⟩, fun n hn e => ?_⟩, hb⟩
    rw [e, atoi_dec n hn] at h
    cases h
  · obtain ⟨tp, p, hp⟩ := hV.r
    refine (Tryz.strconv_Atoi_range s (by omega) h _ w hp (.inr ⟨tp, p, rfl⟩)).mono ?_
    rintro e w' ⟨N, rfl, _, _, hb⟩
    refine ⟨⟨_, _, rfl, .inr ⟨_, _, rfl⟩, fun n hn e => ?_⟩, hb⟩
    rw [e, atoi_dec n hn] at h
    cases h
end Go.Proofs.YtidbdokoonikpaaGreatDoor
end

section
/- Walks: the program's placeWell at whatever place. -/
namespace Go.Proofs.YtidbdokoonikpaaGreatDoor
open Go.RowKit

theorem order_flip (f : Ieee.Format) (x y : Nat) : f.order y x = (f.order x y).map Ordering.swap := by
  unfold Ieee.Format.order
  cases f.read x with
  | nan s t => cases f.read y <;> rfl
  | infinity s =>
    cases f.read y with
    | nan => rfl
    | infinity t => cases s <;> cases t <;> rfl
    | number => cases s <;> rfl
  | number s m i =>
    cases f.read y with
    | nan => rfl
    | infinity t => cases t <;> rfl
    | number t n j =>
      simp only [Ieee.Datum.order, Option.map_some, Option.some.injEq]
      rw [Int.min_comm j i]
      exact Std.OrientedCmp.eq_swap
theorem flip_ge (f : Ieee.Format) (x y : Nat) : (f.order y x == some .lt || f.order y x == some .eq) = (f.order x y == some .gt || f.order x y == some .eq) := by
  rw [order_flip f x y]
  cases f.order x y with
  | none => rfl
  | some o => cases o <;> rfl
theorem cut_le (s : Bool) (n drop : Nat) : Ieee.Toward.down.cut s n drop ≤ n / 2 ^ drop + 1 := by
  have h := Flo.cut_zero s n drop
  unfold Ieee.Toward.cut at h ⊢
  simp only [Bool.toNat_false, Nat.add_zero] at h
  simp only [h]
  have : ∀ b : Bool, b.toNat ≤ 1 := by decide
  have := this (s && n % (1 <<< min drop (n.log2 + 2)) != 0)
  omega
theorem floor_any {z : Nat} {v : Int} (hz : Flo.Val Ieee.double z v) (hb : v.natAbs ≤ 1048576 * 2 ^ Flo.u64) :
    ∃ (s : Bool) (m : Nat) (e B : Int), FloatKind.f64.decode z = .number s m e ∧ Flo.Val Ieee.double (FloatKind.f64.encode ((Ieee.Datum.number s m e).integral .down)) (B * (2 ^ Flo.u64 : Nat)) := by
  have hd := Flo.val_digits hz
  obtain ⟨K, hK, hK2⟩ : ∃ K, Ieee.Toward.down.cut (Flo.sgn Ieee.double z) (Flo.rm Ieee.double (Flo.rung Ieee.double z) <<< (Ieee.double.leastPlace + Flo.re Ieee.double (Flo.rung Ieee.double z)).toNat) (-(Ieee.double.leastPlace + (Flo.re Ieee.double (Flo.rung Ieee.double z) : Int))).toNat = K ∧ K ≤ 1048577 := by
    refine ⟨_, rfl, ?_⟩
    refine Nat.le_trans (cut_le _ _ _) ?_
    rw [Flo.least64]
    rw [hd] at hb
    generalize Flo.re Ieee.double (Flo.rung Ieee.double z) = e at *
    generalize Flo.rm Ieee.double (Flo.rung Ieee.double z) = m at *
    rcases Nat.le_total Flo.u64 e with h | h
    · obtain ⟨r, rfl⟩ : ∃ r, e = r + Flo.u64 := ⟨e - Flo.u64, by omega⟩
      have e1 : (-(Flo.u64 : Int) + ((r + Flo.u64 : Nat) : Int)).toNat = r := by omega
      have e2 : (-(-(Flo.u64 : Int) + ((r + Flo.u64 : Nat) : Int))).toNat = 0 := by omega
      rw [e1, e2, Nat.pow_zero, Nat.div_one, Nat.shiftLeft_eq]
      rw [Nat.pow_add, ← Nat.mul_assoc] at hb
      have := Nat.le_of_mul_le_mul_right hb (Nat.two_pow_pos Flo.u64)
      omega
    · obtain ⟨r, hr⟩ : ∃ r, Flo.u64 = r + e := ⟨Flo.u64 - e, by omega⟩
      have e1 : (-(Flo.u64 : Int) + (e : Int)).toNat = 0 := by omega
      have e2 : (-(-(Flo.u64 : Int) + (e : Int))).toNat = r := by omega
      rw [e1, e2, Nat.shiftLeft_zero]
      rw [hr, Nat.pow_add, ← Nat.mul_assoc] at hb
      have h1 := Nat.le_of_mul_le_mul_right hb (Nat.two_pow_pos e)
      have h2 : m / 2 ^ r ≤ 1048576 := Nat.div_le_of_le_mul (by rw [Nat.mul_comm]; exact h1)
      omega
  refine ⟨_, _, _, if Flo.sgn Ieee.double z then -(K : Int) else K, Flo.read_fin hz.fin, ?_⟩
  show Flo.Val Ieee.double (Ieee.double.nearest (Flo.sgn Ieee.double z) (Ieee.Toward.down.cut (Flo.sgn Ieee.double z) (Flo.rm Ieee.double (Flo.rung Ieee.double z) <<< (Ieee.double.leastPlace + Flo.re Ieee.double (Flo.rung Ieee.double z)).toNat) (-(Ieee.double.leastPlace + (Flo.re Ieee.double (Flo.rung Ieee.double z) : Int))).toNat) 0) _
  rw [hK]
  generalize Flo.sgn Ieee.double z = s at *
  have hna : ((if s then -(K : Int) else K) * ((2 ^ Flo.u64 : Nat) : Int)).natAbs = K * 2 ^ Flo.u64 := by
    rw [Int.natAbs_mul, Int.natAbs_natCast]
    cases s <;> simp
  have hpos : (0 : Int) < ((2 ^ Flo.u64 : Nat) : Int) := by have := Nat.two_pow_pos Flo.u64; omega
  refine Flo.nearest_val (a := Flo.u64) (b := 0) (Flo.rep_gen (m := K) (e := Flo.u64) hna (by rw [Flo.double_binade]; omega) ?_) (by rw [Flo.least64]; omega) (by rw [hna, Nat.pow_zero, Nat.mul_one]) (fun hneg => ?_) (fun hp => ?_)
  · rw [Flo.double_inf, Flo.u64_eq]; exact Nat.mul_le_mul_right _ (by omega)
  · cases s
    · exfalso
      have : (0 : Int) ≤ (K : Int) * ((2 ^ Flo.u64 : Nat) : Int) := Int.mul_nonneg (by omega) (by omega)
      simp only [Bool.false_eq_true, if_false] at hneg
      omega
    · rfl
  · cases s
    · rfl
    · exfalso
      have : (0 : Int) ≤ (K : Int) * ((2 ^ Flo.u64 : Nat) : Int) := Int.mul_nonneg (by omega) (by omega)
      simp only [if_true, Int.neg_mul] at hp
      omega
set_option maxRecDepth 100000 in
theorem mathFloor_any (z : Nat) (v : Int) (hz : Flo.Val Ieee.double z v) (hb : v.natAbs ≤ 1048576 * 2 ^ Flo.u64) (w : World) : Calls Tryz.prog 87 #[.float .f64 z] w fun e w' => (∃ (y : Nat) (B : Int), e = .returned (.float .f64 y) ∧ Flo.Val Ieee.double y (B * (2 ^ Flo.u64 : Nat))) ∧ w = w' := by
  obtain ⟨s, m, e, B, hd, hv⟩ := floor_any hz hb
  have hr : ∀ w, (callFunc 112 #[.float .f64 z]).run Tryz.prog w = .ok (.value (.float .f64 (FloatKind.f64.encode ((Ieee.Datum.number s m e).integral .down)))) w := fun w => by
    rw [archFloor_run, toIntegral_num z s m e hd]
    rfl
  have HV := Lib.hid hv
  generalize FloatKind.f64.encode ((Ieee.Datum.number s m e).integral .down) = y at *
  clear hz hb hv hd
  go_enter Tryz.func87, Tryz.ntmps87
  go_wp2
  go_ret
  exact ⟨⟨y, B, rfl, HV.out⟩, rfl⟩
set_option maxRecDepth 100000 in
set_option maxHeartbeats 1000000 in
theorem cornerWell_no (x d : Nat) (hx : x < 4294967296) (hd : d ≤ 11) (h : Flo.wholeB x d = false) (w : World) : Calls Tryz.prog 69 #[.float .f32 x, .int .i64 d] w fun e w' => e = .returned (.bool false) ∧ w = w' := by
  unfold Flo.wholeB at h
  cases hin : Flo.inFour x with
  | false =>
    unfold Flo.inFour at hin
    rw [← flip_ge] at hin
    cases t1 : (FloatKind.f32.format.order 3229614080 x == some .lt || FloatKind.f32.format.order 3229614080 x == some .eq) with
    | false =>
      clear h hin
      go_enter Tryz.func69, Tryz.ntmps69
      go_wp2
      go_ret
      exact ⟨rfl, rfl⟩
    | true =>
      rw [t1, Bool.true_and] at hin
      have t2 := hin
      clear h hin
      go_enter Tryz.func69, Tryz.ntmps69
      go_wp2
      go_ret
      exact ⟨rfl, rfl⟩
  | true =>
    rw [hin, Bool.true_and, decide_eq_false_iff_not] at h
    obtain ⟨hv, hb⟩ := Flo.inFour_val hx hin
    obtain ⟨v, hvv⟩ : ∃ v, Flo.iv Ieee.single x = v := ⟨_, rfl⟩
    rw [hvv] at hv hb h
    have hdp : 2 ^ d ≤ 2 ^ 11 := Nat.pow_le_pow_right (by omega) hd
    obtain ⟨y1, h1, v1⟩ := Flo.widen_val hv
    have hD : Flo.Val Ieee.double (floatOfInt .f64 ((2 ^ d : Nat) : Int)) (((2 ^ d : Nat) : Int) * (2 ^ Flo.u64 : Nat)) := Flo.ofInt_val (k := .f64) Flo.least64 _ (by rw [Int.natAbs_natCast]; show _ < 2 * Ieee.double.binade; rw [Flo.double_binade]; omega) (by show (Flo.u64 + 2) * Ieee.double.binade ≤ Ieee.double.infRung; rw [Flo.double_inf, Flo.u64_eq]; exact Nat.mul_le_mul_right _ (by omega))
    have hdg := Flo.val_digits hv
    have hre := Flo.re_lt (e := 254) hv.fin (by decide)
    have hrm := Flo.rm_lt Ieee.single (Flo.rung Ieee.single x)
    rw [Flo.single_binade] at hrm
    have hrep : Flo.Rep Ieee.double (v * (2 ^ Flo.wup : Nat) * (2 ^ d : Nat)) := by
      refine Flo.rep_gen (m := Flo.rm Ieee.single (Flo.rung Ieee.single x)) (e := Flo.re Ieee.single (Flo.rung Ieee.single x) + Flo.wup + d) ?_ (by rw [Flo.double_binade]; omega) ?_
      · rw [Int.natAbs_mul, Int.natAbs_mul, Int.natAbs_natCast, Int.natAbs_natCast, hdg, Nat.pow_add, Nat.pow_add]
        simp only [Nat.mul_assoc]
      · rw [Flo.double_inf, Flo.wup_eq]; exact Nat.mul_le_mul_right _ (by omega)
    have hc : v * (2 ^ Flo.wup : Nat) * (((2 ^ d : Nat) : Int) * (2 ^ Flo.u64 : Nat)) = v * (2 ^ Flo.wup : Nat) * (2 ^ d : Nat) * (2 ^ Flo.u64 : Nat) := by
      simp only [Int.mul_assoc]
    obtain ⟨y, hy, v2⟩ := Flo.mul_val (f := Ieee.double) (c := v * (2 ^ Flo.wup : Nat) * (2 ^ d : Nat)) Flo.least64 v1 hD hc hrep
    have hU : (2 ^ Flo.u64 : Nat) = 2 ^ Flo.u32 * 2 ^ Flo.wup := by rw [← Nat.pow_add]; congr 1
    have hV : (v * (2 ^ Flo.wup : Nat) * (2 ^ d : Nat)).natAbs ≤ 1048576 * 2 ^ Flo.u64 := by
      rw [Int.natAbs_mul, Int.natAbs_mul, Int.natAbs_natCast, Int.natAbs_natCast, hU]
      calc v.natAbs * 2 ^ Flo.wup * 2 ^ d ≤ (4 * 2 ^ Flo.u32) * 2 ^ Flo.wup * 2 ^ 11 := Nat.mul_le_mul (Nat.mul_le_mul_right _ hb) hdp
        _ = 8192 * (2 ^ Flo.u32 * 2 ^ Flo.wup) := by rw [Nat.mul_comm, ← Nat.mul_assoc, ← Nat.mul_assoc, Nat.mul_assoc]
        _ ≤ 1048576 * (2 ^ Flo.u32 * 2 ^ Flo.wup) := Nat.mul_le_mul_right _ (by omega)
    have hne : ∀ B : Int, v * (2 ^ Flo.wup : Nat) * (2 ^ d : Nat) ≠ B * (2 ^ Flo.u64 : Nat) := by
      intro B hB
      apply h
      rw [hU, Int.natCast_mul, ← Int.mul_assoc, Int.mul_right_comm v] at hB
      have hp : ((2 ^ Flo.wup : Nat) : Int) ≠ 0 := by have := Nat.two_pow_pos Flo.wup; omega
      have := Int.eq_of_mul_eq_mul_right hp hB
      rw [this]
      exact Int.mul_emod_left _ _
    have hF := Lib.hid (mathFloor_any y _ v2 hV)
    have hee : Hid (∀ (t : Nat) (B : Int), Flo.Val Ieee.double t (B * (2 ^ Flo.u64 : Nat)) → (FloatKind.f64.format.order y t == some .eq) = false) := fun t B ht => by rw [Flo.order_eq_val (k := .f64) v2 ht]; simpa using hne B
    obtain ⟨q, hq⟩ : ∃ q : Int, wrap64 (2 ^ d) = q := ⟨_, rfl⟩
    have hqd : ((2 ^ d : Nat) : Int) = q := by rw [← hq, wrap_pow d hd]
    rw [hqd] at hy
    have g1 := fun w => run_convert_float_float (P := Tryz.prog) w 57 92 .f32 .f64 _ _ (by kernel_rfl) Tryz.underlying92 h1
    have g2 := fun w => run_float_arith (P := Tryz.prog) w .mul 92 .f64 _ _ _ hy
    unfold Flo.inFour at hin
    rw [← flip_ge, Bool.and_eq_true] at hin
    obtain ⟨t1, t2⟩ := hin
    clear h hv hb hvv hdp h1 v1 hD hdg hre hrm hrep hc hy v2 hqd hx hU hV hne
    go_enter Tryz.func69, Tryz.ntmps69
    go_wp2_with (go_at_call 87; refine (hF.out _).mono ?_; rintro e w' ⟨⟨t, B, rfl, ht⟩, rfl⟩; have hte := hee.out t B ht; clear ht)
    go_ret
    exact ⟨rfl, rfl⟩
theorem cornerWell_is (x d : Nat) (hx : x < 4294967296) (hd : d ≤ 11) (w : World) : Calls Tryz.prog 69 #[.float .f32 x, .int .i64 d] w fun e w' => e = .returned (.bool (Flo.wholeB x d)) ∧ w = w' := by
  cases h : Flo.wholeB x d with
  | true => exact cornerWell_ok x d hx hd h w
  | false => exact cornerWell_no x d hx hd h w
set_option maxRecDepth 100000 in
set_option maxHeartbeats 1000000 in
theorem placeWell_is (cx cy : Nat) (deep size : Int) (hx : cx < 4294967296) (hy : cy < 4294967296) (w : World) : Calls Tryz.prog 44 #[.complex .f32 cx cy, .int .i64 deep, .int .i64 size] w fun e w' => e = .returned (.bool (placeB cx cy deep size)) ∧ w = w' := by
  by_cases hin : 0 ≤ deep ∧ deep ≤ 10 ∧ 1 ≤ size ∧ size ≤ 8
  · obtain ⟨d, rfl⟩ := Int.eq_ofNat_of_zero_le hin.1
    have hX := Lib.hid (cornerWell_is cx d hx (by omega))
    have hY := Lib.hid (cornerWell_is cy d hy (by omega))
    have HP : Hid (placeB cx cy d size = (Flo.wholeB cx d && Flo.wholeB cy d)) := by
      show _ = _
      unfold placeB inB
      rw [Int.toNat_natCast, decide_eq_true hin.1, decide_eq_true hin.2.1, decide_eq_true hin.2.2.1, decide_eq_true hin.2.2.2]
      rfl
    have a1 : decide ((d : Int) < 0) = false := by simp
    have a2 : decide (10 < (d : Int)) = false := by simp; omega
    have a3 : decide (size < 1) = false := by simp; omega
    have a4 : decide (8 < size) = false := by simp; omega
    rw [HP.out]
    generalize Flo.wholeB cx d = b1 at *
    generalize Flo.wholeB cy d = b2 at *
    clear HP hin
    cases b1 <;> cases b2
    all_goals
      go_enter Tryz.func44, Tryz.ntmps44
      go_wp2_with (first | (go_at_call 69; (with_reducible refine (hX.out _).mono ?_); rintro e w' ⟨rfl, rfl⟩) | (go_at_call 69; (with_reducible refine (hY.out _).mono ?_); rintro e w' ⟨rfl, rfl⟩))
      go_ret
      exact ⟨rfl, rfl⟩
  · have HP : Hid (placeB cx cy deep size = false) := by
      show _ = false
      cases h : placeB cx cy deep size with
      | false => rfl
      | true => exact absurd (placeB_bd h) (by omega)
    rw [HP.out]
    clear HP
    by_cases a1 : deep < 0
    · have a1 := decide_eq_true a1
      go_enter Tryz.func44, Tryz.ntmps44
      go_wp2
      go_ret
      exact ⟨rfl, rfl⟩
    · by_cases a2 : 10 < deep
      · have a1 := decide_eq_false a1
        have a2 := decide_eq_true a2
        go_enter Tryz.func44, Tryz.ntmps44
        go_wp2
        go_ret
        exact ⟨rfl, rfl⟩
      · by_cases a3 : size < 1
        · have a1 := decide_eq_false a1
          have a2 := decide_eq_false a2
          have a3 := decide_eq_true a3
          go_enter Tryz.func44, Tryz.ntmps44
          go_wp2
          go_ret
          exact ⟨rfl, rfl⟩
        · have a4 : 8 < size := by omega
          have a1 := decide_eq_false a1
          have a2 := decide_eq_false a2
          have a3 := decide_eq_false a3
          have a4 := decide_eq_true a4
          clear hin
          go_enter Tryz.func44, Tryz.ntmps44
          go_wp2
          go_ret
          exact ⟨rfl, rfl⟩
end Go.Proofs.YtidbdokoonikpaaGreatDoor
end

section
/- Walks: the program's readPlace. -/
namespace Go.Proofs.YtidbdokoonikpaaGreatDoor
open Go.RowKit
attribute [local go_sem] run_store_float run_store_complex

/-- what a place reads as -/
def PlaceRes (w : World) (P : List (List UInt8)) (e : Ending) (w' : World) : Prop :=
  Below w.heap.size w w' ∧ (((∀ t : TD, t.Good → splitL t.text ≠ P) ∧ ∃ v, e = .returned (.tuple #[v, .bool false]) ∧ ∃ (x y : Nat) (d s : Int), v = .agg #[.complex .f32 x y, .int .i64 d, .int .i64 s, .slice none 0 0, .slice none 0 0]) ∨
    ∃ (x y : Nat) (d s : Int), placeB x y d s = true ∧ x < 4294967296 ∧ y < 4294967296 ∧ e = .returned (.tuple #[.agg #[.complex .f32 x y, .int .i64 d, .int .i64 s, .slice none 0 0, .slice none 0 0], .bool true]) ∧
      wordR (P.getD 1 []) = some x ∧ wordR (P.getD 2 []) = some y ∧ (∀ n : Nat, n ≤ 10 → P.getD 3 [] = (decS n).data.toList → d = n) ∧ (∀ n : Nat, n ≤ 10 → P.getD 4 [] = (decS n).data.toList → s = n))
set_option maxRecDepth 100000 in
set_option maxHeartbeats 4000000 in
theorem readPlace_any (P : List (List UInt8)) (g cap : Nat) (h6 : 6 ≤ P.length) (hm : P.length ≤ 2000000) (hs : ∀ j, (P.getD j []).length ≤ 1048576) (w : World) (hV : VarsT w) (hC : ∀ j, j < P.length → w.cell? ⟨g, j, none⟩ = some (.string ⟨(P.getD j []).toArray⟩)) :
    Calls Tryz.prog 35 #[.slice (some ⟨g, 0, none⟩) P.length cap] w (PlaceRes w P) := by
  have R := Box.new w #[.complex .f32 0 0, .int .i64 0, .int .i64 0, .slice none 0 0, .slice none 0 0] 27
  obtain ⟨A0, hA0⟩ : ∃ A : ByteArray, (⟨(P.getD 0 []).toArray⟩ : ByteArray) = A := ⟨_, rfl⟩
  obtain ⟨A1, hA1⟩ : ∃ A : ByteArray, (⟨(P.getD 1 []).toArray⟩ : ByteArray) = A := ⟨_, rfl⟩
  obtain ⟨A2, hA2⟩ : ∃ A : ByteArray, (⟨(P.getD 2 []).toArray⟩ : ByteArray) = A := ⟨_, rfl⟩
  obtain ⟨A3, hA3⟩ : ∃ A : ByteArray, (⟨(P.getD 3 []).toArray⟩ : ByteArray) = A := ⟨_, rfl⟩
  obtain ⟨A4, hA4⟩ : ∃ A : ByteArray, (⟨(P.getD 4 []).toArray⟩ : ByteArray) = A := ⟨_, rfl⟩
  have HC0 : Hid (∀ W, Below w.heap.size w W → W.cell? ⟨g, 0, none⟩ = some (.string A0)) := fun W k => by rw [← hA0]; exact cell_step k (hC 0 (by omega))
  have HC1 : Hid (∀ W, Below w.heap.size w W → W.cell? ⟨g, 1, none⟩ = some (.string A1)) := fun W k => by rw [← hA1]; exact cell_step k (hC 1 (by omega))
  have HC2 : Hid (∀ W, Below w.heap.size w W → W.cell? ⟨g, 2, none⟩ = some (.string A2)) := fun W k => by rw [← hA2]; exact cell_step k (hC 2 (by omega))
  have HC3 : Hid (∀ W, Below w.heap.size w W → W.cell? ⟨g, 3, none⟩ = some (.string A3)) := fun W k => by rw [← hA3]; exact cell_step k (hC 3 (by omega))
  have HC4 : Hid (∀ W, Below w.heap.size w W → W.cell? ⟨g, 4, none⟩ = some (.string A4)) := fun W k => by rw [← hA4]; exact cell_step k (hC 4 (by omega))
  have HA : Hid (A0.data.toList = P.getD 0 [] ∧ A1.data.toList = P.getD 1 [] ∧ A2.data.toList = P.getD 2 [] ∧ A3.data.toList = P.getD 3 [] ∧ A4.data.toList = P.getD 4 []) := ⟨by rw [← hA0], by rw [← hA1], by rw [← hA2], by rw [← hA3], by rw [← hA4]⟩
  have z1 : A1.size ≤ 1048576 := by rw [← hA1]; exact hs 1
  have z2 : A2.size ≤ 1048576 := by rw [← hA2]; exact hs 2
  have z3 : A3.size ≤ 1048576 := by rw [← hA3]; exact hs 3
  have z4 : A4.size ≤ 1048576 := by rw [← hA4]; exact hs 4
  obtain ⟨x1, hx1⟩ : ∃ x, (wordR A1.data.toList).getD 0 = x := ⟨_, rfl⟩
  obtain ⟨b1, hb1⟩ : ∃ x, (wordR A1.data.toList).isSome = x := ⟨_, rfl⟩
  obtain ⟨x2, hx2⟩ : ∃ x, (wordR A2.data.toList).getD 0 = x := ⟨_, rfl⟩
  obtain ⟨b2, hb2⟩ : ∃ x, (wordR A2.data.toList).isSome = x := ⟨_, rfl⟩
  have HW1 := Lib.hid (fun w => implWordRead_any A1 z1 w)
  have HW2 := Lib.hid (fun w => implWordRead_any A2 z2 w)
  rw [hx1, hb1] at HW1
  rw [hx2, hb2] at HW2
  have HD3 := Lib.hid (fun W (h : VarsT W) => atoi_any A3 z3 W h)
  have HD4 := Lib.hid (fun W (h : VarsT W) => atoi_any A4 z4 W h)
  have HX := Lib.hid (And.intro hx1 (And.intro hb1 (And.intro hx2 hb2)))
  have HVV := Lib.hid hV
  have HR := Lib.hid R
  have q0 : (0 : Int) < P.length := by omega
  have q1 : (1 : Int) < P.length := by omega
  have q2 : (2 : Int) < P.length := by omega
  have q3 : (3 : Int) < P.length := by omega
  have q4 : (4 : Int) < P.length := by omega
  have k1 := HC1.out _ HR.out.old
  have k2 := HC2.out _ HR.out.old
  have k3 := HC3.out _ HR.out.old
  clear R hA0 hA1 hA2 hA3 hA4 hs hC hV z1 z2 z3 z4 hx1 hb1 hx2 hb2
  go_enter Tryz.func35, Tryz.ntmps35
  go_wp2_with fail
  with_reducible refine (HW1.out _).mono ?_
  rintro e w1 ⟨rfl, rfl⟩
  clear HW1
  go_wp2_with fail
  with_reducible refine (HW2.out _).mono ?_
  rintro e w2 ⟨rfl, rfl⟩
  clear HW2
  go_wp2_with fail
  with_reducible refine (HD3.out _ (HVV.out.step HR.out.old)).mono ?_
  rintro e w3 ⟨⟨d, ev, rfl, hev, hd3⟩, hd⟩
  have HR3 := Lib.hid (HR.out.step hd)
  have k4 := HC4.out _ HR3.out.old
  have HF3 := Lib.hid hd3
  clear hd k1 k2 k3 HR HD3 hd3
  go_wp2_with fail
  with_reducible refine (HD4.out _ (HVV.out.step HR3.out.old)).mono ?_
  rintro e w4 ⟨⟨s, ev', rfl, hev', hd4⟩, hd⟩
  have HR4 := Lib.hid (HR3.out.step hd)
  have k0 := HC0.out _ HR4.out.old
  have HF4 := Lib.hid hd4
  clear hd k4 HR3 HD4 hd4
  by_cases h0 : A0.data.toList = tileW
  rotate_left
  · have hq : (A0.toList == [116, 105, 108, 101]) = false := by rw [ByteArray.toList_eq]; simpa [tileW] using h0
    have hno : Hid (∀ t : TD, t.Good → splitL t.text ≠ P) := fun t ht e => h0 (by rw [HA.out.1]; exact (TD.pieces ht e).2.1)
    clear h0
    obtain ⟨c0, c1, c2, c3, c4⟩ := HR4.out.cells5
    obtain ⟨f0, f1, f2, f3, f4⟩ := HR4.out.free5
    have HOld := Lib.hid HR4.out.old
    clear HR4
    go_wp2
    exact bodyPost_ret (v := .tuple #[.agg #[.complex .f32 0 0, .int .i64 0, .int .i64 0, .slice none 0 0, .slice none 0 0], .bool false]) (by simp [results, Tryz.f35, go_sem, c0, c1, c2, c3, c4]) rfl ⟨set5 HOld.out (Nat.le_refl _) _ _ _ _ _, .inl ⟨hno.out, _, rfl, _, _, _, _, rfl⟩⟩
  have hq : (A0.toList == [116, 105, 108, 101]) = true := by rw [ByteArray.toList_eq, h0]; rfl
  clear h0
  cases b1
  · have hno : Hid (∀ t : TD, t.Good → splitL t.text ≠ P) := fun t ht e => by
      have h1 := HX.out.2.1
      rw [HA.out.2.1, (TD.pieces ht e).2.2.1, wordR_wordL _ ht.bx] at h1
      cases h1
    obtain ⟨c0, c1, c2, c3, c4⟩ := HR4.out.cells5
    obtain ⟨f0, f1, f2, f3, f4⟩ := HR4.out.free5
    have HOld := Lib.hid HR4.out.old
    clear HR4
    go_wp2
    exact bodyPost_ret (v := .tuple #[.agg #[.complex .f32 0 0, .int .i64 0, .int .i64 0, .slice none 0 0, .slice none 0 0], .bool false]) (by simp [results, Tryz.f35, go_sem, c0, c1, c2, c3, c4]) rfl ⟨set5 HOld.out (Nat.le_refl _) _ _ _ _ _, .inl ⟨hno.out, _, rfl, _, _, _, _, rfl⟩⟩
  cases b2
  · have hno : Hid (∀ t : TD, t.Good → splitL t.text ≠ P) := fun t ht e => by
      have h1 := HX.out.2.2.2
      rw [HA.out.2.2.1, (TD.pieces ht e).2.2.2.1, wordR_wordL _ ht.by1] at h1
      cases h1
    obtain ⟨c0, c1, c2, c3, c4⟩ := HR4.out.cells5
    obtain ⟨f0, f1, f2, f3, f4⟩ := HR4.out.free5
    have HOld := Lib.hid HR4.out.old
    clear HR4
    go_wp2
    exact bodyPost_ret (v := .tuple #[.agg #[.complex .f32 0 0, .int .i64 0, .int .i64 0, .slice none 0 0, .slice none 0 0], .bool false]) (by simp [results, Tryz.f35, go_sem, c0, c1, c2, c3, c4]) rfl ⟨set5 HOld.out (Nat.le_refl _) _ _ _ _ _, .inl ⟨hno.out, _, rfl, _, _, _, _, rfl⟩⟩
  rcases hev with rfl | ⟨te, pe, rfl⟩
  rotate_left
  · have hno : Hid (∀ t : TD, t.Good → splitL t.text ≠ P) := fun t ht e => by
      have h1 := (HF3.out t.d (TD.bd ht).1 (by rw [HA.out.2.2.2.1, (TD.pieces ht e).2.2.2.2.1])).2
      cases h1
    obtain ⟨c0, c1, c2, c3, c4⟩ := HR4.out.cells5
    obtain ⟨f0, f1, f2, f3, f4⟩ := HR4.out.free5
    have HOld := Lib.hid HR4.out.old
    clear HR4
    go_wp2
    exact bodyPost_ret (v := .tuple #[.agg #[.complex .f32 0 0, .int .i64 0, .int .i64 0, .slice none 0 0, .slice none 0 0], .bool false]) (by simp [results, Tryz.f35, go_sem, c0, c1, c2, c3, c4]) rfl ⟨set5 HOld.out (Nat.le_refl _) _ _ _ _ _, .inl ⟨hno.out, _, rfl, _, _, _, _, rfl⟩⟩
  rcases hev' with rfl | ⟨te, pe, rfl⟩
  rotate_left
  · have hno : Hid (∀ t : TD, t.Good → splitL t.text ≠ P) := fun t ht e => by
      have h2 := (TD.bd ht).2.2.1
      have h1 := (HF4.out t.s (by omega) (by rw [HA.out.2.2.2.2, (TD.pieces ht e).2.2.2.2.2.1])).2
      cases h1
    obtain ⟨c0, c1, c2, c3, c4⟩ := HR4.out.cells5
    obtain ⟨f0, f1, f2, f3, f4⟩ := HR4.out.free5
    have HOld := Lib.hid HR4.out.old
    clear HR4
    go_wp2
    exact bodyPost_ret (v := .tuple #[.agg #[.complex .f32 0 0, .int .i64 0, .int .i64 0, .slice none 0 0, .slice none 0 0], .bool false]) (by simp [results, Tryz.f35, go_sem, c0, c1, c2, c3, c4]) rfl ⟨set5 HOld.out (Nat.le_refl _) _ _ _ _ _, .inl ⟨hno.out, _, rfl, _, _, _, _, rfl⟩⟩
  have hx1 : x1 < 4294967296 := by rw [← HX.out.1]; exact wordR_getD_lt _
  have hx2 : x2 < 4294967296 := by rw [← HX.out.2.2.1]; exact wordR_getD_lt _
  have HPW := Lib.hid (fun w => placeWell_is x1 x2 d s hx1 hx2 w)
  have HVAL : Hid (wordR (P.getD 1 []) = some x1 ∧ wordR (P.getD 2 []) = some x2) := by
    have h1 := HX.out.1
    have h2 := HX.out.2.1
    have h3 := HX.out.2.2.1
    have h4 := HX.out.2.2.2
    rw [HA.out.2.1] at h1 h2
    rw [HA.out.2.2.1] at h3 h4
    constructor
    · cases hw : wordR (P.getD 1 []) with
      | none => rw [hw] at h2; cases h2
      | some v => rw [hw] at h1; simp at h1; rw [h1]
    · cases hw : wordR (P.getD 2 []) with
      | none => rw [hw] at h4; cases h4
      | some v => rw [hw] at h3; simp at h3; rw [h3]
  have hlt4 := HR4.out.lt
  clear HX
  obtain ⟨c0, c1, c2, c3, c4⟩ := (HR4.out.alloc (.cells #[.complex .f32 x1 x2, .int .i64 d, .int .i64 s, .slice none 0 0, .slice none 0 0] 27)).cells5
  obtain ⟨f0, f1, f2, f3, f4⟩ := (HR4.out.alloc (.cells #[.complex .f32 x1 x2, .int .i64 d, .int .i64 s, .slice none 0 0, .slice none 0 0] 27)).free5
  have HX4 := Lib.hid ((Box.new w4 #[.complex .f32 x1 x2, .int .i64 d, .int .i64 s, .slice none 0 0, .slice none 0 0] 27).up HR4.out.old)
  obtain ⟨t0, t1, t2, t3, t4⟩ := HX4.out.cells5
  go_upto_region 8 with fail
  have hne : w4.heap.size ≠ w.heap.size := by omega
  have HXd := Lib.hid (HX4.out.step ((Drw.refl _).drew.below _))
  have HR4a := Lib.hid (HR4.out.alloc (.cells #[.complex .f32 x1 x2, .int .i64 d, .int .i64 s, .slice none 0 0, .slice none 0 0] 27))
  generalize w4.alloc (.cells #[.complex .f32 x1 x2, .int .i64 d, .int .i64 s, .slice none 0 0, .slice none 0 0] 27) = W at *
  have HX7 := Lib.hid ((HX4.out.other5 (Nat.le_refl _) hne (.complex .f32 x1 x2) (.int .i64 d) (.int .i64 s) (.slice none 0 0) (.slice none 0 0)).step ((Drw.refl _).drew.below _))
  have HR7 := Lib.hid ((HR4a.out.set5 (Nat.le_refl _) (.complex .f32 x1 x2) (.int .i64 d) (.int .i64 s) (.slice none 0 0) (.slice none 0 0)).step ((Drw.refl _).drew.below _))
  clear HX4 k0 HVV
  go_region_held3 (fun w' => w'.cell? ⟨w4.heap.size, 0, none⟩ = some (.complex .f32 x1 x2) ∧ w'.cell? ⟨w4.heap.size, 1, none⟩ = some (.int .i64 d) ∧ w'.cell? ⟨w4.heap.size, 2, none⟩ = some (.int .i64 s) ∧ w'.cell? ⟨w4.heap.size, 3, none⟩ = some (.slice none 0 0) ∧ w'.cell? ⟨w4.heap.size, 4, none⟩ = some (.slice none 0 0)) (((first | dsimp only | skip); first | (with_reducible exact HXd.out.cells5) | (with_reducible exact HX7.out.cells5))) (first
    | (go_at_call 44
       with_reducible refine (HPW.out _).mono ?_
       rintro e w5 ⟨rfl, rfl⟩)
    | (fail))
  have HFIN : Hid (PlaceRes w P (.returned (.tuple #[.agg #[.complex .f32 x1 x2, .int .i64 d, .int .i64 s, .slice none 0 0, .slice none 0 0], .bool (placeB x1 x2 d s)])) (((((W.setCell ⟨w.heap.size, 0, none⟩ (.complex .f32 x1 x2)).setCell ⟨w.heap.size, 1, none⟩ (.int .i64 d)).setCell ⟨w.heap.size, 2, none⟩ (.int .i64 s)).setCell ⟨w.heap.size, 3, none⟩ (.slice none 0 0)).setCell ⟨w.heap.size, 4, none⟩ (.slice none 0 0)).drew) := by
    refine ⟨HR7.out.old, ?_⟩
    cases hp : placeB x1 x2 d s with
    | false =>
      refine .inl ⟨fun t ht e => ?_, _, rfl, _, _, _, _, rfl⟩
      obtain ⟨-, -, p1, p2, p3, p4, -⟩ := TD.pieces ht e
      obtain ⟨v1, v2⟩ := HVAL.out
      rw [p1, wordR_wordL _ ht.bx] at v1
      rw [p2, wordR_wordL _ ht.by1] at v2
      have h2 := (TD.bd ht).2.2.1
      have e3 := (HF3.out t.d (TD.bd ht).1 (by rw [HA.out.2.2.2.1, p3])).1
      have e4 := (HF4.out t.s (by omega) (by rw [HA.out.2.2.2.2, p4])).1
      have := ht.pl
      injection v1 with v1
      injection v2 with v2
      rw [v1, v2, ← e3, ← e4, hp] at this
      cases this
    | true =>
      exact .inr ⟨x1, x2, d, s, hp, hx1, hx2, rfl, HVAL.out.1, HVAL.out.2, fun n hn e => (HF3.out n hn (by rw [HA.out.2.2.2.1, e])).1, fun n hn e => (HF4.out n hn (by rw [HA.out.2.2.2.2, e])).1⟩
  obtain ⟨y0, y1, y2, y3, y4⟩ := HR7.out.cells5
  clear c0 c1 c2 c3 c4 f0 f1 f2 f3 f4 t0 t1 t2 t3 t4 HR7 HX7 HXd HR4a
  generalize (((((W.setCell ⟨w.heap.size, 0, none⟩ (.complex .f32 x1 x2)).setCell ⟨w.heap.size, 1, none⟩ (.int .i64 d)).setCell ⟨w.heap.size, 2, none⟩ (.int .i64 s)).setCell ⟨w.heap.size, 3, none⟩ (.slice none 0 0)).setCell ⟨w.heap.size, 4, none⟩ (.slice none 0 0)).drew = wf at *
  go_wp2
  exact bodyPost_ret (v := .tuple #[.agg #[.complex .f32 x1 x2, .int .i64 d, .int .i64 s, .slice none 0 0, .slice none 0 0], .bool (placeB x1 x2 d s)]) (by simp [results, Tryz.f35, go_sem, y0, y1, y2, y3, y4]) rfl HFIN.out
end Go.Proofs.YtidbdokoonikpaaGreatDoor
end
