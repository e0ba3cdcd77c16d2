/- Merged texts: WordR, RegI. -/
import Derived.Test.YtidbdokoonikpaaGreatDoorJ12
import Derived.Test.YtidbdokoonikpaaGreatDoorJ1
import Derived.Test.YtidbdokoonikpaaGreatDoorJ14
import Derived.Orders
import Derived.OrdersHeld
section
/- Walks of the reading of words. -/
namespace Go.Proofs.YtidbdokoonikpaaGreatDoor
open Go.RowKit

theorem digit_eq (m : Nat) (h : m < 16) : (⟨hexL.toArray⟩ : ByteArray)[m]'h = hexL.getD m 0 := by
  have : ∀ m : Fin 16, (⟨hexL.toArray⟩ : ByteArray)[m.val]'m.isLt = hexL.getD m.val 0 := by decide +kernel
  exact this ⟨m, h⟩
theorem dig_ne {s : ByteArray} {m j : Nat} {h1 : m < (⟨hexL.toArray⟩ : ByteArray).size} {h2 : j < s.size} (h : (((⟨hexL.toArray⟩ : ByteArray)[m].toNat : Int) != (s[j].toNat : Int)) = true) : hexL.getD m 0 ≠ s.data.toList.getD j 0 := by
  rw [digit_eq m h1, byte_eq s j h2] at h
  intro e
  rw [e] at h
  simp at h
theorem dig_eq {s : ByteArray} {m j : Nat} {h1 : m < (⟨hexL.toArray⟩ : ByteArray).size} {h2 : j < s.size} (h : (((⟨hexL.toArray⟩ : ByteArray)[m].toNat : Int) != (s[j].toNat : Int)) = false) : hexL.getD m 0 = s.data.toList.getD j 0 := by
  rw [digit_eq m h1, byte_eq s j h2] at h
  apply UInt8.toNat.inj
  simpa only [bne_eq_false_iff_eq, Int.ofNat_inj] using h
theorem wordR_not {l : List UInt8} (h : l.length ≠ 8) : wordR l = none := if_neg h
theorem wordR_8 {l : List UInt8} (h : l.length = 8) : wordR l = readTo l 8 := if_pos h
set_option maxHeartbeats 400000 in
theorem l9Read_any (s : ByteArray) (hs : s.size ≤ 1048576) (w : World) :
    Calls Tryz.prog 67 #[.string s] w fun e w' => e = .returned (.tuple #[.int .u32 ((wordR s.data.toList).getD 0 : Nat), .bool (wordR s.data.toList).isSome]) ∧ Drw w w' := by
  by_cases h8 : s.size = 8
  · have H8 := Lib.hid h8
    have h8a : (s.size : Int) ≤ 8 := by omega
    have h8b : 8 ≤ (s.size : Int) := by omega
    have ht : ((s.size : Int) != 8) = false := by simp; omega
    clear h8
    go_enter Tryz.func67, Tryz.ntmps67
    go_wp2
    go_loopw [4, 5, 6] (fun t i k wr => ∃ j n : Nat, j ≤ 8 ∧ i = .int .i64 j ∧ t = .int .u32 n ∧ Hid (readTo s.data.toList j = some n) ∧ Drw w wr) (fun _ i _ _ => (8 - intOf i).toNat)
    case atStart => exact ⟨0, 0, by omega, rfl, rfl, rfl, Drw.refl _⟩
    case round =>
      obtain ⟨j, n, hj, rfl, rfl, HN, hwr⟩ := hrel
      obtain ⟨wo, rfl⟩ : ∃ wo : World, wo = wr := ⟨_, rfl⟩
      by_cases hlt : j < 8
      · go_wp2
        go_loopw [6] (fun k wr => ∃ m : Nat, m ≤ 16 ∧ k = .int .i64 m ∧ Hid (∀ i, i < m → hexL.getD i 0 ≠ s.data.toList.getD j 0) ∧ Drw wo wr) (fun k _ => (16 - intOf k).toNat)
        case atStart => exact ⟨0, by omega, rfl, fun i hi => by omega, Drw.refl _⟩
        case round =>
          obtain ⟨m, hm, rfl, HNE, hwr2⟩ := hrel
          obtain ⟨wi, rfl⟩ : ∃ wi : World, wi = wr := ⟨_, rfl⟩
          by_cases hm16 : m < 16
          · have hlen := hexL_length
            have hd16 : decide ((m : Int) < 16) = true := by simp; omega
            have hb1 : (m : Int) < 16 := by omega
            have hb2 : (j : Int) < 8 := by omega
            have hb3 : (j : Int) < s.size := by omega
            go_wp2
            go_quiet ((go_at_call 59; exact quiet_eq (l9Digits_any _)))
            go_wp2
            · refine ⟨⟨m + 1, by omega, by go_num, ?_, hwr2.drewN _⟩, by simp [intOf]; omega⟩
              rename_i hx
              intro i hi
              by_cases hlast : i = m
              · rw [hlast]; exact dig_ne hx
              · exact HNE.out i (by omega)
            · rename_i hx _
              have h2 := dig_eq hx
              have hv := hexV_some hm16 HNE.out h2
              have hr : readTo s.data.toList (j + 1) = some (n * 16 + m) := by simp only [readTo, HN.out, hv, Option.bind_some, Option.map_some]
              have hlt := readTo_lt HN.out
              have hp : 16 ^ j ≤ 16 ^ 7 := Nat.pow_le_pow_right (by omega) (by omega)
              refine ⟨⟨j + 1, n * 16 + m, by omega, by go_num, ?_, hr, hwr.trans (hwr2.drewN _)⟩, by simp [intOf]; omega⟩
              congr 1; omega
          · have hmm : m = 16 := by omega
            have HM := Lib.hid hmm
            have hd16 : decide ((m : Int) < 16) = false := by simp; omega
            have hne16 : ((m : Int) == 16) = true := by simp; omega
            clear hmm
            go_wp2
            go_quiet (fail)
            go_wp2
            go_ret2
            have hv := hexV_none (by have := HNE.out; rw [HM.out] at this; exact this)
            have hr : readTo s.data.toList (j + 1) = none := by simp only [readTo, HN.out, hv, Option.bind_some, Option.map_none]
            have hw : wordR s.data.toList = none := by
              rw [wordR_8 (by rw [len_eq]; exact H8.out)]
              exact readTo_none_le hr (by omega)
            rw [hw]
            exact ⟨rfl, hwr.trans (hwr2.drewN _)⟩
      · have hj8 : j = 8 := by omega
        have HJ := Lib.hid hj8
        have hge : (8 : Int) ≤ j := by omega
        clear hj8
        go_wp2
        go_ret2
        have hw : wordR s.data.toList = some n := by
          have := HN.out
          rw [HJ.out] at this
          rw [wordR_8 (by rw [len_eq]; exact H8.out), this]
        rw [hw]
        exact ⟨rfl, hwr⟩
  · have ht : ((s.size : Int) != 8) = true := by simp; omega
    have H8 := Lib.hid h8
    clear h8
    go_enter Tryz.func67, Tryz.ntmps67
    go_wp2
    go_ret2
    have hw : wordR s.data.toList = none := by
      exact wordR_not (by rw [len_eq]; exact H8.out)
    rw [hw]
    exact ⟨rfl, Drw.refl _⟩

theorem bitsOfWord_or (n d : Nat) (hn : n < 268435456) (hd : d < 16) : bits BinOp.or IntKind.u32 ((n : Int) * 16) (d : Int) = ((n * 16 + d : Nat) : Int) := by
  have e : (n : Int) * 16 = ((n * 16 : Nat) : Int) := by omega
  rw [e, u32_or_nat _ _ (by omega) (by omega)]
  congr 1
  have := Nat.two_pow_add_eq_or_of_lt (i := 4) (b := d) (by omega) n
  rw [Nat.mul_comm n 16, show (16 : Nat) = 2 ^ 4 from rfl, ← this]
theorem index_none {c : UInt8} (h : Lib.indexByte [48, 49, 50, 51, 52, 53, 54, 55, 56, 57, 97, 98, 99, 100, 101, 102] c < 0) : hexV c = none := by
  have := hexV_index c
  rw [show Lib.indexByte hexL c = Lib.indexByte [48, 49, 50, 51, 52, 53, 54, 55, 56, 57, 97, 98, 99, 100, 101, 102] c from rfl] at this
  cases hv : hexV c with
  | none => rfl
  | some d => rw [hv] at this; simp only at this; omega
theorem index_some {c : UInt8} (h : 0 ≤ Lib.indexByte [48, 49, 50, 51, 52, 53, 54, 55, 56, 57, 97, 98, 99, 100, 101, 102] c) : ∃ d : Nat, d < 16 ∧ hexV c = some d ∧ Lib.indexByte [48, 49, 50, 51, 52, 53, 54, 55, 56, 57, 97, 98, 99, 100, 101, 102] c = d := by
  have := hexV_index c
  rw [show Lib.indexByte hexL c = Lib.indexByte [48, 49, 50, 51, 52, 53, 54, 55, 56, 57, 97, 98, 99, 100, 101, 102] c from rfl] at this
  cases hv : hexV c with
  | none => rw [hv] at this; simp only at this; omega
  | some d => rw [hv] at this; exact ⟨d, hexV_lt hv, rfl, this⟩
set_option maxHeartbeats 400000 in
theorem bitsOfWord_any (s : ByteArray) (hs : s.size ≤ 1048576) (w : World) :
    Calls Tryz.prog 83 #[.string s] w fun e w' => e = .returned (.tuple #[.int .u32 ((wordR s.data.toList).getD 0 : Nat), .bool (wordR s.data.toList).isSome]) ∧ w = w' := by
  by_cases h8 : s.size = 8
  · have H8 := Lib.hid h8
    have h8a : (s.size : Int) ≤ 8 := by omega
    have h8b : 8 ≤ (s.size : Int) := by omega
    have ht : ((s.size : Int) != 8) = false := by simp; omega
    clear h8
    go_enter Tryz.func83, Tryz.ntmps83
    go_wp2
    go_loop [4, 5, 6, 12] (fun t _ _ i => ∃ j n : Nat, j ≤ 8 ∧ i = .int .i64 j ∧ t = .int .u32 n ∧ Hid (readTo s.data.toList j = some n)) (fun _ _ _ i => (8 - intOf i).toNat)
    case atStart => exact ⟨0, 0, by omega, rfl, rfl, rfl⟩
    case round =>
      obtain ⟨j, n, hj, rfl, rfl, HN⟩ := hrel
      by_cases hlt : j < 8
      · go_wp2_with (go_at_call 63; refine (IndexByte_any _ _ _).mono ?_; rintro e w' ⟨rfl, rfl⟩)
        · go_ret2
          have hv := index_none (c := s[j]) (by assumption)
          rw [byte_eq] at hv
          have hr : readTo s.data.toList (j + 1) = none := by simp only [readTo, HN.out, hv, Option.bind_some, Option.map_none]
          have hw : wordR s.data.toList = none := by
            rw [wordR_8 (by rw [len_eq]; exact H8.out)]
            exact readTo_none_le hr (by omega)
          rw [hw]
          exact ⟨rfl, rfl⟩
        · obtain ⟨d, hd, hv, he⟩ := index_some (c := s[j]) (by assumption)
          rw [byte_eq] at hv
          have hr : readTo s.data.toList (j + 1) = some (n * 16 + d) := by simp only [readTo, HN.out, hv, Option.bind_some, Option.map_some]
          have hn := readTo_lt HN.out
          have hp : 16 ^ j ≤ 16 ^ 7 := Nat.pow_le_pow_right (by omega) (by omega)
          refine ⟨⟨j + 1, n * 16 + d, by omega, by go_num, ?_, hr⟩, by simp [intOf]; omega⟩
          rw [he, Int.emod_eq_of_lt (by omega) (by omega), Int.emod_eq_of_lt (by omega) (by omega), bitsOfWord_or n d (by omega) hd]
      · have hj8 : j = 8 := by omega
        have HJ := Lib.hid hj8
        have hge : (8 : Int) ≤ j := by omega
        clear hj8
        go_wp2
        go_ret2
        have hw : wordR s.data.toList = some n := by
          have := HN.out
          rw [HJ.out] at this
          rw [wordR_8 (by rw [len_eq]; exact H8.out), this]
        rw [hw]
        exact ⟨rfl, rfl⟩
  · have ht : ((s.size : Int) != 8) = true := by simp; omega
    have H8 := Lib.hid h8
    clear h8
    go_enter Tryz.func83, Tryz.ntmps83
    go_wp2
    go_ret2
    have hw : wordR s.data.toList = none := by
      exact wordR_not (by rw [len_eq]; exact H8.out)
    rw [hw]
    exact ⟨rfl, rfl⟩

theorem Float32frombits_run (x : Nat) (w : World) : (callFunc 68 #[.int .u32 x]).run Tryz.prog w = .ok (.value (.float .f32 x)) w := by
  kernel_rfl
set_option maxHeartbeats 400000 in
theorem specWordRead_any (s : ByteArray) (hs : s.size ≤ 1048576) (w : World) :
    Calls Tryz.prog 42 #[.string s] w fun e w' => e = .returned (.tuple #[.float .f32 ((wordR s.data.toList).getD 0 : Nat), .bool (wordR s.data.toList).isSome]) ∧ Drw w w' := by
  cases hr : wordR s.data.toList with
  | none =>
    have H := Lib.hid (l9Read_any s hs w)
    rw [hr] at H
    simp only [Option.getD_none, Option.isSome_none] at H ⊢
    clear hr
    go_enter Tryz.func42, Tryz.ntmps42
    go_wp2_with (go_at_call 67; refine H.out.mono ?_; rintro e w' ⟨rfl, hd⟩)
    go_ret2
    exact ⟨rfl, hd⟩
  | some n =>
    have H := Lib.hid (l9Read_any s hs w)
    rw [hr] at H
    simp only [Option.getD_some, Option.isSome_some] at H ⊢
    clear hr
    have hf := Float32frombits_run n
    go_enter Tryz.func42, Tryz.ntmps42
    go_wp2_with (go_at_call 67; refine H.out.mono ?_; rintro e w' ⟨rfl, hd⟩)
    go_ret2
    exact ⟨rfl, hd⟩
set_option maxHeartbeats 400000 in
theorem implWordRead_any (s : ByteArray) (hs : s.size ≤ 1048576) (w : World) :
    Calls Tryz.prog 61 #[.string s] w fun e w' => e = .returned (.tuple #[.float .f32 ((wordR s.data.toList).getD 0 : Nat), .bool (wordR s.data.toList).isSome]) ∧ w = w' := by
  cases hr : wordR s.data.toList with
  | none =>
    have H := Lib.hid (bitsOfWord_any s hs w)
    rw [hr] at H
    simp only [Option.getD_none, Option.isSome_none] at H ⊢
    clear hr
    go_enter Tryz.func61, Tryz.ntmps61
    go_wp2_with (go_at_call 83; refine H.out.mono ?_; rintro e w' ⟨rfl, rfl⟩)
    go_ret2
    exact ⟨rfl, rfl⟩
  | some n =>
    have H := Lib.hid (bitsOfWord_any s hs w)
    rw [hr] at H
    simp only [Option.getD_some, Option.isSome_some] at H ⊢
    clear hr
    have hf := Float32frombits_run n
    go_enter Tryz.func61, Tryz.ntmps61
    go_wp2_with (go_at_call 83; refine H.out.mono ?_; rintro e w' ⟨rfl, rfl⟩)
    go_ret2
    exact ⟨rfl, rfl⟩
end Go.Proofs.YtidbdokoonikpaaGreatDoor
end

section
/- A region that draws its order, by an invariant over what has come up. -/
namespace Go.Proofs.YtidbdokoonikpaaGreatDoor
open Go.RowKit

theorem getD_setB (l : Array Bool) (i j : Nat) (d : Bool) (hi : i < l.size) : (l.setIfInBounds i true).getD j d = if j = i then true else l.getD j d := by
  simp only [Array.getD_eq_getD_getElem?]
  by_cases h : j = i
  · subst h
    rw [if_pos rfl, Array.getElem?_setIfInBounds_self_of_lt hi]
    rfl
  · rw [if_neg h, Array.getElem?_setIfInBounds_ne (fun e => h e.symm)]
theorem all_listed {md : Region.Mode} {ops : Array Oper} {l : Array Bool} (hsz : l.size = ops.size) (hac : ∀ (i : Nat) (o : Oper), ops[i]? = some o → ∀ e ∈ o.after, e.on < i) (hr : Region.ready md ops l = []) :
    ∀ n i, i < n → i < ops.size → l.getD i false = true
  | 0, i, h, _ => absurd h (by omega)
  | n + 1, i, h, hi => by
    by_cases hin : i < n
    · exact all_listed hsz hac hr n i hin hi
    · obtain rfl : i = n := by omega
      cases hl : l.getD i false with
      | true => rfl
      | false =>
        exfalso
        have ho : ops[i]? = some ops[i] := Array.getElem?_eq_getElem hi
        have hm : i ∈ Region.ready md ops l := by
          refine mem_ready.2 ⟨?_, _, ho, fun e he _ => ?_⟩
          · rw [Array.getD_eq_getD_getElem?, Array.getElem?_eq_getElem (by omega)] at hl ⊢
            exact hl
          · have hlt := hac i _ ho e he
            exact all_listed hsz hac hr i e.on hlt (by omega)
        rw [hr] at hm
        cases hm
def unl (n : Nat) (l : Array Bool) : Nat := ((List.range n).filter (fun i => !l.getD i true)).length
theorem unl_set {n : Nat} {l : Array Bool} (hsz : l.size = n) {i : Nat} (hi : i < n) (hl : l.getD i true = false) : unl n (l.setIfInBounds i true) < unl n l := by
  unfold unl
  have e : ((List.range n).filter (fun j => !(l.setIfInBounds i true).getD j true)) = ((List.range n).filter (fun j => !l.getD j true)).filter (fun j => decide (j ≠ i)) := by
    rw [List.filter_filter]
    refine List.filter_congr fun j _ => ?_
    rw [getD_setB l i j true (by omega)]
    by_cases h : j = i
    · subst h; simp
    · simp [h]
  rw [e]
  have hm : i ∈ (List.range n).filter (fun j => !l.getD j true) := by
    rw [List.mem_filter]
    exact ⟨List.mem_range.2 hi, by rw [hl]; rfl⟩
  have hlt := List.length_filter_lt_length_iff_exists (p := fun j => decide (j ≠ i)) (l := (List.range n).filter (fun j => !l.getD j true))
  exact hlt.2 ⟨i, hm, by simp⟩
theorem wpAny_inv {P : Program} {md : Region.Mode} {ops : Array Oper} {Q : Exit → Act → World → Prop} (Inv : (Nat → Bool) → Act → World → Prop) (hac : ∀ (i : Nat) (o : Oper), ops[i]? = some o → ∀ e ∈ o.after, e.on < i)
    (hstep : ∀ D a w, Inv D a w → ∀ (i : Nat) (o : Oper), ops[i]? = some o → D i = false → (∀ e ∈ o.after, Region.binds md e = true → D e.on = true) →
      if Region.wanted o (yielded ops a.tmps) = true then o.wp P a w (fun a' w' => Inv (fun j => if j = i then true else D j) a' w') Q else Inv (fun j => if j = i then true else D j) (a.put o.dst undef) w)
    (hend : ∀ D a w, Inv D a w → (∀ i, i < ops.size → D i = true) → Q .normal a w) :
    ∀ (fuel : Nat) (l : Array Bool) (a : Act) (w : World), l.size = ops.size → Inv (fun j => l.getD j false) a w → unl ops.size l ≤ fuel → wpAny P md ops Q fuel l a w
  | 0, l, a, w, hsz, hI, hf => by
    have hall : ∀ i, i < ops.size → l.getD i true = true := by
      intro i hi
      cases h : l.getD i true with
      | true => rfl
      | false =>
        have := unl_set hsz hi h
        omega
    refine ⟨List.eq_nil_iff_forall_not_mem.2 fun j hj => ?_, hend _ a w hI fun i hi => ?_⟩
    · obtain ⟨h0, o, ho, _⟩ := mem_ready.1 hj
      have hj2 := (Array.getElem?_eq_some_iff.1 ho).1
      rw [hall j hj2] at h0
      cases h0
    · have := hall i hi
      rw [Array.getD_eq_getD_getElem?, Array.getElem?_eq_getElem (by omega)] at this ⊢
      exact this
  | fuel + 1, l, a, w, hsz, hI, hf => by
    refine ⟨fun hr => hend _ a w hI fun i hi => all_listed hsz hac hr (i + 1) i (by omega) hi, fun i hi => ?_⟩
    obtain ⟨h0, o, ho, hall⟩ := mem_ready.1 hi
    have hilt := (Array.getElem?_eq_some_iff.1 ho).1
    have h1 : l.getD i false = false := by
      rw [Array.getD_eq_getD_getElem?, Array.getElem?_eq_getElem (by omega)] at h0 ⊢
      exact h0
    have hs := hstep _ a w hI i o ho h1 hall
    have hfun : (fun j => if j = i then true else l.getD j false) = fun j => (l.setIfInBounds i true).getD j false := by
      funext j
      rw [getD_setB l i j false (by omega)]
    rw [hfun] at hs
    have hlt := unl_set hsz hilt h0
    have hnext : ∀ a' w', Inv (fun j => (l.setIfInBounds i true).getD j false) a' w' → wpAny P md ops Q fuel (l.setIfInBounds i true) a' w' := fun a' w' h => wpAny_inv Inv hac hstep hend fuel _ a' w' (by rw [Array.size_setIfInBounds]; exact hsz) h (by omega)
    unfold wpOp
    rw [ho]
    simp only
    split
    · rename_i hw
      rw [if_pos hw] at hs
      exact .inl (Oper.wp_mono hnext hs)
    · rename_i hw
      rw [if_neg hw] at hs
      exact hnext _ _ hs
/-- a region that draws its order: an invariant over what has come up -/
theorem wp_region_inv {P : Program} {ops : Array Oper} {Q : Exit → Act → World → Prop} {id : Nat} {a : Act} {w : World} (hm : P.follows .mixedOrders = true) (Inv : (Nat → Bool) → Act → World → Prop) (hac : ∀ (i : Nat) (o : Oper), ops[i]? = some o → ∀ e ∈ o.after, e.on < i)
    (h0 : Inv (fun _ => false) a { w with drawn := w.drawn + 1 })
    (hstep : ∀ D a w, Inv D a w → ∀ (i : Nat) (o : Oper), ops[i]? = some o → D i = false → (∀ e ∈ o.after, Region.binds .any e = true → D e.on = true) →
      if Region.wanted o (yielded ops a.tmps) = true then o.wp P a w (fun a' w' => Inv (fun j => if j = i then true else D j) a' w') Q else Inv (fun j => if j = i then true else D j) (a.put o.dst undef) w)
    (hend : ∀ D a w, Inv D a w → (∀ i, i < ops.size → D i = true) → Q .normal a w) : (Code.region id ops true).wp P Q a w := by
  refine wp_region_any hm (wpAny_inv Inv hac hstep hend _ _ _ _ (by simp) ?_ ?_)
  · have e : (fun j => (Array.replicate ops.size false).getD j false) = fun _ => false := by
      funext j
      rw [Array.getD_eq_getD_getElem?, Array.getElem?_replicate]
      split <;> rfl
    rw [e]
    exact h0
  · unfold unl
    refine Nat.le_trans (List.length_filter_le _ _) ?_
    rw [List.length_range]
    exact Nat.le_refl _
end Go.Proofs.YtidbdokoonikpaaGreatDoor
end
