/- Merged texts: TrdL. -/
import Derived.Test.YtidbdokoonikpaaGreatDoorJ13
import Derived.Test.YtidbdokoonikpaaGreatDoorJ14
import Derived.Test.YtidbdokoonikpaaGreatDoorJ7
import Derived.Deep.Cut
section
/- Walks: the draw of a text to be read as a tile. -/
namespace Go.Proofs.YtidbdokoonikpaaGreatDoor
open Go.RowKit Flo
attribute [local go_sem] run_store_float run_store_complex

theorem Only.cellT {b : Nat} {u v : World} (h : Only b u v) {p : Addr} (hp : p.block < u.heap.size) (hne : p.block ≠ b) : v.cell? p = u.cell? p := World.cell?_of_block (h.block _ hp hne)
set_option maxHeartbeats 400000 in
theorem of_anyT (w0 : World) (b p : Nat) (hp : p ≤ 1099511627000) (W : World) (h : Rd w0 b p W) (lb n c : Nat) (xs : List ByteArray) (hx : xs.length = n) (hn : 1 ≤ n) (hn2 : n ≤ 1000) (hne : lb ≠ b) (hs : Sl W (some ⟨lb, 0, none⟩) (xs.map Value.string)) :
    Calls Tryz.prog 66 #[.pointer (some ⟨b, 0, none⟩), .slice (some ⟨lb, 0, none⟩) n c] W fun e w' => (∃ s, s ∈ xs ∧ e = .returned (.string s)) ∧ Rd w0 b (p + 1) w' ∧ Only b W w' := by
  have HS := Lib.hid hs
  have HX := Lib.hid hx
  clear hs hx
  go_enter Tryz.func66, Tryz.ntmps66
  go_wp2_with fail
  refine (pick_any w0 b p n (by omega) (by omega) _ h).mono ?_
  rintro e w1 ⟨⟨r, rfl, r0, r1⟩, hR, hO⟩
  have hrn : r < n := by omega
  have hv : (xs.map Value.string)[r.toNat]? = some (Value.string (xs[r.toNat]'(by rw [HX.out]; omega))) := by
    rw [List.getElem?_map, List.getElem?_eq_getElem (by rw [HX.out]; omega)]; rfl
  obtain ⟨b', o', he, hc⟩ := HS.out.at hv
  obtain ⟨rfl, rfl⟩ : lb = b' ∧ 0 = o' := by injection he with he; injection he with h3 h4 _; exact ⟨h3, h4⟩
  have hc1 : w1.cell? ⟨lb, 0 + r.toNat, none⟩ = some (Value.string (xs[r.toNat]'(by rw [HX.out]; omega))) := (hO.cellT (World.block_lt_of_cell? _ _ hc) hne).trans hc
  rw [Nat.zero_add] at hc1
  have HM : Hid (xs[r.toNat]'(by rw [HX.out]; omega) ∈ xs) := List.getElem_mem _
  generalize xs[r.toNat]'(by rw [HX.out]; omega) = s at *
  have HR := Lib.hid hR
  have HO := Lib.hid hO
  clear hv he hc hR hO h HS
  go_wp2
  go_ret
  exact ⟨⟨s, HM.out, rfl⟩, HR.out, HO.out⟩
theorem ttxt_700 {B : Nat} {a1 : Option Addr} {c1 : Nat} {a2 : Option Addr} {c2 cx cy : Nat} {deep size : Int} {xs : List Nat} {ys : List Int} {w : World} (T : TileV B a1 c1 a2 c2 cx cy deep size xs ys w) : (ttxt cx cy deep size xs ys).size ≤ 700 := by
  by_cases hw : wellB size xs.length ys = true
  · have hl := T.lim
    obtain ⟨d, rfl⟩ := Int.eq_ofNat_of_zero_le hl.2.2.1
    obtain ⟨s, rfl⟩ := Int.eq_ofNat_of_zero_le (show 0 ≤ size by omega)
    have hg : (⟨cx, cy, d, s, xs, ys⟩ : TD).Good := ⟨T.bx, T.by1, T.pl, hw, T.hx⟩
    have ht : (ttxt cx cy d s xs ys).data.toList = (⟨cx, cy, d, s, xs, ys⟩ : TD).text := by
      unfold ttxt
      rw [if_pos hw]
      rfl
    have h7 := TD.text_len hg
    rw [← ht, len_eq] at h7
    exact h7
  · unfold ttxt
    rw [if_neg hw]
    decide
theorem four_size : ∀ s, s ∈ ([⟨#[48]⟩, ⟨#[32]⟩, ⟨#[97]⟩, ⟨#[43]⟩] : List ByteArray) → s.size = 1 := by
  intro t ht
  simp only [List.mem_cons, List.not_mem_nil, or_false] at ht
  rcases ht with rfl | rfl | rfl | rfl <;> decide
theorem of_four (w0 : World) (b p : Nat) (hp : p ≤ 1099511627000) (W : World) (h : Rd w0 b p W) (W' : World) (hd : Drw (W.alloc (.cells #[.string ⟨#[48]⟩, .string ⟨#[32]⟩, .string ⟨#[97]⟩, .string ⟨#[43]⟩] 9)) W') :
    Calls Tryz.prog 66 #[.pointer (some ⟨b, 0, none⟩), .slice (some ⟨W.heap.size, 0, none⟩) 4 4] W' fun e w' => (∃ s : ByteArray, s.size = 1 ∧ e = .returned (.string s)) ∧ Rd w0 b (p + 1) w' ∧ Only b W w' := by
  have X := Box.new W #[.string ⟨#[48]⟩, .string ⟨#[32]⟩, .string ⟨#[97]⟩, .string ⟨#[43]⟩] 9
  have HR := h.step ((Below.refl _ _).alloc (Nat.le_refl _) (.cells #[.string ⟨#[48]⟩, .string ⟨#[32]⟩, .string ⟨#[97]⟩, .string ⟨#[43]⟩] 9))
  obtain ⟨hb0, hb1⟩ := h.ownb
  refine (of_anyT w0 b p hp _ (HR.drw hd) W.heap.size 4 4 [⟨#[48]⟩, ⟨#[32]⟩, ⟨#[97]⟩, ⟨#[43]⟩] rfl (by omega) (by omega) (by omega) ((Sl.of_box X rfl).drw hd)).mono ?_
  rintro e w' ⟨⟨s, hs, rfl⟩, hR, hO⟩
  exact ⟨⟨s, four_size s hs, rfl⟩, hR, ((Only.of_below ((Below.refl _ _).alloc (Nat.le_refl _) _)).trans (Only.of_below (hd.below _))).trans hO⟩
set_option maxRecDepth 100000 in
set_option maxHeartbeats 4000000 in
theorem l92Text_any (w0 : World) (b p : Nat) (hp : p ≤ 1000) (W : World) (h : Rd w0 b p W) :
    Calls Tryz.prog 40 #[.pointer (some ⟨b, 0, none⟩)] W fun e w' => (∃ s : ByteArray, e = .returned (.string s) ∧ s.size ≤ 2000) ∧ (∃ p', p' ≤ p + 30 ∧ Rd w0 b p' w') ∧ Only b W w' := by
  go_enter Tryz.func40, Tryz.ntmps40
  go_wp2_with fail
  refine (l92Tile_own w0 b p (by omega) _ h).mono ?_
  rintro e w1 ⟨hT, ⟨p', hp', hR⟩, hO1⟩
  obtain ⟨a1, c1, a2, c2, cx, cy, deep, size, xs, ys, rfl, T⟩ := hT.parts
  have CT := Lib.hid (specText_is T)
  have h7 := ttxt_700 T
  generalize ttxt cx cy deep size xs ys = s at CT h7
  generalize wellB size xs.length ys = ok at CT
  have HR := Lib.hid hR
  clear hR hT T h
  go_wp2_with fail
  with_reducible refine CT.out.mono ?_
  rintro e w2 ⟨rfl, hd⟩
  have HR2 := Lib.hid (HR.out.step hd)
  have HO2 := Lib.hid (hO1.trans (Only.of_below hd))
  clear hd HR CT hO1
  cases ok with
  | false =>
    go_wp2
    go_ret
    exact ⟨⟨_, rfl, by decide⟩, ⟨_, by omega, HR2.out⟩, HO2.out⟩
  | true =>
    obtain ⟨n, hn⟩ : ∃ n, s.size = n := ⟨_, rfl⟩
    obtain ⟨m, hm⟩ : ∃ m : Int, min (250 : Int) (n : Int) = m := ⟨_, rfl⟩
    have hm0 : 0 ≤ m ∧ m ≤ n ∧ m ≤ 250 := by omega
    have HP := Lib.hid (pick_any w0 b p' m (by omega) (by omega) _ HR2.out)
    have HM := Lib.hid hm0
    clear hm0
    go_wp2_with fail
    with_reducible refine HP.out.mono ?_
    rintro e w3 ⟨⟨r, rfl, r0, r1⟩, hR, hO3⟩
    obtain ⟨k, rfl⟩ := Int.eq_ofNat_of_zero_le r0
    have hkn : k ≤ n := by have := HM.out; omega
    have HQ := Lib.hid (pick_any w0 b (p' + 1) 8 (by omega) (by omega) _ hR)
    clear hR HP HM r0 r1 hm HR2
    go_wp2_with fail
    refine HQ.out.mono ?_
    rintro e w4 ⟨⟨q, rfl, q0, q1⟩, hR, hO4⟩
    have HR4 := Lib.hid hR
    have HO4 := Lib.hid ((HO2.out.trans hO3).trans hO4)
    clear hR HQ hO3 hO4 HO2
    have hsl : ∀ wx, (Instr.slice 9 (.string s) none (some (.int .i64 k)) none).run Tryz.prog wx = .ok (.string (s.extract 0 k)) wx := fun wx => by
      rw [run_slice_string_h (ht := Tryz.underlying9) (h0 := by omega) (h2 := by omega)]
      rfl
    obtain ⟨A, hA⟩ : ∃ A : ByteArray, s.extract 0 k = A := ⟨_, rfl⟩
    have hAs : A.size = k := by rw [← hA, ByteArray.size_extract]; omega
    rw [hA] at hsl
    by_cases c0 : q = 0
    · subst c0
      obtain ⟨j, hj⟩ : ∃ j : Nat, min (n : Int) ((k : Int) + 1) = j := by
        by_cases c : (k : Int) + 1 < n
        · exact ⟨k + 1, by omega⟩
        · exact ⟨n, by omega⟩
      have hwk : IntKind.i64.wrap ((k : Int) + 1) = (k : Int) + 1 := IntWalk.i64_in _ (by omega)
      have hjn : j ≤ n := by omega
      have hsl2 : ∀ wx, (Instr.slice 9 (.string s) (some (.int .i64 j)) none none).run Tryz.prog wx = .ok (.string (s.extract j n)) wx := fun wx => by
        rw [run_slice_string_l (ht := Tryz.underlying9) (h0 := by omega) (h1 := by omega)]
        rw [hn]
        rfl
      obtain ⟨C, hC⟩ : ∃ C : ByteArray, s.extract j n = C := ⟨_, rfl⟩
      have hCs : C.size ≤ 700 := by rw [← hC, ByteArray.size_extract]; omega
      rw [hC] at hsl2
      have CO := Lib.hid (of_four w0 b (p' + 1 + 1) (by omega) _ HR4.out _ (Drw.refl _))
      have CO2 := Lib.hid (of_four w0 b (p' + 1 + 1) (by omega) _ HR4.out _ (Drw.refl _).drew)
      rw [hn] at h7
      go_upto_region 7 with fail
      go_region_with (first
        | (go_at_call 66
           first
             | with_reducible refine CO.out.mono ?_
             | with_reducible refine CO2.out.mono ?_
           rintro e w5 ⟨⟨c, hc, rfl⟩, hR, hO5⟩))
      all_goals
        have HB5 := Lib.hid hR
        have HO5 := Lib.hid (HO4.out.trans hO5)
        have hsz : (A ++ c ++ C).size ≤ 2000 := by
          rw [ByteArray.size_append, ByteArray.size_append]
          omega
        go_wp2
        go_ret
        exact ⟨⟨_, rfl, hsz⟩, ⟨_, by omega, HB5.out⟩, HO5.out⟩
    · by_cases c1 : q = 1
      · subst c1
        go_wp2
        go_ret
        exact ⟨⟨_, rfl, by omega⟩, ⟨_, by omega, HR4.out⟩, HO4.out⟩
      · have e0 : (q == 0) = false := by simpa using c0
        have e1 : (q == 1) = false := by simpa using c1
        go_wp2
        go_ret
        exact ⟨⟨_, rfl, by omega⟩, ⟨_, by omega, HR4.out⟩, HO4.out⟩
end Go.Proofs.YtidbdokoonikpaaGreatDoor
end
