/- Draws of bits as texts. -/
import Derived.Test.YteegdpnidakjiaaDoorRd
import Derived.Test.YteegdpnidakjiaaDoorAngD
namespace Go.Proofs.YteegdpnidakjiaaDoor
open Go.RowKit

theorem Only.cell {b : Nat} {u v : World} (h : Only b u v) {p : Addr} (hp : p.block < u.heap.size) (hne : p.block ≠ b) : v.cell? p = u.cell? p := World.cell?_of_block (h.block _ hp hne)
set_option maxHeartbeats 400000 in
theorem of_any (w0 : World) (b p : Nat) (hp : p ≤ 1099511627000) (W : World) (h : Rd w0 b p W) (lb n c : Nat) (xs : List ByteArray) (hx : xs.length = n) (hn : 1 ≤ n) (hn2 : n ≤ 1000) (hne : lb ≠ b) (hs : Sl W (some ⟨lb, 0, none⟩) (xs.map Value.string)) :
    Calls Tryd.prog 12 #[.pointer (some ⟨b, 0, none⟩), .slice (some ⟨lb, 0, none⟩) n c] W fun e w' => (∃ s, s ∈ xs ∧ e = .returned (.string s)) ∧ Rd w0 b (p + 1) w' ∧ Only b W w' := by
  have HS := Lib.hid hs
  have HX := Lib.hid hx
  clear hs hx
  go_enter Tryd.func12, Tryd.ntmps12
  go_wp2_with fail
  refine (pick_any w0 b p n (by omega) (by omega) _ h).mono ?_
  rintro e w1 ⟨⟨r, rfl, r0, r1⟩, hR, hO⟩
  have hrn : r < n := by omega
  have hv : (xs.map Value.string)[r.toNat]? = some (Value.string (xs[r.toNat]'(by rw [HX.out]; omega))) := by
    rw [List.getElem?_map, List.getElem?_eq_getElem (by rw [HX.out]; omega)]; rfl
  obtain ⟨b', o', he, hc⟩ := HS.out.at hv
  obtain ⟨rfl, rfl⟩ : lb = b' ∧ 0 = o' := by injection he with he; injection he with h3 h4 _; exact ⟨h3, h4⟩
  have hc1 : w1.cell? ⟨lb, 0 + r.toNat, none⟩ = some (Value.string (xs[r.toNat]'(by rw [HX.out]; omega))) := (hO.cell (World.block_lt_of_cell? _ _ hc) hne).trans hc
  rw [Nat.zero_add] at hc1
  have HM : Hid (xs[r.toNat]'(by rw [HX.out]; omega) ∈ xs) := List.getElem_mem _
  generalize xs[r.toNat]'(by rw [HX.out]; omega) = s at *
  have HR := Lib.hid hR
  have HO := Lib.hid hO
  clear hv he hc hR hO h HS
  go_wp2
  go_ret
  exact ⟨⟨s, HM.out, rfl⟩, HR.out, HO.out⟩
theorem size_cat {a b : ByteArray} {m n : Nat} (h : a.size ≤ m) (k : b.size ≤ n) : (a ++ b).size ≤ m + n := by
  rw [ByteArray.size_append]; omega
set_option maxHeartbeats 4000000 in
theorem l92Bits_any (w0 : World) (b p m : Nat) (hm : m ≤ 10) (hp : p ≤ 1000) (W : World) (h : Rd w0 b p W) :
    Calls Tryd.prog 11 #[.pointer (some ⟨b, 0, none⟩), .int .i64 m] W fun e w' => (∃ s : ByteArray, e = .returned (.string s) ∧ s.size ≤ 30) ∧ ∃ p', p' ≤ p + 20 ∧ Rd w0 b p' w' := by
  go_enter Tryd.func11, Tryd.ntmps11
  go_wp2_with fail
  refine (pick_any w0 b p (m + 1) (by omega) (by omega) _ h).mono ?_
  rintro e w1 ⟨⟨n, rfl, n0, n1⟩, hR, -⟩
  obtain ⟨k, rfl⟩ := Int.eq_ofNat_of_zero_le n0
  have hk : k ≤ m := by omega
  have HR := Lib.hid hR
  clear hR h n0 n1
  go_wp2
  go_loopw [5, 7] (fun t i wr => ∃ (j p' : Nat) (s : ByteArray), j ≤ k ∧ i = .int .i64 j ∧ t = .string s ∧ s.size ≤ j ∧ p' ≤ p + 1 + j ∧ Hid (Rd w0 b p' wr)) (fun _ i _ => (k - intOf i).toNat)
  case atStart => exact ⟨0, p + 1, _, by omega, rfl, rfl, by decide, by omega, HR⟩
  case round =>
    obtain ⟨j, p', s, hj, rfl, rfl, hs, hp', HR⟩ := hrel
    obtain ⟨wo, rfl⟩ : ∃ wo, wo = wr := ⟨_, rfl⟩
    have hb := HR.out.own.2
    by_cases hlt : j < k
    · have X := Box.new wo #[.string ⟨#[48]⟩, .string ⟨#[49]⟩] 9
      have HR2 := HR.out.step ((Below.refl _ _).alloc (Nat.le_refl _) (.cells #[.string ⟨#[48]⟩, .string ⟨#[49]⟩] 9))
      have HO := Lib.hid (of_any w0 b p' (by omega) _ HR2 wo.heap.size 2 2 [⟨#[48]⟩, ⟨#[49]⟩] rfl (by omega) (by omega) (by omega) (Sl.of_box X rfl))
      clear X HR2
      go_wp2_with fail
      refine HO.out.mono ?_
      rintro e w2 ⟨⟨c, hc, rfl⟩, hR, -⟩
      have hcs : c.size ≤ 1 := by
        rcases List.mem_cons.1 hc with rfl | hc
        · decide
        · rcases List.mem_cons.1 hc with rfl | hc
          · decide
          · cases hc
      have HS := Lib.hid (size_cat hs hcs)
      have HR3 := Lib.hid hR
      clear hR hc HO HR
      go_wp2
      go_roundw
      case rel => exact ⟨j + 1, p' + 1, _, by omega, by go_num, rfl, HS.out, by omega, HR3⟩
      case measure => simp [intOf]; omega
    · have hjk : j = k := by omega
      subst hjk
      go_wp2_with fail
      refine (pick_any w0 b p' 20 (by omega) (by omega) _ HR.out).mono ?_
      rintro e w2 ⟨⟨x, rfl, x0, x1⟩, hR, -⟩
      have HR2 := Lib.hid hR
      have hb2 := hR.own.2
      clear hR HR
      by_cases hx : x = 0
      · subst hx
        have X := Box.new w2 #[.string ⟨#[50]⟩, .string ⟨#[32]⟩, .string ⟨#[48, 48, 48, 48, 48, 48, 48, 48]⟩] 9
        have HR3 := HR2.out.step ((Below.refl _ _).alloc (Nat.le_refl _) (.cells #[.string ⟨#[50]⟩, .string ⟨#[32]⟩, .string ⟨#[48, 48, 48, 48, 48, 48, 48, 48]⟩] 9))
        have HO := Lib.hid (of_any w0 b (p' + 1) (by omega) _ HR3 w2.heap.size 3 3 [⟨#[50]⟩, ⟨#[32]⟩, ⟨#[48, 48, 48, 48, 48, 48, 48, 48]⟩] rfl (by omega) (by omega) (by omega) (Sl.of_box X rfl))
        clear X HR3
        go_wp2_with fail
        refine HO.out.mono ?_
        rintro e w3 ⟨⟨c, hc, rfl⟩, hR, -⟩
        have hcs : c.size ≤ 8 := by
          rcases List.mem_cons.1 hc with rfl | hc
          · decide
          · rcases List.mem_cons.1 hc with rfl | hc
            · decide
            · rcases List.mem_cons.1 hc with rfl | hc
              · decide
              · cases hc
        have HS := Lib.hid (size_cat hs hcs)
        have HR4 := Lib.hid hR
        clear hR hc HO HR2
        go_wp2
        go_ret
        exact ⟨⟨_, rfl, by have := HS.out; omega⟩, p' + 1 + 1, by omega, HR4.out⟩
      · have hx2 : (x == 0) = false := by simpa using hx
        go_wp2
        go_ret
        exact ⟨⟨_, rfl, by omega⟩, p' + 1, by omega, HR2.out⟩
end Go.Proofs.YteegdpnidakjiaaDoor
