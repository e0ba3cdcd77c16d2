/- Draws of texts. -/
import Derived.Test.YtcdkhacccbdmdaaRdF
import Derived.Test.YtcdkhacccbdmdaaWordW
namespace Go.Proofs.Ytcdkhacccbdmdaa
open Go.RowKit

theorem Only.cell {b : Nat} {u v : World} (h : Only b u v) {p : Addr} (hp : p.block < u.heap.size) (hne : p.block ≠ b) : v.cell? p = u.cell? p := World.cell?_of_block (h.block _ hp hne)
theorem Rd.lt {w0 : World} {b p : Nat} {W : World} (h : Rd w0 b p W) : b < W.heap.size := by
  obtain ⟨_, _, _, h, _⟩ := h; exact h.lt
set_option maxHeartbeats 400000 in
theorem of_any (w0 : World) (b p : Nat) (hp : p ≤ 1099511627000) (W : World) (h : Rd w0 b p W) (lb n c : Nat) (xs : List ByteArray) (hx : xs.length = n) (hn : 1 ≤ n) (hn2 : n ≤ 1000) (hne : lb ≠ b) (hs : Sl W (some ⟨lb, 0, none⟩) (xs.map Value.string)) :
    Calls Try.prog 25 #[.pointer (some ⟨b, 0, none⟩), .slice (some ⟨lb, 0, none⟩) n c] W fun e w' => (∃ s, s ∈ xs ∧ e = .returned (.string s)) ∧ Rd w0 b (p + 1) w' ∧ Only b W w' := by
  have HS := Lib.hid hs
  have HX := Lib.hid hx
  clear hs hx
  go_enter Try.func25, Try.ntmps25
  go_wp2_with fail
  refine (pick_any w0 b p n (by omega) (by omega) _ h).mono ?_
  rintro e w1 ⟨⟨r, rfl, r0, r1⟩, hR, hO⟩
  have hrn : r < n := by omega
  have hv : (xs.map Value.string)[r.toNat]? = some (Value.string (xs[r.toNat]'(by rw [HX.out]; omega))) := by
    rw [List.getElem?_map, List.getElem?_eq_getElem (by rw [HX.out]; omega)]; rfl
  obtain ⟨b', o', he, hc⟩ := HS.out.at hv
  obtain ⟨rfl, rfl⟩ : lb = b' ∧ 0 = o' := by injection he with he; injection he with h3 h4 _; exact ⟨h3, h4⟩
  have hc1 : w1.cell? ⟨lb, 0 + r.toNat, none⟩ = some (Value.string (xs[r.toNat]'(by rw [HX.out]; omega))) := (hO.cell (World.block_lt_of_cell? _ _ hc) hne).trans hc
  rw [Nat.zero_add] at hc1
  have HM : Hid (xs[r.toNat]'(by rw [HX.out]; omega) ∈ xs) := List.getElem_mem _
  generalize xs[r.toNat]'(by rw [HX.out]; omega) = s at *
  have HR := Lib.hid hR
  have HO := Lib.hid hO
  clear hv he hc hR hO h HS
  go_wp2
  go_ret
  exact ⟨⟨s, HM.out, rfl⟩, HR.out, HO.out⟩
set_option maxHeartbeats 1000000 in
theorem drawWordRead_any (a : Option Addr) (c : Nat) (bs : List UInt8) (hn : bs.length ≤ 1048576) (hc : bs.length ≤ c) (w : World) (hs : Sl w a (bs.map byteV)) :
    Calls Try.prog 7 #[.slice a bs.length c] w fun e w' => (∃ s, e = .returned (.string s) ∧ s.size ≤ 100) ∧ Below w.heap.size w w' := by
  have H := Lib.hid (open_any a c bs hn hc w hs)
  clear hs
  go_enter Try.func7, Try.ntmps7
  go_wp2_with fail
  refine H.out.mono ?_
  rintro e w1 ⟨b, rfl, -, hR⟩
  go_wp2_with fail
  refine (part_any w b 0 (by omega) _ hR).mono ?_
  rintro e w2 ⟨⟨x, rfl, hx⟩, ⟨p', hp', hR2⟩, -⟩
  obtain ⟨y, w3, hcv, hy, hd⟩ := Flo.narrow_any (P := Try.prog) 45 24 (by kernel_rfl) Try.underlying24 x w2
  have HR3 := Lib.hid (hR2.drw hd)
  clear hR hR2 hd
  go_wp2_with fail
  refine (specWordOf_any y hy w3).mono ?_
  rintro e w4 ⟨rfl, rfl⟩
  have hz : (⟨(wordL y).toArray⟩ : ByteArray).size = 8 := wordL_length y
  generalize (⟨(wordL y).toArray⟩ : ByteArray) = s at *
  go_wp2_with fail
  refine (pick_any w b p' 8 (by omega) (by omega) _ HR3.out).mono ?_
  rintro e w5 ⟨⟨r, rfl, r0, r1⟩, hR5, -⟩
  have HR5 := Lib.hid hR5
  clear HR3 hR5
  by_cases h0 : r = 0
  · subst h0
    have hz2 : (s ++ (⟨#[48]⟩ : ByteArray)).size = 9 := by rw [ByteArray.size_append, hz]; rfl
    have HB := Lib.hid HR5.out.below
    clear HR5
    go_wp2
    go_ret
    exact ⟨⟨_, rfl, by omega⟩, HB.out⟩
  by_cases h1 : r = 1
  · subst h1
    have hlb : w5.heap.size ≠ b := by have := HR5.out.lt; omega
    have hsz : ∀ t ∈ ([⟨#[]⟩, ⟨#[51, 70, 56, 48, 48, 48, 48, 48]⟩, ⟨#[120, 121, 122, 48, 48, 48, 48, 48]⟩, ⟨#[102, 102, 102, 102, 102, 102, 102, 102]⟩, ⟨#[48, 48, 48, 48, 48, 48, 48, 49]⟩] : List ByteArray), t.size ≤ 100 := by
      intro t ht
      simp only [List.mem_cons, List.not_mem_nil, or_false] at ht
      rcases ht with rfl | rfl | rfl | rfl | rfl <;> decide
    go_wp2_with fail
    refine (of_any w b (p' + 1) (by omega) _ (HR5.out.step ((Below.refl _ _).alloc (Nat.le_refl _) _)) w5.heap.size 5 5 _ rfl (by omega) (by omega) hlb (Sl.of_box (xs := ([⟨#[]⟩, ⟨#[51, 70, 56, 48, 48, 48, 48, 48]⟩, ⟨#[120, 121, 122, 48, 48, 48, 48, 48]⟩, ⟨#[102, 102, 102, 102, 102, 102, 102, 102]⟩, ⟨#[48, 48, 48, 48, 48, 48, 48, 49]⟩] : List ByteArray).map Value.string) (Box.new w5 _ _) rfl)).mono ?_
    rintro e w6 ⟨⟨t, ht, rfl⟩, hR6, -⟩
    have htz := hsz t ht
    have HB := Lib.hid hR6.below
    clear HR5 hR6 hsz ht
    go_wp2
    go_ret
    exact ⟨⟨t, rfl, htz⟩, HB.out⟩
  · have g0 : (r == 0) = false := by simpa using h0
    have g1 : (r == 1) = false := by simpa using h1
    have HB := Lib.hid HR5.out.below
    clear HR5
    go_wp2
    go_ret
    exact ⟨⟨s, rfl, by omega⟩, HB.out⟩
end Go.Proofs.Ytcdkhacccbdmdaa
