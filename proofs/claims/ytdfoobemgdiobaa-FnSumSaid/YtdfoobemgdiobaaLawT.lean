/- Walks of what the laws of tiles do with slices of ints. -/
import Derived.Test.YtdfoobemgdiobaaTilV
import Derived.Deep.Cut
namespace Go.Proofs.Ytdfoobemgdiobaa
open Go.RowKit

set_option maxHeartbeats 1000000 in
theorem sameInts_same (a b : Option Addr) (ca cb : Nat) (xs : List Int) (hn : xs.length ≤ 1048576) (w : World) (ha : Sl w a (xs.map intV)) (hb : Sl w b (xs.map intV)) :
    Calls Try.prog 25 #[.slice a xs.length ca, .slice b xs.length cb] w fun e w' => e = .returned (.bool true) ∧ Drw w w' := by
  obtain ⟨n, hnn⟩ : ∃ n, xs.length = n := ⟨_, rfl⟩
  have HX : Hid (∀ k, k < n → ∃ x, (xs.map intV)[k]? = some (.int .i64 x)) := fun k h => ⟨xs[k]'(by omega), by rw [List.getElem?_map, List.getElem?_eq_getElem (by omega)]; rfl⟩
  have HA := Lib.hid ha
  have HB := Lib.hid hb
  rw [hnn] at hn ⊢
  clear ha hb hnn
  go_enter Try.func25, Try.ntmps25
  go_wp2
  go_loopw [5] (fun i wr => ∃ k : Nat, k ≤ n ∧ i = .int .i64 k ∧ Hid (Drw w wr)) (fun i _ => (n - intOf i).toNat)
  case atStart => exact ⟨0, by omega, rfl, Drw.refl _⟩
  case round =>
    obtain ⟨k, hk, rfl, HD⟩ := hrel
    by_cases hlt : k < n
    · obtain ⟨x, hx⟩ := HX.out k hlt
      obtain ⟨b1, o1, rfl, hc1⟩ := (HA.out.drw HD.out).at hx
      obtain ⟨b2, o2, rfl, hc2⟩ := (HB.out.drw HD.out).at hx
      clear hx
      go_upto_region 6 with fail
      go_quiet (fail)
      have HD2 := Lib.hid (HD.out.drewN nq)
      go_wp2
      go_roundw
      case rel => exact ⟨k + 1, by omega, by go_num, HD2⟩
      case measure => simp [intOf]; omega
    · go_wp2
      go_ret
      exact ⟨rfl, HD.out⟩
theorem wellB_neg {size : Int} {n : Nat} {ys : List Int} (h : wellB size n ys = true) : wellB size n (ys.map (fun y => -y)) = true := by
  obtain ⟨h1, h2, h3⟩ := wellB_all h
  refine wellB_ok h1 (by rw [List.length_map]; exact h2) (fun j hj => ?_)
  rw [List.getElem_map]
  have := h3 _ (List.getElem_mem (by simpa using hj : j < ys.length))
  unfold markB inB
  simp
  omega
theorem neg_take (ys : List Int) (k : Nat) (h : k < ys.length) : (ys.take (k + 1)).map (fun y => -y) = (ys.take k).map (fun y => -y) ++ [-ys[k]] := by
  rw [← List.take_append_getElem h, List.map_append]; rfl
theorem map_intV (ys : List Int) (z : Int) : (ys ++ [z]).map intV = ys.map intV ++ [intV z] := by rw [List.map_append]; rfl
end Go.Proofs.Ytdfoobemgdiobaa
