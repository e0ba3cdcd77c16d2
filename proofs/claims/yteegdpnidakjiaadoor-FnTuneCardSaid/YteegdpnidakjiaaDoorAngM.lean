/- Walks: angles made, mirrored, doubled. -/
import Derived.Test.YteegdpnidakjiaaDoorAngV
import Derived.Test.YteegdpnidakjiaaDoorSl
import Derived.Deep.RegionWith
import Derived.StillTailTactics
namespace Go.Proofs.YteegdpnidakjiaaDoor
open Go.RowKit

/-- a fraction's angle -/
def lowN (n d : Nat) : Nat := n % d / Nat.gcd (n % d) d
def lowD (n d : Nat) : Nat := d / Nat.gcd (n % d) d
theorem lowN_le (n d : Nat) (hd : 1 ≤ d) : lowN n d ≤ d := by
  unfold lowN; exact Nat.le_trans (Nat.div_le_self _ _) (Nat.le_of_lt (Nat.mod_lt _ (by omega)))
theorem lowD_le (n d : Nat) : lowD n d ≤ d := Nat.div_le_self _ _
theorem below_two {w w' : World} (h : Below w.heap.size w w') (b : Nat) (hb : w.heap.size ≤ b) (x y : Value) (i j : Nat) : Below w.heap.size w ((w'.setCell ⟨b, i, none⟩ x).setCell ⟨b, j, none⟩ y).drew :=
  ((h.setCell (p := ⟨b, i, none⟩) hb _).setCell (p := ⟨b, j, none⟩) hb _).trans ((Drw.refl _).drew.below _)
set_option maxHeartbeats 1000000 in
theorem implAngleMake_any (n d : Nat) (hd : 1 ≤ d) (hd2 : d ≤ 1048576) (hn : n ≤ 1000000000) (w : World) :
    Calls Tryd.prog 31 #[.int .i64 n, .int .i64 d] w fun e w' => e = .returned (.tuple #[.agg #[.int .i64 (lowN n d), .int .i64 (lowD n d)], .bool true]) ∧ Below w.heap.size w w' := by
  obtain ⟨t, ht⟩ : ∃ t : Nat, n % d = t := ⟨_, rfl⟩
  have htd : t < d := by rw [← ht]; exact Nat.mod_lt _ (by omega)
  have e1 : (n : Int).tmod d = (t : Int) := by rw [← ht]; exact (Int.tmod_eq_emod_of_nonneg (by omega)).trans (Int.natCast_emod n d).symm
  have hz : ((d : Int) == 0) = false := by simp; omega
  obtain ⟨g, hg⟩ : ∃ g : Nat, Nat.gcd t d = g := ⟨_, rfl⟩
  have hgp : 1 ≤ g := by rw [← hg]; exact Nat.gcd_pos_of_pos_right _ (by omega)
  have hgz : ((g : Int) == 0) = false := by simp; omega
  have e2 : (t : Int).tdiv g = ((lowN n d : Nat) : Int) := by unfold lowN; rw [ht, hg]; exact (Int.tdiv_eq_ediv_of_nonneg (by omega)).trans (Int.natCast_ediv t g).symm
  have e3 : (d : Int).tdiv g = ((lowD n d : Nat) : Int) := by unfold lowD; rw [ht, hg]; exact (Int.tdiv_eq_ediv_of_nonneg (by omega)).trans (Int.natCast_ediv d g).symm
  have HV := Lib.hid (fun w => divisor_any t d (by omega) (by omega) w)
  rw [hg] at HV
  have B := Box.new w #[.int .i64 0, .int .i64 0] 24
  have x1 := lowN_le n d hd
  have y1 := lowD_le n d
  generalize lowN n d = x at *
  generalize lowD n d = y at *
  clear ht hg
  go_enter Tryd.func31, Tryd.ntmps31
  go_wp2_with (go_at_call 35; refine (HV.out _).mono ?_; rintro e w' ⟨rfl, hb⟩; replace B := B.step (hb.below _); clear hb)
  have c0 := B.cell 0 _ rfl
  have c1 := B.cell 1 _ rfl
  have f0 := B.frozen 0
  have f1 := B.frozen 1
  have HB := Lib.hid B.old
  clear B
  go_region
  go_wp2
  exact bodyPost_ret (v := .tuple #[.agg #[.int .i64 x, .int .i64 y], .bool true]) (by simp [results, Tryd.f31, go_sem, c0, c1]) rfl ⟨rfl, below_two HB.out _ (Nat.le_refl _) _ _ _ _⟩
set_option maxHeartbeats 1000000 in
theorem l6aLow_any (n d : Nat) (hd : 1 ≤ d) (hd2 : d ≤ 1048576) (hn : n ≤ 1000000000) (w : World) :
    Calls Tryd.prog 34 #[.int .i64 n, .int .i64 d] w fun e w' => e = .returned (.agg #[.int .i64 (lowN n d), .int .i64 (lowD n d)]) ∧ Below w.heap.size w w' := by
  obtain ⟨t, ht⟩ : ∃ t : Nat, n % d = t := ⟨_, rfl⟩
  have htd : t < d := by rw [← ht]; exact Nat.mod_lt _ (by omega)
  have e1 : (n : Int).tmod d = (t : Int) := by rw [← ht]; exact (Int.tmod_eq_emod_of_nonneg (by omega)).trans (Int.natCast_emod n d).symm
  have hz : ((d : Int) == 0) = false := by simp; omega
  obtain ⟨g, hg⟩ : ∃ g : Nat, Nat.gcd t d = g := ⟨_, rfl⟩
  have hgp : 1 ≤ g := by rw [← hg]; exact Nat.gcd_pos_of_pos_right _ (by omega)
  have hgz : ((g : Int) == 0) = false := by simp; omega
  have e2 : (t : Int).tdiv g = ((lowN n d : Nat) : Int) := by unfold lowN; rw [ht, hg]; exact (Int.tdiv_eq_ediv_of_nonneg (by omega)).trans (Int.natCast_ediv t g).symm
  have e3 : (d : Int).tdiv g = ((lowD n d : Nat) : Int) := by unfold lowD; rw [ht, hg]; exact (Int.tdiv_eq_ediv_of_nonneg (by omega)).trans (Int.natCast_ediv d g).symm
  have HV := Lib.hid (fun w => l6aGcd_any t d (by omega) (by omega) w)
  rw [hg] at HV
  have x1 := lowN_le n d hd
  have y1 := lowD_le n d
  generalize lowN n d = x at *
  generalize lowD n d = y at *
  clear ht hg
  go_enter Tryd.func34, Tryd.ntmps34
  go_wp2_with (go_at_call 43; refine (HV.out _).mono ?_; rintro e w' ⟨rfl, hb⟩; subst hb)
  go_region
  go_wp2
  exact bodyPost_ret (v := .agg #[.int .i64 x, .int .i64 y]) (by simp [results, Tryd.f34, go_sem]) rfl ⟨rfl, ((Below.refl _ _).alloc (Nat.le_refl _) _).trans ((Drw.refl _).drew.below _)⟩
end Go.Proofs.YteegdpnidakjiaaDoor
