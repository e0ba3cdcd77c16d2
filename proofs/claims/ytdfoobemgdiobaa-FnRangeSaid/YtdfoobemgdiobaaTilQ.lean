/- Plain: the range of floats. -/
import Derived.Test.YtdfoobemgdiobaaFloW
import Derived.Test.YtdfoobemgdiobaaFlo
namespace Go.Proofs.Ytdfoobemgdiobaa
namespace Flo
open Ieee

/-- where a float that is no NaN stands: infinite or not, then its value -/
def kA (f : Format) (x : Nat) : Int := match f.read x with | .infinity s => if s then -1 else 1 | _ => 0
def kB (f : Format) (x : Nat) : Int := match f.read x with | .infinity _ => 0 | _ => iv f x
theorem key_order {k : FloatKind} (he : 1 ≤ k.format.exponentBits) {x y : Nat} (hx : nan k x = false) (hy : nan k y = false) :
    k.format.order x y = some (if kA k.format x < kA k.format y ∨ (kA k.format x = kA k.format y ∧ kB k.format x < kB k.format y) then .lt else if kA k.format x = kA k.format y ∧ kB k.format x = kB k.format y then .eq else .gt) := by
  have nn : ∀ z, nan k z = false → fin k.format z ∨ ∃ s, k.format.read z = .infinity s := by
    intro z hz
    rcases kinds k.format he z with h | h | ⟨s, t, h⟩
    · exact .inl h
    · exact .inr h
    · exfalso
      have : nan k z = true := by
        unfold nan FloatKind.decode
        rw [h]; rfl
      rw [this] at hz; cases hz
  rcases nn x hx with fx | ⟨s, ix⟩
  · obtain ⟨sx, mx, px, rx⟩ : ∃ s m p, k.format.read x = .number s m p := ⟨_, _, _, read_fin fx⟩
    have ax : kA k.format x = 0 := by unfold kA; rw [rx]
    have bx : kB k.format x = iv k.format x := by unfold kB; rw [rx]
    rcases nn y hy with fy | ⟨t, iy⟩
    · obtain ⟨sy, my, py, ry⟩ : ∃ s m p, k.format.read y = .number s m p := ⟨_, _, _, read_fin fy⟩
      have ay : kA k.format y = 0 := by unfold kA; rw [ry]
      have by' : kB k.format y = iv k.format y := by unfold kB; rw [ry]
      rw [order_fin fx fy, ax, ay, bx, by']
      congr 1
      rcases Int.lt_trichotomy (iv k.format x) (iv k.format y) with h | h | h
      · rw [if_pos (by omega)]; exact Int.compare_eq_lt.2 h
      · rw [if_neg (by omega), if_pos (by omega)]; exact Int.compare_eq_eq.2 h
      · rw [if_neg (by omega), if_neg (by omega)]; exact Int.compare_eq_gt.2 h
    · have ay : kA k.format y = if t then -1 else 1 := by unfold kA; rw [iy]
      have by' : kB k.format y = 0 := by unfold kB; rw [iy]
      show (k.format.read x).order (k.format.read y) = _
      rw [ax, ay, bx, by', rx, iy]
      cases t <;> simp [Datum.order]
  · have ax : kA k.format x = if s then -1 else 1 := by unfold kA; rw [ix]
    have bx : kB k.format x = 0 := by unfold kB; rw [ix]
    rcases nn y hy with fy | ⟨t, iy⟩
    · obtain ⟨sy, my, py, ry⟩ : ∃ s m p, k.format.read y = .number s m p := ⟨_, _, _, read_fin fy⟩
      have ay : kA k.format y = 0 := by unfold kA; rw [ry]
      have by' : kB k.format y = iv k.format y := by unfold kB; rw [ry]
      show (k.format.read x).order (k.format.read y) = _
      rw [ax, ay, bx, by', ix, ry]
      cases s <;> simp [Datum.order]
    · have ay : kA k.format y = if t then -1 else 1 := by unfold kA; rw [iy]
      have by' : kB k.format y = 0 := by unfold kB; rw [iy]
      show (k.format.read x).order (k.format.read y) = _
      rw [ax, ay, bx, by', ix, iy]
      cases s <;> cases t <;> simp [Datum.order] <;> decide
end Flo
def fLt (x y : Nat) : Bool := FloatKind.f32.format.order x y == some .lt
def fGt (x y : Nat) : Bool := FloatKind.f32.format.order x y == some .gt
theorem fLt_key {x y : Nat} (hx : Flo.nan .f32 x = false) (hy : Flo.nan .f32 y = false) : fLt x y = true ↔ (Flo.kA Ieee.single x < Flo.kA Ieee.single y ∨ (Flo.kA Ieee.single x = Flo.kA Ieee.single y ∧ Flo.kB Ieee.single x < Flo.kB Ieee.single y)) := by
  unfold fLt
  rw [Flo.key_order (k := .f32) (by decide) hx hy]
  show _ ↔ (Flo.kA FloatKind.f32.format x < Flo.kA FloatKind.f32.format y ∨ (Flo.kA FloatKind.f32.format x = Flo.kA FloatKind.f32.format y ∧ Flo.kB FloatKind.f32.format x < Flo.kB FloatKind.f32.format y))
  split
  · rename_i h; simp [h]
  · rename_i h
    split <;> simp [h]
theorem fGt_key {x y : Nat} (hx : Flo.nan .f32 x = false) (hy : Flo.nan .f32 y = false) : fGt x y = true ↔ (Flo.kA Ieee.single y < Flo.kA Ieee.single x ∨ (Flo.kA Ieee.single y = Flo.kA Ieee.single x ∧ Flo.kB Ieee.single y < Flo.kB Ieee.single x)) := by
  unfold fGt
  rw [Flo.key_order (k := .f32) (by decide) hx hy]
  show _ ↔ (Flo.kA FloatKind.f32.format y < Flo.kA FloatKind.f32.format x ∨ (Flo.kA FloatKind.f32.format y = Flo.kA FloatKind.f32.format x ∧ Flo.kB FloatKind.f32.format y < Flo.kB FloatKind.f32.format x))
  generalize Flo.kA FloatKind.f32.format x = a
  generalize Flo.kA FloatKind.f32.format y = b
  generalize Flo.kB FloatKind.f32.format x = c
  generalize Flo.kB FloatKind.f32.format y = d
  split
  · simp; omega
  · split
    · simp; omega
    · simp; omega
theorem fLe_key {x y : Nat} (hx : Flo.nan .f32 x = false) (hy : Flo.nan .f32 y = false) : (FloatKind.f32.format.order x y == some .lt || FloatKind.f32.format.order x y == some .eq) = true ↔ (Flo.kA Ieee.single x < Flo.kA Ieee.single y ∨ (Flo.kA Ieee.single x = Flo.kA Ieee.single y ∧ Flo.kB Ieee.single x ≤ Flo.kB Ieee.single y)) := by
  rw [Flo.key_order (k := .f32) (by decide) hx hy]
  show _ ↔ (Flo.kA FloatKind.f32.format x < Flo.kA FloatKind.f32.format y ∨ (Flo.kA FloatKind.f32.format x = Flo.kA FloatKind.f32.format y ∧ Flo.kB FloatKind.f32.format x ≤ Flo.kB FloatKind.f32.format y))
  generalize Flo.kA FloatKind.f32.format x = a
  generalize Flo.kA FloatKind.f32.format y = b
  generalize Flo.kB FloatKind.f32.format x = c
  generalize Flo.kB FloatKind.f32.format y = d
  split
  · simp; omega
  · split
    · simp; omega
    · simp; omega
/-- one more value -/
def rgStep (s : Nat × Nat × Bool) (x : Nat) : Nat × Nat × Bool :=
  if Flo.nan .f32 x then s else (if !s.2.2 || fLt x s.1 then x else s.1, if !s.2.2 || fGt x s.2.1 then x else s.2.1, true)
def rgL (xs : List Nat) : Nat × Nat × Bool := xs.foldl rgStep (3212836864, 3212836864, false)
theorem rgL_take (xs : List Nat) (k : Nat) (h : k < xs.length) : rgL (xs.take (k + 1)) = rgStep (rgL (xs.take k)) xs[k] := by
  unfold rgL
  rw [← List.take_append_getElem h, List.foldl_append]; rfl
/-- what the range is of -/
structure RgOK (xs : List Nat) (s : Nat × Nat × Bool) : Prop where
  nl : Flo.nan .f32 s.1 = false
  nh : Flo.nan .f32 s.2.1 = false
  bl : s.1 < 4294967296
  bh : s.2.1 < 4294967296
  le : (FloatKind.f32.format.order s.1 s.2.1 == some .lt || FloatKind.f32.format.order s.1 s.2.1 == some .eq) = true
  all : ∀ x, x ∈ xs → Flo.nan .f32 x = false → s.2.2 = true ∧ fLt x s.1 = false ∧ fGt x s.2.1 = false
theorem RgOK.step {xs : List Nat} {s : Nat × Nat × Bool} (h : RgOK xs s) (x : Nat) (hx : x < 4294967296) : RgOK (xs ++ [x]) (rgStep s x) := by
  cases hn : Flo.nan .f32 x with
  | true =>
    have e : rgStep s x = s := by unfold rgStep; rw [if_pos hn]
    rw [e]
    refine ⟨h.nl, h.nh, h.bl, h.bh, h.le, fun y hy hny => ?_⟩
    rcases List.mem_append.1 hy with hy | hy
    · exact h.all y hy hny
    · rw [List.mem_singleton] at hy; rw [hy, hn] at hny; cases hny
  | false =>
    obtain ⟨low, high, met⟩ := s
    have e : rgStep (low, high, met) x = (if !met || fLt x low then x else low, if !met || fGt x high then x else high, true) := by unfold rgStep; rw [if_neg (by rw [hn]; decide)]
    rw [e]
    obtain ⟨nl, nh, bl, bh, le, all⟩ := h
    simp only at nl nh bl bh le all
    have le' := (fLe_key nl nh).1 le
    have k1 := fLt_key hn nl
    have k2 := fGt_key hn nh
    have ff : ∀ {b : Bool}, (b = false) ↔ ¬ (b = true) := by intro b; cases b <;> simp
    have k3 : fLt x x = false := ff.2 (fun h => by have := (fLt_key hn hn).1 h; omega)
    have k4 : fGt x x = false := ff.2 (fun h => by have := (fGt_key hn hn).1 h; omega)
    have k5 : (FloatKind.f32.format.order x x == some .lt || FloatKind.f32.format.order x x == some .eq) = true := (fLe_key hn hn).2 (by omega)
    cases met with
    | false =>
      simp only [Bool.not_false, Bool.true_or, if_true]
      refine ⟨hn, hn, hx, hx, k5, fun y hy hny => ?_⟩
      rcases List.mem_append.1 hy with hy | hy
      · have := (all y hy hny).1; cases this
      · rw [List.mem_singleton] at hy; subst hy; exact ⟨rfl, k3, k4⟩
    | true =>
      simp only [Bool.not_true, Bool.false_or]
      refine ⟨?_, ?_, ?_, ?_, ?_, fun y hy hny => ?_⟩
      · show Flo.nan .f32 (if fLt x low = true then x else low) = false
        split <;> assumption
      · show Flo.nan .f32 (if fGt x high = true then x else high) = false
        split <;> assumption
      · show (if fLt x low = true then x else low) < _
        split <;> assumption
      · show (if fGt x high = true then x else high) < _
        split <;> assumption
      · show (FloatKind.f32.format.order (if fLt x low = true then x else low) (if fGt x high = true then x else high) == some .lt || FloatKind.f32.format.order (if fLt x low = true then x else low) (if fGt x high = true then x else high) == some .eq) = true
        by_cases c1 : fLt x low = true
        · rw [if_pos c1]
          by_cases c2 : fGt x high = true
          · rw [if_pos c2]; exact k5
          · rw [if_neg c2]
            refine (fLe_key hn nh).2 ?_
            have := k1.1 c1
            omega
        · rw [if_neg c1]
          by_cases c2 : fGt x high = true
          · rw [if_pos c2]
            refine (fLe_key nl hn).2 ?_
            have := k2.1 c2
            omega
          · rw [if_neg c2]; exact le
      · refine ⟨rfl, ?_, ?_⟩
        · show fLt y (if fLt x low = true then x else low) = false
          refine ff.2 (fun hlt => ?_)
          rcases List.mem_append.1 hy with hy | hy
          · have ha := (all y hy hny).2.1
            have h1 : ¬ _ := fun h => ff.1 ha ((fLt_key hny nl).2 h)
            by_cases c1 : fLt x low = true
            · rw [if_pos c1] at hlt
              have := (fLt_key hny hn).1 hlt
              have := k1.1 c1
              omega
            · rw [if_neg c1] at hlt
              exact h1 ((fLt_key hny nl).1 hlt)
          · rw [List.mem_singleton] at hy; subst hy
            by_cases c1 : fLt y low = true
            · rw [if_pos c1, k3] at hlt; cases hlt
            · rw [if_neg c1] at hlt; exact c1 hlt
        · show fGt y (if fGt x high = true then x else high) = false
          refine ff.2 (fun hlt => ?_)
          rcases List.mem_append.1 hy with hy | hy
          · have ha := (all y hy hny).2.2
            have h1 : ¬ _ := fun h => ff.1 ha ((fGt_key hny nh).2 h)
            by_cases c1 : fGt x high = true
            · rw [if_pos c1] at hlt
              have := (fGt_key hny hn).1 hlt
              have := k2.1 c1
              omega
            · rw [if_neg c1] at hlt
              exact h1 ((fGt_key hny nh).1 hlt)
          · rw [List.mem_singleton] at hy; subst hy
            by_cases c1 : fGt y high = true
            · rw [if_pos c1, k4] at hlt; cases hlt
            · rw [if_neg c1] at hlt; exact c1 hlt
theorem rgOK_take {xs : List Nat} (hx : ∀ x, x ∈ xs → x < 4294967296) : ∀ k, k ≤ xs.length → RgOK (xs.take k) (rgL (xs.take k)) := by
  intro k
  induction k with
  | zero =>
    intro _
    rw [List.take_zero]
    exact ⟨by decide, by decide, by decide, by decide, by decide, fun x hx => by cases hx⟩
  | succ k ih =>
    intro hk
    have h := (ih (by omega)).step xs[k] (hx _ (List.getElem_mem (by omega)))
    rw [rgL_take xs k (by omega)]
    rw [List.take_append_getElem (by omega)] at h
    exact h
theorem rgOK_all {xs : List Nat} (hx : ∀ x, x ∈ xs → x < 4294967296) : RgOK xs (rgL xs) := by
  have := rgOK_take hx xs.length (Nat.le_refl _)
  rwa [List.take_length] at this
end Go.Proofs.Ytdfoobemgdiobaa
