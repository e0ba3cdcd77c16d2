/- Draws: a tile, and a tile with a number. -/
import Derived.Test.YtdfoobemgdiobaaDoorTilN
namespace Go.Proofs.YtdfoobemgdiobaaDoor
open Go.RowKit

attribute [local go_sem] run_store_float run_store_complex

theorem Sl.far {W : World} {a : Option Addr} {xs : List Value} (h : Sl W a xs) {p : Addr} (hne : ∀ g o s, a = some ⟨g, o, s⟩ → g ≠ p.block) (v : Value) : Sl (W.setCell p v) a xs := by
  rcases h with h | ⟨b', off, hb, h⟩
  · exact .inl h
  · refine .inr ⟨b', off, hb, fun i u hu => ?_⟩
    rw [← h i u hu]
    exact World.cell?_of_block (Below.heap_setCell _ _ _ _ (by simpa using (hne _ _ _ hb)))
theorem Sl.far5 {W : World} {a : Option Addr} {xs : List Value} (h : Sl W a xs) {b : Nat} (hne : ∀ g o s, a = some ⟨g, o, s⟩ → g ≠ b) (u0 u1 u2 u3 u4 : Value) :
    Sl (((((W.setCell ⟨b, 0, none⟩ u0).setCell ⟨b, 1, none⟩ u1).setCell ⟨b, 2, none⟩ u2).setCell ⟨b, 3, none⟩ u3).setCell ⟨b, 4, none⟩ u4) a xs :=
  ((((h.far (p := ⟨b, 0, none⟩) hne u0).far (p := ⟨b, 1, none⟩) hne u1).far (p := ⟨b, 2, none⟩) hne u2).far (p := ⟨b, 3, none⟩) hne u3).far (p := ⟨b, 4, none⟩) hne u4
/-- a drawn tile, by its parts -/
structure TileV (B : Nat) (a1 : Option Addr) (c1 : Nat) (a2 : Option Addr) (c2 cx cy : Nat) (deep size : Int) (xs : List Nat) (ys : List Int) (w' : World) : Prop where
  s1 : Sl w' a1 (xs.map floV)
  s2 : Sl w' a2 (ys.map intV)
  k1 : xs.length ≤ c1
  k2 : ys.length ≤ c2
  n1 : ∀ g o s, a1 = some ⟨g, o, s⟩ → B ≤ g
  n2 : ∀ g o s, a2 = some ⟨g, o, s⟩ → B ≤ g
  hx : ∀ x, x ∈ xs → x < 4294967296
  hy : ∀ y, y ∈ ys → -1 ≤ y ∧ y ≤ 2
  bx : cx < 4294967296
  by1 : cy < 4294967296
  pl : placeB cx cy deep size = true
  ly : ys.length = size.toNat * size.toNat
  lx : xs.length = ys.length ∨ xs.length + 1 = ys.length
theorem TileV.step {B : Nat} {a1 : Option Addr} {c1 : Nat} {a2 : Option Addr} {c2 cx cy : Nat} {deep size : Int} {xs : List Nat} {ys : List Int} {w w' : World} (h : TileV B a1 c1 a2 c2 cx cy deep size xs ys w) (k : Below w.heap.size w w') : TileV B a1 c1 a2 c2 cx cy deep size xs ys w' :=
  ⟨h.s1.step k, h.s2.step k, h.k1, h.k2, h.n1, h.n2, h.hx, h.hy, h.bx, h.by1, h.pl, h.ly, h.lx⟩
theorem TileV.far5 {B : Nat} {a1 : Option Addr} {c1 : Nat} {a2 : Option Addr} {c2 cx cy : Nat} {deep size : Int} {xs : List Nat} {ys : List Int} {w : World} (h : TileV B a1 c1 a2 c2 cx cy deep size xs ys w) {b : Nat} (hb : b < B) (u0 u1 u2 u3 u4 : Value) :
    TileV B a1 c1 a2 c2 cx cy deep size xs ys (((((w.setCell ⟨b, 0, none⟩ u0).setCell ⟨b, 1, none⟩ u1).setCell ⟨b, 2, none⟩ u2).setCell ⟨b, 3, none⟩ u3).setCell ⟨b, 4, none⟩ u4) :=
  ⟨h.s1.far5 (fun g o s e => by have := h.n1 g o s e; omega) _ _ _ _ _, h.s2.far5 (fun g o s e => by have := h.n2 g o s e; omega) _ _ _ _ _, h.k1, h.k2, h.n1, h.n2, h.hx, h.hy, h.bx, h.by1, h.pl, h.ly, h.lx⟩
theorem TileV.mono {B B' : Nat} {a1 : Option Addr} {c1 : Nat} {a2 : Option Addr} {c2 cx cy : Nat} {deep size : Int} {xs : List Nat} {ys : List Int} {w : World} (h : TileV B a1 c1 a2 c2 cx cy deep size xs ys w) (hB : B' ≤ B) : TileV B' a1 c1 a2 c2 cx cy deep size xs ys w :=
  ⟨h.s1, h.s2, h.k1, h.k2, fun g o s e => Nat.le_trans hB (h.n1 g o s e), fun g o s e => Nat.le_trans hB (h.n2 g o s e), h.hx, h.hy, h.bx, h.by1, h.pl, h.ly, h.lx⟩
theorem Sl.only {w w' : World} {a : Option Addr} {xs : List Value} {b : Nat} (h : Sl w a xs) (k : Only b w w') (hb : ∀ g o s, a = some ⟨g, o, s⟩ → g ≠ b) : Sl w' a xs := by
  rcases h with h | ⟨b', off, ha, h⟩
  · exact .inl h
  · refine .inr ⟨b', off, ha, fun i v hv => ?_⟩
    have h1 := h i v hv
    exact (World.cell?_of_block (k.block _ (World.block_lt_of_cell? w _ h1) (hb _ _ _ ha))).trans h1
theorem TileV.only {B : Nat} {a1 : Option Addr} {c1 : Nat} {a2 : Option Addr} {c2 cx cy : Nat} {deep size : Int} {xs : List Nat} {ys : List Int} {w w' : World} {b : Nat} (h : TileV B a1 c1 a2 c2 cx cy deep size xs ys w) (k : Only b w w') (hb : b < B) : TileV B a1 c1 a2 c2 cx cy deep size xs ys w' :=
  ⟨h.s1.only k (fun g o s e => by have := h.n1 g o s e; omega), h.s2.only k (fun g o s e => by have := h.n2 g o s e; omega), h.k1, h.k2, h.n1, h.n2, h.hx, h.hy, h.bx, h.by1, h.pl, h.ly, h.lx⟩
theorem TileV.lim {B : Nat} {a1 : Option Addr} {c1 : Nat} {a2 : Option Addr} {c2 cx cy : Nat} {deep size : Int} {xs : List Nat} {ys : List Int} {w : World} (h : TileV B a1 c1 a2 c2 cx cy deep size xs ys w) : 1 ≤ size ∧ size ≤ 8 ∧ 0 ≤ deep ∧ deep ≤ 10 ∧ 1 ≤ ys.length ∧ ys.length ≤ 64 ∧ xs.length ≤ 64 ∧ (ys.length : Int) = size * size := by
  obtain ⟨h1, h2, h3, h4⟩ := placeB_bd h.pl
  obtain ⟨s, rfl⟩ := Int.eq_ofNat_of_zero_le (show 0 ≤ size by omega)
  have hl := h.ly
  rw [Int.toNat_natCast] at hl
  have h5 : s * s ≤ 8 * 8 := Nat.mul_le_mul (by omega) (by omega)
  have h6 : 1 * 1 ≤ s * s := Nat.mul_le_mul (by omega) (by omega)
  have h7 := h.lx
  refine ⟨h3, h4, h1, h2, by omega, by omega, by omega, ?_⟩
  rw [hl]; simp
theorem TileOut.parts {B : Nat} {e : Ending} {w' : World} (h : TileOut B e w') : ∃ a1 c1 a2 c2 cx cy deep size xs ys, e = .returned (.agg #[.complex .f32 cx cy, .int .i64 deep, .int .i64 size, .slice a1 xs.length c1, .slice a2 ys.length c2]) ∧ TileV B a1 c1 a2 c2 cx cy deep size xs ys w' := by
  obtain ⟨v, cx, cy, deep, size, xs, ys, rfl, ⟨⟨a1, c1, a2, c2, rfl, s1, s2, k1, k2, n1, n2⟩, hx, hy⟩, hcx, hcy, hp, hl, hxl⟩ := h
  exact ⟨a1, c1, a2, c2, cx, cy, deep, size, xs, ys, rfl, ⟨s1, s2, k1, k2, n1, n2, hx, hy, hcx, hcy, hp, hl, hxl⟩⟩
def DrawnTile (w : World) (e : Ending) (w' : World) : Prop :=
  (∃ a1 c1 a2 c2 cx cy deep size xs ys, e = .returned (.agg #[.complex .f32 cx cy, .int .i64 deep, .int .i64 size, .slice a1 xs.length c1, .slice a2 ys.length c2]) ∧ TileV w.heap.size a1 c1 a2 c2 cx cy deep size xs ys w') ∧ Below w.heap.size w w'
def DrawnTileN (w : World) (e : Ending) (w' : World) : Prop :=
  (∃ a1 c1 a2 c2 cx cy deep size xs ys most, e = .returned (.tuple #[.agg #[.complex .f32 cx cy, .int .i64 deep, .int .i64 size, .slice a1 xs.length c1, .slice a2 ys.length c2], .int .i64 most]) ∧ 1 ≤ most ∧ most ≤ 30 ∧ TileV w.heap.size a1 c1 a2 c2 cx cy deep size xs ys w') ∧ Below w.heap.size w w'
end Go.Proofs.YtdfoobemgdiobaaDoor
