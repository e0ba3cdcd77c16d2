/- Draws: a tile, and a tile with a number. -/
import Derived.Test.YtdfoobemgdiobaaTilN
namespace Go.Proofs.Ytdfoobemgdiobaa
open Go.RowKit

attribute [local go_sem] run_store_float run_store_complex

theorem Sl.far {W : World} {a : Option Addr} {xs : List Value} (h : Sl W a xs) {p : Addr} (hne : ∀ g o s, a = some ⟨g, o, s⟩ → g ≠ p.block) (v : Value) : Sl (W.setCell p v) a xs := by
  rcases h with h | ⟨b', off, hb, h⟩
  · exact .inl h
  · refine .inr ⟨b', off, hb, fun i u hu => ?_⟩
    rw [← h i u hu]
    exact World.cell?_of_block (Below.heap_setCell _ _ _ _ (by simpa using (hne _ _ _ hb)))
theorem Sl.far5 {W : World} {a : Option Addr} {xs : List Value} (h : Sl W a xs) {b : Nat} (hne : ∀ g o s, a = some ⟨g, o, s⟩ → g ≠ b) (u0 u1 u2 u3 u4 : Value) :
    Sl (((((W.setCell ⟨b, 0, none⟩ u0).setCell ⟨b, 1, none⟩ u1).setCell ⟨b, 2, none⟩ u2).setCell ⟨b, 3, none⟩ u3).setCell ⟨b, 4, none⟩ u4) a xs :=
  ((((h.far (p := ⟨b, 0, none⟩) hne u0).far (p := ⟨b, 1, none⟩) hne u1).far (p := ⟨b, 2, none⟩) hne u2).far (p := ⟨b, 3, none⟩) hne u3).far (p := ⟨b, 4, none⟩) hne u4
/-- a drawn tile, by its parts -/
structure TileV (B : Nat) (a1 : Option Addr) (c1 : Nat) (a2 : Option Addr) (c2 cx cy : Nat) (deep size : Int) (xs : List Nat) (ys : List Int) (w' : World) : Prop where
  s1 : Sl w' a1 (xs.map floV)
  s2 : Sl w' a2 (ys.map intV)
  k1 : xs.length ≤ c1
  k2 : ys.length ≤ c2
  n1 : ∀ g o s, a1 = some ⟨g, o, s⟩ → B ≤ g
  n2 : ∀ g o s, a2 = some ⟨g, o, s⟩ → B ≤ g
  hx : ∀ x, x ∈ xs → x < 4294967296
  hy : ∀ y, y ∈ ys → -1 ≤ y ∧ y ≤ 2
  bx : cx < 4294967296
  by1 : cy < 4294967296
  pl : placeB cx cy deep size = true
  ly : ys.length = size.toNat * size.toNat
  lx : xs.length = ys.length ∨ xs.length + 1 = ys.length
theorem TileV.step {B : Nat} {a1 : Option Addr} {c1 : Nat} {a2 : Option Addr} {c2 cx cy : Nat} {deep size : Int} {xs : List Nat} {ys : List Int} {w w' : World} (h : TileV B a1 c1 a2 c2 cx cy deep size xs ys w) (k : Below w.heap.size w w') : TileV B a1 c1 a2 c2 cx cy deep size xs ys w' :=
  ⟨h.s1.step k, h.s2.step k, h.k1, h.k2, h.n1, h.n2, h.hx, h.hy, h.bx, h.by1, h.pl, h.ly, h.lx⟩
theorem TileV.far5 {B : Nat} {a1 : Option Addr} {c1 : Nat} {a2 : Option Addr} {c2 cx cy : Nat} {deep size : Int} {xs : List Nat} {ys : List Int} {w : World} (h : TileV B a1 c1 a2 c2 cx cy deep size xs ys w) {b : Nat} (hb : b < B) (u0 u1 u2 u3 u4 : Value) :
    TileV B a1 c1 a2 c2 cx cy deep size xs ys (((((w.setCell ⟨b, 0, none⟩ u0).setCell ⟨b, 1, none⟩ u1).setCell ⟨b, 2, none⟩ u2).setCell ⟨b, 3, none⟩ u3).setCell ⟨b, 4, none⟩ u4) :=
  ⟨h.s1.far5 (fun g o s e => by have := h.n1 g o s e; omega) _ _ _ _ _, h.s2.far5 (fun g o s e => by have := h.n2 g o s e; omega) _ _ _ _ _, h.k1, h.k2, h.n1, h.n2, h.hx, h.hy, h.bx, h.by1, h.pl, h.ly, h.lx⟩
theorem TileV.mono {B B' : Nat} {a1 : Option Addr} {c1 : Nat} {a2 : Option Addr} {c2 cx cy : Nat} {deep size : Int} {xs : List Nat} {ys : List Int} {w : World} (h : TileV B a1 c1 a2 c2 cx cy deep size xs ys w) (hB : B' ≤ B) : TileV B' a1 c1 a2 c2 cx cy deep size xs ys w :=
  ⟨h.s1, h.s2, h.k1, h.k2, fun g o s e => Nat.le_trans hB (h.n1 g o s e), fun g o s e => Nat.le_trans hB (h.n2 g o s e), h.hx, h.hy, h.bx, h.by1, h.pl, h.ly, h.lx⟩
theorem Sl.only {w w' : World} {a : Option Addr} {xs : List Value} {b : Nat} (h : Sl w a xs) (k : Only b w w') (hb : ∀ g o s, a = some ⟨g, o, s⟩ → g ≠ b) : Sl w' a xs := by
  rcases h with h | ⟨b', off, ha, h⟩
  · exact .inl h
  · refine .inr ⟨b', off, ha, fun i v hv => ?_⟩
    have h1 := h i v hv
    exact (World.cell?_of_block (k.block _ (World.block_lt_of_cell? w _ h1) (hb _ _ _ ha))).trans h1
theorem TileV.only {B : Nat} {a1 : Option Addr} {c1 : Nat} {a2 : Option Addr} {c2 cx cy : Nat} {deep size : Int} {xs : List Nat} {ys : List Int} {w w' : World} {b : Nat} (h : TileV B a1 c1 a2 c2 cx cy deep size xs ys w) (k : Only b w w') (hb : b < B) : TileV B a1 c1 a2 c2 cx cy deep size xs ys w' :=
  ⟨h.s1.only k (fun g o s e => by have := h.n1 g o s e; omega), h.s2.only k (fun g o s e => by have := h.n2 g o s e; omega), h.k1, h.k2, h.n1, h.n2, h.hx, h.hy, h.bx, h.by1, h.pl, h.ly, h.lx⟩
theorem TileV.lim {B : Nat} {a1 : Option Addr} {c1 : Nat} {a2 : Option Addr} {c2 cx cy : Nat} {deep size : Int} {xs : List Nat} {ys : List Int} {w : World} (h : TileV B a1 c1 a2 c2 cx cy deep size xs ys w) : 1 ≤ size ∧ size ≤ 8 ∧ 0 ≤ deep ∧ deep ≤ 10 ∧ 1 ≤ ys.length ∧ ys.length ≤ 64 ∧ xs.length ≤ 64 ∧ (ys.length : Int) = size * size := by
  obtain ⟨h1, h2, h3, h4⟩ := placeB_bd h.pl
  obtain ⟨s, rfl⟩ := Int.eq_ofNat_of_zero_le (show 0 ≤ size by omega)
  have hl := h.ly
  rw [Int.toNat_natCast] at hl
  have h5 : s * s ≤ 8 * 8 := Nat.mul_le_mul (by omega) (by omega)
  have h6 : 1 * 1 ≤ s * s := Nat.mul_le_mul (by omega) (by omega)
  have h7 := h.lx
  refine ⟨h3, h4, h1, h2, by omega, by omega, by omega, ?_⟩
  rw [hl]; simp
theorem TileOut.parts {B : Nat} {e : Ending} {w' : World} (h : TileOut B e w') : ∃ a1 c1 a2 c2 cx cy deep size xs ys, e = .returned (.agg #[.complex .f32 cx cy, .int .i64 deep, .int .i64 size, .slice a1 xs.length c1, .slice a2 ys.length c2]) ∧ TileV B a1 c1 a2 c2 cx cy deep size xs ys w' := by
  obtain ⟨v, cx, cy, deep, size, xs, ys, rfl, ⟨⟨a1, c1, a2, c2, rfl, s1, s2, k1, k2, n1, n2⟩, hx, hy⟩, hcx, hcy, hp, hl, hxl⟩ := h
  exact ⟨a1, c1, a2, c2, cx, cy, deep, size, xs, ys, rfl, ⟨s1, s2, k1, k2, n1, n2, hx, hy, hcx, hcy, hp, hl, hxl⟩⟩
def DrawnTile (w : World) (e : Ending) (w' : World) : Prop :=
  (∃ a1 c1 a2 c2 cx cy deep size xs ys, e = .returned (.agg #[.complex .f32 cx cy, .int .i64 deep, .int .i64 size, .slice a1 xs.length c1, .slice a2 ys.length c2]) ∧ TileV w.heap.size a1 c1 a2 c2 cx cy deep size xs ys w') ∧ Below w.heap.size w w'
set_option maxRecDepth 100000 in
set_option maxHeartbeats 1000000 in
theorem drawTileWell_any (a : Option Addr) (c : Nat) (bs : List UInt8) (hn : bs.length ≤ 1048576) (hc : bs.length ≤ c) (w : World) (hs : Sl w a (bs.map byteV)) :
    Calls Try.prog 18 #[.slice a bs.length c] w (DrawnTile w) := by
  have R := Box.new w #[.complex .f32 0 0, .int .i64 0, .int .i64 0, .slice none 0 0, .slice none 0 0] 35
  have H := Lib.hid (open_any a c bs hn hc _ (hs.alloc (.cells #[.complex .f32 0 0, .int .i64 0, .int .i64 0, .slice none 0 0, .slice none 0 0] 35)))
  clear hs
  go_enter Try.func18, Try.ntmps18
  go_wp2_with fail
  refine H.out.mono ?_
  rintro e w1 ⟨b, rfl, hb, hR⟩
  replace R := R.step hR.below
  have hb1 : w.heap.size < b := by rw [hb]; simp
  clear hb
  have hbw : w.heap.size < w1.heap.size := R.lt
  go_wp2_with fail
  refine (l92Tile_own _ b 0 (by omega) _ hR).mono ?_
  rintro e w2 ⟨hT, ⟨p', -, hR2⟩, hO⟩
  replace R := R.onlyb hO (by omega) (by omega)
  obtain ⟨a1, c1, a2, c2, cx, cy, deep, size, xs, ys, rfl, T⟩ := hT.parts
  have HT : Hid (DrawnTile w (.returned (.agg #[.complex .f32 cx cy, .int .i64 deep, .int .i64 size, .slice a1 xs.length c1, .slice a2 ys.length c2])) (((((w2.setCell ⟨w.heap.size, 0, none⟩ (.complex .f32 cx cy)).setCell ⟨w.heap.size, 1, none⟩ (.int .i64 deep)).setCell ⟨w.heap.size, 2, none⟩ (.int .i64 size)).setCell ⟨w.heap.size, 3, none⟩ (.slice a1 xs.length c1)).setCell ⟨w.heap.size, 4, none⟩ (.slice a2 ys.length c2))) := by
    refine ⟨⟨a1, c1, a2, c2, cx, cy, deep, size, xs, ys, rfl, ?_⟩, (R.set5 (Nat.le_refl _) _ _ _ _ _).old⟩
    exact ⟨T.s1.far5 (fun g o s e => by have := T.n1 g o s e; omega) _ _ _ _ _, T.s2.far5 (fun g o s e => by have := T.n2 g o s e; omega) _ _ _ _ _, T.k1, T.k2, fun g o s e => by have := T.n1 g o s e; omega, fun g o s e => by have := T.n2 g o s e; omega, T.hx, T.hy, T.bx, T.by1, T.pl, T.ly, T.lx⟩
  obtain ⟨f0, f1, f2, f3, f4⟩ := R.free5
  obtain ⟨r0, r1, r2, r3, r4⟩ := R.cells5
  have R5 := R.set5 (Nat.le_refl _) (.complex .f32 cx cy) (.int .i64 deep) (.int .i64 size) (.slice a1 xs.length c1) (.slice a2 ys.length c2)
  obtain ⟨z0, z1, z2, z3, z4⟩ := R5.cells5
  clear H hR hR2 hT T hO R R5
  go_wp2
  exact bodyPost_ret (v := .agg #[.complex .f32 cx cy, .int .i64 deep, .int .i64 size, .slice a1 xs.length c1, .slice a2 ys.length c2]) (by simp [results, Try.f18, go_sem, z0, z1, z2, z3, z4]) rfl HT.out
set_option maxRecDepth 100000 in
set_option maxHeartbeats 1000000 in
theorem drawTileCounts_any (a : Option Addr) (c : Nat) (bs : List UInt8) (hn : bs.length ≤ 1048576) (hc : bs.length ≤ c) (w : World) (hs : Sl w a (bs.map byteV)) :
    Calls Try.prog 23 #[.slice a bs.length c] w (DrawnTile w) := by
  have R := Box.new w #[.complex .f32 0 0, .int .i64 0, .int .i64 0, .slice none 0 0, .slice none 0 0] 35
  have H := Lib.hid (open_any a c bs hn hc _ (hs.alloc (.cells #[.complex .f32 0 0, .int .i64 0, .int .i64 0, .slice none 0 0, .slice none 0 0] 35)))
  clear hs
  go_enter Try.func23, Try.ntmps23
  go_wp2_with fail
  refine H.out.mono ?_
  rintro e w1 ⟨b, rfl, hb, hR⟩
  replace R := R.step hR.below
  have hb1 : w.heap.size < b := by rw [hb]; simp
  clear hb
  have hbw : w.heap.size < w1.heap.size := R.lt
  go_wp2_with fail
  refine (l92Tile_own _ b 0 (by omega) _ hR).mono ?_
  rintro e w2 ⟨hT, ⟨p', -, hR2⟩, hO⟩
  replace R := R.onlyb hO (by omega) (by omega)
  obtain ⟨a1, c1, a2, c2, cx, cy, deep, size, xs, ys, rfl, T⟩ := hT.parts
  have HT : Hid (DrawnTile w (.returned (.agg #[.complex .f32 cx cy, .int .i64 deep, .int .i64 size, .slice a1 xs.length c1, .slice a2 ys.length c2])) (((((w2.setCell ⟨w.heap.size, 0, none⟩ (.complex .f32 cx cy)).setCell ⟨w.heap.size, 1, none⟩ (.int .i64 deep)).setCell ⟨w.heap.size, 2, none⟩ (.int .i64 size)).setCell ⟨w.heap.size, 3, none⟩ (.slice a1 xs.length c1)).setCell ⟨w.heap.size, 4, none⟩ (.slice a2 ys.length c2))) := by
    refine ⟨⟨a1, c1, a2, c2, cx, cy, deep, size, xs, ys, rfl, ?_⟩, (R.set5 (Nat.le_refl _) _ _ _ _ _).old⟩
    exact ⟨T.s1.far5 (fun g o s e => by have := T.n1 g o s e; omega) _ _ _ _ _, T.s2.far5 (fun g o s e => by have := T.n2 g o s e; omega) _ _ _ _ _, T.k1, T.k2, fun g o s e => by have := T.n1 g o s e; omega, fun g o s e => by have := T.n2 g o s e; omega, T.hx, T.hy, T.bx, T.by1, T.pl, T.ly, T.lx⟩
  obtain ⟨f0, f1, f2, f3, f4⟩ := R.free5
  obtain ⟨r0, r1, r2, r3, r4⟩ := R.cells5
  have R5 := R.set5 (Nat.le_refl _) (.complex .f32 cx cy) (.int .i64 deep) (.int .i64 size) (.slice a1 xs.length c1) (.slice a2 ys.length c2)
  obtain ⟨z0, z1, z2, z3, z4⟩ := R5.cells5
  clear H hR hR2 hT T hO R R5
  go_wp2
  exact bodyPost_ret (v := .agg #[.complex .f32 cx cy, .int .i64 deep, .int .i64 size, .slice a1 xs.length c1, .slice a2 ys.length c2]) (by simp [results, Try.f23, go_sem, z0, z1, z2, z3, z4]) rfl HT.out
set_option maxRecDepth 100000 in
set_option maxHeartbeats 1000000 in
theorem drawTileRange_any (a : Option Addr) (c : Nat) (bs : List UInt8) (hn : bs.length ≤ 1048576) (hc : bs.length ≤ c) (w : World) (hs : Sl w a (bs.map byteV)) :
    Calls Try.prog 26 #[.slice a bs.length c] w (DrawnTile w) := by
  have R := Box.new w #[.complex .f32 0 0, .int .i64 0, .int .i64 0, .slice none 0 0, .slice none 0 0] 35
  have H := Lib.hid (open_any a c bs hn hc _ (hs.alloc (.cells #[.complex .f32 0 0, .int .i64 0, .int .i64 0, .slice none 0 0, .slice none 0 0] 35)))
  clear hs
  go_enter Try.func26, Try.ntmps26
  go_wp2_with fail
  refine H.out.mono ?_
  rintro e w1 ⟨b, rfl, hb, hR⟩
  replace R := R.step hR.below
  have hb1 : w.heap.size < b := by rw [hb]; simp
  clear hb
  have hbw : w.heap.size < w1.heap.size := R.lt
  go_wp2_with fail
  refine (l92Tile_own _ b 0 (by omega) _ hR).mono ?_
  rintro e w2 ⟨hT, ⟨p', -, hR2⟩, hO⟩
  replace R := R.onlyb hO (by omega) (by omega)
  obtain ⟨a1, c1, a2, c2, cx, cy, deep, size, xs, ys, rfl, T⟩ := hT.parts
  have HT : Hid (DrawnTile w (.returned (.agg #[.complex .f32 cx cy, .int .i64 deep, .int .i64 size, .slice a1 xs.length c1, .slice a2 ys.length c2])) (((((w2.setCell ⟨w.heap.size, 0, none⟩ (.complex .f32 cx cy)).setCell ⟨w.heap.size, 1, none⟩ (.int .i64 deep)).setCell ⟨w.heap.size, 2, none⟩ (.int .i64 size)).setCell ⟨w.heap.size, 3, none⟩ (.slice a1 xs.length c1)).setCell ⟨w.heap.size, 4, none⟩ (.slice a2 ys.length c2))) := by
    refine ⟨⟨a1, c1, a2, c2, cx, cy, deep, size, xs, ys, rfl, ?_⟩, (R.set5 (Nat.le_refl _) _ _ _ _ _).old⟩
    exact ⟨T.s1.far5 (fun g o s e => by have := T.n1 g o s e; omega) _ _ _ _ _, T.s2.far5 (fun g o s e => by have := T.n2 g o s e; omega) _ _ _ _ _, T.k1, T.k2, fun g o s e => by have := T.n1 g o s e; omega, fun g o s e => by have := T.n2 g o s e; omega, T.hx, T.hy, T.bx, T.by1, T.pl, T.ly, T.lx⟩
  obtain ⟨f0, f1, f2, f3, f4⟩ := R.free5
  obtain ⟨r0, r1, r2, r3, r4⟩ := R.cells5
  have R5 := R.set5 (Nat.le_refl _) (.complex .f32 cx cy) (.int .i64 deep) (.int .i64 size) (.slice a1 xs.length c1) (.slice a2 ys.length c2)
  obtain ⟨z0, z1, z2, z3, z4⟩ := R5.cells5
  clear H hR hR2 hT T hO R R5
  go_wp2
  exact bodyPost_ret (v := .agg #[.complex .f32 cx cy, .int .i64 deep, .int .i64 size, .slice a1 xs.length c1, .slice a2 ys.length c2]) (by simp [results, Try.f26, go_sem, z0, z1, z2, z3, z4]) rfl HT.out
set_option maxRecDepth 100000 in
set_option maxHeartbeats 1000000 in
theorem drawTileSum_any (a : Option Addr) (c : Nat) (bs : List UInt8) (hn : bs.length ≤ 1048576) (hc : bs.length ≤ c) (w : World) (hs : Sl w a (bs.map byteV)) :
    Calls Try.prog 30 #[.slice a bs.length c] w (DrawnTile w) := by
  have R := Box.new w #[.complex .f32 0 0, .int .i64 0, .int .i64 0, .slice none 0 0, .slice none 0 0] 35
  have H := Lib.hid (open_any a c bs hn hc _ (hs.alloc (.cells #[.complex .f32 0 0, .int .i64 0, .int .i64 0, .slice none 0 0, .slice none 0 0] 35)))
  clear hs
  go_enter Try.func30, Try.ntmps30
  go_wp2_with fail
  refine H.out.mono ?_
  rintro e w1 ⟨b, rfl, hb, hR⟩
  replace R := R.step hR.below
  have hb1 : w.heap.size < b := by rw [hb]; simp
  clear hb
  have hbw : w.heap.size < w1.heap.size := R.lt
  go_wp2_with fail
  refine (l92Tile_own _ b 0 (by omega) _ hR).mono ?_
  rintro e w2 ⟨hT, ⟨p', -, hR2⟩, hO⟩
  replace R := R.onlyb hO (by omega) (by omega)
  obtain ⟨a1, c1, a2, c2, cx, cy, deep, size, xs, ys, rfl, T⟩ := hT.parts
  have HT : Hid (DrawnTile w (.returned (.agg #[.complex .f32 cx cy, .int .i64 deep, .int .i64 size, .slice a1 xs.length c1, .slice a2 ys.length c2])) (((((w2.setCell ⟨w.heap.size, 0, none⟩ (.complex .f32 cx cy)).setCell ⟨w.heap.size, 1, none⟩ (.int .i64 deep)).setCell ⟨w.heap.size, 2, none⟩ (.int .i64 size)).setCell ⟨w.heap.size, 3, none⟩ (.slice a1 xs.length c1)).setCell ⟨w.heap.size, 4, none⟩ (.slice a2 ys.length c2))) := by
    refine ⟨⟨a1, c1, a2, c2, cx, cy, deep, size, xs, ys, rfl, ?_⟩, (R.set5 (Nat.le_refl _) _ _ _ _ _).old⟩
    exact ⟨T.s1.far5 (fun g o s e => by have := T.n1 g o s e; omega) _ _ _ _ _, T.s2.far5 (fun g o s e => by have := T.n2 g o s e; omega) _ _ _ _ _, T.k1, T.k2, fun g o s e => by have := T.n1 g o s e; omega, fun g o s e => by have := T.n2 g o s e; omega, T.hx, T.hy, T.bx, T.by1, T.pl, T.ly, T.lx⟩
  obtain ⟨f0, f1, f2, f3, f4⟩ := R.free5
  obtain ⟨r0, r1, r2, r3, r4⟩ := R.cells5
  have R5 := R.set5 (Nat.le_refl _) (.complex .f32 cx cy) (.int .i64 deep) (.int .i64 size) (.slice a1 xs.length c1) (.slice a2 ys.length c2)
  obtain ⟨z0, z1, z2, z3, z4⟩ := R5.cells5
  clear H hR hR2 hT T hO R R5
  go_wp2
  exact bodyPost_ret (v := .agg #[.complex .f32 cx cy, .int .i64 deep, .int .i64 size, .slice a1 xs.length c1, .slice a2 ys.length c2]) (by simp [results, Try.f30, go_sem, z0, z1, z2, z3, z4]) rfl HT.out
def DrawnTileN (w : World) (e : Ending) (w' : World) : Prop :=
  (∃ a1 c1 a2 c2 cx cy deep size xs ys most, e = .returned (.tuple #[.agg #[.complex .f32 cx cy, .int .i64 deep, .int .i64 size, .slice a1 xs.length c1, .slice a2 ys.length c2], .int .i64 most]) ∧ 1 ≤ most ∧ most ≤ 30 ∧ TileV w.heap.size a1 c1 a2 c2 cx cy deep size xs ys w') ∧ Below w.heap.size w w'
set_option maxRecDepth 100000 in
set_option maxHeartbeats 2000000 in
theorem drawTileSplit_any (a : Option Addr) (c : Nat) (bs : List UInt8) (hn : bs.length ≤ 1048576) (hc : bs.length ≤ c) (w : World) (hs : Sl w a (bs.map byteV)) :
    Calls Try.prog 53 #[.slice a bs.length c] w (DrawnTileN w) := by
  have R := Box.new w #[.complex .f32 0 0, .int .i64 0, .int .i64 0, .slice none 0 0, .slice none 0 0] 35
  have H := Lib.hid (open_any a c bs hn hc _ (hs.alloc (.cells #[.complex .f32 0 0, .int .i64 0, .int .i64 0, .slice none 0 0, .slice none 0 0] 35)))
  clear hs
  go_enter Try.func53, Try.ntmps53
  go_wp2_with fail
  refine H.out.mono ?_
  rintro e w1 ⟨b, rfl, hb, hR⟩
  replace R := R.step hR.below
  have hb1 : w.heap.size < b := by rw [hb]; simp
  obtain ⟨w0, hw0⟩ : ∃ w0, w0 = w.alloc (.cells #[.complex .f32 0 0, .int .i64 0, .int .i64 0, .slice none 0 0, .slice none 0 0] 35) := ⟨_, rfl⟩
  rw [← hw0] at hR
  have hw1 : w.heap.size ≤ w0.heap.size := by rw [hw0]; simp
  clear hb hw0
  have hbw : w.heap.size < w1.heap.size := R.lt
  go_wp2_with fail
  refine (l92Tile_own _ b 0 (by omega) _ hR).mono ?_
  rintro e w2 ⟨hT, ⟨p', hp', hR2⟩, hO⟩
  obtain ⟨hRb, hRb2⟩ := hR.ownb
  have hO' := hO.size
  replace R := R.onlyb hO (by omega) (by omega)
  obtain ⟨a1, c1, a2, c2, cx, cy, deep, size, xs, ys, rfl, T⟩ := hT.parts
  have R2 := hR2.step ((Below.refl _ _).alloc (Nat.le_refl _) (.cells #[.complex .f32 cx cy, .int .i64 deep, .int .i64 size, .slice a1 xs.length c1, .slice a2 ys.length c2] 35))
  have X := (Box.new w2 #[.complex .f32 cx cy, .int .i64 deep, .int .i64 size, .slice a1 xs.length c1, .slice a2 ys.length c2] 35).up R.old
  replace R := R.alloc (.cells #[.complex .f32 cx cy, .int .i64 deep, .int .i64 size, .slice a1 xs.length c1, .slice a2 ys.length c2] 35)
  replace T := T.step ((Below.refl _ _).alloc (Nat.le_refl _) (.cells #[.complex .f32 cx cy, .int .i64 deep, .int .i64 size, .slice a1 xs.length c1, .slice a2 ys.length c2] 35))
  obtain ⟨x0, x1, x2, x3, x4⟩ := X.cells5
  obtain ⟨r0, r1, r2, r3, r4⟩ := R.cells5
  obtain ⟨f0, f1, f2, f3, f4⟩ := R.free5
  have hwb := R.lt
  clear H hR hR2 hT hO
  go_wp2_with fail
  have R2d := R2.drw (Drw.refl _).drew
  have Xd := X.step ((Drw.refl _).drew.below _)
  have Rd' := R.step ((Drw.refl _).drew.below _)
  have Td := T.step ((Drw.refl _).drew.below _)
  have hbX : b < w2.heap.size := by have := hRb2; have := hO'; omega
  clear R2 X R T
  go_region_with (first
    | (go_at_call 61
       refine (pick_any w0 b p' 30 (by omega) (by omega) _ R2d).mono ?_
       rintro e w5 ⟨⟨u, rfl, u0, u1⟩, hD, hO⟩
       have u2 : u < 30 := by omega
       have X5 := Xd.onlyb hO (by omega) (by omega)
       have R5 := Rd'.onlyb hO (by omega) (by omega)
       have T5 := Td.only hO (by omega)
       have HT : Hid (TileV w.heap.size a1 c1 a2 c2 cx cy deep size xs ys (((((w5.setCell ⟨w.heap.size, 0, none⟩ (.complex .f32 cx cy)).setCell ⟨w.heap.size, 1, none⟩ (.int .i64 deep)).setCell ⟨w.heap.size, 2, none⟩ (.int .i64 size)).setCell ⟨w.heap.size, 3, none⟩ (.slice a1 xs.length c1)).setCell ⟨w.heap.size, 4, none⟩ (.slice a2 ys.length c2))) := (T5.far5 (by omega) _ _ _ _ _).mono (by omega)
       obtain ⟨y0, y1, y2, y3, y4⟩ := X5.cells5
       obtain ⟨f0', f1', f2', f3', f4'⟩ := R5.free5
       obtain ⟨r0', r1', r2', r3', r4'⟩ := R5.cells5
       have R6 := R5.set5 (Nat.le_refl _) (.complex .f32 cx cy) (.int .i64 deep) (.int .i64 size) (.slice a1 xs.length c1) (.slice a2 ys.length c2)
       obtain ⟨z0, z1, z2, z3, z4⟩ := R6.cells5
       have HR6 := Lib.hid R6.old
       have hwr : IntKind.i64.wrap (1 + u) = 1 + u := IntWalk.i64_in _ (by omega)
       clear hD hO X5 R5 T5 R6 u1))
  all_goals
    go_wp2
    exact bodyPost_ret (v := .tuple #[.agg #[.complex .f32 cx cy, .int .i64 deep, .int .i64 size, .slice a1 xs.length c1, .slice a2 ys.length c2], .int .i64 (1 + u)]) (by simp [results, Try.f53, go_sem, z0, z1, z2, z3, z4]) rfl ⟨⟨a1, c1, a2, c2, cx, cy, deep, size, xs, ys, 1 + u, rfl, by omega, by omega, HT.out⟩, HR6.out⟩
set_option maxRecDepth 100000 in
set_option maxHeartbeats 2000000 in
theorem drawTileDiffer_any (a : Option Addr) (c : Nat) (bs : List UInt8) (hn : bs.length ≤ 1048576) (hc : bs.length ≤ c) (w : World) (hs : Sl w a (bs.map byteV)) :
    Calls Try.prog 32 #[.slice a bs.length c] w (DrawnTileN w) := by
  have R := Box.new w #[.complex .f32 0 0, .int .i64 0, .int .i64 0, .slice none 0 0, .slice none 0 0] 35
  have H := Lib.hid (drawTileSplit_any a c bs hn hc _ (hs.alloc (.cells #[.complex .f32 0 0, .int .i64 0, .int .i64 0, .slice none 0 0, .slice none 0 0] 35)))
  clear hs
  go_enter Try.func32, Try.ntmps32
  go_wp2_with fail
  refine H.out.mono ?_
  rintro e w1 ⟨⟨a1, c1, a2, c2, cx, cy, deep, size, xs, ys, most, rfl, m0, m1, T⟩, hd⟩
  replace R := R.step hd
  replace T := (T.far5 (b := w.heap.size) (by simp) (.complex .f32 cx cy) (.int .i64 deep) (.int .i64 size) (.slice a1 xs.length c1) (.slice a2 ys.length c2)).mono (B' := w.heap.size) (by simp)
  obtain ⟨f0, f1, f2, f3, f4⟩ := R.free5
  obtain ⟨r0, r1, r2, r3, r4⟩ := R.cells5
  have R6 := R.set5 (Nat.le_refl _) (.complex .f32 cx cy) (.int .i64 deep) (.int .i64 size) (.slice a1 xs.length c1) (.slice a2 ys.length c2)
  obtain ⟨z0, z1, z2, z3, z4⟩ := R6.cells5
  have HT := Lib.hid T
  have HR6 := Lib.hid R6.old
  clear H hd R T R6
  go_wp2
  exact bodyPost_ret (v := .tuple #[.agg #[.complex .f32 cx cy, .int .i64 deep, .int .i64 size, .slice a1 xs.length c1, .slice a2 ys.length c2], .int .i64 most]) (by simp [results, Try.f32, go_sem, z0, z1, z2, z3, z4]) rfl ⟨⟨a1, c1, a2, c2, cx, cy, deep, size, xs, ys, most, rfl, m0, m1, HT.out⟩, HR6.out⟩
end Go.Proofs.Ytdfoobemgdiobaa
