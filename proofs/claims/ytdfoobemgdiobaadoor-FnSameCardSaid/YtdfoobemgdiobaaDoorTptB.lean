/- Draws: a tile and a cell. -/
import Derived.Test.YtdfoobemgdiobaaDoorTilH
import Derived.Deep.RegionHeld3
namespace Go.Proofs.YtdfoobemgdiobaaDoor
open Go.RowKit

attribute [local go_sem] run_store_float run_store_complex

theorem Box.other5 {w0 W : World} {b : Nat} {C : Array Value} {T : TypeId} (h : Box w0 b C T W) {p : Nat} (hp : w0.heap.size ≤ p) (hne : b ≠ p) (u0 u1 u2 u3 u4 : Value) :
    Box w0 b C T (((((W.setCell ⟨p, 0, none⟩ u0).setCell ⟨p, 1, none⟩ u1).setCell ⟨p, 2, none⟩ u2).setCell ⟨p, 3, none⟩ u3).setCell ⟨p, 4, none⟩ u4) :=
  ((((h.other (p := ⟨p, 0, none⟩) hp hne u0).other (p := ⟨p, 1, none⟩) hp hne u1).other (p := ⟨p, 2, none⟩) hp hne u2).other (p := ⟨p, 3, none⟩) hp hne u3).other (p := ⟨p, 4, none⟩) hp hne u4
def DrawnTileP (w : World) (e : Ending) (w' : World) : Prop :=
  (∃ a1 c1 a2 c2 cx cy deep size xs ys row col, e = .returned (.tuple #[.agg #[.complex .f32 cx cy, .int .i64 deep, .int .i64 size, .slice a1 xs.length c1, .slice a2 ys.length c2], .int .i64 row, .int .i64 col]) ∧ -1 ≤ row ∧ row ≤ 4 ∧ 0 ≤ col ∧ col ≤ 3 ∧ TileV w.heap.size a1 c1 a2 c2 cx cy deep size xs ys w') ∧ Below w.heap.size w w'
set_option maxRecDepth 100000 in
set_option maxHeartbeats 2000000 in
theorem drawTilePoint_any (a : Option Addr) (c : Nat) (bs : List UInt8) (hn : bs.length ≤ 1048576) (hc : bs.length ≤ c) (w : World) (hs : Sl w a (bs.map byteV)) :
    Calls Tryd.prog 5 #[.slice a bs.length c] w (DrawnTileP w) := by
  have R := Box.new w #[.complex .f32 0 0, .int .i64 0, .int .i64 0, .slice none 0 0, .slice none 0 0] 27
  have H := Lib.hid (open_any a c bs hn hc _ (hs.alloc (.cells #[.complex .f32 0 0, .int .i64 0, .int .i64 0, .slice none 0 0, .slice none 0 0] 27)))
  clear hs
  go_enter Tryd.func5, Tryd.ntmps5
  go_wp2_with fail
  refine H.out.mono ?_
  rintro e w1 ⟨b, rfl, hb, hR⟩
  replace R := R.step hR.below
  have hb1 : w.heap.size < b := by rw [hb]; simp
  obtain ⟨w0, hw0⟩ : ∃ w0, w0 = w.alloc (.cells #[.complex .f32 0 0, .int .i64 0, .int .i64 0, .slice none 0 0, .slice none 0 0] 27) := ⟨_, rfl⟩
  rw [← hw0] at hR
  have hw1 : w.heap.size ≤ w0.heap.size := by rw [hw0]; simp
  clear hb hw0
  have hbw : w.heap.size < w1.heap.size := R.lt
  go_wp2_with fail
  refine (l92Tile_own _ b 0 (by omega) _ hR).mono ?_
  rintro e w2 ⟨hT, ⟨p', hp', hR2⟩, hO⟩
  obtain ⟨hRb, hRb2⟩ := hR.ownb
  have hO' := hO.size
  replace R := R.onlyb hO (by omega) (by omega)
  obtain ⟨a1, c1, a2, c2, cx, cy, deep, size, xs, ys, rfl, T⟩ := hT.parts
  have R2 := hR2.step ((Below.refl _ _).alloc (Nat.le_refl _) (.cells #[.complex .f32 cx cy, .int .i64 deep, .int .i64 size, .slice a1 xs.length c1, .slice a2 ys.length c2] 27))
  have X := (Box.new w2 #[.complex .f32 cx cy, .int .i64 deep, .int .i64 size, .slice a1 xs.length c1, .slice a2 ys.length c2] 27).up R.old
  replace R := R.alloc (.cells #[.complex .f32 cx cy, .int .i64 deep, .int .i64 size, .slice a1 xs.length c1, .slice a2 ys.length c2] 27)
  replace T := T.step ((Below.refl _ _).alloc (Nat.le_refl _) (.cells #[.complex .f32 cx cy, .int .i64 deep, .int .i64 size, .slice a1 xs.length c1, .slice a2 ys.length c2] 27))
  obtain ⟨x0, x1, x2, x3, x4⟩ := X.cells5
  obtain ⟨r0, r1, r2, r3, r4⟩ := R.cells5
  obtain ⟨f0, f1, f2, f3, f4⟩ := R.free5
  have hwb := R.lt
  clear H hR hR2 hT hO
  go_wp2_with fail
  have HR2d := Lib.hid (R2.drw (Drw.refl _).drew)
  have HXd := Lib.hid (X.step ((Drw.refl _).drew.below _))
  have HRd := Lib.hid (R.step ((Drw.refl _).drew.below _))
  have HTd := Lib.hid (T.step ((Drw.refl _).drew.below _))
  have hbX : b < w2.heap.size := by have := hRb2; have := hO'; omega
  clear R2 X R T
  generalize (w2.alloc (.cells #[.complex .f32 cx cy, .int .i64 deep, .int .i64 size, .slice a1 xs.length c1, .slice a2 ys.length c2] 27)) = W at *
  have HK2 : Hid (∀ W5, Box w w2.heap.size #[.complex .f32 cx cy, .int .i64 deep, .int .i64 size, .slice a1 xs.length c1, .slice a2 ys.length c2] 27 W5 → ∀ u0 u1 u2 u3 u4, Box w w2.heap.size #[.complex .f32 cx cy, .int .i64 deep, .int .i64 size, .slice a1 xs.length c1, .slice a2 ys.length c2] 27 (((((W5.setCell ⟨w.heap.size, 0, none⟩ u0).setCell ⟨w.heap.size, 1, none⟩ u1).setCell ⟨w.heap.size, 2, none⟩ u2).setCell ⟨w.heap.size, 3, none⟩ u3).setCell ⟨w.heap.size, 4, none⟩ u4)) := fun W5 h u0 u1 u2 u3 u4 => h.other5 (Nat.le_refl _) (by omega) _ _ _ _ _
  have HP5 := Lib.hid (pick_any w0 b p' 5 (by omega) (by omega) _ HR2d.out)
  go_region_held3 (fun w' => w'.cell? ⟨w2.heap.size, 0, none⟩ = some (.complex .f32 cx cy) ∧ w'.cell? ⟨w2.heap.size, 1, none⟩ = some (.int .i64 deep) ∧ w'.cell? ⟨w2.heap.size, 2, none⟩ = some (.int .i64 size) ∧ w'.cell? ⟨w2.heap.size, 3, none⟩ = some (.slice a1 xs.length c1) ∧ w'.cell? ⟨w2.heap.size, 4, none⟩ = some (.slice a2 ys.length c2)) (((first | dsimp only | skip); first | (with_reducible exact HXd.out.cells5) | (with_reducible exact X5.cells5) | (with_reducible exact X6.cells5) | (with_reducible exact X7.cells5) | (with_reducible exact (HK2.out _ X7 _ _ _ _ _).cells5))) (first
    | (go_at_call 18
       with_reducible refine HP5.out.mono ?_
       rintro e w5 ⟨⟨u, rfl, u0, u1⟩, hD, hO⟩
       have u2 : u < 5 := by omega
       have X5 := HXd.out.onlyb hO (by omega) (by omega)
       have HR5 := Lib.hid (HRd.out.onlyb hO (by omega) (by omega))
       have HT5 := Lib.hid (HTd.out.only hO (by omega))
       have HP20 := Lib.hid (pick_any w0 b (p' + 1) 20 (by omega) (by omega) _ hD)
       clear hD hO u1)
    | (go_at_call 18
       with_reducible refine HP20.out.mono ?_
       rintro e w6 ⟨⟨v, rfl, v0, v1⟩, hD, hO⟩
       have v2 : v < 20 := by omega
       have X6 := X5.onlyb hO (by omega) (by omega)
       have HR6 := Lib.hid (HR5.out.onlyb hO (by omega) (by omega))
       have HT6 := Lib.hid (HT5.out.only hO (by omega))
       have HP4 := Lib.hid (pick_any w0 b (p' + 1 + 1) 4 (by omega) (by omega) _ hD)
       obtain ⟨t, ht⟩ : ∃ t, v.tdiv 19 = t := ⟨_, rfl⟩
       have ht0 : 0 ≤ t ∧ t ≤ 1 := by rw [← ht, Int.tdiv_eq_ediv_of_nonneg v0]; omega
       have hwr : IntKind.i64.wrap (u - t) = u - t := IntWalk.i64_in _ (by omega)
       clear hD hO v1)
    | (go_at_call 18
       with_reducible refine HP4.out.mono ?_
       rintro e w7 ⟨⟨z, rfl, z0, z1⟩, hD, hO⟩
       have z2 : z < 4 := by omega
       have X7 := X6.onlyb hO (by omega) (by omega)
       have R7 := HR6.out.onlyb hO (by omega) (by omega)
       have HT7 := Lib.hid (HT6.out.only hO (by omega))
       obtain ⟨f0', f1', f2', f3', f4'⟩ := R7.free5
       obtain ⟨r0', r1', r2', r3', r4'⟩ := R7.cells5
       have HR7 := Lib.hid R7
       clear hD hO z1 R7))
  have R8 := HR7.out.set5 (Nat.le_refl _) (.complex .f32 cx cy) (.int .i64 deep) (.int .i64 size) (.slice a1 xs.length c1) (.slice a2 ys.length c2)
  obtain ⟨y0, y1, y2, y3, y4⟩ := R8.cells5
  have HR8 := Lib.hid R8.old
  have HT : Hid (TileV w.heap.size a1 c1 a2 c2 cx cy deep size xs ys (((((w7.setCell ⟨w.heap.size, 0, none⟩ (.complex .f32 cx cy)).setCell ⟨w.heap.size, 1, none⟩ (.int .i64 deep)).setCell ⟨w.heap.size, 2, none⟩ (.int .i64 size)).setCell ⟨w.heap.size, 3, none⟩ (.slice a1 xs.length c1)).setCell ⟨w.heap.size, 4, none⟩ (.slice a2 ys.length c2))) := (HT7.out.far5 (by omega) _ _ _ _ _).mono (by omega)
  have hrow : -1 ≤ u - t ∧ u - t ≤ 4 := by omega
  have hcol : 0 ≤ z ∧ z ≤ 3 := by omega
  clear R8 f0' f1' f2' f3' f4' r0' r1' r2' r3' r4' X5 X6 X7
  have hwt : IntKind.i64.wrap t = t := IntWalk.i64_in t (by omega)
  go_wp2
  exact bodyPost_ret (v := .tuple #[.agg #[.complex .f32 cx cy, .int .i64 deep, .int .i64 size, .slice a1 xs.length c1, .slice a2 ys.length c2], .int .i64 (u - t), .int .i64 z]) (by simp [results, Tryd.f5, go_sem, y0, y1, y2, y3, y4, hwt, hwr]) rfl ⟨⟨a1, c1, a2, c2, cx, cy, deep, size, xs, ys, u - t, z, rfl, hrow.1, hrow.2, hcol.1, hcol.2, HT.out⟩, HR8.out⟩
end Go.Proofs.YtdfoobemgdiobaaDoor
