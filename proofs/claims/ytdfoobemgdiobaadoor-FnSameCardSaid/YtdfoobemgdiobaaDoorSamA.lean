/- Draws: two tiles. -/
import Derived.Test.YtdfoobemgdiobaaDoorTptB
namespace Go.Proofs.YtdfoobemgdiobaaDoor
open Go.RowKit

attribute [local go_sem] run_store_float run_store_complex

def DrawnTwo (w : World) (e : Ending) (w' : World) : Prop :=
  (∃ a1 c1 a2 c2 cx cy deep size xs ys a1' c1' a2' c2' cx' cy' deep' size' xs' ys', e = .returned (.tuple #[.agg #[.complex .f32 cx cy, .int .i64 deep, .int .i64 size, .slice a1 xs.length c1, .slice a2 ys.length c2], .agg #[.complex .f32 cx' cy', .int .i64 deep', .int .i64 size', .slice a1' xs'.length c1', .slice a2' ys'.length c2']]) ∧ TileV w.heap.size a1 c1 a2 c2 cx cy deep size xs ys w' ∧ TileV w.heap.size a1' c1' a2' c2' cx' cy' deep' size' xs' ys' w') ∧ Below w.heap.size w w'
abbrev ZT : Obj := .cells #[.complex .f32 0 0, .int .i64 0, .int .i64 0, .slice none 0 0, .slice none 0 0] 27
set_option maxRecDepth 100000 in
set_option maxHeartbeats 800000 in
theorem drawTileSame_any (a : Option Addr) (c : Nat) (bs : List UInt8) (hn : bs.length ≤ 1048576) (hc : bs.length ≤ c) (w : World) (hs : Sl w a (bs.map byteV)) :
    Calls Tryd.prog 12 #[.slice a bs.length c] w (DrawnTwo w) := by
  have R := (Box.new w #[.complex .f32 0 0, .int .i64 0, .int .i64 0, .slice none 0 0, .slice none 0 0] 27).alloc ZT
  have S := (Box.new (w.alloc ZT) #[.complex .f32 0 0, .int .i64 0, .int .i64 0, .slice none 0 0, .slice none 0 0] 27).up ((Below.refl w.heap.size w).alloc (Nat.le_refl _) ZT)
  rw [show (w.alloc ZT).heap.size = w.heap.size + 1 by simp] at S
  have H := Lib.hid (open_any a c bs hn hc _ ((hs.alloc ZT).alloc ZT))
  unfold ZT at R S H
  clear hs
  go_enter Tryd.func12, Tryd.ntmps12
  go_wp2_with fail
  refine H.out.mono ?_
  rintro e w1 ⟨b, rfl, hb, hR⟩
  replace R := R.step hR.below
  replace S := S.step hR.below
  have hb1 : w.heap.size + 1 < b := by rw [hb]; simp
  obtain ⟨w0, hw0⟩ : ∃ w0, w0 = (w.alloc (.cells #[.complex .f32 0 0, .int .i64 0, .int .i64 0, .slice none 0 0, .slice none 0 0] 27)).alloc (.cells #[.complex .f32 0 0, .int .i64 0, .int .i64 0, .slice none 0 0, .slice none 0 0] 27) := ⟨_, rfl⟩
  rw [← hw0] at hR
  have hw1 : w.heap.size + 1 ≤ w0.heap.size := by rw [hw0]; simp
  clear hb hw0
  have hbw : w.heap.size + 1 < w1.heap.size := S.lt
  go_wp2_with fail
  refine (l92Tile_own _ b 0 (by omega) _ hR).mono ?_
  rintro e w2 ⟨hT, ⟨p', hp', hR2⟩, hO⟩
  obtain ⟨hRb, hRb2⟩ := hR.ownb
  have hO' := hO.size
  replace R := R.onlyb hO (by omega) (by omega)
  replace S := S.onlyb hO (by omega) (by omega)
  obtain ⟨a1, c1, a2, c2, cx, cy, deep, size, xs, ys, rfl, T⟩ := hT.parts
  have R2 := hR2.step ((Below.refl _ _).alloc (Nat.le_refl _) (.cells #[.complex .f32 cx cy, .int .i64 deep, .int .i64 size, .slice a1 xs.length c1, .slice a2 ys.length c2] 27))
  have X := (Box.new w2 #[.complex .f32 cx cy, .int .i64 deep, .int .i64 size, .slice a1 xs.length c1, .slice a2 ys.length c2] 27).up R.old
  replace R := R.alloc (.cells #[.complex .f32 cx cy, .int .i64 deep, .int .i64 size, .slice a1 xs.length c1, .slice a2 ys.length c2] 27)
  replace S := S.alloc (.cells #[.complex .f32 cx cy, .int .i64 deep, .int .i64 size, .slice a1 xs.length c1, .slice a2 ys.length c2] 27)
  replace T := T.step ((Below.refl _ _).alloc (Nat.le_refl _) (.cells #[.complex .f32 cx cy, .int .i64 deep, .int .i64 size, .slice a1 xs.length c1, .slice a2 ys.length c2] 27))
  have hbX : b < w2.heap.size := by have := hRb2; have := hO'; omega
  have HK := Lib.hid (pick_any w0 b p' 2 (by omega) (by omega) _ R2)
  have HX := Lib.hid X
  have HR := Lib.hid R
  have HS := Lib.hid S
  have HT := Lib.hid T
  clear H hR hR2 hT hO R2 X R S T
  go_wp2_with fail
  refine HK.out.mono ?_
  rintro e w3 ⟨⟨u, rfl, u0, u1⟩, hD, hO⟩
  have HX3 := Lib.hid (HX.out.onlyb hO (by omega) (by omega))
  have HR3 := Lib.hid (HR.out.onlyb hO (by omega) (by omega))
  have HS3 := Lib.hid (HS.out.onlyb hO (by omega) (by omega))
  have HT3 := Lib.hid (HT.out.only hO (by omega))
  have HD3 := Lib.hid hD
  clear hD hO HX HR HS HT HK u1
  by_cases hu : u = 0
  · subst hu
    go_upto_region 4 with fail
    have hxn1 : w2.heap.size ≠ w.heap.size := by omega
    have hxn2 : w2.heap.size ≠ w.heap.size + 1 := by omega
    have X6 := HX3.out.other5 (p := w.heap.size) (Nat.le_refl _) hxn1 (.complex .f32 cx cy) (.int .i64 deep) (.int .i64 size) (.slice a1 xs.length c1) (.slice a2 ys.length c2)
    have X7 := X6.other5 (p := w.heap.size + 1) (by omega) hxn2 (.complex .f32 cx cy) (.int .i64 deep) (.int .i64 size) (.slice a1 xs.length c1) (.slice a2 ys.length c2)
    have S6 := HS3.out.other5 (p := w.heap.size) (Nat.le_refl _) (by omega) (.complex .f32 cx cy) (.int .i64 deep) (.int .i64 size) (.slice a1 xs.length c1) (.slice a2 ys.length c2)
    have R7 := ((HR3.out.set5 (Nat.le_refl _) (.complex .f32 cx cy) (.int .i64 deep) (.int .i64 size) (.slice a1 xs.length c1) (.slice a2 ys.length c2)).other5 (p := w.heap.size + 1) (by omega) (by omega) (.complex .f32 cx cy) (.int .i64 deep) (.int .i64 size) (.slice a1 xs.length c1) (.slice a2 ys.length c2)).step ((Drw.refl _).drew.below _)
    have S7 := (S6.set5 (by omega) (.complex .f32 cx cy) (.int .i64 deep) (.int .i64 size) (.slice a1 xs.length c1) (.slice a2 ys.length c2)).step ((Drw.refl _).drew.below _)
    have T7 : TileV w.heap.size a1 c1 a2 c2 cx cy deep size xs ys (((((((((((w3.setCell ⟨w.heap.size, 0, none⟩ (.complex .f32 cx cy)).setCell ⟨w.heap.size, 1, none⟩ (.int .i64 deep)).setCell ⟨w.heap.size, 2, none⟩ (.int .i64 size)).setCell ⟨w.heap.size, 3, none⟩ (.slice a1 xs.length c1)).setCell ⟨w.heap.size, 4, none⟩ (.slice a2 ys.length c2)).setCell ⟨w.heap.size + 1, 0, none⟩ (.complex .f32 cx cy)).setCell ⟨w.heap.size + 1, 1, none⟩ (.int .i64 deep)).setCell ⟨w.heap.size + 1, 2, none⟩ (.int .i64 size)).setCell ⟨w.heap.size + 1, 3, none⟩ (.slice a1 xs.length c1)).setCell ⟨w.heap.size + 1, 4, none⟩ (.slice a2 ys.length c2))).drew := (((HT3.out.far5 (b := w.heap.size) (by omega) (.complex .f32 cx cy) (.int .i64 deep) (.int .i64 size) (.slice a1 xs.length c1) (.slice a2 ys.length c2)).far5 (b := w.heap.size + 1) (by omega) (.complex .f32 cx cy) (.int .i64 deep) (.int .i64 size) (.slice a1 xs.length c1) (.slice a2 ys.length c2)).mono (by omega)).step ((Drw.refl _).drew.below _)
    have HXd := Lib.hid (HX3.out.step ((Drw.refl _).drew.below _))
    have HX6 := Lib.hid (X6.step ((Drw.refl _).drew.below _))
    have HX7 := Lib.hid (X7.step ((Drw.refl _).drew.below _))
    obtain ⟨r0, r1, r2, r3, r4⟩ := HR3.out.cells5
    obtain ⟨f0, f1, f2, f3, f4⟩ := HR3.out.free5
    obtain ⟨s0, s1, s2, s3, s4⟩ := HS3.out.cells5
    obtain ⟨g0, g1, g2, g3, g4⟩ := HS3.out.free5
    have HR7 := Lib.hid R7
    have HS7 := Lib.hid S7
    have HT7 := Lib.hid T7
    clear X6 X7 S6 R7 S7 T7
    go_region_held3 (fun w' => w'.cell? ⟨w2.heap.size, 0, none⟩ = some (.complex .f32 cx cy) ∧ w'.cell? ⟨w2.heap.size, 1, none⟩ = some (.int .i64 deep) ∧ w'.cell? ⟨w2.heap.size, 2, none⟩ = some (.int .i64 size) ∧ w'.cell? ⟨w2.heap.size, 3, none⟩ = some (.slice a1 xs.length c1) ∧ w'.cell? ⟨w2.heap.size, 4, none⟩ = some (.slice a2 ys.length c2)) (((first | dsimp only | skip); first | (with_reducible exact HXd.out.cells5) | (with_reducible exact HX6.out.cells5) | (with_reducible exact HX7.out.cells5))) (fail)
    clear r0 r1 r2 r3 r4 f0 f1 f2 f3 f4 s0 s1 s2 s3 s4 g0 g1 g2 g3 g4
    obtain ⟨y0, y1, y2, y3, y4⟩ := HR7.out.cells5
    obtain ⟨z0, z1, z2, z3, z4⟩ := HS7.out.cells5
    generalize (((((((((((w3.setCell ⟨w.heap.size, 0, none⟩ (.complex .f32 cx cy)).setCell ⟨w.heap.size, 1, none⟩ (.int .i64 deep)).setCell ⟨w.heap.size, 2, none⟩ (.int .i64 size)).setCell ⟨w.heap.size, 3, none⟩ (.slice a1 xs.length c1)).setCell ⟨w.heap.size, 4, none⟩ (.slice a2 ys.length c2)).setCell ⟨w.heap.size + 1, 0, none⟩ (.complex .f32 cx cy)).setCell ⟨w.heap.size + 1, 1, none⟩ (.int .i64 deep)).setCell ⟨w.heap.size + 1, 2, none⟩ (.int .i64 size)).setCell ⟨w.heap.size + 1, 3, none⟩ (.slice a1 xs.length c1)).setCell ⟨w.heap.size + 1, 4, none⟩ (.slice a2 ys.length c2))).drew = wf at *
    go_wp2
    exact bodyPost_ret (v := .tuple #[.agg #[.complex .f32 cx cy, .int .i64 deep, .int .i64 size, .slice a1 xs.length c1, .slice a2 ys.length c2], .agg #[.complex .f32 cx cy, .int .i64 deep, .int .i64 size, .slice a1 xs.length c1, .slice a2 ys.length c2]]) (by simp [results, Tryd.f12, go_sem, y0, y1, y2, y3, y4, z0, z1, z2, z3, z4]) rfl ⟨⟨a1, c1, a2, c2, cx, cy, deep, size, xs, ys, a1, c1, a2, c2, cx, cy, deep, size, xs, ys, rfl, HT7.out, HT7.out⟩, HR7.out.old⟩
  · have hu2 : (u == 0) = false := by simpa using hu
    clear hu
    go_upto_region 5 with fail
    have HXd := Lib.hid (HX3.out.step ((Drw.refl _).drew.below _))
    have HRd := Lib.hid (HR3.out.step ((Drw.refl _).drew.below _))
    have HSd := Lib.hid (HS3.out.step ((Drw.refl _).drew.below _))
    have HTd := Lib.hid (HT3.out.step ((Drw.refl _).drew.below _))
    have hdsz : w3.drew.heap.size = w3.heap.size := rfl
    have hxs : w2.heap.size < w3.heap.size := HX3.out.lt
    have HL := Lib.hid (l92Tile_own _ b (p' + 1) (by omega) _ (HD3.out.drw (Drw.refl _).drew))
    have HK6 : Hid (∀ W, Box w w2.heap.size #[.complex .f32 cx cy, .int .i64 deep, .int .i64 size, .slice a1 xs.length c1, .slice a2 ys.length c2] 27 W → ∀ v0 v1 v2 v3 v4, Box w w2.heap.size #[.complex .f32 cx cy, .int .i64 deep, .int .i64 size, .slice a1 xs.length c1, .slice a2 ys.length c2] 27 (((((W.setCell ⟨w.heap.size, 0, none⟩ (v0)).setCell ⟨w.heap.size, 1, none⟩ (v1)).setCell ⟨w.heap.size, 2, none⟩ (v2)).setCell ⟨w.heap.size, 3, none⟩ (v3)).setCell ⟨w.heap.size, 4, none⟩ (v4))) := fun W h v0 v1 v2 v3 v4 => h.other5 (Nat.le_refl _) (by omega) _ _ _ _ _
    have HK7 : Hid (∀ W, Box w w2.heap.size #[.complex .f32 cx cy, .int .i64 deep, .int .i64 size, .slice a1 xs.length c1, .slice a2 ys.length c2] 27 W → ∀ v0 v1 v2 v3 v4, Box w w2.heap.size #[.complex .f32 cx cy, .int .i64 deep, .int .i64 size, .slice a1 xs.length c1, .slice a2 ys.length c2] 27 (((((W.setCell ⟨w.heap.size + 1, 0, none⟩ (v0)).setCell ⟨w.heap.size + 1, 1, none⟩ (v1)).setCell ⟨w.heap.size + 1, 2, none⟩ (v2)).setCell ⟨w.heap.size + 1, 3, none⟩ (v3)).setCell ⟨w.heap.size + 1, 4, none⟩ (v4))) := fun W h v0 v1 v2 v3 v4 => h.other5 (by omega) (by omega) _ _ _ _ _
    go_region_held3 (fun w' => w'.cell? ⟨w2.heap.size, 0, none⟩ = some (.complex .f32 cx cy) ∧ w'.cell? ⟨w2.heap.size, 1, none⟩ = some (.int .i64 deep) ∧ w'.cell? ⟨w2.heap.size, 2, none⟩ = some (.int .i64 size) ∧ w'.cell? ⟨w2.heap.size, 3, none⟩ = some (.slice a1 xs.length c1) ∧ w'.cell? ⟨w2.heap.size, 4, none⟩ = some (.slice a2 ys.length c2)) (((first | dsimp only | skip); first | (with_reducible exact HXd.out.cells5) | (with_reducible exact HX5.out.cells5) | (with_reducible exact (HK6.out _ HX5.out _ _ _ _ _).cells5) | (with_reducible exact (HK7.out _ (HK6.out _ HX5.out _ _ _ _ _) _ _ _ _ _).cells5))) (first
      | (go_at_call 17
         with_reducible refine HL.out.mono ?_
         rintro e w5 ⟨hT, ⟨p'', hp'', hR5⟩, hO⟩
         obtain ⟨a1', c1', a2', c2', cx', cy', deep', size', xs', ys', rfl, T⟩ := hT.parts
         have HX5 := Lib.hid (HXd.out.onlyb hO (by omega) (by omega))
         have R5 := HRd.out.onlyb hO (by omega) (by omega)
         have S5 := HSd.out.onlyb hO (by omega) (by omega)
         have HT1 := Lib.hid (HTd.out.only hO (by omega))
         have HT2 := Lib.hid T
         obtain ⟨r0, r1, r2, r3, r4⟩ := R5.cells5
         obtain ⟨f0, f1, f2, f3, f4⟩ := R5.free5
         obtain ⟨s0, s1, s2, s3, s4⟩ := S5.cells5
         obtain ⟨g0, g1, g2, g3, g4⟩ := S5.free5
         have HR5 := Lib.hid R5
         have HS5 := Lib.hid S5
         clear hT hR5 hO T R5 S5))
    clear r0 r1 r2 r3 r4 f0 f1 f2 f3 f4 s0 s1 s2 s3 s4 g0 g1 g2 g3 g4
    have S6 := HS5.out.other5 (p := w.heap.size) (Nat.le_refl _) (by omega) (.complex .f32 cx cy) (.int .i64 deep) (.int .i64 size) (.slice a1 xs.length c1) (.slice a2 ys.length c2)
    have HR7 := Lib.hid ((HR5.out.set5 (Nat.le_refl _) (.complex .f32 cx cy) (.int .i64 deep) (.int .i64 size) (.slice a1 xs.length c1) (.slice a2 ys.length c2)).other5 (p := w.heap.size + 1) (by omega) (by omega) (.complex .f32 cx' cy') (.int .i64 deep') (.int .i64 size') (.slice a1' xs'.length c1') (.slice a2' ys'.length c2'))
    have HS7 := Lib.hid (S6.set5 (by omega) (.complex .f32 cx' cy') (.int .i64 deep') (.int .i64 size') (.slice a1' xs'.length c1') (.slice a2' ys'.length c2'))
    have HT1' : Hid (TileV w.heap.size a1 c1 a2 c2 cx cy deep size xs ys ((((((((((w5.setCell ⟨w.heap.size, 0, none⟩ (.complex .f32 cx cy)).setCell ⟨w.heap.size, 1, none⟩ (.int .i64 deep)).setCell ⟨w.heap.size, 2, none⟩ (.int .i64 size)).setCell ⟨w.heap.size, 3, none⟩ (.slice a1 xs.length c1)).setCell ⟨w.heap.size, 4, none⟩ (.slice a2 ys.length c2)).setCell ⟨w.heap.size + 1, 0, none⟩ (.complex .f32 cx' cy')).setCell ⟨w.heap.size + 1, 1, none⟩ (.int .i64 deep')).setCell ⟨w.heap.size + 1, 2, none⟩ (.int .i64 size')).setCell ⟨w.heap.size + 1, 3, none⟩ (.slice a1' xs'.length c1')).setCell ⟨w.heap.size + 1, 4, none⟩ (.slice a2' ys'.length c2'))) := ((HT1.out.far5 (b := w.heap.size) (by omega) (.complex .f32 cx cy) (.int .i64 deep) (.int .i64 size) (.slice a1 xs.length c1) (.slice a2 ys.length c2)).far5 (b := w.heap.size + 1) (by omega) (.complex .f32 cx' cy') (.int .i64 deep') (.int .i64 size') (.slice a1' xs'.length c1') (.slice a2' ys'.length c2')).mono (by omega)
    have HT2' : Hid (TileV w.heap.size a1' c1' a2' c2' cx' cy' deep' size' xs' ys' ((((((((((w5.setCell ⟨w.heap.size, 0, none⟩ (.complex .f32 cx cy)).setCell ⟨w.heap.size, 1, none⟩ (.int .i64 deep)).setCell ⟨w.heap.size, 2, none⟩ (.int .i64 size)).setCell ⟨w.heap.size, 3, none⟩ (.slice a1 xs.length c1)).setCell ⟨w.heap.size, 4, none⟩ (.slice a2 ys.length c2)).setCell ⟨w.heap.size + 1, 0, none⟩ (.complex .f32 cx' cy')).setCell ⟨w.heap.size + 1, 1, none⟩ (.int .i64 deep')).setCell ⟨w.heap.size + 1, 2, none⟩ (.int .i64 size')).setCell ⟨w.heap.size + 1, 3, none⟩ (.slice a1' xs'.length c1')).setCell ⟨w.heap.size + 1, 4, none⟩ (.slice a2' ys'.length c2'))) := ((HT2.out.far5 (b := w.heap.size) (by omega) (.complex .f32 cx cy) (.int .i64 deep) (.int .i64 size) (.slice a1 xs.length c1) (.slice a2 ys.length c2)).far5 (b := w.heap.size + 1) (by omega) (.complex .f32 cx' cy') (.int .i64 deep') (.int .i64 size') (.slice a1' xs'.length c1') (.slice a2' ys'.length c2')).mono (by omega)
    clear S6
    obtain ⟨y0, y1, y2, y3, y4⟩ := HR7.out.cells5
    obtain ⟨z0, z1, z2, z3, z4⟩ := HS7.out.cells5
    generalize ((((((((((w5.setCell ⟨w.heap.size, 0, none⟩ (.complex .f32 cx cy)).setCell ⟨w.heap.size, 1, none⟩ (.int .i64 deep)).setCell ⟨w.heap.size, 2, none⟩ (.int .i64 size)).setCell ⟨w.heap.size, 3, none⟩ (.slice a1 xs.length c1)).setCell ⟨w.heap.size, 4, none⟩ (.slice a2 ys.length c2)).setCell ⟨w.heap.size + 1, 0, none⟩ (.complex .f32 cx' cy')).setCell ⟨w.heap.size + 1, 1, none⟩ (.int .i64 deep')).setCell ⟨w.heap.size + 1, 2, none⟩ (.int .i64 size')).setCell ⟨w.heap.size + 1, 3, none⟩ (.slice a1' xs'.length c1')).setCell ⟨w.heap.size + 1, 4, none⟩ (.slice a2' ys'.length c2')) = wf at *
    go_wp2
    exact bodyPost_ret (v := .tuple #[.agg #[.complex .f32 cx cy, .int .i64 deep, .int .i64 size, .slice a1 xs.length c1, .slice a2 ys.length c2], .agg #[.complex .f32 cx' cy', .int .i64 deep', .int .i64 size', .slice a1' xs'.length c1', .slice a2' ys'.length c2']]) (by simp [results, Tryd.f12, go_sem, y0, y1, y2, y3, y4, z0, z1, z2, z3, z4]) rfl ⟨⟨a1, c1, a2, c2, cx, cy, deep, size, xs, ys, a1', c1', a2', c2', cx', cy', deep', size', xs', ys', rfl, HT1'.out, HT2'.out⟩, HR7.out.old⟩
end Go.Proofs.YtdfoobemgdiobaaDoor
