/- Walk of what draws tiles: l92Tile. (printed by wip/gen_l92tile.py) -/
import Derived.Test.YtdfoobemgdiobaaDoorTilL
import Derived.Deep.Cut
namespace Go.Proofs.YtdfoobemgdiobaaDoor
open Go.RowKit
attribute [local go_sem ↓] Go.wp_at_zero Go.wp_at_succ
attribute [local go_sem] run_store_float run_store_complex

/-- the same where the drawn tile has lost its first smooth value -/
theorem LT.shutT {w0 W0 : World} {b rb ob n gs cs gm cm cx cy p : Nat} {deep size : Int} {xs : List Nat} {ys : List Int} {W : World} (h : LT w0 W0 b rb ob n gs cs gm cm cx cy p deep size xs ys W) (v u0 u1 u2 u3 u4 : Value) {P : Nat} (hP : p ≤ P) :
    TRows W0.heap.size n n xs ys (.slice (some ⟨gs, 0, none⟩) n cs) (.slice (some ⟨gm, 0, none⟩) n cm) ((((((W.setCell ⟨ob, 3, none⟩ v).setCell ⟨rb, 0, none⟩ u0).setCell ⟨rb, 1, none⟩ u1).setCell ⟨rb, 2, none⟩ u2).setCell ⟨rb, 3, none⟩ u3).setCell ⟨rb, 4, none⟩ u4) ∧
    (∃ p', p' ≤ P ∧ Rd w0 b p' ((((((W.setCell ⟨ob, 3, none⟩ v).setCell ⟨rb, 0, none⟩ u0).setCell ⟨rb, 1, none⟩ u1).setCell ⟨rb, 2, none⟩ u2).setCell ⟨rb, 3, none⟩ u3).setCell ⟨rb, 4, none⟩ u4)) ∧
    Only b W0 ((((((W.setCell ⟨ob, 3, none⟩ v).setCell ⟨rb, 0, none⟩ u0).setCell ⟨rb, 1, none⟩ u1).setCell ⟨rb, 2, none⟩ u2).setCell ⟨rb, 3, none⟩ u3).setCell ⟨rb, 4, none⟩ u4) := by
  have hr := h.hr
  have ho := h.ho
  have h00 := h.h0
  have hbb := h.hb2
  have R := h.R.other (p := ⟨ob, 3, none⟩) (by simp; omega) h.ne v
  have T := h.T.box h.O 3 v
  have D := h.D.otherb (p := ⟨ob, 3, none⟩) (by simp; omega) (by simp; omega) v
  have K := h.K.farb (p := ⟨ob, 3, none⟩) ho v
  refine ⟨T.box5 R (by omega) u0 u1 u2 u3 u4, ⟨p, hP, ?_⟩, ?_⟩
  · exact ((((D.otherb (p := ⟨rb, 0, none⟩) (by simp; omega) (by simp; omega) _).otherb (p := ⟨rb, 1, none⟩) (by simp; omega) (by simp; omega) _).otherb (p := ⟨rb, 2, none⟩) (by simp; omega) (by simp; omega) _).otherb (p := ⟨rb, 3, none⟩) (by simp; omega) (by simp; omega) _).otherb (p := ⟨rb, 4, none⟩) (by simp; omega) (by simp; omega) _
  · exact ((((K.farb (p := ⟨rb, 0, none⟩) hr _).farb (p := ⟨rb, 1, none⟩) hr _).farb (p := ⟨rb, 2, none⟩) hr _).farb (p := ⟨rb, 3, none⟩) hr _).farb (p := ⟨rb, 4, none⟩) hr _
set_option maxRecDepth 100000 in
set_option maxHeartbeats 16000000 in
theorem l92Tile_own (w0 : World) (b p : Nat) (hp : p ≤ 1000000) (W : World) (h : Rd w0 b p W) :
    Calls Tryd.prog 17 #[.pointer (some ⟨b, 0, none⟩)] W fun e w' => TileOut W.heap.size e w' ∧ (∃ p', p' ≤ p + 24 ∧ Rd w0 b p' w') ∧ Only b W w' := by
  obtain ⟨hb0, hb1⟩ := h.ownb
  have R := (Box.new W #[.complex .f32 0 0, .int .i64 0, .int .i64 0, .slice none 0 0, .slice none 0 0] 27).up h.below
  have HR := Lib.hid (h.step ((Below.refl _ _).alloc (Nat.le_refl _) (.cells #[.complex .f32 0 0, .int .i64 0, .int .i64 0, .slice none 0 0, .slice none 0 0] 27)))
  have hw : w0.heap.size ≤ W.heap.size := h.below.size
  clear h
  go_enter Tryd.func17, Tryd.ntmps17
  go_wp2_with fail
  refine (place_any w0 b p (by omega) _ HR.out).mono ?_
  rintro e w1 ⟨⟨x, y, d, s, m, rfl, hx, hy, m0, m1⟩, ⟨p1, hp1, hD⟩, hO⟩
  replace R := R.onlyb hO (by omega) hb0
  have K := Lib.hid (((Only.refl b W).allocb (.cells #[.complex .f32 0 0, .int .i64 0, .int .i64 0, .slice none 0 0, .slice none 0 0] 27)).trans hO)
  have HR1 := Lib.hid hD
  have hs1 : W.heap.size + 1 ≤ w1.heap.size := by have := hO.size; simpa using this
  clear hO HR hD
  go_wp2_with fail
  refine (tileMake_any x y d s m hx hy _).mono ?_
  rintro e w2 ⟨hbl, h | ⟨hpl, xs, ys, smv, mkv, rfl, hM⟩⟩
  · obtain ⟨-, rfl⟩ := h
    unfold tileV
    replace R := (R.step hbl).alloc (.cells #[.complex .f32 0 0, .int .i64 0, .int .i64 0, .slice none 0 0, .slice none 0 0] 27)
    have O := (Box.new w2 #[.complex .f32 0 0, .int .i64 0, .int .i64 0, .slice none 0 0, .slice none 0 0] 27).up (HR1.out.step hbl).below
    have HD := Lib.hid ((HR1.out.step hbl).step ((Below.refl _ _).alloc (Nat.le_refl _) (.cells #[.complex .f32 0 0, .int .i64 0, .int .i64 0, .slice none 0 0, .slice none 0 0] 27)))
    have HK := Lib.hid ((K.out.trans (Only.of_below hbl)).allocb (.cells #[.complex .f32 0 0, .int .i64 0, .int .i64 0, .slice none 0 0, .slice none 0 0] 27))
    have hs2 : W.heap.size + 1 ≤ w2.heap.size := by have := hbl.size; omega
    clear hbl HR1 K
    go_wp2_with fail
    refine (tileMake_ok m _).mono ?_
    rintro e w3 ⟨hbl, h | ⟨hpl, xs, ys, smv, mkv, rfl, hM⟩⟩
    · exact absurd trivial h.1
    unfold tileV
    replace R := R.step hbl
    replace O := O.step hbl
    replace HD := Lib.hid (HD.out.step hbl)
    replace HK := Lib.hid (HK.out.trans (Only.of_below hbl))
    have hn : 0 < (2 : Int).toNat * (2 : Int).toNat := by decide
    obtain ⟨gs, cs, rfl, -, hcs⟩ := ownsRow_form hM.S hn
    obtain ⟨gm, cm, rfl, -, hcm⟩ := ownsRow_form hM.M hn
    obtain ⟨n, hNN⟩ : ∃ n, (2 : Int).toNat * (2 : Int).toNat = n := ⟨_, rfl⟩
    rw [hNN] at hM hcs hcm hn ⊢
    have HNN : Hid (n = (2 : Int).toNat * (2 : Int).toNat) := hNN.symm
    have HP := Lib.hid hpl
    have hn0 : 0 < n := hn
    have hn64 : n ≤ 64 := by rw [HNN.out]; decide
    have hcx : 3212836864 < 4294967296 := by decide
    have hcy : 3212836864 < 4294967296 := by decide
    have hne : W.heap.size ≠ w2.heap.size := by omega
    have T := (hM.mono (B' := W.heap.size) (by simp; omega)).rows
    have L : LT w0 W b W.heap.size w2.heap.size n gs cs gm cm 3212836864 3212836864 p1 2 2 xs ys (((((w3.setCell ⟨w2.heap.size, 0, none⟩ (.complex .f32 3212836864 3212836864)).setCell ⟨w2.heap.size, 1, none⟩ (.int .i64 2)).setCell ⟨w2.heap.size, 2, none⟩ (.int .i64 2)).setCell ⟨w2.heap.size, 3, none⟩ (.slice (some ⟨gs, 0, none⟩) n cs)).setCell ⟨w2.heap.size, 4, none⟩ (.slice (some ⟨gm, 0, none⟩) n cm)) := by
      refine ⟨O.set5 (by omega) _ _ _ _ _, ?_, T.box5 O (by omega) _ _ _ _ _, ?_, ?_, hne, hb0, hb1, Nat.le_refl _, by omega, hw⟩
      · exact ((((R.other (p := ⟨w2.heap.size, 0, none⟩) (by simp; omega) hne _).other (p := ⟨w2.heap.size, 1, none⟩) (by simp; omega) hne _).other (p := ⟨w2.heap.size, 2, none⟩) (by simp; omega) hne _).other (p := ⟨w2.heap.size, 3, none⟩) (by simp; omega) hne _).other (p := ⟨w2.heap.size, 4, none⟩) (by simp; omega) hne _
      · exact ((((HD.out.otherb (p := ⟨w2.heap.size, 0, none⟩) (by simp; omega) (by simp; omega) _).otherb (p := ⟨w2.heap.size, 1, none⟩) (by simp; omega) (by simp; omega) _).otherb (p := ⟨w2.heap.size, 2, none⟩) (by simp; omega) (by simp; omega) _).otherb (p := ⟨w2.heap.size, 3, none⟩) (by simp; omega) (by simp; omega) _).otherb (p := ⟨w2.heap.size, 4, none⟩) (by simp; omega) (by simp; omega) _
      · exact ((((HK.out.farb (p := ⟨w2.heap.size, 0, none⟩) (by simp; omega) _).farb (p := ⟨w2.heap.size, 1, none⟩) (by simp; omega) _).farb (p := ⟨w2.heap.size, 2, none⟩) (by simp; omega) _).farb (p := ⟨w2.heap.size, 3, none⟩) (by simp; omega) _).farb (p := ⟨w2.heap.size, 4, none⟩) (by simp; omega) _
    have HL := Lib.hid L
    obtain ⟨o0, o1, o2, o3, o4⟩ := O.cells5
    obtain ⟨g0, g1, g2, g3, g4⟩ := O.free5
    clear hM hNN hpl hn T L O R HD HK hbl
    go_wp2_with fail
    refine (pick_any w0 b p1 16 (by omega) (by omega) _ HL.out.D).mono ?_
    rintro e w4 ⟨⟨r, rfl, r0, r1⟩, hD, hO⟩
    have L := HL.out.pick hO hD
    clear hO hD HL
    have hs := L.T.S.lt gs rfl
    by_cases c0 : r = 0
    · subst c0
      obtain ⟨o0, o1, o2, o3, o4⟩ := L.O.cells5
      obtain ⟨⟨q, k0⟩, k1⟩ := cellM L.T (j := 0) hn0
      have L2 := L.setM 0 (u := 2) (by omega)
      obtain ⟨o0', o1', o2', o3', o4'⟩ := L2.O.cells5
      obtain ⟨z0, z1, z2, z3, z4⟩ := L2.R.cells5
      obtain ⟨f0, f1, f2, f3, f4⟩ := L2.R.free5
      have HL2 := Lib.hid L2
      clear L L2
      go_wp2
      have HS := HL2.out.shut (.complex .f32 3212836864 3212836864) (.int .i64 2) (.int .i64 2) (.slice (some ⟨gs, 0, none⟩) n cs) (.slice (some ⟨gm, 0, none⟩) n cm) (show p1 + 1 ≤ p + 24 by omega)
      exact bodyPost_ret (v := .agg #[.complex .f32 3212836864 3212836864, .int .i64 2, .int .i64 2, .slice (some ⟨gs, 0, none⟩) n cs, .slice (some ⟨gm, 0, none⟩) n cm]) (by simp [results, Tryd.f17, go_sem, z0, z1, z2, z3, z4]) rfl ⟨TileOut.rows HS.1 hcx hcy HP.out HNN.out hcs hcm, HS.2⟩
    by_cases c1 : r = 1
    · subst c1
      obtain ⟨o0, o1, o2, o3, o4⟩ := L.O.cells5
      have g3 := L.O.frozen 3
      obtain ⟨z0, z1, z2, z3, z4⟩ := L.R.cells5
      obtain ⟨f0, f1, f2, f3, f4⟩ := L.R.free5
      have hne := L.ne
      obtain ⟨l, rfl⟩ : ∃ l, n = l + 1 := ⟨n - 1, by omega⟩
      obtain ⟨c, rfl⟩ : ∃ c, cs = c + 1 := ⟨cs - 1, by omega⟩
      have HL2 := Lib.hid L
      clear L
      by_cases hc : c = 0
      · obtain rfl : l = 0 := by omega
        subst hc
        go_wp2
        have HS := HL2.out.shutT (.slice (some ⟨gs, 0, none⟩) 0 0) (.complex .f32 3212836864 3212836864) (.int .i64 2) (.int .i64 2) (.slice (some ⟨gs, 0, none⟩) 0 0) (.slice (some ⟨gm, 0, none⟩) (0 + 1) cm) (show p1 + 1 ≤ p + 24 by omega)
        exact bodyPost_ret (v := .agg #[.complex .f32 3212836864 3212836864, .int .i64 2, .int .i64 2, .slice (some ⟨gs, 0, none⟩) 0 0, .slice (some ⟨gm, 0, none⟩) (0 + 1) cm]) (by simp [results, Tryd.f17, go_sem, z0, z1, z2, z3, z4]) rfl ⟨TileOut.tail HS.1 hcx hcy HP.out HNN.out hcs hcm rfl rfl (.inl ⟨rfl, rfl⟩), HS.2⟩
      · go_wp2
        have HS := HL2.out.shutT (.slice (some ⟨gs, 1, none⟩) l c) (.complex .f32 3212836864 3212836864) (.int .i64 2) (.int .i64 2) (.slice (some ⟨gs, 1, none⟩) l c) (.slice (some ⟨gm, 0, none⟩) (l + 1) cm) (show p1 + 1 ≤ p + 24 by omega)
        exact bodyPost_ret (v := .agg #[.complex .f32 3212836864 3212836864, .int .i64 2, .int .i64 2, .slice (some ⟨gs, 1, none⟩) l c, .slice (some ⟨gm, 0, none⟩) (l + 1) cm]) (by simp [results, Tryd.f17, go_sem, z0, z1, z2, z3, z4]) rfl ⟨TileOut.tail HS.1 hcx hcy HP.out HNN.out hcs hcm rfl rfl (.inr rfl), HS.2⟩
    by_cases c2 : r = 2
    · subst c2
      obtain ⟨o0, o1, o2, o3, o4⟩ := L.O.cells5
      obtain ⟨x1, w5, hq, hx1, d5⟩ := Flo.arith_any (P := Tryd.prog) .quo (by simp) 66 .f32 0 0 w4
      have L5 := L.drw d5
      obtain ⟨⟨q, k0⟩, k1⟩ := cellS L5.T (j := 0) hn0
      have L2 := L5.setS 0 hx1
      obtain ⟨o0', o1', o2', o3', o4'⟩ := L2.O.cells5
      obtain ⟨z0, z1, z2, z3, z4⟩ := L2.R.cells5
      obtain ⟨f0, f1, f2, f3, f4⟩ := L2.R.free5
      have HL2 := Lib.hid L2
      clear L L2 L5 d5
      go_wp2
      have HS := HL2.out.shut (.complex .f32 3212836864 3212836864) (.int .i64 2) (.int .i64 2) (.slice (some ⟨gs, 0, none⟩) n cs) (.slice (some ⟨gm, 0, none⟩) n cm) (show p1 + 1 ≤ p + 24 by omega)
      exact bodyPost_ret (v := .agg #[.complex .f32 3212836864 3212836864, .int .i64 2, .int .i64 2, .slice (some ⟨gs, 0, none⟩) n cs, .slice (some ⟨gm, 0, none⟩) n cm]) (by simp [results, Tryd.f17, go_sem, z0, z1, z2, z3, z4]) rfl ⟨TileOut.rows HS.1 hcx hcy HP.out HNN.out hcs hcm, HS.2⟩
    by_cases c3 : r = 3
    · subst c3
      obtain ⟨o0, o1, o2, o3, o4⟩ := L.O.cells5
      have hneg := fun w => Flo.run_neg (P := Tryd.prog) .f32 0 w
      generalize Op.negFloat .f32 0 = nz at *
      obtain ⟨x1, w5, hq, hx1, d5⟩ := Flo.arith_any (P := Tryd.prog) .mul (by simp) 66 .f32 nz 1065353216 w4
      have L5 := L.drw d5
      obtain ⟨l, rfl⟩ : ∃ l, n = l + 1 := ⟨n - 1, by omega⟩
      obtain ⟨⟨q, k0⟩, k1⟩ := cellS L5.T (j := l) (by omega)
      have L2 := L5.setS l hx1
      obtain ⟨o0', o1', o2', o3', o4'⟩ := L2.O.cells5
      obtain ⟨z0, z1, z2, z3, z4⟩ := L2.R.cells5
      obtain ⟨f0, f1, f2, f3, f4⟩ := L2.R.free5
      have HL2 := Lib.hid L2
      clear L L2 L5 d5
      go_wp2
      have HS := HL2.out.shut (.complex .f32 3212836864 3212836864) (.int .i64 2) (.int .i64 2) (.slice (some ⟨gs, 0, none⟩) (l + 1) cs) (.slice (some ⟨gm, 0, none⟩) (l + 1) cm) (show p1 + 1 ≤ p + 24 by omega)
      exact bodyPost_ret (v := .agg #[.complex .f32 3212836864 3212836864, .int .i64 2, .int .i64 2, .slice (some ⟨gs, 0, none⟩) (l + 1) cs, .slice (some ⟨gm, 0, none⟩) (l + 1) cm]) (by simp [results, Tryd.f17, go_sem, z0, z1, z2, z3, z4]) rfl ⟨TileOut.rows HS.1 hcx hcy HP.out HNN.out hcs hcm, HS.2⟩
    by_cases c4 : r = 4
    · subst c4
      obtain ⟨o0, o1, o2, o3, o4⟩ := L.O.cells5
      have LD := L.drw (Drw.refl _).drew
      go_wp2_with fail
      go_region_with (first
        | (go_at_call 18
           refine (pick_any w0 b (p1 + 1) 3 (by omega) (by omega) _ LD.D).mono ?_
           rintro e w5 ⟨⟨u, rfl, u0, u1⟩, hD, hO⟩
           have L5 := LD.pick hO hD
           have u3 : u < 3 := by omega
           clear u1
           have hwr : IntKind.i64.wrap (u - 1) = u - 1 := IntWalk.i64_in _ (by omega)
           obtain ⟨-, -, -, -, o4'⟩ := L5.O.cells5
           obtain ⟨⟨q, k0⟩, k1⟩ := cellM L5.T (j := 0) hn0
           have L2 := L5.setM 0 (u := u - 1) (by omega)
           clear hD hO))
      all_goals
        obtain ⟨o0', o1', o2', o3', o4''⟩ := L2.O.cells5
        obtain ⟨z0, z1, z2, z3, z4⟩ := L2.R.cells5
        obtain ⟨f0, f1, f2, f3, f4⟩ := L2.R.free5
        have HL2 := Lib.hid L2
        clear L L2 L5 LD k0 k1
        go_wp2
        have HS := HL2.out.shut (.complex .f32 3212836864 3212836864) (.int .i64 2) (.int .i64 2) (.slice (some ⟨gs, 0, none⟩) n cs) (.slice (some ⟨gm, 0, none⟩) n cm) (show p1 + 1 + 1 ≤ p + 24 by omega)
        exact bodyPost_ret (v := .agg #[.complex .f32 3212836864 3212836864, .int .i64 2, .int .i64 2, .slice (some ⟨gs, 0, none⟩) n cs, .slice (some ⟨gm, 0, none⟩) n cm]) (by simp [results, Tryd.f17, go_sem, z0, z1, z2, z3, z4]) rfl ⟨TileOut.rows HS.1 hcx hcy HP.out HNN.out hcs hcm, HS.2⟩
    have g0 : (r == 0) = false := by simpa using c0
    have g1 : (r == 1) = false := by simpa using c1
    have g2 : (r == 2) = false := by simpa using c2
    have g3 : (r == 3) = false := by simpa using c3
    have g4 : (r == 4) = false := by simpa using c4
    obtain ⟨o0, o1, o2, o3, o4⟩ := L.O.cells5
    obtain ⟨z0, z1, z2, z3, z4⟩ := L.R.cells5
    obtain ⟨f0, f1, f2, f3, f4⟩ := L.R.free5
    have HL2 := Lib.hid L
    clear L
    go_wp2
    have HS := HL2.out.shut (.complex .f32 3212836864 3212836864) (.int .i64 2) (.int .i64 2) (.slice (some ⟨gs, 0, none⟩) n cs) (.slice (some ⟨gm, 0, none⟩) n cm) (show p1 + 1 ≤ p + 24 by omega)
    exact bodyPost_ret (v := .agg #[.complex .f32 3212836864 3212836864, .int .i64 2, .int .i64 2, .slice (some ⟨gs, 0, none⟩) n cs, .slice (some ⟨gm, 0, none⟩) n cm]) (by simp [results, Tryd.f17, go_sem, z0, z1, z2, z3, z4]) rfl ⟨TileOut.rows HS.1 hcx hcy HP.out HNN.out hcs hcm, HS.2⟩
  · unfold tileV
    have hn : 0 < s.toNat * s.toNat := by
      have := placeB_bd hpl
      exact Nat.mul_pos (by omega) (by omega)
    obtain ⟨gs, cs, rfl, -, hcs⟩ := ownsRow_form hM.S hn
    obtain ⟨gm, cm, rfl, -, hcm⟩ := ownsRow_form hM.M hn
    obtain ⟨n, hNN⟩ : ∃ n, s.toNat * s.toNat = n := ⟨_, rfl⟩
    rw [hNN] at hM hcs hcm hn ⊢
    have HNN : Hid (n = s.toNat * s.toNat) := hNN.symm
    have HP := Lib.hid hpl
    have hn0 : 0 < n := hn
    have hn64 : n ≤ 64 := by
      have := placeB_bd hpl
      rw [HNN.out]
      exact Nat.mul_le_mul (show s.toNat ≤ 8 by omega) (show s.toNat ≤ 8 by omega)
    have hcx := hx
    have hcy := hy
    have hs2 : W.heap.size + 1 ≤ w2.heap.size := by have := hbl.size; omega
    have hne : W.heap.size ≠ w2.heap.size := by omega
    have T := (hM.mono (B' := W.heap.size) (by omega)).rows
    have L : LT w0 W b W.heap.size w2.heap.size n gs cs gm cm x y p1 d s xs ys (w2.alloc (.cells #[.complex .f32 x y, .int .i64 d, .int .i64 s, .slice (some ⟨gs, 0, none⟩) n cs, .slice (some ⟨gm, 0, none⟩) n cm] 27)) :=
      ⟨(Box.new w2 _ _).up (HR1.out.step hbl).below, (R.step hbl).alloc _, T.alloc _, (HR1.out.step hbl).step ((Below.refl _ _).alloc (Nat.le_refl _) _), (K.out.trans (Only.of_below hbl)).allocb _, hne, hb0, hb1, Nat.le_refl _, by omega, hw⟩
    have HL := Lib.hid L
    clear hM hNN hpl hn T L R HR1 K hbl
    go_wp2_with fail
    refine (pick_any w0 b p1 16 (by omega) (by omega) _ HL.out.D).mono ?_
    rintro e w4 ⟨⟨r, rfl, r0, r1⟩, hD, hO⟩
    have L := HL.out.pick hO hD
    clear hO hD HL
    have hs := L.T.S.lt gs rfl
    by_cases c0 : r = 0
    · subst c0
      obtain ⟨o0, o1, o2, o3, o4⟩ := L.O.cells5
      obtain ⟨⟨q, k0⟩, k1⟩ := cellM L.T (j := 0) hn0
      have L2 := L.setM 0 (u := 2) (by omega)
      obtain ⟨o0', o1', o2', o3', o4'⟩ := L2.O.cells5
      obtain ⟨z0, z1, z2, z3, z4⟩ := L2.R.cells5
      obtain ⟨f0, f1, f2, f3, f4⟩ := L2.R.free5
      have HL2 := Lib.hid L2
      clear L L2
      go_wp2
      have HS := HL2.out.shut (.complex .f32 x y) (.int .i64 d) (.int .i64 s) (.slice (some ⟨gs, 0, none⟩) n cs) (.slice (some ⟨gm, 0, none⟩) n cm) (show p1 + 1 ≤ p + 24 by omega)
      exact bodyPost_ret (v := .agg #[.complex .f32 x y, .int .i64 d, .int .i64 s, .slice (some ⟨gs, 0, none⟩) n cs, .slice (some ⟨gm, 0, none⟩) n cm]) (by simp [results, Tryd.f17, go_sem, z0, z1, z2, z3, z4]) rfl ⟨TileOut.rows HS.1 hcx hcy HP.out HNN.out hcs hcm, HS.2⟩
    by_cases c1 : r = 1
    · subst c1
      obtain ⟨o0, o1, o2, o3, o4⟩ := L.O.cells5
      have g3 := L.O.frozen 3
      obtain ⟨z0, z1, z2, z3, z4⟩ := L.R.cells5
      obtain ⟨f0, f1, f2, f3, f4⟩ := L.R.free5
      have hne := L.ne
      obtain ⟨l, rfl⟩ : ∃ l, n = l + 1 := ⟨n - 1, by omega⟩
      obtain ⟨c, rfl⟩ : ∃ c, cs = c + 1 := ⟨cs - 1, by omega⟩
      have HL2 := Lib.hid L
      clear L
      by_cases hc : c = 0
      · obtain rfl : l = 0 := by omega
        subst hc
        go_wp2
        have HS := HL2.out.shutT (.slice (some ⟨gs, 0, none⟩) 0 0) (.complex .f32 x y) (.int .i64 d) (.int .i64 s) (.slice (some ⟨gs, 0, none⟩) 0 0) (.slice (some ⟨gm, 0, none⟩) (0 + 1) cm) (show p1 + 1 ≤ p + 24 by omega)
        exact bodyPost_ret (v := .agg #[.complex .f32 x y, .int .i64 d, .int .i64 s, .slice (some ⟨gs, 0, none⟩) 0 0, .slice (some ⟨gm, 0, none⟩) (0 + 1) cm]) (by simp [results, Tryd.f17, go_sem, z0, z1, z2, z3, z4]) rfl ⟨TileOut.tail HS.1 hcx hcy HP.out HNN.out hcs hcm rfl rfl (.inl ⟨rfl, rfl⟩), HS.2⟩
      · go_wp2
        have HS := HL2.out.shutT (.slice (some ⟨gs, 1, none⟩) l c) (.complex .f32 x y) (.int .i64 d) (.int .i64 s) (.slice (some ⟨gs, 1, none⟩) l c) (.slice (some ⟨gm, 0, none⟩) (l + 1) cm) (show p1 + 1 ≤ p + 24 by omega)
        exact bodyPost_ret (v := .agg #[.complex .f32 x y, .int .i64 d, .int .i64 s, .slice (some ⟨gs, 1, none⟩) l c, .slice (some ⟨gm, 0, none⟩) (l + 1) cm]) (by simp [results, Tryd.f17, go_sem, z0, z1, z2, z3, z4]) rfl ⟨TileOut.tail HS.1 hcx hcy HP.out HNN.out hcs hcm rfl rfl (.inr rfl), HS.2⟩
    by_cases c2 : r = 2
    · subst c2
      obtain ⟨o0, o1, o2, o3, o4⟩ := L.O.cells5
      obtain ⟨x1, w5, hq, hx1, d5⟩ := Flo.arith_any (P := Tryd.prog) .quo (by simp) 66 .f32 0 0 w4
      have L5 := L.drw d5
      obtain ⟨⟨q, k0⟩, k1⟩ := cellS L5.T (j := 0) hn0
      have L2 := L5.setS 0 hx1
      obtain ⟨o0', o1', o2', o3', o4'⟩ := L2.O.cells5
      obtain ⟨z0, z1, z2, z3, z4⟩ := L2.R.cells5
      obtain ⟨f0, f1, f2, f3, f4⟩ := L2.R.free5
      have HL2 := Lib.hid L2
      clear L L2 L5 d5
      go_wp2
      have HS := HL2.out.shut (.complex .f32 x y) (.int .i64 d) (.int .i64 s) (.slice (some ⟨gs, 0, none⟩) n cs) (.slice (some ⟨gm, 0, none⟩) n cm) (show p1 + 1 ≤ p + 24 by omega)
      exact bodyPost_ret (v := .agg #[.complex .f32 x y, .int .i64 d, .int .i64 s, .slice (some ⟨gs, 0, none⟩) n cs, .slice (some ⟨gm, 0, none⟩) n cm]) (by simp [results, Tryd.f17, go_sem, z0, z1, z2, z3, z4]) rfl ⟨TileOut.rows HS.1 hcx hcy HP.out HNN.out hcs hcm, HS.2⟩
    by_cases c3 : r = 3
    · subst c3
      obtain ⟨o0, o1, o2, o3, o4⟩ := L.O.cells5
      have hneg := fun w => Flo.run_neg (P := Tryd.prog) .f32 0 w
      generalize Op.negFloat .f32 0 = nz at *
      obtain ⟨x1, w5, hq, hx1, d5⟩ := Flo.arith_any (P := Tryd.prog) .mul (by simp) 66 .f32 nz 1065353216 w4
      have L5 := L.drw d5
      obtain ⟨l, rfl⟩ : ∃ l, n = l + 1 := ⟨n - 1, by omega⟩
      obtain ⟨⟨q, k0⟩, k1⟩ := cellS L5.T (j := l) (by omega)
      have L2 := L5.setS l hx1
      obtain ⟨o0', o1', o2', o3', o4'⟩ := L2.O.cells5
      obtain ⟨z0, z1, z2, z3, z4⟩ := L2.R.cells5
      obtain ⟨f0, f1, f2, f3, f4⟩ := L2.R.free5
      have HL2 := Lib.hid L2
      clear L L2 L5 d5
      go_wp2
      have HS := HL2.out.shut (.complex .f32 x y) (.int .i64 d) (.int .i64 s) (.slice (some ⟨gs, 0, none⟩) (l + 1) cs) (.slice (some ⟨gm, 0, none⟩) (l + 1) cm) (show p1 + 1 ≤ p + 24 by omega)
      exact bodyPost_ret (v := .agg #[.complex .f32 x y, .int .i64 d, .int .i64 s, .slice (some ⟨gs, 0, none⟩) (l + 1) cs, .slice (some ⟨gm, 0, none⟩) (l + 1) cm]) (by simp [results, Tryd.f17, go_sem, z0, z1, z2, z3, z4]) rfl ⟨TileOut.rows HS.1 hcx hcy HP.out HNN.out hcs hcm, HS.2⟩
    by_cases c4 : r = 4
    · subst c4
      obtain ⟨o0, o1, o2, o3, o4⟩ := L.O.cells5
      have LD := L.drw (Drw.refl _).drew
      go_wp2_with fail
      go_region_with (first
        | (go_at_call 18
           refine (pick_any w0 b (p1 + 1) 3 (by omega) (by omega) _ LD.D).mono ?_
           rintro e w5 ⟨⟨u, rfl, u0, u1⟩, hD, hO⟩
           have L5 := LD.pick hO hD
           have u3 : u < 3 := by omega
           clear u1
           have hwr : IntKind.i64.wrap (u - 1) = u - 1 := IntWalk.i64_in _ (by omega)
           obtain ⟨-, -, -, -, o4'⟩ := L5.O.cells5
           obtain ⟨⟨q, k0⟩, k1⟩ := cellM L5.T (j := 0) hn0
           have L2 := L5.setM 0 (u := u - 1) (by omega)
           clear hD hO))
      all_goals
        obtain ⟨o0', o1', o2', o3', o4''⟩ := L2.O.cells5
        obtain ⟨z0, z1, z2, z3, z4⟩ := L2.R.cells5
        obtain ⟨f0, f1, f2, f3, f4⟩ := L2.R.free5
        have HL2 := Lib.hid L2
        clear L L2 L5 LD k0 k1
        go_wp2
        have HS := HL2.out.shut (.complex .f32 x y) (.int .i64 d) (.int .i64 s) (.slice (some ⟨gs, 0, none⟩) n cs) (.slice (some ⟨gm, 0, none⟩) n cm) (show p1 + 1 + 1 ≤ p + 24 by omega)
        exact bodyPost_ret (v := .agg #[.complex .f32 x y, .int .i64 d, .int .i64 s, .slice (some ⟨gs, 0, none⟩) n cs, .slice (some ⟨gm, 0, none⟩) n cm]) (by simp [results, Tryd.f17, go_sem, z0, z1, z2, z3, z4]) rfl ⟨TileOut.rows HS.1 hcx hcy HP.out HNN.out hcs hcm, HS.2⟩
    have g0 : (r == 0) = false := by simpa using c0
    have g1 : (r == 1) = false := by simpa using c1
    have g2 : (r == 2) = false := by simpa using c2
    have g3 : (r == 3) = false := by simpa using c3
    have g4 : (r == 4) = false := by simpa using c4
    obtain ⟨o0, o1, o2, o3, o4⟩ := L.O.cells5
    obtain ⟨z0, z1, z2, z3, z4⟩ := L.R.cells5
    obtain ⟨f0, f1, f2, f3, f4⟩ := L.R.free5
    have HL2 := Lib.hid L
    clear L
    go_wp2
    have HS := HL2.out.shut (.complex .f32 x y) (.int .i64 d) (.int .i64 s) (.slice (some ⟨gs, 0, none⟩) n cs) (.slice (some ⟨gm, 0, none⟩) n cm) (show p1 + 1 ≤ p + 24 by omega)
    exact bodyPost_ret (v := .agg #[.complex .f32 x y, .int .i64 d, .int .i64 s, .slice (some ⟨gs, 0, none⟩) n cs, .slice (some ⟨gm, 0, none⟩) n cm]) (by simp [results, Tryd.f17, go_sem, z0, z1, z2, z3, z4]) rfl ⟨TileOut.rows HS.1 hcx hcy HP.out HNN.out hcs hcm, HS.2⟩
end Go.Proofs.YtdfoobemgdiobaaDoor
