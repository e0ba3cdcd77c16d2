/- Merged texts: TilL, TilN, TilH. -/
import Derived.Test.YtalmhbcmagjheaaJ6
import Derived.Deep.RegionWith
import Derived.Deep.Cut
section
/- Walk of what draws tiles. -/
namespace Go.Proofs.Ytalmhbcmagjheaa
open Go.RowKit
attribute [local go_sem ↓] Go.wp_at_zero Go.wp_at_succ
attribute [local go_sem] run_store_float run_store_complex

theorem TileRet.weak {w : World} {cx cy : Nat} {deep size : Int} {good : Prop} {e : Ending} {w' : World} (h : TileRet w cx cy deep size good e w') : TileRet w cx cy deep size False e w' := by
  obtain ⟨hb, h | h⟩ := h
  · exact ⟨hb, .inl ⟨fun h => h, h.2⟩⟩
  · exact ⟨hb, .inr h⟩
theorem tileMake_any (cx cy : Nat) (deep size most : Int) (hx : cx < 4294967296) (hy : cy < 4294967296) (w : World) :
    Calls Try.prog 39 #[.complex .f32 cx cy, .int .i64 deep, .int .i64 size, .int .i64 most] w (TileRet w cx cy deep size False) := by
  refine (tileMake_gen False cx cy deep size most hx hy ?_ w).mono fun e w' h => h.weak
  intro d s _ _ hd _ _ i j _ _ W
  refine (l7Box_any cx cy d i j (by omega) W).mono ?_
  rintro e w' ⟨⟨p, q, r, u, t, rfl⟩, hb⟩
  exact ⟨⟨p, q, r, u, t, rfl, fun h => h.elim⟩, hb⟩
theorem tileMake_ok (most : Int) (w : World) :
    Calls Try.prog 39 #[.complex .f32 3212836864 3212836864, .int .i64 2, .int .i64 2, .int .i64 most] w (TileRet w 3212836864 3212836864 2 2 True) := by
  have hp : placeB 3212836864 3212836864 2 2 = true := by
    have h1 : Flo.wholeB 3212836864 2 = true := by decide +kernel
    unfold placeB
    rw [show (2 : Int).toNat = 2 by rfl, h1]
    decide
  have hv : Flo.Pt 3212836864 2 (-4) := by
    refine ⟨by decide, by unfold Flo.fin; decide, ?_⟩
    decide +kernel
  refine (tileMake_gen True 3212836864 3212836864 2 2 most (by decide) (by decide) ?_ w).mono fun e w' h => ?_
  · intro d s hd hs _ _ _ i j hi hj W
    obtain rfl : d = 2 := by omega
    obtain rfl : s = 2 := by omega
    refine (l7Box_val 3212836864 3212836864 2 i j (-4) (-4) ((-4 + j) * 4194304) ((-4 + i) * 4194304) 4194304 (by omega) hv hv (by omega) (by omega) (by omega) (by omega) rfl rfl rfl (by omega) (by omega) (by omega) (by omega) W).mono ?_
    rintro e w' ⟨rfl, hb⟩
    exact ⟨⟨_, _, _, _, _, rfl, fun _ => rfl⟩, hb⟩
  · obtain ⟨hb, h | h⟩ := h
    · exact absurd ⟨trivial, hp⟩ h.1
    · exact ⟨hb, .inr h⟩
theorem Only.allocb {b : Nat} {u v : World} (h : Only b u v) (o : Obj) : Only b u (v.alloc o) := h.trans (Only.of_below ((Below.refl _ _).alloc (Nat.le_refl _) o))
theorem Only.farb {b : Nat} {u v : World} (h : Only b u v) {p : Addr} (hp : u.heap.size ≤ p.block) (x : Value) : Only b u (v.setCell p x) :=
  ⟨h.os, h.tape, h.output, by rw [size_set]; exact h.size, fun k hk hne => (Below.heap_setCell v p x k (by omega)).trans (h.block k hk hne)⟩
theorem Box.onlyb {w0 W W' : World} {b b' : Nat} {C : Array Value} {T : TypeId} (h : Box w0 b' C T W) (k : Only b W W') (hne : b' ≠ b) (hb : w0.heap.size ≤ b) : Box w0 b' C T W' :=
  ⟨(k.block b' h.lt hne).trans h.blk, h.old.trans (k.below _ h.old.size hb)⟩
theorem Rd.ownb {w0 : World} {b p : Nat} {W : World} (h : Rd w0 b p W) : w0.heap.size ≤ b ∧ b < W.heap.size := by
  obtain ⟨_, _, _, h, _, h2, _⟩ := h; exact ⟨h2, h.lt⟩
theorem Rd.otherb {w0 : World} {b q : Nat} {W : World} (h : Rd w0 b q W) {p : Addr} (hp : w0.heap.size ≤ p.block) (hne : b ≠ p.block) (v : Value) : Rd w0 b q (W.setCell p v) := by
  obtain ⟨a, c, bs, h, r⟩ := h; exact ⟨a, c, bs, h.other hp hne v, r⟩
theorem ownsRow_only {w w' : World} {base : Nat} {e : TypeId} {size : Nat} {v : Value} {n : Nat} {xs : List Value} {b : Nat} (h : w.ownsRow base e size v n xs) (k : Only b w w') (hb : b < base) : w'.ownsRow base e size v n xs :=
  h.kept (row := some b) ⟨k.os, k.tape, k.output, k.size, fun i hi hne => k.block i hi (fun e => hne (by rw [e]))⟩ (by
    cases hv : v.ownBlock with
    | none => exact .inl rfl
    | some q => right; intro he; injection he with he; have := (h.lt q hv).1; omega)
theorem TRows.only {B n m : Nat} {xs : List Nat} {ys : List Int} {smv mkv : Value} {W W' : World} {b : Nat} (h : TRows B n m xs ys smv mkv W) (k : Only b W W') (hb : b < B) : TRows B n m xs ys smv mkv W' :=
  ⟨ownsRow_only h.S k hb, ownsRow_only h.M k hb, h.hx, h.hy⟩
/-- behind the making: the drawn tile's box, the result's box, the reader -/
structure LT (w0 W0 : World) (b rb ob n gs cs gm cm cx cy p : Nat) (deep size : Int) (xs : List Nat) (ys : List Int) (W : World) : Prop where
  O : Box w0 ob #[.complex .f32 cx cy, .int .i64 deep, .int .i64 size, .slice (some ⟨gs, 0, none⟩) n cs, .slice (some ⟨gm, 0, none⟩) n cm] 37 W
  R : Box w0 rb #[.complex .f32 0 0, .int .i64 0, .int .i64 0, .slice none 0 0, .slice none 0 0] 37 W
  T : TRows W0.heap.size n n xs ys (.slice (some ⟨gs, 0, none⟩) n cs) (.slice (some ⟨gm, 0, none⟩) n cm) W
  D : Rd w0 b p W
  K : Only b W0 W
  ne : rb ≠ ob
  hb : w0.heap.size ≤ b
  hb2 : b < W0.heap.size
  hr : W0.heap.size ≤ rb
  ho : W0.heap.size ≤ ob
  h0 : w0.heap.size ≤ W0.heap.size
theorem LT.pick {w0 W0 : World} {b rb ob n gs cs gm cm cx cy p p' : Nat} {deep size : Int} {xs : List Nat} {ys : List Int} {W W' : World} (h : LT w0 W0 b rb ob n gs cs gm cm cx cy p deep size xs ys W) (k : Only b W W') (hD : Rd w0 b p' W') : LT w0 W0 b rb ob n gs cs gm cm cx cy p' deep size xs ys W' :=
  ⟨h.O.onlyb k (by have := h.ho; have := h.hb2; omega) h.hb, h.R.onlyb k (by have := h.hr; have := h.hb2; omega) h.hb, h.T.only k h.hb2, hD, h.K.trans k, h.ne, h.hb, h.hb2, h.hr, h.ho, h.h0⟩
theorem LT.drw {w0 W0 : World} {b rb ob n gs cs gm cm cx cy p : Nat} {deep size : Int} {xs : List Nat} {ys : List Int} {W W' : World} (h : LT w0 W0 b rb ob n gs cs gm cm cx cy p deep size xs ys W) (k : Drw W W') : LT w0 W0 b rb ob n gs cs gm cm cx cy p deep size xs ys W' :=
  h.pick (Only.of_below (k.below _)) (h.D.drw k)
theorem LT.setM {w0 W0 : World} {b rb ob n gs cs gm cm cx cy p : Nat} {deep size : Int} {xs : List Nat} {ys : List Int} {W : World} (h : LT w0 W0 b rb ob n gs cs gm cm cx cy p deep size xs ys W) (j : Nat) {u : Int} (hu : -1 ≤ u ∧ u ≤ 2) : LT w0 W0 b rb ob n gs cs gm cm cx cy p deep size xs (ys.set j u) (W.setCell ⟨gm, j, none⟩ (.int .i64 u)) := by
  have n1 := ownsRow_ne h.T.M h.O.blk (by decide)
  have n2 := ownsRow_ne h.T.M h.R.blk (by decide)
  have hg := (h.T.M.lt gm rfl).1
  have hbb := h.hb2
  have h00 := h.h0
  simp only [Value.ownBlock, ne_eq, Option.some.injEq] at n1 n2
  exact ⟨h.O.other (p := ⟨gm, j, none⟩) (by simp; omega) (fun e => n1 e.symm) _, h.R.other (p := ⟨gm, j, none⟩) (by simp; omega) (fun e => n2 e.symm) _, h.T.setM j hu, h.D.otherb (p := ⟨gm, j, none⟩) (by simp; omega) (by simp; omega) _, h.K.farb (p := ⟨gm, j, none⟩) hg _, h.ne, h.hb, h.hb2, h.hr, h.ho, h.h0⟩
theorem LT.setS {w0 W0 : World} {b rb ob n gs cs gm cm cx cy p : Nat} {deep size : Int} {xs : List Nat} {ys : List Int} {W : World} (h : LT w0 W0 b rb ob n gs cs gm cm cx cy p deep size xs ys W) (j : Nat) {u : Nat} (hu : u < 4294967296) : LT w0 W0 b rb ob n gs cs gm cm cx cy p deep size (xs.set j u) ys (W.setCell ⟨gs, j, none⟩ (.float .f32 u)) := by
  have n1 := ownsRow_ne h.T.S h.O.blk (by decide)
  have n2 := ownsRow_ne h.T.S h.R.blk (by decide)
  have hg := (h.T.S.lt gs rfl).1
  have hbb := h.hb2
  have h00 := h.h0
  simp only [Value.ownBlock, ne_eq, Option.some.injEq] at n1 n2
  exact ⟨h.O.other (p := ⟨gs, j, none⟩) (by simp; omega) (fun e => n1 e.symm) _, h.R.other (p := ⟨gs, j, none⟩) (by simp; omega) (fun e => n2 e.symm) _, h.T.setS j hu, h.D.otherb (p := ⟨gs, j, none⟩) (by simp; omega) (by simp; omega) _, h.K.farb (p := ⟨gs, j, none⟩) hg _, h.ne, h.hb, h.hb2, h.hr, h.ho, h.h0⟩
/-- what the result's box holds at last -/
theorem LT.shut {w0 W0 : World} {b rb ob n gs cs gm cm cx cy p : Nat} {deep size : Int} {xs : List Nat} {ys : List Int} {W : World} (h : LT w0 W0 b rb ob n gs cs gm cm cx cy p deep size xs ys W) (u0 u1 u2 u3 u4 : Value) {P : Nat} (hP : p ≤ P) :
    TRows W0.heap.size n n xs ys (.slice (some ⟨gs, 0, none⟩) n cs) (.slice (some ⟨gm, 0, none⟩) n cm) (((((W.setCell ⟨rb, 0, none⟩ u0).setCell ⟨rb, 1, none⟩ u1).setCell ⟨rb, 2, none⟩ u2).setCell ⟨rb, 3, none⟩ u3).setCell ⟨rb, 4, none⟩ u4) ∧
    (∃ p', p' ≤ P ∧ Rd w0 b p' (((((W.setCell ⟨rb, 0, none⟩ u0).setCell ⟨rb, 1, none⟩ u1).setCell ⟨rb, 2, none⟩ u2).setCell ⟨rb, 3, none⟩ u3).setCell ⟨rb, 4, none⟩ u4)) ∧
    Only b W0 (((((W.setCell ⟨rb, 0, none⟩ u0).setCell ⟨rb, 1, none⟩ u1).setCell ⟨rb, 2, none⟩ u2).setCell ⟨rb, 3, none⟩ u3).setCell ⟨rb, 4, none⟩ u4) := by
  have hr := h.hr
  have h00 := h.h0
  have hbb := h.hb2
  refine ⟨h.T.box5 h.R (by omega) u0 u1 u2 u3 u4, ⟨p, hP, ?_⟩, ?_⟩
  · exact ((((h.D.otherb (p := ⟨rb, 0, none⟩) (by simp; omega) (by simp; omega) _).otherb (p := ⟨rb, 1, none⟩) (by simp; omega) (by simp; omega) _).otherb (p := ⟨rb, 2, none⟩) (by simp; omega) (by simp; omega) _).otherb (p := ⟨rb, 3, none⟩) (by simp; omega) (by simp; omega) _).otherb (p := ⟨rb, 4, none⟩) (by simp; omega) (by simp; omega) _
  · exact ((((h.K.farb (p := ⟨rb, 0, none⟩) hr _).farb (p := ⟨rb, 1, none⟩) hr _).farb (p := ⟨rb, 2, none⟩) hr _).farb (p := ⟨rb, 3, none⟩) hr _).farb (p := ⟨rb, 4, none⟩) hr _
end Go.Proofs.Ytalmhbcmagjheaa
end

section
/- Walk of what draws tiles: l92Tile. (printed by wip/gen_l92tile.py) -/
namespace Go.Proofs.Ytalmhbcmagjheaa
open Go.RowKit
attribute [local go_sem ↓] Go.wp_at_zero Go.wp_at_succ
attribute [local go_sem] run_store_float run_store_complex

/-- the same where the drawn tile has lost its first smooth value -/
theorem LT.shutT {w0 W0 : World} {b rb ob n gs cs gm cm cx cy p : Nat} {deep size : Int} {xs : List Nat} {ys : List Int} {W : World} (h : LT w0 W0 b rb ob n gs cs gm cm cx cy p deep size xs ys W) (v u0 u1 u2 u3 u4 : Value) {P : Nat} (hP : p ≤ P) :
    TRows W0.heap.size n n xs ys (.slice (some ⟨gs, 0, none⟩) n cs) (.slice (some ⟨gm, 0, none⟩) n cm) ((((((W.setCell ⟨ob, 3, none⟩ v).setCell ⟨rb, 0, none⟩ u0).setCell ⟨rb, 1, none⟩ u1).setCell ⟨rb, 2, none⟩ u2).setCell ⟨rb, 3, none⟩ u3).setCell ⟨rb, 4, none⟩ u4) ∧
    (∃ p', p' ≤ P ∧ Rd w0 b p' ((((((W.setCell ⟨ob, 3, none⟩ v).setCell ⟨rb, 0, none⟩ u0).setCell ⟨rb, 1, none⟩ u1).setCell ⟨rb, 2, none⟩ u2).setCell ⟨rb, 3, none⟩ u3).setCell ⟨rb, 4, none⟩ u4)) ∧
    Only b W0 ((((((W.setCell ⟨ob, 3, none⟩ v).setCell ⟨rb, 0, none⟩ u0).setCell ⟨rb, 1, none⟩ u1).setCell ⟨rb, 2, none⟩ u2).setCell ⟨rb, 3, none⟩ u3).setCell ⟨rb, 4, none⟩ u4) := by
  have hr := h.hr
  have ho := h.ho
  have h00 := h.h0
  have hbb := h.hb2
  have R := h.R.other (p := ⟨ob, 3, none⟩) (by simp; omega) h.ne v
  have T := h.T.box h.O 3 v
  have D := h.D.otherb (p := ⟨ob, 3, none⟩) (by simp; omega) (by simp; omega) v
  have K := h.K.farb (p := ⟨ob, 3, none⟩) ho v
  refine ⟨T.box5 R (by omega) u0 u1 u2 u3 u4, ⟨p, hP, ?_⟩, ?_⟩
  · exact ((((D.otherb (p := ⟨rb, 0, none⟩) (by simp; omega) (by simp; omega) _).otherb (p := ⟨rb, 1, none⟩) (by simp; omega) (by simp; omega) _).otherb (p := ⟨rb, 2, none⟩) (by simp; omega) (by simp; omega) _).otherb (p := ⟨rb, 3, none⟩) (by simp; omega) (by simp; omega) _).otherb (p := ⟨rb, 4, none⟩) (by simp; omega) (by simp; omega) _
  · exact ((((K.farb (p := ⟨rb, 0, none⟩) hr _).farb (p := ⟨rb, 1, none⟩) hr _).farb (p := ⟨rb, 2, none⟩) hr _).farb (p := ⟨rb, 3, none⟩) hr _).farb (p := ⟨rb, 4, none⟩) hr _
set_option maxRecDepth 100000 in
set_option maxHeartbeats 16000000 in
theorem l92Tile_own (w0 : World) (b p : Nat) (hp : p ≤ 1000000) (W : World) (h : Rd w0 b p W) :
    Calls Try.prog 24 #[.pointer (some ⟨b, 0, none⟩)] W fun e w' => TileOut W.heap.size e w' ∧ (∃ p', p' ≤ p + 24 ∧ Rd w0 b p' w') ∧ Only b W w' := by
  obtain ⟨hb0, hb1⟩ := h.ownb
  have R := (Box.new W #[.complex .f32 0 0, .int .i64 0, .int .i64 0, .slice none 0 0, .slice none 0 0] 37).up h.below
  have HR := Lib.hid (h.step ((Below.refl _ _).alloc (Nat.le_refl _) (.cells #[.complex .f32 0 0, .int .i64 0, .int .i64 0, .slice none 0 0, .slice none 0 0] 37)))
  have hw : w0.heap.size ≤ W.heap.size := h.below.size
  clear h
  go_enter Try.func24, Try.ntmps24
  go_wp2_with fail
  refine (place_any w0 b p (by omega) _ HR.out).mono ?_
  rintro e w1 ⟨⟨x, y, d, s, m, rfl, hx, hy, m0, m1⟩, ⟨p1, hp1, hD⟩, hO⟩
  replace R := R.onlyb hO (by omega) hb0
  have K := Lib.hid (((Only.refl b W).allocb (.cells #[.complex .f32 0 0, .int .i64 0, .int .i64 0, .slice none 0 0, .slice none 0 0] 37)).trans hO)
  have HR1 := Lib.hid hD
  have hs1 : W.heap.size + 1 ≤ w1.heap.size := by have := hO.size; simpa using this
  clear hO HR hD
  go_wp2_with fail
  refine (tileMake_any x y d s m hx hy _).mono ?_
  rintro e w2 ⟨hbl, h | ⟨hpl, xs, ys, smv, mkv, rfl, hM⟩⟩
  · obtain ⟨-, rfl⟩ := h
    unfold tileV
    replace R := (R.step hbl).alloc (.cells #[.complex .f32 0 0, .int .i64 0, .int .i64 0, .slice none 0 0, .slice none 0 0] 37)
    have O := (Box.new w2 #[.complex .f32 0 0, .int .i64 0, .int .i64 0, .slice none 0 0, .slice none 0 0] 37).up (HR1.out.step hbl).below
    have HD := Lib.hid ((HR1.out.step hbl).step ((Below.refl _ _).alloc (Nat.le_refl _) (.cells #[.complex .f32 0 0, .int .i64 0, .int .i64 0, .slice none 0 0, .slice none 0 0] 37)))
    have HK := Lib.hid ((K.out.trans (Only.of_below hbl)).allocb (.cells #[.complex .f32 0 0, .int .i64 0, .int .i64 0, .slice none 0 0, .slice none 0 0] 37))
    have hs2 : W.heap.size + 1 ≤ w2.heap.size := by have := hbl.size; omega
    clear hbl HR1 K
    go_wp2_with fail
    refine (tileMake_ok m _).mono ?_
    rintro e w3 ⟨hbl, h | ⟨hpl, xs, ys, smv, mkv, rfl, hM⟩⟩
    · exact absurd trivial h.1
    unfold tileV
    replace R := R.step hbl
    replace O := O.step hbl
    replace HD := Lib.hid (HD.out.step hbl)
    replace HK := Lib.hid (HK.out.trans (Only.of_below hbl))
    have hn : 0 < (2 : Int).toNat * (2 : Int).toNat := by decide
    obtain ⟨gs, cs, rfl, -, hcs⟩ := ownsRow_form hM.S hn
    obtain ⟨gm, cm, rfl, -, hcm⟩ := ownsRow_form hM.M hn
    obtain ⟨n, hNN⟩ : ∃ n, (2 : Int).toNat * (2 : Int).toNat = n := ⟨_, rfl⟩
    rw [hNN] at hM hcs hcm hn ⊢
    have HNN : Hid (n = (2 : Int).toNat * (2 : Int).toNat) := hNN.symm
    have HP := Lib.hid hpl
    have hn0 : 0 < n := hn
    have hn64 : n ≤ 64 := by rw [HNN.out]; decide
    have hcx : 3212836864 < 4294967296 := by decide
    have hcy : 3212836864 < 4294967296 := by decide
    have hne : W.heap.size ≠ w2.heap.size := by omega
    have T := (hM.mono (B' := W.heap.size) (by simp; omega)).rows
    have L : LT w0 W b W.heap.size w2.heap.size n gs cs gm cm 3212836864 3212836864 p1 2 2 xs ys (((((w3.setCell ⟨w2.heap.size, 0, none⟩ (.complex .f32 3212836864 3212836864)).setCell ⟨w2.heap.size, 1, none⟩ (.int .i64 2)).setCell ⟨w2.heap.size, 2, none⟩ (.int .i64 2)).setCell ⟨w2.heap.size, 3, none⟩ (.slice (some ⟨gs, 0, none⟩) n cs)).setCell ⟨w2.heap.size, 4, none⟩ (.slice (some ⟨gm, 0, none⟩) n cm)) := by
      refine ⟨O.set5 (by omega) _ _ _ _ _, ?_, T.box5 O (by omega) _ _ _ _ _, ?_, ?_, hne, hb0, hb1, Nat.le_refl _, by omega, hw⟩
      · exact ((((R.other (p := ⟨w2.heap.size, 0, none⟩) (by simp; omega) hne _).other (p := ⟨w2.heap.size, 1, none⟩) (by simp; omega) hne _).other (p := ⟨w2.heap.size, 2, none⟩) (by simp; omega) hne _).other (p := ⟨w2.heap.size, 3, none⟩) (by simp; omega) hne _).other (p := ⟨w2.heap.size, 4, none⟩) (by simp; omega) hne _
      · exact ((((HD.out.otherb (p := ⟨w2.heap.size, 0, none⟩) (by simp; omega) (by simp; omega) _).otherb (p := ⟨w2.heap.size, 1, none⟩) (by simp; omega) (by simp; omega) _).otherb (p := ⟨w2.heap.size, 2, none⟩) (by simp; omega) (by simp; omega) _).otherb (p := ⟨w2.heap.size, 3, none⟩) (by simp; omega) (by simp; omega) _).otherb (p := ⟨w2.heap.size, 4, none⟩) (by simp; omega) (by simp; omega) _
      · exact ((((HK.out.farb (p := ⟨w2.heap.size, 0, none⟩) (by simp; omega) _).farb (p := ⟨w2.heap.size, 1, none⟩) (by simp; omega) _).farb (p := ⟨w2.heap.size, 2, none⟩) (by simp; omega) _).farb (p := ⟨w2.heap.size, 3, none⟩) (by simp; omega) _).farb (p := ⟨w2.heap.size, 4, none⟩) (by simp; omega) _
    have HL := Lib.hid L
    obtain ⟨o0, o1, o2, o3, o4⟩ := O.cells5
    obtain ⟨g0, g1, g2, g3, g4⟩ := O.free5
    clear hM hNN hpl hn T L O R HD HK hbl
    go_wp2_with fail
    refine (pick_any w0 b p1 16 (by omega) (by omega) _ HL.out.D).mono ?_
    rintro e w4 ⟨⟨r, rfl, r0, r1⟩, hD, hO⟩
    have L := HL.out.pick hO hD
    clear hO hD HL
    have hs := L.T.S.lt gs rfl
    by_cases c0 : r = 0
    · subst c0
      obtain ⟨o0, o1, o2, o3, o4⟩ := L.O.cells5
      obtain ⟨⟨q, k0⟩, k1⟩ := cellM L.T (j := 0) hn0
      have L2 := L.setM 0 (u := 2) (by omega)
      obtain ⟨o0', o1', o2', o3', o4'⟩ := L2.O.cells5
      obtain ⟨z0, z1, z2, z3, z4⟩ := L2.R.cells5
      obtain ⟨f0, f1, f2, f3, f4⟩ := L2.R.free5
      have HL2 := Lib.hid L2
      clear L L2
      go_wp2
      have HS := HL2.out.shut (.complex .f32 3212836864 3212836864) (.int .i64 2) (.int .i64 2) (.slice (some ⟨gs, 0, none⟩) n cs) (.slice (some ⟨gm, 0, none⟩) n cm) (show p1 + 1 ≤ p + 24 by omega)
      exact bodyPost_ret (v := .agg #[.complex .f32 3212836864 3212836864, .int .i64 2, .int .i64 2, .slice (some ⟨gs, 0, none⟩) n cs, .slice (some ⟨gm, 0, none⟩) n cm]) (by simp [results, Try.f24, go_sem, z0, z1, z2, z3, z4]) rfl ⟨TileOut.rows HS.1 hcx hcy HP.out HNN.out hcs hcm, HS.2⟩
    by_cases c1 : r = 1
    · subst c1
      obtain ⟨o0, o1, o2, o3, o4⟩ := L.O.cells5
      have g3 := L.O.frozen 3
      obtain ⟨z0, z1, z2, z3, z4⟩ := L.R.cells5
      obtain ⟨f0, f1, f2, f3, f4⟩ := L.R.free5
      have hne := L.ne
      obtain ⟨l, rfl⟩ : ∃ l, n = l + 1 := ⟨n - 1, by omega⟩
      obtain ⟨c, rfl⟩ : ∃ c, cs = c + 1 := ⟨cs - 1, by omega⟩
      have HL2 := Lib.hid L
      clear L
      by_cases hc : c = 0
      · obtain rfl : l = 0 := by omega
        subst hc
        go_wp2
        have HS := HL2.out.shutT (.slice (some ⟨gs, 0, none⟩) 0 0) (.complex .f32 3212836864 3212836864) (.int .i64 2) (.int .i64 2) (.slice (some ⟨gs, 0, none⟩) 0 0) (.slice (some ⟨gm, 0, none⟩) (0 + 1) cm) (show p1 + 1 ≤ p + 24 by omega)
        exact bodyPost_ret (v := .agg #[.complex .f32 3212836864 3212836864, .int .i64 2, .int .i64 2, .slice (some ⟨gs, 0, none⟩) 0 0, .slice (some ⟨gm, 0, none⟩) (0 + 1) cm]) (by simp [results, Try.f24, go_sem, z0, z1, z2, z3, z4]) rfl ⟨TileOut.tail HS.1 hcx hcy HP.out HNN.out hcs hcm rfl rfl (.inl ⟨rfl, rfl⟩), HS.2⟩
      · go_wp2
        have HS := HL2.out.shutT (.slice (some ⟨gs, 1, none⟩) l c) (.complex .f32 3212836864 3212836864) (.int .i64 2) (.int .i64 2) (.slice (some ⟨gs, 1, none⟩) l c) (.slice (some ⟨gm, 0, none⟩) (l + 1) cm) (show p1 + 1 ≤ p + 24 by omega)
        exact bodyPost_ret (v := .agg #[.complex .f32 3212836864 3212836864, .int .i64 2, .int .i64 2, .slice (some ⟨gs, 1, none⟩) l c, .slice (some ⟨gm, 0, none⟩) (l + 1) cm]) (by simp [results, Try.f24, go_sem, z0, z1, z2, z3, z4]) rfl ⟨TileOut.tail HS.1 hcx hcy HP.out HNN.out hcs hcm rfl rfl (.inr rfl), HS.2⟩
    by_cases c2 : r = 2
    · subst c2
      obtain ⟨o0, o1, o2, o3, o4⟩ := L.O.cells5
      obtain ⟨x1, w5, hq, hx1, d5⟩ := Flo.arith_any (P := Try.prog) .quo (by simp) 41 .f32 0 0 w4
      have L5 := L.drw d5
      obtain ⟨⟨q, k0⟩, k1⟩ := cellS L5.T (j := 0) hn0
      have L2 := L5.setS 0 hx1
      obtain ⟨o0', o1', o2', o3', o4'⟩ := L2.O.cells5
      obtain ⟨z0, z1, z2, z3, z4⟩ := L2.R.cells5
      obtain ⟨f0, f1, f2, f3, f4⟩ := L2.R.free5
      have HL2 := Lib.hid L2
      clear L L2 L5 d5
      go_wp2
      have HS := HL2.out.shut (.complex .f32 3212836864 3212836864) (.int .i64 2) (.int .i64 2) (.slice (some ⟨gs, 0, none⟩) n cs) (.slice (some ⟨gm, 0, none⟩) n cm) (show p1 + 1 ≤ p + 24 by omega)
      exact bodyPost_ret (v := .agg #[.complex .f32 3212836864 3212836864, .int .i64 2, .int .i64 2, .slice (some ⟨gs, 0, none⟩) n cs, .slice (some ⟨gm, 0, none⟩) n cm]) (by simp [results, Try.f24, go_sem, z0, z1, z2, z3, z4]) rfl ⟨TileOut.rows HS.1 hcx hcy HP.out HNN.out hcs hcm, HS.2⟩
    by_cases c3 : r = 3
    · subst c3
      obtain ⟨o0, o1, o2, o3, o4⟩ := L.O.cells5
      have hneg := fun w => Flo.run_neg (P := Try.prog) .f32 0 w
      generalize Op.negFloat .f32 0 = nz at *
      obtain ⟨x1, w5, hq, hx1, d5⟩ := Flo.arith_any (P := Try.prog) .mul (by simp) 41 .f32 nz 1065353216 w4
      have L5 := L.drw d5
      obtain ⟨l, rfl⟩ : ∃ l, n = l + 1 := ⟨n - 1, by omega⟩
      obtain ⟨⟨q, k0⟩, k1⟩ := cellS L5.T (j := l) (by omega)
      have L2 := L5.setS l hx1
      obtain ⟨o0', o1', o2', o3', o4'⟩ := L2.O.cells5
      obtain ⟨z0, z1, z2, z3, z4⟩ := L2.R.cells5
      obtain ⟨f0, f1, f2, f3, f4⟩ := L2.R.free5
      have HL2 := Lib.hid L2
      clear L L2 L5 d5
      go_wp2
      have HS := HL2.out.shut (.complex .f32 3212836864 3212836864) (.int .i64 2) (.int .i64 2) (.slice (some ⟨gs, 0, none⟩) (l + 1) cs) (.slice (some ⟨gm, 0, none⟩) (l + 1) cm) (show p1 + 1 ≤ p + 24 by omega)
      exact bodyPost_ret (v := .agg #[.complex .f32 3212836864 3212836864, .int .i64 2, .int .i64 2, .slice (some ⟨gs, 0, none⟩) (l + 1) cs, .slice (some ⟨gm, 0, none⟩) (l + 1) cm]) (by simp [results, Try.f24, go_sem, z0, z1, z2, z3, z4]) rfl ⟨TileOut.rows HS.1 hcx hcy HP.out HNN.out hcs hcm, HS.2⟩
    by_cases c4 : r = 4
    · subst c4
      obtain ⟨o0, o1, o2, o3, o4⟩ := L.O.cells5
      have LD := L.drw (Drw.refl _).drew
      go_wp2_with fail
      go_region_with (first
        | (go_at_call 26
           refine (pick_any w0 b (p1 + 1) 3 (by omega) (by omega) _ LD.D).mono ?_
           rintro e w5 ⟨⟨u, rfl, u0, u1⟩, hD, hO⟩
           have L5 := LD.pick hO hD
           have u3 : u < 3 := by omega
           clear u1
           have hwr : IntKind.i64.wrap (u - 1) = u - 1 := IntWalk.i64_in _ (by omega)
           obtain ⟨-, -, -, -, o4'⟩ := L5.O.cells5
           obtain ⟨⟨q, k0⟩, k1⟩ := cellM L5.T (j := 0) hn0
           have L2 := L5.setM 0 (u := u - 1) (by omega)
           clear hD hO))
      all_goals
        obtain ⟨o0', o1', o2', o3', o4''⟩ := L2.O.cells5
        obtain ⟨z0, z1, z2, z3, z4⟩ := L2.R.cells5
        obtain ⟨f0, f1, f2, f3, f4⟩ := L2.R.free5
        have HL2 := Lib.hid L2
        clear L L2 L5 LD k0 k1
        go_wp2
        have HS := HL2.out.shut (.complex .f32 3212836864 3212836864) (.int .i64 2) (.int .i64 2) (.slice (some ⟨gs, 0, none⟩) n cs) (.slice (some ⟨gm, 0, none⟩) n cm) (show p1 + 1 + 1 ≤ p + 24 by omega)
        exact bodyPost_ret (v := .agg #[.complex .f32 3212836864 3212836864, .int .i64 2, .int .i64 2, .slice (some ⟨gs, 0, none⟩) n cs, .slice (some ⟨gm, 0, none⟩) n cm]) (by simp [results, Try.f24, go_sem, z0, z1, z2, z3, z4]) rfl ⟨TileOut.rows HS.1 hcx hcy HP.out HNN.out hcs hcm, HS.2⟩
    have g0 : (r == 0) = false := by simpa using c0
    have g1 : (r == 1) = false := by simpa using c1
    have g2 : (r == 2) = false := by simpa using c2
    have g3 : (r == 3) = false := by simpa using c3
    have g4 : (r == 4) = false := by simpa using c4
    obtain ⟨o0, o1, o2, o3, o4⟩ := L.O.cells5
    obtain ⟨z0, z1, z2, z3, z4⟩ := L.R.cells5
    obtain ⟨f0, f1, f2, f3, f4⟩ := L.R.free5
    have HL2 := Lib.hid L
    clear L
    go_wp2
    have HS := HL2.out.shut (.complex .f32 3212836864 3212836864) (.int .i64 2) (.int .i64 2) (.slice (some ⟨gs, 0, none⟩) n cs) (.slice (some ⟨gm, 0, none⟩) n cm) (show p1 + 1 ≤ p + 24 by omega)
    exact bodyPost_ret (v := .agg #[.complex .f32 3212836864 3212836864, .int .i64 2, .int .i64 2, .slice (some ⟨gs, 0, none⟩) n cs, .slice (some ⟨gm, 0, none⟩) n cm]) (by simp [results, Try.f24, go_sem, z0, z1, z2, z3, z4]) rfl ⟨TileOut.rows HS.1 hcx hcy HP.out HNN.out hcs hcm, HS.2⟩
  · unfold tileV
    have hn : 0 < s.toNat * s.toNat := by
      have := placeB_bd hpl
      exact Nat.mul_pos (by omega) (by omega)
    obtain ⟨gs, cs, rfl, -, hcs⟩ := ownsRow_form hM.S hn
    obtain ⟨gm, cm, rfl, -, hcm⟩ := ownsRow_form hM.M hn
    obtain ⟨n, hNN⟩ : ∃ n, s.toNat * s.toNat = n := ⟨_, rfl⟩
    rw [hNN] at hM hcs hcm hn ⊢
    have HNN : Hid (n = s.toNat * s.toNat) := hNN.symm
    have HP := Lib.hid hpl
    have hn0 : 0 < n := hn
    have hn64 : n ≤ 64 := by
      have := placeB_bd hpl
      rw [HNN.out]
      exact Nat.mul_le_mul (show s.toNat ≤ 8 by omega) (show s.toNat ≤ 8 by omega)
    have hcx := hx
    have hcy := hy
    have hs2 : W.heap.size + 1 ≤ w2.heap.size := by have := hbl.size; omega
    have hne : W.heap.size ≠ w2.heap.size := by omega
    have T := (hM.mono (B' := W.heap.size) (by omega)).rows
    have L : LT w0 W b W.heap.size w2.heap.size n gs cs gm cm x y p1 d s xs ys (w2.alloc (.cells #[.complex .f32 x y, .int .i64 d, .int .i64 s, .slice (some ⟨gs, 0, none⟩) n cs, .slice (some ⟨gm, 0, none⟩) n cm] 37)) :=
      ⟨(Box.new w2 _ _).up (HR1.out.step hbl).below, (R.step hbl).alloc _, T.alloc _, (HR1.out.step hbl).step ((Below.refl _ _).alloc (Nat.le_refl _) _), (K.out.trans (Only.of_below hbl)).allocb _, hne, hb0, hb1, Nat.le_refl _, by omega, hw⟩
    have HL := Lib.hid L
    clear hM hNN hpl hn T L R HR1 K hbl
    go_wp2_with fail
    refine (pick_any w0 b p1 16 (by omega) (by omega) _ HL.out.D).mono ?_
    rintro e w4 ⟨⟨r, rfl, r0, r1⟩, hD, hO⟩
    have L := HL.out.pick hO hD
    clear hO hD HL
    have hs := L.T.S.lt gs rfl
    by_cases c0 : r = 0
    · subst c0
      obtain ⟨o0, o1, o2, o3, o4⟩ := L.O.cells5
      obtain ⟨⟨q, k0⟩, k1⟩ := cellM L.T (j := 0) hn0
      have L2 := L.setM 0 (u := 2) (by omega)
      obtain ⟨o0', o1', o2', o3', o4'⟩ := L2.O.cells5
      obtain ⟨z0, z1, z2, z3, z4⟩ := L2.R.cells5
      obtain ⟨f0, f1, f2, f3, f4⟩ := L2.R.free5
      have HL2 := Lib.hid L2
      clear L L2
      go_wp2
      have HS := HL2.out.shut (.complex .f32 x y) (.int .i64 d) (.int .i64 s) (.slice (some ⟨gs, 0, none⟩) n cs) (.slice (some ⟨gm, 0, none⟩) n cm) (show p1 + 1 ≤ p + 24 by omega)
      exact bodyPost_ret (v := .agg #[.complex .f32 x y, .int .i64 d, .int .i64 s, .slice (some ⟨gs, 0, none⟩) n cs, .slice (some ⟨gm, 0, none⟩) n cm]) (by simp [results, Try.f24, go_sem, z0, z1, z2, z3, z4]) rfl ⟨TileOut.rows HS.1 hcx hcy HP.out HNN.out hcs hcm, HS.2⟩
    by_cases c1 : r = 1
    · subst c1
      obtain ⟨o0, o1, o2, o3, o4⟩ := L.O.cells5
      have g3 := L.O.frozen 3
      obtain ⟨z0, z1, z2, z3, z4⟩ := L.R.cells5
      obtain ⟨f0, f1, f2, f3, f4⟩ := L.R.free5
      have hne := L.ne
      obtain ⟨l, rfl⟩ : ∃ l, n = l + 1 := ⟨n - 1, by omega⟩
      obtain ⟨c, rfl⟩ : ∃ c, cs = c + 1 := ⟨cs - 1, by omega⟩
      have HL2 := Lib.hid L
      clear L
      by_cases hc : c = 0
      · obtain rfl : l = 0 := by omega
        subst hc
        go_wp2
        have HS := HL2.out.shutT (.slice (some ⟨gs, 0, none⟩) 0 0) (.complex .f32 x y) (.int .i64 d) (.int .i64 s) (.slice (some ⟨gs, 0, none⟩) 0 0) (.slice (some ⟨gm, 0, none⟩) (0 + 1) cm) (show p1 + 1 ≤ p + 24 by omega)
        exact bodyPost_ret (v := .agg #[.complex .f32 x y, .int .i64 d, .int .i64 s, .slice (some ⟨gs, 0, none⟩) 0 0, .slice (some ⟨gm, 0, none⟩) (0 + 1) cm]) (by simp [results, Try.f24, go_sem, z0, z1, z2, z3, z4]) rfl ⟨TileOut.tail HS.1 hcx hcy HP.out HNN.out hcs hcm rfl rfl (.inl ⟨rfl, rfl⟩), HS.2⟩
      · go_wp2
        have HS := HL2.out.shutT (.slice (some ⟨gs, 1, none⟩) l c) (.complex .f32 x y) (.int .i64 d) (.int .i64 s) (.slice (some ⟨gs, 1, none⟩) l c) (.slice (some ⟨gm, 0, none⟩) (l + 1) cm) (show p1 + 1 ≤ p + 24 by omega)
        exact bodyPost_ret (v := .agg #[.complex .f32 x y, .int .i64 d, .int .i64 s, .slice (some ⟨gs, 1, none⟩) l c, .slice (some ⟨gm, 0, none⟩) (l + 1) cm]) (by simp [results, Try.f24, go_sem, z0, z1, z2, z3, z4]) rfl ⟨TileOut.tail HS.1 hcx hcy HP.out HNN.out hcs hcm rfl rfl (.inr rfl), HS.2⟩
    by_cases c2 : r = 2
    · subst c2
      obtain ⟨o0, o1, o2, o3, o4⟩ := L.O.cells5
      obtain ⟨x1, w5, hq, hx1, d5⟩ := Flo.arith_any (P := Try.prog) .quo (by simp) 41 .f32 0 0 w4
      have L5 := L.drw d5
      obtain ⟨⟨q, k0⟩, k1⟩ := cellS L5.T (j := 0) hn0
      have L2 := L5.setS 0 hx1
      obtain ⟨o0', o1', o2', o3', o4'⟩ := L2.O.cells5
      obtain ⟨z0, z1, z2, z3, z4⟩ := L2.R.cells5
      obtain ⟨f0, f1, f2, f3, f4⟩ := L2.R.free5
      have HL2 := Lib.hid L2
      clear L L2 L5 d5
      go_wp2
      have HS := HL2.out.shut (.complex .f32 x y) (.int .i64 d) (.int .i64 s) (.slice (some ⟨gs, 0, none⟩) n cs) (.slice (some ⟨gm, 0, none⟩) n cm) (show p1 + 1 ≤ p + 24 by omega)
      exact bodyPost_ret (v := .agg #[.complex .f32 x y, .int .i64 d, .int .i64 s, .slice (some ⟨gs, 0, none⟩) n cs, .slice (some ⟨gm, 0, none⟩) n cm]) (by simp [results, Try.f24, go_sem, z0, z1, z2, z3, z4]) rfl ⟨TileOut.rows HS.1 hcx hcy HP.out HNN.out hcs hcm, HS.2⟩
    by_cases c3 : r = 3
    · subst c3
      obtain ⟨o0, o1, o2, o3, o4⟩ := L.O.cells5
      have hneg := fun w => Flo.run_neg (P := Try.prog) .f32 0 w
      generalize Op.negFloat .f32 0 = nz at *
      obtain ⟨x1, w5, hq, hx1, d5⟩ := Flo.arith_any (P := Try.prog) .mul (by simp) 41 .f32 nz 1065353216 w4
      have L5 := L.drw d5
      obtain ⟨l, rfl⟩ : ∃ l, n = l + 1 := ⟨n - 1, by omega⟩
      obtain ⟨⟨q, k0⟩, k1⟩ := cellS L5.T (j := l) (by omega)
      have L2 := L5.setS l hx1
      obtain ⟨o0', o1', o2', o3', o4'⟩ := L2.O.cells5
      obtain ⟨z0, z1, z2, z3, z4⟩ := L2.R.cells5
      obtain ⟨f0, f1, f2, f3, f4⟩ := L2.R.free5
      have HL2 := Lib.hid L2
      clear L L2 L5 d5
      go_wp2
      have HS := HL2.out.shut (.complex .f32 x y) (.int .i64 d) (.int .i64 s) (.slice (some ⟨gs, 0, none⟩) (l + 1) cs) (.slice (some ⟨gm, 0, none⟩) (l + 1) cm) (show p1 + 1 ≤ p + 24 by omega)
      exact bodyPost_ret (v := .agg #[.complex .f32 x y, .int .i64 d, .int .i64 s, .slice (some ⟨gs, 0, none⟩) (l + 1) cs, .slice (some ⟨gm, 0, none⟩) (l + 1) cm]) (by simp [results, Try.f24, go_sem, z0, z1, z2, z3, z4]) rfl ⟨TileOut.rows HS.1 hcx hcy HP.out HNN.out hcs hcm, HS.2⟩
    by_cases c4 : r = 4
    · subst c4
      obtain ⟨o0, o1, o2, o3, o4⟩ := L.O.cells5
      have LD := L.drw (Drw.refl _).drew
      go_wp2_with fail
      go_region_with (first
        | (go_at_call 26
           refine (pick_any w0 b (p1 + 1) 3 (by omega) (by omega) _ LD.D).mono ?_
           rintro e w5 ⟨⟨u, rfl, u0, u1⟩, hD, hO⟩
           have L5 := LD.pick hO hD
           have u3 : u < 3 := by omega
           clear u1
           have hwr : IntKind.i64.wrap (u - 1) = u - 1 := IntWalk.i64_in _ (by omega)
           obtain ⟨-, -, -, -, o4'⟩ := L5.O.cells5
           obtain ⟨⟨q, k0⟩, k1⟩ := cellM L5.T (j := 0) hn0
           have L2 := L5.setM 0 (u := u - 1) (by omega)
           clear hD hO))
      all_goals
        obtain ⟨o0', o1', o2', o3', o4''⟩ := L2.O.cells5
        obtain ⟨z0, z1, z2, z3, z4⟩ := L2.R.cells5
        obtain ⟨f0, f1, f2, f3, f4⟩ := L2.R.free5
        have HL2 := Lib.hid L2
        clear L L2 L5 LD k0 k1
        go_wp2
        have HS := HL2.out.shut (.complex .f32 x y) (.int .i64 d) (.int .i64 s) (.slice (some ⟨gs, 0, none⟩) n cs) (.slice (some ⟨gm, 0, none⟩) n cm) (show p1 + 1 + 1 ≤ p + 24 by omega)
        exact bodyPost_ret (v := .agg #[.complex .f32 x y, .int .i64 d, .int .i64 s, .slice (some ⟨gs, 0, none⟩) n cs, .slice (some ⟨gm, 0, none⟩) n cm]) (by simp [results, Try.f24, go_sem, z0, z1, z2, z3, z4]) rfl ⟨TileOut.rows HS.1 hcx hcy HP.out HNN.out hcs hcm, HS.2⟩
    have g0 : (r == 0) = false := by simpa using c0
    have g1 : (r == 1) = false := by simpa using c1
    have g2 : (r == 2) = false := by simpa using c2
    have g3 : (r == 3) = false := by simpa using c3
    have g4 : (r == 4) = false := by simpa using c4
    obtain ⟨o0, o1, o2, o3, o4⟩ := L.O.cells5
    obtain ⟨z0, z1, z2, z3, z4⟩ := L.R.cells5
    obtain ⟨f0, f1, f2, f3, f4⟩ := L.R.free5
    have HL2 := Lib.hid L
    clear L
    go_wp2
    have HS := HL2.out.shut (.complex .f32 x y) (.int .i64 d) (.int .i64 s) (.slice (some ⟨gs, 0, none⟩) n cs) (.slice (some ⟨gm, 0, none⟩) n cm) (show p1 + 1 ≤ p + 24 by omega)
    exact bodyPost_ret (v := .agg #[.complex .f32 x y, .int .i64 d, .int .i64 s, .slice (some ⟨gs, 0, none⟩) n cs, .slice (some ⟨gm, 0, none⟩) n cm]) (by simp [results, Try.f24, go_sem, z0, z1, z2, z3, z4]) rfl ⟨TileOut.rows HS.1 hcx hcy HP.out HNN.out hcs hcm, HS.2⟩
end Go.Proofs.Ytalmhbcmagjheaa
end

section
/- Draws: a tile, and a tile with a number. -/
namespace Go.Proofs.Ytalmhbcmagjheaa
open Go.RowKit

attribute [local go_sem] run_store_float run_store_complex

theorem Sl.far {W : World} {a : Option Addr} {xs : List Value} (h : Sl W a xs) {p : Addr} (hne : ∀ g o s, a = some ⟨g, o, s⟩ → g ≠ p.block) (v : Value) : Sl (W.setCell p v) a xs := by
  rcases h with h | ⟨b', off, hb, h⟩
  · exact .inl h
  · refine .inr ⟨b', off, hb, fun i u hu => ?_⟩
    rw [← h i u hu]
    exact World.cell?_of_block (Below.heap_setCell _ _ _ _ (by simpa using (hne _ _ _ hb)))
theorem Sl.far5 {W : World} {a : Option Addr} {xs : List Value} (h : Sl W a xs) {b : Nat} (hne : ∀ g o s, a = some ⟨g, o, s⟩ → g ≠ b) (u0 u1 u2 u3 u4 : Value) :
    Sl (((((W.setCell ⟨b, 0, none⟩ u0).setCell ⟨b, 1, none⟩ u1).setCell ⟨b, 2, none⟩ u2).setCell ⟨b, 3, none⟩ u3).setCell ⟨b, 4, none⟩ u4) a xs :=
  ((((h.far (p := ⟨b, 0, none⟩) hne u0).far (p := ⟨b, 1, none⟩) hne u1).far (p := ⟨b, 2, none⟩) hne u2).far (p := ⟨b, 3, none⟩) hne u3).far (p := ⟨b, 4, none⟩) hne u4
/-- a drawn tile, by its parts -/
structure TileV (B : Nat) (a1 : Option Addr) (c1 : Nat) (a2 : Option Addr) (c2 cx cy : Nat) (deep size : Int) (xs : List Nat) (ys : List Int) (w' : World) : Prop where
  s1 : Sl w' a1 (xs.map floV)
  s2 : Sl w' a2 (ys.map intV)
  k1 : xs.length ≤ c1
  k2 : ys.length ≤ c2
  n1 : ∀ g o s, a1 = some ⟨g, o, s⟩ → B ≤ g
  n2 : ∀ g o s, a2 = some ⟨g, o, s⟩ → B ≤ g
  hx : ∀ x, x ∈ xs → x < 4294967296
  hy : ∀ y, y ∈ ys → -1 ≤ y ∧ y ≤ 2
  bx : cx < 4294967296
  by1 : cy < 4294967296
  pl : placeB cx cy deep size = true
  ly : ys.length = size.toNat * size.toNat
  lx : xs.length = ys.length ∨ xs.length + 1 = ys.length
theorem TileV.step {B : Nat} {a1 : Option Addr} {c1 : Nat} {a2 : Option Addr} {c2 cx cy : Nat} {deep size : Int} {xs : List Nat} {ys : List Int} {w w' : World} (h : TileV B a1 c1 a2 c2 cx cy deep size xs ys w) (k : Below w.heap.size w w') : TileV B a1 c1 a2 c2 cx cy deep size xs ys w' :=
  ⟨h.s1.step k, h.s2.step k, h.k1, h.k2, h.n1, h.n2, h.hx, h.hy, h.bx, h.by1, h.pl, h.ly, h.lx⟩
theorem TileV.far5 {B : Nat} {a1 : Option Addr} {c1 : Nat} {a2 : Option Addr} {c2 cx cy : Nat} {deep size : Int} {xs : List Nat} {ys : List Int} {w : World} (h : TileV B a1 c1 a2 c2 cx cy deep size xs ys w) {b : Nat} (hb : b < B) (u0 u1 u2 u3 u4 : Value) :
    TileV B a1 c1 a2 c2 cx cy deep size xs ys (((((w.setCell ⟨b, 0, none⟩ u0).setCell ⟨b, 1, none⟩ u1).setCell ⟨b, 2, none⟩ u2).setCell ⟨b, 3, none⟩ u3).setCell ⟨b, 4, none⟩ u4) :=
  ⟨h.s1.far5 (fun g o s e => by have := h.n1 g o s e; omega) _ _ _ _ _, h.s2.far5 (fun g o s e => by have := h.n2 g o s e; omega) _ _ _ _ _, h.k1, h.k2, h.n1, h.n2, h.hx, h.hy, h.bx, h.by1, h.pl, h.ly, h.lx⟩
theorem TileV.mono {B B' : Nat} {a1 : Option Addr} {c1 : Nat} {a2 : Option Addr} {c2 cx cy : Nat} {deep size : Int} {xs : List Nat} {ys : List Int} {w : World} (h : TileV B a1 c1 a2 c2 cx cy deep size xs ys w) (hB : B' ≤ B) : TileV B' a1 c1 a2 c2 cx cy deep size xs ys w :=
  ⟨h.s1, h.s2, h.k1, h.k2, fun g o s e => Nat.le_trans hB (h.n1 g o s e), fun g o s e => Nat.le_trans hB (h.n2 g o s e), h.hx, h.hy, h.bx, h.by1, h.pl, h.ly, h.lx⟩
theorem Sl.only {w w' : World} {a : Option Addr} {xs : List Value} {b : Nat} (h : Sl w a xs) (k : Only b w w') (hb : ∀ g o s, a = some ⟨g, o, s⟩ → g ≠ b) : Sl w' a xs := by
  rcases h with h | ⟨b', off, ha, h⟩
  · exact .inl h
  · refine .inr ⟨b', off, ha, fun i v hv => ?_⟩
    have h1 := h i v hv
    exact (World.cell?_of_block (k.block _ (World.block_lt_of_cell? w _ h1) (hb _ _ _ ha))).trans h1
theorem TileV.only {B : Nat} {a1 : Option Addr} {c1 : Nat} {a2 : Option Addr} {c2 cx cy : Nat} {deep size : Int} {xs : List Nat} {ys : List Int} {w w' : World} {b : Nat} (h : TileV B a1 c1 a2 c2 cx cy deep size xs ys w) (k : Only b w w') (hb : b < B) : TileV B a1 c1 a2 c2 cx cy deep size xs ys w' :=
  ⟨h.s1.only k (fun g o s e => by have := h.n1 g o s e; omega), h.s2.only k (fun g o s e => by have := h.n2 g o s e; omega), h.k1, h.k2, h.n1, h.n2, h.hx, h.hy, h.bx, h.by1, h.pl, h.ly, h.lx⟩
theorem TileV.lim {B : Nat} {a1 : Option Addr} {c1 : Nat} {a2 : Option Addr} {c2 cx cy : Nat} {deep size : Int} {xs : List Nat} {ys : List Int} {w : World} (h : TileV B a1 c1 a2 c2 cx cy deep size xs ys w) : 1 ≤ size ∧ size ≤ 8 ∧ 0 ≤ deep ∧ deep ≤ 10 ∧ 1 ≤ ys.length ∧ ys.length ≤ 64 ∧ xs.length ≤ 64 ∧ (ys.length : Int) = size * size := by
  obtain ⟨h1, h2, h3, h4⟩ := placeB_bd h.pl
  obtain ⟨s, rfl⟩ := Int.eq_ofNat_of_zero_le (show 0 ≤ size by omega)
  have hl := h.ly
  rw [Int.toNat_natCast] at hl
  have h5 : s * s ≤ 8 * 8 := Nat.mul_le_mul (by omega) (by omega)
  have h6 : 1 * 1 ≤ s * s := Nat.mul_le_mul (by omega) (by omega)
  have h7 := h.lx
  refine ⟨h3, h4, h1, h2, by omega, by omega, by omega, ?_⟩
  rw [hl]; simp
theorem TileOut.parts {B : Nat} {e : Ending} {w' : World} (h : TileOut B e w') : ∃ a1 c1 a2 c2 cx cy deep size xs ys, e = .returned (.agg #[.complex .f32 cx cy, .int .i64 deep, .int .i64 size, .slice a1 xs.length c1, .slice a2 ys.length c2]) ∧ TileV B a1 c1 a2 c2 cx cy deep size xs ys w' := by
  obtain ⟨v, cx, cy, deep, size, xs, ys, rfl, ⟨⟨a1, c1, a2, c2, rfl, s1, s2, k1, k2, n1, n2⟩, hx, hy⟩, hcx, hcy, hp, hl, hxl⟩ := h
  exact ⟨a1, c1, a2, c2, cx, cy, deep, size, xs, ys, rfl, ⟨s1, s2, k1, k2, n1, n2, hx, hy, hcx, hcy, hp, hl, hxl⟩⟩
def DrawnTile (w : World) (e : Ending) (w' : World) : Prop :=
  (∃ a1 c1 a2 c2 cx cy deep size xs ys, e = .returned (.agg #[.complex .f32 cx cy, .int .i64 deep, .int .i64 size, .slice a1 xs.length c1, .slice a2 ys.length c2]) ∧ TileV w.heap.size a1 c1 a2 c2 cx cy deep size xs ys w') ∧ Below w.heap.size w w'
def DrawnTileN (w : World) (e : Ending) (w' : World) : Prop :=
  (∃ a1 c1 a2 c2 cx cy deep size xs ys most, e = .returned (.tuple #[.agg #[.complex .f32 cx cy, .int .i64 deep, .int .i64 size, .slice a1 xs.length c1, .slice a2 ys.length c2], .int .i64 most]) ∧ 1 ≤ most ∧ most ≤ 30 ∧ TileV w.heap.size a1 c1 a2 c2 cx cy deep size xs ys w') ∧ Below w.heap.size w w'
end Go.Proofs.Ytalmhbcmagjheaa
end
