/- Walk of what draws tiles. -/
import Derived.Test.YtdfoobemgdiobaaDoorTilT
import Derived.Test.YtdfoobemgdiobaaDoorTilP
import Derived.Test.YtdfoobemgdiobaaDoorTilR
import Derived.Deep.RegionWith
namespace Go.Proofs.YtdfoobemgdiobaaDoor
open Go.RowKit
attribute [local go_sem ↓] Go.wp_at_zero Go.wp_at_succ
attribute [local go_sem] run_store_float run_store_complex

theorem TileRet.weak {w : World} {cx cy : Nat} {deep size : Int} {good : Prop} {e : Ending} {w' : World} (h : TileRet w cx cy deep size good e w') : TileRet w cx cy deep size False e w' := by
  obtain ⟨hb, h | h⟩ := h
  · exact ⟨hb, .inl ⟨fun h => h, h.2⟩⟩
  · exact ⟨hb, .inr h⟩
theorem tileMake_any (cx cy : Nat) (deep size most : Int) (hx : cx < 4294967296) (hy : cy < 4294967296) (w : World) :
    Calls Tryd.prog 36 #[.complex .f32 cx cy, .int .i64 deep, .int .i64 size, .int .i64 most] w (TileRet w cx cy deep size False) := by
  refine (tileMake_gen False cx cy deep size most hx hy ?_ w).mono fun e w' h => h.weak
  intro d s _ _ hd _ _ i j _ _ W
  refine (l7Box_any cx cy d i j (by omega) W).mono ?_
  rintro e w' ⟨⟨p, q, r, u, t, rfl⟩, hb⟩
  exact ⟨⟨p, q, r, u, t, rfl, fun h => h.elim⟩, hb⟩
theorem tileMake_ok (most : Int) (w : World) :
    Calls Tryd.prog 36 #[.complex .f32 3212836864 3212836864, .int .i64 2, .int .i64 2, .int .i64 most] w (TileRet w 3212836864 3212836864 2 2 True) := by
  have hp : placeB 3212836864 3212836864 2 2 = true := by
    have h1 : Flo.wholeB 3212836864 2 = true := by decide +kernel
    unfold placeB
    rw [show (2 : Int).toNat = 2 by rfl, h1]
    decide
  have hv : Flo.Pt 3212836864 2 (-4) := by
    refine ⟨by decide, by unfold Flo.fin; decide, ?_⟩
    decide +kernel
  refine (tileMake_gen True 3212836864 3212836864 2 2 most (by decide) (by decide) ?_ w).mono fun e w' h => ?_
  · intro d s hd hs _ _ _ i j hi hj W
    obtain rfl : d = 2 := by omega
    obtain rfl : s = 2 := by omega
    refine (l7Box_val 3212836864 3212836864 2 i j (-4) (-4) ((-4 + j) * 4194304) ((-4 + i) * 4194304) 4194304 (by omega) hv hv (by omega) (by omega) (by omega) (by omega) rfl rfl rfl (by omega) (by omega) (by omega) (by omega) W).mono ?_
    rintro e w' ⟨rfl, hb⟩
    exact ⟨⟨_, _, _, _, _, rfl, fun _ => rfl⟩, hb⟩
  · obtain ⟨hb, h | h⟩ := h
    · exact absurd ⟨trivial, hp⟩ h.1
    · exact ⟨hb, .inr h⟩
theorem Only.allocb {b : Nat} {u v : World} (h : Only b u v) (o : Obj) : Only b u (v.alloc o) := h.trans (Only.of_below ((Below.refl _ _).alloc (Nat.le_refl _) o))
theorem Only.farb {b : Nat} {u v : World} (h : Only b u v) {p : Addr} (hp : u.heap.size ≤ p.block) (x : Value) : Only b u (v.setCell p x) :=
  ⟨h.os, h.tape, h.output, by rw [size_set]; exact h.size, fun k hk hne => (Below.heap_setCell v p x k (by omega)).trans (h.block k hk hne)⟩
theorem Box.onlyb {w0 W W' : World} {b b' : Nat} {C : Array Value} {T : TypeId} (h : Box w0 b' C T W) (k : Only b W W') (hne : b' ≠ b) (hb : w0.heap.size ≤ b) : Box w0 b' C T W' :=
  ⟨(k.block b' h.lt hne).trans h.blk, h.old.trans (k.below _ h.old.size hb)⟩
theorem Rd.ownb {w0 : World} {b p : Nat} {W : World} (h : Rd w0 b p W) : w0.heap.size ≤ b ∧ b < W.heap.size := by
  obtain ⟨_, _, _, h, _, h2, _⟩ := h; exact ⟨h2, h.lt⟩
theorem Rd.otherb {w0 : World} {b q : Nat} {W : World} (h : Rd w0 b q W) {p : Addr} (hp : w0.heap.size ≤ p.block) (hne : b ≠ p.block) (v : Value) : Rd w0 b q (W.setCell p v) := by
  obtain ⟨a, c, bs, h, r⟩ := h; exact ⟨a, c, bs, h.other hp hne v, r⟩
theorem ownsRow_only {w w' : World} {base : Nat} {e : TypeId} {size : Nat} {v : Value} {n : Nat} {xs : List Value} {b : Nat} (h : w.ownsRow base e size v n xs) (k : Only b w w') (hb : b < base) : w'.ownsRow base e size v n xs :=
  h.kept (row := some b) ⟨k.os, k.tape, k.output, k.size, fun i hi hne => k.block i hi (fun e => hne (by rw [e]))⟩ (by
    cases hv : v.ownBlock with
    | none => exact .inl rfl
    | some q => right; intro he; injection he with he; have := (h.lt q hv).1; omega)
theorem TRows.only {B n m : Nat} {xs : List Nat} {ys : List Int} {smv mkv : Value} {W W' : World} {b : Nat} (h : TRows B n m xs ys smv mkv W) (k : Only b W W') (hb : b < B) : TRows B n m xs ys smv mkv W' :=
  ⟨ownsRow_only h.S k hb, ownsRow_only h.M k hb, h.hx, h.hy⟩
/-- behind the making: the drawn tile's box, the result's box, the reader -/
structure LT (w0 W0 : World) (b rb ob n gs cs gm cm cx cy p : Nat) (deep size : Int) (xs : List Nat) (ys : List Int) (W : World) : Prop where
  O : Box w0 ob #[.complex .f32 cx cy, .int .i64 deep, .int .i64 size, .slice (some ⟨gs, 0, none⟩) n cs, .slice (some ⟨gm, 0, none⟩) n cm] 27 W
  R : Box w0 rb #[.complex .f32 0 0, .int .i64 0, .int .i64 0, .slice none 0 0, .slice none 0 0] 27 W
  T : TRows W0.heap.size n n xs ys (.slice (some ⟨gs, 0, none⟩) n cs) (.slice (some ⟨gm, 0, none⟩) n cm) W
  D : Rd w0 b p W
  K : Only b W0 W
  ne : rb ≠ ob
  hb : w0.heap.size ≤ b
  hb2 : b < W0.heap.size
  hr : W0.heap.size ≤ rb
  ho : W0.heap.size ≤ ob
  h0 : w0.heap.size ≤ W0.heap.size
theorem LT.pick {w0 W0 : World} {b rb ob n gs cs gm cm cx cy p p' : Nat} {deep size : Int} {xs : List Nat} {ys : List Int} {W W' : World} (h : LT w0 W0 b rb ob n gs cs gm cm cx cy p deep size xs ys W) (k : Only b W W') (hD : Rd w0 b p' W') : LT w0 W0 b rb ob n gs cs gm cm cx cy p' deep size xs ys W' :=
  ⟨h.O.onlyb k (by have := h.ho; have := h.hb2; omega) h.hb, h.R.onlyb k (by have := h.hr; have := h.hb2; omega) h.hb, h.T.only k h.hb2, hD, h.K.trans k, h.ne, h.hb, h.hb2, h.hr, h.ho, h.h0⟩
theorem LT.drw {w0 W0 : World} {b rb ob n gs cs gm cm cx cy p : Nat} {deep size : Int} {xs : List Nat} {ys : List Int} {W W' : World} (h : LT w0 W0 b rb ob n gs cs gm cm cx cy p deep size xs ys W) (k : Drw W W') : LT w0 W0 b rb ob n gs cs gm cm cx cy p deep size xs ys W' :=
  h.pick (Only.of_below (k.below _)) (h.D.drw k)
theorem LT.setM {w0 W0 : World} {b rb ob n gs cs gm cm cx cy p : Nat} {deep size : Int} {xs : List Nat} {ys : List Int} {W : World} (h : LT w0 W0 b rb ob n gs cs gm cm cx cy p deep size xs ys W) (j : Nat) {u : Int} (hu : -1 ≤ u ∧ u ≤ 2) : LT w0 W0 b rb ob n gs cs gm cm cx cy p deep size xs (ys.set j u) (W.setCell ⟨gm, j, none⟩ (.int .i64 u)) := by
  have n1 := ownsRow_ne h.T.M h.O.blk (by decide)
  have n2 := ownsRow_ne h.T.M h.R.blk (by decide)
  have hg := (h.T.M.lt gm rfl).1
  have hbb := h.hb2
  have h00 := h.h0
  simp only [Value.ownBlock, ne_eq, Option.some.injEq] at n1 n2
  exact ⟨h.O.other (p := ⟨gm, j, none⟩) (by simp; omega) (fun e => n1 e.symm) _, h.R.other (p := ⟨gm, j, none⟩) (by simp; omega) (fun e => n2 e.symm) _, h.T.setM j hu, h.D.otherb (p := ⟨gm, j, none⟩) (by simp; omega) (by simp; omega) _, h.K.farb (p := ⟨gm, j, none⟩) hg _, h.ne, h.hb, h.hb2, h.hr, h.ho, h.h0⟩
theorem LT.setS {w0 W0 : World} {b rb ob n gs cs gm cm cx cy p : Nat} {deep size : Int} {xs : List Nat} {ys : List Int} {W : World} (h : LT w0 W0 b rb ob n gs cs gm cm cx cy p deep size xs ys W) (j : Nat) {u : Nat} (hu : u < 4294967296) : LT w0 W0 b rb ob n gs cs gm cm cx cy p deep size (xs.set j u) ys (W.setCell ⟨gs, j, none⟩ (.float .f32 u)) := by
  have n1 := ownsRow_ne h.T.S h.O.blk (by decide)
  have n2 := ownsRow_ne h.T.S h.R.blk (by decide)
  have hg := (h.T.S.lt gs rfl).1
  have hbb := h.hb2
  have h00 := h.h0
  simp only [Value.ownBlock, ne_eq, Option.some.injEq] at n1 n2
  exact ⟨h.O.other (p := ⟨gs, j, none⟩) (by simp; omega) (fun e => n1 e.symm) _, h.R.other (p := ⟨gs, j, none⟩) (by simp; omega) (fun e => n2 e.symm) _, h.T.setS j hu, h.D.otherb (p := ⟨gs, j, none⟩) (by simp; omega) (by simp; omega) _, h.K.farb (p := ⟨gs, j, none⟩) hg _, h.ne, h.hb, h.hb2, h.hr, h.ho, h.h0⟩
/-- what the result's box holds at last -/
theorem LT.shut {w0 W0 : World} {b rb ob n gs cs gm cm cx cy p : Nat} {deep size : Int} {xs : List Nat} {ys : List Int} {W : World} (h : LT w0 W0 b rb ob n gs cs gm cm cx cy p deep size xs ys W) (u0 u1 u2 u3 u4 : Value) {P : Nat} (hP : p ≤ P) :
    TRows W0.heap.size n n xs ys (.slice (some ⟨gs, 0, none⟩) n cs) (.slice (some ⟨gm, 0, none⟩) n cm) (((((W.setCell ⟨rb, 0, none⟩ u0).setCell ⟨rb, 1, none⟩ u1).setCell ⟨rb, 2, none⟩ u2).setCell ⟨rb, 3, none⟩ u3).setCell ⟨rb, 4, none⟩ u4) ∧
    (∃ p', p' ≤ P ∧ Rd w0 b p' (((((W.setCell ⟨rb, 0, none⟩ u0).setCell ⟨rb, 1, none⟩ u1).setCell ⟨rb, 2, none⟩ u2).setCell ⟨rb, 3, none⟩ u3).setCell ⟨rb, 4, none⟩ u4)) ∧
    Only b W0 (((((W.setCell ⟨rb, 0, none⟩ u0).setCell ⟨rb, 1, none⟩ u1).setCell ⟨rb, 2, none⟩ u2).setCell ⟨rb, 3, none⟩ u3).setCell ⟨rb, 4, none⟩ u4) := by
  have hr := h.hr
  have h00 := h.h0
  have hbb := h.hb2
  refine ⟨h.T.box5 h.R (by omega) u0 u1 u2 u3 u4, ⟨p, hP, ?_⟩, ?_⟩
  · exact ((((h.D.otherb (p := ⟨rb, 0, none⟩) (by simp; omega) (by simp; omega) _).otherb (p := ⟨rb, 1, none⟩) (by simp; omega) (by simp; omega) _).otherb (p := ⟨rb, 2, none⟩) (by simp; omega) (by simp; omega) _).otherb (p := ⟨rb, 3, none⟩) (by simp; omega) (by simp; omega) _).otherb (p := ⟨rb, 4, none⟩) (by simp; omega) (by simp; omega) _
  · exact ((((h.K.farb (p := ⟨rb, 0, none⟩) hr _).farb (p := ⟨rb, 1, none⟩) hr _).farb (p := ⟨rb, 2, none⟩) hr _).farb (p := ⟨rb, 3, none⟩) hr _).farb (p := ⟨rb, 4, none⟩) hr _
end Go.Proofs.YtdfoobemgdiobaaDoor
