/- Merged texts: TilL, TilH, SplB, BlA. -/
import Derived.Test.YtokbalggdhippaaGreatQ4
import Derived.Test.YtokbalggdhippaaGreatQ5
import Derived.Deep.Cut
import Derived.Deep.RegionHeld3
import Derived.Deep.RegionLaw
import Derived.Test.YtokbalggdhippaaGreatQ47
import Derived.Test.YtokbalggdhippaaGreatQ14
import Derived.Deep.RegionWith
import Derived.Deep.AppendLies
import Derived.Deep.CutRange
import Derived.Test.YtokbalggdhippaaGreatQ46
set_option linter.all false
section
namespace Go.Proofs.YtokbalggdhippaaGreat
open Go.RowKit
attribute [local go_sem ↓] Go.wp_at_zero Go.wp_at_succ
attribute [local go_sem] run_store_float run_store_complex
theorem Only.farb {b : Nat} {u v : World} (h : Only b u v) {p : Addr} (hp : u.heap.size ≤ p.block) (x : Value) : Only b u (v.setCell p x) :=
  ⟨h.os, h.tape, h.output, by rw [size_set]; exact h.size, fun k hk hne => (Below.heap_setCell v p x k (by omega)).trans (h.block k hk hne)⟩
theorem Box.onlyb {w0 W W' : World} {b b' : Nat} {C : Array Value} {T : TypeId} (h : Box w0 b' C T W) (k : Only b W W') (hne : b' ≠ b) (hb : w0.heap.size ≤ b) : Box w0 b' C T W' :=
  ⟨(k.block b' h.lt hne).trans h.blk, h.old.trans (k.below _ h.old.size hb)⟩
theorem Rd.otherb {w0 : World} {b q : Nat} {W : World} (h : Rd w0 b q W) {p : Addr} (hp : w0.heap.size ≤ p.block) (hne : b ≠ p.block) (v : Value) : Rd w0 b q (W.setCell p v) := by
  obtain ⟨a, c, bs, h, r⟩ := h; exact ⟨a, c, bs, h.other hp hne v, r⟩
theorem ownsRow_only {w w' : World} {base : Nat} {e : TypeId} {size : Nat} {v : Value} {n : Nat} {xs : List Value} {b : Nat} (h : w.ownsRow base e size v n xs) (k : Only b w w') (hb : b < base) : w'.ownsRow base e size v n xs :=
  h.kept (row := some b) ⟨k.os, k.tape, k.output, k.size, fun i hi hne => k.block i hi (fun e => hne (by rw [e]))⟩ (by
    cases hv : v.ownBlock with
    | none => exact .inl rfl
    | some q => right; intro he; injection he with he; have := (h.lt q hv).1; omega)
theorem TRows.only {B n m : Nat} {xs : List Nat} {ys : List Int} {smv mkv : Value} {W W' : World} {b : Nat} (h : TRows B n m xs ys smv mkv W) (k : Only b W W') (hb : b < B) : TRows B n m xs ys smv mkv W' :=
  ⟨ownsRow_only h.S k hb, ownsRow_only h.M k hb, h.hx, h.hy⟩
structure LT (w0 W0 : World) (b rb ob n gs cs gm cm cx cy p : Nat) (deep size : Int) (xs : List Nat) (ys : List Int) (W : World) : Prop where
  O : Box w0 ob #[.complex .f32 cx cy, .int .i64 deep, .int .i64 size, .slice (some ⟨gs, 0, none⟩) n cs, .slice (some ⟨gm, 0, none⟩) n cm] 29 W
  R : Box w0 rb #[.complex .f32 0 0, .int .i64 0, .int .i64 0, .slice none 0 0, .slice none 0 0] 29 W
  T : TRows W0.heap.size n n xs ys (.slice (some ⟨gs, 0, none⟩) n cs) (.slice (some ⟨gm, 0, none⟩) n cm) W
  D : Rd w0 b p W
  K : Only b W0 W
  ne : rb ≠ ob
  hb : w0.heap.size ≤ b
  hb2 : b < W0.heap.size
  hr : W0.heap.size ≤ rb
  ho : W0.heap.size ≤ ob
  h0 : w0.heap.size ≤ W0.heap.size
theorem LT.pick {w0 W0 : World} {b rb ob n gs cs gm cm cx cy p p' : Nat} {deep size : Int} {xs : List Nat} {ys : List Int} {W W' : World} (h : LT w0 W0 b rb ob n gs cs gm cm cx cy p deep size xs ys W) (k : Only b W W') (hD : Rd w0 b p' W') : LT w0 W0 b rb ob n gs cs gm cm cx cy p' deep size xs ys W' :=
  ⟨h.O.onlyb k (by have := h.ho; have := h.hb2; omega) h.hb, h.R.onlyb k (by have := h.hr; have := h.hb2; omega) h.hb, h.T.only k h.hb2, hD, h.K.trans k, h.ne, h.hb, h.hb2, h.hr, h.ho, h.h0⟩
theorem LT.shut {w0 W0 : World} {b rb ob n gs cs gm cm cx cy p : Nat} {deep size : Int} {xs : List Nat} {ys : List Int} {W : World} (h : LT w0 W0 b rb ob n gs cs gm cm cx cy p deep size xs ys W) (u0 u1 u2 u3 u4 : Value) {P : Nat} (hP : p ≤ P) :
    TRows W0.heap.size n n xs ys (.slice (some ⟨gs, 0, none⟩) n cs) (.slice (some ⟨gm, 0, none⟩) n cm) (((((W.setCell ⟨rb, 0, none⟩ u0).setCell ⟨rb, 1, none⟩ u1).setCell ⟨rb, 2, none⟩ u2).setCell ⟨rb, 3, none⟩ u3).setCell ⟨rb, 4, none⟩ u4) ∧
    (∃ p', p' ≤ P ∧ Rd w0 b p' (((((W.setCell ⟨rb, 0, none⟩ u0).setCell ⟨rb, 1, none⟩ u1).setCell ⟨rb, 2, none⟩ u2).setCell ⟨rb, 3, none⟩ u3).setCell ⟨rb, 4, none⟩ u4)) ∧
    Only b W0 (((((W.setCell ⟨rb, 0, none⟩ u0).setCell ⟨rb, 1, none⟩ u1).setCell ⟨rb, 2, none⟩ u2).setCell ⟨rb, 3, none⟩ u3).setCell ⟨rb, 4, none⟩ u4) := by
  have hr := h.hr
  have h00 := h.h0
  have hbb := h.hb2
  refine ⟨h.T.box5 h.R (by omega) u0 u1 u2 u3 u4, ⟨p, hP, ?_⟩, ?_⟩
  · exact ((((h.D.otherb (p := ⟨rb, 0, none⟩) (by simp; omega) (by simp; omega) _).otherb (p := ⟨rb, 1, none⟩) (by simp; omega) (by simp; omega) _).otherb (p := ⟨rb, 2, none⟩) (by simp; omega) (by simp; omega) _).otherb (p := ⟨rb, 3, none⟩) (by simp; omega) (by simp; omega) _).otherb (p := ⟨rb, 4, none⟩) (by simp; omega) (by simp; omega) _
  · exact ((((h.K.farb (p := ⟨rb, 0, none⟩) hr _).farb (p := ⟨rb, 1, none⟩) hr _).farb (p := ⟨rb, 2, none⟩) hr _).farb (p := ⟨rb, 3, none⟩) hr _).farb (p := ⟨rb, 4, none⟩) hr _
end Go.Proofs.YtokbalggdhippaaGreat
end

section
namespace Go.Proofs.YtokbalggdhippaaGreat
open Go.RowKit
attribute [local go_sem] run_store_float run_store_complex
structure TileV (B : Nat) (a1 : Option Addr) (c1 : Nat) (a2 : Option Addr) (c2 cx cy : Nat) (deep size : Int) (xs : List Nat) (ys : List Int) (w' : World) : Prop where
  s1 : Sl w' a1 (xs.map floV)
  s2 : Sl w' a2 (ys.map intV)
  k1 : xs.length ≤ c1
  k2 : ys.length ≤ c2
  n1 : ∀ g o s, a1 = some ⟨g, o, s⟩ → B ≤ g
  n2 : ∀ g o s, a2 = some ⟨g, o, s⟩ → B ≤ g
  hx : ∀ x, x ∈ xs → x < 4294967296
  hy : ∀ y, y ∈ ys → -1 ≤ y ∧ y ≤ 2
  bx : cx < 4294967296
  by1 : cy < 4294967296
  pl : placeB cx cy deep size = true
  ly : ys.length = size.toNat * size.toNat
  lx : xs.length = ys.length ∨ xs.length + 1 = ys.length
theorem TileV.step {B : Nat} {a1 : Option Addr} {c1 : Nat} {a2 : Option Addr} {c2 cx cy : Nat} {deep size : Int} {xs : List Nat} {ys : List Int} {w w' : World} (h : TileV B a1 c1 a2 c2 cx cy deep size xs ys w) (k : Below w.heap.size w w') : TileV B a1 c1 a2 c2 cx cy deep size xs ys w' :=
  ⟨h.s1.step k, h.s2.step k, h.k1, h.k2, h.n1, h.n2, h.hx, h.hy, h.bx, h.by1, h.pl, h.ly, h.lx⟩
theorem TileV.mono {B B' : Nat} {a1 : Option Addr} {c1 : Nat} {a2 : Option Addr} {c2 cx cy : Nat} {deep size : Int} {xs : List Nat} {ys : List Int} {w : World} (h : TileV B a1 c1 a2 c2 cx cy deep size xs ys w) (hB : B' ≤ B) : TileV B' a1 c1 a2 c2 cx cy deep size xs ys w :=
  ⟨h.s1, h.s2, h.k1, h.k2, fun g o s e => Nat.le_trans hB (h.n1 g o s e), fun g o s e => Nat.le_trans hB (h.n2 g o s e), h.hx, h.hy, h.bx, h.by1, h.pl, h.ly, h.lx⟩
theorem Sl.only {w w' : World} {a : Option Addr} {xs : List Value} {b : Nat} (h : Sl w a xs) (k : Only b w w') (hb : ∀ g o s, a = some ⟨g, o, s⟩ → g ≠ b) : Sl w' a xs := by
  rcases h with h | ⟨b', off, ha, h⟩
  · exact .inl h
  · refine .inr ⟨b', off, ha, fun i v hv => ?_⟩
    have h1 := h i v hv
    exact (World.cell?_of_block (k.block _ (World.block_lt_of_cell? w _ h1) (hb _ _ _ ha))).trans h1
theorem TileV.only {B : Nat} {a1 : Option Addr} {c1 : Nat} {a2 : Option Addr} {c2 cx cy : Nat} {deep size : Int} {xs : List Nat} {ys : List Int} {w w' : World} {b : Nat} (h : TileV B a1 c1 a2 c2 cx cy deep size xs ys w) (k : Only b w w') (hb : b < B) : TileV B a1 c1 a2 c2 cx cy deep size xs ys w' :=
  ⟨h.s1.only k (fun g o s e => by have := h.n1 g o s e; omega), h.s2.only k (fun g o s e => by have := h.n2 g o s e; omega), h.k1, h.k2, h.n1, h.n2, h.hx, h.hy, h.bx, h.by1, h.pl, h.ly, h.lx⟩
theorem TileV.lim {B : Nat} {a1 : Option Addr} {c1 : Nat} {a2 : Option Addr} {c2 cx cy : Nat} {deep size : Int} {xs : List Nat} {ys : List Int} {w : World} (h : TileV B a1 c1 a2 c2 cx cy deep size xs ys w) : 1 ≤ size ∧ size ≤ 8 ∧ 0 ≤ deep ∧ deep ≤ 10 ∧ 1 ≤ ys.length ∧ ys.length ≤ 64 ∧ xs.length ≤ 64 ∧ (ys.length : Int) = size * size := by
  obtain ⟨h1, h2, h3, h4⟩ := placeB_bd h.pl
  obtain ⟨s, rfl⟩ := Int.eq_ofNat_of_zero_le (show 0 ≤ size by omega)
  have hl := h.ly
  rw [Int.toNat_natCast] at hl
  have h5 : s * s ≤ 8 * 8 := Nat.mul_le_mul (by omega) (by omega)
  have h6 : 1 * 1 ≤ s * s := Nat.mul_le_mul (by omega) (by omega)
  have h7 := h.lx
  refine ⟨h3, h4, h1, h2, by omega, by omega, by omega, ?_⟩
  rw [hl]; simp
end Go.Proofs.YtokbalggdhippaaGreat
end

section
namespace Go.Proofs.YtokbalggdhippaaGreat
open Go.RowKit Flo
attribute [local go_sem ↓] Go.wp_at_zero Go.wp_at_succ
attribute [local go_sem] run_store_float run_store_complex
structure TRec where
  cx : Nat
  cy : Nat
  deep : Int
  size : Int
  gs : Nat
  cs : Nat
  gm : Nat
  cm : Nat
  xs : List Nat
  ys : List Int
def TRec.n (t : TRec) : Nat := t.size.toNat * t.size.toNat
def TRec.cells (t : TRec) : List Value := [.complex .f32 t.cx t.cy, .int .i64 t.deep, .int .i64 t.size, .slice (some ⟨t.gs, 0, none⟩) t.n t.cs, .slice (some ⟨t.gm, 0, none⟩) t.n t.cm]
structure TOwn (B : Nat) (t : TRec) (W : World) : Prop where
  made : Made B t.n t.xs t.ys (.slice (some ⟨t.gs, 0, none⟩) t.n t.cs) (.slice (some ⟨t.gm, 0, none⟩) t.n t.cm) W
  pl : placeB t.cx t.cy t.deep t.size = true
  bx : t.cx < 4294967296
  by1 : t.cy < 4294967296
  ks : t.n ≤ t.cs
  km : t.n ≤ t.cm
theorem TOwn.step {B : Nat} {t : TRec} {W W' : World} (h : TOwn B t W) (k : Below W.heap.size W W') : TOwn B t W' := ⟨h.made.step k, h.pl, h.bx, h.by1, h.ks, h.km⟩
theorem TOwn.mono {B B' : Nat} {t : TRec} {W : World} (h : TOwn B t W) (hB : B' ≤ B) : TOwn B' t W := ⟨h.made.mono hB, h.pl, h.bx, h.by1, h.ks, h.km⟩
theorem infoT : (Vp.prog.info? 29).map (fun i => (i.zero, i.size, i.bytes)) = some (some (.agg #[.complex .f32 0 0, .int .i64 0, .int .i64 0, .slice none 0 0, .slice none 0 0]), 5, 72) := by kernel_rfl
theorem TOwn.grown {B B' : Nat} {t : TRec} {W W' : World} {v : Value} {n : Nat} {cs : List Value} (h : TOwn B t W) (ho : W.ownsRow B' 29 5 v n cs) (hg : W.grownBy W' v.ownBlock) : TOwn B t W' :=
  ⟨⟨h.made.S.kept hg (ownsRow_apart h.made.S ho (by decide)), h.made.M.kept hg (ownsRow_apart h.made.M ho (by decide)), h.made.lx, h.made.ly, h.made.hx, h.made.hy⟩, h.pl, h.bx, h.by1, h.ks, h.km⟩
def cellsL (L : List TRec) : List Value := L.flatMap TRec.cells
theorem cellsL_snoc (L : List TRec) (t : TRec) : cellsL (L ++ [t]) = cellsL L ++ t.cells := by unfold cellsL; rw [List.flatMap_append, List.flatMap_singleton]
structure TList (B : Nat) (L : List TRec) (v : Value) (W : World) : Prop where
  row : W.ownsRow B 29 5 v L.length (cellsL L)
  own : ∀ t, t ∈ L → TOwn B t W
theorem TList.step {B : Nat} {L : List TRec} {v : Value} {W W' : World} (h : TList B L v W) (k : Below W.heap.size W W') : TList B L v W' := ⟨ownsRow_step h.row k, fun t ht => (h.own t ht).step k⟩
theorem Made.far {B n : Nat} {xs : List Nat} {ys : List Int} {smv mkv : Value} {W : World} (h : Made B n xs ys smv mkv W) {w0 : World} {b : Nat} {C : Array Value} (hb : Box w0 b C 29 W) (j : Nat) (u : Value) : Made B n xs ys smv mkv (W.setCell ⟨b, j, none⟩ u) := h.set hb.blk j u
theorem TOwn.far {B : Nat} {t : TRec} {W : World} (h : TOwn B t W) {w0 : World} {b : Nat} {C : Array Value} (hb : Box w0 b C 29 W) (j : Nat) (u : Value) : TOwn B t (W.setCell ⟨b, j, none⟩ u) := ⟨h.made.far hb j u, h.pl, h.bx, h.by1, h.ks, h.km⟩
theorem TOwn.far5 {B : Nat} {t : TRec} {W w0 : World} (h : TOwn B t W) {b : Nat} {v0 v1 v2 v3 v4 : Value} (hb : Box w0 b #[v0, v1, v2, v3, v4] 29 W) (hw : w0.heap.size ≤ b) (u0 u1 u2 u3 u4 : Value) :
    TOwn B t (((((W.setCell ⟨b, 0, none⟩ u0).setCell ⟨b, 1, none⟩ u1).setCell ⟨b, 2, none⟩ u2).setCell ⟨b, 3, none⟩ u3).setCell ⟨b, 4, none⟩ u4) := by
  have b1 := hb.set hw 0 u0
  have b2 := b1.set hw 1 u1
  have b3 := b2.set hw 2 u2
  have b4 := b3.set hw 3 u3
  exact ((((h.far hb 0 u0).far b1 1 u1).far b2 2 u2).far b3 3 u3).far b4 4 u4
theorem ownsRow_mono {w : World} {base base' : Nat} {e : TypeId} {size : Nat} {v : Value} {n : Nat} {xs : List Value} (h : w.ownsRow base e size v n xs) (hB : base' ≤ base) : w.ownsRow base' e size v n xs := by
  obtain ⟨s1, s2⟩ := h
  refine ⟨s1, ?_⟩
  rcases s2 with h | ⟨g, cap, cur, h1, h2, r⟩
  · exact .inl h
  · exact .inr ⟨g, cap, cur, h1, Nat.le_trans hB h2, r⟩
theorem TList.mono {B B' : Nat} {L : List TRec} {v : Value} {W : World} (h : TList B L v W) (hB : B' ≤ B) : TList B' L v W := ⟨ownsRow_mono h.row hB, fun t ht => (h.own t ht).mono hB⟩
end Go.Proofs.YtokbalggdhippaaGreat
end

section
namespace Go.Proofs.YtokbalggdhippaaGreat
open Go.RowKit Flo
structure MkT (cx cy d s : Nat) (a b : Int) : Prop where
  hx : cx < 4294967296
  hy : cy < 4294967296
  pl : placeB cx cy d s = true
  d10 : d ≤ 10
  s1 : 1 ≤ s
  s8 : s ≤ 8
  px : Pt cx d a
  py : Pt cy d b
  ha : a.natAbs ≤ 4 * 2 ^ d
  hb : b.natAbs ≤ 4 * 2 ^ d
  ga : a + s ≤ ((8 * 2 ^ d : Nat) : Int)
  gb : b + s ≤ ((8 * 2 ^ d : Nat) : Int)
def MkP (cx cy : Nat) (deep size : Int) : Prop := ∃ (d s : Nat) (a b : Int), deep = d ∧ size = s ∧ MkT cx cy d s a b
theorem pt_inj {x d : Nat} {a b : Int} (h : Pt x d a) (g : Pt x d b) : a = b := by
  have e := h.iv.symm.trans g.iv
  have hp : ((2 ^ (u32 - d) : Nat) : Int) ≠ 0 := by have := Nat.two_pow_pos (u32 - d); omega
  exact Int.eq_of_mul_eq_mul_right hp e
def TGood (most : Int) (t : TRec) : Prop := ∃ (d s : Nat) (a b : Int), t.deep = d ∧ t.size = s ∧ MkT t.cx t.cy d s a b ∧ t.xs = rowsOf s (smT t.cx t.cy d most) s ∧ t.ys = rowsOf s (stT a b d most) s
theorem TGood.same {most : Int} {t u : TRec} (h : TGood most t) (g : TGood most u) (ex : t.cx = u.cx) (ey : t.cy = u.cy) (ed : t.deep = u.deep) (es : t.size = u.size) : t.xs = u.xs ∧ t.ys = u.ys := by
  obtain ⟨d, s, a, b, h1, h2, h3, h4, h5⟩ := h
  obtain ⟨d', s', a', b', g1, g2, g3, g4, g5⟩ := g
  obtain rfl : d = d' := by omega
  obtain rfl : s = s' := by omega
  have hx := h3.px
  have hy := h3.py
  rw [ex] at hx
  rw [ey] at hy
  obtain rfl := pt_inj hx g3.px
  obtain rfl := pt_inj hy g3.py
  rw [h4, h5, g4, g5, ex, ey]
  exact ⟨rfl, rfl⟩
def MakeRes2 (w : World) (cx cy : Nat) (deep size most : Int) (ok : Bool) (v : Value) (w' : World) : Prop :=
  (ok = false → ¬ MkP cx cy deep size ∧ v = .agg #[.complex .f32 0 0, .int .i64 0, .int .i64 0, .slice none 0 0, .slice none 0 0]) ∧ (ok = true → ∃ t : TRec, t.cx = cx ∧ t.cy = cy ∧ t.deep = deep ∧ t.size = size ∧ v = .agg t.cells.toArray ∧ TOwn w.heap.size t w' ∧ TGood most t)
def OneRes (w : World) (cx cy : Nat) (deep size most : Int) (e : Ending) (w' : World) : Prop :=
  (∃ (x y : Nat) (d s : Int) (a1 : Option Addr) (n1 c1 : Nat) (a2 : Option Addr) (n2 c2 : Nat) (ok : Bool), e = .returned (.tuple #[.agg #[.complex .f32 x y, .int .i64 d, .int .i64 s, .slice a1 n1 c1, .slice a2 n2 c2], .bool ok]) ∧ MakeRes2 w cx cy deep size most ok (.agg #[.complex .f32 x y, .int .i64 d, .int .i64 s, .slice a1 n1 c1, .slice a2 n2 c2]) w') ∧ Below w.heap.size w w'
theorem mkP_place {cx cy : Nat} {deep size : Int} (h : MkP cx cy deep size) : placeB cx cy deep size = true := by
  obtain ⟨d, s, a, b, rfl, rfl, h⟩ := h
  exact h.pl
theorem one_no {w w' : World} {cx cy : Nat} {deep size most : Int} (h : ¬ MkP cx cy deep size) (hb : Below w.heap.size w w') : OneRes w cx cy deep size most (.returned zTileV) w' :=
  ⟨⟨0, 0, 0, 0, none, 0, 0, none, 0, 0, false, rfl, fun _ => ⟨h, rfl⟩, fun h => by cases h⟩, hb⟩
theorem one_yes {w w' : World} {cx cy d s : Nat} {a b most : Int} (h : MkT cx cy d s a b) {smv mkv : Value} (hM : Made w.heap.size (s * s) (rowsOf s (smT cx cy d most) s) (rowsOf s (stT a b d most) s) smv mkv w') (hb : Below w.heap.size w w') :
    OneRes w cx cy d s most (.returned (.tuple #[.agg #[.complex .f32 cx cy, .int .i64 d, .int .i64 s, smv, mkv], .bool true])) w' := by
  have hn : 0 < s * s := Nat.mul_pos h.s1 h.s1
  obtain ⟨gs, cs, rfl, -, hcs⟩ := ownsRow_form hM.S hn
  obtain ⟨gm, cm, rfl, -, hcm⟩ := ownsRow_form hM.M hn
  refine ⟨⟨cx, cy, d, s, _, _, cs, _, _, cm, true, rfl, (fun h => by cases h), fun _ => ⟨⟨cx, cy, d, s, gs, cs, gm, cm, rowsOf s (smT cx cy d most) s, rowsOf s (stT a b d most) s⟩, rfl, rfl, rfl, rfl, ?_, ⟨?_, h.pl, h.hx, h.hy, ?_, ?_⟩, d, s, a, b, rfl, rfl, h, rfl, rfl⟩⟩, hb⟩
  · simp [TRec.cells, TRec.n]
  · simpa [TRec.n] using hM
  · simpa [TRec.n] using hcs
  · simpa [TRec.n] using hcm
def MakeC (f : Nat) : Prop := ∀ (cx cy : Nat) (deep size most : Int), cx < 4294967296 → cy < 4294967296 → ∀ w, Calls Vp.prog f #[.complex .f32 cx cy, .int .i64 deep, .int .i64 size, .int .i64 most] w (OneRes w cx cy deep size most)
theorem place_mk {cx cy : Nat} {deep size : Int} (hx : cx < 4294967296) (hy : cy < 4294967296) (h : placeB cx cy deep size = true) : ∃ (d s : Nat) (a b : Int), deep = d ∧ size = s ∧ d ≤ 10 ∧ 1 ≤ s ∧ s ≤ 8 ∧ Pt cx d a ∧ Pt cy d b ∧ a.natAbs ≤ 4 * 2 ^ d ∧ b.natAbs ≤ 4 * 2 ^ d := by
  obtain ⟨d, s, a, b, h1, h2, h3, h4, h5, h6, h7, h8, h9⟩ := placePts h
  rw [Nat.mod_eq_of_lt hx] at h6
  rw [Nat.mod_eq_of_lt hy] at h7
  exact ⟨d, s, a, b, h1, h2, h3, h4, h5, h6, h7, h8, h9⟩
theorem rows_made {B n : Nat} {xs : List Nat} {ys : List Int} {gs gm cap : Nat} {W : World} (hS : B ≤ gs) (hM : B ≤ gm) (hs : W.heap[gs]? = some (.cells (xs.map floV).toArray 63 (0, 0))) (hm : W.heap[gm]? = some (.cells (ys.map intV).toArray 3 (0, 0)))
    (lx : xs.length = n) (ly : ys.length = n) (hn : n = cap) (hc : cap ≤ 64) (hx : ∀ x, x ∈ xs → x < 4294967296) (hy : ∀ y, y ∈ ys → -1 ≤ y ∧ y ≤ 1) : Made B n xs ys (.slice (some ⟨gs, 0, none⟩) cap cap) (.slice (some ⟨gm, 0, none⟩) cap cap) W := by
  subst hn
  refine ⟨⟨by simp [lx], .inr ⟨gs, n, _, rfl, hS, hs, Nat.le_refl _, by unfold maxLen; omega, by simp [lx], ?_⟩⟩, ⟨by simp [ly], .inr ⟨gm, n, _, rfl, hM, hm, Nat.le_refl _, by unfold maxLen; omega, by simp [ly], ?_⟩⟩, lx, ly, hx, hy⟩
  · exact List.take_of_length_le (by simp [lx])
  · exact List.take_of_length_le (by simp [ly])
theorem rowsOf_mem {α : Type} {s : Nat} {f : Nat → Nat → α} {n : Nat} {x : α} (h : x ∈ rowsOf s f n) : ∃ i j, x = f i j := by
  unfold rowsOf at h
  rw [List.mem_flatMap] at h
  obtain ⟨i, _, h⟩ := h
  rw [List.mem_map] at h
  obtain ⟨j, _, h⟩ := h
  exact ⟨i, j, h.symm⟩
theorem specMakeC : MakeC 29 := by
  intro cx cy deep size most hx hy w
  cases hpl : placeB cx cy deep size with
  | false =>
    refine (tileMake_no cx cy deep size most hpl w).mono ?_
    rintro e w' ⟨rfl, hb⟩
    exact one_no (fun h => by rw [mkP_place h] at hpl; cases hpl) hb
  | true =>
    obtain ⟨d, s, a, b, rfl, rfl, hd, h1, h8, px, py, ha, hb⟩ := place_mk hx hy hpl
    refine (tileMake_val cx cy d s most hd h8 hpl (cellV_ok most hd h8 (by rw [Nat.mod_eq_of_lt hx]; exact px) (by rw [Nat.mod_eq_of_lt hy]; exact py) ha hb) w).mono ?_
    have hall := all_iff (d := d) (by omega) h1 ha hb
    rintro e w' ⟨hbl, ⟨⟨i, j, hi, hj, hno⟩, rfl⟩ | ⟨hok, smv, mkv, rfl, hM⟩⟩
    · refine one_no ?_ hbl
      rintro ⟨d', s', a', b', e1, e2, h⟩
      obtain rfl : d = d' := by omega
      obtain rfl : s = s' := by omega
      obtain rfl := pt_inj px h.px
      obtain rfl := pt_inj py h.py
      have := hall.2 ⟨h.ga, h.gb⟩ i j hi hj
      have hno : cOk a b d i j = false := hno
      rw [hno] at this
      cases this
    · have hg := hall.1 hok
      exact one_yes ⟨hx, hy, hpl, hd, h1, h8, px, py, ha, hb, hg.1, hg.2⟩ hM hbl
theorem implMakeC : MakeC 11 := by
  intro cx cy deep size most hx hy w
  cases hpl : placeB cx cy deep size with
  | false =>
    refine (tileMakeV_no cx cy deep size most hpl w).mono ?_
    rintro e w' ⟨rfl, hb⟩
    exact one_no (fun h => by rw [mkP_place h] at hpl; cases hpl) hb
  | true =>
    obtain ⟨d, s, a, b, rfl, rfl, hd, h1, h8, px, py, ha, hb⟩ := place_mk hx hy hpl
    refine (tileMakeV_val cx cy d s most hd h8 hpl (cellV_ok most hd h8 (by rw [Nat.mod_eq_of_lt hx]; exact px) (by rw [Nat.mod_eq_of_lt hy]; exact py) ha hb) w).mono ?_
    have hall := all_iff (d := d) (by omega) h1 ha hb
    rintro e w' ⟨hbl, ⟨⟨i, j, hi, hj, hno⟩, rfl⟩ | ⟨hok, v, rfl, ⟨gS, gM, rfl, l1, l2, l3, c1, c2⟩⟩⟩
    · refine one_no ?_ hbl
      rintro ⟨d', s', a', b', e1, e2, h⟩
      obtain rfl : d = d' := by omega
      obtain rfl : s = s' := by omega
      obtain rfl := pt_inj px h.px
      obtain rfl := pt_inj py h.py
      have := hall.2 ⟨h.ga, h.gb⟩ i j hi hj
      have hno : cOk a b d i j = false := hno
      rw [hno] at this
      cases this
    · have hg := hall.1 hok
      have hss : s * s ≤ 64 := Nat.mul_le_mul h8 h8
      have hM := rows_made l1 l2 c1 c2 (rowsOf_len s (smT cx cy d most) s) (rowsOf_len s (stT a b d most) s) rfl hss (fun x h => by obtain ⟨i, j, rfl⟩ := rowsOf_mem h; exact smC_lt _ _ _) (fun y h => by obtain ⟨i, j, rfl⟩ := rowsOf_mem h; exact stB_bd _ _)
      exact one_yes ⟨hx, hy, hpl, hd, h1, h8, px, py, ha, hb, hg.1, hg.2⟩ hM hbl
end Go.Proofs.YtokbalggdhippaaGreat
end
