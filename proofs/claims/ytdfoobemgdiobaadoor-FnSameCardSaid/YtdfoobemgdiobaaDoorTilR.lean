/- Words for the rows of tiles that are drawn. -/
import Derived.Test.YtdfoobemgdiobaaDoorTilM
namespace Go.Proofs.YtdfoobemgdiobaaDoor
open Go.RowKit

/-- the rows of a tile that is drawn: floats, and marks from -1 to 2 -/
structure TRows (B n m : Nat) (xs : List Nat) (ys : List Int) (smv mkv : Value) (W : World) : Prop where
  S : W.ownsRow B 66 1 smv n (xs.map floV)
  M : W.ownsRow B 3 1 mkv m (ys.map intV)
  hx : ∀ x, x ∈ xs → x < 4294967296
  hy : ∀ y, y ∈ ys → -1 ≤ y ∧ y ≤ 2
theorem TRows.lx {B n m : Nat} {xs : List Nat} {ys : List Int} {smv mkv : Value} {W : World} (h : TRows B n m xs ys smv mkv W) : xs.length = n := by have := h.S.1; simpa using this
theorem TRows.ly {B n m : Nat} {xs : List Nat} {ys : List Int} {smv mkv : Value} {W : World} (h : TRows B n m xs ys smv mkv W) : ys.length = m := by have := h.M.1; simpa using this
theorem Made.rows {B n : Nat} {xs : List Nat} {ys : List Int} {smv mkv : Value} {W : World} (h : Made B n xs ys smv mkv W) : TRows B n n xs ys smv mkv W :=
  ⟨h.S, h.M, h.hx, fun y hy => by have := h.hy y hy; omega⟩
theorem ownsRow_form {w : World} {base : Nat} {e : TypeId} {size : Nat} {v : Value} {n : Nat} {xs : List Value} (h : w.ownsRow base e size v n xs) (hn : 0 < n) : ∃ g cap, v = .slice (some ⟨g, 0, none⟩) n cap ∧ base ≤ g ∧ n ≤ cap := by
  rcases h.2 with ⟨_, h0⟩ | ⟨g, cap, cur, rfl, hg, _, hc, _⟩
  · omega
  · exact ⟨g, cap, rfl, hg, hc⟩
theorem TRows.step {B n m : Nat} {xs : List Nat} {ys : List Int} {smv mkv : Value} {W W' : World} (h : TRows B n m xs ys smv mkv W) (k : Below W.heap.size W W') : TRows B n m xs ys smv mkv W' :=
  ⟨ownsRow_step h.S k, ownsRow_step h.M k, h.hx, h.hy⟩
theorem TRows.drw {B n m : Nat} {xs : List Nat} {ys : List Int} {smv mkv : Value} {W W' : World} (h : TRows B n m xs ys smv mkv W) (k : Drw W W') : TRows B n m xs ys smv mkv W' := h.step (k.below _)
theorem TRows.alloc {B n m : Nat} {xs : List Nat} {ys : List Int} {smv mkv : Value} {W : World} (h : TRows B n m xs ys smv mkv W) (o : Obj) : TRows B n m xs ys smv mkv (W.alloc o) := h.step ((Below.refl _ _).alloc (Nat.le_refl _) o)
/-- a store into a tile's box -/
theorem TRows.box {B n m : Nat} {xs : List Nat} {ys : List Int} {smv mkv : Value} {W w0 : World} (h : TRows B n m xs ys smv mkv W) {b : Nat} {C : Array Value} (hb : Box w0 b C 27 W) (j : Nat) (u : Value) : TRows B n m xs ys smv mkv (W.setCell ⟨b, j, none⟩ u) :=
  ⟨ownsRow_set h.S hb.blk (by decide) u, ownsRow_set h.M hb.blk (by decide) u, h.hx, h.hy⟩
theorem Box.set5 {w0 W : World} {b : Nat} {v0 v1 v2 v3 v4 : Value} {T : TypeId} (h : Box w0 b #[v0, v1, v2, v3, v4] T W) (hb : w0.heap.size ≤ b) (u0 u1 u2 u3 u4 : Value) :
    Box w0 b #[u0, u1, u2, u3, u4] T (((((W.setCell ⟨b, 0, none⟩ u0).setCell ⟨b, 1, none⟩ u1).setCell ⟨b, 2, none⟩ u2).setCell ⟨b, 3, none⟩ u3).setCell ⟨b, 4, none⟩ u4) :=
  ((((h.set hb 0 u0).set hb 1 u1).set hb 2 u2).set hb 3 u3).set hb 4 u4
theorem TRows.box5 {B n m : Nat} {xs : List Nat} {ys : List Int} {smv mkv : Value} {W w0 : World} (h : TRows B n m xs ys smv mkv W) {b : Nat} {v0 v1 v2 v3 v4 : Value} (hb : Box w0 b #[v0, v1, v2, v3, v4] 27 W) (hw : w0.heap.size ≤ b) (u0 u1 u2 u3 u4 : Value) :
    TRows B n m xs ys smv mkv (((((W.setCell ⟨b, 0, none⟩ u0).setCell ⟨b, 1, none⟩ u1).setCell ⟨b, 2, none⟩ u2).setCell ⟨b, 3, none⟩ u3).setCell ⟨b, 4, none⟩ u4) := by
  have b1 := hb.set hw 0 u0
  have b2 := b1.set hw 1 u1
  have b3 := b2.set hw 2 u2
  have b4 := b3.set hw 3 u3
  exact ((((h.box hb 0 u0).box b1 1 u1).box b2 2 u2).box b3 3 u3).box b4 4 u4
theorem TRows.setM {B n m : Nat} {xs : List Nat} {ys : List Int} {smv : Value} {g cap : Nat} {W : World} (h : TRows B n m xs ys smv (.slice (some ⟨g, 0, none⟩) m cap) W) (j : Nat) {u : Int} (hu : -1 ≤ u ∧ u ≤ 2) :
    TRows B n m xs (ys.set j u) smv (.slice (some ⟨g, 0, none⟩) m cap) (W.setCell ⟨g, j, none⟩ (.int .i64 u)) := by
  have hs := h.M.stored j (.int .i64 u)
  refine ⟨?_, ?_, h.hx, ?_⟩
  · exact h.S.kept hs.2 (by have := ownsRow_apart h.S h.M (by decide); simpa [Value.ownBlock] using this)
  · have := hs.1
    rw [List.map_set]
    exact this
  · intro y hy
    rcases List.mem_or_eq_of_mem_set hy with hy | rfl
    · exact h.hy y hy
    · exact hu
theorem TRows.setS {B n m : Nat} {xs : List Nat} {ys : List Int} {mkv : Value} {g cap : Nat} {W : World} (h : TRows B n m xs ys (.slice (some ⟨g, 0, none⟩) n cap) mkv W) (j : Nat) {u : Nat} (hu : u < 4294967296) :
    TRows B n m (xs.set j u) ys (.slice (some ⟨g, 0, none⟩) n cap) mkv (W.setCell ⟨g, j, none⟩ (.float .f32 u)) := by
  have hs := h.S.stored j (.float .f32 u)
  refine ⟨?_, ?_, ?_, h.hy⟩
  · have := hs.1
    rw [List.map_set]
    exact this
  · exact h.M.kept hs.2 (by have := ownsRow_apart h.M h.S (by decide); simpa [Value.ownBlock] using this)
  · intro x hx
    rcases List.mem_or_eq_of_mem_set hx with hx | rfl
    · exact h.hx x hx
    · exact hu
theorem cellM {B n m : Nat} {xs : List Nat} {ys : List Int} {smv : Value} {g cap : Nat} {W : World} (h : TRows B n m xs ys smv (.slice (some ⟨g, 0, none⟩) m cap) W) {j : Nat} (hj : j < m) : (∃ y, W.cell? ⟨g, j, none⟩ = some (.int .i64 y)) ∧ W.frozen? ⟨g, j, none⟩ = false := by
  have hl := h.ly
  refine ⟨⟨ys[j]'(by omega), ?_⟩, h.M.frozenAt j⟩
  rw [h.M.cellAt j (by omega), List.getElem?_map, List.getElem?_eq_getElem (by omega)]
  rfl
theorem cellS {B n m : Nat} {xs : List Nat} {ys : List Int} {mkv : Value} {g cap : Nat} {W : World} (h : TRows B n m xs ys (.slice (some ⟨g, 0, none⟩) n cap) mkv W) {j : Nat} (hj : j < n) : (∃ y, W.cell? ⟨g, j, none⟩ = some (.float .f32 y)) ∧ W.frozen? ⟨g, j, none⟩ = false := by
  have hl := h.lx
  refine ⟨⟨xs[j]'(by omega), ?_⟩, h.S.frozenAt j⟩
  rw [h.S.cellAt j (by omega), List.getElem?_map, List.getElem?_eq_getElem (by omega)]
  rfl
/-- a tile as a value, its rows readable -/
structure TileIn (B : Nat) (W : World) (v : Value) (cx cy : Nat) (deep size : Int) (xs : List Nat) (ys : List Int) : Prop where
  form : ∃ a c a' c', v = .agg #[.complex .f32 cx cy, .int .i64 deep, .int .i64 size, .slice a xs.length c, .slice a' ys.length c'] ∧ Sl W a (xs.map floV) ∧ Sl W a' (ys.map intV) ∧ xs.length ≤ c ∧ ys.length ≤ c' ∧ (∀ g o s, a = some ⟨g, o, s⟩ → B ≤ g) ∧ (∀ g o s, a' = some ⟨g, o, s⟩ → B ≤ g)
  hx : ∀ x, x ∈ xs → x < 4294967296
  hy : ∀ y, y ∈ ys → -1 ≤ y ∧ y ≤ 2
theorem TileIn.step {B : Nat} {W W' : World} {v : Value} {cx cy : Nat} {deep size : Int} {xs : List Nat} {ys : List Int} (h : TileIn B W v cx cy deep size xs ys) (k : Below W.heap.size W W') : TileIn B W' v cx cy deep size xs ys := by
  obtain ⟨⟨a, c, a', c', rfl, h1, h2, h3⟩, hx, hy⟩ := h
  exact ⟨⟨a, c, a', c', rfl, h1.step k, h2.step k, h3⟩, hx, hy⟩
theorem TileIn.drw {B : Nat} {W W' : World} {v : Value} {cx cy : Nat} {deep size : Int} {xs : List Nat} {ys : List Int} (h : TileIn B W v cx cy deep size xs ys) (k : Drw W W') : TileIn B W' v cx cy deep size xs ys := h.step (k.below _)
theorem sl_of_own {w : World} {base : Nat} {e : TypeId} {g cap n : Nat} {xs : List Value} (h : w.ownsRow base e 1 (.slice (some ⟨g, 0, none⟩) n cap) n xs) : Sl w (some ⟨g, 0, none⟩) xs := by
  refine .inr ⟨g, 0, rfl, fun i v hv => ?_⟩
  have hl : i < xs.length := (List.getElem?_eq_some_iff.1 hv).1
  rw [Nat.zero_add, h.cellAt i (by have := h.1; omega)]
  exact hv
theorem sl_tail {w : World} {g : Nat} {x : Value} {xs : List Value} (h : Sl w (some ⟨g, 0, none⟩) (x :: xs)) : Sl w (some ⟨g, 1, none⟩) xs := by
  rcases h with h | ⟨b, o, hb, h⟩
  · cases h
  · injection hb with hb
    injection hb with h1 h2 _
    subst h1 h2
    refine .inr ⟨g, 1, rfl, fun i v hv => ?_⟩
    have := h (i + 1) v (by simpa using hv)
    rw [Nat.zero_add] at this
    rw [Nat.add_comm 1 i]
    exact this
/-- what draws a tile leaves: its rows lie from block B on -/
def TileOut (B : Nat) (e : Ending) (w' : World) : Prop :=
  ∃ v cx cy deep size xs ys, e = .returned v ∧ TileIn B w' v cx cy deep size xs ys ∧ cx < 4294967296 ∧ cy < 4294967296 ∧ placeB cx cy deep size = true ∧ ys.length = size.toNat * size.toNat ∧ (xs.length = ys.length ∨ xs.length + 1 = ys.length)
theorem own_ge {w : World} {base : Nat} {e : TypeId} {g cap n m size : Nat} {xs : List Value} (h : w.ownsRow base e size (.slice (some ⟨g, 0, none⟩) m cap) n xs) : base ≤ g := by
  rcases h.2 with ⟨h, _⟩ | ⟨g', cap', cur, hv, hg, _⟩
  · cases h
  · injection hv with h1 h2 h3
    injection h1 with h1
    injection h1 with h1
    rw [h1]; exact hg
theorem TileOut.rows {B n gs cs gm cm cx cy : Nat} {deep size : Int} {xs : List Nat} {ys : List Int} {W : World} (h : TRows B n n xs ys (.slice (some ⟨gs, 0, none⟩) n cs) (.slice (some ⟨gm, 0, none⟩) n cm) W) (hx : cx < 4294967296) (hy : cy < 4294967296) (hp : placeB cx cy deep size = true) (hn : n = size.toNat * size.toNat) (h1 : n ≤ cs) (h2 : n ≤ cm) :
    TileOut B (.returned (.agg #[.complex .f32 cx cy, .int .i64 deep, .int .i64 size, .slice (some ⟨gs, 0, none⟩) n cs, .slice (some ⟨gm, 0, none⟩) n cm])) W := by
  have lx := h.lx
  have ly := h.ly
  refine ⟨_, cx, cy, deep, size, xs, ys, rfl, ⟨⟨_, cs, _, cm, by rw [lx, ly], sl_of_own h.S, sl_of_own h.M, by omega, by omega, fun g o s e => ?_, fun g o s e => ?_⟩, h.hx, h.hy⟩, hx, hy, hp, by omega, .inl (by omega)⟩
  · injection e with e; injection e with e; rw [← e]; exact own_ge h.S
  · injection e with e; injection e with e; rw [← e]; exact own_ge h.M
theorem TileOut.tail {B n gs cs gm cm cx cy : Nat} {deep size : Int} {xs : List Nat} {ys : List Int} {W : World} {a : Option Addr} {c l : Nat} (h : TRows B n n xs ys (.slice (some ⟨gs, 0, none⟩) n cs) (.slice (some ⟨gm, 0, none⟩) n cm) W) (hx : cx < 4294967296) (hy : cy < 4294967296) (hp : placeB cx cy deep size = true) (hn : n = size.toNat * size.toNat) (h1 : n ≤ cs) (h2 : n ≤ cm)
    (hl : l + 1 = n) (hc : c + 1 = cs) (ha : (l = 0 ∧ a = some ⟨gs, 0, none⟩) ∨ a = some ⟨gs, 1, none⟩) :
    TileOut B (.returned (.agg #[.complex .f32 cx cy, .int .i64 deep, .int .i64 size, .slice a l c, .slice (some ⟨gm, 0, none⟩) n cm])) W := by
  have lx := h.lx
  have ly := h.ly
  cases xs with
  | nil => simp at lx; omega
  | cons x xs =>
    have hl2 : xs.length = l := by simp at lx; omega
    refine ⟨_, cx, cy, deep, size, xs, ys, rfl, ⟨⟨_, c, _, cm, by rw [hl2, ly], ?_, sl_of_own h.M, by omega, by omega, fun g o s e => ?_, fun g o s e => ?_⟩, fun x hx => h.hx x (List.mem_cons_of_mem _ hx), h.hy⟩, hx, hy, hp, by omega, .inr (by omega)⟩
    rotate_left
    · rcases ha with ⟨_, rfl⟩ | rfl
      · injection e with e; injection e with e; rw [← e]; exact own_ge h.S
      · injection e with e; injection e with e; rw [← e]; exact own_ge h.S
    · injection e with e; injection e with e; rw [← e]; exact own_ge h.M
    rcases ha with ⟨h0, _⟩ | rfl
    · left
      have : xs = [] := List.eq_nil_of_length_eq_zero (by omega)
      rw [this]; rfl
    · exact sl_tail (sl_of_own h.S)
end Go.Proofs.YtdfoobemgdiobaaDoor
