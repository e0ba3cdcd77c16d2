/- Words for tiles that the call makes. -/
import Derived.Test.YtdfoobemgdiobaaDoorTilD
import Derived.Test.YtdfoobemgdiobaaDoorLawS
import Derived.Laws.OwnMore
import Derived.OwnWalk
import Derived.Deep.AppendLies
namespace Go.Proofs.YtdfoobemgdiobaaDoor
open Go.RowKit

def floV (x : Nat) : Value := .float .f32 x
def intV (x : Int) : Value := .int .i64 x
def tileV (cx cy : Nat) (deep size : Int) (sm mk : Value) : Value := .agg #[.complex .f32 cx cy, .int .i64 deep, .int .i64 size, sm, mk]
def tileC (cx cy : Nat) (deep size : Int) (sm mk : Value) : Array Value := #[.complex .f32 cx cy, .int .i64 deep, .int .i64 size, sm, mk]
theorem infoF : (Tryd.prog.info? 66).map (fun i => (i.zero, i.size, i.bytes)) = some (some (.float .f32 0), 1, 4) := by kernel_rfl
theorem infoI : (Tryd.prog.info? 3).map (fun i => (i.zero, i.size, i.bytes)) = some (some (.int .i64 0), 1, 8) := by kernel_rfl
/-- a block of another type is no block of an owned row -/
theorem ownsRow_ne {w : World} {base : Nat} {e : TypeId} {size : Nat} {v : Value} {n : Nat} {xs : List Value} (h : w.ownsRow base e size v n xs) {b : Nat} {C : Array Value} {T : TypeId} (hb : w.heap[b]? = some (.cells C T (0, 0))) (hne : e ≠ T) : v.ownBlock ≠ some b := by
  rcases h.2 with ⟨rfl, _⟩ | ⟨g, cap, cur, rfl, _, hg, _⟩
  · simp [Value.ownBlock]
  · intro he
    simp [Value.ownBlock] at he
    subst he
    rw [hg] at hb
    injection hb with hb
    injection hb with _ hb _
    exact hne hb
/-- two owned rows of different types are apart -/
theorem ownsRow_apart {w : World} {base base' : Nat} {e e' : TypeId} {size size' : Nat} {v v' : Value} {n n' : Nat} {xs xs' : List Value} (h : w.ownsRow base e size v n xs) (h' : w.ownsRow base' e' size' v' n' xs') (hne : e ≠ e') : v.ownBlock = none ∨ v.ownBlock ≠ v'.ownBlock := by
  rcases h'.2 with ⟨rfl, _⟩ | ⟨g, cap, cur, rfl, _, hg, _⟩
  · cases hv : v.ownBlock
    · exact .inl rfl
    · exact .inr (by simp [Value.ownBlock])
  · exact .inr (ownsRow_ne h hg hne)
theorem ownsRow_step {w w' : World} {base : Nat} {e : TypeId} {size : Nat} {v : Value} {n : Nat} {xs : List Value} (h : w.ownsRow base e size v n xs) (k : Below w.heap.size w w') : w'.ownsRow base e size v n xs :=
  h.kept ⟨k.os, k.tape, k.output, k.size, fun i hi _ => k.block i hi⟩ (row := none) (by cases hv : v.ownBlock <;> simp)
theorem Box.grown {w0 W W' : World} {b : Nat} {C : Array Value} {T : TypeId} (h : Box w0 b C T W) {row : Option Nat} (hg : W.grownBy W' row) (hne : row ≠ some b) (hrow : ∀ k, row = some k → w0.heap.size ≤ k) : Box w0 b C T W' :=
  ⟨(hg.block b h.lt (fun e => hne e.symm)).trans h.blk, h.old.grown hg h.old.size hrow⟩
/-- a tile under way: its box, the result's box, and its two rows -/
structure TM (w : World) (rb ob : Nat) (cx cy : Nat) (deep size : Int) (n m : Nat) (xs : List Nat) (ys : List Int) (smv mkv : Value) (W : World) : Prop where
  O : Box w ob (tileC cx cy deep size smv mkv) 27 W
  R : Box w rb (tileC 0 0 0 0 (.slice none 0 0) (.slice none 0 0)) 27 W
  S : W.ownsRow w.heap.size 66 1 smv n (xs.map floV)
  M : W.ownsRow w.heap.size 3 1 mkv m (ys.map intV)
  hx : ∀ x, x ∈ xs → x < 4294967296
  hy : ∀ y, y ∈ ys → -1 ≤ y ∧ y ≤ 1
  ne : rb ≠ ob
  hr : w.heap.size ≤ rb
  ho : w.heap.size ≤ ob
theorem TM.step {w : World} {rb ob cx cy n m : Nat} {deep size : Int} {xs : List Nat} {ys : List Int} {smv mkv : Value} {W W' : World} (h : TM w rb ob cx cy deep size n m xs ys smv mkv W) (k : Below W.heap.size W W') : TM w rb ob cx cy deep size n m xs ys smv mkv W' :=
  ⟨h.O.step k, h.R.step k, ownsRow_step h.S k, ownsRow_step h.M k, h.hx, h.hy, h.ne, h.hr, h.ho⟩
theorem TM.alloc {w : World} {rb ob cx cy n m : Nat} {deep size : Int} {xs : List Nat} {ys : List Int} {smv mkv : Value} {W : World} (h : TM w rb ob cx cy deep size n m xs ys smv mkv W) (o : Obj) : TM w rb ob cx cy deep size n m xs ys smv mkv (W.alloc o) :=
  h.step ((Below.refl _ _).alloc (Nat.le_refl _) o)
theorem TM.drw {w : World} {rb ob cx cy n m : Nat} {deep size : Int} {xs : List Nat} {ys : List Int} {smv mkv : Value} {W W' : World} (h : TM w rb ob cx cy deep size n m xs ys smv mkv W) (k : Drw W W') : TM w rb ob cx cy deep size n m xs ys smv mkv W' := h.step (k.below _)
theorem TM.old {w : World} {rb ob cx cy n m : Nat} {deep size : Int} {xs : List Nat} {ys : List Int} {smv mkv : Value} {W : World} (h : TM w rb ob cx cy deep size n m xs ys smv mkv W) : Below w.heap.size w W := h.O.old
theorem ownsRow_set {w : World} {base : Nat} {e : TypeId} {size : Nat} {v : Value} {n : Nat} {xs : List Value} (h : w.ownsRow base e size v n xs) {b j : Nat} {C : Array Value} {T : TypeId} (hb : w.heap[b]? = some (.cells C T (0, 0))) (hne : e ≠ T) (u : Value) : (w.setCell ⟨b, j, none⟩ u).ownsRow base e size v n xs :=
  ownsRow_setCell_other h (ownsRow_ne h hb hne) u
theorem Box.cells5 {w0 W : World} {b : Nat} {v0 v1 v2 v3 v4 : Value} {T : TypeId} (h : Box w0 b #[v0, v1, v2, v3, v4] T W) :
    W.cell? ⟨b, 0, none⟩ = some v0 ∧ W.cell? ⟨b, 1, none⟩ = some v1 ∧ W.cell? ⟨b, 2, none⟩ = some v2 ∧ W.cell? ⟨b, 3, none⟩ = some v3 ∧ W.cell? ⟨b, 4, none⟩ = some v4 :=
  ⟨h.cell 0 _ rfl, h.cell 1 _ rfl, h.cell 2 _ rfl, h.cell 3 _ rfl, h.cell 4 _ rfl⟩
theorem Box.free5 {w0 W : World} {b : Nat} {C : Array Value} {T : TypeId} (h : Box w0 b C T W) :
    W.frozen? ⟨b, 0, none⟩ = false ∧ W.frozen? ⟨b, 1, none⟩ = false ∧ W.frozen? ⟨b, 2, none⟩ = false ∧ W.frozen? ⟨b, 3, none⟩ = false ∧ W.frozen? ⟨b, 4, none⟩ = false :=
  ⟨h.frozen 0, h.frozen 1, h.frozen 2, h.frozen 3, h.frozen 4⟩
theorem TM.oc {w : World} {rb ob cx cy n m : Nat} {deep size : Int} {xs : List Nat} {ys : List Int} {smv mkv : Value} {W : World} (h : TM w rb ob cx cy deep size n m xs ys smv mkv W) :
    W.cell? ⟨ob, 0, none⟩ = some (.complex .f32 cx cy) ∧ W.cell? ⟨ob, 1, none⟩ = some (.int .i64 deep) ∧ W.cell? ⟨ob, 2, none⟩ = some (.int .i64 size) ∧ W.cell? ⟨ob, 3, none⟩ = some smv ∧ W.cell? ⟨ob, 4, none⟩ = some mkv := h.O.cells5
theorem TM.rc {w : World} {rb ob cx cy n m : Nat} {deep size : Int} {xs : List Nat} {ys : List Int} {smv mkv : Value} {W : World} (h : TM w rb ob cx cy deep size n m xs ys smv mkv W) :
    W.cell? ⟨rb, 0, none⟩ = some (.complex .f32 0 0) ∧ W.cell? ⟨rb, 1, none⟩ = some (.int .i64 0) ∧ W.cell? ⟨rb, 2, none⟩ = some (.int .i64 0) ∧ W.cell? ⟨rb, 3, none⟩ = some (.slice none 0 0) ∧ W.cell? ⟨rb, 4, none⟩ = some (.slice none 0 0) := h.R.cells5
/-- behind an append to the smooth values -/
theorem TM.smooth {w : World} {rb ob cx cy n m : Nat} {deep size : Int} {xs : List Nat} {ys : List Int} {smv mkv v' : Value} {W W' : World} (h : TM w rb ob cx cy deep size n m xs ys smv mkv W) {z : Nat} (hz : z < 4294967296) (hown : W'.ownsRow w.heap.size 66 1 v' (n + 1) (xs.map floV ++ [floV z])) (hg : W.grownBy W' smv.ownBlock) :
    TM w rb ob cx cy deep size (n + 1) m (xs ++ [z]) ys v' mkv (W'.setCell ⟨ob, 3, none⟩ v') ∧ W'.cell? ⟨ob, 3, none⟩ = some smv ∧ W'.frozen? ⟨ob, 3, none⟩ = false := by
  have hrow : ∀ k, smv.ownBlock = some k → w.heap.size ≤ k := fun k hk => (h.S.lt k hk).1
  have O := h.O.grown hg (ownsRow_ne h.S h.O.blk (by decide)) hrow
  have R := h.R.grown hg (ownsRow_ne h.S h.R.blk (by decide)) hrow
  have M := h.M.kept hg (ownsRow_apart h.M h.S (by decide))
  refine ⟨⟨?_, R.other (p := ⟨ob, 3, none⟩) h.ho h.ne _, ?_, ownsRow_set M O.blk (by decide) _, ?_, h.hy, h.ne, h.hr, h.ho⟩, O.cell 3 _ rfl, O.frozen 3⟩
  · have := O.set h.ho 3 v'
    exact this
  · rw [List.map_append]
    exact ownsRow_set hown O.blk (by decide) _
  · intro x hx
    rcases List.mem_append.1 hx with hx | hx
    · exact h.hx x hx
    · rw [List.mem_singleton] at hx; rw [hx]; exact hz
/-- behind an append to the marks -/
theorem TM.mark {w : World} {rb ob cx cy n m : Nat} {deep size : Int} {xs : List Nat} {ys : List Int} {smv mkv v' : Value} {W W' : World} (h : TM w rb ob cx cy deep size n m xs ys smv mkv W) {z : Int} (hz : -1 ≤ z ∧ z ≤ 1) (hown : W'.ownsRow w.heap.size 3 1 v' (m + 1) (ys.map intV ++ [intV z])) (hg : W.grownBy W' mkv.ownBlock) :
    TM w rb ob cx cy deep size n (m + 1) xs (ys ++ [z]) smv v' (W'.setCell ⟨ob, 4, none⟩ v') ∧ W'.cell? ⟨ob, 4, none⟩ = some mkv ∧ W'.frozen? ⟨ob, 4, none⟩ = false := by
  have hrow : ∀ k, mkv.ownBlock = some k → w.heap.size ≤ k := fun k hk => (h.M.lt k hk).1
  have O := h.O.grown hg (ownsRow_ne h.M h.O.blk (by decide)) hrow
  have R := h.R.grown hg (ownsRow_ne h.M h.R.blk (by decide)) hrow
  have S := h.S.kept hg (ownsRow_apart h.S h.M (by decide))
  refine ⟨⟨?_, R.other (p := ⟨ob, 4, none⟩) h.ho h.ne _, ownsRow_set S O.blk (by decide) _, ?_, h.hx, ?_, h.ne, h.hr, h.ho⟩, O.cell 4 _ rfl, O.frozen 4⟩
  · have := O.set h.ho 4 v'
    exact this
  · rw [List.map_append]
    exact ownsRow_set hown O.blk (by decide) _
  · intro y hy
    rcases List.mem_append.1 hy with hy | hy
    · exact h.hy y hy
    · rw [List.mem_singleton] at hy; rw [hy]; exact hz
/-- at the beginning -/
theorem TM.start {w W : World} {rb : Nat} (cx cy : Nat) (deep size : Int) (R : Box w rb (tileC 0 0 0 0 (.slice none 0 0) (.slice none 0 0)) 27 W) (hr : w.heap.size ≤ rb) :
    TM w rb (W.heap.size + 1 + 1) cx cy deep size 0 0 [] [] (.slice (some ⟨W.heap.size, 0, none⟩) 0 0) (.slice (some ⟨W.heap.size + 1, 0, none⟩) 0 0) (((W.alloc (.cells #[] 66)).alloc (.cells #[] 3)).alloc (.cells (tileC cx cy deep size (.slice (some ⟨W.heap.size, 0, none⟩) 0 0) (.slice (some ⟨W.heap.size + 1, 0, none⟩) 0 0)) 27)) := by
  have hs := R.old.size
  have hlt := R.lt
  refine ⟨?_, ((R.alloc _).alloc _).alloc _, ?_, ?_, (fun x hx => by cases hx), (fun x hx => by cases hx), by omega, hr, by omega⟩
  · have := (Box.new ((W.alloc (.cells #[] 66)).alloc (.cells #[] 3)) (tileC cx cy deep size (.slice (some ⟨W.heap.size, 0, none⟩) 0 0) (.slice (some ⟨W.heap.size + 1, 0, none⟩) 0 0)) 27).up (w0 := w) ((R.alloc _).alloc _).old
    simpa only [World.size_alloc] using this
  · have := World.ownsRow_lit (e := 66) (size := 1) (base := w.heap.size) W #[] 0 hs (by decide) rfl
    exact (this.alloc _).alloc _
  · have := World.ownsRow_lit (e := 3) (size := 1) (base := w.heap.size) (W.alloc (.cells #[] 66)) #[] 0 (by simp; omega) (by decide) rfl
    rw [World.size_alloc] at this
    exact this.alloc _
/-- what a tile's rows are when it is made -/
structure Made (B n : Nat) (xs : List Nat) (ys : List Int) (smv mkv : Value) (W : World) : Prop where
  S : W.ownsRow B 66 1 smv n (xs.map floV)
  M : W.ownsRow B 3 1 mkv n (ys.map intV)
  lx : xs.length = n
  ly : ys.length = n
  hx : ∀ x, x ∈ xs → x < 4294967296
  hy : ∀ y, y ∈ ys → -1 ≤ y ∧ y ≤ 1
theorem Made.set {B n : Nat} {xs : List Nat} {ys : List Int} {smv mkv : Value} {W : World} (h : Made B n xs ys smv mkv W) {b : Nat} {C : Array Value} (hb : W.heap[b]? = some (.cells C 27 (0, 0))) (j : Nat) (u : Value) : Made B n xs ys smv mkv (W.setCell ⟨b, j, none⟩ u) :=
  ⟨ownsRow_set h.S hb (by decide) u, ownsRow_set h.M hb (by decide) u, h.lx, h.ly, h.hx, h.hy⟩
/-- the result's box is filled -/
theorem TM.made {w : World} {rb ob cx cy n : Nat} {deep size : Int} {s : Nat} {xs : List Nat} {ys : List Int} {smv mkv : Value} {W : World} (h : TM w rb ob cx cy deep size n n xs ys smv mkv W) (hn : n = s * s) (u0 u1 u2 u3 u4 : Value) :
    Made w.heap.size ((s : Int).toNat * (s : Int).toNat) xs ys smv mkv (((((W.setCell ⟨rb, 0, none⟩ u0).setCell ⟨rb, 1, none⟩ u1).setCell ⟨rb, 2, none⟩ u2).setCell ⟨rb, 3, none⟩ u3).setCell ⟨rb, 4, none⟩ u4) := by
  have lx : xs.length = n := by have := h.S.1; simpa using this
  have ly : ys.length = n := by have := h.M.1; simpa using this
  have m0 : Made w.heap.size n xs ys smv mkv W := ⟨h.S, h.M, lx, ly, h.hx, h.hy⟩
  have b0 := h.R
  have b1 := b0.set h.hr 0 u0
  have b2 := b1.set h.hr 1 u1
  have b3 := b2.set h.hr 2 u2
  have b4 := b3.set h.hr 3 u3
  rw [Int.toNat_natCast, ← hn]
  exact ((((m0.set b0.blk 0 u0).set b1.blk 1 u1).set b2.blk 2 u2).set b3.blk 3 u3).set b4.blk 4 u4
theorem Made.step {B n : Nat} {xs : List Nat} {ys : List Int} {smv mkv : Value} {W W' : World} (h : Made B n xs ys smv mkv W) (k : Below W.heap.size W W') : Made B n xs ys smv mkv W' :=
  ⟨ownsRow_step h.S k, ownsRow_step h.M k, h.lx, h.ly, h.hx, h.hy⟩
theorem Made.drw {B n : Nat} {xs : List Nat} {ys : List Int} {smv mkv : Value} {W W' : World} (h : Made B n xs ys smv mkv W) (k : Drw W W') : Made B n xs ys smv mkv W' := h.step (k.below _)
theorem Made.mono {B B' n : Nat} {xs : List Nat} {ys : List Int} {smv mkv : Value} {W : World} (h : Made B n xs ys smv mkv W) (hB : B' ≤ B) : Made B' n xs ys smv mkv W := by
  obtain ⟨⟨s1, s2⟩, ⟨m1, m2⟩, r1, r2, r3, r4⟩ := h
  refine ⟨⟨s1, ?_⟩, ⟨m1, ?_⟩, r1, r2, r3, r4⟩
  · rcases s2 with h | ⟨g, cap, cur, h1, h2, r⟩
    · exact .inl h
    · exact .inr ⟨g, cap, cur, h1, Nat.le_trans hB h2, r⟩
  · rcases m2 with h | ⟨g, cap, cur, h1, h2, r⟩
    · exact .inl h
    · exact .inr ⟨g, cap, cur, h1, Nat.le_trans hB h2, r⟩
/-- what TileMake returns -/
def TileRet (w : World) (cx cy : Nat) (deep size : Int) (good : Prop) (e : Ending) (w' : World) : Prop :=
  Below w.heap.size w w' ∧ ((¬ good ∧ e = .returned (.tuple #[tileV 0 0 0 0 (.slice none 0 0) (.slice none 0 0), .bool false])) ∨
    (placeB cx cy deep size = true ∧ ∃ xs ys smv mkv, e = .returned (.tuple #[tileV cx cy deep size smv mkv, .bool true]) ∧ Made w.heap.size (size.toNat * size.toNat) xs ys smv mkv w'))
theorem set5 {w W : World} (h : Below w.heap.size w W) {b : Nat} (hb : w.heap.size ≤ b) (u0 u1 u2 u3 u4 : Value) :
    Below w.heap.size w (((((W.setCell ⟨b, 0, none⟩ u0).setCell ⟨b, 1, none⟩ u1).setCell ⟨b, 2, none⟩ u2).setCell ⟨b, 3, none⟩ u3).setCell ⟨b, 4, none⟩ u4) :=
  ((((h.setCell (p := ⟨b, 0, none⟩) hb _).setCell (p := ⟨b, 1, none⟩) hb _).setCell (p := ⟨b, 2, none⟩) hb _).setCell (p := ⟨b, 3, none⟩) hb _).setCell (p := ⟨b, 4, none⟩) hb _
theorem TileRet.no {w : World} {cx cy : Nat} {deep size : Int} {good : Prop} {w' : World} (hb : Below w.heap.size w w') (hg : ¬ good) : TileRet w cx cy deep size good (.returned (.tuple #[.agg #[.complex .f32 0 0, .int .i64 0, .int .i64 0, .slice none 0 0, .slice none 0 0], .bool false])) w' :=
  ⟨hb, .inl ⟨hg, rfl⟩⟩
theorem TileRet.yes {w : World} {cx cy : Nat} {deep size : Int} {good : Prop} {w' : World} {xs : List Nat} {ys : List Int} {smv mkv : Value} (hb : Below w.heap.size w w') (hp : placeB cx cy deep size = true) (hm : Made w.heap.size (size.toNat * size.toNat) xs ys smv mkv w') :
    TileRet w cx cy deep size good (.returned (.tuple #[.agg #[.complex .f32 cx cy, .int .i64 deep, .int .i64 size, smv, mkv], .bool true])) w' :=
  ⟨hb, .inr ⟨hp, xs, ys, smv, mkv, rfl, hm⟩⟩
end Go.Proofs.YtdfoobemgdiobaaDoor
