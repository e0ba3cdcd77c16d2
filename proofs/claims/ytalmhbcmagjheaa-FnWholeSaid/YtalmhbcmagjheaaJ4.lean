/- Merged texts: TilM, TilC, TilB, TilE. -/
import Derived.Test.YtalmhbcmagjheaaJ3
import Derived.Laws.OwnMore
import Derived.OwnWalk
import Derived.Deep.AppendLies
import Derived.Deep.RegionWith
import Derived.Deep.DrawnRows
import Derived.Deep.Cut
import Derived.Outline
section
/- Words for tiles that the call makes. -/
namespace Go.Proofs.Ytalmhbcmagjheaa
open Go.RowKit

def floV (x : Nat) : Value := .float .f32 x
def intV (x : Int) : Value := .int .i64 x
def tileV (cx cy : Nat) (deep size : Int) (sm mk : Value) : Value := .agg #[.complex .f32 cx cy, .int .i64 deep, .int .i64 size, sm, mk]
def tileC (cx cy : Nat) (deep size : Int) (sm mk : Value) : Array Value := #[.complex .f32 cx cy, .int .i64 deep, .int .i64 size, sm, mk]
theorem infoF : (Try.prog.info? 41).map (fun i => (i.zero, i.size, i.bytes)) = some (some (.float .f32 0), 1, 4) := by kernel_rfl
theorem infoI : (Try.prog.info? 3).map (fun i => (i.zero, i.size, i.bytes)) = some (some (.int .i64 0), 1, 8) := by kernel_rfl
/-- a block of another type is no block of an owned row -/
theorem ownsRow_ne {w : World} {base : Nat} {e : TypeId} {size : Nat} {v : Value} {n : Nat} {xs : List Value} (h : w.ownsRow base e size v n xs) {b : Nat} {C : Array Value} {T : TypeId} (hb : w.heap[b]? = some (.cells C T (0, 0))) (hne : e ≠ T) : v.ownBlock ≠ some b := by
  rcases h.2 with ⟨rfl, _⟩ | ⟨g, cap, cur, rfl, _, hg, _⟩
  · simp [Value.ownBlock]
  · intro he
    simp [Value.ownBlock] at he
    subst he
    rw [hg] at hb
    injection hb with hb
    injection hb with _ hb _
    exact hne hb
/-- two owned rows of different types are apart -/
theorem ownsRow_apart {w : World} {base base' : Nat} {e e' : TypeId} {size size' : Nat} {v v' : Value} {n n' : Nat} {xs xs' : List Value} (h : w.ownsRow base e size v n xs) (h' : w.ownsRow base' e' size' v' n' xs') (hne : e ≠ e') : v.ownBlock = none ∨ v.ownBlock ≠ v'.ownBlock := by
  rcases h'.2 with ⟨rfl, _⟩ | ⟨g, cap, cur, rfl, _, hg, _⟩
  · cases hv : v.ownBlock
    · exact .inl rfl
    · exact .inr (by simp [Value.ownBlock])
  · exact .inr (ownsRow_ne h hg hne)
theorem ownsRow_step {w w' : World} {base : Nat} {e : TypeId} {size : Nat} {v : Value} {n : Nat} {xs : List Value} (h : w.ownsRow base e size v n xs) (k : Below w.heap.size w w') : w'.ownsRow base e size v n xs :=
  h.kept ⟨k.os, k.tape, k.output, k.size, fun i hi _ => k.block i hi⟩ (row := none) (by cases hv : v.ownBlock <;> simp)
theorem Box.grown {w0 W W' : World} {b : Nat} {C : Array Value} {T : TypeId} (h : Box w0 b C T W) {row : Option Nat} (hg : W.grownBy W' row) (hne : row ≠ some b) (hrow : ∀ k, row = some k → w0.heap.size ≤ k) : Box w0 b C T W' :=
  ⟨(hg.block b h.lt (fun e => hne e.symm)).trans h.blk, h.old.grown hg h.old.size hrow⟩
/-- a tile under way: its box, the result's box, and its two rows -/
structure TM (w : World) (rb ob : Nat) (cx cy : Nat) (deep size : Int) (n m : Nat) (xs : List Nat) (ys : List Int) (smv mkv : Value) (W : World) : Prop where
  O : Box w ob (tileC cx cy deep size smv mkv) 37 W
  R : Box w rb (tileC 0 0 0 0 (.slice none 0 0) (.slice none 0 0)) 37 W
  S : W.ownsRow w.heap.size 41 1 smv n (xs.map floV)
  M : W.ownsRow w.heap.size 3 1 mkv m (ys.map intV)
  hx : ∀ x, x ∈ xs → x < 4294967296
  hy : ∀ y, y ∈ ys → -1 ≤ y ∧ y ≤ 1
  ne : rb ≠ ob
  hr : w.heap.size ≤ rb
  ho : w.heap.size ≤ ob
theorem TM.step {w : World} {rb ob cx cy n m : Nat} {deep size : Int} {xs : List Nat} {ys : List Int} {smv mkv : Value} {W W' : World} (h : TM w rb ob cx cy deep size n m xs ys smv mkv W) (k : Below W.heap.size W W') : TM w rb ob cx cy deep size n m xs ys smv mkv W' :=
  ⟨h.O.step k, h.R.step k, ownsRow_step h.S k, ownsRow_step h.M k, h.hx, h.hy, h.ne, h.hr, h.ho⟩
theorem TM.alloc {w : World} {rb ob cx cy n m : Nat} {deep size : Int} {xs : List Nat} {ys : List Int} {smv mkv : Value} {W : World} (h : TM w rb ob cx cy deep size n m xs ys smv mkv W) (o : Obj) : TM w rb ob cx cy deep size n m xs ys smv mkv (W.alloc o) :=
  h.step ((Below.refl _ _).alloc (Nat.le_refl _) o)
theorem TM.drw {w : World} {rb ob cx cy n m : Nat} {deep size : Int} {xs : List Nat} {ys : List Int} {smv mkv : Value} {W W' : World} (h : TM w rb ob cx cy deep size n m xs ys smv mkv W) (k : Drw W W') : TM w rb ob cx cy deep size n m xs ys smv mkv W' := h.step (k.below _)
theorem TM.old {w : World} {rb ob cx cy n m : Nat} {deep size : Int} {xs : List Nat} {ys : List Int} {smv mkv : Value} {W : World} (h : TM w rb ob cx cy deep size n m xs ys smv mkv W) : Below w.heap.size w W := h.O.old
theorem ownsRow_set {w : World} {base : Nat} {e : TypeId} {size : Nat} {v : Value} {n : Nat} {xs : List Value} (h : w.ownsRow base e size v n xs) {b j : Nat} {C : Array Value} {T : TypeId} (hb : w.heap[b]? = some (.cells C T (0, 0))) (hne : e ≠ T) (u : Value) : (w.setCell ⟨b, j, none⟩ u).ownsRow base e size v n xs :=
  ownsRow_setCell_other h (ownsRow_ne h hb hne) u
theorem Box.cells5 {w0 W : World} {b : Nat} {v0 v1 v2 v3 v4 : Value} {T : TypeId} (h : Box w0 b #[v0, v1, v2, v3, v4] T W) :
    W.cell? ⟨b, 0, none⟩ = some v0 ∧ W.cell? ⟨b, 1, none⟩ = some v1 ∧ W.cell? ⟨b, 2, none⟩ = some v2 ∧ W.cell? ⟨b, 3, none⟩ = some v3 ∧ W.cell? ⟨b, 4, none⟩ = some v4 :=
  ⟨h.cell 0 _ rfl, h.cell 1 _ rfl, h.cell 2 _ rfl, h.cell 3 _ rfl, h.cell 4 _ rfl⟩
theorem Box.free5 {w0 W : World} {b : Nat} {C : Array Value} {T : TypeId} (h : Box w0 b C T W) :
    W.frozen? ⟨b, 0, none⟩ = false ∧ W.frozen? ⟨b, 1, none⟩ = false ∧ W.frozen? ⟨b, 2, none⟩ = false ∧ W.frozen? ⟨b, 3, none⟩ = false ∧ W.frozen? ⟨b, 4, none⟩ = false :=
  ⟨h.frozen 0, h.frozen 1, h.frozen 2, h.frozen 3, h.frozen 4⟩
theorem TM.oc {w : World} {rb ob cx cy n m : Nat} {deep size : Int} {xs : List Nat} {ys : List Int} {smv mkv : Value} {W : World} (h : TM w rb ob cx cy deep size n m xs ys smv mkv W) :
    W.cell? ⟨ob, 0, none⟩ = some (.complex .f32 cx cy) ∧ W.cell? ⟨ob, 1, none⟩ = some (.int .i64 deep) ∧ W.cell? ⟨ob, 2, none⟩ = some (.int .i64 size) ∧ W.cell? ⟨ob, 3, none⟩ = some smv ∧ W.cell? ⟨ob, 4, none⟩ = some mkv := h.O.cells5
theorem TM.rc {w : World} {rb ob cx cy n m : Nat} {deep size : Int} {xs : List Nat} {ys : List Int} {smv mkv : Value} {W : World} (h : TM w rb ob cx cy deep size n m xs ys smv mkv W) :
    W.cell? ⟨rb, 0, none⟩ = some (.complex .f32 0 0) ∧ W.cell? ⟨rb, 1, none⟩ = some (.int .i64 0) ∧ W.cell? ⟨rb, 2, none⟩ = some (.int .i64 0) ∧ W.cell? ⟨rb, 3, none⟩ = some (.slice none 0 0) ∧ W.cell? ⟨rb, 4, none⟩ = some (.slice none 0 0) := h.R.cells5
/-- behind an append to the smooth values -/
theorem TM.smooth {w : World} {rb ob cx cy n m : Nat} {deep size : Int} {xs : List Nat} {ys : List Int} {smv mkv v' : Value} {W W' : World} (h : TM w rb ob cx cy deep size n m xs ys smv mkv W) {z : Nat} (hz : z < 4294967296) (hown : W'.ownsRow w.heap.size 41 1 v' (n + 1) (xs.map floV ++ [floV z])) (hg : W.grownBy W' smv.ownBlock) :
    TM w rb ob cx cy deep size (n + 1) m (xs ++ [z]) ys v' mkv (W'.setCell ⟨ob, 3, none⟩ v') ∧ W'.cell? ⟨ob, 3, none⟩ = some smv ∧ W'.frozen? ⟨ob, 3, none⟩ = false := by
  have hrow : ∀ k, smv.ownBlock = some k → w.heap.size ≤ k := fun k hk => (h.S.lt k hk).1
  have O := h.O.grown hg (ownsRow_ne h.S h.O.blk (by decide)) hrow
  have R := h.R.grown hg (ownsRow_ne h.S h.R.blk (by decide)) hrow
  have M := h.M.kept hg (ownsRow_apart h.M h.S (by decide))
  refine ⟨⟨?_, R.other (p := ⟨ob, 3, none⟩) h.ho h.ne _, ?_, ownsRow_set M O.blk (by decide) _, ?_, h.hy, h.ne, h.hr, h.ho⟩, O.cell 3 _ rfl, O.frozen 3⟩
  · have := O.set h.ho 3 v'
    exact this
  · rw [List.map_append]
    exact ownsRow_set hown O.blk (by decide) _
  · intro x hx
    rcases List.mem_append.1 hx with hx | hx
    · exact h.hx x hx
    · rw [List.mem_singleton] at hx; rw [hx]; exact hz
/-- behind an append to the marks -/
theorem TM.mark {w : World} {rb ob cx cy n m : Nat} {deep size : Int} {xs : List Nat} {ys : List Int} {smv mkv v' : Value} {W W' : World} (h : TM w rb ob cx cy deep size n m xs ys smv mkv W) {z : Int} (hz : -1 ≤ z ∧ z ≤ 1) (hown : W'.ownsRow w.heap.size 3 1 v' (m + 1) (ys.map intV ++ [intV z])) (hg : W.grownBy W' mkv.ownBlock) :
    TM w rb ob cx cy deep size n (m + 1) xs (ys ++ [z]) smv v' (W'.setCell ⟨ob, 4, none⟩ v') ∧ W'.cell? ⟨ob, 4, none⟩ = some mkv ∧ W'.frozen? ⟨ob, 4, none⟩ = false := by
  have hrow : ∀ k, mkv.ownBlock = some k → w.heap.size ≤ k := fun k hk => (h.M.lt k hk).1
  have O := h.O.grown hg (ownsRow_ne h.M h.O.blk (by decide)) hrow
  have R := h.R.grown hg (ownsRow_ne h.M h.R.blk (by decide)) hrow
  have S := h.S.kept hg (ownsRow_apart h.S h.M (by decide))
  refine ⟨⟨?_, R.other (p := ⟨ob, 4, none⟩) h.ho h.ne _, ownsRow_set S O.blk (by decide) _, ?_, h.hx, ?_, h.ne, h.hr, h.ho⟩, O.cell 4 _ rfl, O.frozen 4⟩
  · have := O.set h.ho 4 v'
    exact this
  · rw [List.map_append]
    exact ownsRow_set hown O.blk (by decide) _
  · intro y hy
    rcases List.mem_append.1 hy with hy | hy
    · exact h.hy y hy
    · rw [List.mem_singleton] at hy; rw [hy]; exact hz
/-- at the beginning -/
theorem TM.start {w W : World} {rb : Nat} (cx cy : Nat) (deep size : Int) (R : Box w rb (tileC 0 0 0 0 (.slice none 0 0) (.slice none 0 0)) 37 W) (hr : w.heap.size ≤ rb) :
    TM w rb (W.heap.size + 1 + 1) cx cy deep size 0 0 [] [] (.slice (some ⟨W.heap.size, 0, none⟩) 0 0) (.slice (some ⟨W.heap.size + 1, 0, none⟩) 0 0) (((W.alloc (.cells #[] 41)).alloc (.cells #[] 3)).alloc (.cells (tileC cx cy deep size (.slice (some ⟨W.heap.size, 0, none⟩) 0 0) (.slice (some ⟨W.heap.size + 1, 0, none⟩) 0 0)) 37)) := by
  have hs := R.old.size
  have hlt := R.lt
  refine ⟨?_, ((R.alloc _).alloc _).alloc _, ?_, ?_, (fun x hx => by cases hx), (fun x hx => by cases hx), by omega, hr, by omega⟩
  · have := (Box.new ((W.alloc (.cells #[] 41)).alloc (.cells #[] 3)) (tileC cx cy deep size (.slice (some ⟨W.heap.size, 0, none⟩) 0 0) (.slice (some ⟨W.heap.size + 1, 0, none⟩) 0 0)) 37).up (w0 := w) ((R.alloc _).alloc _).old
    simpa only [World.size_alloc] using this
  · have := World.ownsRow_lit (e := 41) (size := 1) (base := w.heap.size) W #[] 0 hs (by decide) rfl
    exact (this.alloc _).alloc _
  · have := World.ownsRow_lit (e := 3) (size := 1) (base := w.heap.size) (W.alloc (.cells #[] 41)) #[] 0 (by simp; omega) (by decide) rfl
    rw [World.size_alloc] at this
    exact this.alloc _
/-- what a tile's rows are when it is made -/
structure Made (B n : Nat) (xs : List Nat) (ys : List Int) (smv mkv : Value) (W : World) : Prop where
  S : W.ownsRow B 41 1 smv n (xs.map floV)
  M : W.ownsRow B 3 1 mkv n (ys.map intV)
  lx : xs.length = n
  ly : ys.length = n
  hx : ∀ x, x ∈ xs → x < 4294967296
  hy : ∀ y, y ∈ ys → -1 ≤ y ∧ y ≤ 1
theorem Made.set {B n : Nat} {xs : List Nat} {ys : List Int} {smv mkv : Value} {W : World} (h : Made B n xs ys smv mkv W) {b : Nat} {C : Array Value} (hb : W.heap[b]? = some (.cells C 37 (0, 0))) (j : Nat) (u : Value) : Made B n xs ys smv mkv (W.setCell ⟨b, j, none⟩ u) :=
  ⟨ownsRow_set h.S hb (by decide) u, ownsRow_set h.M hb (by decide) u, h.lx, h.ly, h.hx, h.hy⟩
/-- the result's box is filled -/
theorem TM.made {w : World} {rb ob cx cy n : Nat} {deep size : Int} {s : Nat} {xs : List Nat} {ys : List Int} {smv mkv : Value} {W : World} (h : TM w rb ob cx cy deep size n n xs ys smv mkv W) (hn : n = s * s) (u0 u1 u2 u3 u4 : Value) :
    Made w.heap.size ((s : Int).toNat * (s : Int).toNat) xs ys smv mkv (((((W.setCell ⟨rb, 0, none⟩ u0).setCell ⟨rb, 1, none⟩ u1).setCell ⟨rb, 2, none⟩ u2).setCell ⟨rb, 3, none⟩ u3).setCell ⟨rb, 4, none⟩ u4) := by
  have lx : xs.length = n := by have := h.S.1; simpa using this
  have ly : ys.length = n := by have := h.M.1; simpa using this
  have m0 : Made w.heap.size n xs ys smv mkv W := ⟨h.S, h.M, lx, ly, h.hx, h.hy⟩
  have b0 := h.R
  have b1 := b0.set h.hr 0 u0
  have b2 := b1.set h.hr 1 u1
  have b3 := b2.set h.hr 2 u2
  have b4 := b3.set h.hr 3 u3
  rw [Int.toNat_natCast, ← hn]
  exact ((((m0.set b0.blk 0 u0).set b1.blk 1 u1).set b2.blk 2 u2).set b3.blk 3 u3).set b4.blk 4 u4
theorem Made.step {B n : Nat} {xs : List Nat} {ys : List Int} {smv mkv : Value} {W W' : World} (h : Made B n xs ys smv mkv W) (k : Below W.heap.size W W') : Made B n xs ys smv mkv W' :=
  ⟨ownsRow_step h.S k, ownsRow_step h.M k, h.lx, h.ly, h.hx, h.hy⟩
theorem Made.drw {B n : Nat} {xs : List Nat} {ys : List Int} {smv mkv : Value} {W W' : World} (h : Made B n xs ys smv mkv W) (k : Drw W W') : Made B n xs ys smv mkv W' := h.step (k.below _)
theorem Made.mono {B B' n : Nat} {xs : List Nat} {ys : List Int} {smv mkv : Value} {W : World} (h : Made B n xs ys smv mkv W) (hB : B' ≤ B) : Made B' n xs ys smv mkv W := by
  obtain ⟨⟨s1, s2⟩, ⟨m1, m2⟩, r1, r2, r3, r4⟩ := h
  refine ⟨⟨s1, ?_⟩, ⟨m1, ?_⟩, r1, r2, r3, r4⟩
  · rcases s2 with h | ⟨g, cap, cur, h1, h2, r⟩
    · exact .inl h
    · exact .inr ⟨g, cap, cur, h1, Nat.le_trans hB h2, r⟩
  · rcases m2 with h | ⟨g, cap, cur, h1, h2, r⟩
    · exact .inl h
    · exact .inr ⟨g, cap, cur, h1, Nat.le_trans hB h2, r⟩
/-- what TileMake returns -/
def TileRet (w : World) (cx cy : Nat) (deep size : Int) (good : Prop) (e : Ending) (w' : World) : Prop :=
  Below w.heap.size w w' ∧ ((¬ good ∧ e = .returned (.tuple #[tileV 0 0 0 0 (.slice none 0 0) (.slice none 0 0), .bool false])) ∨
    (placeB cx cy deep size = true ∧ ∃ xs ys smv mkv, e = .returned (.tuple #[tileV cx cy deep size smv mkv, .bool true]) ∧ Made w.heap.size (size.toNat * size.toNat) xs ys smv mkv w'))
theorem set5 {w W : World} (h : Below w.heap.size w W) {b : Nat} (hb : w.heap.size ≤ b) (u0 u1 u2 u3 u4 : Value) :
    Below w.heap.size w (((((W.setCell ⟨b, 0, none⟩ u0).setCell ⟨b, 1, none⟩ u1).setCell ⟨b, 2, none⟩ u2).setCell ⟨b, 3, none⟩ u3).setCell ⟨b, 4, none⟩ u4) :=
  ((((h.setCell (p := ⟨b, 0, none⟩) hb _).setCell (p := ⟨b, 1, none⟩) hb _).setCell (p := ⟨b, 2, none⟩) hb _).setCell (p := ⟨b, 3, none⟩) hb _).setCell (p := ⟨b, 4, none⟩) hb _
theorem TileRet.no {w : World} {cx cy : Nat} {deep size : Int} {good : Prop} {w' : World} (hb : Below w.heap.size w w') (hg : ¬ good) : TileRet w cx cy deep size good (.returned (.tuple #[.agg #[.complex .f32 0 0, .int .i64 0, .int .i64 0, .slice none 0 0, .slice none 0 0], .bool false])) w' :=
  ⟨hb, .inl ⟨hg, rfl⟩⟩
theorem TileRet.yes {w : World} {cx cy : Nat} {deep size : Int} {good : Prop} {w' : World} {xs : List Nat} {ys : List Int} {smv mkv : Value} (hb : Below w.heap.size w w') (hp : placeB cx cy deep size = true) (hm : Made w.heap.size (size.toNat * size.toNat) xs ys smv mkv w') :
    TileRet w cx cy deep size good (.returned (.tuple #[.agg #[.complex .f32 cx cy, .int .i64 deep, .int .i64 size, smv, mkv], .bool true])) w' :=
  ⟨hb, .inr ⟨hp, xs, ys, smv, mkv, rfl, hm⟩⟩
end Go.Proofs.Ytalmhbcmagjheaa
end

section
/- Walks of the reference's orbits of single numbers, for what tiles need of them: they end, with numbers. -/
namespace Go.Proofs.Ytalmhbcmagjheaa
open Go.RowKit

set_option maxHeartbeats 400000 in
theorem specSquare_any (x y : Nat) (w : World) : Calls Try.prog 88 #[.complex .f64 x y] w fun e w' => (∃ a b, e = .returned (.complex .f64 a b) ∧ a < 18446744073709551616 ∧ b < 18446744073709551616) ∧ Drw w w' := by
  obtain ⟨x1, w1, h1, _, d1⟩ := Flo.arith_any (P := Try.prog) .mul (by simp) 67 .f64 x x w
  obtain ⟨x2, w2, h2, _, d2⟩ := Flo.arith_any (P := Try.prog) .mul (by simp) 67 .f64 y y w1
  obtain ⟨a, w3, h3, ha, d3⟩ := Flo.arith_any (P := Try.prog) .sub (by simp) 67 .f64 x1 x2 w2
  obtain ⟨x4, w4, h4, _, d4⟩ := Flo.arith_any (P := Try.prog) .mul (by simp) 67 .f64 x y w3
  obtain ⟨b, w5, h5, hb, d5⟩ := Flo.arith_any (P := Try.prog) .mul (by simp) 67 .f64 4611686018427387904 x4 w4
  have HD := Lib.hid ((((d1.trans d2).trans d3).trans d4).trans d5)
  clear d1 d2 d3 d4 d5
  go_enter Try.func88, Try.ntmps88
  go_wp2
  go_ret
  exact ⟨⟨a, b, rfl, ha, hb⟩, HD.out⟩
set_option maxHeartbeats 400000 in
theorem specNorm_any (x y : Nat) (w : World) : Calls Try.prog 67 #[.complex .f64 x y] w fun e w' => (∃ a, e = .returned (.float .f64 a) ∧ a < 18446744073709551616) ∧ Drw w w' := by
  obtain ⟨x1, w1, h1, _, d1⟩ := Flo.arith_any (P := Try.prog) .mul (by simp) 67 .f64 x x w
  obtain ⟨x2, w2, h2, _, d2⟩ := Flo.arith_any (P := Try.prog) .mul (by simp) 67 .f64 y y w1
  obtain ⟨a, w3, h3, ha, d3⟩ := Flo.arith_any (P := Try.prog) .add (by simp) 67 .f64 x1 x2 w2
  have HD := Lib.hid ((d1.trans d2).trans d3)
  clear d1 d2 d3
  go_enter Try.func67, Try.ntmps67
  go_wp2
  go_ret
  exact ⟨⟨a, rfl, ha⟩, HD.out⟩
set_option maxHeartbeats 400000 in
theorem squareSingle_any (x y : Nat) (hx : x < 4294967296) (hy : y < 4294967296) (w : World) : Calls Try.prog 84 #[.complex .f32 x y] w fun e w' => (∃ a b, e = .returned (.complex .f32 a b) ∧ a < 4294967296 ∧ b < 4294967296) ∧ Drw w w' := by
  obtain ⟨p, q, w1, h1, _, _, d1⟩ := Flo.cconvert_any (P := Try.prog) 34 84 .f32 .f64 (by kernel_rfl) Try.underlying84 x y hx hy w
  have H1 := Lib.hid d1
  clear d1 hx hy
  go_enter Try.func84, Try.ntmps84
  go_wp2_with fail
  refine (specSquare_any p q _).mono ?_
  rintro e w2 ⟨⟨a, b, rfl, ha, hb⟩, hd⟩
  obtain ⟨u, v, w3, h3, hu, hv, d3⟩ := Flo.cconvert_any (P := Try.prog) 84 34 .f64 .f32 (by kernel_rfl) Try.underlying34 a b ha hb w2
  have HD := Lib.hid ((H1.out.trans hd).trans d3)
  clear hd d3 h1 H1
  go_wp2
  go_ret
  exact ⟨⟨u, v, rfl, hu, hv⟩, HD.out⟩
set_option maxHeartbeats 400000 in
theorem specStep_any (x y c d : Nat) (hx : x < 4294967296) (hy : y < 4294967296) (w : World) : Calls Try.prog 79 #[.complex .f32 x y, .complex .f32 c d] w fun e w' => (∃ a b, e = .returned (.complex .f32 a b) ∧ a < 4294967296 ∧ b < 4294967296) ∧ Drw w w' := by
  go_enter Try.func79, Try.ntmps79
  go_wp2_with fail
  refine (squareSingle_any x y hx hy _).mono ?_
  rintro e w2 ⟨⟨a, b, rfl, ha, hb⟩, hd⟩
  obtain ⟨u, v, w3, h3, hu, hv, d3⟩ := Flo.csum_any (P := Try.prog) .add (by simp) 34 .f32 a b c d w2
  have HD := Lib.hid (hd.trans d3)
  clear hd d3
  go_wp2
  go_ret
  exact ⟨⟨u, v, rfl, hu, hv⟩, HD.out⟩
set_option maxHeartbeats 2000000 in
theorem l3Escape_any (c d : Nat) (n : Int) (w : World) : Calls Try.prog 66 #[.complex .f32 c d, .int .i64 n] w fun e w' => (∃ (k : Int) (a b : Nat), e = .returned (.tuple #[.int .i64 k, .complex .f32 a b]) ∧ a < 4294967296 ∧ b < 4294967296) ∧ Drw w w' := by
  go_enter Try.func66, Try.ntmps66
  go_wp2
  go_loopw [6, 7] (fun z i wr => ∃ k x y : Nat, k ≤ 401 ∧ i = .int .i64 k ∧ z = .complex .f32 x y ∧ x < 4294967296 ∧ y < 4294967296 ∧ Hid (Drw w wr)) (fun _ i _ => (401 - intOf i).toNat)
  case atStart => exact ⟨0, 0, 0, by omega, rfl, rfl, by omega, by omega, Drw.refl _⟩
  case round =>
    obtain ⟨k, x, y, hk, rfl, rfl, hx, hy, HD⟩ := hrel
    obtain ⟨wo, rfl⟩ : ∃ wo, wo = wr := ⟨_, rfl⟩
    go_wp2_with fail
    refine (l3Most_any n _).mono ?_
    rintro e w1 ⟨⟨r, rfl, r0, r1⟩, rfl⟩
    by_cases hkr : (k : Int) ≤ r
    · obtain ⟨p, q, w1, h1, _, _, d1⟩ := Flo.cconvert_any (P := Try.prog) 34 84 .f32 .f64 (by kernel_rfl) Try.underlying84 x y hx hy wo
      have H1 := Lib.hid (HD.out.trans d1)
      clear d1
      go_wp2_with fail
      refine (specNorm_any p q _).mono ?_
      rintro e w2 ⟨⟨m, rfl, hm⟩, hd⟩
      have H2 := Lib.hid (H1.out.trans hd)
      clear hd H1 HD h1
      cases hb : (FloatKind.f64.format.order m 4616189618054758400 == some .lt || FloatKind.f64.format.order m 4616189618054758400 == some .eq) with
      | false =>
        go_wp2
        go_ret2
        exact ⟨⟨_, x, y, rfl, hx, hy⟩, H2.out⟩
      | true =>
        go_wp2_with fail
        refine (specStep_any x y c d hx hy _).mono ?_
        rintro e w3 ⟨⟨a, b, rfl, ha, hb'⟩, hd⟩
        have H3 := Lib.hid (H2.out.trans hd)
        clear hd H2
        go_wp2
        go_roundw
        case rel => exact ⟨k + 1, a, b, by omega, by go_num, rfl, ha, hb', H3⟩
        case measure => simp [intOf]; omega
    · go_wp2
      go_ret2
      exact ⟨⟨_, x, y, rfl, hx, hy⟩, HD.out⟩
set_option maxRecDepth 100000 in
set_option maxHeartbeats 1000000 in
theorem specSmooth_any (c d : Nat) (n : Int) (w : World) : Calls Try.prog 52 #[.complex .f32 c d, .int .i64 n] w fun e w' => (∃ a, e = .returned (.float .f32 a) ∧ a < 4294967296) ∧ Drw w w' := by
  go_enter Try.func52, Try.ntmps52
  go_wp2_with fail
  refine (l3Escape_any c d n _).mono ?_
  rintro e w1 ⟨⟨k, a, b, rfl, ha, hb⟩, hd⟩
  have H1 := Lib.hid hd
  clear hd
  by_cases hk : k < 0
  · go_wp2
    go_ret
    exact ⟨⟨_, rfl, by omega⟩, H1.out⟩
  · obtain ⟨p, q, w2, h2, _, _, d2⟩ := Flo.cconvert_any (P := Try.prog) 34 84 .f32 .f64 (by kernel_rfl) Try.underlying84 a b ha hb w1
    have H2 := Lib.hid (H1.out.trans d2)
    clear d2 H1
    go_wp2_with fail
    refine (specNorm_any p q _).mono ?_
    rintro e w3 ⟨⟨m, rfl, hm⟩, hd⟩
    obtain ⟨x1, w4, h4, _, d4⟩ := Flo.convert_any (P := Try.prog) 67 41 .f64 .f32 (by kernel_rfl) Try.underlying41 m hm w3
    obtain ⟨x2, w5, h5, _, d5⟩ := Flo.arith_any (P := Try.prog) .quo (by simp) 41 .f32 1082130432 x1 w4
    obtain ⟨x3, w6, h6, hx3, d6⟩ := Flo.arith_any (P := Try.prog) .add (by simp) 41 .f32 (floatOfInt .f32 k) x2 w5
    have H3 := Lib.hid ((((H2.out.trans hd).trans d4).trans d5).trans d6)
    clear hd d4 d5 d6 H2 h2 hm
    go_wp2
    go_ret
    exact ⟨⟨_, rfl, hx3⟩, H3.out⟩
end Go.Proofs.Ytalmhbcmagjheaa
end

section
/- Walks of the reference's tiles: the box of a cell. -/
namespace Go.Proofs.Ytalmhbcmagjheaa
open Go.RowKit
attribute [local go_sem ↓] Go.wp_at_zero Go.wp_at_succ

set_option maxHeartbeats 1000000 in
theorem boxOf_any (x y : Nat) (hx : x < 4294967296) (hy : y < 4294967296) (w : World) :
    Calls Try.prog 61 #[.complex .f32 x y] w fun e w' => (∃ (p q r s : Int) (t : Bool), e = .returned (.tuple #[.agg #[.int .i64 p, .int .i64 q, .int .i64 r, .int .i64 s], .bool t])) ∧ Below w.heap.size w w' := by
  have X := Box.new w #[.int .i64 0, .int .i64 0, .int .i64 0, .int .i64 0] 91
  have HF : Hid (∀ W, Below w.heap.size w W → ∀ u0 u1 u2 u3, Below w.heap.size w ((((W.setCell ⟨w.heap.size, 0, none⟩ u0).setCell ⟨w.heap.size, 1, none⟩ u1).setCell ⟨w.heap.size, 2, none⟩ u2).setCell ⟨w.heap.size, 3, none⟩ u3)) := fun W h u0 u1 u2 u3 =>
    (((h.setCell (p := ⟨w.heap.size, 0, none⟩) (Nat.le_refl _) _).setCell (p := ⟨w.heap.size, 1, none⟩) (Nat.le_refl _) _).setCell (p := ⟨w.heap.size, 2, none⟩) (Nat.le_refl _) _).setCell (p := ⟨w.heap.size, 3, none⟩) (Nat.le_refl _) _
  go_enter Try.func61, Try.ntmps61
  go_wp2_with fail
  refine (l4Steps_any x hx _).mono ?_
  rintro e w1 ⟨⟨a, b, t1, rfl⟩, hd⟩
  replace X := X.step (hd.below _)
  clear hd
  go_wp2_with fail
  refine (l4Steps_any y hy _).mono ?_
  rintro e w2 ⟨⟨c, d, t2, rfl⟩, hd⟩
  replace X := X.step (hd.below _)
  clear hd
  cases t1 with
  | false =>
    have c0 := X.cell 0 _ rfl
    have c1 := X.cell 1 _ rfl
    have c2 := X.cell 2 _ rfl
    have c3 := X.cell 3 _ rfl
    have f0 := X.frozen 0
    have f1 := X.frozen 1
    have f2 := X.frozen 2
    have f3 := X.frozen 3
    have HB := Lib.hid X.old
    clear X
    go_wp2
    exact bodyPost_ret (v := .tuple #[.agg #[.int .i64 0, .int .i64 0, .int .i64 0, .int .i64 0], .bool false]) (by simp [results, Try.f61, go_sem, c0, c1, c2, c3]) rfl ⟨⟨_, _, _, _, _, rfl⟩, HF.out _ HB.out _ _ _ _⟩
  | true =>
    cases t2 with
    | false =>
      have c0 := X.cell 0 _ rfl
      have c1 := X.cell 1 _ rfl
      have c2 := X.cell 2 _ rfl
      have c3 := X.cell 3 _ rfl
      have f0 := X.frozen 0
      have f1 := X.frozen 1
      have f2 := X.frozen 2
      have f3 := X.frozen 3
      have HB := Lib.hid X.old
      clear X
      go_wp2
      exact bodyPost_ret (v := .tuple #[.agg #[.int .i64 0, .int .i64 0, .int .i64 0, .int .i64 0], .bool false]) (by simp [results, Try.f61, go_sem, c0, c1, c2, c3]) rfl ⟨⟨_, _, _, _, _, rfl⟩, HF.out _ HB.out _ _ _ _⟩
    | true =>
      go_wp2_with fail
      refine (l4Done_any a b c d _).mono ?_
      rintro e w3 ⟨⟨p, q, r, s, t, rfl⟩, hb⟩
      replace X := X.step hb
      clear hb
      have c0 := X.cell 0 _ rfl
      have c1 := X.cell 1 _ rfl
      have c2 := X.cell 2 _ rfl
      have c3 := X.cell 3 _ rfl
      have f0 := X.frozen 0
      have f1 := X.frozen 1
      have f2 := X.frozen 2
      have f3 := X.frozen 3
      have HB := Lib.hid X.old
      clear X
      go_wp2
      exact bodyPost_ret (v := .tuple #[.agg #[.int .i64 p, .int .i64 q, .int .i64 r, .int .i64 s], .bool t]) (by simp [results, Try.f61, go_sem, c0, c1, c2, c3]) rfl ⟨⟨_, _, _, _, _, rfl⟩, HF.out _ HB.out _ _ _ _⟩
set_option maxHeartbeats 4000000 in
theorem l7Box_any (cx cy d : Nat) (i j : Int) (hd : d ≤ 11) (w : World) :
    Calls Try.prog 50 #[.complex .f32 cx cy, .int .i64 d, .int .i64 i, .int .i64 j] w fun e w' => (∃ (p q r s : Int) (t : Bool), e = .returned (.tuple #[.agg #[.int .i64 p, .int .i64 q, .int .i64 r, .int .i64 s], .bool t])) ∧ Below w.heap.size w w' := by
  have R := Box.new w #[.int .i64 0, .int .i64 0, .int .i64 0, .int .i64 0] 91
  go_enter Try.func50, Try.ntmps50
  go_wp2_with fail
  refine (l7Point_any cx cy d i j hd _).mono ?_
  rintro e w1 ⟨⟨x, y, rfl, hx, hy⟩, hd1⟩
  replace R := R.step (hd1.below _)
  clear hd1
  go_wp2_with fail
  refine (boxOf_any x y hx hy _).mono ?_
  rintro e w2 ⟨⟨p, q, r, s, t, rfl⟩, hb⟩
  replace R := R.step hb
  clear hb
  have X := (Box.new w2 #[.int .i64 p, .int .i64 q, .int .i64 r, .int .i64 s] 91).up R.old
  have hne : w2.heap.size ≠ w.heap.size := by have := R.lt; omega
  have hxb : w.heap.size ≤ w2.heap.size := R.old.size
  replace R := R.alloc (.cells #[.int .i64 p, .int .i64 q, .int .i64 r, .int .i64 s] 91)
  obtain ⟨sd, hsd⟩ : ∃ sd : Int, (16777216 : Int) / 2 ^ d = sd := ⟨_, rfl⟩
  have x1 := X.cell 1 _ rfl
  have x3 := X.cell 3 _ rfl
  have f1 := X.frozen 1
  have f3 := X.frozen 3
  go_upto_region 5 with fail
  clear x1 x3 f1 f3 X
  obtain ⟨q', hq'⟩ : ∃ q', wrap64 (q + sd) = q' := ⟨_, rfl⟩
  obtain ⟨s', hs'⟩ : ∃ s', wrap64 (s + sd) = s' := ⟨_, rfl⟩
  rw [hq', hs']
  have X := (Box.new w2 #[.int .i64 p, .int .i64 q', .int .i64 r, .int .i64 s'] 91).up (w0 := w) (by have := R.old; exact ⟨this.os, this.tape, this.output, hxb, fun k hk => by rw [← this.block k hk]; exact (Below.heap_alloc _ _ _ (by omega)).symm⟩)
  replace R : Box w w.heap.size #[.int .i64 0, .int .i64 0, .int .i64 0, .int .i64 0] 91 (w2.alloc (.cells #[.int .i64 p, .int .i64 q', .int .i64 r, .int .i64 s'] 91)) := by
    refine ⟨?_, X.old⟩
    have := R.blk
    rw [Below.heap_alloc _ _ _ (by have := R.lt; simp at this; omega)] at this
    rw [Below.heap_alloc _ _ _ (by have := R.lt; simp at this; omega)]
    exact this
  clear hq' hs' hsd hx hy
  generalize w2.heap.size = xb at *
  generalize w2.alloc (.cells #[.int .i64 p, .int .i64 q', .int .i64 r, .int .i64 s'] 91) = W at *
  have HF : Hid (∀ W, Below w.heap.size w W → ∀ u0 u1 u2 u3, Below w.heap.size w ((((W.setCell ⟨w.heap.size, 0, none⟩ u0).setCell ⟨w.heap.size, 1, none⟩ u1).setCell ⟨w.heap.size, 2, none⟩ u2).setCell ⟨w.heap.size, 3, none⟩ u3)) := fun W h u0 u1 u2 u3 =>
    (((h.setCell (p := ⟨w.heap.size, 0, none⟩) (Nat.le_refl _) _).setCell (p := ⟨w.heap.size, 1, none⟩) (Nat.le_refl _) _).setCell (p := ⟨w.heap.size, 2, none⟩) (Nat.le_refl _) _).setCell (p := ⟨w.heap.size, 3, none⟩) (Nat.le_refl _) _
  have x0 := X.cell 0 _ rfl
  have x1 := X.cell 1 _ rfl
  have x2 := X.cell 2 _ rfl
  have x3 := X.cell 3 _ rfl
  cases t with
  | false =>
    have c0 := R.cell 0 _ rfl
    have c1 := R.cell 1 _ rfl
    have c2 := R.cell 2 _ rfl
    have c3 := R.cell 3 _ rfl
    have f0 := R.frozen 0
    have f1 := R.frozen 1
    have f2 := R.frozen 2
    have f3 := R.frozen 3
    have HB := Lib.hid (X.step ((Drw.refl _).drew.below _)).old
    have HB2 := Lib.hid X.old
    clear X R
    go_region_with (fail)
    all_goals
      go_wp2
      first
        | exact bodyPost_ret (v := .tuple #[.agg #[.int .i64 p, .int .i64 q', .int .i64 r, .int .i64 s'], .bool false]) (by simp [results, Try.f50, go_sem, c0, c1, c2, c3]) rfl ⟨⟨_, _, _, _, _, rfl⟩, HF.out _ HB.out _ _ _ _⟩
        | exact bodyPost_ret (v := .tuple #[.agg #[.int .i64 p, .int .i64 q', .int .i64 r, .int .i64 s'], .bool false]) (by simp [results, Try.f50, go_sem, c0, c1, c2, c3]) rfl ⟨⟨_, _, _, _, _, rfl⟩, (HF.out _ HB2.out _ _ _ _).trans ((Drw.refl _).drew.below _)⟩
  | true =>
    replace R := R.step ((Drw.refl _).drew.below _)
    go_region_with (first
      | (go_at_call 62
         refine (boxValid_any p q' r s' _).mono ?_
         rintro e w3 ⟨rfl, hb⟩
         replace X := X.step (((Drw.refl _).drew.below _).trans hb)
         replace R := R.step hb
         have x0 := X.cell 0 _ rfl
         have x1 := X.cell 1 _ rfl
         have x2 := X.cell 2 _ rfl
         have x3 := X.cell 3 _ rfl
         have c0 := R.cell 0 _ rfl
         have c1 := R.cell 1 _ rfl
         have c2 := R.cell 2 _ rfl
         have c3 := R.cell 3 _ rfl
         have f0 := R.frozen 0
         have f1 := R.frozen 1
         have f2 := R.frozen 2
         have f3 := R.frozen 3
         have HB := Lib.hid R.old))
    all_goals
      go_wp2
      exact bodyPost_ret (v := .tuple #[.agg #[.int .i64 p, .int .i64 q', .int .i64 r, .int .i64 s'], .bool (boxOK p q' r s')]) (by simp [results, Try.f50, go_sem, c0, c1, c2, c3]) rfl ⟨⟨_, _, _, _, _, rfl⟩, HF.out _ HB.out _ _ _ _⟩
end Go.Proofs.Ytalmhbcmagjheaa
end

section
/- Walks of the reference's tiles: points and boxes of cells, with their values. -/
namespace Go.Proofs.Ytalmhbcmagjheaa
open Go.RowKit
attribute [local go_sem ↓] Go.wp_at_zero Go.wp_at_succ

set_option maxHeartbeats 400000 in
theorem l7Point_is (cx cy d : Nat) (i j : Int) (hd : d ≤ 11) {p q x y : Nat} (h1 : floatBits .mul .f32 (floatOfInt .f32 j) (Flo.sideF d) = some p) (h2 : floatBits .mul .f32 (floatOfInt .f32 i) (Flo.sideF d) = some q)
    (h3 : floatBits .add .f32 cx p = some x) (h4 : floatBits .add .f32 cy q = some y) (w : World) :
    Calls Try.prog 53 #[.complex .f32 cx cy, .int .i64 d, .int .i64 i, .int .i64 j] w fun e w' => e = .returned (.complex .f32 x y) ∧ w = w' := by
  have g1 := fun w => run_float_arith (P := Try.prog) w .mul 41 .f32 _ _ _ h1
  have g2 := fun w => run_float_arith (P := Try.prog) w .mul 41 .f32 _ _ _ h2
  have g3 := fun w => run_complex_sum (P := Try.prog) w .add (.inl rfl) 34 .f32 cx cy p q x y (by unfold cSumBits; rw [h3, h4]; rfl)
  have HS := Lib.hid (fun w => l7Side_is d hd w)
  clear h1 h2 h3 h4
  generalize Flo.sideF d = r at *
  go_enter Try.func53, Try.ntmps53
  go_wp2_with (go_at_call 54; refine (HS.out _).mono ?_; rintro e w' ⟨rfl, rfl⟩)
  go_ret
  exact ⟨rfl, rfl⟩
set_option maxRecDepth 100000 in
set_option maxHeartbeats 1000000 in
theorem l4Steps_val (x d : Nat) (n N : Int) (hd : d ≤ 11) (hx : Flo.Pt x d n) (hn : n.natAbs ≤ 65536) (hN : N = n * (2 ^ (24 - d) : Nat)) (h1 : -134217728 ≤ N) (h2 : N ≤ 134217728) (w : World) :
    Calls Try.prog 71 #[.float .f32 x] w fun e w' => e = .returned (.tuple #[.int .i64 N, .int .i64 N, .bool true]) ∧ w = w' := by
  obtain ⟨y1, y, e1, e2, hv, e3⟩ := Flo.steps_pt hd hx hn
  rw [← hN] at hv e3
  obtain ⟨b1, b2, b3, b4⟩ := Flo.steps_tests (by omega) hv
  rw [decide_eq_true h1] at b1
  rw [decide_eq_true h2] at b2
  have g1 := fun w => run_convert_float_float (P := Try.prog) w 41 67 .f32 .f64 _ _ (by kernel_rfl) Try.underlying67 e1
  have g2 := fun w => run_float_arith (P := Try.prog) w .mul 67 .f64 _ _ _ e2
  have g3 := fun w => run_convert_float_int (P := Try.prog) w 67 3 .f64 .i64 _ _ (by kernel_rfl) Try.underlying3 e3
  clear e1 e2 e3 hv hx hn hN h1 h2 hd
  go_enter Try.func71, Try.ntmps71
  go_wp2
  go_ret3
  exact ⟨rfl, rfl⟩
set_option maxHeartbeats 1000000 in
theorem l4Done_val (a b c d : Int) (hv : boxOK a b c d = true) (w : World) : Calls Try.prog 72 #[.agg #[.int .i64 a, .int .i64 b, .int .i64 c, .int .i64 d]] w fun e w' => e = .returned (.tuple #[.agg #[.int .i64 a, .int .i64 b, .int .i64 c, .int .i64 d], .bool true]) ∧ Below w.heap.size w w' := by
  have X0 : Box w w.heap.size #[.int .i64 a, .int .i64 b, .int .i64 c, .int .i64 d] 91 ((w.alloc (.cells #[.int .i64 a, .int .i64 b, .int .i64 c, .int .i64 d] 91)).alloc (.cells #[.int .i64 0, .int .i64 0, .int .i64 0, .int .i64 0] 91)) := (Box.new w _ _).alloc _
  have X1 : Box w (w.heap.size + 1) #[.int .i64 0, .int .i64 0, .int .i64 0, .int .i64 0] 91 ((w.alloc (.cells #[.int .i64 a, .int .i64 b, .int .i64 c, .int .i64 d] 91)).alloc (.cells #[.int .i64 0, .int .i64 0, .int .i64 0, .int .i64 0] 91)) := by
    have := (Box.new (w.alloc (.cells #[.int .i64 a, .int .i64 b, .int .i64 c, .int .i64 d] 91)) #[.int .i64 0, .int .i64 0, .int .i64 0, .int .i64 0] 91).up (w0 := w) ((Below.refl _ _).alloc (Nat.le_refl _) _)
    rwa [World.size_alloc] at this
  have HF : Hid (∀ W, Below w.heap.size w W → ∀ u0 u1 u2 u3, Below w.heap.size w ((((W.setCell ⟨w.heap.size + 1, 0, none⟩ u0).setCell ⟨w.heap.size + 1, 1, none⟩ u1).setCell ⟨w.heap.size + 1, 2, none⟩ u2).setCell ⟨w.heap.size + 1, 3, none⟩ u3)) := fun W h u0 u1 u2 u3 =>
    (((h.setCell (p := ⟨w.heap.size + 1, 0, none⟩) (by simp) _).setCell (p := ⟨w.heap.size + 1, 1, none⟩) (by simp) _).setCell (p := ⟨w.heap.size + 1, 2, none⟩) (by simp) _).setCell (p := ⟨w.heap.size + 1, 3, none⟩) (by simp) _
  go_enter Try.func72, Try.ntmps72
  go_wp2_with fail
  refine (boxValid_any a b c d _).mono ?_
  rw [hv]
  rintro e w1 ⟨rfl, hb⟩
  replace X0 := X0.step hb
  replace X1 := X1.step hb
  clear hb
  have x0 := X0.cell 0 _ rfl
  have x1 := X0.cell 1 _ rfl
  have x2 := X0.cell 2 _ rfl
  have x3 := X0.cell 3 _ rfl
  have c0 := X1.cell 0 _ rfl
  have c1 := X1.cell 1 _ rfl
  have c2 := X1.cell 2 _ rfl
  have c3 := X1.cell 3 _ rfl
  have f0 := X1.frozen 0
  have f1 := X1.frozen 1
  have f2 := X1.frozen 2
  have f3 := X1.frozen 3
  have HB := Lib.hid X1.old
  clear X0 X1
  go_wp2
  exact bodyPost_ret (v := .tuple #[.agg #[.int .i64 a, .int .i64 b, .int .i64 c, .int .i64 d], .bool true]) (by simp [results, Try.f72, go_sem, c0, c1, c2, c3]) rfl ⟨rfl, HF.out _ HB.out _ _ _ _⟩
set_option maxHeartbeats 1000000 in
theorem boxOf_val (x y d : Nat) (a b A B : Int) (hd : d ≤ 11) (hx : Flo.Pt x d a) (hy : Flo.Pt y d b) (ha : a.natAbs ≤ 65536) (hb : b.natAbs ≤ 65536) (hA : A = a * (2 ^ (24 - d) : Nat)) (hB : B = b * (2 ^ (24 - d) : Nat))
    (h1 : -134217728 ≤ A) (h2 : A ≤ 134217728) (h3 : -134217728 ≤ B) (h4 : B ≤ 134217728) (w : World) :
    Calls Try.prog 61 #[.complex .f32 x y] w fun e w' => e = .returned (.tuple #[.agg #[.int .i64 A, .int .i64 A, .int .i64 B, .int .i64 B], .bool true]) ∧ Below w.heap.size w w' := by
  have X := Box.new w #[.int .i64 0, .int .i64 0, .int .i64 0, .int .i64 0] 91
  have HF : Hid (∀ W, Below w.heap.size w W → ∀ u0 u1 u2 u3, Below w.heap.size w ((((W.setCell ⟨w.heap.size, 0, none⟩ u0).setCell ⟨w.heap.size, 1, none⟩ u1).setCell ⟨w.heap.size, 2, none⟩ u2).setCell ⟨w.heap.size, 3, none⟩ u3)) := fun W h u0 u1 u2 u3 =>
    (((h.setCell (p := ⟨w.heap.size, 0, none⟩) (Nat.le_refl _) _).setCell (p := ⟨w.heap.size, 1, none⟩) (Nat.le_refl _) _).setCell (p := ⟨w.heap.size, 2, none⟩) (Nat.le_refl _) _).setCell (p := ⟨w.heap.size, 3, none⟩) (Nat.le_refl _) _
  have HX := Lib.hid (fun w => l4Steps_val x d a A hd hx ha hA h1 h2 w)
  have HY := Lib.hid (fun w => l4Steps_val y d b B hd hy hb hB h3 h4 w)
  have HV : Hid (boxOK A A B B = true) := by
    show boxOK A A B B = true
    unfold boxOK inB
    simp only [Bool.and_eq_true, decide_eq_true_eq]
    omega
  clear hx hy hA hB ha hb
  go_enter Try.func61, Try.ntmps61
  go_wp2_with fail
  refine (HX.out _).mono ?_
  rintro e w1 ⟨rfl, rfl⟩
  go_wp2_with fail
  refine (HY.out _).mono ?_
  rintro e w1 ⟨rfl, rfl⟩
  go_wp2_with fail
  refine (l4Done_val A A B B HV.out _).mono ?_
  rintro e w3 ⟨rfl, hb⟩
  replace X := X.step hb
  clear hb
  have c0 := X.cell 0 _ rfl
  have c1 := X.cell 1 _ rfl
  have c2 := X.cell 2 _ rfl
  have c3 := X.cell 3 _ rfl
  have f0 := X.frozen 0
  have f1 := X.frozen 1
  have f2 := X.frozen 2
  have f3 := X.frozen 3
  have HB := Lib.hid X.old
  clear X
  go_wp2
  exact bodyPost_ret (v := .tuple #[.agg #[.int .i64 A, .int .i64 A, .int .i64 B, .int .i64 B], .bool true]) (by simp [results, Try.f61, go_sem, c0, c1, c2, c3]) rfl ⟨rfl, HF.out _ HB.out _ _ _ _⟩
theorem side_steps (d : Nat) (hd : d ≤ 11) : (16777216 : Int) / 2 ^ d = (2 ^ (24 - d) : Nat) := by
  rcases (by omega : d = 0 ∨ d = 1 ∨ d = 2 ∨ d = 3 ∨ d = 4 ∨ d = 5 ∨ d = 6 ∨ d = 7 ∨ d = 8 ∨ d = 9 ∨ d = 10 ∨ d = 11) with rfl | rfl | rfl | rfl | rfl | rfl | rfl | rfl | rfl | rfl | rfl | rfl <;> rfl
set_option maxHeartbeats 4000000 in
theorem l7Box_val (cx cy d : Nat) (i j : Int) (a b A B S : Int) (hd : d ≤ 11) (hx : Flo.Pt cx d a) (hy : Flo.Pt cy d b) (ha : a.natAbs ≤ 60000) (hb : b.natAbs ≤ 60000) (hi : i.natAbs ≤ 5000) (hj : j.natAbs ≤ 5000)
    (hS : S = (2 ^ (24 - d) : Nat)) (hA : A = (a + j) * S) (hB : B = (b + i) * S) (h1 : -134217728 ≤ A) (h2 : A + S ≤ 134217728) (h3 : -134217728 ≤ B) (h4 : B + S ≤ 134217728) (w : World) :
    Calls Try.prog 50 #[.complex .f32 cx cy, .int .i64 d, .int .i64 i, .int .i64 j] w fun e w' => e = .returned (.tuple #[.agg #[.int .i64 A, .int .i64 (A + S), .int .i64 B, .int .i64 (B + S)], .bool true]) ∧ Below w.heap.size w w' := by
  have R := Box.new w #[.int .i64 0, .int .i64 0, .int .i64 0, .int .i64 0] 91
  have hS0 : 0 < S := by rw [hS]; have := Nat.two_pow_pos (24 - d); omega
  obtain ⟨p, x, e1, e2, hp⟩ := Flo.point_pt hd hx (by omega) j (by omega)
  obtain ⟨q, y, e3, e4, hq⟩ := Flo.point_pt hd hy (by omega) i (by omega)
  have HP := Lib.hid (fun w => l7Point_is cx cy d i j hd e1 e3 e2 e4 w)
  have HO := Lib.hid (fun w => boxOf_val x y d (a + j) (b + i) A B hd hp hq (by omega) (by omega) (by rw [hA, hS]) (by rw [hB, hS]) h1 (by omega) h3 (by omega) w)
  have hV : boxOK A (A + S) B (B + S) = true := by
    unfold boxOK inB
    simp only [Bool.and_eq_true, decide_eq_true_eq]
    omega
  have hsd : (16777216 : Int) / 2 ^ d = S := by rw [hS]; exact side_steps d hd
  have hw1 : -9000000000 ≤ A + S := by omega
  have hw2 : A + S ≤ 9000000000 := by omega
  have hw3 : -9000000000 ≤ B + S := by omega
  have hw4 : B + S ≤ 9000000000 := by omega
  have HV := Lib.hid hV
  clear e1 e2 e3 e4 hp hq hx hy ha hb hi hj hS hA hB hV
  go_enter Try.func50, Try.ntmps50
  go_wp2_with fail
  refine (HP.out _).mono ?_
  rintro e w1 ⟨rfl, rfl⟩
  go_wp2_with fail
  refine (HO.out _).mono ?_
  rintro e w2 ⟨rfl, hb⟩
  replace R := R.step hb
  clear hb HP HO
  have X := (Box.new w2 #[.int .i64 A, .int .i64 A, .int .i64 B, .int .i64 B] 91).up R.old
  have hne : w2.heap.size ≠ w.heap.size := by have := R.lt; omega
  have hxb : w.heap.size ≤ w2.heap.size := R.old.size
  replace R := R.alloc (.cells #[.int .i64 A, .int .i64 A, .int .i64 B, .int .i64 B] 91)
  have x1 := X.cell 1 _ rfl
  have x3 := X.cell 3 _ rfl
  have f1 := X.frozen 1
  have f3 := X.frozen 3
  go_upto_region 5 with fail
  clear x1 x3 f1 f3 X
  have X := (Box.new w2 #[.int .i64 A, .int .i64 (A + S), .int .i64 B, .int .i64 (B + S)] 91).up (w0 := w) (by have := R.old; exact ⟨this.os, this.tape, this.output, hxb, fun k hk => by rw [← this.block k hk]; exact (Below.heap_alloc _ _ _ (by omega)).symm⟩)
  replace R : Box w w.heap.size #[.int .i64 0, .int .i64 0, .int .i64 0, .int .i64 0] 91 (w2.alloc (.cells #[.int .i64 A, .int .i64 (A + S), .int .i64 B, .int .i64 (B + S)] 91)) := by
    refine ⟨?_, X.old⟩
    have := R.blk
    rw [Below.heap_alloc _ _ _ (by have := R.lt; simp at this; omega)] at this
    rw [Below.heap_alloc _ _ _ (by have := R.lt; simp at this; omega)]
    exact this
  clear hsd
  generalize w2.heap.size = xb at *
  generalize w2.alloc (.cells #[.int .i64 A, .int .i64 (A + S), .int .i64 B, .int .i64 (B + S)] 91) = W at *
  have HF : Hid (∀ W, Below w.heap.size w W → ∀ u0 u1 u2 u3, Below w.heap.size w ((((W.setCell ⟨w.heap.size, 0, none⟩ u0).setCell ⟨w.heap.size, 1, none⟩ u1).setCell ⟨w.heap.size, 2, none⟩ u2).setCell ⟨w.heap.size, 3, none⟩ u3)) := fun W h u0 u1 u2 u3 =>
    (((h.setCell (p := ⟨w.heap.size, 0, none⟩) (Nat.le_refl _) _).setCell (p := ⟨w.heap.size, 1, none⟩) (Nat.le_refl _) _).setCell (p := ⟨w.heap.size, 2, none⟩) (Nat.le_refl _) _).setCell (p := ⟨w.heap.size, 3, none⟩) (Nat.le_refl _) _
  have x0 := X.cell 0 _ rfl
  have x1 := X.cell 1 _ rfl
  have x2 := X.cell 2 _ rfl
  have x3 := X.cell 3 _ rfl
  replace R := R.step ((Drw.refl _).drew.below _)
  have HBV := Lib.hid (fun W => boxValid_any A (A + S) B (B + S) W)
  rw [HV.out] at HBV
  go_region_with (first
    | (go_at_call 62
       refine (HBV.out _).mono ?_
       rintro e w3 ⟨rfl, hb⟩
       replace X := X.step (((Drw.refl _).drew.below _).trans hb)
       replace R := R.step hb
       have x0 := X.cell 0 _ rfl
       have x1 := X.cell 1 _ rfl
       have x2 := X.cell 2 _ rfl
       have x3 := X.cell 3 _ rfl
       have c0 := R.cell 0 _ rfl
       have c1 := R.cell 1 _ rfl
       have c2 := R.cell 2 _ rfl
       have c3 := R.cell 3 _ rfl
       have f0 := R.frozen 0
       have f1 := R.frozen 1
       have f2 := R.frozen 2
       have f3 := R.frozen 3
       have HB := Lib.hid R.old))
  all_goals
    go_wp2
    exact bodyPost_ret (v := .tuple #[.agg #[.int .i64 A, .int .i64 (A + S), .int .i64 B, .int .i64 (B + S)], .bool true]) (by simp [results, Try.f50, go_sem, c0, c1, c2, c3]) rfl ⟨rfl, HF.out _ HB.out _ _ _ _⟩
end Go.Proofs.Ytalmhbcmagjheaa
end
