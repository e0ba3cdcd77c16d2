/- Merged texts: TrdR. -/
import Derived.Test.YtidbdokoonikpaaGreatDoorJ14
import Derived.Test.YtidbdokoonikpaaGreatDoorJ15
import Derived.Deep.Cut
import Derived.Deep.CutRange
section
/- Walks: the reference's TileRead at whatever text. -/
namespace Go.Proofs.YtidbdokoonikpaaGreatDoor
open Go.RowKit Flo
attribute [local go_sem] run_store_float run_store_complex

/-- what was there stands -/
def KW (w1 W : World) : Prop := Below w1.heap.size w1 W
theorem KW.drew {w1 W : World} (h : KW w1 W) : KW w1 W.drew := Below.drew h
theorem KW.alloc {w1 W : World} {o : Obj} (h : KW w1 W) : KW w1 (W.alloc o) := Below.alloc h h.size o
theorem KW.set {w1 W : World} {b j : Nat} {v : Value} (h : KW w1 W) (hb : w1.heap.size ≤ b) : KW w1 (W.setCell ⟨b, j, none⟩ v) := Below.setCell h (p := ⟨b, j, none⟩) hb v
theorem KW.step {w1 W W' : World} (h : KW w1 W) (k : Below W.heap.size W W') : KW w1 W' := Below.trans h (k.mono h.size)
/-- an empty row's block -/
structure EM (w1 : World) (b : Nat) (T : TypeId) (W : World) : Prop where
  blk : W.heap[b]? = some (.cells #[] T (0, 0))
  ge : w1.heap.size ≤ b
theorem EM.new {w1 W : World} {T : TypeId} (h : KW w1 W) : EM w1 W.heap.size T (W.alloc (.cells #[] T)) := ⟨(MapKept.heap_alloc W _).1, h.size⟩
theorem EM.lt {w1 W : World} {b : Nat} {T : TypeId} (h : EM w1 b T W) : b < W.heap.size := (Array.getElem?_eq_some_iff.1 h.blk).1
theorem EM.step {w1 W W' : World} {b : Nat} {T : TypeId} (h : EM w1 b T W) (k : Below W.heap.size W W') : EM w1 b T W' := ⟨(k.block b h.lt).trans h.blk, h.ge⟩
theorem EM.drew {w1 W : World} {b : Nat} {T : TypeId} (h : EM w1 b T W) : EM w1 b T W.drew := ⟨h.blk, h.ge⟩
theorem EM.alloc {w1 W : World} {b : Nat} {T : TypeId} {o : Obj} (h : EM w1 b T W) : EM w1 b T (W.alloc o) := h.step ((Below.refl _ _).alloc (Nat.le_refl _) o)
theorem Box.newK {w1 W : World} {C : Array Value} {T : TypeId} (h : KW w1 W) : Box w1 W.heap.size C T (W.alloc (.cells C T)) := (Box.new W C T).up h
theorem Box.newE {w1 W : World} {b : Nat} {C : Array Value} {T : TypeId} (h : KW w1 W) (hb : b = W.heap.size) : Box w1 b C T (W.alloc (.cells C T)) := by subst hb; exact Box.newK h
theorem Box.drew {w1 W : World} {b : Nat} {C : Array Value} {T : TypeId} (h : Box w1 b C T W) : Box w1 b C T W.drew := ⟨h.blk, h.old.drew⟩
theorem EM.newE {w1 W : World} {b : Nat} {T : TypeId} (h : KW w1 W) (hb : b = W.heap.size) : EM w1 b T (W.alloc (.cells #[] T)) := by subst hb; exact EM.new h
theorem EM.own {w0 w1 W : World} {b : Nat} {T : TypeId} {s : Nat} (h : EM w1 b T W) (k : w0.heap.size ≤ w1.heap.size) : W.ownsRow w0.heap.size T s (.slice (some ⟨b, 0, none⟩) 0 0) 0 [] :=
  ⟨by simp, .inr ⟨b, 0, #[], rfl, Nat.le_trans k h.ge, h.blk, Nat.le_refl _, by decide, by simp, by simp⟩⟩
theorem EM.far {w1 W : World} {b ob : Nat} {T T' : TypeId} {C : Array Value} (h : EM w1 b T W) (hO : Box w1 ob C T' W) (hT : T ≠ T') (j : Nat) (v : Value) : EM w1 b T (W.setCell ⟨ob, j, none⟩ v) := by
  have hne : b ≠ ob := by
    intro e
    subst e
    have := h.blk.symm.trans hO.blk
    injection this with this
    injection this with _ h2 _
    exact hT h2
  exact ⟨(Below.heap_setCell W ⟨ob, j, none⟩ v b hne).trans h.blk, h.ge⟩
/-- what the tile's literal leaves -/
def LitOut (w w1 : World) (ob gs gm cx cy : Nat) (deep size : Int) (wx : World) : Prop :=
  TM w w.heap.size ob cx cy deep size 0 0 [] [] (.slice (some ⟨gs, 0, none⟩) 0 0) (.slice (some ⟨gm, 0, none⟩) 0 0) wx ∧ KW w1 wx
theorem LitOut.mk' {w w1 wx : World} {ob gs gm cx cy : Nat} {deep size : Int} (R : Box w w.heap.size (tileC 0 0 0 0 (.slice none 0 0) (.slice none 0 0)) 27 w1) (K : KW w1 wx) (E1 : EM w1 gs 57 wx) (E2 : EM w1 gm 3 wx) (O : Box w1 ob (tileC cx cy deep size (.slice (some ⟨gs, 0, none⟩) 0 0) (.slice (some ⟨gm, 0, none⟩) 0 0)) 27 wx) (ho : w1.heap.size ≤ ob) :
    LitOut w w1 ob gs gm cx cy deep size wx := by
  have hs := R.old.size
  have hlt := R.lt
  exact ⟨⟨O.up R.old, R.step K, E1.own hs, E2.own hs, (fun x hx => by cases hx), (fun x hx => by cases hx), by omega, Nat.le_refl _, by omega⟩, K⟩
theorem lit_new {w w1 W : World} {ob gs gm cx cy : Nat} {deep size : Int} (R : Box w w.heap.size (tileC 0 0 0 0 (.slice none 0 0) (.slice none 0 0)) 27 w1) (K : KW w1 W) (E1 : EM w1 gs 57 W) (E2 : EM w1 gm 3 W) (hb : ob = W.heap.size) :
    LitOut w w1 ob gs gm cx cy deep size (W.alloc (.cells #[.complex .f32 cx cy, .int .i64 deep, .int .i64 size, .slice (some ⟨gs, 0, none⟩) 0 0, .slice (some ⟨gm, 0, none⟩) 0 0] 27)) :=
  LitOut.mk' R K.alloc E1.alloc E2.alloc (Box.newE K hb) (by have := K.size; omega)
theorem lit_set {w w1 W : World} {ob gs gm cx cy : Nat} {deep size : Int} (R : Box w w.heap.size (tileC 0 0 0 0 (.slice none 0 0) (.slice none 0 0)) 27 w1) (_ : KW w1 W) (E1 : EM w1 gs 57 W) (E2 : EM w1 gm 3 W) (O : Box w1 ob #[.complex .f32 0 0, .int .i64 0, .int .i64 0, .slice none 0 0, .slice none 0 0] 27 W) (ho : w1.heap.size ≤ ob) :
    LitOut w w1 ob gs gm cx cy deep size (((((W.setCell ⟨ob, 0, none⟩ (.complex .f32 cx cy)).setCell ⟨ob, 1, none⟩ (.int .i64 deep)).setCell ⟨ob, 2, none⟩ (.int .i64 size)).setCell ⟨ob, 3, none⟩ (.slice (some ⟨gs, 0, none⟩) 0 0)).setCell ⟨ob, 4, none⟩ (.slice (some ⟨gm, 0, none⟩) 0 0)) := by
  have O0 := O.set ho 0 (.complex .f32 cx cy)
  have O1 := O0.set ho 1 (.int .i64 deep)
  have O2 := O1.set ho 2 (.int .i64 size)
  have O3 := O2.set ho 3 (.slice (some ⟨gs, 0, none⟩) 0 0)
  have O4 := O3.set ho 4 (.slice (some ⟨gm, 0, none⟩) 0 0)
  refine LitOut.mk' R O4.old ?_ ?_ O4 ho
  · exact (((((E1.far O (by decide) _ _).far O0 (by decide) _ _).far O1 (by decide) _ _).far O2 (by decide) _ _).far O3 (by decide) _ _)
  · exact (((((E2.far O (by decide) _ _).far O0 (by decide) _ _).far O1 (by decide) _ _).far O2 (by decide) _ _).far O3 (by decide) _ _)
theorem wp_hold {P : Program} {o : Oper} {a : Act} {w : World} {K : Act → World → Prop} {Q : Exit → Act → World → Prop} (h : ∀ K' : Act → World → Prop, (∀ a' w', K a' w' → K' a' w') → o.wp P a w K' Q) : o.wp P a w K Q := h K (fun _ _ h => h)
theorem hac_of {ops : Array Oper} (h : (List.range ops.size).all (fun i => ((ops[i]?).map (fun o => o.after.all fun e => decide (e.on < i))).getD true) = true) : ∀ (i : Nat) (o : Oper), ops[i]? = some o → ∀ e ∈ o.after, e.on < i := by
  intro i o ho e he
  have hi := (Array.getElem?_eq_some_iff.1 ho).1
  have h1 := List.all_eq_true.1 h i (List.mem_range.2 hi)
  rw [ho] at h1
  simp only [Option.map_some, Option.getD_some] at h1
  have h2 := Array.all_eq_true_iff_forall_mem.1 h1 e he
  simpa using h2
/-- what each operation of the literal has left -/
def LitF (w1 : World) (g n cap x1 x2 : Nat) (A3 A4 : ByteArray) (ok3 ok4 : Int → Prop) : Nat → Value → World → Prop
  | 0, v, _ => v = .float .f32 x1
  | 1, v, _ => v = .float .f32 x2
  | 2, v, _ => v = .complex .f32 x1 x2
  | 3, v, _ => v = .slice (some ⟨g, 0, none⟩) n cap
  | 4, v, _ => v = .pointer (some ⟨g, 3, none⟩)
  | 5, v, _ => v = .string A3
  | 6, v, _ => ∃ k, v = .int .i64 k ∧ ok3 k
  | 7, v, _ => v = .slice (some ⟨g, 0, none⟩) n cap
  | 8, v, _ => v = .pointer (some ⟨g, 4, none⟩)
  | 9, v, _ => v = .string A4
  | 10, v, _ => ∃ k, v = .int .i64 k ∧ ok4 k
  | 11, v, W => ∃ b, v = .slice (some ⟨b, 0, none⟩) 0 0 ∧ EM w1 b 57 W
  | 12, v, W => ∃ b, v = .slice (some ⟨b, 0, none⟩) 0 0 ∧ EM w1 b 3 W
  | 13, v, W => ∃ k3 k4 gs gm, v = .agg #[.complex .f32 x1 x2, .int .i64 k3, .int .i64 k4, .slice (some ⟨gs, 0, none⟩) 0 0, .slice (some ⟨gm, 0, none⟩) 0 0] ∧ ok3 k3 ∧ ok4 k4 ∧ EM w1 gs 57 W ∧ EM w1 gm 3 W
  | 14, v, W => ∃ b, v = .pointer (some ⟨b, 0, none⟩) ∧ w1.heap.size ≤ b ∧ Box w1 b #[.complex .f32 0 0, .int .i64 0, .int .i64 0, .slice none 0 0, .slice none 0 0] 27 W
  | _, _, _ => True
theorem LitF.step {w1 : World} {g n cap x1 x2 : Nat} {A3 A4 : ByteArray} {ok3 ok4 : Int → Prop} {W W' : World} (k : Below W.heap.size W W') : ∀ (j : Nat) (v : Value), LitF w1 g n cap x1 x2 A3 A4 ok3 ok4 j v W → LitF w1 g n cap x1 x2 A3 A4 ok3 ok4 j v W'
  | 0, _, h => h
  | 1, _, h => h
  | 2, _, h => h
  | 3, _, h => h
  | 4, _, h => h
  | 5, _, h => h
  | 6, _, h => h
  | 7, _, h => h
  | 8, _, h => h
  | 9, _, h => h
  | 10, _, h => h
  | 11, _, ⟨b, e, h⟩ => ⟨b, e, h.step k⟩
  | 12, _, ⟨b, e, h⟩ => ⟨b, e, h.step k⟩
  | 13, _, ⟨k3, k4, gs, gm, e, o3, o4, h1, h2⟩ => ⟨k3, k4, gs, gm, e, o3, o4, h1.step k, h2.step k⟩
  | 14, _, ⟨b, e, hb, h⟩ => ⟨b, e, hb, h.step k⟩
  | _ + 15, _, _ => trivial
/-- the state of the literal's region -/
def LitS (w w1 : World) (g n cap x1 x2 : Nat) (A3 A4 : ByteArray) (ok3 ok4 : Int → Prop) (D : Nat → Bool) (u : Nat → Value) (W : World) : Prop :=
  (D 15 = false ∧ KW w1 W ∧ ∀ j, D j = true → LitF w1 g n cap x1 x2 A3 A4 ok3 ok4 j (u j) W) ∨
  (D 15 = true ∧ (∀ j, j < 15 → D j = true) ∧ ∃ ob gs gm k3 k4, u 14 = .pointer (some ⟨ob, 0, none⟩) ∧ ok3 k3 ∧ ok4 k4 ∧ LitOut w w1 ob gs gm x1 x2 k3 k4 W)
theorem LitS.open {w w1 : World} {g n cap x1 x2 : Nat} {A3 A4 : ByteArray} {ok3 ok4 : Int → Prop} {D : Nat → Bool} {u : Nat → Value} {W : World} (h : LitS w w1 g n cap x1 x2 A3 A4 ok3 ok4 D u W) {i : Nat} (hi : i < 16) (hD : D i = false) :
    D 15 = false ∧ KW w1 W ∧ ∀ j, D j = true → LitF w1 g n cap x1 x2 A3 A4 ok3 ok4 j (u j) W := by
  rcases h with h | ⟨h1, h2, _⟩
  · exact h
  · by_cases hi15 : i = 15
    · subst hi15; rw [hD] at h1; cases h1
    · have := h2 i (by omega); rw [hD] at this; cases this
theorem LitS.put {w w1 : World} {g n cap x1 x2 : Nat} {A3 A4 : ByteArray} {ok3 ok4 : Int → Prop} {D : Nat → Bool} {u : Nat → Value} {W W' : World} (h : D 15 = false ∧ KW w1 W ∧ ∀ j, D j = true → LitF w1 g n cap x1 x2 A3 A4 ok3 ok4 j (u j) W) (i : Nat) (hi : i < 15) (v : Value) (k : Below W.heap.size W W') (hv : LitF w1 g n cap x1 x2 A3 A4 ok3 ok4 i v W') :
    LitS w w1 g n cap x1 x2 A3 A4 ok3 ok4 (fun j => if j = i then true else D j) (fun j => if j = i then v else u j) W' := by
  refine .inl ⟨?_, h.2.1.step k, fun j hj => ?_⟩
  · simp only; rw [if_neg (by omega)]; exact h.1
  · by_cases e : j = i
    · subst e; simp only [if_true]; exact hv
    · simp only [if_neg e] at hj ⊢
      exact LitF.step k _ _ (h.2.2 j hj)
/-- a tile under way, beside the pieces of a text -/
structure TMS (w : World) (rb ob cx cy : Nat) (deep size : Int) (n m : Nat) (xs : List Nat) (ys : List Int) (smv mkv : Value) (g cap : Nat) (P : List (List UInt8)) (W : World) : Prop where
  T : TM w rb ob cx cy deep size n m xs ys smv mkv W
  P : W.ownsRow w.heap.size 9 1 (.slice (some ⟨g, 0, none⟩) P.length cap) P.length (P.map strV)
theorem TMS.step {w : World} {rb ob cx cy n m g cap : Nat} {deep size : Int} {xs : List Nat} {ys : List Int} {smv mkv : Value} {P : List (List UInt8)} {W W' : World} (h : TMS w rb ob cx cy deep size n m xs ys smv mkv g cap P W) (k : Below W.heap.size W W') : TMS w rb ob cx cy deep size n m xs ys smv mkv g cap P W' := ⟨h.T.step k, ownsRow_step h.P k⟩
theorem TMS.alloc {w : World} {rb ob cx cy n m g cap : Nat} {deep size : Int} {xs : List Nat} {ys : List Int} {smv mkv : Value} {P : List (List UInt8)} {W : World} (h : TMS w rb ob cx cy deep size n m xs ys smv mkv g cap P W) (o : Obj) : TMS w rb ob cx cy deep size n m xs ys smv mkv g cap P (W.alloc o) := h.step ((Below.refl _ _).alloc (Nat.le_refl _) o)
theorem TMS.smooth {w : World} {rb ob cx cy n m g cap : Nat} {deep size : Int} {xs : List Nat} {ys : List Int} {smv mkv v' : Value} {P : List (List UInt8)} {W W' : World} (h : TMS w rb ob cx cy deep size n m xs ys smv mkv g cap P W) {z : Nat} (hz : z < 4294967296) (hown : W'.ownsRow w.heap.size 57 1 v' (n + 1) (xs.map floV ++ [floV z])) (hg : W.grownBy W' smv.ownBlock) :
    TMS w rb ob cx cy deep size (n + 1) m (xs ++ [z]) ys v' mkv g cap P (W'.setCell ⟨ob, 3, none⟩ v') ∧ W'.cell? ⟨ob, 3, none⟩ = some smv ∧ W'.frozen? ⟨ob, 3, none⟩ = false := by
  obtain ⟨t, c, f⟩ := h.T.smooth hz hown hg
  have hrow : ∀ k, smv.ownBlock = some k → w.heap.size ≤ k := fun k hk => (h.T.S.lt k hk).1
  have O := h.T.O.grown hg (ownsRow_ne h.T.S h.T.O.blk (by decide)) hrow
  have p := h.P.kept hg (ownsRow_apart h.P h.T.S (by decide))
  exact ⟨⟨t, ownsRow_set p O.blk (by decide) _⟩, c, f⟩
theorem TMS.mark {w : World} {rb ob cx cy n m g cap : Nat} {deep size : Int} {xs : List Nat} {ys : List Int} {smv mkv v' : Value} {P : List (List UInt8)} {W W' : World} (h : TMS w rb ob cx cy deep size n m xs ys smv mkv g cap P W) {z : Int} (hz : -1 ≤ z ∧ z ≤ 1) (hown : W'.ownsRow w.heap.size 3 1 v' (m + 1) (ys.map intV ++ [intV z])) (hg : W.grownBy W' mkv.ownBlock) :
    TMS w rb ob cx cy deep size n (m + 1) xs (ys ++ [z]) smv v' g cap P (W'.setCell ⟨ob, 4, none⟩ v') ∧ W'.cell? ⟨ob, 4, none⟩ = some mkv ∧ W'.frozen? ⟨ob, 4, none⟩ = false := by
  obtain ⟨t, c, f⟩ := h.T.mark hz hown hg
  have hrow : ∀ k, mkv.ownBlock = some k → w.heap.size ≤ k := fun k hk => (h.T.M.lt k hk).1
  have O := h.T.O.grown hg (ownsRow_ne h.T.M h.T.O.blk (by decide)) hrow
  have p := h.P.kept hg (ownsRow_apart h.P h.T.M (by decide))
  exact ⟨⟨t, ownsRow_set p O.blk (by decide) _⟩, c, f⟩
theorem TMS.part {w : World} {rb ob cx cy n m g cap : Nat} {deep size : Int} {xs : List Nat} {ys : List Int} {smv mkv : Value} {P : List (List UInt8)} {W : World} (h : TMS w rb ob cx cy deep size n m xs ys smv mkv g cap P W) {j : Nat} (hj : j < P.length) {A : ByteArray} (hA : (⟨(P.getD j []).toArray⟩ : ByteArray) = A) : W.cell? ⟨g, j, none⟩ = some (.string A) := by
  have h1 := h.P.cellAt j (by omega)
  rw [List.getElem?_map, List.getElem?_eq_getElem hj] at h1
  rw [h1, ← hA, List.getD_eq_getElem?_getD, List.getElem?_eq_getElem hj]
  rfl
theorem ownsRow_low {w : World} {base base' : Nat} {e : TypeId} {size : Nat} {v : Value} {n : Nat} {xs : List Value} (h : w.ownsRow base e size v n xs) (hB : base' ≤ base) : w.ownsRow base' e size v n xs := by
  obtain ⟨h1, h2⟩ := h
  refine ⟨h1, ?_⟩
  rcases h2 with h2 | ⟨g, cap, cur, e1, e2, e3⟩
  · exact .inl h2
  · exact .inr ⟨g, cap, cur, e1, Nat.le_trans hB e2, e3⟩
theorem TM.lenS {w : World} {rb ob cx cy n m : Nat} {deep size : Int} {xs : List Nat} {ys : List Int} {smv mkv : Value} {W : World} (h : TM w rb ob cx cy deep size n m xs ys smv mkv W) : xs.length = n := by have := h.S.1; simpa using this
theorem TM.lenM {w : World} {rb ob cx cy n m : Nat} {deep size : Int} {xs : List Nat} {ys : List Int} {smv mkv : Value} {W : World} (h : TM w rb ob cx cy deep size n m xs ys smv mkv W) : ys.length = m := by have := h.M.1; simpa using this
theorem cells_snoc {P : List (List UInt8)} {N k x : Nat} {z : Int} {xs : List Nat} {ys : List Int} (h : ∀ j, j < N → cellRd (P.getD (5 + j) []) = some (xs.getD j 0, ys.getD j 0)) (hk : k = 5 + N) (hx : xs.length = N) (hy : ys.length = N) (hc : cellRd (P.getD k []) = some (x, z)) :
    ∀ j, j < N + 1 → cellRd (P.getD (5 + j) []) = some ((xs ++ [x]).getD j 0, (ys ++ [z]).getD j 0) := by
  intro j hj
  by_cases hjN : j < N
  · rw [h j hjN]
    simp only [List.getD_eq_getElem?_getD]
    rw [List.getElem?_append_left (by omega), List.getElem?_append_left (by omega)]
  · obtain rfl : j = N := by omega
    rw [← hk, hc]
    simp only [List.getD_eq_getElem?_getD]
    rw [List.getElem?_append_right (by omega), List.getElem?_append_right (by omega), hx, hy]
    simp
/-- the result's box is filled -/
theorem TM.madeN {w : World} {rb ob cx cy n : Nat} {deep size : Int} {xs : List Nat} {ys : List Int} {smv mkv : Value} {W : World} (h : TM w rb ob cx cy deep size n n xs ys smv mkv W) (u0 u1 u2 u3 u4 : Value) :
    Made w.heap.size n xs ys smv mkv (((((W.setCell ⟨rb, 0, none⟩ u0).setCell ⟨rb, 1, none⟩ u1).setCell ⟨rb, 2, none⟩ u2).setCell ⟨rb, 3, none⟩ u3).setCell ⟨rb, 4, none⟩ u4) := by
  have lx : xs.length = n := by have := h.S.1; simpa using this
  have ly : ys.length = n := by have := h.M.1; simpa using this
  have m0 : Made w.heap.size n xs ys smv mkv W := ⟨h.S, h.M, lx, ly, h.hx, h.hy⟩
  have b0 := h.R
  have b1 := b0.set h.hr 0 u0
  have b2 := b1.set h.hr 1 u1
  have b3 := b2.set h.hr 2 u2
  have b4 := b3.set h.hr 3 u3
  exact ((((m0.set b0.blk 0 u0).set b1.blk 1 u1).set b2.blk 2 u2).set b3.blk 3 u3).set b4.blk 4 u4
/-- what reading a text leaves -/
def ReadRes (w : World) (s : List UInt8) (e : Ending) (w' : World) : Prop :=
  Below w.heap.size w w' ∧ (((∀ t : TD, t.Good → t.text ≠ s) ∧ e = .returned (.tuple #[tileV 0 0 0 0 (.slice none 0 0) (.slice none 0 0), .bool false])) ∨
    ∃ (t : TD) (smv mkv : Value), t.Good ∧ t.text = s ∧ e = .returned (.tuple #[tileV t.cx t.cy t.d t.s smv mkv, .bool true]) ∧ Made w.heap.size t.xs.length t.xs t.ys smv mkv w')
set_option maxRecDepth 100000 in
set_option maxHeartbeats 20000000 in
theorem specRead_any (s : ByteArray) (hs : s.size ≤ 1048576) (w : World) : Calls Tryz.prog 13 #[.string s] w (ReadRes w s.data.toList) := by
  have R := Box.new w (tileC 0 0 0 0 (.slice none 0 0) (.slice none 0 0)) 27
  have HS := Lib.hid (fun w => l9Split_any s hs w)
  have hpos := splitL_pos s.data.toList
  have hlen := len_eq s
  have hml := splitL_len s.data.toList
  obtain ⟨P, hP⟩ : ∃ P, splitL s.data.toList = P := ⟨_, rfl⟩
  rw [hP] at HS hpos hml
  have HP := Lib.hid hP
  have HR := Lib.hid R
  clear hP R
  unfold tileC at HR
  go_enter Tryz.func13, Tryz.ntmps13
  go_wp2_with fail
  with_reducible refine (HS.out _).mono ?_
  rintro e w1 ⟨⟨g, cap, rfl, hO⟩, hd⟩
  have HR1 := Lib.hid (HR.out.step hd)
  have HO1 := Lib.hid hO
  clear hd hO HS HR
  obtain ⟨c0, c1, c2, c3, c4⟩ := HR1.out.cells5
  obtain ⟨f0, f1, f2, f3, f4⟩ := HR1.out.free5
  have HC : Hid (∀ j (h : j < P.length) W, Below w1.heap.size w1 W → W.cell? ⟨g, j, none⟩ = some (.string ⟨(P.getD j []).toArray⟩)) := fun j h W k => by
    have h1 := HO1.out.cellAt j (by omega)
    rw [List.getElem?_map, List.getElem?_eq_getElem h] at h1
    have hb : g < w1.heap.size := World.block_lt_of_cell? w1 ⟨g, j, none⟩ h1
    rw [k.cell (p := ⟨g, j, none⟩) hb, List.getD_eq_getElem?_getD, List.getElem?_eq_getElem h]
    exact h1
  by_cases h2 : 2000 < s.size
  · have d1 : decide ((2000 : Int) < s.size) = true := by simp; omega
    have hno : Hid (∀ t : TD, t.Good → t.text ≠ s.data.toList) := fun t ht e => by
      have h := TD.text_len ht
      rw [e, hlen] at h
      omega
    have HOld := Lib.hid HR1.out.old
    clear HO1 HC HR1
    go_wp2
    exact bodyPost_ret (v := .tuple #[.agg #[.complex .f32 0 0, .int .i64 0, .int .i64 0, .slice none 0 0, .slice none 0 0], .bool false]) (by simp [results, Tryz.f13, go_sem, c0, c1, c2, c3, c4]) rfl ⟨set5 HOld.out (Nat.le_refl _) _ _ _ _ _, .inl ⟨hno.out, rfl⟩⟩
  · by_cases h6 : P.length < 6
    · have d1 : decide ((2000 : Int) < s.size) = false := by simp; omega
      have d2 : decide ((P.length : Int) < 6) = true := by simp; omega
      have hno : Hid (∀ t : TD, t.Good → t.text ≠ s.data.toList) := fun t ht e => by
        have hp : splitL t.text = P := by rw [e]; exact HP.out
        have h := (TD.pieces ht hp).1
        omega
      have HOld := Lib.hid HR1.out.old
      clear HO1 HC HR1
      go_wp2
      exact bodyPost_ret (v := .tuple #[.agg #[.complex .f32 0 0, .int .i64 0, .int .i64 0, .slice none 0 0, .slice none 0 0], .bool false]) (by simp [results, Tryz.f13, go_sem, c0, c1, c2, c3, c4]) rfl ⟨set5 HOld.out (Nat.le_refl _) _ _ _ _ _, .inl ⟨hno.out, rfl⟩⟩
    · have d1 : decide ((2000 : Int) < s.size) = false := by simp; omega
      have d2 : decide ((P.length : Int) < 6) = false := by simp; omega
      obtain ⟨A1, hA1⟩ : ∃ A : ByteArray, (⟨(P.getD 1 []).toArray⟩ : ByteArray) = A := ⟨_, rfl⟩
      obtain ⟨A2, hA2⟩ : ∃ A : ByteArray, (⟨(P.getD 2 []).toArray⟩ : ByteArray) = A := ⟨_, rfl⟩
      obtain ⟨A3, hA3⟩ : ∃ A : ByteArray, (⟨(P.getD 3 []).toArray⟩ : ByteArray) = A := ⟨_, rfl⟩
      obtain ⟨A4, hA4⟩ : ∃ A : ByteArray, (⟨(P.getD 4 []).toArray⟩ : ByteArray) = A := ⟨_, rfl⟩
      have HC1 : Hid (∀ W, Below w1.heap.size w1 W → W.cell? ⟨g, 1, none⟩ = some (.string A1)) := fun W k => by rw [← hA1]; exact HC.out 1 (by omega) W k
      have HC2 : Hid (∀ W, Below w1.heap.size w1 W → W.cell? ⟨g, 2, none⟩ = some (.string A2)) := fun W k => by rw [← hA2]; exact HC.out 2 (by omega) W k
      have HC3 : Hid (∀ W, KW w1 W → W.cell? ⟨g, 3, none⟩ = some (.string A3)) := fun W k => by rw [← hA3]; exact HC.out 3 (by omega) W k
      have HC4 : Hid (∀ W, KW w1 W → W.cell? ⟨g, 4, none⟩ = some (.string A4)) := fun W k => by rw [← hA4]; exact HC.out 4 (by omega) W k
      have HA : Hid (A1.data.toList = P.getD 1 [] ∧ A2.data.toList = P.getD 2 [] ∧ A3.data.toList = P.getD 3 [] ∧ A4.data.toList = P.getD 4 []) := ⟨by rw [← hA1], by rw [← hA2], by rw [← hA3], by rw [← hA4]⟩
      have hsz : A1.size ≤ 1048576 ∧ A2.size ≤ 1048576 := by
        rw [← hA1, ← hA2]
        have e1 := splitL_getD_len s.data.toList 1
        have e2 := splitL_getD_len s.data.toList 2
        rw [hlen, show splitL s.data.toList = P from HP.out] at e1 e2
        exact ⟨Nat.le_trans e1 hs, Nat.le_trans e2 hs⟩
      have HRW : Hid (Box w w.heap.size (tileC 0 0 0 0 (.slice none 0 0) (.slice none 0 0)) 27 w1) := HR1.out
      have HW1 := Lib.hid (fun w => specWordRead_any A1 hsz.1 w)
      have HW2 := Lib.hid (fun w => specWordRead_any A2 hsz.2 w)
      have HD3 := Lib.hid (fun w => l9Small_any A3 w)
      have HD4 := Lib.hid (fun w => l9Small_any A4 w)
      have k1 := HC1.out _ (Below.refl _ _)
      have hP6 : 6 ≤ P.length := by omega
      have hPl : P.length ≤ 2001 := by omega
      have hs2 : s.size ≤ 2000 := by omega
      have q1 : (1 : Int) < P.length := by omega
      have q2 : (2 : Int) < P.length := by omega
      have q3 : (3 : Int) < P.length := by omega
      have q4 : (4 : Int) < P.length := by omega
      obtain ⟨x1, hx1⟩ : ∃ x, (wordR A1.data.toList).getD 0 = x := ⟨_, rfl⟩
      obtain ⟨b1, hb1⟩ : ∃ x, (wordR A1.data.toList).isSome = x := ⟨_, rfl⟩
      obtain ⟨x2, hx2⟩ : ∃ x, (wordR A2.data.toList).getD 0 = x := ⟨_, rfl⟩
      obtain ⟨b2, hb2⟩ : ∃ x, (wordR A2.data.toList).isSome = x := ⟨_, rfl⟩
      rw [hx1, hb1] at HW1
      rw [hx2, hb2] at HW2
      have HX := Lib.hid (And.intro hx1 (And.intro hb1 (And.intro hx2 hb2)))
      clear hx1 hb1 hx2 hb2
      clear hA1 hA2 hA3 hA4 hsz h2 h6
      go_wp2_with fail
      with_reducible refine (HW1.out _).mono ?_
      rintro e w2 ⟨rfl, hd⟩
      have HB2 := Lib.hid (hd.below w1.heap.size)
      have k2 := HC2.out _ HB2.out
      have HR2 := Lib.hid (HR1.out.step HB2.out)
      clear hd HW1 k1 c0 c1 c2 c3 c4 f0 f1 f2 f3 f4 HR1
      go_wp2_with fail
      with_reducible refine (HW2.out _).mono ?_
      rintro e w3 ⟨rfl, hd⟩
      have HB3 := Lib.hid (HB2.out.trans (hd.below w1.heap.size))
      have kc3 := HC3.out _ HB3.out
      have kc4 := HC4.out _ HB3.out
      have HR3 := Lib.hid (HR2.out.step (hd.below _))
      clear hd HW2 k2 HR2 HB2
      go_wp2_with fail
      clear HC HC1 HC2 hpos hml hs d1 d2 q1 q2
      have HKa : KW w1 w3 := HB3.out
      have HK3 : KW w1 w3.drew := HKa.drew
      have hs3 : w1.heap.size ≤ w3.heap.size := HB3.out.size
      go_cut [10] from 43 to 56 (fun o wx => ∃ (ob gs gm : Nat) (k3 k4 : Int), o = .pointer (some ⟨ob, 0, none⟩) ∧ Hid (-1 ≤ k3 ∧ k3 ≤ 99 ∧ ∀ n : Nat, n ≤ 10 → A3.data.toList = (decS n).data.toList → k3 = n) ∧ Hid (-1 ≤ k4 ∧ k4 ≤ 99 ∧ ∀ n : Nat, n ≤ 10 → A4.data.toList = (decS n).data.toList → k4 = n) ∧ Hid (LitOut w w1 ob gs gm x1 x2 k3 k4 wx))
      case first =>
        clear HO1 HA HX HR3 HB3
        have HKd : KW w1 { w3 with drawn := w3.drawn + 1 } := HK3
        refine wp_region_inv (by kernel_rfl) (fun D a W => ∃ u : Nat → Value, a = ⟨((Value.string s) :: undef :: (Value.pointer (some ⟨w.heap.size, 0, none⟩)) :: (Value.bool false) :: (Value.slice (some ⟨g, 0, none⟩) P.length cap) :: (Value.int IntKind.i64 (P.length : Nat)) :: (Value.float FloatKind.f32 x1) :: (Value.bool b1) :: (Value.float FloatKind.f32 x2) :: (Value.bool b2) :: (u 14) :: undef :: undef :: undef :: undef :: undef :: undef :: (Value.string s) :: (Value.slice (some ⟨g, 0, none⟩) P.length cap) :: (Value.slice (some ⟨g, 0, none⟩) P.length cap) :: (Value.int IntKind.i64 (P.length : Nat)) :: (Value.string s) :: (Value.int IntKind.i64 (s.size : Nat)) :: (Value.bool false) :: (Value.bool false) :: (Value.int IntKind.i64 (P.length : Nat)) :: (Value.bool false) :: (Value.bool false) :: undef :: (Value.tuple #[Value.float FloatKind.f32 x1, Value.bool b1]) :: (Value.slice (some ⟨g, 0, none⟩) P.length cap) :: (Value.pointer (some ⟨g, 1, none⟩)) :: (Value.string A1) :: (Value.tuple #[Value.float FloatKind.f32 x1, Value.bool b1]) :: (Value.float FloatKind.f32 x1) :: (Value.bool b1) :: (Value.tuple #[Value.float FloatKind.f32 x2, Value.bool b2]) :: (Value.slice (some ⟨g, 0, none⟩) P.length cap) :: (Value.pointer (some ⟨g, 2, none⟩)) :: (Value.string A2) :: (Value.tuple #[Value.float FloatKind.f32 x2, Value.bool b2]) :: (Value.float FloatKind.f32 x2) :: (Value.bool b2) :: (u 0) :: (u 1) :: (u 2) :: (u 3) :: (u 4) :: (u 5) :: (u 6) :: (u 7) :: (u 8) :: (u 9) :: (u 10) :: (u 11) :: (u 12) :: (u 13) :: undef :: undef :: undef :: undef :: undef :: undef :: undef :: undef :: undef :: undef :: undef :: undef :: undef :: undef :: undef :: undef :: undef :: undef :: undef :: undef :: undef :: undef :: undef :: undef :: undef :: undef :: undef :: undef :: undef :: undef :: undef :: undef :: undef :: undef :: undef :: undef :: undef :: undef :: undef :: undef :: undef :: undef :: undef :: undef :: undef :: undef :: undef :: undef :: undef :: undef :: undef :: undef :: undef :: undef :: undef :: undef :: undef :: undef :: undef :: undef :: undef :: undef :: undef :: undef :: undef :: undef :: undef :: undef :: []).toArray, []⟩ ∧ LitS w w1 g P.length cap x1 x2 A3 A4 (fun k => -1 ≤ k ∧ k ≤ 99 ∧ ∀ n : Nat, n ≤ 10 → A3.data.toList = (decS n).data.toList → k = n) (fun k => -1 ≤ k ∧ k ≤ 99 ∧ ∀ n : Nat, n ≤ 10 → A4.data.toList = (decS n).data.toList → k = n) D u W) (hac_of (by kernel_rfl)) ⟨fun _ => undef, rfl, .inl ⟨rfl, HKd, fun j h => by cases h⟩⟩ ?_ ?_
        · rintro D a W ⟨u, rfl, I⟩ i o ho hD hdep
          have hi : i < 16 := (Array.getElem?_eq_some_iff.1 ho).1
          obtain ⟨h15, hK, hF⟩ := I.open hi hD
          have HFF := Lib.hid (And.intro h15 (And.intro hK hF))
          have cA3 := HC3.out _ hK
          have cA4 := HC4.out _ hK
          clear I h15
          rcases (by omega : i = 0 ∨ i = 1 ∨ i = 2 ∨ i = 3 ∨ i = 4 ∨ i = 5 ∨ i = 6 ∨ i = 7 ∨ i = 8 ∨ i = 9 ∨ i = 10 ∨ i = 11 ∨ i = 12 ∨ i = 13 ∨ i = 14 ∨ i = 15) with rfl | rfl | rfl | rfl | rfl | rfl | rfl | rfl | rfl | rfl | rfl | rfl | rfl | rfl | rfl | rfl
          · simp only [List.getElem?_toArray, List.getElem?_cons_zero, Option.some.injEq] at ho
            subst ho
            rw [if_pos (by rfl)]
            refine wp_hold fun K hKK => ?_
            clear hF hdep hK
            go_simp
            exact hKK _ _ ⟨fun j => if j = 0 then .float .f32 x1 else u j, rfl, LitS.put HFF.out 0 (by omega) _ (Below.refl _ _) rfl⟩
          · simp only [List.getElem?_toArray, List.getElem?_cons_zero, List.getElem?_cons_succ, Option.some.injEq] at ho
            subst ho
            rw [if_pos (by rfl)]
            refine wp_hold fun K hKK => ?_
            clear hF hdep hK
            go_simp
            exact hKK _ _ ⟨fun j => if j = 1 then .float .f32 x2 else u j, rfl, LitS.put HFF.out 1 (by omega) _ (Below.refl _ _) rfl⟩
          · simp only [List.getElem?_toArray, List.getElem?_cons_zero, List.getElem?_cons_succ, Option.some.injEq] at ho
            subst ho
            have d0 : D 0 = true := hdep ⟨0, .data⟩ (by simp) rfl
            have d1 : D 1 = true := hdep ⟨1, .data⟩ (by simp) rfl
            have e0 := hF 0 d0
            simp only [LitF] at e0
            have e1 := hF 1 d1
            simp only [LitF] at e1
            rw [if_pos (by rfl)]
            refine wp_hold fun K hKK => ?_
            clear hF hdep hK
            go_simp
            exact hKK _ _ ⟨fun j => if j = 2 then .complex .f32 x1 x2 else u j, by simp only [e0, e1]; rfl, LitS.put HFF.out 2 (by omega) _ (Below.refl _ _) rfl⟩
          · simp only [List.getElem?_toArray, List.getElem?_cons_zero, List.getElem?_cons_succ, Option.some.injEq] at ho
            subst ho
            rw [if_pos (by rfl)]
            refine wp_hold fun K hKK => ?_
            clear hF hdep hK
            go_simp
            exact hKK _ _ ⟨fun j => if j = 3 then .slice (some ⟨g, 0, none⟩) P.length cap else u j, rfl, LitS.put HFF.out 3 (by omega) _ (Below.refl _ _) rfl⟩
          · simp only [List.getElem?_toArray, List.getElem?_cons_zero, List.getElem?_cons_succ, Option.some.injEq] at ho
            subst ho
            have d3 : D 3 = true := hdep ⟨3, .data⟩ (by simp) rfl
            have e3 := hF 3 d3
            simp only [LitF] at e3
            rw [if_pos (by rfl)]
            refine wp_hold fun K hKK => ?_
            clear hF hdep hK
            go_simp
            exact hKK _ _ ⟨fun j => if j = 4 then .pointer (some ⟨g, 3, none⟩) else u j, by simp only [e3]; rfl, LitS.put HFF.out 4 (by omega) _ (Below.refl _ _) rfl⟩
          · simp only [List.getElem?_toArray, List.getElem?_cons_zero, List.getElem?_cons_succ, Option.some.injEq] at ho
            subst ho
            have d4 : D 4 = true := hdep ⟨4, .data⟩ (by simp) rfl
            have e4 := hF 4 d4
            simp only [LitF] at e4
            rw [if_pos (by rfl)]
            refine wp_hold fun K hKK => ?_
            clear hF hdep hK
            go_simp
            exact hKK _ _ ⟨fun j => if j = 5 then .string A3 else u j, by simp only [e4]; rfl, LitS.put HFF.out 5 (by omega) _ (Below.refl _ _) rfl⟩
          · simp only [List.getElem?_toArray, List.getElem?_cons_zero, List.getElem?_cons_succ, Option.some.injEq] at ho
            subst ho
            have d5 : D 5 = true := hdep ⟨5, .data⟩ (by simp) rfl
            have e5 := hF 5 d5
            simp only [LitF] at e5
            rw [if_pos (by rfl)]
            refine wp_hold fun K hKK => ?_
            clear hF hdep hK
            go_simp
            refine Calls.mono (HD3.out W) ?_
            rintro e w4 ⟨⟨k, rfl, m⟩, hd⟩
            exact hKK _ _ ⟨fun j => if j = 6 then .int .i64 k else u j, by simp only [e5]; rfl, LitS.put HFF.out 6 (by omega) _ hd ⟨k, rfl, m⟩⟩
          · simp only [List.getElem?_toArray, List.getElem?_cons_zero, List.getElem?_cons_succ, Option.some.injEq] at ho
            subst ho
            rw [if_pos (by rfl)]
            refine wp_hold fun K hKK => ?_
            clear hF hdep hK
            go_simp
            exact hKK _ _ ⟨fun j => if j = 7 then .slice (some ⟨g, 0, none⟩) P.length cap else u j, rfl, LitS.put HFF.out 7 (by omega) _ (Below.refl _ _) rfl⟩
          · simp only [List.getElem?_toArray, List.getElem?_cons_zero, List.getElem?_cons_succ, Option.some.injEq] at ho
            subst ho
            have d7 : D 7 = true := hdep ⟨7, .data⟩ (by simp) rfl
            have e7 := hF 7 d7
            simp only [LitF] at e7
            rw [if_pos (by rfl)]
            refine wp_hold fun K hKK => ?_
            clear hF hdep hK
            go_simp
            exact hKK _ _ ⟨fun j => if j = 8 then .pointer (some ⟨g, 4, none⟩) else u j, by simp only [e7]; rfl, LitS.put HFF.out 8 (by omega) _ (Below.refl _ _) rfl⟩
          · simp only [List.getElem?_toArray, List.getElem?_cons_zero, List.getElem?_cons_succ, Option.some.injEq] at ho
            subst ho
            have d8 : D 8 = true := hdep ⟨8, .data⟩ (by simp) rfl
            have e8 := hF 8 d8
            simp only [LitF] at e8
            rw [if_pos (by rfl)]
            refine wp_hold fun K hKK => ?_
            clear hF hdep hK
            go_simp
            exact hKK _ _ ⟨fun j => if j = 9 then .string A4 else u j, by simp only [e8]; rfl, LitS.put HFF.out 9 (by omega) _ (Below.refl _ _) rfl⟩
          · simp only [List.getElem?_toArray, List.getElem?_cons_zero, List.getElem?_cons_succ, Option.some.injEq] at ho
            subst ho
            have d9 : D 9 = true := hdep ⟨9, .data⟩ (by simp) rfl
            have e9 := hF 9 d9
            simp only [LitF] at e9
            rw [if_pos (by rfl)]
            refine wp_hold fun K hKK => ?_
            clear hF hdep hK
            go_simp
            refine Calls.mono (HD4.out W) ?_
            rintro e w4 ⟨⟨k, rfl, m⟩, hd⟩
            exact hKK _ _ ⟨fun j => if j = 10 then .int .i64 k else u j, by simp only [e9]; rfl, LitS.put HFF.out 10 (by omega) _ hd ⟨k, rfl, m⟩⟩
          · simp only [List.getElem?_toArray, List.getElem?_cons_zero, List.getElem?_cons_succ, Option.some.injEq] at ho
            subst ho
            rw [if_pos (by rfl)]
            refine wp_hold fun K hKK => ?_
            clear hF hdep hK
            go_simp
            exact hKK _ _ ⟨fun j => if j = 11 then .slice (some ⟨W.heap.size, 0, none⟩) 0 0 else u j, rfl, LitS.put HFF.out 11 (by omega) _ ((Below.refl _ _).alloc (Nat.le_refl _) _) ⟨_, rfl, EM.new HFF.out.2.1⟩⟩
          · simp only [List.getElem?_toArray, List.getElem?_cons_zero, List.getElem?_cons_succ, Option.some.injEq] at ho
            subst ho
            rw [if_pos (by rfl)]
            refine wp_hold fun K hKK => ?_
            clear hF hdep hK
            go_simp
            exact hKK _ _ ⟨fun j => if j = 12 then .slice (some ⟨W.heap.size, 0, none⟩) 0 0 else u j, rfl, LitS.put HFF.out 12 (by omega) _ ((Below.refl _ _).alloc (Nat.le_refl _) _) ⟨_, rfl, EM.new HFF.out.2.1⟩⟩
          · simp only [List.getElem?_toArray, List.getElem?_cons_zero, List.getElem?_cons_succ, Option.some.injEq] at ho
            subst ho
            have d2 : D 2 = true := hdep ⟨2, .data⟩ (by simp) rfl
            have d6 : D 6 = true := hdep ⟨6, .data⟩ (by simp) rfl
            have d10 : D 10 = true := hdep ⟨10, .data⟩ (by simp) rfl
            have d11 : D 11 = true := hdep ⟨11, .data⟩ (by simp) rfl
            have d12 : D 12 = true := hdep ⟨12, .data⟩ (by simp) rfl
            have e2 := hF 2 d2
            simp only [LitF] at e2
            obtain ⟨k3, e6, o3⟩ := hF 6 d6
            obtain ⟨k4, e10, o4⟩ := hF 10 d10
            obtain ⟨gs, e11, E1⟩ := hF 11 d11
            obtain ⟨gm, e12, E2⟩ := hF 12 d12
            have HO := Lib.hid (And.intro o3 (And.intro o4 (And.intro E1 E2)))
            clear o3 o4 E1 E2
            rw [if_pos (by rfl)]
            refine wp_hold fun K hKK => ?_
            clear hF hdep hK
            go_simp
            exact hKK _ _ ⟨fun j => if j = 13 then .agg #[.complex .f32 x1 x2, .int .i64 k3, .int .i64 k4, .slice (some ⟨gs, 0, none⟩) 0 0, .slice (some ⟨gm, 0, none⟩) 0 0] else u j, by simp only [e2, e6, e10, e11, e12]; rfl, LitS.put HFF.out 13 (by omega) _ (Below.refl _ _) ⟨k3, k4, gs, gm, rfl, HO.out.1, HO.out.2.1, HO.out.2.2.1, HO.out.2.2.2⟩⟩
          · simp only [List.getElem?_toArray, List.getElem?_cons_zero, List.getElem?_cons_succ, Option.some.injEq] at ho
            subst ho
            rw [if_pos (by rfl)]
            refine wp_hold fun K hKK => ?_
            clear hF hdep hK
            go_simp
            exact hKK _ _ ⟨fun j => if j = 14 then .pointer (some ⟨W.heap.size, 0, none⟩) else u j, rfl, LitS.put HFF.out 14 (by omega) _ ((Below.refl _ _).alloc (Nat.le_refl _) _) ⟨_, rfl, HFF.out.2.1.size, Box.newK HFF.out.2.1⟩⟩
          · simp only [List.getElem?_toArray, List.getElem?_cons_zero, List.getElem?_cons_succ, Option.some.injEq] at ho
            subst ho
            have d14 : D 14 = true := hdep ⟨14, .data⟩ (by simp) rfl
            have d13 : D 13 = true := hdep ⟨13, .data⟩ (by simp) rfl
            obtain ⟨ob, e14, hob, O⟩ := hF 14 d14
            obtain ⟨k3, k4, gs, gm, e13, o3, o4, E1, E2⟩ := hF 13 d13
            have HALL : Hid (∀ j, j < 15 → D j = true) := fun j hj => hdep ⟨j, .phase⟩ (by rcases (by omega : j = 0 ∨ j = 1 ∨ j = 2 ∨ j = 3 ∨ j = 4 ∨ j = 5 ∨ j = 6 ∨ j = 7 ∨ j = 8 ∨ j = 9 ∨ j = 10 ∨ j = 11 ∨ j = 12 ∨ j = 13 ∨ j = 14) with rfl | rfl | rfl | rfl | rfl | rfl | rfl | rfl | rfl | rfl | rfl | rfl | rfl | rfl | rfl <;> simp) rfl
            obtain ⟨t0, t1, t2, t3, t4⟩ := O.cells5
            obtain ⟨z0, z1, z2, z3, z4⟩ := O.free5
            have hlt := O.lt
            have HFIN := Lib.hid (And.intro o3 (And.intro o4 (lit_set (cx := x1) (cy := x2) (deep := k3) (size := k4) HRW.out hK E1 E2 O hob)))
            clear o3 o4 E1 E2 O
            rw [if_pos (by rfl)]
            refine wp_hold fun K hKK => ?_
            clear hF hdep hK
            go_simp
            exact hKK _ _ ⟨u, by simp only [e14, e13], .inr ⟨rfl, fun j hj => by simp only; rw [if_neg (by omega)]; exact HALL.out j hj, ob, gs, gm, k3, k4, e14, HFIN.out.1, HFIN.out.2.1, HFIN.out.2.2⟩⟩
        · rintro D a W ⟨u, rfl, I⟩ hall
          rcases I with ⟨h, _⟩ | ⟨_, _, ob, gs, gm, k3, k4, e14, o3, o4, h⟩
          · rw [hall 15 (by decide)] at h; cases h
          · have HFIN := Lib.hid (And.intro o3 (And.intro o4 h))
            clear o3 o4 h hall
            go_wp2_with fail
            go_meet
            exact ⟨ob, gs, gm, k3, k4, e14, HFIN.out.1, HFIN.out.2.1, HFIN.out.2.2⟩
      case rest =>
        obtain ⟨ob, gs, gm, k3, k4, rfl, HF3, HF4, HL⟩ := hcut
        have HT0 : Hid (TMS w w.heap.size ob x1 x2 k3 k4 0 0 [] [] (.slice (some ⟨gs, 0, none⟩) 0 0) (.slice (some ⟨gm, 0, none⟩) 0 0) g cap P wc) := ⟨HL.out.1, ownsRow_step (ownsRow_low HO1.out (by simp)) HL.out.2⟩
        obtain ⟨iF, hiF, hzF0, hzF1, hzF2⟩ := info_parts infoF
        obtain ⟨iI, hiI, hzI0, hzI1, hzI2⟩ := info_parts infoI
        have HPS : Hid (∀ t : TD, t.text = s.data.toList → splitL t.text = P) := fun t e => by rw [e]; exact HP.out
        have hcl := fun j => splitL_getD_len s.data.toList j
        rw [hlen, show splitL s.data.toList = P from HP.out] at hcl
        have HCL := Lib.hid hcl
        clear HO1 HR3 HB3 HL HC3 HC4 HD3 HD4 HRW kc3 kc4 hs3 HK3 HKa hcl q3 q4
        go_wp2
        go_loopw [11, 12, 13, 14] (fun i _ _ _ wr => ∃ (k N gs cs gm cm : Nat) (xs : List Nat) (ys : List Int), k + 1 ≤ P.length ∧ i = .int .i64 k ∧ Hid (k = 5 + N) ∧ Hid (∀ j, j < N → cellRd (P.getD (5 + j) []) = some (xs.getD j 0, ys.getD j 0)) ∧ Hid (TMS w w.heap.size ob x1 x2 k3 k4 N N xs ys (.slice (some ⟨gs, 0, none⟩) N cs) (.slice (some ⟨gm, 0, none⟩) N cm) g cap P wr)) (fun i _ _ _ _ => (P.length - intOf i).toNat)
        case atStart => exact ⟨5, 0, gs, 0, gm, 0, [], [], by omega, rfl, rfl, (fun j h => by omega), HT0⟩
        case round =>
          obtain ⟨k, N, gs', cs, gm', cm, xs, ys, hk, rfl, HkN, HCE, HT⟩ := hrel
          have hw1 : IntKind.i64.wrap ((P.length : Int) - 1) = (P.length : Int) - 1 := IntWalk.i64_in _ (by omega)
          by_cases hlt : k + 1 < P.length
          · obtain ⟨A, hA⟩ : ∃ A : ByteArray, (⟨(P.getD k []).toArray⟩ : ByteArray) = A := ⟨_, rfl⟩
            have HA' : Hid (A.data.toList = P.getD k []) := by show _ = _; rw [← hA]
            have hAs : A.size ≤ 1048576 := by have := HCL.out k; rw [← hA]; exact Nat.le_trans this (by omega)
            have cA := HT.out.part (by omega) hA
            have hbad : Hid (cellRd (P.getD k []) = none → ∀ t : TD, t.Good → t.text ≠ s.data.toList) := fun hn t ht e => by
              have hp := HPS.out t e
              have hl := (TD.pieces ht hp).1
              have hkN : k = 5 + N := HkN.out
              have := TD.cells ht hp (j := N) (by omega)
              rw [← hkN, hn] at this
              cases this
            have HRc := Lib.hid HT.out.T.rc
            have HRf := Lib.hid HT.out.T.R.free5
            have HOld := Lib.hid HT.out.T.old
            by_cases h9 : A.size = 9
            · have e9 : ((A.size : Int) != 9) = false := by simp; omega
              obtain ⟨E, hE⟩ : ∃ E : ByteArray, A.extract 0 8 = E := ⟨_, rfl⟩
              have hEd : E.data.toList = (P.getD k []).take 8 := by rw [← hE, Lib.extract_data, ← show A.data.toList = P.getD k [] from HA'.out]; simp
              have hEs : E.size ≤ 1048576 := by rw [← len_eq, hEd, List.length_take]; omega
              obtain ⟨x, hx⟩ : ∃ x, (wordR E.data.toList).getD 0 = x := ⟨_, rfl⟩
              obtain ⟨ok, hok⟩ : ∃ x, (wordR E.data.toList).isSome = x := ⟨_, rfl⟩
              have HWR := Lib.hid (fun w => specWordRead_any E hEs w)
              rw [hx, hok] at HWR
              have HE8 := Lib.hid (And.intro hEd (And.intro hx hok))
              have hEx : ∀ wx, (Instr.slice 9 (.string A) none (some (.int .i64 8)) none).run Tryz.prog wx = .ok (.string (A.extract 0 8)) wx := fun wx => by
                rw [run_slice_string_h (ht := Tryz.underlying9) (h0 := by omega) (h2 := by omega)]
                rfl
              rw [hE] at hEx
              have h8 : 8 < A.size := by omega
              have HBY : Hid ((A[8]'h8) = (P.getD k []).getD 8 0) := by
                show _ = _
                rw [byte_eq A 8 h8, ← show A.data.toList = P.getD k [] from HA'.out]
              have HAA := Lib.hid hA
              have HL9 : Hid ((P.getD k []).length = 9) := by show _ = _; rw [← show A.data.toList = P.getD k [] from HA'.out, len_eq]; exact h9
              clear hA hEd hEs hx hok hE h9
              go_wp2_with fail
              with_reducible refine (HWR.out _).mono ?_
              rintro e w4 ⟨rfl, hd⟩
              have HT4 := Lib.hid (HT.out.step (hd.below _))
              have cA4 := HT4.out.part (by omega) HAA.out
              have HRc4 := Lib.hid HT4.out.T.rc
              have HRf4 := Lib.hid HT4.out.T.R.free5
              have HOld4 := Lib.hid HT4.out.T.old
              clear hd cA HT HRc HRf HOld HWR hEx
              cases ok with
              | false =>
                have hno : Hid (∀ t : TD, t.Good → t.text ≠ s.data.toList) := hbad.out (by
                  unfold cellRd
                  rw [if_pos HL9.out, ← HE8.out.1]
                  have := HE8.out.2.2
                  cases hq : wordR E.data.toList with
                  | none => rfl
                  | some v => rw [hq] at this; cases this)
                obtain ⟨c0, c1, c2, c3, c4⟩ := HRc4.out
                obtain ⟨f0, f1, f2, f3, f4⟩ := HRf4.out
                go_wp2
                exact bodyPost_ret (v := .tuple #[.agg #[.complex .f32 0 0, .int .i64 0, .int .i64 0, .slice none 0 0, .slice none 0 0], .bool false]) (by simp [results, Tryz.f13, go_sem, c0, c1, c2, c3, c4]) rfl ⟨set5 HOld4.out (Nat.le_refl _) _ _ _ _ _, .inl ⟨hno.out, rfl⟩⟩
              | true =>
                have HCELL : Hid (cellRd (P.getD k []) = some (x, markS ((P.getD k []).getD 8 0)) ∧ x < 4294967296) := by
                  show _ ∧ _
                  unfold cellRd
                  rw [if_pos HL9.out, ← HE8.out.1]
                  have h1 := HE8.out.2.2
                  have h2 := HE8.out.2.1
                  cases hq : wordR E.data.toList with
                  | none => rw [hq] at h1; cases h1
                  | some v => rw [hq] at h2; simp at h2; subst h2; exact ⟨rfl, wordR_lt hq⟩
                have hx32 := HCELL.out.2
                obtain ⟨z, hz, hz1⟩ : ∃ z, markS ((P.getD k []).getD 8 0) = z ∧ -1 ≤ z ∧ z ≤ 1 := ⟨_, rfl, markS_le _⟩
                have HZ := Lib.hid hz
                have h8i : (8 : Int) < A.size := by omega
                have hzc : Hid (((((A[8]'h8).toNat : Int) == 43) = true ∧ z = 1) ∨ ((((A[8]'h8).toNat : Int) == 43) = false ∧ (((A[8]'h8).toNat : Int) == 45) = true ∧ z = -1) ∨ ((((A[8]'h8).toNat : Int) == 43) = false ∧ (((A[8]'h8).toNat : Int) == 45) = false ∧ z = 0)) := by
                  show _ ∨ _ ∨ _
                  rw [← hz, ← HBY.out]
                  unfold markS
                  by_cases e1 : A[8]'h8 = 43
                  · left; rw [if_pos e1, e1]; exact ⟨rfl, rfl⟩
                  · have n1 : (((A[8]'h8).toNat : Int) == 43) = false := by
                      rw [beq_eq_false_iff_ne]; intro h; exact e1 (UInt8.toNat_inj.1 (by show _ = 43; omega))
                    rw [if_neg e1]
                    by_cases e2 : A[8]'h8 = 45
                    · right; left; rw [if_pos e2, n1, e2]; exact ⟨rfl, rfl, rfl⟩
                    · have n2 : (((A[8]'h8).toNat : Int) == 45) = false := by
                        rw [beq_eq_false_iff_ne]; intro h; exact e2 (UInt8.toNat_inj.1 (by show _ = 45; omega))
                      right; right; rw [if_neg e2, n1, n2]; exact ⟨rfl, rfl, rfl⟩
                obtain ⟨o0, o1, o2, o3, o4⟩ := HT4.out.T.oc
                obtain ⟨o0', o1', o2', o3', o4'⟩ := (HT4.out.alloc (.cells #[.float .f32 x] 57)).T.oc
                have hN : N ≤ 3000 := by have := HkN.out; omega
                have hbase := HOld4.out.size
                clear hz hbad HL9
                rcases hzc.out with ⟨g1, rfl⟩ | ⟨g1, g2, rfl⟩ | ⟨g1, g2, rfl⟩
                · go_upto_region 23 with (at_builtin; refine wpList_append_lies _ rfl _ _ _ rfl w.heap.size 57 iF _ 1 4 Tryz.underlying24 hiF hzF0 hzF1 hzF2 rfl (by omega) _ N (xs.map floV) rfl (HT4.out.T.S.alloc _) ⟨w4.heap.size, 0, none⟩ 1 1 [floV x] rfl rfl (World.news_of_block (cs := #[floV x]) (t := 57) (fr := (0, 0)) (heap_alloc_new w4 _)) (by simp [floV, Value.oneCell']) (by omega) (by unfold maxLen; omega) (by omega) (by simp; omega) (w4.heap.size + 1) (by simp) ?_; intro g6 c6 w6 hown hgrow _ _; obtain ⟨T6, k6, f6⟩ := (HT4.out.alloc _).smooth hx32 hown hgrow; have HT6 := Lib.hid T6; clear T6 hown hgrow)
                  obtain ⟨-, -, -, -, k7⟩ := HT6.out.T.oc
                  obtain ⟨-, -, -, -, k8⟩ := (HT6.out.alloc (.cells #[.int .i64 1] 3)).T.oc
                  have hb6 := HT6.out.T.old.size
                  clear k6 f6 o0 o1 o2 o3 o4 o0' o1' o2' o3' o4' cA4
                  generalize w6.setCell ⟨ob, 3, none⟩ (.slice (some ⟨g6, 0, none⟩) (N + 1) c6) = w7 at *
                  go_wp2_with (at_builtin; refine wpList_append_lies _ rfl _ _ _ rfl w.heap.size 3 iI _ 1 8 Tryz.underlying25 hiI hzI0 hzI1 hzI2 rfl (by omega) _ N (ys.map intV) rfl (HT6.out.T.M.alloc _) ⟨w7.heap.size, 0, none⟩ 1 1 [intV 1] rfl rfl (World.news_of_block (cs := #[intV 1]) (t := 3) (fr := (0, 0)) (heap_alloc_new w7 _)) (by simp [intV, Value.oneCell']) (by omega) (by unfold maxLen; omega) (by omega) (by simp; omega) (w7.heap.size + 1) (by simp) ?_; intro g8 c8 w8 hown hgrow _ _; obtain ⟨T8, k9, f9⟩ := (HT6.out.alloc _).mark hz1 hown hgrow; have HT8 := Lib.hid T8; clear T8 hown hgrow)
                  go_roundw
                  case rel => exact ⟨k + 1, N + 1, g6, c6, g8, c8, xs ++ [x], ys ++ [1], by omega, by go_num, (by have : k = 5 + N := HkN.out; show k + 1 = 5 + (N + 1); omega), cells_snoc HCE.out HkN.out HT4.out.T.lenS HT4.out.T.lenM (by rw [HCELL.out.1, show markS ((P.getD k []).getD 8 0) = 1 from HZ.out]), HT8⟩
                  case measure => simp [intOf]; omega
                · go_upto_region 23 with (at_builtin; refine wpList_append_lies _ rfl _ _ _ rfl w.heap.size 57 iF _ 1 4 Tryz.underlying24 hiF hzF0 hzF1 hzF2 rfl (by omega) _ N (xs.map floV) rfl (HT4.out.T.S.alloc _) ⟨w4.heap.size, 0, none⟩ 1 1 [floV x] rfl rfl (World.news_of_block (cs := #[floV x]) (t := 57) (fr := (0, 0)) (heap_alloc_new w4 _)) (by simp [floV, Value.oneCell']) (by omega) (by unfold maxLen; omega) (by omega) (by simp; omega) (w4.heap.size + 1) (by simp) ?_; intro g6 c6 w6 hown hgrow _ _; obtain ⟨T6, k6, f6⟩ := (HT4.out.alloc _).smooth hx32 hown hgrow; have HT6 := Lib.hid T6; clear T6 hown hgrow)
                  obtain ⟨-, -, -, -, k7⟩ := HT6.out.T.oc
                  obtain ⟨-, -, -, -, k8⟩ := (HT6.out.alloc (.cells #[.int .i64 (-1)] 3)).T.oc
                  have hb6 := HT6.out.T.old.size
                  clear k6 f6 o0 o1 o2 o3 o4 o0' o1' o2' o3' o4' cA4
                  generalize w6.setCell ⟨ob, 3, none⟩ (.slice (some ⟨g6, 0, none⟩) (N + 1) c6) = w7 at *
                  go_wp2_with (at_builtin; refine wpList_append_lies _ rfl _ _ _ rfl w.heap.size 3 iI _ 1 8 Tryz.underlying25 hiI hzI0 hzI1 hzI2 rfl (by omega) _ N (ys.map intV) rfl (HT6.out.T.M.alloc _) ⟨w7.heap.size, 0, none⟩ 1 1 [intV (-1)] rfl rfl (World.news_of_block (cs := #[intV (-1)]) (t := 3) (fr := (0, 0)) (heap_alloc_new w7 _)) (by simp [intV, Value.oneCell']) (by omega) (by unfold maxLen; omega) (by omega) (by simp; omega) (w7.heap.size + 1) (by simp) ?_; intro g8 c8 w8 hown hgrow _ _; obtain ⟨T8, k9, f9⟩ := (HT6.out.alloc _).mark hz1 hown hgrow; have HT8 := Lib.hid T8; clear T8 hown hgrow)
                  go_roundw
                  case rel => exact ⟨k + 1, N + 1, g6, c6, g8, c8, xs ++ [x], ys ++ [(-1)], by omega, by go_num, (by have : k = 5 + N := HkN.out; show k + 1 = 5 + (N + 1); omega), cells_snoc HCE.out HkN.out HT4.out.T.lenS HT4.out.T.lenM (by rw [HCELL.out.1, show markS ((P.getD k []).getD 8 0) = (-1) from HZ.out]), HT8⟩
                  case measure => simp [intOf]; omega
                · go_upto_region 23 with (at_builtin; refine wpList_append_lies _ rfl _ _ _ rfl w.heap.size 57 iF _ 1 4 Tryz.underlying24 hiF hzF0 hzF1 hzF2 rfl (by omega) _ N (xs.map floV) rfl (HT4.out.T.S.alloc _) ⟨w4.heap.size, 0, none⟩ 1 1 [floV x] rfl rfl (World.news_of_block (cs := #[floV x]) (t := 57) (fr := (0, 0)) (heap_alloc_new w4 _)) (by simp [floV, Value.oneCell']) (by omega) (by unfold maxLen; omega) (by omega) (by simp; omega) (w4.heap.size + 1) (by simp) ?_; intro g6 c6 w6 hown hgrow _ _; obtain ⟨T6, k6, f6⟩ := (HT4.out.alloc _).smooth hx32 hown hgrow; have HT6 := Lib.hid T6; clear T6 hown hgrow)
                  obtain ⟨-, -, -, -, k7⟩ := HT6.out.T.oc
                  obtain ⟨-, -, -, -, k8⟩ := (HT6.out.alloc (.cells #[.int .i64 0] 3)).T.oc
                  have hb6 := HT6.out.T.old.size
                  clear k6 f6 o0 o1 o2 o3 o4 o0' o1' o2' o3' o4' cA4
                  generalize w6.setCell ⟨ob, 3, none⟩ (.slice (some ⟨g6, 0, none⟩) (N + 1) c6) = w7 at *
                  go_wp2_with (at_builtin; refine wpList_append_lies _ rfl _ _ _ rfl w.heap.size 3 iI _ 1 8 Tryz.underlying25 hiI hzI0 hzI1 hzI2 rfl (by omega) _ N (ys.map intV) rfl (HT6.out.T.M.alloc _) ⟨w7.heap.size, 0, none⟩ 1 1 [intV 0] rfl rfl (World.news_of_block (cs := #[intV 0]) (t := 3) (fr := (0, 0)) (heap_alloc_new w7 _)) (by simp [intV, Value.oneCell']) (by omega) (by unfold maxLen; omega) (by omega) (by simp; omega) (w7.heap.size + 1) (by simp) ?_; intro g8 c8 w8 hown hgrow _ _; obtain ⟨T8, k9, f9⟩ := (HT6.out.alloc _).mark hz1 hown hgrow; have HT8 := Lib.hid T8; clear T8 hown hgrow)
                  go_roundw
                  case rel => exact ⟨k + 1, N + 1, g6, c6, g8, c8, xs ++ [x], ys ++ [0], by omega, by go_num, (by have : k = 5 + N := HkN.out; show k + 1 = 5 + (N + 1); omega), cells_snoc HCE.out HkN.out HT4.out.T.lenS HT4.out.T.lenM (by rw [HCELL.out.1, show markS ((P.getD k []).getD 8 0) = 0 from HZ.out]), HT8⟩
                  case measure => simp [intOf]; omega
            · have e9 : ((A.size : Int) != 9) = true := by simp; omega
              have hno : Hid (∀ t : TD, t.Good → t.text ≠ s.data.toList) := hbad.out (by unfold cellRd; rw [if_neg (by rw [← HA'.out, len_eq]; exact h9)])
              obtain ⟨c0, c1, c2, c3, c4⟩ := HRc.out
              obtain ⟨f0, f1, f2, f3, f4⟩ := HRf.out
              clear hA
              go_wp2
              exact bodyPost_ret (v := .tuple #[.agg #[.complex .f32 0 0, .int .i64 0, .int .i64 0, .slice none 0 0, .slice none 0 0], .bool false]) (by simp [results, Tryz.f13, go_sem, c0, c1, c2, c3, c4]) rfl ⟨set5 HOld.out (Nat.le_refl _) _ _ _ _ _, .inl ⟨hno.out, rfl⟩⟩
          · have hke : k + 1 = P.length := by omega
            have HTOLD : Hid (∀ t : TD, t.Good → t.text = s.data.toList → wordR A1.data.toList = some t.cx ∧ wordR A2.data.toList = some t.cy ∧ (t.d : Int) = k3 ∧ (t.s : Int) = k4 ∧ t.xs = xs ∧ t.ys = ys) := fun t ht e => by
              have hp := HPS.out t e
              have lS := HT.out.T.lenS
              have lM := HT.out.T.lenM
              have hkN : k = 5 + N := HkN.out
              refine TD.told ht hp HA.out.1 HA.out.2.1 HA.out.2.2.1 HA.out.2.2.2 HF3.out.2.2 HF4.out.2.2 (by omega) (by omega) (fun j hj => HCE.out j (by omega))
            have HTX : Hid (∀ W, TMS w w.heap.size ob x1 x2 k3 k4 N N xs ys (.slice (some ⟨gs', 0, none⟩) N cs) (.slice (some ⟨gm', 0, none⟩) N cm) g cap P W → Calls Tryz.prog 9 #[.agg #[.complex .f32 x1 x2, .int .i64 k3, .int .i64 k4, .slice (some ⟨gs', 0, none⟩) N cs, .slice (some ⟨gm', 0, none⟩) N cm]] W fun e w' => (∃ (T : ByteArray) (ok : Bool), e = .returned (.tuple #[.string T, .bool ok]) ∧ ((ok = false ∧ ∀ t : TD, t.Good → ¬ (t.cx = x1 ∧ t.cy = x2 ∧ (t.d : Int) = k3 ∧ (t.s : Int) = k4 ∧ t.xs = xs ∧ t.ys = ys)) ∨ (ok = true ∧ ∃ t : TD, t.Good ∧ t.cx = x1 ∧ t.cy = x2 ∧ (t.d : Int) = k3 ∧ (t.s : Int) = k4 ∧ t.xs = xs ∧ t.ys = ys ∧ T.data.toList = t.text))) ∧ Below W.heap.size W w') := fun W h => by
              have hx1 : x1 < 4294967296 := by rw [← HX.out.1]; exact wordR_getD_lt _
              have hx2 : x2 < 4294967296 := by rw [← HX.out.2.2.1]; exact wordR_getD_lt _
              have lS := h.T.lenS
              have lM := h.T.lenM
              have hkN : k = 5 + N := HkN.out
              have := specText_any x1 x2 k3 k4 hx1 hx2 (some ⟨gs', 0, none⟩) (some ⟨gm', 0, none⟩) cs cm xs ys (by omega) h.T.hx W (sl_of_own h.T.S) (sl_of_own h.T.M)
              rw [lS, lM] at this
              exact this
            obtain ⟨o0, o1, o2, o3, o4⟩ := HT.out.T.oc
            clear HF3 HF4 HCE
            go_wp2_with fail
            with_reducible refine (HTX.out _ HT.out).mono ?_
            rintro e w5 ⟨⟨T, ok, rfl, hcase⟩, hd⟩
            have HT5 := Lib.hid (HT.out.step hd)
            have HCASE := Lib.hid hcase
            have HRc5 := Lib.hid HT5.out.T.rc
            have HRf5 := Lib.hid HT5.out.T.R.free5
            have HOld5 := Lib.hid HT5.out.T.old
            clear hd hcase HTX HT o0 o1 o2 o3 o4
            cases b1 with
            | false =>
              have hno : Hid (∀ t : TD, t.Good → t.text ≠ s.data.toList) := fun t ht e => by
                have h1 := (HTOLD.out t ht e).1
                have h2 := HX.out.2.1
                rw [h1] at h2; cases h2
              obtain ⟨c0, c1, c2, c3, c4⟩ := HRc5.out
              obtain ⟨f0, f1, f2, f3, f4⟩ := HRf5.out
              go_wp2
              exact bodyPost_ret (v := .tuple #[.agg #[.complex .f32 0 0, .int .i64 0, .int .i64 0, .slice none 0 0, .slice none 0 0], .bool false]) (by simp [results, Tryz.f13, go_sem, c0, c1, c2, c3, c4]) rfl ⟨set5 HOld5.out (Nat.le_refl _) _ _ _ _ _, .inl ⟨hno.out, rfl⟩⟩
            | true =>
             cases b2 with
             | false =>
              have hno : Hid (∀ t : TD, t.Good → t.text ≠ s.data.toList) := fun t ht e => by
                have h1 := (HTOLD.out t ht e).2.1
                have h2 := HX.out.2.2.2
                rw [h1] at h2; cases h2
              obtain ⟨c0, c1, c2, c3, c4⟩ := HRc5.out
              obtain ⟨f0, f1, f2, f3, f4⟩ := HRf5.out
              go_wp2
              exact bodyPost_ret (v := .tuple #[.agg #[.complex .f32 0 0, .int .i64 0, .int .i64 0, .slice none 0 0, .slice none 0 0], .bool false]) (by simp [results, Tryz.f13, go_sem, c0, c1, c2, c3, c4]) rfl ⟨set5 HOld5.out (Nat.le_refl _) _ _ _ _ _, .inl ⟨hno.out, rfl⟩⟩
             | true =>
              have HVAL : Hid (∀ t : TD, t.Good → t.text = s.data.toList → t.cx = x1 ∧ t.cy = x2 ∧ (t.d : Int) = k3 ∧ (t.s : Int) = k4 ∧ t.xs = xs ∧ t.ys = ys) := fun t ht e => by
                obtain ⟨h1, h2, h3⟩ := HTOLD.out t ht e
                have g1 := HX.out.1
                have g2 := HX.out.2.2.1
                rw [h1] at g1
                rw [h2] at g2
                exact ⟨g1, g2, h3⟩
              cases ok with
              | false =>
                have hno : Hid (∀ t : TD, t.Good → t.text ≠ s.data.toList) := fun t ht e => by
                  rcases HCASE.out with ⟨_, h⟩ | ⟨h, _⟩
                  · exact h t ht (HVAL.out t ht e)
                  · cases h
                obtain ⟨c0, c1, c2, c3, c4⟩ := HRc5.out
                obtain ⟨f0, f1, f2, f3, f4⟩ := HRf5.out
                go_wp2
                exact bodyPost_ret (v := .tuple #[.agg #[.complex .f32 0 0, .int .i64 0, .int .i64 0, .slice none 0 0, .slice none 0 0], .bool false]) (by simp [results, Tryz.f13, go_sem, c0, c1, c2, c3, c4]) rfl ⟨set5 HOld5.out (Nat.le_refl _) _ _ _ _ _, .inl ⟨hno.out, rfl⟩⟩
              | true =>
                have HTT : Hid (∃ t : TD, t.Good ∧ t.cx = x1 ∧ t.cy = x2 ∧ (t.d : Int) = k3 ∧ (t.s : Int) = k4 ∧ t.xs = xs ∧ t.ys = ys ∧ T.data.toList = t.text) := by
                  rcases HCASE.out with ⟨h, _⟩ | ⟨_, h⟩
                  · cases h
                  · exact h
                by_cases hTs : T.data.toList = s.data.toList
                · have hq : (T.toList == s.toList) = true := by rw [ByteArray.toList_eq, ByteArray.toList_eq, hTs]; simp
                  obtain ⟨t0, t1, t2, t3, t4, t5, t6, t7, t8⟩ := HTT.out
                  have HYES : Hid (∃ t : TD, t.Good ∧ t.text = s.data.toList ∧ t.cx = x1 ∧ t.cy = x2 ∧ (t.d : Int) = k3 ∧ (t.s : Int) = k4 ∧ t.xs = xs ∧ t.ys = ys) := ⟨t0, t1, t8 ▸ hTs, t2, t3, t4, t5, t6, t7⟩
                  have HFIN : Hid (∀ u0 u1 u2 u3 u4, ReadRes w s.data.toList (.returned (.tuple #[.agg #[.complex .f32 x1 x2, .int .i64 k3, .int .i64 k4, .slice (some ⟨gs', 0, none⟩) N cs, .slice (some ⟨gm', 0, none⟩) N cm], .bool true])) (((((w5.setCell ⟨w.heap.size, 0, none⟩ u0).setCell ⟨w.heap.size, 1, none⟩ u1).setCell ⟨w.heap.size, 2, none⟩ u2).setCell ⟨w.heap.size, 3, none⟩ u3).setCell ⟨w.heap.size, 4, none⟩ u4)) := fun u0 u1 u2 u3 u4 => by
                    refine ⟨set5 HOld5.out (Nat.le_refl _) _ _ _ _ _, .inr ?_⟩
                    obtain ⟨t, y0, y1, y2, y3, y4, y5, y6, y7⟩ := HYES.out
                    refine ⟨t, .slice (some ⟨gs', 0, none⟩) N cs, .slice (some ⟨gm', 0, none⟩) N cm, y0, y1, ?_, ?_⟩
                    · rw [y2, y3, y4, y5]; rfl
                    · rw [y6, y7, HT5.out.T.lenS]
                      exact HT5.out.T.madeN _ _ _ _ _
                  obtain ⟨c0, c1, c2, c3, c4⟩ := HRc5.out
                  obtain ⟨f0, f1, f2, f3, f4⟩ := HRf5.out
                  obtain ⟨o0, o1, o2, o3, o4⟩ := HT5.out.T.oc
                  have hne := HT5.out.T.ne
                  clear t1 t2 t3 t4 t5 t6 t7 t8 hTs HTT HYES
                  go_wp2
                  exact bodyPost_ret (v := .tuple #[.agg #[.complex .f32 x1 x2, .int .i64 k3, .int .i64 k4, .slice (some ⟨gs', 0, none⟩) N cs, .slice (some ⟨gm', 0, none⟩) N cm], .bool true]) (by simp [results, Tryz.f13, go_sem, c0, c1, c2, c3, c4]) rfl (HFIN.out _ _ _ _ _)
                · have hq : (T.toList == s.toList) = false := by rw [ByteArray.toList_eq, ByteArray.toList_eq]; simpa using hTs
                  have hno : Hid (∀ t : TD, t.Good → t.text ≠ s.data.toList) := fun t ht e => by
                    obtain ⟨t0, t1, t2, t3, t4, t5, t6, t7, t8⟩ := HTT.out
                    obtain ⟨u2, u3, u4, u5, u6, u7⟩ := HVAL.out t ht e
                    have : t = t0 := by
                      cases t; cases t0
                      simp only at t2 t3 t4 t5 t6 t7 u2 u3 u4 u5 u6 u7
                      have e1 := Int.ofNat.inj (u4.trans t4.symm)
                      have e2 := Int.ofNat.inj (u5.trans t5.symm)
                      subst t2 t3 t6 t7 u2 u3 u6 u7 e1 e2
                      rfl
                    subst this
                    exact hTs (t8.trans e)
                  clear hTs HTT
                  obtain ⟨c0, c1, c2, c3, c4⟩ := HRc5.out
                  obtain ⟨f0, f1, f2, f3, f4⟩ := HRf5.out
                  go_wp2
                  exact bodyPost_ret (v := .tuple #[.agg #[.complex .f32 0 0, .int .i64 0, .int .i64 0, .slice none 0 0, .slice none 0 0], .bool false]) (by simp [results, Tryz.f13, go_sem, c0, c1, c2, c3, c4]) rfl ⟨set5 HOld5.out (Nat.le_refl _) _ _ _ _ _, .inl ⟨hno.out, rfl⟩⟩
end Go.Proofs.YtidbdokoonikpaaGreatDoor
end
