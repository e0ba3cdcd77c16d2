/- Merged texts: Builder, BldS, SamI, SamT, TrdK. -/
import Derived.Test.YtidbdokoonikpaaGreatDoorJ1
import Derived.Test.YtidbdokoonikpaaGreatDoorShelf
import Derived.Lib.FrozenHead
import Derived.Lib.OthersKept
import Derived.RangeFuncNested
import Derived.Test.YtidbdokoonikpaaGreatDoorJ12
import Derived.Deep.RegionHeld3
import Derived.Deep.Cut
import Derived.Test.YtidbdokoonikpaaGreatDoorJ11
import Derived.Test.YtidbdokoonikpaaGreatDoorJ7
import Derived.Test.YtidbdokoonikpaaGreatDoorJ10
section
/- Walks of strings.Builder, for a builder that the call itself has made. -/
namespace Go.Proofs.YtidbdokoonikpaaGreatDoor
open Go.RowKit

/-- a builder of the call's own that holds l; what it makes lies at or behind block B -/
def Bld (B b : Nat) (l : List UInt8) (w : World) : Prop := Lib.IsBuilderF 51 5 B b (Lib.byteCells l) w
/-- what a write into the builder b leaves as it was -/
structure BKeep (B b : Nat) (w w' : World) : Prop where
  below : Below B w w'
  others : Lib.OthersKept 5 (some b) w w'
theorem BKeep.refl (B b : Nat) (w : World) : BKeep B b w w := ⟨Below.refl _ _, Lib.OthersKept.refl _ _ _⟩
theorem BKeep.trans {B b : Nat} {x y z : World} (h : BKeep B b x y) (k : BKeep B b y z) : BKeep B b x z := ⟨h.below.trans k.below, h.others.trans k.others⟩
theorem Bld.new (w : World) : Bld w.heap.size w.heap.size [] (w.alloc (.cells #[.pointer none, .slice none 0 0] 51)) := by
  refine .inl ⟨Nat.le_refl _, .slice none 0 0, ?_, ⟨by simp [Lib.byteCells], .inl ⟨rfl, rfl⟩⟩, by simp [Value.ownBlock]⟩
  exact (MapKept.heap_alloc w _).1
theorem Bld.lt {B b : Nat} {l : List UInt8} {w : World} (h : Bld B b l w) : b < w.heap.size ∧ B ≤ b := by
  have : ∀ p, Lib.BuilderAtF 51 5 B b p (Lib.byteCells l) w → b < w.heap.size ∧ B ≤ b := fun p ⟨hB, v, hb, _, _⟩ => ⟨(Array.getElem?_eq_some_iff.1 hb).1, hB⟩
  rcases h with h | h
  · exact this _ h
  · exact this _ h

/-- a builder abides the turn of a block that holds no cells, and new blocks -/
theorem Bld.own {B b : Nat} {l : List UInt8} {W W' : World} {row : Option Nat} (h : Bld B b l W) (hg : W.grownBy W' row) (hr : ∀ r, row = some r → ∃ o : Obj, W.heap[r]? = some o ∧ o.isCells = false) : Bld B b l W' := by
  have one : ∀ p, Lib.BuilderAtF 51 5 B b p (Lib.byteCells l) W → Lib.BuilderAtF 51 5 B b p (Lib.byteCells l) W' := by
    rintro p ⟨hB, v, hb, ⟨hl, hrow⟩, hne⟩
    refine ⟨hB, v, (grownBy_keeps_cells hg hr hb rfl).trans hb, ⟨hl, ?_⟩, hne⟩
    rcases hrow with h | ⟨g, cap, cur, fz, h1, h2, h3, h4⟩
    · exact .inl h
    · exact .inr ⟨g, cap, cur, fz, h1, h2, (grownBy_keeps_cells hg hr h3 rfl).trans h3, h4⟩
  exact h.elim (fun x => .inl (one _ x)) (fun x => .inr (one _ x))
theorem Bld.isCells {B b : Nat} {l : List UInt8} {W : World} (h : Bld B b l W) : ∃ o : Obj, W.heap[b]? = some o ∧ o.isCells = true := by
  rcases h with ⟨_, v, hb, _⟩ | ⟨_, v, hb, _⟩
  · exact ⟨_, hb, rfl⟩
  · exact ⟨_, hb, rfl⟩
/-- a write into a builder keeps whatever is no cells -/
theorem BKeep.from {B b h0 : Nat} {W W' : World} (h : BKeep B b W W') (hb : ∃ o : Obj, W.heap[b]? = some o ∧ o.isCells = true) : KeepsFrom h0 W W' := by
  obtain ⟨ob, hob, hc⟩ := hb
  refine ⟨h.below.size, fun k o _ hk ho => h.others k o hk ?_ ?_⟩
  · intro e
    obtain rfl : k = b := Option.some.inj e
    rw [hob] at hk
    obtain rfl := Option.some.inj hk
    rw [hc] at ho; cases ho
  · intro c fz e
    subst e; cases ho
/-- .. and every block of other cells -/
theorem BKeep.block {B b k : Nat} {W W' : World} {o : Obj} (h : BKeep B b W W') (hk : W.heap[k]? = some o) (hne : k ≠ b) (ho : ∀ c fz, o ≠ .cells c 5 fz) : W'.heap[k]? = some o :=
  h.others k o hk (fun e => hne (Option.some.inj e)) ho
theorem own_block {W W' : World} {row : Option Nat} {k : Nat} {o : Obj} (hk : W.heap[k]? = some o) (ho : o.isCells = true) (hg : W.grownBy W' row) (hr : ∀ r, row = some r → ∃ o : Obj, W.heap[r]? = some o ∧ o.isCells = false) : W'.heap[k]? = some o :=
  (grownBy_keeps_cells hg hr hk ho).trans hk
theorem infoBuilder : (Tryz.prog.info? 51).map (·.size) = some 2 := by kernel_rfl
theorem liesBuilder : liesAt Tryz.prog Tryz.prog.depth 51 (2 / Tryz.prog.cellsOf 51) 0 51 1 = true := by kernel_rfl
theorem infoByte : (Tryz.prog.info? 5).map (fun i => (i.zero, i.size, i.bytes)) = some (some (.int .u8 0), 1, 1) := by kernel_rfl
set_option maxRecDepth 100000 in
set_option maxHeartbeats 400000 in
theorem copyCheck_used (b : Nat) (w : World) (h0 : w.cell? ⟨b, 0, none⟩ = some (.pointer (some ⟨b, 0, none⟩))) :
    Calls Tryz.prog 56 #[.pointer (some ⟨b, 0, none⟩)] w fun e w' => e = .returned (.tuple #[]) ∧ w = w' := by
  obtain ⟨j, hj, _⟩ := Option.map_eq_some_iff.1 infoBuilder
  go_enter Tryz.func56, Tryz.ntmps56
  go_wp2
  rw [Lib.run_neq_ptr_same w _ Tryz.underlying49 hj]
  go_wp2
  go_end0
  exact ⟨rfl, rfl⟩
set_option maxRecDepth 100000 in
set_option maxHeartbeats 400000 in
theorem copyCheck_fresh (b : Nat) (w : World) (h0 : w.cell? ⟨b, 0, none⟩ = some (.pointer none)) (hsh : w.shape? b = some (51, 2)) (hf : w.frozen? ⟨b, 0, none⟩ = false) :
    Calls Tryz.prog 56 #[.pointer (some ⟨b, 0, none⟩)] w fun e w' => e = .returned (.tuple #[]) ∧ w.setCell ⟨b, 0, none⟩ (.pointer (some ⟨b, 0, none⟩)) = w' := by
  obtain ⟨j, hj, hjs⟩ := Option.map_eq_some_iff.1 infoBuilder
  go_enter Tryz.func56, Tryz.ntmps56
  go_wp2
  rw [Lib.run_to_unsafe w ⟨b, 0, none⟩ Tryz.underlying49 Tryz.underlying106 hj (by rw [hjs]; decide) hsh (Nat.zero_lt_succ 1)]
  simp only [Result.andThen]
  rw [Oper.upon_value]
  go_wp2
  rw [run_callFunc_extern Tryz.func77 (by kernel_rfl) (by kernel_rfl) (by kernel_rfl) (e := Extern.AbiNoEscape.same) (by kernel_rfl)]
  rw [Lib.run_noEscape]
  simp only [Result.andThen]
  rw [Oper.upon_value]
  go_wp2
  rw [Lib.run_from_unsafe w ⟨b, 0, none⟩ Tryz.underlying106 Tryz.underlying49 hj hsh liesBuilder]
  simp only [Result.andThen]
  rw [Oper.upon_value]
  go_wp2
  go_end0
  exact ⟨rfl, rfl⟩
theorem copyCheck_any (B b : Nat) (bs : List Value) (w : World) (h : Lib.IsBuilderF 51 5 B b bs w) :
    Calls Tryz.prog 56 #[.pointer (some ⟨b, 0, none⟩)] w fun e w' => e = .returned (.tuple #[]) ∧ Lib.BuilderAtF 51 5 B b (.pointer (some ⟨b, 0, none⟩)) bs w' ∧ BKeep B b w w' := by
  rcases h with h | h
  · refine (copyCheck_fresh b w h.cell0 h.shape h.frozen0).mono ?_
    rintro e w' ⟨rfl, rfl⟩
    exact ⟨rfl, h.used _, (Below.refl B w).setCell (p := ⟨b, 0, none⟩) h.1 _, (Lib.OthersKept.refl _ _ w).setCell ⟨b, 0, none⟩ rfl _⟩
  · refine (copyCheck_used b w h.cell0).mono ?_
    rintro e w' ⟨rfl, rfl⟩
    exact ⟨rfl, h, BKeep.refl _ _ _⟩
set_option maxRecDepth 100000 in
set_option maxHeartbeats 1000000 in
theorem WriteByte_any (B b : Nat) (l : List UInt8) (c : UInt8) (w : World) (h : Bld B b l w) (hlen : l.length ≤ 1099511627776) (hBw : B ≤ w.heap.size) :
    Calls Tryz.prog 26 #[.pointer (some ⟨b, 0, none⟩), .int .u8 c.toNat] w fun e w' => e = .returned .nilIface ∧ Bld B b (l ++ [c]) w' ∧ BKeep B b w w' := by
  obtain ⟨i0, hi, hz0, hz1, hz2⟩ := info_parts infoByte
  have hbl : (Lib.byteCells l).length = l.length := Lib.byteCells_length l
  have happ : Lib.byteCells (l ++ [c]) = Lib.byteCells l ++ [.int .u8 c.toNat] := by simp [Lib.byteCells]
  unfold Bld at h ⊢
  rw [happ]
  clear happ
  have hlen' : (Lib.byteCells l).length ≤ 1099511627776 := by omega
  clear hbl hlen
  generalize Lib.byteCells l = bs at *
  go_enter Tryz.func26, Tryz.ntmps26
  go_wp2_with (go_at_call 56; refine (copyCheck_any B b bs _ h).mono ?_)
  rintro e w1 ⟨rfl, h1, hb1, hk1⟩
  obtain ⟨hB, v, hbk, hown, hne⟩ := h1
  have c0 : w1.cell? ⟨b, 0, none⟩ = some (.pointer (some ⟨b, 0, none⟩)) := by rw [Lib.cell_of_heap hbk]; rfl
  have c1 : w1.cell? ⟨b, 1, none⟩ = some v := by rw [Lib.cell_of_heap hbk]; rfl
  go_wp2_with (at_builtin; refine wpList_append_ownF _ rfl _ _ 22 rfl B 5 i0 (.int .u8 0) 1 1 Tryz.underlying22 hi hz0 hz1 hz2 rfl (by decide) _ _ _ rfl (hown.alloc _) ⟨w1.heap.size, 0, none⟩ 1 1 [.int .u8 c.toNat] rfl rfl ?c1 ?c2 ?c3 ?c4 ?c5 ?_)
  case c1 =>
    intro j u hj
    match j, hj with
    | 0, hj => simp at hj; subst hj; simp [Addr.add]
  case c2 => intro u hu; simp at hu; subst hu; rfl
  case c3 => unfold maxLen; omega
  case c4 => omega
  case c5 => have := hb1.size; simp; omega
  intro v' w2 hown' hgrow _
  have hlt : b < w1.heap.size := (Array.getElem?_eq_some_iff.1 hbk).1
  have hb2 : w2.heap[b]? = some (.cells #[.pointer (some ⟨b, 0, none⟩), v] 51 (0, 0)) := by
    rw [hgrow.block b (by simp; omega) (fun e => hne e.symm), Lib.alloc_old w1 _ b hlt]
    exact hbk
  have d0 : w2.cell? ⟨b, 0, none⟩ = some (.pointer (some ⟨b, 0, none⟩)) := by rw [Lib.cell_of_heap hb2]; rfl
  have d1 : w2.cell? ⟨b, 1, none⟩ = some v := by rw [Lib.cell_of_heap hb2]; rfl
  have f1 : w2.frozen? ⟨b, 1, none⟩ = false := Lib.frozen_of_heap hb2 1
  obtain ⟨g, cap, rfl⟩ : ∃ g cap, v' = .slice (some ⟨g, 0, none⟩) (bs.length + 1) cap := by
    rcases hown'.2 with ⟨_, h0⟩ | ⟨g, cap, cur, fz, hv, _⟩
    · omega
    · exact ⟨g, cap, hv⟩
  go_wp2
  go_ret
  refine ⟨rfl, ?_, ?_, ((hk1.alloc _).grown hgrow (Lib.ownsRowF_kind (hown.alloc _))).setCell ⟨b, 1, none⟩ rfl _⟩
  · exact .inr (Lib.BuilderAtF.put (T := 51) (e := 5) hB hb2 (bs' := bs ++ [.int .u8 c.toNat]) (by simpa using hown') (by decide))
  · exact ((hb1.alloc (by have := hb1.size; omega) _).grown hgrow (by have := hb1.size; simp; omega) (fun k hk => (hown.lt k hk).1)).setCell (p := ⟨b, 1, none⟩) hB _
theorem String_any (B b : Nat) (l : List UInt8) (w : World) (h : Bld B b l w) (hBw : B ≤ w.heap.size) :
    Calls Tryz.prog 29 #[.pointer (some ⟨b, 0, none⟩)] w fun e w' => e = .returned (.string ⟨l.toArray⟩) ∧ BKeep B b w w' :=
  (Tryz.Builder_String_any_k B b l w h hBw).mono fun _ _ ⟨he, _, hb, hk⟩ => ⟨he, hb, hk⟩
end Go.Proofs.YtidbdokoonikpaaGreatDoor
end

section
/- Walks: WriteString of a builder that the call itself has made. -/
namespace Go.Proofs.YtidbdokoonikpaaGreatDoor
open Go.RowKit

set_option maxRecDepth 100000 in
set_option maxHeartbeats 1000000 in
theorem WriteString_bld (B b : Nat) (l : List UInt8) (s : ByteArray) (w : World) (h : Bld B b l w) (hlen : l.length + s.size ≤ 1099511627776) (hBw : B ≤ w.heap.size) :
    Calls Tryz.prog 24 #[.pointer (some ⟨b, 0, none⟩), .string s] w fun e w' => e = .returned (.tuple #[.int .i64 s.size, .nilIface]) ∧ Bld B b (l ++ s.data.toList) w' ∧ BKeep B b w w' := by
  obtain ⟨i0, hi, hz0, hz1, hz2⟩ := info_parts infoByte
  have hbl : (Lib.byteCells l).length = l.length := Lib.byteCells_length l
  have happ : Lib.byteCells (l ++ s.data.toList) = Lib.byteCells l ++ Lib.strCells s := by rw [Lib.strCells_eq]; simp [Lib.byteCells]
  unfold Bld at h ⊢
  rw [happ]
  clear happ
  have hlen' : (Lib.byteCells l).length + s.size ≤ 1099511627776 := by omega
  clear hbl hlen
  generalize Lib.byteCells l = bs at *
  go_enter Tryz.func24, Tryz.ntmps24
  go_wp2_with (go_at_call 56; refine (copyCheck_any B b bs _ h).mono ?_)
  rintro e w1 ⟨rfl, h1, hb1, hk1⟩
  obtain ⟨hB, v, hbk, hown, hne⟩ := h1
  have c0 : w1.cell? ⟨b, 0, none⟩ = some (.pointer (some ⟨b, 0, none⟩)) := by rw [Lib.cell_of_heap hbk]; rfl
  have c1 : w1.cell? ⟨b, 1, none⟩ = some v := by rw [Lib.cell_of_heap hbk]; rfl
  go_wp2_with (at_builtin; refine Lib.wpList_append_own_stringF _ rfl _ _ 22 9 rfl B 5 i0 Tryz.underlying22 Tryz.underlying9 hi hz0 hz1 hz2 _ _ _ rfl hown s rfl ?c3 ?c4 ?c5 ?_)
  case c3 => unfold maxLen; omega
  case c4 => omega
  case c5 => have := hb1.size; omega
  intro v' w2 hown' hgrow _
  have hlt : b < w1.heap.size := (Array.getElem?_eq_some_iff.1 hbk).1
  have hb2 : w2.heap[b]? = some (.cells #[.pointer (some ⟨b, 0, none⟩), v] 51 (0, 0)) := by
    rw [hgrow.block b hlt (fun e => hne e.symm)]
    exact hbk
  have d0 : w2.cell? ⟨b, 0, none⟩ = some (.pointer (some ⟨b, 0, none⟩)) := by rw [Lib.cell_of_heap hb2]; rfl
  have d1 : w2.cell? ⟨b, 1, none⟩ = some v := by rw [Lib.cell_of_heap hb2]; rfl
  have f1 : w2.frozen? ⟨b, 1, none⟩ = false := Lib.frozen_of_heap hb2 1
  obtain ⟨ao, n', cap, rfl⟩ : ∃ ao n' cap, v' = .slice ao n' cap := by
    rcases hown'.2 with ⟨hv, _⟩ | ⟨g, cap, cur, fz, hv, _⟩
    · exact ⟨_, _, _, hv⟩
    · exact ⟨_, _, _, hv⟩
  go_wp2
  go_ret2
  refine ⟨rfl, ?_, ?_, (hk1.grown hgrow (Lib.ownsRowF_kind hown)).setCell ⟨b, 1, none⟩ rfl _⟩
  · exact .inr (Lib.BuilderAtF.put (T := 51) (e := 5) hB hb2 (bs' := bs ++ Lib.strCells s) (by simpa [Lib.strCells_length] using hown') (by decide))
  · exact (hb1.grown hgrow (by have := hb1.size; omega) (fun k hk => (hown.lt k hk).1)).setCell (p := ⟨b, 1, none⟩) hB _
/-- a write keeps a box of other cells -/
theorem Box.bkeep {w0 W W' : World} {b b' B : Nat} {C : Array Value} {T : TypeId} (h : Box w0 b C T W) (k : BKeep B b' W W') (hne : b ≠ b') (hT : T ≠ 5) (hB : w0.heap.size ≤ B) : Box w0 b C T W' :=
  ⟨k.block h.blk hne (fun c fz e => hT (by injection e)), h.old.trans (k.below.mono hB)⟩
end Go.Proofs.YtidbdokoonikpaaGreatDoor
end

section
/- Walks: the program's text of a tile. -/
namespace Go.Proofs.YtidbdokoonikpaaGreatDoor
open Go.RowKit Flo

theorem Bld.step {B b : Nat} {l : List UInt8} {W W' : World} (h : Bld B b l W) (k : Below W.heap.size W W') : Bld B b l W' := by
  have one : ∀ p, Lib.BuilderAtF 51 5 B b p (Lib.byteCells l) W → Lib.BuilderAtF 51 5 B b p (Lib.byteCells l) W' := by
    rintro p ⟨hB, v, hb, ⟨hl, hrow⟩, hne⟩
    refine ⟨hB, v, (k.block _ (Array.getElem?_eq_some_iff.1 hb).1).trans hb, ⟨hl, ?_⟩, hne⟩
    rcases hrow with h | ⟨g, cap, cur, fz, h1, h2, h3, h4⟩
    · exact .inl h
    · exact .inr ⟨g, cap, cur, fz, h1, h2, (k.block _ (Array.getElem?_eq_some_iff.1 h3).1).trans h3, h4⟩
  exact h.elim (fun x => .inl (one _ x)) (fun x => .inr (one _ x))
/-- a tile's box and a builder behind it -/
def TxtI (w : World) (bb : Nat) (C : Array Value) (l : List UInt8) (W : World) : Prop := Box w w.heap.size C 27 W ∧ Bld bb bb l W ∧ bb ≤ W.heap.size ∧ w.heap.size < bb
theorem TxtI.step {w : World} {bb : Nat} {C : Array Value} {l : List UInt8} {W W' : World} (h : TxtI w bb C l W) (k : Below W.heap.size W W') : TxtI w bb C l W' :=
  ⟨h.1.step k, h.2.1.step k, Nat.le_trans h.2.2.1 k.size, h.2.2.2⟩
theorem TxtI.keep {w : World} {bb : Nat} {C : Array Value} {l l' : List UInt8} {W W' : World} (h : TxtI w bb C l W) (h2 : Bld bb bb l' W') (k : BKeep bb bb W W') : TxtI w bb C l' W' :=
  ⟨h.1.bkeep k (by have := h.2.2.2; omega) (by decide) (by have := h.2.2.2; omega), h2, Nat.le_trans h.2.2.1 k.below.size, h.2.2.2⟩
theorem wrS {w : World} {bb : Nat} {C : Array Value} {l : List UInt8} {W : World} (h : TxtI w bb C l W) (s : ByteArray) (hl : l.length + s.size ≤ 100000) :
    Calls Tryz.prog 24 #[.pointer (some ⟨bb, 0, none⟩), .string s] W fun e w' => e = .returned (.tuple #[.int .i64 s.size, .nilIface]) ∧ TxtI w bb C (l ++ s.data.toList) w' :=
  (WriteString_bld bb bb l s W h.2.1 (by omega) h.2.2.1).mono fun _ _ ⟨h1, h2, h3⟩ => ⟨h1, h.keep h2 h3⟩
theorem wrB {w : World} {bb : Nat} {C : Array Value} {l : List UInt8} {W : World} (h : TxtI w bb C l W) (c : UInt8) (k : Int) (hk : k = c.toNat) (hl : l.length ≤ 100000) :
    Calls Tryz.prog 26 #[.pointer (some ⟨bb, 0, none⟩), .int .u8 k] W fun e w' => e = .returned .nilIface ∧ TxtI w bb C (l ++ [c]) w' := by
  subst hk
  exact (WriteByte_any bb bb l c W h.2.1 (by omega) h.2.2.1).mono fun _ _ ⟨h1, h2, h3⟩ => ⟨h1, h.keep h2 h3⟩
theorem wrE {w : World} {bb : Nat} {C : Array Value} {l : List UInt8} {W : World} (h : TxtI w bb C l W) :
    Calls Tryz.prog 29 #[.pointer (some ⟨bb, 0, none⟩)] W fun e w' => e = .returned (.string ⟨l.toArray⟩) ∧ Below w.heap.size w w' :=
  (String_any bb bb l W h.2.1 h.2.2.1).mono fun _ _ ⟨h1, h3⟩ => ⟨h1, h.1.old.trans (h3.below.mono (Nat.le_of_lt h.2.2.2))⟩
theorem wrW {w : World} {bb : Nat} {C : Array Value} {l : List UInt8} {W : World} (h : TxtI w bb C l W) (x : Nat) (hx : x < 4294967296) :
    Calls Tryz.prog 25 #[.float .f32 x] W fun e w' => e = .returned (.string ⟨(wordL x).toArray⟩) ∧ TxtI w bb C l w' :=
  (implWordOf_any x hx W).mono fun _ _ ⟨h1, h2⟩ => ⟨h1, h.step h2⟩
theorem wrU {w : World} {bb : Nat} {C : Array Value} {l : List UInt8} {W : World} (h : TxtI w bb C l W) (x : Nat) (hx : x < 4294967296) :
    Calls Tryz.prog 28 #[.int .u32 x] W fun e w' => e = .returned (.string ⟨(wordL x).toArray⟩) ∧ TxtI w bb C l w' :=
  (wordOfBits_any x hx W).mono fun _ _ ⟨h1, h2⟩ => ⟨h1, h.step h2⟩
theorem wrI {w : World} {bb : Nat} {C : Array Value} {l : List UInt8} {W : World} (h : TxtI w bb C l W) (n : Nat) (hn : n ≤ 10) :
    Calls Tryz.prog 27 #[.int .i64 n] W fun e w' => e = .returned (.string (decS n)) ∧ TxtI w bb C l w' :=
  (itoa_small n hn W).mono fun _ _ ⟨h1, h2⟩ => ⟨h1, h2 ▸ h⟩
set_option maxRecDepth 100000 in
set_option maxHeartbeats 1000000 in
theorem implText_bad (cx cy : Nat) (deep size : Int) (hx : cx < 4294967296) (hy : cy < 4294967296) (hp : placeB cx cy deep size = true) (a a' : Option Addr) (n c c' : Nat) (ys : List Int) (hl : ys.length ≤ 1048576) (w : World) (hs : Sl w a' (ys.map intV)) (hw : wellB size n ys = false) :
    Calls Tryz.prog 8 #[.agg #[.complex .f32 cx cy, .int .i64 deep, .int .i64 size, .slice a n c, .slice a' ys.length c']] w fun e w' => e = .returned (.tuple #[.string ⟨#[]⟩, .bool false]) ∧ Below w.heap.size w w' := by
  have B := Box.new w #[.complex .f32 cx cy, .int .i64 deep, .int .i64 size, .slice a n c, .slice a' ys.length c'] 27
  have HW := Lib.hid (implSum_bad cx cy deep size hx hy hp a a' n c c' ys hl _ (hs.alloc (.cells #[.complex .f32 cx cy, .int .i64 deep, .int .i64 size, .slice a n c, .slice a' ys.length c'] 27)) hw)
  clear hp hs hw
  go_enter Tryz.func8, Tryz.ntmps8
  go_wp2_with fail
  with_reducible refine HW.out.mono ?_
  rintro e w1 ⟨rfl, hd⟩
  have HB := Lib.hid (B.step hd).old
  clear hd HW B
  go_wp2
  go_ret2
  exact ⟨rfl, HB.out⟩
set_option maxRecDepth 100000 in
set_option maxHeartbeats 1000000 in
theorem implText_good (cx cy d s : Nat) (hx : cx < 4294967296) (hy : cy < 4294967296) (hp : placeB cx cy d s = true) (a a' : Option Addr) (c c' : Nat) (xs : List Nat) (ys : List Int) (hl : ys.length ≤ 1048576) (hxx : ∀ x, x ∈ xs → x < 4294967296) (w : World) (hs : Sl w a (xs.map floV)) (hs' : Sl w a' (ys.map intV)) (hw : wellB s xs.length ys = true) :
    Calls Tryz.prog 8 #[.agg #[.complex .f32 cx cy, .int .i64 d, .int .i64 s, .slice a xs.length c, .slice a' ys.length c']] w fun e w' => e = .returned (.tuple #[.string ⟨(textT cx cy d s xs ys (sum0 xs ys)).toArray⟩, .bool true]) ∧ Below w.heap.size w w' := by
  obtain ⟨p1, p2, p3, p4⟩ := placeB_bd hp
  have B := Box.new w #[.complex .f32 cx cy, .int .i64 d, .int .i64 s, .slice a xs.length c, .slice a' ys.length c'] 27
  have HW := Lib.hid (implSum_good cx cy d s hx hy hp a a' c c' xs ys hl hxx _ (hs.alloc (.cells #[.complex .f32 cx cy, .int .i64 d, .int .i64 s, .slice a xs.length c, .slice a' ys.length c'] 27)) (hs'.alloc (.cells #[.complex .f32 cx cy, .int .i64 d, .int .i64 s, .slice a xs.length c, .slice a' ys.length c'] 27)) hw)
  have W1 := Lib.hid (fun w => implWordOf_any cx hx w)
  have W2 := Lib.hid (fun w => implWordOf_any cy hy w)
  have D1 := Lib.hid (fun w => itoa_small d (by omega) w)
  have D2 := Lib.hid (fun w => itoa_small s (by omega) w)
  obtain ⟨g1, g2, g3⟩ := wellB_all hw
  have HT := Lib.hid (fun k => sum_at (k := k) (m := xs.length) rfl g2 hxx g3)
  have H1 := Lib.hid hs
  have H2 := Lib.hid hs'
  have hL1 : xs.length ≤ 64 := by
    have h8 : (s : Int) * s ≤ 8 * 8 := Int.mul_le_mul (by omega) (by omega) (by omega) (by omega)
    omega
  have HL2 := Lib.hid g2
  have HB := Lib.hid B
  clear hp hs hs' hw B g1 g2 g3
  go_enter Tryz.func8, Tryz.ntmps8
  go_wp2_with fail
  with_reducible refine HW.out.mono ?_
  rintro e w1 ⟨rfl, hd⟩
  have HB1 := Lib.hid (HB.out.step hd)
  clear hd HW HB
  have HX0 : Hid (TxtI w w1.heap.size #[.complex .f32 cx cy, .int .i64 d, .int .i64 s, .slice a xs.length c, .slice a' ys.length c'] [] (w1.alloc (.cells #[.pointer none, .slice none 0 0] 51))) := ⟨HB1.out.alloc _, Bld.new w1, by simp, HB1.out.lt⟩
  clear HB1
  obtain ⟨b0, b1, b2, b3, b4⟩ := HX0.out.1.cells5
  go_wp2_with fail
  generalize w1.heap.size = bb at *
  obtain ⟨X1, hX1⟩ : ∃ X : ByteArray, ⟨(wordL cx).toArray⟩ = X := ⟨_, rfl⟩
  obtain ⟨X2, hX2⟩ : ∃ X : ByteArray, ⟨(wordL cy).toArray⟩ = X := ⟨_, rfl⟩
  obtain ⟨X3, hX3⟩ : ∃ X : ByteArray, decS d = X := ⟨_, rfl⟩
  obtain ⟨X4, hX4⟩ : ∃ X : ByteArray, decS s = X := ⟨_, rfl⟩
  have Z1 : Hid (X1.size = 8 ∧ X2.size = 8 ∧ X3.size ≤ 2 ∧ X4.size ≤ 2) := by
    refine ⟨?_, ?_, ?_, ?_⟩
    · rw [← hX1]; exact wordL_length cx
    · rw [← hX2]; exact wordL_length cy
    · rw [← hX3]; exact decS_size d
    · rw [← hX4]; exact decS_size s
  have HXS := Lib.hid (And.intro hX1 (And.intro hX2 (And.intro hX3 hX4)))
  have HW1 := Lib.hid (fun l W (h : TxtI w bb #[.complex .f32 cx cy, .int .i64 d, .int .i64 s, .slice a xs.length c, .slice a' ys.length c'] l W) => hX1 ▸ wrW h cx hx)
  have HW2 := Lib.hid (fun l W (h : TxtI w bb #[.complex .f32 cx cy, .int .i64 d, .int .i64 s, .slice a xs.length c, .slice a' ys.length c'] l W) => hX2 ▸ wrW h cy hy)
  have HI1 := Lib.hid (fun l W (h : TxtI w bb #[.complex .f32 cx cy, .int .i64 d, .int .i64 s, .slice a xs.length c, .slice a' ys.length c'] l W) => hX3 ▸ wrI h d (by omega))
  have HI2 := Lib.hid (fun l W (h : TxtI w bb #[.complex .f32 cx cy, .int .i64 d, .int .i64 s, .slice a xs.length c, .slice a' ys.length c'] l W) => hX4 ▸ wrI h s (by omega))
  clear hX1 hX2 hX3 hX4 W1 W2 D1 D2

  with_reducible refine (wrS HX0.out _ ?hl).mono ?_
  case hl => have := Z1.out; first | (simp; omega) | decide
  rintro e v1 ⟨rfl, hx⟩
  have HX1 := Lib.hid hx
  clear hx HX0 b0 b1 b2 b3 b4
  obtain ⟨b0, b1, b2, b3, b4⟩ := HX1.out.1.cells5
  go_wp2_with fail
  with_reducible refine (HW1.out _ _ HX1.out).mono ?_
  rintro e v2 ⟨rfl, hx⟩
  have HX2 := Lib.hid hx
  clear hx HX1 b0 b1 b2 b3 b4
  obtain ⟨b0, b1, b2, b3, b4⟩ := HX2.out.1.cells5
  go_wp2_with fail
  with_reducible refine (wrS HX2.out X1 ?hl).mono ?_
  case hl => have := Z1.out; first | (simp; omega) | decide
  rintro e v3 ⟨rfl, hx⟩
  have HX3 := Lib.hid hx
  clear hx HX2 b0 b1 b2 b3 b4
  obtain ⟨b0, b1, b2, b3, b4⟩ := HX3.out.1.cells5
  go_wp2_with fail
  with_reducible refine (wrB HX3.out 32 32 rfl ?hl).mono ?_
  case hl => have := Z1.out; first | (simp; omega) | decide
  rintro e v4 ⟨rfl, hx⟩
  have HX4 := Lib.hid hx
  clear hx HX3 b0 b1 b2 b3 b4
  obtain ⟨b0, b1, b2, b3, b4⟩ := HX4.out.1.cells5
  go_wp2_with fail
  with_reducible refine (HW2.out _ _ HX4.out).mono ?_
  rintro e v5 ⟨rfl, hx⟩
  have HX5 := Lib.hid hx
  clear hx HX4 b0 b1 b2 b3 b4
  obtain ⟨b0, b1, b2, b3, b4⟩ := HX5.out.1.cells5
  go_wp2_with fail
  with_reducible refine (wrS HX5.out X2 ?hl).mono ?_
  case hl => have := Z1.out; first | (simp; omega) | decide
  rintro e v6 ⟨rfl, hx⟩
  have HX6 := Lib.hid hx
  clear hx HX5 b0 b1 b2 b3 b4
  obtain ⟨b0, b1, b2, b3, b4⟩ := HX6.out.1.cells5
  go_wp2_with fail
  with_reducible refine (wrB HX6.out 32 32 rfl ?hl).mono ?_
  case hl => have := Z1.out; first | (simp; omega) | decide
  rintro e v7 ⟨rfl, hx⟩
  have HX7 := Lib.hid hx
  clear hx HX6 b0 b1 b2 b3 b4
  obtain ⟨b0, b1, b2, b3, b4⟩ := HX7.out.1.cells5
  go_wp2_with fail
  with_reducible refine (HI1.out _ _ HX7.out).mono ?_
  rintro e v8 ⟨rfl, hx⟩
  have HX8 := Lib.hid hx
  clear hx HX7 b0 b1 b2 b3 b4
  obtain ⟨b0, b1, b2, b3, b4⟩ := HX8.out.1.cells5
  go_wp2_with fail
  with_reducible refine (wrS HX8.out X3 ?hl).mono ?_
  case hl => have := Z1.out; first | (simp; omega) | decide
  rintro e v9 ⟨rfl, hx⟩
  have HX9 := Lib.hid hx
  clear hx HX8 b0 b1 b2 b3 b4
  obtain ⟨b0, b1, b2, b3, b4⟩ := HX9.out.1.cells5
  go_wp2_with fail
  with_reducible refine (wrB HX9.out 32 32 rfl ?hl).mono ?_
  case hl => have := Z1.out; first | (simp; omega) | decide
  rintro e v10 ⟨rfl, hx⟩
  have HX10 := Lib.hid hx
  clear hx HX9 b0 b1 b2 b3 b4
  obtain ⟨b0, b1, b2, b3, b4⟩ := HX10.out.1.cells5
  go_wp2_with fail
  with_reducible refine (HI2.out _ _ HX10.out).mono ?_
  rintro e v11 ⟨rfl, hx⟩
  have HX11 := Lib.hid hx
  clear hx HX10 b0 b1 b2 b3 b4
  obtain ⟨b0, b1, b2, b3, b4⟩ := HX11.out.1.cells5
  go_wp2_with fail
  with_reducible refine (wrS HX11.out X4 ?hl).mono ?_
  case hl => have := Z1.out; first | (simp; omega) | decide
  rintro e v12 ⟨rfl, hx⟩
  have HX12 := Lib.hid hx
  clear hx HX11 b0 b1 b2 b3 b4
  obtain ⟨b0, b1, b2, b3, b4⟩ := HX12.out.1.cells5
  go_wp2_with fail
  have HX13 : Hid (TxtI w bb #[.complex .f32 cx cy, .int .i64 d, .int .i64 s, .slice a xs.length c, .slice a' ys.length c'] (headT cx cy d s ++ cellsT xs ys 0) v12) := by
    have h := HX12.out
    obtain ⟨e1, e2, e3, e4⟩ := HXS.out
    have e : headT cx cy d s ++ cellsT xs ys 0 = [] ++ ({ data := #[116, 105, 108, 101, 32] } : ByteArray).data.toList ++ X1.data.toList ++ [32] ++ X2.data.toList ++ [32] ++ X3.data.toList ++ [32] ++ X4.data.toList := by
      rw [← e1, ← e2, ← e3, ← e4, cellsT_zero, headT]
      simp
    rw [e]
    exact h
  have Hhead : Hid ((headT cx cy d s).length ≤ 100) := by
    show _ ≤ _
    have e1 := decS_size d
    have e2 := decS_size s
    unfold headT
    simp only [List.length_append, wordL_length, List.length_cons, List.length_nil]
    have e3 : (decS d).data.toList.length ≤ 2 := by rw [len_eq]; exact e1
    have e4 : (decS s).data.toList.length ≤ 2 := by rw [len_eq]; exact e2
    omega
  have hsm := sumL_lt (xs := xs) (ys := ys) (h := 2166136261) (by decide)
  have HSW := Lib.hid (fun l W (h : TxtI w bb #[.complex .f32 cx cy, .int .i64 d, .int .i64 s, .slice a xs.length c, .slice a' ys.length c'] l W) => wrU h (sum0 xs ys) hsm)
  clear HX12 HXS Z1 HW1 HW2 HI1 HI2 b0 b1 b2 b3 b4 hsm
  go_loopw [7, 8, 41] (fun _ _ i wr => ∃ k : Nat, k ≤ xs.length ∧ i = .int .i64 k ∧ Hid (TxtI w bb #[.complex .f32 cx cy, .int .i64 d, .int .i64 s, .slice a xs.length c, .slice a' ys.length c'] (headT cx cy d s ++ cellsT xs ys k) wr)) (fun _ _ i _ => (xs.length - intOf i).toNat)
  case atStart => exact ⟨0, Nat.zero_le _, rfl, HX13⟩
  case round =>
    obtain ⟨k, hk, rfl, HX⟩ := hrel
    have hOs : (headT cx cy d s ++ cellsT xs ys k).length ≤ 1000 := by
      rw [List.length_append, cellsT_len xs ys k hk (by rw [HL2.out]; exact hk)]
      have := Hhead.out
      omega
    obtain ⟨l, hl2⟩ : ∃ l, headT cx cy d s ++ cellsT xs ys k = l := ⟨_, rfl⟩
    rw [hl2] at HX hOs
    have HLE := Lib.hid hl2
    clear hl2
    have h1 := H1.out.step HX.out.1.old
    have h2 := H2.out.step HX.out.1.old
    by_cases hlt : k < xs.length
    · obtain ⟨x, y, hxk, hyk, x1, y1, y2, -, -⟩ := HT.out k hlt
      have HXC : Hid (cellsT xs ys (k + 1) = cellsT xs ys k ++ 32 :: (wordL x ++ [sgnC y])) := by
        show _ = _
        have hk2 : k < ys.length := by rw [HL2.out]; exact hlt
        rw [cellsT_snoc xs ys k hlt hk2]
        rw [List.getElem?_map, List.getElem?_eq_getElem hlt] at hxk
        rw [List.getElem?_map, List.getElem?_eq_getElem hk2] at hyk
        simp only [Option.map_some, floV, intV, Option.some.injEq, Value.float.injEq, Value.int.injEq, true_and] at hxk hyk
        rw [hxk, hyk]
      have HYK := Lib.hid hyk
      have HWX := Lib.hid (fun l W (h : TxtI w bb #[.complex .f32 cx cy, .int .i64 d, .int .i64 s, .slice a xs.length c, .slice a' ys.length c'] l W) => wrW h x x1)
      obtain ⟨bx, ox, rfl, hcx⟩ := h1.at hxk
      have hyl : k < ys.length := by rw [HL2.out]; exact hlt
      clear hxk hyk h1 h2
      go_wp2_with fail
      with_reducible refine (wrB HX.out 32 32 rfl ?hl).mono ?_
      case hl => omega
      rintro e v1 ⟨rfl, hx1⟩
      have HX1 := Lib.hid hx1
      clear hx1 HX hcx
      go_wp2_with fail
      with_reducible refine (HWX.out _ _ HX1.out).mono ?_
      rintro e v2 ⟨rfl, hx2⟩
      have HX2 := Lib.hid hx2
      have hwl : (⟨(wordL x).toArray⟩ : ByteArray).size = 8 := wordL_length _
      clear hx2 HX1
      go_wp2_with fail
      with_reducible refine (wrS HX2.out _ ?hl).mono ?_
      case hl => rw [hwl]; simp; omega
      rintro e v3 ⟨rfl, hx3⟩
      have HX3 := Lib.hid hx3
      obtain ⟨b0, b1, b2, b3, b4⟩ := HX3.out.1.cells5
      obtain ⟨bm, om, rfl, hcm⟩ := (H2.out.step HX3.out.1.old).at HYK.out
      clear hx3 HX2 hwl
      have Hy : Hid (y = -1 ∨ y = 0 ∨ y = 1) := by show _ ∨ _; omega
      have HF : Hid (∀ v4 g, sgnC y = g → TxtI w bb #[.complex .f32 cx cy, .int .i64 d, .int .i64 s, .slice (some ⟨bx, ox, none⟩) xs.length c, .slice (some ⟨bm, om, none⟩) ys.length c'] (l ++ [32] ++ (⟨(wordL x).toArray⟩ : ByteArray).data.toList ++ [g]) v4 → TxtI w bb #[.complex .f32 cx cy, .int .i64 d, .int .i64 s, .slice (some ⟨bx, ox, none⟩) xs.length c, .slice (some ⟨bm, om, none⟩) ys.length c'] (headT cx cy d s ++ cellsT xs ys (k + 1)) v4) := by
        intro v4 g hg h
        have e : headT cx cy d s ++ cellsT xs ys k = l := HLE.out
        rw [HXC.out, ← List.append_assoc, e, hg]
        simpa using h
      rcases Hy.out with rfl | rfl | rfl
      · go_wp2_with fail
        with_reducible refine (wrB HX3.out 45 _ ?hk ?hl).mono ?_
        case hk => rfl
        case hl => simp [wordL_length]; omega
        rintro e v4 ⟨rfl, hx4⟩
        have HX4 := Lib.hid (HF.out _ _ (by decide) hx4)
        clear hx4 HX3 b0 b1 b2 b3 b4 hcm
        go_wp2
        go_roundw
        case rel => exact ⟨k + 1, by omega, by go_num, HX4⟩
        case measure => simp [intOf]; omega
      · go_wp2_with fail
        with_reducible refine (wrB HX3.out 111 _ ?hk ?hl).mono ?_
        case hk => rfl
        case hl => simp [wordL_length]; omega
        rintro e v4 ⟨rfl, hx4⟩
        have HX4 := Lib.hid (HF.out _ _ (by decide) hx4)
        clear hx4 HX3 b0 b1 b2 b3 b4 hcm
        go_wp2
        go_roundw
        case rel => exact ⟨k + 1, by omega, by go_num, HX4⟩
        case measure => simp [intOf]; omega
      · go_wp2_with fail
        with_reducible refine (wrB HX3.out 43 _ ?hk ?hl).mono ?_
        case hk => rfl
        case hl => simp [wordL_length]; omega
        rintro e v4 ⟨rfl, hx4⟩
        have HX4 := Lib.hid (HF.out _ _ (by decide) hx4)
        clear hx4 HX3 b0 b1 b2 b3 b4 hcm
        go_wp2
        go_roundw
        case rel => exact ⟨k + 1, by omega, by go_num, HX4⟩
        case measure => simp [intOf]; omega
    · have hke : k = xs.length := by omega
      have HFE : Hid (∀ X : ByteArray, ⟨(wordL (sum0 xs ys)).toArray⟩ = X → (⟨(l ++ [32] ++ X.data.toList).toArray⟩ : ByteArray) = ⟨(textT cx cy d s xs ys (sum0 xs ys)).toArray⟩) := by
        intro X hX
        have e : headT cx cy d s ++ cellsT xs ys k = l := HLE.out
        rw [← e, ← hX, hke, textT]
      clear h1 h2 hke
      go_wp2_with fail
      with_reducible refine (wrB HX.out 32 32 rfl ?hl).mono ?_
      case hl => omega
      rintro e v1 ⟨rfl, hx1⟩
      have HX1 := Lib.hid hx1
      clear hx1 HX
      go_wp2_with fail
      with_reducible refine (HSW.out _ _ HX1.out).mono ?_
      rintro e v2 ⟨rfl, hx2⟩
      have HX2 := Lib.hid hx2
      have hwl : (⟨(wordL (sum0 xs ys)).toArray⟩ : ByteArray).size = 8 := wordL_length _
      obtain ⟨X, hX⟩ : ∃ X : ByteArray, ⟨(wordL (sum0 xs ys)).toArray⟩ = X := ⟨_, rfl⟩
      have HFX := Lib.hid (HFE.out X hX)
      rw [hX] at hwl ⊢
      clear hx2 HX1 HFE HSW hX
      go_wp2_with fail
      with_reducible refine (wrS HX2.out _ ?hl).mono ?_
      case hl => simp; omega
      rintro e v3 ⟨rfl, hx3⟩
      have HX3 := Lib.hid hx3
      clear hx3 HX2 hwl
      go_wp2_with fail
      with_reducible refine (wrE HX3.out).mono ?_
      rintro e v4 ⟨rfl, hx4⟩
      have HB := Lib.hid hx4
      have HFY : Hid (({ data := (l ++ [32] ++ X.data.toList).toArray } : ByteArray) = ⟨(textT cx cy d s xs ys (sum0 xs ys)).toArray⟩) := HFX
      obtain ⟨R, hR⟩ : ∃ R : ByteArray, ({ data := (l ++ [32] ++ X.data.toList).toArray } : ByteArray) = R := ⟨_, rfl⟩
      have HFR : Hid (R = ⟨(textT cx cy d s xs ys (sum0 xs ys)).toArray⟩) := hR ▸ HFY.out
      rw [hR]
      clear hx4 HX3 HFX HFY hR
      go_wp2
      go_ret2
      exact ⟨by rw [HFR.out]; rfl, HB.out⟩
end Go.Proofs.YtidbdokoonikpaaGreatDoor
end

section
/- Walks: both TileSame. -/
namespace Go.Proofs.YtidbdokoonikpaaGreatDoor
open Go.RowKit Flo

/-- the text of a tile whose place is told -/
def ttxt (cx cy : Nat) (deep size : Int) (xs : List Nat) (ys : List Int) : ByteArray := if wellB size xs.length ys = true then ⟨(textT cx cy deep.toNat size.toNat xs ys (sum0 xs ys)).toArray⟩ else ⟨#[]⟩
theorem specText_is {B : Nat} {a1 : Option Addr} {c1 : Nat} {a2 : Option Addr} {c2 cx cy : Nat} {deep size : Int} {xs : List Nat} {ys : List Int} {w : World} (T : TileV B a1 c1 a2 c2 cx cy deep size xs ys w) :
    Calls Tryz.prog 9 #[.agg #[.complex .f32 cx cy, .int .i64 deep, .int .i64 size, .slice a1 xs.length c1, .slice a2 ys.length c2]] w fun e w' => e = .returned (.tuple #[.string (ttxt cx cy deep size xs ys), .bool (wellB size xs.length ys)]) ∧ Below w.heap.size w w' := by
  have hl := T.lim
  unfold ttxt
  cases hw : wellB size xs.length ys with
  | false => exact specText_bad cx cy deep size T.bx T.by1 T.pl a1 a2 xs.length c1 c2 ys (by omega) w T.s2 hw
  | true =>
    obtain ⟨d, rfl⟩ := Int.eq_ofNat_of_zero_le hl.2.2.1
    obtain ⟨s, rfl⟩ := Int.eq_ofNat_of_zero_le (show 0 ≤ size by omega)
    exact specText_good cx cy d s T.bx T.by1 T.pl a1 a2 c1 c2 xs ys (by omega) T.hx w T.s1 T.s2 hw
theorem implText_is {B : Nat} {a1 : Option Addr} {c1 : Nat} {a2 : Option Addr} {c2 cx cy : Nat} {deep size : Int} {xs : List Nat} {ys : List Int} {w : World} (T : TileV B a1 c1 a2 c2 cx cy deep size xs ys w) :
    Calls Tryz.prog 8 #[.agg #[.complex .f32 cx cy, .int .i64 deep, .int .i64 size, .slice a1 xs.length c1, .slice a2 ys.length c2]] w fun e w' => e = .returned (.tuple #[.string (ttxt cx cy deep size xs ys), .bool (wellB size xs.length ys)]) ∧ Below w.heap.size w w' := by
  have hl := T.lim
  unfold ttxt
  cases hw : wellB size xs.length ys with
  | false => exact implText_bad cx cy deep size T.bx T.by1 T.pl a1 a2 xs.length c1 c2 ys (by omega) w T.s2 hw
  | true =>
    obtain ⟨d, rfl⟩ := Int.eq_ofNat_of_zero_le hl.2.2.1
    obtain ⟨s, rfl⟩ := Int.eq_ofNat_of_zero_le (show 0 ≤ size by omega)
    exact implText_good cx cy d s T.bx T.by1 T.pl a1 a2 c1 c2 xs ys (by omega) T.hx w T.s1 T.s2 hw
end Go.Proofs.YtidbdokoonikpaaGreatDoor
end

section
/- Walks: the draw of a tile for its text; the laws' sameTile of two tiles of the same data. -/
namespace Go.Proofs.YtidbdokoonikpaaGreatDoor
open Go.RowKit Flo
attribute [local go_sem] run_store_float run_store_complex

set_option maxRecDepth 100000 in
set_option maxHeartbeats 1000000 in
theorem drawTileText_any (a : Option Addr) (c : Nat) (bs : List UInt8) (hn : bs.length ≤ 1048576) (hc : bs.length ≤ c) (w : World) (hs : Sl w a (bs.map byteV)) :
    Calls Tryz.prog 7 #[.slice a bs.length c] w (DrawnTile w) := by
  have R := Box.new w #[.complex .f32 0 0, .int .i64 0, .int .i64 0, .slice none 0 0, .slice none 0 0] 27
  have H := Lib.hid (open_any a c bs hn hc _ (hs.alloc (.cells #[.complex .f32 0 0, .int .i64 0, .int .i64 0, .slice none 0 0, .slice none 0 0] 27)))
  clear hs
  go_enter Tryz.func7, Tryz.ntmps7
  go_wp2_with fail
  refine H.out.mono ?_
  rintro e w1 ⟨b, rfl, hb, hR⟩
  replace R := R.step hR.below
  have hb1 : w.heap.size < b := by rw [hb]; simp
  clear hb
  have hbw : w.heap.size < w1.heap.size := R.lt
  go_wp2_with fail
  refine (l92Tile_own _ b 0 (by omega) _ hR).mono ?_
  rintro e w2 ⟨hT, ⟨p', -, hR2⟩, hO⟩
  replace R := R.onlyb hO (by omega) (by omega)
  obtain ⟨a1, c1, a2, c2, cx, cy, deep, size, xs, ys, rfl, T⟩ := hT.parts
  have HT : Hid (DrawnTile w (.returned (.agg #[.complex .f32 cx cy, .int .i64 deep, .int .i64 size, .slice a1 xs.length c1, .slice a2 ys.length c2])) (((((w2.setCell ⟨w.heap.size, 0, none⟩ (.complex .f32 cx cy)).setCell ⟨w.heap.size, 1, none⟩ (.int .i64 deep)).setCell ⟨w.heap.size, 2, none⟩ (.int .i64 size)).setCell ⟨w.heap.size, 3, none⟩ (.slice a1 xs.length c1)).setCell ⟨w.heap.size, 4, none⟩ (.slice a2 ys.length c2))) := by
    refine ⟨⟨a1, c1, a2, c2, cx, cy, deep, size, xs, ys, rfl, ?_⟩, (R.set5 (Nat.le_refl _) _ _ _ _ _).old⟩
    exact ⟨T.s1.far5 (fun g o s e => by have := T.n1 g o s e; omega) _ _ _ _ _, T.s2.far5 (fun g o s e => by have := T.n2 g o s e; omega) _ _ _ _ _, T.k1, T.k2, fun g o s e => by have := T.n1 g o s e; omega, fun g o s e => by have := T.n2 g o s e; omega, T.hx, T.hy, T.bx, T.by1, T.pl, T.ly, T.lx⟩
  obtain ⟨f0, f1, f2, f3, f4⟩ := R.free5
  obtain ⟨r0, r1, r2, r3, r4⟩ := R.cells5
  have R5 := R.set5 (Nat.le_refl _) (.complex .f32 cx cy) (.int .i64 deep) (.int .i64 size) (.slice a1 xs.length c1) (.slice a2 ys.length c2)
  obtain ⟨z0, z1, z2, z3, z4⟩ := R5.cells5
  clear H hR hR2 hT T hO R R5
  go_wp2

  exact bodyPost_ret (v := .agg #[.complex .f32 cx cy, .int .i64 deep, .int .i64 size, .slice a1 xs.length c1, .slice a2 ys.length c2]) (by simp [results, Tryz.f7, go_sem, z0, z1, z2, z3, z4]) rfl HT.out
set_option maxRecDepth 100000 in
set_option maxHeartbeats 2000000 in
theorem sameTile_same {cx cy : Nat} {da db : Int} (hcx : Val Ieee.single cx da) (hcy : Val Ieee.single cy db) (deep size : Int) (a1 b1 a2 b2 : Option Addr) (c1 e1 c2 e2 : Nat) (xs : List Nat) (ys : List Int) (n : Nat) (hnn : xs.length = n) (hn : n ≤ 1048576) (hm : ys.length ≤ 1048576) (hx : ∀ x, x ∈ xs → x < 4294967296) (w : World) (s1 : Sl w a1 (xs.map floV)) (t1 : Sl w b1 (xs.map floV)) (s2 : Sl w a2 (ys.map intV)) (t2 : Sl w b2 (ys.map intV)) :
    Calls Tryz.prog 11 #[.agg #[.complex .f32 cx cy, .int .i64 deep, .int .i64 size, .slice a1 n c1, .slice a2 ys.length c2], .agg #[.complex .f32 cx cy, .int .i64 deep, .int .i64 size, .slice b1 n e1, .slice b2 ys.length e2]] w fun e w' => e = .returned (.bool true) ∧ Below w.heap.size w w' := by
  have X0 : Box w w.heap.size #[.complex .f32 cx cy, .int .i64 deep, .int .i64 size, .slice a1 n c1, .slice a2 ys.length c2] 27 ((w.alloc (.cells #[.complex .f32 cx cy, .int .i64 deep, .int .i64 size, .slice a1 n c1, .slice a2 ys.length c2] 27)).alloc (.cells #[.complex .f32 cx cy, .int .i64 deep, .int .i64 size, .slice b1 n e1, .slice b2 ys.length e2] 27)) := (Box.new w _ _).alloc _
  have X1 : Box w (w.heap.size + 1) #[.complex .f32 cx cy, .int .i64 deep, .int .i64 size, .slice b1 n e1, .slice b2 ys.length e2] 27 ((w.alloc (.cells #[.complex .f32 cx cy, .int .i64 deep, .int .i64 size, .slice a1 n c1, .slice a2 ys.length c2] 27)).alloc (.cells #[.complex .f32 cx cy, .int .i64 deep, .int .i64 size, .slice b1 n e1, .slice b2 ys.length e2] 27)) := by
    have := (Box.new (w.alloc (.cells #[.complex .f32 cx cy, .int .i64 deep, .int .i64 size, .slice a1 n c1, .slice a2 ys.length c2] 27)) #[.complex .f32 cx cy, .int .i64 deep, .int .i64 size, .slice b1 n e1, .slice b2 ys.length e2] 27).up (w0 := w) ((Below.refl _ _).alloc (Nat.le_refl _) _)
    rwa [World.size_alloc] at this
  have HX0 := Lib.hid X0
  have HX1 := Lib.hid X1
  have HA := Lib.hid (s1.step X0.old)
  have HB := Lib.hid (t1.step X0.old)
  have HS := Lib.hid (fun W (k : Below w.heap.size w W) => sameInts_same a2 b2 c2 e2 ys hm W (s2.step k) (t2.step k))
  have HC := Lib.hid (fun W => sameSingle_val hcx hcy W)
  have HE := Lib.hid (fun k (h : k < n) => show ∃ x, x < 4294967296 ∧ (xs.map floV)[k]? = some (.float .f32 x) from ⟨xs[k]'(by omega), hx _ (List.getElem_mem _), by rw [List.getElem?_map, List.getElem?_eq_getElem (by omega)]; rfl⟩)
  clear X0 X1 s1 t1 s2 t2 hcx hcy hx
  clear hnn
  obtain ⟨r0, r1, r2, r3, r4⟩ := HX0.out.cells5
  obtain ⟨z0, z1, z2, z3, z4⟩ := HX1.out.cells5
  go_enter Tryz.func11, Tryz.ntmps11
  go_wp2_with fail
  with_reducible refine (HC.out _).mono ?_
  rintro e w1 ⟨rfl, hd⟩
  have HX01 := Lib.hid (HX0.out.step (hd.below _))
  have HX11 := Lib.hid (HX1.out.step (hd.below _))
  have HA1 := Lib.hid (HA.out.drw hd)
  have HB1 := Lib.hid (HB.out.drw hd)
  clear hd HA HB HX0 HX1 r0 r1 r2 r3 r4 z0 z1 z2 z3 z4
  obtain ⟨r0, r1, r2, r3, r4⟩ := HX01.out.cells5
  obtain ⟨z0, z1, z2, z3, z4⟩ := HX11.out.cells5
  go_wp2
  go_loopw [5] (fun i wr => ∃ k : Nat, k ≤ n ∧ i = .int .i64 k ∧ Hid (Drw w1 wr)) (fun i _ => (n - intOf i).toNat)
  case atStart => exact ⟨0, by omega, rfl, Drw.refl _⟩
  case round =>
    obtain ⟨k, hk, rfl, HD⟩ := hrel
    have HY0 := Lib.hid (HX01.out.step (HD.out.below _))
    have HY1 := Lib.hid (HX11.out.step (HD.out.below _))
    clear r0 r1 r2 r3 r4 z0 z1 z2 z3 z4
    obtain ⟨r0, r1, r2, r3, r4⟩ := HY0.out.cells5
    obtain ⟨z0, z1, z2, z3, z4⟩ := HY1.out.cells5
    by_cases hlt : k < n
    · obtain ⟨x, hx, hxe⟩ := HE.out k hlt
      obtain ⟨b1, o1, rfl, hc1⟩ := (HA1.out.drw HD.out).at hxe
      obtain ⟨b2, o2, rfl, hc2⟩ := (HB1.out.drw HD.out).at hxe
      have HF := Lib.hid (fun W => sameSmall_self x hx W)
      clear hxe
      go_upto_region 6 with fail
      go_quiet ((go_at_call 38; exact quiet_drw (HF.out _)))
      have HD2 := Lib.hid (HD.out.drewN nq)
      go_wp2
      go_roundw
      case rel => exact ⟨k + 1, by omega, by go_num, HD2⟩
      case measure => simp [intOf]; omega
    · have HO := Lib.hid HY0.out.old
      go_wp2_with fail
      with_reducible refine (HS.out _ HO.out).mono ?_
      rintro e w2 ⟨rfl, hd⟩
      have HO2 := Lib.hid (HO.out.trans (hd.below _))
      go_wp2
      go_ret
      exact ⟨rfl, HO2.out⟩
end Go.Proofs.YtidbdokoonikpaaGreatDoor
end
