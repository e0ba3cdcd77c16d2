/- Merged texts: JoiM, JoiN, TilV, LawT. -/
import Derived.Test.YtalmhbcmagjheaaJ12
import Derived.Test.YtalmhbcmagjheaaJ7
import Derived.Deep.RegionWith
import Derived.Deep.Cut
import Derived.Deep.CutRange
import Derived.Test.YtalmhbcmagjheaaJ11
import Derived.Test.YtalmhbcmagjheaaJ8
section
/- Walks: the draw of four tiles. -/
namespace Go.Proofs.Ytalmhbcmagjheaa
open Go.RowKit Flo
attribute [local go_sem] run_store_float run_store_complex

/-- what the draw leaves -/
def JDrawn (w : World) (e : Ending) (w' : World) : Prop :=
  Below w.heap.size w w' ∧ ∃ g cap L t0, e = .returned (.slice (some ⟨g, 0, none⟩) L.length cap) ∧ L[0]? = some t0 ∧ L.length ≤ 4 ∧ JIn w.heap.size g L w'
theorem JDrawn.same {w W : World} {g cap : Nat} {L : List TRec} (hb : Below w.heap.size w W) (h : TList w.heap.size L (.slice (some ⟨g, 0, none⟩) L.length cap) W) (hl : L.length = 4) : JDrawn w (.returned (.slice (some ⟨g, 0, none⟩) 4 cap)) W := by
  refine ⟨hb, g, cap, L.map JT.of, _, ?_, List.getElem?_eq_getElem (by rw [List.length_map]; omega), by rw [List.length_map]; omega, h.jin⟩
  rw [List.length_map, hl]
theorem JDrawn.three {w W : World} {g cap : Nat} {L : List TRec} (hb : Below w.heap.size w W) (h : TList w.heap.size L (.slice (some ⟨g, 0, none⟩) L.length cap) W) (hl : L.length = 4) : JDrawn w (.returned (.slice (some ⟨g, 0, none⟩) 3 cap)) W := by
  have J := h.jin
  have hl3 : ((L.map JT.of).take 3).length = 3 := by rw [List.length_take, List.length_map]; omega
  refine ⟨hb, g, cap, (L.map JT.of).take 3, _, ?_, List.getElem?_eq_getElem (by rw [hl3]; decide), by omega, ⟨fun k j t v ht hv => ?_, fun t ht => J.own t (List.mem_of_mem_take ht)⟩⟩
  · rw [hl3]
  · have hk : k < 3 := by have := (List.getElem?_eq_some_iff.1 ht).1; omega
    rw [List.getElem?_take_of_lt hk] at ht
    exact J.cell k j t v ht hv
theorem JDrawn.lit {w W : World} (t : JT) (hb : Below w.heap.size w W) (h : t.Ok w.heap.size W) (v0 v1 v2 v3 v4 : Value) (hc : t.cells = [v0, v1, v2, v3, v4]) : JDrawn w (.returned (.slice (some ⟨W.heap.size, 0, none⟩) 4 4)) (W.alloc (.cells #[v0, v1, v2, v3, v4, v0, v1, v2, v3, v4, v0, v1, v2, v3, v4, v0, v1, v2, v3, v4] 37)) := by
  have X := Box.new W #[v0, v1, v2, v3, v4, v0, v1, v2, v3, v4, v0, v1, v2, v3, v4, v0, v1, v2, v3, v4] 37
  refine ⟨hb.alloc hb.size _, W.heap.size, 4, [t, t, t, t], t, rfl, rfl, Nat.le_refl _, ⟨fun k j u v ht hv => ?_, fun u hu => ?_⟩⟩
  · have hk : k < 4 := (List.getElem?_eq_some_iff.1 ht).1
    have hu : u = t := by rcases (by omega : k = 0 ∨ k = 1 ∨ k = 2 ∨ k = 3) with rfl | rfl | rfl | rfl <;> (injection ht with ht; exact ht.symm)
    subst hu
    rw [hc] at hv
    have hj : j < 5 := (List.getElem?_eq_some_iff.1 hv).1
    refine X.cell (k * 5 + j) v ?_
    rcases (by omega : k = 0 ∨ k = 1 ∨ k = 2 ∨ k = 3) with rfl | rfl | rfl | rfl <;> rcases (by omega : j = 0 ∨ j = 1 ∨ j = 2 ∨ j = 3 ∨ j = 4) with rfl | rfl | rfl | rfl | rfl <;> exact hv
  · simp only [List.mem_cons, List.not_mem_nil, or_false] at hu
    rcases hu with rfl | rfl | rfl | rfl <;> exact TileV.step h ((Below.refl _ _).alloc (Nat.le_refl _) _)
/-- list[1] = list[2] -/
theorem JDrawn.copy {w W : World} {g cap : Nat} {L : List TRec} (hb : Below w.heap.size w W) (h : TList w.heap.size L (.slice (some ⟨g, 0, none⟩) L.length cap) W) (hl : L.length = 4) {t2 : TRec} (h2 : L[2]? = some t2) {v0 v1 v2 v3 v4 : Value} (hc : t2.cells = [v0, v1, v2, v3, v4]) :
    JDrawn w (.returned (.slice (some ⟨g, 0, none⟩) 4 cap)) (((((W.setCell ⟨g, 5, none⟩ v0).setCell ⟨g, 6, none⟩ v1).setCell ⟨g, 7, none⟩ v2).setCell ⟨g, 8, none⟩ v3).setCell ⟨g, 9, none⟩ v4) := by
  have r0 := h.row
  have s1 := r0.stored 5 v0
  have s2 := s1.1.stored 6 v1
  have s3 := s2.1.stored 7 v2
  have s4 := s3.1.stored 8 v3
  have s5 := s4.1.stored 9 v4
  have hg : w.heap.size ≤ g := own_ge r0
  have T := fun t ht => ((((((h.own t ht).grown r0 s1.2).grown s1.1 s2.2).grown s2.1 s3.2).grown s3.1 s4.2).grown s4.1 s5.2)
  have hlc : (cellsL L).length = 20 := by have := h.row.1; omega
  refine ⟨((((hb.setCell (p := ⟨g, 5, none⟩) hg _).setCell (p := ⟨g, 6, none⟩) hg _).setCell (p := ⟨g, 7, none⟩) hg _).setCell (p := ⟨g, 8, none⟩) hg _).setCell (p := ⟨g, 9, none⟩) hg _, g, cap, (L.set 1 t2).map JT.of, _, ?_, List.getElem?_eq_getElem (by rw [List.length_map, List.length_set]; omega), by rw [List.length_map, List.length_set]; omega, ⟨fun k j t v ht hv => ?_, fun t ht => ?_⟩⟩
  · rw [List.length_map, List.length_set, hl]
  · rw [List.getElem?_map] at ht
    obtain ⟨u, hu, rfl⟩ := Option.map_eq_some_iff.1 ht
    have hk : k < 4 := by have := (List.getElem?_eq_some_iff.1 hu).1; rw [List.length_set] at this; omega
    have hum : u ∈ L := by
      rcases List.mem_or_eq_of_mem_set (List.mem_of_getElem? hu) with hm | rfl
      · exact hm
      · exact List.mem_of_getElem? h2
    rw [(h.own u hum).cells_of] at hv
    have hj : j < 5 := (List.getElem?_eq_some_iff.1 hv).1
    rw [s5.1.cellAt (k * 5 + j) (by omega)]
    by_cases hk1 : k = 1
    · subst hk1
      rw [List.getElem?_set_self (by omega)] at hu
      obtain rfl : t2 = u := Option.some.inj hu
      rw [hc] at hv
      rcases (by omega : j = 0 ∨ j = 1 ∨ j = 2 ∨ j = 3 ∨ j = 4) with rfl | rfl | rfl | rfl | rfl
      all_goals
        simp only [List.getElem?_set, List.length_set, hlc]
        simpa using hv
    · rw [List.getElem?_set_ne (by omega)] at hu
      rw [List.getElem?_set_ne (by omega), List.getElem?_set_ne (by omega), List.getElem?_set_ne (by omega), List.getElem?_set_ne (by omega), List.getElem?_set_ne (by omega)]
      exact cellsL_at L k j u v hu hv
  · obtain ⟨u, hu, rfl⟩ := List.mem_map.1 ht
    have hum : u ∈ L := by
      rcases List.mem_or_eq_of_mem_set hu with hm | rfl
      · exact hm
      · exact List.mem_of_getElem? h2
    exact (T u hum).ok
def setF (b x : Nat) (t : TRec) : TRec := if t.gs = b then { t with xs := t.xs.set 0 x } else t
theorem setF_cells (b x : Nat) (t : TRec) : (setF b x t).cells = t.cells := by
  unfold setF; split <;> rfl
theorem cellsL_setF (b x : Nat) (L : List TRec) : cellsL (L.map (setF b x)) = cellsL L := by
  unfold cellsL
  rw [List.flatMap_map]
  congr 1
  funext t
  exact setF_cells b x t
/-- list[3].Smooth[0] = .. -/
theorem JDrawn.smooth {w W : World} {g cap : Nat} {L : List TRec} (hb : Below w.heap.size w W) (h : TList w.heap.size L (.slice (some ⟨g, 0, none⟩) L.length cap) W) (hl : L.length = 4) {t3 : TRec} (h3 : L[3]? = some t3) {x : Nat} (hx : x < 4294967296) :
    JDrawn w (.returned (.slice (some ⟨g, 0, none⟩) 4 cap)) (W.setCell ⟨t3.gs, 0, none⟩ (.float .f32 x)) := by
  have o3 := h.own t3 (List.mem_of_getElem? h3)
  have s3 := o3.made.S.stored 0 (.float .f32 x)
  have hg : w.heap.size ≤ t3.gs := own_ge o3.made.S
  refine JDrawn.same (L := L.map (setF t3.gs x)) (hb.setCell (p := ⟨t3.gs, 0, none⟩) hg _) ⟨?_, fun t ht => ?_⟩ (by rw [List.length_map]; exact hl)
  · rw [cellsL_setF, List.length_map]
    exact h.row.kept s3.2 (ownsRow_apart h.row o3.made.S (by decide))
  · obtain ⟨u, hu, rfl⟩ := List.mem_map.1 ht
    have o := h.own u hu
    have hM : (W.setCell ⟨t3.gs, 0, none⟩ (.float .f32 x)).ownsRow w.heap.size 3 1 (.slice (some ⟨u.gm, 0, none⟩) u.n u.cm) u.n (u.ys.map intV) := o.made.M.kept s3.2 (ownsRow_apart o.made.M o3.made.S (by decide))
    unfold setF
    by_cases e : u.gs = t3.gs
    · rw [if_pos e]
      have s := o.made.S.stored 0 (.float .f32 x)
      rw [e] at s
      refine ⟨⟨?_, hM, ?_, o.made.ly, fun y hy => ?_, o.made.hy⟩, o.pl, o.bx, o.by1, o.ks, o.km⟩
      · show World.ownsRow _ _ _ _ (.slice (some ⟨u.gs, 0, none⟩) u.n u.cs) u.n ((u.xs.set 0 x).map floV)
        rw [List.map_set, e]
        exact s.1
      · show (u.xs.set 0 x).length = u.n
        rw [List.length_set]; exact o.made.lx
      · rcases List.mem_or_eq_of_mem_set hy with hy | rfl
        · exact o.made.hx y hy
        · exact hx
    · rw [if_neg e]
      refine ⟨⟨o.made.S.kept s3.2 ?_, hM, o.made.lx, o.made.ly, o.made.hx, o.made.hy⟩, o.pl, o.bx, o.by1, o.ks, o.km⟩
      right
      intro he
      simp only [Value.ownBlock, Option.some.injEq] at he
      exact e he
end Go.Proofs.Ytalmhbcmagjheaa
end

section
/- Walks: the draw of four tiles. -/
namespace Go.Proofs.Ytalmhbcmagjheaa
open Go.RowKit Flo
attribute [local go_sem] run_store_float run_store_complex

/-- behind the split -/
def JCut (w : World) (b xb : Nat) (t : JT) (v : Value) (ok : Bool) (W : World) : Prop :=
  (∃ p, p ≤ 30 ∧ Rd w b p W) ∧ Box w xb #[.complex .f32 t.cx t.cy, .int .i64 t.deep, .int .i64 t.size, .slice t.a1 t.xs.length t.c1, .slice t.a2 t.ys.length t.c2] 37 W ∧ t.Ok (b + 1) W ∧ (ok = true → ∃ L, TList (b + 1) L v W ∧ L.length = 4)
theorem TList.only {B b : Nat} {L : List TRec} {v : Value} {W W' : World} (h : TList B L v W) (k : Only b W W') (hb : b < B) : TList B L v W' :=
  ⟨ownsRow_only h.row k hb, fun t ht => have o := h.own t ht; ⟨⟨ownsRow_only o.made.S k hb, ownsRow_only o.made.M k hb, o.made.lx, o.made.ly, o.made.hx, o.made.hy⟩, o.pl, o.bx, o.by1, o.ks, o.km⟩⟩
theorem TList.cells5 {B g cap : Nat} {L : List TRec} {W : World} (h : TList B L (.slice (some ⟨g, 0, none⟩) L.length cap) W) {k : Nat} {t : TRec} (ht : L[k]? = some t) :
    W.cell? ⟨g, k * 5, none⟩ = some (.complex .f32 t.cx t.cy) ∧ W.cell? ⟨g, k * 5 + 1, none⟩ = some (.int .i64 t.deep) ∧ W.cell? ⟨g, k * 5 + 2, none⟩ = some (.int .i64 t.size) ∧ W.cell? ⟨g, k * 5 + 3, none⟩ = some (.slice (some ⟨t.gs, 0, none⟩) t.xs.length t.cs) ∧ W.cell? ⟨g, k * 5 + 4, none⟩ = some (.slice (some ⟨t.gm, 0, none⟩) t.ys.length t.cm) :=
  h.jin.cells5 (t := JT.of t) (by rw [List.getElem?_map, ht]; rfl)
theorem TOwn.first {B : Nat} {t : TRec} {W : World} (h : TOwn B t W) : ∃ x, t.xs[0]? = some x ∧ x < 4294967296 ∧ W.cell? ⟨t.gs, 0, none⟩ = some (.float .f32 x) ∧ W.frozen? ⟨t.gs, 0, none⟩ = false ∧ 0 < t.xs.length := by
  have hn : 0 < t.xs.length := by
    rw [h.made.lx]
    have := placeB_bd h.pl
    exact Nat.mul_pos (by omega) (by omega)
  have hx := List.getElem?_eq_getElem hn
  refine ⟨_, hx, h.made.hx _ (List.getElem_mem hn), ?_, h.made.S.frozenAt 0, hn⟩
  rw [h.made.S.cellAt 0 (by have := h.made.lx; omega), List.getElem?_map, hx]; rfl
theorem JDrawn.step {w W W' : World} {e : Ending} (h : JDrawn w e W) (k : Below W.heap.size W W') : JDrawn w e W' := by
  obtain ⟨hb, g, cap, L, t0, rfl, h0, hl, J⟩ := h
  exact ⟨hb.trans (k.mono hb.size), g, cap, L, t0, rfl, h0, hl, J.step k⟩
theorem SplitOut.one {w w' : World} {cx cy d : Nat} {s : Int} {e : Ending} (h : SplitOut w cx cy d s e w') : ∃ v ok, e = .returned (.tuple #[v, .bool ok]) ∧ (ok = true → ∃ L, TList w.heap.size L v w' ∧ L.length = 4) ∧ Below w.heap.size w w' := by
  obtain ⟨⟨b, rfl⟩ | ⟨L, v, rfl, hL, hl, -⟩, hb⟩ := h
  · exact ⟨_, false, rfl, (fun h => by cases h), hb⟩
  · exact ⟨v, true, rfl, (fun _ => ⟨L, hL, hl⟩), hb⟩
set_option maxRecDepth 100000 in
set_option maxHeartbeats 4000000 in
theorem drawTileJoin_any (a : Option Addr) (c : Nat) (bs : List UInt8) (hn : bs.length ≤ 1048576) (hc : bs.length ≤ c) (w : World) (hs : Sl w a (bs.map byteV)) :
    Calls Try.prog 13 #[.slice a bs.length c] w (JDrawn w) := by
  have H := Lib.hid (open_any a c bs hn hc _ hs)
  clear hs
  go_enter Try.func13, Try.ntmps13
  go_wp2_with fail
  refine H.out.mono ?_
  rintro e w1 ⟨b, rfl, -, hR⟩
  clear H
  go_wp2_with fail
  refine (l92Tile_own _ b 0 (by omega) _ hR).mono ?_
  rintro e w2 ⟨hT, ⟨p', hp', hR2⟩, hO⟩
  obtain ⟨hRb, hRb2⟩ := hR.ownb
  have hw1 := hR.below
  obtain ⟨a1, c1, a2, c2, cx, cy, deep, size, xs, ys, rfl, T⟩ := hT.parts
  have hK : Below w.heap.size w w2 := hw1.trans (hO.below _ hw1.size hRb)
  have T0 := T.mono hw1.size
  obtain ⟨hz1, hz2, hz3, hz4, hz5, hz6⟩ := T.lim
  obtain ⟨d, rfl⟩ := Int.eq_ofNat_of_zero_le hz3
  have hyl : ys.length ≤ 1048576 := by omega
  have HSp := Lib.hid (fun (W : World) (V : TileV w1.heap.size a1 c1 a2 c2 cx cy d size xs ys W) (m : Int) => tileSplit_any cx cy d size m V.bx V.by1 V.pl a1 a2 xs.length c1 c2 ys hyl W V.s2)
  have X := (Box.new w2 #[.complex .f32 cx cy, .int .i64 d, .int .i64 size, .slice a1 xs.length c1, .slice a2 ys.length c2] 37).up hK
  have R3 := hR2.step ((Below.refl _ _).alloc (Nat.le_refl _) (.cells #[.complex .f32 cx cy, .int .i64 d, .int .i64 size, .slice a1 xs.length c1, .slice a2 ys.length c2] 37))
  have T3 := T.step ((Below.refl _ _).alloc (Nat.le_refl _) (.cells #[.complex .f32 cx cy, .int .i64 d, .int .i64 size, .slice a1 xs.length c1, .slice a2 ys.length c2] 37))
  have hbw2 : b < w2.heap.size := by have := hO.size; omega
  have hws := hw1.size
  clear hR hR2 hT hO T T0 hw1 hK hz1 hz2 hz3 hz4 hz5 hz6 hyl
  go_upto_region 3 with fail
  have hxb : w2.heap.size < (w2.alloc (.cells #[.complex .f32 cx cy, .int .i64 d, .int .i64 size, .slice a1 xs.length c1, .slice a2 ys.length c2] 37)).heap.size := X.lt
  generalize w2.alloc (.cells #[.complex .f32 cx cy, .int .i64 d, .int .i64 size, .slice a1 xs.length c1, .slice a2 ys.length c2] 37) = w3 at *
  generalize w2.heap.size = xb at *
  obtain ⟨x0, x1, x2, x3, x4⟩ := X.cells5
  have Xd := X.step ((Drw.refl _).drew.below _)
  have Td := T3.step ((Drw.refl _).drew.below _)
  have Rd3 := R3.drw (Drw.refl _).drew
  clear X T3 R3
  go_cut [5, 6] from 11 to 18 (fun v o wx => ∃ ok, o = .bool ok ∧ Hid (JCut w b xb ⟨cx, cy, d, size, a1, c1, a2, c2, xs, ys⟩ v ok wx))
  case first =>
    go_region_with (first
      | (go_at_call 26
         refine (pick_any w b p' 20 (by omega) (by omega) _ Rd3).mono ?_
         rintro e w5 ⟨⟨u, rfl, u0, u1⟩, hD, hO⟩
         have X5 := Xd.onlyb hO (by omega) hRb
         have T5 := Td.only hO (by omega)
         obtain ⟨y0, y1, y2, y3, y4⟩ := X5.cells5)
      | (go_at_call 25
         refine (HSp.out _ T5 _).mono ?_
         intro e w6 hs6
         obtain ⟨v, ok, rfl, hok, hb6⟩ := hs6.one))
    all_goals
      have HC : Hid (JCut w b xb ⟨cx, cy, d, size, a1, c1, a2, c2, xs, ys⟩ v ok w6) := ⟨⟨p' + 1, by omega, hD.step hb6⟩, X5.step hb6, (T5.step hb6).mono hRb2, fun h => by
        obtain ⟨L, hL, hl⟩ := hok h
        exact ⟨L, hL.mono (by have := hO.size; have := Xd.lt; omega), hl⟩⟩
      clear hok hb6 T5 X5 hD hO
      go_wp2_with fail
      go_meet
      exact ⟨ok, rfl, HC⟩
  case rest =>
    obtain ⟨ok, rfl, HJ⟩ := hcut
    clear x0 x1 x2 x3 x4 Xd Td Rd3 HSp
    cases ok with
    | false =>
      obtain ⟨-, X, T, -⟩ := HJ.out
      obtain ⟨x0, x1, x2, x3, x4⟩ := X.cells5
      have HX := Lib.hid X.old
      have HT := Lib.hid (T.mono (B' := w.heap.size) (by omega))
      clear X T HJ
      go_wp2
      go_ret
      exact JDrawn.lit ⟨cx, cy, d, size, a1, c1, a2, c2, xs, ys⟩ HX.out HT.out _ _ _ _ _ rfl
    | true =>
      obtain ⟨⟨p, hp, R⟩, X, T, hl⟩ := HJ.out
      obtain ⟨L, hL, hl4⟩ := hl rfl
      obtain ⟨g, cap, rfl, hg, hcap⟩ := ownsRow_form hL.row (by omega)
      clear HJ hl
      have hbx := X.lt
      go_wp2_with fail
      refine (pick_any w b p 12 (by omega) (by omega) _ R).mono ?_
      rintro e w5 ⟨⟨u, rfl, u0, u1⟩, hD, hO⟩
      have X5 := X.onlyb hO (by omega) hRb
      have T5 := T.only hO (by omega)
      have L5 := hL.only hO (by omega)
      clear X T hL R hO u1
      by_cases hu : u = 0
      · subst hu
        obtain ⟨x0, x1, x2, x3, x4⟩ := X5.cells5
        have HX := Lib.hid X5.old
        have HT := Lib.hid (T5.mono (B' := w.heap.size) (by omega))
        clear X5 T5 L5 hD
        go_wp2
        go_ret
        exact JDrawn.lit ⟨cx, cy, d, size, a1, c1, a2, c2, xs, ys⟩ HX.out HT.out _ _ _ _ _ rfl
      · have hue : (u == 0) = false := by simpa using hu
        go_wp2_with fail
        refine (pick_any w b (p + 1) 10 (by omega) (by omega) _ hD).mono ?_
        rintro e w6 ⟨⟨v, rfl, v0, v1⟩, hD6, hO⟩
        have hb6 := hD6.below
        have L6 := L5.only hO (by omega)
        have HL := Lib.hid (L6.mono (B' := w.heap.size) (by omega))
        have HB := Lib.hid hb6
        have HN := Lib.hid hl4
        rw [hl4] at hcap
        clear X5 T5 L5 hD hD6 hO L6 hb6 hu hue v1
        by_cases h0 : v = 0
        · subst h0
          clear hl4
          go_wp2
          go_ret
          exact JDrawn.three HB.out HL.out HN.out
        · have e0 : (v == 0) = false := by simpa using h0
          by_cases h1 : v = 1
          · subst h1
            have ht2 : L[2]? = some (L[2]'(by omega)) := List.getElem?_eq_getElem (by omega)
            generalize L[2]'(by omega) = t2 at ht2
            obtain ⟨p0, p1, p2, p3, p4⟩ := HL.out.cells5 ht2
            have F := fun j => HL.out.row.frozenAt j
            have f5 := F 5
            have f6 := F 6
            have f7 := F 7
            have f8 := F 8
            have f9 := F 9
            have ht1 : L[1]? = some (L[1]'(by omega)) := List.getElem?_eq_getElem (by omega)
            generalize L[1]'(by omega) = t1 at ht1
            obtain ⟨q0, q1, q2, q3, q4⟩ := HL.out.cells5 ht1
            have HC : Hid (t2.cells = [.complex .f32 t2.cx t2.cy, .int .i64 t2.deep, .int .i64 t2.size, .slice (some ⟨t2.gs, 0, none⟩) t2.xs.length t2.cs, .slice (some ⟨t2.gm, 0, none⟩) t2.ys.length t2.cm]) := (HL.out.own t2 (List.mem_of_getElem? ht2)).cells_of.symm
            have HT2 := Lib.hid ht2
            clear F hl4 ht2 ht1 h0
            go_wp2
            go_ret
            exact JDrawn.copy HB.out HL.out HN.out HT2.out HC.out
          · have e1 : (v == 1) = false := by simpa using h1
            by_cases h2 : v = 2
            · subst h2
              have ht0 : L[0]? = some (L[0]'(by omega)) := List.getElem?_eq_getElem (by omega)
              have ht3 : L[3]? = some (L[3]'(by omega)) := List.getElem?_eq_getElem (by omega)
              generalize L[0]'(by omega) = t0 at ht0
              generalize L[3]'(by omega) = t3 at ht3
              obtain ⟨-, -, -, p3, -⟩ := HL.out.cells5 ht0
              obtain ⟨-, -, -, q3, -⟩ := HL.out.cells5 ht3
              obtain ⟨x, -, hx, cx0, -, hn0⟩ := (HL.out.own t0 (List.mem_of_getElem? ht0)).first
              obtain ⟨x', -, -, cx3, fx3, hn3⟩ := (HL.out.own t3 (List.mem_of_getElem? ht3)).first
              have hn0' : (0 : Int) < t0.xs.length := by omega
              have hn3' : (0 : Int) < t3.xs.length := by omega
              have HT3 := Lib.hid ht3
              have HX := Lib.hid hx
              rw [Nat.zero_mul, Nat.zero_add] at p3
              clear hl4 ht0 ht3 h0 h1 hx
              go_upto_region 12 with fail
              go_region_with (fail)
              all_goals
                go_wp2
                go_ret
                exact (JDrawn.smooth HB.out HL.out HN.out HT3.out HX.out).step ((Drw.refl _).drew.below _)
            · have e2 : (v == 2) = false := by simpa using h2
              clear hl4 h0 h1 h2
              go_wp2
              go_ret
              exact JDrawn.same HB.out HL.out HN.out
end Go.Proofs.Ytalmhbcmagjheaa
end

section
/- Walks: the program's and the reference's TileCounts at a tile whose place is told. -/
namespace Go.Proofs.Ytalmhbcmagjheaa
open Go.RowKit

set_option maxRecDepth 100000 in
set_option maxHeartbeats 1000000 in
theorem specCounts_bad (cx cy : Nat) (deep size : Int) (hx : cx < 4294967296) (hy : cy < 4294967296) (hp : placeB cx cy deep size = true) (a a' : Option Addr) (n c c' : Nat) (ys : List Int) (hl : ys.length ≤ 1048576) (w : World) (hs : Sl w a' (ys.map intV)) (hw : wellB size n ys = false) :
    Calls Try.prog 60 #[.agg #[.complex .f32 cx cy, .int .i64 deep, .int .i64 size, .slice a n c, .slice a' ys.length c']] w fun e w' => (∃ a, e = .returned (.tuple #[.slice a 0 0, .bool false])) ∧ Below w.heap.size w w' := by
  have B := Box.new w #[.complex .f32 cx cy, .int .i64 deep, .int .i64 size, .slice a n c, .slice a' ys.length c'] 37
  have HW := Lib.hid (specWell_is cx cy deep size hx hy hp a a' n c c' ys hl _ (hs.alloc (.cells #[.complex .f32 cx cy, .int .i64 deep, .int .i64 size, .slice a n c, .slice a' ys.length c'] 37)))
  rw [hw] at HW
  clear hp hs hw
  go_enter Try.func60, Try.ntmps60
  go_wp2_with fail
  refine HW.out.mono ?_
  rintro e w1 ⟨rfl, hd⟩
  replace B := Lib.hid (B.step hd).old
  clear hd HW
  go_wp2
  go_ret2
  first
    | exact ⟨⟨_, rfl⟩, B.out⟩
    | exact ⟨⟨_, rfl⟩, (B.out.alloc (by have := B.out.size; omega) _)⟩
set_option maxRecDepth 100000 in
set_option maxHeartbeats 1000000 in
theorem implCounts_bad (cx cy : Nat) (deep size : Int) (hx : cx < 4294967296) (hy : cy < 4294967296) (hp : placeB cx cy deep size = true) (a a' : Option Addr) (n c c' : Nat) (ys : List Int) (hl : ys.length ≤ 1048576) (w : World) (hs : Sl w a' (ys.map intV)) (hw : wellB size n ys = false) :
    Calls Try.prog 18 #[.agg #[.complex .f32 cx cy, .int .i64 deep, .int .i64 size, .slice a n c, .slice a' ys.length c']] w fun e w' => (∃ a, e = .returned (.tuple #[.slice a 0 0, .bool false])) ∧ Below w.heap.size w w' := by
  have B := Box.new w #[.complex .f32 cx cy, .int .i64 deep, .int .i64 size, .slice a n c, .slice a' ys.length c'] 37
  have HW := Lib.hid (implWell_is cx cy deep size hx hy hp a a' n c c' ys hl _ (hs.alloc (.cells #[.complex .f32 cx cy, .int .i64 deep, .int .i64 size, .slice a n c, .slice a' ys.length c'] 37)))
  rw [hw] at HW
  clear hp hs hw
  go_enter Try.func18, Try.ntmps18
  go_wp2_with fail
  refine HW.out.mono ?_
  rintro e w1 ⟨rfl, hd⟩
  replace B := Lib.hid (B.step hd).old
  clear hd HW
  go_wp2
  go_ret2
  first
    | exact ⟨⟨_, rfl⟩, B.out⟩
    | exact ⟨⟨_, rfl⟩, (B.out.alloc (by have := B.out.size; omega) _)⟩
theorem cnt_round {ys : List Int} (hy : ∀ y, y ∈ ys → -1 ≤ y ∧ y ≤ 1) (k : Nat) (h : k < ys.length) :
    ∃ y : Int, (ys.map intV)[k]? = some (.int .i64 y) ∧
      ((y = 1 ∧ cnt 1 (ys.take (k + 1)) = cnt 1 (ys.take k) + 1 ∧ cnt (-1) (ys.take (k + 1)) = cnt (-1) (ys.take k) ∧ cnt 0 (ys.take (k + 1)) = cnt 0 (ys.take k)) ∨
       (y = -1 ∧ cnt 1 (ys.take (k + 1)) = cnt 1 (ys.take k) ∧ cnt (-1) (ys.take (k + 1)) = cnt (-1) (ys.take k) + 1 ∧ cnt 0 (ys.take (k + 1)) = cnt 0 (ys.take k)) ∨
       (y = 0 ∧ cnt 1 (ys.take (k + 1)) = cnt 1 (ys.take k) ∧ cnt (-1) (ys.take (k + 1)) = cnt (-1) (ys.take k) ∧ cnt 0 (ys.take (k + 1)) = cnt 0 (ys.take k) + 1)) := by
  have hb := hy _ (List.getElem_mem h)
  have t1 := cnt_take 1 ys k h
  have t2 := cnt_take (-1) ys k h
  have t3 := cnt_take 0 ys k h
  refine ⟨ys[k], by rw [List.getElem?_map, List.getElem?_eq_getElem h]; rfl, ?_⟩
  generalize ys[k] = y at *
  rcases (by omega : y = 1 ∨ y = -1 ∨ y = 0) with rfl | rfl | rfl
  · exact .inl ⟨rfl, t1, t2, t3⟩
  · exact .inr (.inl ⟨rfl, t1, t2, t3⟩)
  · exact .inr (.inr ⟨rfl, t1, t2, t3⟩)
def cntC (ys : List Int) (k : Nat) : Array Value := #[.int .i64 (cnt 1 (ys.take k)), .int .i64 (cnt (-1) (ys.take k)), .int .i64 (cnt 0 (ys.take k))]
theorem cntC_zero (ys : List Int) : cntC ys 0 = #[.int .i64 0, .int .i64 0, .int .i64 0] := rfl
theorem cnt_lim {ys : List Int} (k : Nat) (hl : ys.length ≤ 1048576) (v : Int) : (cnt v (ys.take k) : Int) ≤ 1048576 := by
  have := cnt_le v (ys.take k)
  simp at this
  omega
/-- one more mark is counted in the block b -/
theorem cnt_step {w W : World} {b : Nat} {ys : List Int} {T : TypeId} (k : Nat) (h : Box w b (cntC ys k) T W) (hb : w.heap.size ≤ b) :
    (∀ p q r : Nat, cnt 1 (ys.take k) = p → cnt (-1) (ys.take k) = q → cnt 0 (ys.take k) = r →
      (cnt 1 (ys.take (k + 1)) = p + 1 → cnt (-1) (ys.take (k + 1)) = q → cnt 0 (ys.take (k + 1)) = r → Box w b (cntC ys (k + 1)) T (W.setCell ⟨b, 0, none⟩ (.int .i64 (p + 1)))) ∧
      (cnt 1 (ys.take (k + 1)) = p → cnt (-1) (ys.take (k + 1)) = q + 1 → cnt 0 (ys.take (k + 1)) = r → Box w b (cntC ys (k + 1)) T (W.setCell ⟨b, 1, none⟩ (.int .i64 (q + 1)))) ∧
      (cnt 1 (ys.take (k + 1)) = p → cnt (-1) (ys.take (k + 1)) = q → cnt 0 (ys.take (k + 1)) = r + 1 → Box w b (cntC ys (k + 1)) T (W.setCell ⟨b, 2, none⟩ (.int .i64 (r + 1))))) := by
  rintro p q r rfl rfl rfl
  refine ⟨fun e1 e2 e3 => ?_, fun e1 e2 e3 => ?_, fun e1 e2 e3 => ?_⟩
  · have := h.set hb 0 (.int .i64 ((cnt 1 (ys.take k) : Int) + 1))
    unfold cntC at this ⊢
    rw [e1, e2, e3]
    exact this
  · have := h.set hb 1 (.int .i64 ((cnt (-1) (ys.take k) : Int) + 1))
    unfold cntC at this ⊢
    rw [e1, e2, e3]
    exact this
  · have := h.set hb 2 (.int .i64 ((cnt 0 (ys.take k) : Int) + 1))
    unfold cntC at this ⊢
    rw [e1, e2, e3]
    exact this
set_option maxRecDepth 100000 in
set_option maxHeartbeats 2000000 in
theorem specCounts_good (cx cy : Nat) (deep size : Int) (hx : cx < 4294967296) (hy : cy < 4294967296) (hp : placeB cx cy deep size = true) (a a' : Option Addr) (n c c' : Nat) (ys : List Int) (hl : ys.length ≤ 1048576) (w : World) (hs : Sl w a' (ys.map intV)) (hw : wellB size n ys = true) :
    Calls Try.prog 60 #[.agg #[.complex .f32 cx cy, .int .i64 deep, .int .i64 size, .slice a n c, .slice a' ys.length c']] w fun e w' => ∃ b, e = .returned (.tuple #[.slice (some ⟨b, 0, none⟩) 3 3, .bool true]) ∧ w.heap.size ≤ b ∧ Box w b (cntC ys ys.length) 3 w' := by
  obtain ⟨g1, g2, g3⟩ := wellB_all hw
  have B := Box.new w #[.complex .f32 cx cy, .int .i64 deep, .int .i64 size, .slice a n c, .slice a' ys.length c'] 37
  have HW := Lib.hid (specWell_is cx cy deep size hx hy hp a a' n c c' ys hl _ (hs.alloc (.cells #[.complex .f32 cx cy, .int .i64 deep, .int .i64 size, .slice a n c, .slice a' ys.length c'] 37)))
  rw [hw] at HW
  have HT := Lib.hid (fun k => cnt_round g3 k)
  have HM := Lib.hid (fun k => cnt_lim k hl)
  have H2 := Lib.hid hs
  obtain ⟨m, hm⟩ : ∃ m, ys.length = m := ⟨_, rfl⟩
  rw [hm] at HW B hl HT ⊢
  clear hp hs hw hm g1 g2 g3
  go_enter Try.func60, Try.ntmps60
  go_wp2_with fail
  refine HW.out.mono ?_
  rintro e w1 ⟨rfl, hd⟩
  replace B := B.step hd
  have hsz := B.old.size
  have R := (Box.new w1 #[.int .i64 0, .int .i64 0, .int .i64 0] 3).up B.old
  replace B := B.alloc (.cells #[.int .i64 0, .int .i64 0, .int .i64 0] 3)
  have HB := Lib.hid B
  have HR : Hid (Box w w1.heap.size (cntC ys 0) 3 (w1.alloc (.cells #[.int .i64 0, .int .i64 0, .int .i64 0] 3))) := R
  have hlt := B.lt
  have hne : w.heap.size ≠ w1.heap.size := by
    have := hd.size
    simp at this
    omega
  clear hd HW B R
  go_wp2
  generalize hwb : w1.heap.size = wb at *
  go_loopw [5, 6] (fun i _ wr => ∃ k : Nat, k ≤ m ∧ i = .int .i64 k ∧ Hid (Box w wb (cntC ys k) 3 wr) ∧ Hid (Box w w.heap.size #[.complex .f32 cx cy, .int .i64 deep, .int .i64 size, .slice a n c, .slice a' m c'] 37 wr)) (fun i _ _ => (m - intOf i).toNat)
  case atStart => exact ⟨0, by omega, rfl, HR.out, HB.out⟩
  case round =>
    obtain ⟨k, hk, rfl, HR, HB⟩ := hrel
    have b4 := HB.out.cell 4 _ rfl
    have R := HR.out
    by_cases hlt : k < m
    · obtain ⟨y, hyk, hy⟩ := HT.out k hlt
      obtain ⟨b', off', rfl, hc'⟩ := (H2.out.step HB.out.old).at hyk
      obtain ⟨HS1, HS2, HS3⟩ := cnt_step k R (by omega) _ _ _ rfl rfl rfl
      replace HS1 := Lib.hid HS1
      replace HS2 := Lib.hid HS2
      replace HS3 := Lib.hid HS3
      have m1 := HM.out k 1
      have m2 := HM.out k (-1)
      have m3 := HM.out k 0
      have c0 := R.cell 0 (.int .i64 (cnt 1 (ys.take k))) rfl
      have c1 := R.cell 1 (.int .i64 (cnt (-1) (ys.take k))) rfl
      have c2 := R.cell 2 (.int .i64 (cnt 0 (ys.take k))) rfl
      have f0 := R.frozen 0
      have f1 := R.frozen 1
      have f2 := R.frozen 2
      have hlw := R.lt
      clear hyk R
      obtain ⟨p, hp⟩ : ∃ p, cnt 1 (ys.take k) = p := ⟨_, rfl⟩
      obtain ⟨q, hq⟩ : ∃ q, cnt (-1) (ys.take k) = q := ⟨_, rfl⟩
      obtain ⟨r, hr⟩ : ∃ r, cnt 0 (ys.take k) = r := ⟨_, rfl⟩
      rw [hp] at HS1 HS2 HS3 m1 hy c0
      rw [hq] at HS1 HS2 HS3 m2 hy c1
      rw [hr] at HS1 HS2 HS3 m3 hy c2
      have HP := Lib.hid hp
      have HQ := Lib.hid hq
      have HRR := Lib.hid hr
      clear hp hq hr
      rcases hy with ⟨rfl, e1, e2, e3⟩ | ⟨rfl, e1, e2, e3⟩ | ⟨rfl, e1, e2, e3⟩
      · have HN := Lib.hid (HS1.out e1 e2 e3)
        have HB2 := Lib.hid (HB.out.other (p := ⟨wb, 0, none⟩) (by simp; omega) hne (.int .i64 (p + 1)))
        clear e1 e2 e3 HS1 HS2 HS3
        go_wp2
        go_roundw
        case rel => exact ⟨k + 1, by omega, by go_num, HN.out, HB2.out⟩
        case measure => simp [intOf]; omega
      · have HN := Lib.hid (HS2.out e1 e2 e3)
        have HB2 := Lib.hid (HB.out.other (p := ⟨wb, 1, none⟩) (by simp; omega) hne (.int .i64 (q + 1)))
        clear e1 e2 e3 HS1 HS2 HS3
        go_wp2
        go_roundw
        case rel => exact ⟨k + 1, by omega, by go_num, HN.out, HB2.out⟩
        case measure => simp [intOf]; omega
      · have HN := Lib.hid (HS3.out e1 e2 e3)
        have HB2 := Lib.hid (HB.out.other (p := ⟨wb, 2, none⟩) (by simp; omega) hne (.int .i64 (r + 1)))
        clear e1 e2 e3 HS1 HS2 HS3
        go_wp2
        go_roundw
        case rel => exact ⟨k + 1, by omega, by go_num, HN.out, HB2.out⟩
        case measure => simp [intOf]; omega
    · go_wp2
      go_ret2
      obtain rfl : k = m := by omega
      exact ⟨wb, rfl, by omega, HR.out⟩
set_option maxRecDepth 100000 in
set_option maxHeartbeats 2000000 in
theorem countsOf_is (a' : Option Addr) (c' : Nat) (ys : List Int) (hl : ys.length ≤ 1048576) (hm1 : ∀ y, y ∈ ys → -1 ≤ y ∧ y ≤ 1) (w : World) (hs : Sl w a' (ys.map intV)) :
    Calls Try.prog 35 #[.slice a' ys.length c'] w fun e w' => e = .returned (.agg (cntC ys ys.length)) ∧ Below w.heap.size w w' := by
  have HT := Lib.hid (fun k => cnt_round hm1 k)
  have HM := Lib.hid (fun k => cnt_lim k hl)
  have H2 := Lib.hid hs
  obtain ⟨m, hm⟩ : ∃ m, ys.length = m := ⟨_, rfl⟩
  rw [hm] at hl HT ⊢
  have R0 := (Box.new w #[.int .i64 0, .int .i64 0, .int .i64 0] 68).alloc (.cells #[.int .i64 0, .int .i64 0, .int .i64 0] 68)
  have O0 := (Box.new (w.alloc (.cells #[.int .i64 0, .int .i64 0, .int .i64 0] 68)) #[.int .i64 0, .int .i64 0, .int .i64 0] 68).up ((Below.refl w.heap.size w).alloc (Nat.le_refl _) _)
  rw [show (w.alloc (.cells #[.int .i64 0, .int .i64 0, .int .i64 0] 68)).heap.size = w.heap.size + 1 by simp] at O0
  have HB : Hid (Box w w.heap.size #[.int .i64 0, .int .i64 0, .int .i64 0] 68 ((w.alloc (.cells #[.int .i64 0, .int .i64 0, .int .i64 0] 68)).alloc (.cells #[.int .i64 0, .int .i64 0, .int .i64 0] 68))) := R0
  have HR : Hid (Box w (w.heap.size + 1) (cntC ys 0) 68 ((w.alloc (.cells #[.int .i64 0, .int .i64 0, .int .i64 0] 68)).alloc (.cells #[.int .i64 0, .int .i64 0, .int .i64 0] 68))) := O0
  clear hs hm1 R0 O0 hm
  go_enter Try.func35, Try.ntmps35
  go_wp2
  go_loopw [5, 8, 17, 23] (fun _ i _ _ wr => ∃ k : Nat, k ≤ m ∧ i = .int .i64 k ∧ Hid (Box w w.heap.size #[.int .i64 0, .int .i64 0, .int .i64 0] 68 wr) ∧ Hid (Box w (w.heap.size + 1) (cntC ys k) 68 wr)) (fun _ i _ _ _ => (m - intOf i).toNat)
  case atStart => exact ⟨0, by omega, rfl, HB.out, HR.out⟩
  case round =>
    obtain ⟨k, hk, rfl, HB, HR⟩ := hrel
    have R := HR.out
    by_cases hlt : k < m
    · obtain ⟨y, hyk, hy⟩ := HT.out k hlt
      obtain ⟨b', off', rfl, hc'⟩ := (H2.out.step HB.out.old).at hyk
      obtain ⟨HS1, HS2, HS3⟩ := cnt_step k R (by omega) _ _ _ rfl rfl rfl
      replace HS1 := Lib.hid HS1
      replace HS2 := Lib.hid HS2
      replace HS3 := Lib.hid HS3
      have m1 := HM.out k 1
      have m2 := HM.out k (-1)
      have m3 := HM.out k 0
      have c0 := R.cell 0 (.int .i64 (cnt 1 (ys.take k))) rfl
      have c1 := R.cell 1 (.int .i64 (cnt (-1) (ys.take k))) rfl
      have c2 := R.cell 2 (.int .i64 (cnt 0 (ys.take k))) rfl
      have f0 := R.frozen 0
      have f1 := R.frozen 1
      have f2 := R.frozen 2
      have hlw := R.lt
      clear hyk R
      obtain ⟨p, hp⟩ : ∃ p, cnt 1 (ys.take k) = p := ⟨_, rfl⟩
      obtain ⟨q, hq⟩ : ∃ q, cnt (-1) (ys.take k) = q := ⟨_, rfl⟩
      obtain ⟨r, hr⟩ : ∃ r, cnt 0 (ys.take k) = r := ⟨_, rfl⟩
      rw [hp] at HS1 HS2 HS3 m1 hy c0
      rw [hq] at HS1 HS2 HS3 m2 hy c1
      rw [hr] at HS1 HS2 HS3 m3 hy c2
      have HP := Lib.hid hp
      have HQ := Lib.hid hq
      have HRR := Lib.hid hr
      clear hp hq hr
      rcases hy with ⟨rfl, e1, e2, e3⟩ | ⟨rfl, e1, e2, e3⟩ | ⟨rfl, e1, e2, e3⟩
      · have HN := Lib.hid (HS1.out e1 e2 e3)
        have HB2 := Lib.hid (HB.out.other (p := ⟨w.heap.size + 1, 0, none⟩) (by simp) (by simp) (.int .i64 (p + 1)))
        clear e1 e2 e3 HS1 HS2 HS3
        go_wp2
        go_roundw
        case rel => exact ⟨k + 1, by omega, by go_num, HB2.out, HN.out⟩
        case measure => simp [intOf]; omega
      · have HN := Lib.hid (HS2.out e1 e2 e3)
        have HB2 := Lib.hid (HB.out.other (p := ⟨w.heap.size + 1, 1, none⟩) (by simp) (by simp) (.int .i64 (q + 1)))
        clear e1 e2 e3 HS1 HS2 HS3
        go_wp2
        go_roundw
        case rel => exact ⟨k + 1, by omega, by go_num, HB2.out, HN.out⟩
        case measure => simp [intOf]; omega
      · have HN := Lib.hid (HS3.out e1 e2 e3)
        have HB2 := Lib.hid (HB.out.other (p := ⟨w.heap.size + 1, 2, none⟩) (by simp) (by simp) (.int .i64 (r + 1)))
        clear e1 e2 e3 HS1 HS2 HS3
        go_wp2
        go_roundw
        case rel => exact ⟨k + 1, by omega, by go_num, HB2.out, HN.out⟩
        case measure => simp [intOf]; omega
    · obtain rfl : k = m := by omega
      have B := HB.out
      have c0 := R.cell 0 (.int .i64 (cnt 1 (ys.take k))) rfl
      have c1 := R.cell 1 (.int .i64 (cnt (-1) (ys.take k))) rfl
      have c2 := R.cell 2 (.int .i64 (cnt 0 (ys.take k))) rfl
      have d0 := B.cell 0 (.int .i64 0) rfl
      have d1 := B.cell 1 (.int .i64 0) rfl
      have d2 := B.cell 2 (.int .i64 0) rfl
      have f0 := B.frozen 0
      have f1 := B.frozen 1
      have f2 := B.frozen 2
      have hbl := B.lt
      have HD := Lib.hid (((B.old.setCell (p := ⟨w.heap.size, 0, none⟩) (Nat.le_refl _) (.int .i64 (cnt 1 (ys.take k)))).setCell (p := ⟨w.heap.size, 1, none⟩) (Nat.le_refl _) (.int .i64 (cnt (-1) (ys.take k)))).setCell (p := ⟨w.heap.size, 2, none⟩) (Nat.le_refl _) (.int .i64 (cnt 0 (ys.take k))))
      clear R B
      go_wp2
      exact bodyPost_ret (v := .agg (cntC ys k)) (by simp [results, Try.f35, go_sem, cntC, d0, d1, d2]) rfl ⟨rfl, HD.out⟩
set_option maxRecDepth 100000 in
set_option maxHeartbeats 2000000 in
theorem implCounts_good (cx cy : Nat) (deep size : Int) (hx : cx < 4294967296) (hy : cy < 4294967296) (hp : placeB cx cy deep size = true) (a a' : Option Addr) (n c c' : Nat) (ys : List Int) (hl : ys.length ≤ 1048576) (w : World) (hs : Sl w a' (ys.map intV)) (hw : wellB size n ys = true) :
    Calls Try.prog 18 #[.agg #[.complex .f32 cx cy, .int .i64 deep, .int .i64 size, .slice a n c, .slice a' ys.length c']] w fun e w' => ∃ b, e = .returned (.tuple #[.slice (some ⟨b, 0, none⟩) 3 3, .bool true]) ∧ w.heap.size ≤ b ∧ Box w b (cntC ys ys.length) 3 w' := by
  obtain ⟨g1, g2, g3⟩ := wellB_all hw
  have B := Box.new w #[.complex .f32 cx cy, .int .i64 deep, .int .i64 size, .slice a n c, .slice a' ys.length c'] 37
  have HW := Lib.hid (implWell_is cx cy deep size hx hy hp a a' n c c' ys hl _ (hs.alloc (.cells #[.complex .f32 cx cy, .int .i64 deep, .int .i64 size, .slice a n c, .slice a' ys.length c'] 37)))
  rw [hw] at HW
  have HC : Hid (∀ W, Below w.heap.size w W → Calls Try.prog 35 #[.slice a' ys.length c'] W fun e w' => e = .returned (.agg (cntC ys ys.length)) ∧ Below W.heap.size W w') := fun W hW => countsOf_is a' c' ys hl g3 W (hs.step hW)
  have HM := fun v => cnt_lim ys.length hl v
  obtain ⟨m, hm⟩ : ∃ m, ys.length = m := ⟨_, rfl⟩
  rw [hm] at HW B hl HC HM ⊢
  have m1 := HM 1
  have m2 := HM (-1)
  have m3 := HM 0
  clear hp hs hw hm g1 g2 g3 HM
  go_enter Try.func18, Try.ntmps18
  go_wp2_with fail
  refine HW.out.mono ?_
  rintro e w1 ⟨rfl, hd⟩
  replace B := B.step hd
  have b4 := B.cell 4 _ rfl
  have HB := Lib.hid B
  clear hd HW B
  go_wp2_with fail
  refine (HC.out _ HB.out.old).mono ?_
  rintro e w2 ⟨rfl, hd⟩
  have B := HB.out.step hd
  have hsz := B.old.size
  have hbw := B.lt
  have HD := Lib.hid B.old
  clear hd B HB b4
  obtain ⟨p, q, r, HX, p1, q1, r1⟩ : ∃ p q r : Nat, Hid (cntC ys m = #[.int .i64 p, .int .i64 q, .int .i64 r]) ∧ (p : Int) ≤ 1048576 ∧ (q : Int) ≤ 1048576 ∧ (r : Int) ≤ 1048576 := ⟨_, _, _, rfl, m1, m2, m3⟩
  have R := (Box.new (w2.alloc (.cells #[.int .i64 p, .int .i64 q, .int .i64 r] 68)) #[.int .i64 p, .int .i64 q, .int .i64 r] 3).up (HD.out.alloc hsz (.cells #[.int .i64 p, .int .i64 q, .int .i64 r] 68))
  rw [show (w2.alloc (.cells #[.int .i64 p, .int .i64 q, .int .i64 r] 68)).heap.size = w2.heap.size + 1 by simp] at R
  have HR := Lib.hid R
  clear m1 m2 m3 R
  rw [HX.out]
  go_wp2
  go_ret2
  exact ⟨w2.heap.size + 1, rfl, by omega, by rw [HX.out]; exact HR.out⟩
end Go.Proofs.Ytalmhbcmagjheaa
end

section
/- Walks of what the laws of tiles do with slices of ints. -/
namespace Go.Proofs.Ytalmhbcmagjheaa
open Go.RowKit

set_option maxHeartbeats 1000000 in
theorem sameInts_same (a b : Option Addr) (ca cb : Nat) (xs : List Int) (hn : xs.length ≤ 1048576) (w : World) (ha : Sl w a (xs.map intV)) (hb : Sl w b (xs.map intV)) :
    Calls Try.prog 33 #[.slice a xs.length ca, .slice b xs.length cb] w fun e w' => e = .returned (.bool true) ∧ Drw w w' := by
  obtain ⟨n, hnn⟩ : ∃ n, xs.length = n := ⟨_, rfl⟩
  have HX : Hid (∀ k, k < n → ∃ x, (xs.map intV)[k]? = some (.int .i64 x)) := fun k h => ⟨xs[k]'(by omega), by rw [List.getElem?_map, List.getElem?_eq_getElem (by omega)]; rfl⟩
  have HA := Lib.hid ha
  have HB := Lib.hid hb
  rw [hnn] at hn ⊢
  clear ha hb hnn
  go_enter Try.func33, Try.ntmps33
  go_wp2
  go_loopw [5] (fun i wr => ∃ k : Nat, k ≤ n ∧ i = .int .i64 k ∧ Hid (Drw w wr)) (fun i _ => (n - intOf i).toNat)
  case atStart => exact ⟨0, by omega, rfl, Drw.refl _⟩
  case round =>
    obtain ⟨k, hk, rfl, HD⟩ := hrel
    by_cases hlt : k < n
    · obtain ⟨x, hx⟩ := HX.out k hlt
      obtain ⟨b1, o1, rfl, hc1⟩ := (HA.out.drw HD.out).at hx
      obtain ⟨b2, o2, rfl, hc2⟩ := (HB.out.drw HD.out).at hx
      clear hx
      go_upto_region 6 with fail
      go_quiet (fail)
      have HD2 := Lib.hid (HD.out.drewN nq)
      go_wp2
      go_roundw
      case rel => exact ⟨k + 1, by omega, by go_num, HD2⟩
      case measure => simp [intOf]; omega
    · go_wp2
      go_ret
      exact ⟨rfl, HD.out⟩
theorem wellB_neg {size : Int} {n : Nat} {ys : List Int} (h : wellB size n ys = true) : wellB size n (ys.map (fun y => -y)) = true := by
  obtain ⟨h1, h2, h3⟩ := wellB_all h
  refine wellB_ok h1 (by rw [List.length_map]; exact h2) (fun j hj => ?_)
  rw [List.getElem_map]
  have := h3 _ (List.getElem_mem (by simpa using hj : j < ys.length))
  unfold markB inB
  simp
  omega
theorem neg_take (ys : List Int) (k : Nat) (h : k < ys.length) : (ys.take (k + 1)).map (fun y => -y) = (ys.take k).map (fun y => -y) ++ [-ys[k]] := by
  rw [← List.take_append_getElem h, List.map_append]; rfl
theorem map_intV (ys : List Int) (z : Int) : (ys ++ [z]).map intV = ys.map intV ++ [intV z] := by rw [List.map_append]; rfl
end Go.Proofs.Ytalmhbcmagjheaa
end
