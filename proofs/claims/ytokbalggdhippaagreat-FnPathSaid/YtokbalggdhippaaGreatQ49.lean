/- Merged texts: BlB, JoiP, JoiA, JoiB, BlC. -/
import Derived.Test.YtokbalggdhippaaGreatQ48
import Derived.Deep.RegionWith
import Derived.Deep.RegionLaw
import Derived.Deep.AppendLies
import Derived.Deep.Cut
import Derived.Deep.CutRange
import Derived.Test.YtokbalggdhippaaGreatQ14
import Derived.Test.YtokbalggdhippaaGreatQ9
import Derived.Test.YtokbalggdhippaaGreatQ47
import Derived.Test.YtokbalggdhippaaGreatQ4
import Derived.Deep.RegionHeld3
import Derived.Test.YtokbalggdhippaaGreatQ15
set_option linter.all false
section
namespace Go.Proofs.YtokbalggdhippaaGreat
open Go.RowKit Flo
attribute [local go_sem ↓] Go.wp_at_zero Go.wp_at_succ
attribute [local go_sem] run_store_float run_store_complex
def CutQ (wr : World) (px py : Nat) (d s most : Int) (pb x y : Nat) (dd ss : Int) (a1 : Option Addr) (n1 c1 : Nat) (a2 : Option Addr) (n2 c2 : Nat) (ok : Bool) (wx : World) : Prop :=
  Below wr.heap.size wr wx ∧ wr.heap.size ≤ pb ∧ Box wr pb #[.complex .f32 x y, .int .i64 dd, .int .i64 ss, .slice a1 n1 c1, .slice a2 n2 c2] 29 wx ∧
    (ok = true → ∃ t : TRec, t.cx = px ∧ t.cy = py ∧ t.deep = d ∧ t.size = s ∧ (.agg #[.complex .f32 x y, .int .i64 dd, .int .i64 ss, .slice a1 n1 c1, .slice a2 n2 c2] : Value) = .agg t.cells.toArray ∧ TOwn wr.heap.size t wx ∧ TGood most t) ∧ (ok = false → ¬ MkP px py d s)
theorem cutA2 {wr w5 : World} {px py : Nat} {d s most : Int} {x y : Nat} {dd ss : Int} {a1 : Option Addr} {n1 c1 : Nat} {a2 : Option Addr} {n2 c2 : Nat} {ok : Bool} (hM : MakeRes2 wr.drew px py d s most ok (.agg #[.complex .f32 x y, .int .i64 dd, .int .i64 ss, .slice a1 n1 c1, .slice a2 n2 c2]) w5) (hb : Below wr.drew.heap.size wr.drew w5) :
    CutQ wr px py d s most w5.heap.size x y dd ss a1 n1 c1 a2 n2 c2 ok (w5.alloc (.cells #[.complex .f32 x y, .int .i64 dd, .int .i64 ss, .slice a1 n1 c1, .slice a2 n2 c2] 29)) := by
  have h0 : Below wr.heap.size wr wr.drew := (Drw.refl _).drew.below _
  have h1 : Below wr.heap.size wr w5 := h0.trans hb
  refine ⟨h1.alloc h1.size _, h1.size, (Box.new w5 _ _).up h1, fun hok => ?_, fun hok => (hM.1 hok).1⟩
  obtain ⟨t, e1, e2, e3, e4, e5, ht, hg⟩ := hM.2 hok
  exact ⟨t, e1, e2, e3, e4, e5, ht.step ((Below.refl _ _).alloc (Nat.le_refl _) _), hg⟩
theorem cutB2 {wr w5 : World} {px py : Nat} {d s most : Int} {x y : Nat} {dd ss : Int} {a1 : Option Addr} {n1 c1 : Nat} {a2 : Option Addr} {n2 c2 : Nat} {ok : Bool}
    (hM : MakeRes2 ((wr.alloc (.cells #[.complex .f32 0 0, .int .i64 0, .int .i64 0, .slice none 0 0, .slice none 0 0] 29)).drew) px py d s most ok (.agg #[.complex .f32 x y, .int .i64 dd, .int .i64 ss, .slice a1 n1 c1, .slice a2 n2 c2]) w5)
    (hb : Below ((wr.alloc (.cells #[.complex .f32 0 0, .int .i64 0, .int .i64 0, .slice none 0 0, .slice none 0 0] 29)).drew).heap.size ((wr.alloc (.cells #[.complex .f32 0 0, .int .i64 0, .int .i64 0, .slice none 0 0, .slice none 0 0] 29)).drew) w5) :
    CutQ wr px py d s most wr.heap.size x y dd ss a1 n1 c1 a2 n2 c2 ok (((((w5.setCell ⟨wr.heap.size, 0, none⟩ (.complex .f32 x y)).setCell ⟨wr.heap.size, 1, none⟩ (.int .i64 dd)).setCell ⟨wr.heap.size, 2, none⟩ (.int .i64 ss)).setCell ⟨wr.heap.size, 3, none⟩ (.slice a1 n1 c1)).setCell ⟨wr.heap.size, 4, none⟩ (.slice a2 n2 c2)) := by
  have X : Box wr wr.heap.size #[.complex .f32 0 0, .int .i64 0, .int .i64 0, .slice none 0 0, .slice none 0 0] 29 w5 := ((Box.new wr _ _).step ((Drw.refl _).drew.below _)).step hb
  have Y := X.set5 (Nat.le_refl _) (.complex .f32 x y) (.int .i64 dd) (.int .i64 ss) (.slice a1 n1 c1) (.slice a2 n2 c2)
  refine ⟨Y.old, Nat.le_refl _, Y, fun hok => ?_, fun hok => (hM.1 hok).1⟩
  obtain ⟨t, e1, e2, e3, e4, e5, ht, hg⟩ := hM.2 hok
  exact ⟨t, e1, e2, e3, e4, e5, (ht.mono (B' := wr.heap.size) (by simp)).far5 X (Nat.le_refl _) _ _ _ _ _, hg⟩
def SplitV (w : World) (cx cy d : Nat) (s most : Int) (e : Ending) (w' : World) : Prop :=
  ((∃ v, e = .returned (.tuple #[v, .bool false]) ∧ ∃ k, k < 4 ∧ ¬ MkP (quart cx cy d s k).1 (quart cx cy d s k).2 ((d : Int) + 1) s) ∨ (∃ L v, e = .returned (.tuple #[v, .bool true]) ∧ TList w.heap.size L v w' ∧ L.length = 4 ∧ ∀ k t, L[k]? = some t → t.cx = (quart cx cy d s k).1 ∧ t.cy = (quart cx cy d s k).2 ∧ t.deep = (d : Int) + 1 ∧ t.size = s ∧ TGood most t)) ∧ Below w.heap.size w w'
set_option maxRecDepth 100000 in
set_option maxHeartbeats 16000000 in
theorem specSplit_val (cx cy d : Nat) (s most : Int) (hx : cx < 4294967296) (hy : cy < 4294967296) (hp : placeB cx cy d s = true) (a a' : Option Addr) (n c c' : Nat) (ys : List Int) (hl : ys.length ≤ 1048576) (hwell : wellB s n ys = true) (w : World) (hs : Sl w a' (ys.map intV)) :
    Calls Vp.prog 14 #[.agg #[.complex .f32 cx cy, .int .i64 d, .int .i64 s, .slice a n c, .slice a' ys.length c'], .int .i64 most] w (SplitV w cx cy d s most) := by
  obtain ⟨d', A, B, hd', hd, hA, hB, -, -, ha, hb⟩ := place_pts hx hy hp
  obtain rfl : d = d' := by omega
  obtain ⟨h1, h2, h3, h4⟩ := placeB_bd hp
  have HWB := Lib.hid hwell
  clear hwell
  have R := Box.new w #[.complex .f32 cx cy, .int .i64 d, .int .i64 s, .slice a n c, .slice a' ys.length c'] 29
  have HW := Lib.hid (fun W (hW : Below w.heap.size w W) => specWell_is cx cy d s hx hy hp a a' n c c' ys hl W (hs.step hW))
  have HC := Lib.hid (fun W => l7Corners_is cx cy d A B s hd hA hB (by omega) (by omega) (by omega) a a' n c ys.length c' W)
  have HQ := (quart_is (s := s) hd hA hB (by omega) (by omega) (by omega)).2.2.2.2.2
  have HQ2 : Hid (∀ k, k < 4 → (quart cx cy d s k).1 < 4294967296 ∧ (quart cx cy d s k).2 < 4294967296) := fun k hk => by
    obtain ⟨u, v, -, -, p1, p2⟩ := HQ k hk
    exact ⟨pt_lt p1, pt_lt p2⟩
  clear HQ hs hp hA hB hd'
  replace R := R.alloc (.cells #[] 29)
  have HR := Lib.hid R
  obtain ⟨r0, r1, r2, r3, r4⟩ := R.cells5
  have hwl := R.lt
  clear R
  go_enter Vp.func14, Tryz.ntmps14
  go_wp2_with fail
  refine (HW.out _ HR.out.old).mono ?_
  rintro e w1 ⟨rfl, hd1⟩
  cases hwb : wellB s n ys with
  | false =>
    have := HWB.out
    rw [hwb] at this
    cases this
  | true =>
    have HR1 := Lib.hid (HR.out.step hd1)
    have HO1 : Hid (w1.ownsRow (w.heap.size + 1) 29 5 (.slice (some ⟨w.heap.size + 1, 0, none⟩) 0 0) 0 []) := by
      have h0 := World.ownsRow_lit (e := 29) (size := 5) (base := w.heap.size + 1) (w.alloc (.cells #[.complex .f32 cx cy, .int .i64 d, .int .i64 s, .slice a n c, .slice a' ys.length c'] 29)) #[] 0 (by simp) (by decide) rfl
      rw [World.size_alloc] at h0
      exact ownsRow_step h0 hd1
    obtain ⟨r0, r1, r2, r3, r4⟩ := HR1.out.cells5
    have hsz1 : w.heap.size + 1 < w1.heap.size := by have := hd1.size; simp at this; omega
    clear hd1 hwb
    go_wp2_with fail
    refine (HC.out _).mono ?_
    rintro e w2 ⟨qb, rfl, hqb, hX⟩
    have HX := Lib.hid (hX.up HR1.out.old)
    have HR2 := Lib.hid (HR1.out.step hX.old)
    have HT2 : Hid (TList (w.heap.size + 1) [] (.slice (some ⟨w.heap.size + 1, 0, none⟩) 0 0) w2) := ⟨ownsRow_step HO1.out hX.old, fun t ht => by cases ht⟩
    have hqw : w.heap.size + 1 < qb := by omega
    clear hX HR1 HO1 r0 r1 r2 r3 r4
    obtain ⟨iT, hiT, hzT0, hzT1, hzT2⟩ := info_parts infoT
    go_wp2
    go_loopw [6, 8] (fun o i wr => ∃ (k g cap : Nat) (L : List TRec), k ≤ 4 ∧ i = .int .i64 k ∧ o = .slice (some ⟨g, 0, none⟩) k cap ∧ Hid (L.length = k) ∧ Hid (Box w w.heap.size #[.complex .f32 cx cy, .int .i64 d, .int .i64 s, .slice a n c, .slice a' ys.length c'] 29 wr) ∧ Hid (Box w qb (quartC cx cy d s) 23 wr) ∧ Hid (TList (w.heap.size + 1) L (.slice (some ⟨g, 0, none⟩) k cap) wr) ∧ Hid (∀ j t, L[j]? = some t → t.cx = (quart cx cy d s j).1 ∧ t.cy = (quart cx cy d s j).2 ∧ t.deep = (d : Int) + 1 ∧ t.size = s ∧ TGood most t)) (fun _ i _ => (4 - intOf i).toNat)
    case atStart => exact ⟨0, w.heap.size + 1, 0, [], by omega, rfl, rfl, rfl, HR2.out, HX.out, HT2.out, fun j t h => by simp at h⟩
    case round =>
      clear HR2 HX HT2
      obtain ⟨k, g, cap, L, hk, rfl, rfl, HL, HR, HX, HT, HQL⟩ := hrel
      by_cases hlt : k < 4
      · have x0 := HX.out.cell k _ (quartC_at cx cy d s k hlt)
        obtain ⟨r0, r1, r2, r3, r4⟩ := HR.out.cells5
        have hq2 := HQ2.out k hlt
        have e1 : IntKind.i64.wrap ((d : Int) + 1) = (d : Int) + 1 := IntWalk.i64_in _ (by omega)
        have HF : Hid (∀ W, Below wr.heap.size wr W → Box w w.heap.size #[.complex .f32 cx cy, .int .i64 d, .int .i64 s, .slice a n c, .slice a' ys.length c'] 29 W ∧ Box w qb (quartC cx cy d s) 23 W ∧ TList (w.heap.size + 1) L (.slice (some ⟨g, 0, none⟩) k cap) W) := fun W h => ⟨HR.out.step h, HX.out.step h, HT.out.step h⟩
        have hszw := HR.out.lt
        have hqx := HX.out.lt
        generalize hpx : (quart cx cy d s k).1 = px at *
        generalize hpy : (quart cx cy d s k).2 = py at *
        have HPX := Lib.hid hpx
        have HPY := Lib.hid hpy
        clear hpx hpy
        go_upto_region 8 with fail
        go_cut [9, 10] from 18 to 44 (fun p o wx => ∃ (pb x y : Nat) (dd ss : Int) (a1 : Option Addr) (n1 c1 : Nat) (a2 : Option Addr) (n2 c2 : Nat) (ok : Bool), p = .pointer (some ⟨pb, 0, none⟩) ∧ o = .bool ok ∧ CutQ wr px py ((d : Int) + 1) s most pb x y dd ss a1 n1 c1 a2 n2 c2 ok wx)
        case first =>
          go_region_with (first
            | (go_at_call 29
               refine (specMakeC px py _ _ _ hq2.1 hq2.2 _).mono ?_
               rintro e w5 ⟨⟨x, y, dd, ss, a1, n1, c1, a2, n2, c2, ok, rfl, hM⟩, hb5⟩
               first
                 | (have Z := (Box.new wr.drew #[.complex .f32 0 0, .int .i64 0, .int .i64 0, .slice none 0 0, .slice none 0 0] 29).step hb5
                    have z0 : w5.cell? ⟨wr.heap.size, 0, none⟩ = some (.complex .f32 0 0) := Z.cell 0 _ rfl
                    have z1 : w5.cell? ⟨wr.heap.size, 1, none⟩ = some (.int .i64 0) := Z.cell 1 _ rfl
                    have z2 : w5.cell? ⟨wr.heap.size, 2, none⟩ = some (.int .i64 0) := Z.cell 2 _ rfl
                    have z3 : w5.cell? ⟨wr.heap.size, 3, none⟩ = some (.slice none 0 0) := Z.cell 3 _ rfl
                    have z4 : w5.cell? ⟨wr.heap.size, 4, none⟩ = some (.slice none 0 0) := Z.cell 4 _ rfl
                    have f0 : w5.frozen? ⟨wr.heap.size, 0, none⟩ = false := Z.frozen 0
                    have f1 : w5.frozen? ⟨wr.heap.size, 1, none⟩ = false := Z.frozen 1
                    have f2 : w5.frozen? ⟨wr.heap.size, 2, none⟩ = false := Z.frozen 2
                    have f3 : w5.frozen? ⟨wr.heap.size, 3, none⟩ = false := Z.frozen 3
                    have f4 : w5.frozen? ⟨wr.heap.size, 4, none⟩ = false := Z.frozen 4
                    clear Z)
                 | skip))
          all_goals
            go_wp2_with fail
            go_meet
            first
              | (with_reducible exact ⟨w5.heap.size, x, y, dd, ss, a1, n1, c1, a2, n2, c2, ok, rfl, rfl, cutA2 hM hb5⟩)
              | (with_reducible exact ⟨wr.heap.size, x, y, dd, ss, a1, n1, c1, a2, n2, c2, ok, rfl, rfl, cutB2 hM hb5⟩)
        case rest =>
          obtain ⟨pb, x, y, dd, ss, a1, n1, c1, a2, n2, c2, ok, rfl, rfl, hcutp⟩ := hcut
          obtain ⟨hbc, hpb, hbx, hres, hno⟩ := hcutp
          have HNO := Lib.hid hno
          clear hno
          obtain ⟨R3, X3, T3⟩ := HF.out _ hbc
          have hres2 := Lib.hid hres
          have hsc := R3.lt
          obtain ⟨p0, p1, p2, p3, p4⟩ := hbx.cells5
          have hpl := hbx.lt
          have HR3 := Lib.hid R3
          have HX3 := Lib.hid X3
          have HT3 := Lib.hid T3
          clear hres hbc hbx R3 X3 T3 HF HR HX HT r0 r1 r2 r3 r4 x0 e1
          cases ok with
          | false =>
            have HB := Lib.hid (HR3.out.old.alloc (by omega) (.cells #[] 29))
            go_wp2
            go_ret2
            exact ⟨.inl ⟨_, rfl, k, hlt, by rw [HPX.out, HPY.out]; exact HNO.out (by first | rfl | trivial)⟩, HB.out⟩
          | true =>
            obtain ⟨t, e1, e2, e3, e4, e5, ht, hgood⟩ := hres2.out rfl
            have HGD := Lib.hid hgood
            clear hgood
            have HTo := Lib.hid ht
            have HC5 : Hid ([.complex .f32 x y, .int .i64 dd, .int .i64 ss, .slice a1 n1 c1, .slice a2 n2 c2] = t.cells) := by
              injection e5 with e5
              have := congrArg Array.toList e5
              exact this
            have HE : Hid (t.cx = (quart cx cy d s k).1 ∧ t.cy = (quart cx cy d s k).2 ∧ t.deep = (d : Int) + 1 ∧ t.size = s ∧ TGood most t) := by
              refine ⟨e1.trans HPX.out.symm, e2.trans HPY.out.symm, e3, e4, HGD.out⟩
            have hbs : w.heap.size + 1 ≤ wc.heap.size := by omega
            have HL2 : Hid (∀ j t', (L ++ [t])[j]? = some t' → t'.cx = (quart cx cy d s j).1 ∧ t'.cy = (quart cx cy d s j).2 ∧ t'.deep = (d : Int) + 1 ∧ t'.size = s ∧ TGood most t') := fun j t' hj => by
              have hLk := HL.out
              by_cases hjk : j < L.length
              · rw [List.getElem?_append_left hjk] at hj
                exact HQL.out j t' hj
              · rw [List.getElem?_append_right (by omega)] at hj
                by_cases h0 : j - L.length = 0
                · rw [h0] at hj
                  injection hj with hj
                  obtain rfl : j = k := by omega
                  rw [← hj]; exact HE.out
                · rw [List.getElem?_eq_none (by simp; omega)] at hj; cases hj
            clear e1 e2 e3 e4 e5 ht hres2
            go_wp2_with (at_builtin; refine wpList_append_lies _ rfl _ _ _ rfl (w.heap.size + 1) 29 iT _ 5 72 (Vp.und Tryz.underlying37) hiT hzT0 hzT1 hzT2 rfl (by omega) _ k (cellsL L) rfl (by rw [← HL.out]; have := (HT3.out.row.alloc (.cells #[.complex .f32 x y, .int .i64 dd, .int .i64 ss, .slice a1 n1 c1, .slice a2 n2 c2] 29)); rw [HL.out] at this ⊢; exact this) ⟨wc.heap.size, 0, none⟩ 1 1 [.complex .f32 x y, .int .i64 dd, .int .i64 ss, .slice a1 n1 c1, .slice a2 n2 c2] rfl rfl (World.news_of_block (cs := #[.complex .f32 x y, .int .i64 dd, .int .i64 ss, .slice a1 n1 c1, .slice a2 n2 c2]) (t := 29) (fr := (0, 0)) (heap_alloc_new wc _)) (by intro u hu; simp only [List.mem_cons, List.not_mem_nil, or_false] at hu; rcases hu with rfl | rfl | rfl | rfl | rfl <;> rfl) (by omega) (by unfold maxLen; omega) (by omega) (by simp; omega) (wc.heap.size + 1) (by simp) ?_; intro g8 c8 w8 hown hgrow _ _)
            have T9 := HT3.out.step ((Below.refl _ _).alloc (Nat.le_refl _) (.cells #[.complex .f32 x y, .int .i64 dd, .int .i64 ss, .slice a1 n1 c1, .slice a2 n2 c2] 29))
            have R9 := HR3.out.alloc (.cells #[.complex .f32 x y, .int .i64 dd, .int .i64 ss, .slice a1 n1 c1, .slice a2 n2 c2] 29)
            have X9 := HX3.out.alloc (.cells #[.complex .f32 x y, .int .i64 dd, .int .i64 ss, .slice a1 n1 c1, .slice a2 n2 c2] 29)
            have t9 := HTo.out.step ((Below.refl _ _).alloc (Nat.le_refl _) (.cells #[.complex .f32 x y, .int .i64 dd, .int .i64 ss, .slice a1 n1 c1, .slice a2 n2 c2] 29))
            have hg : w.heap.size + 1 ≤ g := own_ge T9.row
            have hrow : ∀ j, (some g : Option Nat) = some j → w.heap.size ≤ j := fun j hj => by injection hj with hj; omega
            have HR8 := Lib.hid (R9.grown (row := some g) hgrow (fun e => by injection e with e; omega) hrow)
            have HX8 := Lib.hid (X9.grown (row := some g) hgrow (ownsRow_ne T9.row X9.blk (by decide)) hrow)
            have HT8 : Hid (TList (w.heap.size + 1) (L ++ [t]) (.slice (some ⟨g8, 0, none⟩) (k + 1) c8) w8) := by
              refine ⟨?_, fun t' ht' => ?_⟩
              · rw [List.length_append, HL.out, cellsL_snoc, ← HC5.out]
                exact hown
              · rcases List.mem_append.1 ht' with h | h
                · exact (T9.own t' h).grown T9.row hgrow
                · rw [List.mem_singleton] at h
                  rw [h]
                  exact (t9.grown T9.row hgrow).mono (by omega)
            clear T9 R9 X9 t9 hown hgrow
            go_roundw
            case rel => exact ⟨k + 1, g8, c8, L ++ [t], by omega, by go_num, rfl, by show (L ++ [t]).length = k + 1; rw [List.length_append, HL.out]; rfl, HR8, HX8, HT8, HL2⟩
            case measure => simp [intOf]; omega
      · have HT4 : Hid (TList w.heap.size L (.slice (some ⟨g, 0, none⟩) k cap) wr) := HT.out.mono (by omega)
        go_wp2
        go_ret2
        exact ⟨.inr ⟨L, _, rfl, HT4.out, by have := HL.out; omega, HQL.out⟩, HR.out.old⟩
end Go.Proofs.YtokbalggdhippaaGreat
end

section
namespace Go.Proofs.YtokbalggdhippaaGreat
def isM (Y : Nat → List Int) (v : Int) (p : Nat × Nat) : Bool := decide ((Y p.1).getD p.2 0 = v)
end Go.Proofs.YtokbalggdhippaaGreat
end

section
namespace Go.Proofs.YtokbalggdhippaaGreat
open Go.RowKit Flo
structure JT where
  cx : Nat
  cy : Nat
  deep : Int
  size : Int
  a1 : Option Addr
  c1 : Nat
  a2 : Option Addr
  c2 : Nat
  xs : List Nat
  ys : List Int
def JT.cells (t : JT) : List Value := [.complex .f32 t.cx t.cy, .int .i64 t.deep, .int .i64 t.size, .slice t.a1 t.xs.length t.c1, .slice t.a2 t.ys.length t.c2]
def JT.val (t : JT) : Value := .agg #[.complex .f32 t.cx t.cy, .int .i64 t.deep, .int .i64 t.size, .slice t.a1 t.xs.length t.c1, .slice t.a2 t.ys.length t.c2]
def JT.Ok (t : JT) (B : Nat) (W : World) : Prop := TileV B t.a1 t.c1 t.a2 t.c2 t.cx t.cy t.deep t.size t.xs t.ys W
structure JIn (B g : Nat) (L : List JT) (W : World) : Prop where
  cell : ∀ (k j : Nat) (t : JT) (v : Value), L[k]? = some t → t.cells[j]? = some v → W.cell? ⟨g, k * 5 + j, none⟩ = some v
  own : ∀ t, t ∈ L → t.Ok B W
theorem JIn.cells5 {B g : Nat} {L : List JT} {W : World} (h : JIn B g L W) {k : Nat} {t : JT} (ht : L[k]? = some t) :
    W.cell? ⟨g, k * 5, none⟩ = some (.complex .f32 t.cx t.cy) ∧ W.cell? ⟨g, k * 5 + 1, none⟩ = some (.int .i64 t.deep) ∧ W.cell? ⟨g, k * 5 + 2, none⟩ = some (.int .i64 t.size) ∧ W.cell? ⟨g, k * 5 + 3, none⟩ = some (.slice t.a1 t.xs.length t.c1) ∧ W.cell? ⟨g, k * 5 + 4, none⟩ = some (.slice t.a2 t.ys.length t.c2) :=
  ⟨h.cell k 0 t _ ht rfl, h.cell k 1 t _ ht rfl, h.cell k 2 t _ ht rfl, h.cell k 3 t _ ht rfl, h.cell k 4 t _ ht rfl⟩
theorem JIn.step {B g : Nat} {L : List JT} {W W' : World} (h : JIn B g L W) (k : Below W.heap.size W W') : JIn B g L W' :=
  ⟨fun i j t v ht hv => by
    have h1 := h.cell i j t v ht hv
    exact (k.cell (p := ⟨g, i * 5 + j, none⟩) (World.block_lt_of_cell? W _ h1)).trans h1, fun t ht => TileV.step (h.own t ht) k⟩
theorem JIn.lt {B g : Nat} {L : List JT} {W : World} (h : JIn B g L W) (hl : 0 < L.length) : g < W.heap.size := by
  obtain ⟨r0, -⟩ := h.cells5 (k := 0) (List.getElem?_eq_getElem hl)
  exact World.block_lt_of_cell? W ⟨g, 0 * 5, none⟩ r0
def JT.of (t : TRec) : JT := ⟨t.cx, t.cy, t.deep, t.size, some ⟨t.gs, 0, none⟩, t.cs, some ⟨t.gm, 0, none⟩, t.cm, t.xs, t.ys⟩
theorem TOwn.lens {B : Nat} {t : TRec} {W : World} (h : TOwn B t W) : t.xs.length = t.n ∧ t.ys.length = t.n := ⟨h.made.lx, h.made.ly⟩
theorem TOwn.ok {B : Nat} {t : TRec} {W : World} (h : TOwn B t W) : (JT.of t).Ok B W := by
  obtain ⟨h1, h2⟩ := h.lens
  have b1 := own_ge h.made.S
  have b2 := own_ge h.made.M
  exact ⟨sl_of_own h.made.S, sl_of_own h.made.M, by show t.xs.length ≤ t.cs; rw [h1]; exact h.ks, by show t.ys.length ≤ t.cm; rw [h2]; exact h.km, fun g o s e => by injection e with e; injection e with e; omega, fun g o s e => by injection e with e; injection e with e; omega, h.made.hx, fun y hy => by have := h.made.hy y hy; omega, h.bx, h.by1, h.pl, h2, .inl (h1.trans h2.symm)⟩
theorem cellsL_at : ∀ (L : List TRec) (k j : Nat) (t : TRec) (v : Value), L[k]? = some t → t.cells[j]? = some v → (cellsL L)[k * 5 + j]? = some v
  | [], k, j, t, v, h, _ => by simp at h
  | u :: L, 0, j, t, v, h, hv => by
    have e : u = t := by simpa using h
    subst e
    show (u.cells ++ cellsL L)[0 * 5 + j]? = _
    have hj : j < 5 := (List.getElem?_eq_some_iff.1 hv).1
    rw [List.getElem?_append_left (by show 0 * 5 + j < 5; omega), Nat.zero_mul, Nat.zero_add]
    exact hv
  | u :: L, k + 1, j, t, v, h, hv => by
    show (u.cells ++ cellsL L)[(k + 1) * 5 + j]? = _
    rw [List.getElem?_append_right (by show 5 ≤ (k + 1) * 5 + j; omega)]
    show (cellsL L)[(k + 1) * 5 + j - 5]? = _
    rw [show (k + 1) * 5 + j - 5 = k * 5 + j by omega]
    exact cellsL_at L k j t v (by simpa using h) hv
end Go.Proofs.YtokbalggdhippaaGreat
end

section
namespace Go.Proofs.YtokbalggdhippaaGreat
open Go.RowKit Flo
attribute [local go_sem] run_store_float run_store_complex
def QuartOk (cx cy d : Nat) (s : Int) : Prop :=
  floatBits .mul .f32 (floatOfInt .f32 s) (sideF (d + 1)) = some (farF d s) ∧ floatBits .add .f32 cx (farF d s) = some (addF cx (farF d s)) ∧ floatBits .add .f32 cy (farF d s) = some (addF cy (farF d s)) ∧ floatBits .add .f32 cx 0 = some (addF cx 0) ∧ floatBits .add .f32 cy 0 = some (addF cy 0)
theorem quart_ok {cx cy d : Nat} {A B s : Int} (hd : d ≤ 10) (hx : Pt cx (d + 1) A) (hy : Pt cy (d + 1) B) (hA : A.natAbs ≤ 16384) (hB : B.natAbs ≤ 16384) (hs : s.natAbs ≤ 100) : QuartOk cx cy d s := by
  have f := farF_is (s := s) hd (by omega)
  have z := pt_zero (d + 1)
  have h1 := addF_is (by omega) hx f.2 (by omega)
  have h2 := addF_is (by omega) hy f.2 (by omega)
  have h3 := addF_is (by omega) hx z (by omega)
  have h4 := addF_is (by omega) hy z (by omega)
  exact ⟨f.1, h1.1, h2.1, h3.1, h4.1⟩
set_option maxRecDepth 100000 in
set_option maxHeartbeats 1000000 in
theorem quarterCorners_ok (cx cy d : Nat) (s : Int) (hd : d ≤ 10) (hq : QuartOk cx cy d s) (w : World) :
    Calls Vp.prog 37 #[.complex .f32 cx cy, .int .i64 d, .int .i64 s] w fun e w' => e = .returned (.agg (quartC cx cy d s)) ∧ Below w.heap.size w w' := by
  obtain ⟨h1, h2, h3, h4, h5⟩ := hq
  have R := Box.new w #[.complex .f32 0 0, .complex .f32 0 0, .complex .f32 0 0, .complex .f32 0 0] 72
  have g0 := fun w => run_float_arith (P := Vp.prog) w .mul 63 .f32 _ _ _ h1
  have g1 := fun w => run_complex_sum (P := Vp.prog) w .add (.inl rfl) 23 .f32 cx cy (farF d s) 0 _ _ (by unfold cSumBits; rw [h2, h5]; rfl)
  have g2 := fun w => run_complex_sum (P := Vp.prog) w .add (.inl rfl) 23 .f32 cx cy 0 (farF d s) _ _ (by unfold cSumBits; rw [h4, h3]; rfl)
  have g3 := fun w => run_complex_sum (P := Vp.prog) w .add (.inl rfl) 23 .f32 cx cy (farF d s) (farF d s) _ _ (by unfold cSumBits; rw [h2, h3]; rfl)
  have HS : Hid (∀ w, Calls Vp.prog 59 #[.int .i64 ((d : Int) + 1)] w fun e w' => e = .returned (.float .f32 (sideF (d + 1))) ∧ w = w') := fun w => sideOf_is (d + 1) (by omega) w
  unfold quartC
  clear h1 h2 h3 h4 h5
  generalize addF cx (farF d s) = x1 at *
  generalize addF cy (farF d s) = y1 at *
  generalize addF cx 0 = x0 at *
  generalize addF cy 0 = y0 at *
  generalize farF d s = f at *
  generalize sideF (d + 1) = sd at *
  have e1 : IntKind.i64.wrap ((d : Int) + 1) = (d : Int) + 1 := IntWalk.i64_in _ (by omega)
  clear R
  go_enter Vp.func37, Tryz.ntmps37
  go_wp2_with (go_at_call 59; refine (HS.out _).mono ?_; rintro e w' ⟨rfl, rfl⟩)
  exact bodyPost_ret (v := .agg #[.complex .f32 cx cy, .complex .f32 x1 y0, .complex .f32 x0 y1, .complex .f32 x1 y1]) (by simp [results, Tryz.f37, go_sem]) rfl ⟨rfl, (Below.refl _ _).alloc (Nat.le_refl _) _⟩
end Go.Proofs.YtokbalggdhippaaGreat
end

section
namespace Go.Proofs.YtokbalggdhippaaGreat
open Go.RowKit Flo
attribute [local go_sem ↓] Go.wp_at_zero Go.wp_at_succ
attribute [local go_sem] run_store_float run_store_complex
set_option maxRecDepth 100000 in
theorem index_quart (cx cy d : Nat) (s : Int) (k : Nat) (h : k < 4) (w : World) : (Instr.index 72 (.agg (quartC cx cy d s)) (.int .i64 k)).run Vp.prog w = .ok (.complex .f32 (quart cx cy d s k).1 (quart cx cy d s k).2) w := by
  rcases (by omega : k = 0 ∨ k = 1 ∨ k = 2 ∨ k = 3) with rfl | rfl | rfl | rfl <;> kernel_rfl
set_option maxRecDepth 100000 in
set_option maxHeartbeats 16000000 in
theorem implSplit_val (cx cy d : Nat) (s most : Int) (hx : cx < 4294967296) (hy : cy < 4294967296) (hp : placeB cx cy d s = true) (a a' : Option Addr) (n c c' : Nat) (ys : List Int) (hl : ys.length ≤ 1048576) (hwell : wellB s n ys = true) (w : World) (hs : Sl w a' (ys.map intV)) :
    Calls Vp.prog 13 #[.agg #[.complex .f32 cx cy, .int .i64 d, .int .i64 s, .slice a n c, .slice a' ys.length c'], .int .i64 most] w (SplitV w cx cy d s most) := by
  obtain ⟨d', A, B, hd', hd, hA, hB, -, -, ha, hb⟩ := place_pts hx hy hp
  obtain rfl : d = d' := by omega
  obtain ⟨h1, h2, h3, h4⟩ := placeB_bd hp
  have HW := Lib.hid (fun W (hW : Below w.heap.size w W) => implWell_is cx cy d s hx hy hp a a' n c c' ys hl W (hs.step hW))
  rw [hwell] at HW
  have HQ := (quart_is (s := s) hd hA hB (by omega) (by omega) (by omega)).2.2.2.2.2
  have HQ2 : Hid (∀ k, k < 4 → (quart cx cy d s k).1 < 4294967296 ∧ (quart cx cy d s k).2 < 4294967296) := fun k hk => by
    obtain ⟨u, v, -, -, p1, p2⟩ := HQ k hk
    exact ⟨pt_lt p1, pt_lt p2⟩
  have HC := Lib.hid (fun W => quarterCorners_ok cx cy d s hd (quart_ok hd (pt_up hd hA) (pt_up hd hB) (by omega) (by omega) (by omega)) W)
  have R := Box.new w #[.complex .f32 cx cy, .int .i64 d, .int .i64 s, .slice a n c, .slice a' ys.length c'] 29
  clear HQ hs hp hA hB hd' hwell
  have HR := Lib.hid R
  obtain ⟨r0, r1, r2, r3, r4⟩ := R.cells5
  have hwl := R.lt
  clear R
  obtain ⟨iT, hiT, hzT0, hzT1, hzT2⟩ := info_parts infoT
  obtain ⟨cT, hcT, hT⟩ := run_make_0 (P := Vp.prog) 37 29 iT _ (Vp.und Tryz.underlying37) hiT hzT0 4 (by omega) (by omega)
  have hT4 : ∀ w : World, (Instr.makeSlice 37 (.int .i64 0) (.int .i64 4)).run Vp.prog w = .ok (.slice (some ⟨w.heap.size, 0, none⟩) 0 4) (w.alloc (.cells cT 29)) := hT
  have hcT2 : cT.size = 4 * 5 := by rw [hcT, hzT1]
  go_enter Vp.func13, Tryz.ntmps13
  go_wp2_with fail
  refine (HW.out _ HR.out.old).mono ?_
  rintro e w1 ⟨rfl, hd1⟩
  have HR1 := Lib.hid ((HR.out.step hd1).alloc (.cells cT 29))
  have hsz1 : w.heap.size < w1.heap.size := (HR.out.step hd1).lt
  have HT1 : Hid (TList (w.heap.size + 1) [] (.slice (some ⟨w1.heap.size, 0, none⟩) 0 4) (w1.alloc (.cells cT 29))) :=
    ⟨⟨by simp [cellsL], .inr ⟨w1.heap.size, 4, cT, rfl, hsz1, heap_alloc_new w1 _, by simp, by unfold maxLen; omega, hcT2, by simp [cellsL]⟩⟩, fun t ht => by cases ht⟩
  clear hd1 r0 r1 r2 r3 r4 HR HW
  obtain ⟨r0, r1, r2, r3, r4⟩ := HR1.out.cells5
  go_wp2_with fail
  refine (HC.out _).mono ?_
  rintro e w2 ⟨rfl, hd2⟩
  have HR2 := Lib.hid (HR1.out.step hd2)
  have HT2 := Lib.hid (HT1.out.step hd2)
  clear hd2 r0 r1 r2 r3 r4 HR1 HT1 HC hT hT4 hcT hcT2
  have HIX := Lib.hid (index_quart cx cy d s)
  go_wp2
  generalize w1.heap.size = g0 at *
  go_loopw [6, 23] (fun o i wr => ∃ (k g cap : Nat) (L : List TRec), k ≤ 4 ∧ i = .int .i64 k ∧ o = .slice (some ⟨g, 0, none⟩) k cap ∧ Hid (L.length = k) ∧ Hid (Box w w.heap.size #[.complex .f32 cx cy, .int .i64 d, .int .i64 s, .slice a n c, .slice a' ys.length c'] 29 wr) ∧ Hid (TList (w.heap.size + 1) L (.slice (some ⟨g, 0, none⟩) k cap) wr) ∧ Hid (∀ j t, L[j]? = some t → t.cx = (quart cx cy d s j).1 ∧ t.cy = (quart cx cy d s j).2 ∧ t.deep = (d : Int) + 1 ∧ t.size = s ∧ TGood most t)) (fun _ i _ => (4 - intOf i).toNat)
  case atStart => exact ⟨0, g0, 4, [], by omega, rfl, rfl, rfl, HR2.out, HT2.out, fun j t h => by simp at h⟩
  case round =>
    clear HR2 HT2
    obtain ⟨k, g, cap, L, hk, rfl, rfl, HL, HR, HT, HQL⟩ := hrel
    obtain ⟨wo, rfl⟩ : ∃ wo, wo = wr := ⟨_, rfl⟩
    by_cases hlt : k < 4
    · have hix := HIX.out k hlt
      obtain ⟨r0, r1, r2, r3, r4⟩ := HR.out.cells5
      have hq2 := HQ2.out k hlt
      have e1 : IntKind.i64.wrap ((d : Int) + 1) = (d : Int) + 1 := IntWalk.i64_in _ (by omega)
      have hszw := HR.out.lt
      generalize hpx : (quart cx cy d s k).1 = px at *
      generalize hpy : (quart cx cy d s k).2 = py at *
      have HPX := Lib.hid hpx
      have HPY := Lib.hid hpy
      clear hpx hpy
      go_wp2_with fail
      refine (implMakeC px py _ _ _ hq2.1 hq2.2 _).mono ?_
      rintro e w5 ⟨⟨x, y, dd, ss, a1, n1, c1, a2, n2, c2, ok, rfl, hM⟩, hb5⟩
      clear r0 r1 r2 r3 r4 hix e1
      have HB5 := Lib.hid hb5
      have HR5 := Lib.hid ((HR.out.step hb5).alloc (.cells #[.complex .f32 x y, .int .i64 dd, .int .i64 ss, .slice a1 n1 c1, .slice a2 n2 c2] 29))
      have HT5 := Lib.hid ((HT.out.step hb5).step ((Below.refl _ _).alloc (Nat.le_refl _) (.cells #[.complex .f32 x y, .int .i64 dd, .int .i64 ss, .slice a1 n1 c1, .slice a2 n2 c2] 29)))
      have hsz5 := hb5.size
      have Z := Box.new w5 #[.complex .f32 x y, .int .i64 dd, .int .i64 ss, .slice a1 n1 c1, .slice a2 n2 c2] 29
      obtain ⟨p0, p1, p2, p3, p4⟩ := Z.cells5
      have HM := Lib.hid hM
      clear hM hb5 Z
      cases ok with
      | false =>
        have HB := Lib.hid (HR5.out.old.alloc (by simp; omega) (.cells #[] 29))
        have HNO := Lib.hid (HM.out.1 rfl).1
        go_wp2
        go_ret2
        exact ⟨.inl ⟨_, rfl, k, hlt, by rw [HPX.out, HPY.out]; exact HNO.out⟩, HB.out⟩
      | true =>
        obtain ⟨t, e1, e2, e3, e4, e5, ht, hgood⟩ := HM.out.2 rfl
        have HTo : Hid (TOwn wo.heap.size t (w5.alloc (.cells #[.complex .f32 x y, .int .i64 dd, .int .i64 ss, .slice a1 n1 c1, .slice a2 n2 c2] 29))) := ht.step ((Below.refl _ _).alloc (Nat.le_refl _) _)
        have HC5 : Hid ([.complex .f32 x y, .int .i64 dd, .int .i64 ss, .slice a1 n1 c1, .slice a2 n2 c2] = t.cells) := by
          injection e5 with e5
          have := congrArg Array.toList e5
          exact this
        have HE : Hid (t.cx = (quart cx cy d s k).1 ∧ t.cy = (quart cx cy d s k).2 ∧ t.deep = (d : Int) + 1 ∧ t.size = s ∧ TGood most t) := by
          refine ⟨e1.trans HPX.out.symm, e2.trans HPY.out.symm, e3, e4, hgood⟩
        have hbs : w.heap.size + 1 ≤ w5.heap.size := by omega
        have HL2 : Hid (∀ j t', (L ++ [t])[j]? = some t' → t'.cx = (quart cx cy d s j).1 ∧ t'.cy = (quart cx cy d s j).2 ∧ t'.deep = (d : Int) + 1 ∧ t'.size = s ∧ TGood most t') := fun j t' hj => by
          have hLk := HL.out
          by_cases hjk : j < L.length
          · rw [List.getElem?_append_left hjk] at hj
            exact HQL.out j t' hj
          · rw [List.getElem?_append_right (by omega)] at hj
            by_cases h0 : j - L.length = 0
            · rw [h0] at hj
              injection hj with hj
              obtain rfl : j = k := by omega
              rw [← hj]; exact HE.out
            · rw [List.getElem?_eq_none (by simp; omega)] at hj; cases hj
        clear e1 e2 e3 e4 e5 ht hgood HM
        go_wp2_with (at_builtin; go_must (refine wpList_append_lies _ rfl _ _ _ rfl (w.heap.size + 1) 29 iT _ 5 72 (Vp.und Tryz.underlying37) hiT hzT0 hzT1 hzT2 rfl (by omega) _ k (cellsL L) rfl (by rw [← HL.out]; have := (HT5.out.row.alloc (.cells #[.complex .f32 x y, .int .i64 dd, .int .i64 ss, .slice a1 n1 c1, .slice a2 n2 c2] 29)); rw [HL.out] at this ⊢; exact this) ⟨w5.heap.size + 1, 0, none⟩ 1 1 [.complex .f32 x y, .int .i64 dd, .int .i64 ss, .slice a1 n1 c1, .slice a2 n2 c2] rfl rfl (World.news_of_block (cs := #[.complex .f32 x y, .int .i64 dd, .int .i64 ss, .slice a1 n1 c1, .slice a2 n2 c2]) (t := 29) (fr := (0, 0)) (by have := heap_alloc_new (w5.alloc (.cells #[.complex .f32 x y, .int .i64 dd, .int .i64 ss, .slice a1 n1 c1, .slice a2 n2 c2] 29)) (.cells #[.complex .f32 x y, .int .i64 dd, .int .i64 ss, .slice a1 n1 c1, .slice a2 n2 c2] 29); rw [World.size_alloc] at this; exact this)) (by intro u hu; simp only [List.mem_cons, List.not_mem_nil, or_false] at hu; rcases hu with rfl | rfl | rfl | rfl | rfl <;> rfl) (by omega) (by unfold maxLen; omega) (by omega) (by simp; omega) (w5.heap.size + 1 + 1) (by simp) ?_); intro g8 c8 w8 hown hgrow _ _)
        have T9 := HT5.out.step ((Below.refl _ _).alloc (Nat.le_refl _) (.cells #[.complex .f32 x y, .int .i64 dd, .int .i64 ss, .slice a1 n1 c1, .slice a2 n2 c2] 29))
        have R9 := HR5.out.alloc (.cells #[.complex .f32 x y, .int .i64 dd, .int .i64 ss, .slice a1 n1 c1, .slice a2 n2 c2] 29)
        have t9 := HTo.out.step ((Below.refl _ _).alloc (Nat.le_refl _) (.cells #[.complex .f32 x y, .int .i64 dd, .int .i64 ss, .slice a1 n1 c1, .slice a2 n2 c2] 29))
        have hg : w.heap.size + 1 ≤ g := own_ge T9.row
        have hrow : ∀ j, (some g : Option Nat) = some j → w.heap.size ≤ j := fun j hj => by injection hj with hj; omega
        have HR8 := Lib.hid (R9.grown (row := some g) hgrow (fun e => by injection e with e; omega) hrow)
        have HT8 : Hid (TList (w.heap.size + 1) (L ++ [t]) (.slice (some ⟨g8, 0, none⟩) (k + 1) c8) w8) := by
          refine ⟨?_, fun t' ht' => ?_⟩
          · rw [List.length_append, HL.out, cellsL_snoc, ← HC5.out]
            exact hown
          · rcases List.mem_append.1 ht' with h | h
            · exact (T9.own t' h).grown T9.row hgrow
            · rw [List.mem_singleton] at h
              rw [h]
              exact (t9.grown T9.row hgrow).mono (by omega)
        clear T9 R9 t9 hown hgrow
        go_roundw
        case rel => exact ⟨k + 1, g8, c8, L ++ [t], by omega, by go_num, rfl, by show (L ++ [t]).length = k + 1; rw [List.length_append, HL.out]; rfl, HR8, HT8, HL2⟩
        case measure => simp [intOf]; omega
    · have HT4 : Hid (TList w.heap.size L (.slice (some ⟨g, 0, none⟩) k cap) wo) := HT.out.mono (by omega)
      go_wp2
      go_ret2
      exact ⟨.inr ⟨L, _, rfl, HT4.out, by have := HL.out; omega, HQL.out⟩, HR.out.old⟩
end Go.Proofs.YtokbalggdhippaaGreat
end
