/- Merged texts: PmkA, PmkB, PmkC. -/
import Derived.Test.YtalmhbcmagjheaaJ12
import Derived.Test.YtalmhbcmagjheaaJ16
import Derived.Test.YtalmhbcmagjheaaJ4
import Derived.Test.YtalmhbcmagjheaaJ6
import Derived.Deep.RegionWith
import Derived.Deep.RegionLaw
import Derived.Deep.Cut
import Derived.Deep.CutRange
import Derived.Deep.AppendLies
section
/- Walks: the reference's plans: open marks, the tile that is refined next. -/
namespace Go.Proofs.Ytalmhbcmagjheaa
open Go.RowKit Flo
attribute [local go_sem] run_store_float run_store_complex

set_option maxRecDepth 100000 in
set_option maxHeartbeats 1000000 in
theorem l8Open_is (t : JT) (B : Nat) (w : World) (h : t.Ok B w) (hw : wellB t.size t.xs.length t.ys = true) :
    Calls Try.prog 59 #[.agg #[.complex .f32 t.cx t.cy, .int .i64 t.deep, .int .i64 t.size, .slice t.a1 t.xs.length t.c1, .slice t.a2 t.ys.length t.c2]] w fun e w' => e = .returned (.int .i64 (cnt 0 t.ys : Nat)) ∧ Below w.heap.size w w' := by
  have X := Box.new w #[.complex .f32 t.cx t.cy, .int .i64 t.deep, .int .i64 t.size, .slice t.a1 t.xs.length t.c1, .slice t.a2 t.ys.length t.c2] 37
  have h' := TileV.step h X.old
  have hlm := h.lim
  have CC := specCounts_good t.cx t.cy t.deep t.size h.bx h.by1 h.pl t.a1 t.a2 t.xs.length t.c1 t.c2 t.ys (by omega) _ h'.s2 hw
  have hcq : cntC t.ys t.ys.length = #[.int .i64 (cnt 1 t.ys : Nat), .int .i64 (cnt (-1) t.ys : Nat), .int .i64 (cnt 0 t.ys : Nat)] := by unfold cntC; rw [List.take_length]
  rw [hcq] at CC
  replace CC := Lib.hid CC
  have HX := Lib.hid X
  obtain ⟨x0, x1, x2, x3, x4⟩ := X.cells5
  clear X h h' hlm hcq hw
  generalize cnt 1 t.ys = m0 at *
  generalize cnt (-1) t.ys = m1 at *
  generalize cnt 0 t.ys = m2 at *
  go_enter Try.func59, Try.ntmps59
  go_wp2_with fail
  refine CC.out.mono ?_
  rintro e w1 ⟨b, rfl, hb, hC⟩
  have c2 := hC.cell 2 _ rfl
  have HB := Lib.hid (HX.out.step hC.old).old
  clear hC CC x0 x1 x2 x3 x4
  go_wp2
  go_ret
  exact ⟨rfl, HB.out⟩
set_option maxRecDepth 100000 in
set_option maxHeartbeats 2000000 in
theorem l8Best_any (B g cap : Nat) (L : List JT) (hl : L.length ≤ 1000) (hW : ∀ t, t ∈ L → wellB t.size t.xs.length t.ys = true) (w : World) (hL : JIn B g L w) :
    Calls Try.prog 48 #[.slice (some ⟨g, 0, none⟩) L.length cap] w fun e w' => (∃ b : Int, e = .returned (.int .i64 b) ∧ -1 ≤ b ∧ b < L.length) ∧ Below w.heap.size w w' := by
  obtain ⟨n, hn⟩ : ∃ n, L.length = n := ⟨_, rfl⟩
  have HL := Lib.hid hL
  have HW := Lib.hid hW
  have HAT : Hid (∀ k, k < n → ∃ t, L[k]? = some t) := fun k hk => ⟨_, List.getElem?_eq_getElem (by omega)⟩
  rw [hn] at hl ⊢
  clear hL hW hn
  go_enter Try.func48, Try.ntmps48
  go_wp2
  go_loopw [3, 4, 5] (fun b m i wr => ∃ (k : Nat) (b' m' : Int), k ≤ n ∧ b = .int .i64 b' ∧ m = .int .i64 m' ∧ i = .int .i64 k ∧ Hid (-1 ≤ b' ∧ b' < n) ∧ Hid (Below w.heap.size w wr)) (fun _ _ i _ => (n - intOf i).toNat)
  case atStart => exact ⟨0, -1, 0, by omega, rfl, rfl, rfl, (by constructor <;> omega), Below.refl _ _⟩
  case round =>
    obtain ⟨k, b', m', hk, rfl, rfl, rfl, HBB, HB⟩ := hrel
    by_cases hlt : k < n
    · obtain ⟨t, ht⟩ := HAT.out k hlt
      have J := HL.out.step HB.out
      obtain ⟨p0, p1, p2, p3, p4⟩ := J.cells5 ht
      have CO := Lib.hid (l8Open_is t B wr (J.own t (List.mem_of_getElem? ht)) (HW.out t (List.mem_of_getElem? ht)))
      have HT := Lib.hid ht
      have b5 : (k : Int) < n := by omega
      have b6 : (0 : Int) ≤ k := by omega
      clear J ht
      generalize cnt 0 t.ys = c at *
      go_wp2_with fail
      refine CO.out.mono ?_
      rintro e w1 ⟨rfl, hd⟩
      have HB1 := Lib.hid (HB.out.trans (hd.mono HB.out.size))
      obtain ⟨-, p1, -⟩ := (HL.out.step HB1.out).cells5 HT.out
      clear hd CO HB p0 p2 p3 p4
      by_cases h1 : m' < (c : Int)
      · have e1 : decide (m' < (c : Int)) = true := decide_eq_true h1
        by_cases h2 : t.deep < 10
        · have e2 : decide (t.deep < 10) = true := decide_eq_true h2
          clear h1 h2
          go_wp2
          go_roundw
          case rel => exact ⟨k + 1, k, c, by omega, rfl, rfl, by go_num, (by constructor <;> omega), HB1⟩
          case measure => simp [intOf]; omega
        · have e2 : decide (t.deep < 10) = false := decide_eq_false h2
          clear h1 h2
          go_wp2
          go_roundw
          case rel => exact ⟨k + 1, b', m', by omega, rfl, rfl, by go_num, HBB, HB1⟩
          case measure => simp [intOf]; omega
      · have e1 : decide (m' < (c : Int)) = false := decide_eq_false h1
        clear h1
        go_wp2
        go_roundw
        case rel => exact ⟨k + 1, b', m', by omega, rfl, rfl, by go_num, HBB, HB1⟩
        case measure => simp [intOf]; omega
    · go_wp2
      go_ret
      exact ⟨⟨b', rfl, HBB.out.1, HBB.out.2⟩, HB.out⟩
end Go.Proofs.Ytalmhbcmagjheaa
end

section
/- Walks: the reference's l8Told. -/
namespace Go.Proofs.Ytalmhbcmagjheaa
open Go.RowKit Flo
attribute [local go_sem ↓] Go.wp_at_zero Go.wp_at_succ

/-- a plan under way -/
structure PM (w : World) (rb ob : Nat) (pv : Value) (m : Nat) (ms : List Int) (mkv : Value) (p q r : Int) (W : World) : Prop where
  O : Box w ob #[pv, mkv, .int .i64 p, .int .i64 q, .int .i64 r] 26 W
  R : Box w rb #[.slice none 0 0, .slice none 0 0, .int .i64 0, .int .i64 0, .int .i64 0] 26 W
  M : W.ownsRow w.heap.size 3 1 mkv m (ms.map intV)
  ne : rb ≠ ob
  hr : w.heap.size ≤ rb
  ho : w.heap.size ≤ ob
theorem PM.step {w : World} {rb ob m : Nat} {pv mkv : Value} {ms : List Int} {p q r : Int} {W W' : World} (h : PM w rb ob pv m ms mkv p q r W) (k : Below W.heap.size W W') : PM w rb ob pv m ms mkv p q r W' :=
  ⟨h.O.step k, h.R.step k, ownsRow_step h.M k, h.ne, h.hr, h.ho⟩
theorem PM.alloc {w : World} {rb ob m : Nat} {pv mkv : Value} {ms : List Int} {p q r : Int} {W : World} (h : PM w rb ob pv m ms mkv p q r W) (o : Obj) : PM w rb ob pv m ms mkv p q r (W.alloc o) := h.step ((Below.refl _ _).alloc (Nat.le_refl _) o)
theorem PM.mark {w : World} {rb ob m : Nat} {pv mkv v' : Value} {ms : List Int} {p q r : Int} {W W' : World} (h : PM w rb ob pv m ms mkv p q r W) {z : Int} (hown : W'.ownsRow w.heap.size 3 1 v' (m + 1) (ms.map intV ++ [intV z])) (hg : W.grownBy W' mkv.ownBlock) :
    PM w rb ob pv (m + 1) (ms ++ [z]) v' p q r (W'.setCell ⟨ob, 1, none⟩ v') ∧ W'.cell? ⟨ob, 1, none⟩ = some mkv ∧ W'.frozen? ⟨ob, 1, none⟩ = false := by
  have hrow : ∀ k, mkv.ownBlock = some k → w.heap.size ≤ k := fun k hk => (h.M.lt k hk).1
  have O := h.O.grown hg (ownsRow_ne h.M h.O.blk (by decide)) hrow
  have R := h.R.grown hg (ownsRow_ne h.M h.R.blk (by decide)) hrow
  refine ⟨⟨?_, R.other (p := ⟨ob, 1, none⟩) h.ho h.ne _, ?_, h.ne, h.hr, h.ho⟩, O.cell 1 _ rfl, O.frozen 1⟩
  · have := O.set h.ho 1 v'
    exact this
  · rw [List.map_append]
    exact ownsRow_set hown O.blk (by decide) _
theorem PM.set2 {w : World} {rb ob m : Nat} {pv mkv : Value} {ms : List Int} {p q r : Int} {W : World} (h : PM w rb ob pv m ms mkv p q r W) (x : Int) : PM w rb ob pv m ms mkv x q r (W.setCell ⟨ob, 2, none⟩ (.int .i64 x)) :=
  ⟨h.O.set h.ho 2 _, h.R.other (p := ⟨ob, 2, none⟩) h.ho h.ne _, ownsRow_set h.M h.O.blk (by decide) _, h.ne, h.hr, h.ho⟩
theorem PM.set3 {w : World} {rb ob m : Nat} {pv mkv : Value} {ms : List Int} {p q r : Int} {W : World} (h : PM w rb ob pv m ms mkv p q r W) (x : Int) : PM w rb ob pv m ms mkv p x r (W.setCell ⟨ob, 3, none⟩ (.int .i64 x)) :=
  ⟨h.O.set h.ho 3 _, h.R.other (p := ⟨ob, 3, none⟩) h.ho h.ne _, ownsRow_set h.M h.O.blk (by decide) _, h.ne, h.hr, h.ho⟩
theorem PM.set4 {w : World} {rb ob m : Nat} {pv mkv : Value} {ms : List Int} {p q r : Int} {W : World} (h : PM w rb ob pv m ms mkv p q r W) (x : Int) : PM w rb ob pv m ms mkv p q x (W.setCell ⟨ob, 4, none⟩ (.int .i64 x)) :=
  ⟨h.O.set h.ho 4 _, h.R.other (p := ⟨ob, 4, none⟩) h.ho h.ne _, ownsRow_set h.M h.O.blk (by decide) _, h.ne, h.hr, h.ho⟩
theorem PM.fin {w : World} {rb ob m : Nat} {pv mkv : Value} {ms : List Int} {p q r : Int} {W : World} (h : PM w rb ob pv m ms mkv p q r W) (u0 u1 u2 u3 u4 : Value) :
    (((((W.setCell ⟨rb, 0, none⟩ u0).setCell ⟨rb, 1, none⟩ u1).setCell ⟨rb, 2, none⟩ u2).setCell ⟨rb, 3, none⟩ u3).setCell ⟨rb, 4, none⟩ u4).ownsRow w.heap.size 3 1 mkv m (ms.map intV) := by
  have b0 := h.R
  have b1 := b0.set h.hr 0 u0
  have b2 := b1.set h.hr 1 u1
  have b3 := b2.set h.hr 2 u2
  have b4 := b3.set h.hr 3 u3
  exact ownsRow_set (ownsRow_set (ownsRow_set (ownsRow_set (ownsRow_set h.M b0.blk (by decide) u0) b1.blk (by decide) u1) b2.blk (by decide) u2) b3.blk (by decide) u3) b4.blk (by decide) u4
/-- what l8Told returns -/
def ToldRes (w : World) (pv : Value) (n : Nat) (e : Ending) (w' : World) : Prop :=
  Below w.heap.size w w' ∧ ∃ (g cap : Nat) (ms : List Int) (p q r : Int), e = .returned (.agg #[pv, .slice (some ⟨g, 0, none⟩) n cap, .int .i64 p, .int .i64 q, .int .i64 r]) ∧ w'.ownsRow w.heap.size 3 1 (.slice (some ⟨g, 0, none⟩) n cap) n (ms.map intV)
set_option maxRecDepth 100000 in
set_option maxHeartbeats 4000000 in
theorem l8Told_any (B g cap : Nat) (L : List JT) (hl : L.length ≤ 1000) (hW : ∀ t, t ∈ L → wellB t.size t.xs.length t.ys = true) (pa : Option Addr) (pn pc : Nat) (w : World) (hL : JIn B g L w) :
    Calls Try.prog 49 #[.slice (some ⟨g, 0, none⟩) L.length cap, .slice pa pn pc] w (ToldRes w (.slice pa pn pc) L.length) := by
  obtain ⟨n, hn⟩ : ∃ n, L.length = n := ⟨_, rfl⟩
  have HL := Lib.hid hL
  have HW := Lib.hid hW
  have HAT : Hid (∀ k, k < n → ∃ t, L[k]? = some t) := fun k hk => ⟨_, List.getElem?_eq_getElem (by omega)⟩
  rw [hn] at hl ⊢
  clear hL hW hn
  obtain ⟨iI, hiI, hzI0, hzI1, hzI2⟩ := info_parts infoI
  go_enter Try.func49, Try.ntmps49
  go_upto_region 3 with fail
  have HP : Hid (PM w w.heap.size (w.heap.size + 1 + 1) (.slice pa pn pc) 0 [] (.slice (some ⟨w.heap.size + 1, 0, none⟩) 0 0) 0 0 0 (((w.alloc (.cells #[.slice none 0 0, .slice none 0 0, .int .i64 0, .int .i64 0, .int .i64 0] 26)).alloc (.cells #[] 3)).alloc (.cells #[.slice pa pn pc, .slice (some ⟨w.heap.size + 1, 0, none⟩) 0 0, .int .i64 0, .int .i64 0, .int .i64 0] 26))) := by
    have R := ((Box.new w #[.slice none 0 0, .slice none 0 0, .int .i64 0, .int .i64 0, .int .i64 0] 26).alloc (.cells #[] 3))
    have O := (Box.new ((w.alloc (.cells #[.slice none 0 0, .slice none 0 0, .int .i64 0, .int .i64 0, .int .i64 0] 26)).alloc (.cells #[] 3)) #[.slice pa pn pc, .slice (some ⟨w.heap.size + 1, 0, none⟩) 0 0, .int .i64 0, .int .i64 0, .int .i64 0] 26).up R.old
    have M := World.ownsRow_lit (e := 3) (size := 1) (base := w.heap.size) (w.alloc (.cells #[.slice none 0 0, .slice none 0 0, .int .i64 0, .int .i64 0, .int .i64 0] 26)) #[] 0 (by simp) (by decide) rfl
    simp only [World.size_alloc] at O M
    exact ⟨O, R.alloc _, M.alloc _, by omega, Nat.le_refl _, by omega⟩
  generalize ((w.alloc (.cells #[.slice none 0 0, .slice none 0 0, .int .i64 0, .int .i64 0, .int .i64 0] 26)).alloc (.cells #[] 3)).alloc (.cells #[.slice pa pn pc, .slice (some ⟨w.heap.size + 1, 0, none⟩) 0 0, .int .i64 0, .int .i64 0, .int .i64 0] 26) = w1 at *
  generalize w.heap.size + 1 + 1 = ob at *
  generalize w.heap.size + 1 = g0 at *
  go_loopw [6] (fun i wr => ∃ (k g' cap' : Nat) (ms : List Int) (p q r : Int), k ≤ n ∧ i = .int .i64 k ∧ Hid (PM w w.heap.size ob (.slice pa pn pc) k ms (.slice (some ⟨g', 0, none⟩) k cap') p q r wr)) (fun i _ => (n - intOf i).toNat)
  case atStart => exact ⟨0, g0, 0, [], 0, 0, 0, by omega, rfl, HP⟩
  case round =>
    clear HP
    obtain ⟨k, g', cap', ms, p, q, r, hk, rfl, HP⟩ := hrel
    by_cases hlt : k < n
    · obtain ⟨t, ht⟩ := HAT.out k hlt
      have J := HL.out.step HP.out.O.old
      have T := J.own t (List.mem_of_getElem? ht)
      obtain ⟨p0, p1, p2, p3, p4⟩ := J.cells5 ht
      have hlm := T.lim
      have CC := specCounts_good t.cx t.cy t.deep t.size T.bx T.by1 T.pl t.a1 t.a2 t.xs.length t.c1 t.c2 t.ys (by omega) wr T.s2 (HW.out t (List.mem_of_getElem? ht))
      have hcq : cntC t.ys t.ys.length = #[.int .i64 (cnt 1 t.ys : Nat), .int .i64 (cnt (-1) t.ys : Nat), .int .i64 (cnt 0 t.ys : Nat)] := by unfold cntC; rw [List.take_length]
      rw [hcq] at CC
      replace CC := Lib.hid CC
      obtain ⟨sh1, hs1⟩ : ∃ s : Nat, 10 - t.deep = (s : Int) := ⟨(10 - t.deep).toNat, by omega⟩
      obtain ⟨sh2, hs2⟩ : ∃ s : Nat, 2 * (sh1 : Int) = (s : Int) := ⟨2 * sh1, by omega⟩
      have hs3 : sh2 ≤ 20 := by omega
      have HT := Lib.hid ht
      have b5 : (k : Int) < n := by omega
      have b6 : (0 : Int) ≤ k := by omega
      have hdp : 0 ≤ t.deep ∧ t.deep ≤ 10 := ⟨hlm.2.2.1, hlm.2.2.2.1⟩
      clear J T hlm hcq ht
      generalize cnt 1 t.ys = m0 at *
      generalize cnt (-1) t.ys = m1 at *
      generalize cnt 0 t.ys = m2 at *
      go_wp2_with fail
      refine CC.out.mono ?_
      rintro e w2 ⟨b, rfl, hb, hC⟩
      have P2 := HP.out.step hC.old
      obtain ⟨-, q1, -⟩ := (HL.out.step P2.O.old).cells5 HT.out
      have HP2 := Lib.hid P2
      have HC2 := Lib.hid (hC.up HP.out.O.old)
      have hbg : g' < b := by have := (HP.out.M.lt g' rfl).2; omega
      have hbo : ob < b := by have := HP.out.O.lt; omega
      clear P2 hC CC HP p0 p1 p2 p3 p4
      go_upto_region 7 with fail
      obtain ⟨-, o1, o2, o3, o4⟩ := HP2.out.O.cells5
      have c2 := HC2.out.cell 2 _ rfl
      have hbl := HC2.out.lt
      have hol := HP2.out.O.lt
      have hbase := HP2.out.O.old.size
      have hww : w.heap.size ≤ w2.heap.size := hbase
      go_cut [] from 35 to 42 (fun wx => ∃ g2 cap2, Hid (PM w w.heap.size ob (.slice pa pn pc) (k + 1) (ms ++ [(m2 : Int)]) (.slice (some ⟨g2, 0, none⟩) (k + 1) cap2) p q r wx) ∧ Hid (Box w b #[.int .i64 m0, .int .i64 m1, .int .i64 m2] 3 wx))
      case first =>
        go_region_law (first
          | (refine step_append_lies _ (by rfl) _ _ _ (by rfl) w.heap.size 3 iI _ 1 8 Try.underlying24 hiI hzI0 hzI1 hzI2 rfl (by omega) _ k (ms.map intV) (by rfl) (ownsRow_step (HP2.out.M.alloc _) ((Drw.refl _).drew.below _)) ⟨w2.heap.size, 0, none⟩ 1 1 [intV m2] (by rfl) (by rfl) (World.news_of_block (cs := #[intV m2]) (t := 3) (fr := (0, 0)) (heap_alloc_new w2 _)) (by simp [intV, Value.oneCell']) (by omega) (by unfold maxLen; omega) (by omega) (by simp; omega) (w2.heap.size + 1) (by simp) ?_
             intro g6 c6 w6 hown hgrow _ _
             obtain ⟨T6, k6, f6⟩ := ((HP2.out.alloc (.cells #[.int .i64 m2] 3)).step ((Drw.refl _).drew.below _)).mark hown hgrow
             have C6 := (((HC2.out.alloc (.cells #[.int .i64 m2] 3)).step ((Drw.refl _).drew.below _)).grown hgrow (by simp only [Value.ownBlock, ne_eq, Option.some.injEq]; omega) (fun j hj => (HP2.out.M.lt j hj).1)).other (p := ⟨ob, 1, none⟩) HP2.out.ho (by simp; omega) (.slice (some ⟨g6, 0, none⟩) (k + 1) c6)
             have H6 := Lib.hid (And.intro T6 C6)
             clear T6 C6 hown hgrow))
        all_goals
          go_wp2_with fail
          go_meet
          exact ⟨g6, c6, H6⟩
      case rest =>
        obtain ⟨g2, cap2, HP3, HC3⟩ := hcut
        clear HP2 HC2 o1 o2 o3 o4 c2 hbl hol hww hbase q1 hbg
        generalize wrap64 (2 ^ sh2) = wt at *
        go_upto_region 8 with fail
        obtain ⟨-, -, o2, o3, o4⟩ := HP3.out.O.cells5
        have c0 := HC3.out.cell 0 _ rfl
        have c1 := HC3.out.cell 1 _ rfl
        have c2 := HC3.out.cell 2 _ rfl
        have f2 := HP3.out.O.frozen 2
        have f3 := HP3.out.O.frozen 3
        have f4 := HP3.out.O.frozen 4
        have hbl := HC3.out.lt
        have hol := HP3.out.O.lt
        go_cut [] from 43 to 51 (fun wx => ∃ x : Int, wx = (wc.setCell ⟨ob, 2, none⟩ (.int .i64 x)).drew)
        case first =>
          go_region_with (fail)
          all_goals
            go_wp2_with fail
            go_meet
            exact ⟨_, rfl⟩
        case rest =>
          obtain ⟨x2, rfl⟩ := hcut
          have hco : b ≠ ob := by omega
          have HP4 := Lib.hid ((HP3.out.set2 x2).step ((Drw.refl _).drew.below _))
          have HC4 := Lib.hid ((HC3.out.other (p := ⟨ob, 2, none⟩) HP3.out.ho hco (.int .i64 x2)).step ((Drw.refl _).drew.below _))
          clear HP3 HC3 o2 o3 o4 c0 c1 c2 f2 f3 f4 hbl hol
          go_upto_region 9 with fail
          generalize (wc.setCell ⟨ob, 2, none⟩ (.int .i64 x2)).drew = wd at *
          obtain ⟨-, -, -, o3, o4⟩ := HP4.out.O.cells5
          have c1 := HC4.out.cell 1 _ rfl
          have c2 := HC4.out.cell 2 _ rfl
          have f3 := HP4.out.O.frozen 3
          have f4 := HP4.out.O.frozen 4
          have hbl := HC4.out.lt
          have hol := HP4.out.O.lt
          go_cut [] from 52 to 60 (fun wx => ∃ x : Int, wx = (wd.setCell ⟨ob, 3, none⟩ (.int .i64 x)).drew)
          case first =>
            go_region_with (fail)
            all_goals
              go_wp2_with fail
              go_meet
              exact ⟨_, rfl⟩
          case rest =>
            obtain ⟨x3, rfl⟩ := hcut
            have HP5 := Lib.hid ((HP4.out.set3 x3).step ((Drw.refl _).drew.below _))
            have HC5 := Lib.hid ((HC4.out.other (p := ⟨ob, 3, none⟩) HP4.out.ho hco (.int .i64 x3)).step ((Drw.refl _).drew.below _))
            clear HP4 HC4 o3 o4 c1 c2 f3 f4 hbl hol
            go_upto_region 10 with fail
            generalize (wd.setCell ⟨ob, 3, none⟩ (.int .i64 x3)).drew = we at *
            obtain ⟨-, -, -, -, o4⟩ := HP5.out.O.cells5
            have c2 := HC5.out.cell 2 _ rfl
            have f4 := HP5.out.O.frozen 4
            have hbl := HC5.out.lt
            have hol := HP5.out.O.lt
            have HPF := Lib.hid (fun x : Int => (HP5.out.set4 x).step (W' := (we.setCell ⟨ob, 4, none⟩ (.int .i64 x)).drew) ((Drw.refl _).drew.below _))
            go_region_with (fail)
            all_goals
              clear o4 c2 f4 hbl hol HP5 HC5
              go_wp2
              go_roundw
              case rel => exact ⟨k + 1, g2, cap2, ms ++ [(m2 : Int)], x2, x3, _, by omega, by go_num, HPF.out _⟩
              case measure => simp [intOf]; omega
    · obtain rfl : k = n := by omega
      obtain ⟨o0, o1, o2, o3, o4⟩ := HP.out.O.cells5
      obtain ⟨r0, r1, r2, r3, r4⟩ := HP.out.R.cells5
      obtain ⟨f0, f1, f2, f3, f4⟩ := HP.out.R.free5
      have hne := HP.out.ne
      go_wp2
      exact bodyPost_ret (v := .agg #[.slice pa pn pc, .slice (some ⟨g', 0, none⟩) k cap', .int .i64 p, .int .i64 q, .int .i64 r]) (by simp [results, Try.f49, go_sem, r0, r1, r2, r3, r4]) rfl ⟨set5 HP.out.O.old (Nat.le_refl _) _ _ _ _ _, g', cap', ms, p, q, r, rfl, HP.out.fin _ _ _ _ _⟩
end Go.Proofs.Ytalmhbcmagjheaa
end

section
/- Words for the reference's PlanMake: appends of whatever length; lists of tiles and of paths. -/
namespace Go.Proofs.Ytalmhbcmagjheaa
open Go.RowKit Flo

theorem wp_append_own' {P : Program} (w : World) {o : Oper} {a : Act} {K : Act → World → Prop} {Q : Exit → Act → World → Prop} (s x : Operand) (t : TypeId)
    (ho : o.op = .call { callee := .builtin .append, args := #[s, x], argTypes := #[t, t] })
    (base : Nat) (e : TypeId) (i : TypeInfo) (z : Value) (size bytes : Nat) (ht : P.underlying t = some (.slice e)) (hi : P.info? e = some i) (hz : i.zero = some z)
    (hsize : i.size = size) (hby : i.bytes = bytes) (hzs : z.cells.size = size) (hsz : 0 < size)
    (v : Value) (n : Nat) (xs : List Value) (hs : a.eval s = v) (hown : w.ownsRow base e size v n xs)
    (ad : Addr) (m c : Nat) (news : List Value) (hx : a.eval x = .slice (some ad) m c) (hl : news.length = m * size) (hnews : ∀ j u, news[j]? = some u → w.cell? (ad.add j) = some u) (h1 : ∀ u ∈ news, u.oneCell' = true)
    (h63 : n + m ≤ maxLen) (hbytes : (n + m) * bytes ≤ 140737488355328) (hbase : base ≤ w.heap.size)
    (h : ∀ v' w', w'.ownsRow base e size v' (n + m) (xs ++ news) → w.grownBy w' v.ownBlock → K (a.put o.dst v') w') : o.wp P a w K Q := by
  obtain ⟨v', w', hr, h2, h3, -, -⟩ := run_append_own_at (P := P) w base t o.type e i z size bytes ht hi hz hsize hby hzs hsz v n xs hown ad m c news hl hnews h1 h63 hbytes hbase
  unfold Oper.wp execOp
  simp only [ho, resolve, invoke, builtin, Sem.run_bind, Sem.run_pure, Result.andThen_ok, List.map_toArray, List.map_cons, List.map_nil, hs, hx, hr]
  exact h v' w' h2 h3
theorem step_append_own' {P : Program} (w : World) {ops : Array Oper} {o : Oper} {a : Act} {K : Act → World → Prop} {Q : Exit → Act → World → Prop} {E : Prop} (hgd : o.guard = none) (s x : Operand) (t : TypeId)
    (ho : o.op = .call { callee := .builtin .append, args := #[s, x], argTypes := #[t, t] })
    (base : Nat) (e : TypeId) (i : TypeInfo) (z : Value) (size bytes : Nat) (ht : P.underlying t = some (.slice e)) (hi : P.info? e = some i) (hz : i.zero = some z)
    (hsize : i.size = size) (hby : i.bytes = bytes) (hzs : z.cells.size = size) (hsz : 0 < size)
    (v : Value) (n : Nat) (xs : List Value) (hs : a.eval s = v) (hown : w.ownsRow base e size v n xs)
    (ad : Addr) (m c : Nat) (news : List Value) (hx : a.eval x = .slice (some ad) m c) (hl : news.length = m * size) (hnews : ∀ j u, news[j]? = some u → w.cell? (ad.add j) = some u) (h1 : ∀ u ∈ news, u.oneCell' = true)
    (h63 : n + m ≤ maxLen) (hbytes : (n + m) * bytes ≤ 140737488355328) (hbase : base ≤ w.heap.size)
    (h : ∀ v' w', w'.ownsRow base e size v' (n + m) (xs ++ news) → w.grownBy w' v.ownBlock → K (a.put o.dst v') w') :
    if Region.wanted o (yielded ops a.tmps) = true then Oper.wp P o a w K Q else E := by
  have hw : Region.wanted o (yielded ops a.tmps) = true := by simp [Region.wanted, hgd]
  rw [if_pos hw]
  exact wp_append_own' w s x t ho base e i z size bytes ht hi hz hsize hby hzs hsz v n xs hs hown ad m c news hx hl hnews h1 h63 hbytes hbase h
theorem TOwn.well {B : Nat} {t : TRec} {W : World} (h : TOwn B t W) : wellB (JT.of t).size (JT.of t).xs.length (JT.of t).ys = true := by
  have hp := placeB_bd h.pl
  obtain ⟨s, hs⟩ := Int.eq_ofNat_of_zero_le (show 0 ≤ t.size by omega)
  have e1 : t.xs.length = s * s := by have := h.made.lx; unfold TRec.n at this; rw [hs, Int.toNat_natCast] at this; exact this
  have e2 : t.ys.length = s * s := by have := h.made.ly; unfold TRec.n at this; rw [hs, Int.toNat_natCast] at this; exact this
  show wellB t.size t.xs.length t.ys = true
  rw [hs, e1]
  unfold wellB
  rw [decide_eq_true (Int.natCast_mul s s), decide_eq_true e2]
  simp only [Bool.true_and, List.all_eq_true]
  intro y hy
  have := h.made.hy y hy
  unfold markB inB
  simp only [Bool.and_eq_true, decide_eq_true_eq]
  exact this
theorem cells_one {B : Nat} {t : TRec} {W : World} (_ : TOwn B t W) : ∀ u ∈ t.cells, u.oneCell' = true := by
  intro u hu
  unfold TRec.cells at hu
  simp only [List.mem_cons, List.not_mem_nil, or_false] at hu
  rcases hu with rfl | rfl | rfl | rfl | rfl <;> rfl
theorem cellsL_one {B : Nat} {L : List TRec} {W : World} (h : ∀ t, t ∈ L → TOwn B t W) : ∀ u ∈ cellsL L, u.oneCell' = true := by
  intro u hu
  unfold cellsL at hu
  obtain ⟨t, ht, hu⟩ := List.mem_flatMap.1 hu
  exact cells_one (h t ht) u hu
theorem cellsL_len : ∀ L : List TRec, (cellsL L).length = L.length * 5
  | [] => rfl
  | t :: L => by
    show (t.cells ++ cellsL L).length = _
    rw [List.length_append, cellsL_len L, List.length_cons, Nat.succ_mul]
    show 5 + _ = _
    omega
theorem cellsL_append (L M : List TRec) : cellsL (L ++ M) = cellsL L ++ cellsL M := by unfold cellsL; rw [List.flatMap_append]
theorem cellsL_take (L : List TRec) (k j : Nat) (u : Value) (h : (cellsL (L.take k))[j]? = some u) : (cellsL L)[j]? = some u := by
  have e : cellsL L = cellsL (L.take k) ++ cellsL (L.drop k) := by rw [← cellsL_append, List.take_append_drop]
  rw [e, List.getElem?_append_left (List.getElem?_eq_some_iff.1 h).1]
  exact h
theorem cellsL_drop (L : List TRec) (k j : Nat) (hk : k ≤ L.length) (u : Value) (h : (cellsL (L.drop k))[j]? = some u) : (cellsL L)[k * 5 + j]? = some u := by
  have e : cellsL L = cellsL (L.take k) ++ cellsL (L.drop k) := by rw [← cellsL_append, List.take_append_drop]
  have hl : (cellsL (L.take k)).length = k * 5 := by rw [cellsL_len, List.length_take, Nat.min_eq_left hk]
  rw [e, List.getElem?_append_right (by omega), hl, Nat.add_sub_cancel_left]
  exact h
theorem addr_add (b o j : Nat) : (⟨b, o, none⟩ : Addr).add j = ⟨b, o + j, none⟩ := by unfold Addr.add; split <;> simp_all
theorem own_cap {w : World} {base : Nat} {e : TypeId} {size : Nat} {g m cap n : Nat} {xs : List Value} (hn : 0 < n) (h : w.ownsRow base e size (.slice (some ⟨g, 0, none⟩) m cap) n xs) : m ≤ cap := by
  obtain ⟨g', cap', e', -, hc⟩ := ownsRow_form h hn
  injection e' with _ e2 e3
  omega
theorem tl_cells {B g ln cap : Nat} {L : List TRec} {W : World} (h : TList B L (.slice (some ⟨g, 0, none⟩) ln cap) W) (hl : L.length = ln) (j : Nat) (u : Value) (hj : (cellsL L)[j]? = some u) : W.cell? ⟨g, j, none⟩ = some u := by
  subst hl
  have hlt := (List.getElem?_eq_some_iff.1 hj).1
  rw [cellsL_len] at hlt
  rw [h.row.cellAt j hlt]
  exact hj
theorem tl_take {B g ln cap k : Nat} {L : List TRec} {w : World} (h : TList B L (.slice (some ⟨g, 0, none⟩) ln cap) w) (hl : L.length = ln) (hk : k ≤ ln) :
    (cellsL (L.take k)).length = k * 5 ∧ (∀ W, Below w.heap.size w W → ∀ j u, (cellsL (L.take k))[j]? = some u → W.cell? ((⟨g, 0, none⟩ : Addr).add j) = some u) ∧ ∀ u ∈ cellsL (L.take k), u.oneCell' = true := by
  refine ⟨by rw [cellsL_len, List.length_take, Nat.min_eq_left (by omega)], fun W d j u hj => ?_, fun u hu => ?_⟩
  · rw [addr_add, Nat.zero_add]
    have h1 := tl_cells h hl j u (cellsL_take L k j u hj)
    exact (d.cell (p := ⟨g, j, none⟩) (World.block_lt_of_cell? w _ h1)).trans h1
  · exact cellsL_one (B := B) (W := w) (fun t ht => h.own t (List.mem_of_mem_take ht)) u hu
theorem tl_all {B g cap : Nat} {L : List TRec} {w : World} (h : TList B L (.slice (some ⟨g, 0, none⟩) 4 cap) w) (hl : L.length = 4) :
    (cellsL L).length = 4 * 5 ∧ (∀ W, Below w.heap.size w W → ∀ j u, (cellsL L)[j]? = some u → W.cell? ((⟨g, 0, none⟩ : Addr).add j) = some u) ∧ ∀ u ∈ cellsL L, u.oneCell' = true := by
  refine ⟨by rw [cellsL_len, hl], fun W d j u hj => ?_, fun u hu => cellsL_one h.own u hu⟩
  rw [addr_add, Nat.zero_add]
  have h1 := tl_cells h hl j u hj
  exact (d.cell (p := ⟨g, j, none⟩) (World.block_lt_of_cell? w _ h1)).trans h1
theorem tl_drop {B g ln cap k : Nat} {L : List TRec} {w : World} (h : TList B L (.slice (some ⟨g, 0, none⟩) ln cap) w) (hl : L.length = ln) (hk : k + 1 ≤ ln) :
    (cellsL (L.drop (k + 1))).length = (ln - (k + 1)) * 5 ∧ (∀ W, Below w.heap.size w W → ∀ j u, (cellsL (L.drop (k + 1)))[j]? = some u → W.cell? ((⟨g, (k + 1) * 5, none⟩ : Addr).add j) = some u) ∧ ∀ u ∈ cellsL (L.drop (k + 1)), u.oneCell' = true := by
  refine ⟨by rw [cellsL_len, List.length_drop, hl], fun W d j u hj => ?_, fun u hu => ?_⟩
  · rw [addr_add]
    have h1 := tl_cells h hl _ u (cellsL_drop L (k + 1) j (by omega) u hj)
    exact (d.cell (p := ⟨g, (k + 1) * 5 + j, none⟩) (World.block_lt_of_cell? w _ h1)).trans h1
  · exact cellsL_one (B := B) (W := w) (fun t ht => h.own t (List.mem_of_mem_drop ht)) u hu
theorem tl_end {g ln k : Nat} {L : List TRec} {w : World} (hl : L.length = ln) (hk : ln ≤ k + 1) :
    (cellsL (L.drop (k + 1))).length = (ln - (k + 1)) * 5 ∧ (∀ W, Below w.heap.size w W → ∀ j u, (cellsL (L.drop (k + 1)))[j]? = some u → W.cell? ((⟨g, 0, none⟩ : Addr).add j) = some u) ∧ ∀ u ∈ cellsL (L.drop (k + 1)), u.oneCell' = true := by
  have e : L.drop (k + 1) = [] := List.drop_of_length_le (by omega)
  rw [e]
  exact ⟨by show 0 = _; omega, fun W d j u hj => by simp [cellsL] at hj, fun u hu => by simp [cellsL] at hu⟩
theorem tl_cat {w w5 w8 : World} {g g4 ln cap cap4 k : Nat} {L L4 : List TRec} {v3 : Value} (h : TList w.heap.size L (.slice (some ⟨g, 0, none⟩) ln cap) w5) (h4 : TList w.heap.size L4 (.slice (some ⟨g4, 0, none⟩) 4 cap4) w5) (d : Below w5.heap.size w5 w8) (hl : L.length = ln) (hl4 : L4.length = 4) (hk : k + 1 ≤ ln) (hw : w.heap.size ≤ w5.heap.size)
    (ho : w8.ownsRow w5.heap.size 37 5 v3 (0 + k + 4 + (ln - (k + 1))) ((([] ++ cellsL (L.take k)) ++ cellsL L4) ++ cellsL (L.drop (k + 1)))) : TList w.heap.size (L.take k ++ L4 ++ L.drop (k + 1)) v3 w8 := by
  refine ⟨?_, fun t ht => ?_⟩
  · have e1 : (L.take k ++ L4 ++ L.drop (k + 1)).length = 0 + k + 4 + (ln - (k + 1)) := by
      rw [List.length_append, List.length_append, List.length_take, List.length_drop, hl4, hl, Nat.min_eq_left (by omega)]; omega
    rw [e1, cellsL_append, cellsL_append]
    exact ownsRow_mono ho hw
  · rcases List.mem_append.1 ht with ht | ht
    · rcases List.mem_append.1 ht with ht | ht
      · exact (h.own t (List.mem_of_mem_take ht)).step d
      · exact (h4.own t ht).step d
    · exact (h.own t (List.mem_of_mem_drop ht)).step d
theorem st_cells {w : World} {B g ln cap : Nat} {e : TypeId} {xs : List Value} (h : w.ownsRow B e 1 (.slice (some ⟨g, 0, none⟩) ln cap) ln xs) (j : Nat) (u : Value) (hj : xs[j]? = some u) : w.cell? ⟨g, j, none⟩ = some u := by
  have hlt := (List.getElem?_eq_some_iff.1 hj).1
  have hl := h.1
  rw [h.cellAt j (by omega)]
  exact hj
theorem st_take {w : World} {B g ln cap k : Nat} {e : TypeId} {xs : List Value} (h : w.ownsRow B e 1 (.slice (some ⟨g, 0, none⟩) ln cap) ln xs) (hk : k ≤ ln) (ho : ∀ u ∈ xs, u.oneCell' = true) :
    (xs.take k).length = k * 1 ∧ (∀ W, Below w.heap.size w W → ∀ j u, (xs.take k)[j]? = some u → W.cell? ((⟨g, 0, none⟩ : Addr).add j) = some u) ∧ ∀ u ∈ xs.take k, u.oneCell' = true := by
  have hl := h.1
  refine ⟨by rw [List.length_take, Nat.min_eq_left (by omega), Nat.mul_one], fun W d j u hj => ?_, fun u hu => ho u (List.mem_of_mem_take hu)⟩
  rw [addr_add, Nat.zero_add]
  have hjk : j < k := by have := (List.getElem?_eq_some_iff.1 hj).1; rw [List.length_take] at this; omega
  rw [List.getElem?_take_of_lt hjk] at hj
  have h1 := st_cells h j u hj
  exact (d.cell (p := ⟨g, j, none⟩) (World.block_lt_of_cell? w _ h1)).trans h1
theorem st_drop {w : World} {B g ln cap k : Nat} {e : TypeId} {xs : List Value} (h : w.ownsRow B e 1 (.slice (some ⟨g, 0, none⟩) ln cap) ln xs) (hk : k + 1 ≤ ln) (ho : ∀ u ∈ xs, u.oneCell' = true) :
    (xs.drop (k + 1)).length = (ln - (k + 1)) * 1 ∧ (∀ W, Below w.heap.size w W → ∀ j u, (xs.drop (k + 1))[j]? = some u → W.cell? ((⟨g, k + 1, none⟩ : Addr).add j) = some u) ∧ ∀ u ∈ xs.drop (k + 1), u.oneCell' = true := by
  have hl := h.1
  refine ⟨by rw [List.length_drop]; omega, fun W d j u hj => ?_, fun u hu => ho u (List.mem_of_mem_drop hu)⟩
  rw [addr_add]
  rw [List.getElem?_drop] at hj
  have h1 := st_cells h _ u hj
  exact (d.cell (p := ⟨g, k + 1 + j, none⟩) (World.block_lt_of_cell? w _ h1)).trans h1
theorem st_end {w : World} {g ln k : Nat} {xs : List Value} (hl : xs.length = ln) (hk : ln ≤ k + 1) :
    (xs.drop (k + 1)).length = (ln - (k + 1)) * 1 ∧ (∀ W, Below w.heap.size w W → ∀ j u, (xs.drop (k + 1))[j]? = some u → W.cell? ((⟨g, 0, none⟩ : Addr).add j) = some u) ∧ ∀ u ∈ xs.drop (k + 1), u.oneCell' = true := by
  have e : xs.drop (k + 1) = [] := List.drop_of_length_le (by omega)
  rw [e]
  exact ⟨by show 0 = _; omega, fun W d j u hj => by simp at hj, fun u hu => by simp at hu⟩
theorem st_four {w0 w : World} {nb : Nat} {T : TypeId} {s0 s1 s2 s3 : ByteArray} (h : Box w0 nb #[.string s0, .string s1, .string s2, .string s3] T w) :
    ([.string s0, .string s1, .string s2, .string s3] : List Value).length = 4 * 1 ∧ (∀ W, Below w.heap.size w W → ∀ j u, ([.string s0, .string s1, .string s2, .string s3] : List Value)[j]? = some u → W.cell? ((⟨nb, 0, none⟩ : Addr).add j) = some u) ∧ ∀ u ∈ ([.string s0, .string s1, .string s2, .string s3] : List Value), u.oneCell' = true := by
  refine ⟨rfl, fun W d j u hj => ?_, fun u hu => ?_⟩
  · rw [addr_add, Nat.zero_add]
    exact (h.step d).cell j u (by rw [← Array.getElem?_toList]; exact hj)
  · simp only [List.mem_cons, List.not_mem_nil, or_false] at hu
    rcases hu with rfl | rfl | rfl | rfl <;> rfl
theorem strs_one (P : List ByteArray) : ∀ u ∈ P.map Value.string, u.oneCell' = true := by
  intro u hu
  obtain ⟨s, -, rfl⟩ := List.mem_map.1 hu
  rfl
theorem ownsRow_box5 {w W : World} {base n rb : Nat} {e T : TypeId} {v : Value} {xs : List Value} {v0 v1 v2 v3 v4 : Value} (h : W.ownsRow base e 1 v n xs) (R : Box w rb #[v0, v1, v2, v3, v4] T W) (hr : w.heap.size ≤ rb) (hne : e ≠ T) (u0 u1 u2 u3 u4 : Value) :
    (((((W.setCell ⟨rb, 0, none⟩ u0).setCell ⟨rb, 1, none⟩ u1).setCell ⟨rb, 2, none⟩ u2).setCell ⟨rb, 3, none⟩ u3).setCell ⟨rb, 4, none⟩ u4).ownsRow base e 1 v n xs := by
  have b1 := R.set hr 0 u0
  have b2 := b1.set hr 1 u1
  have b3 := b2.set hr 2 u2
  have b4 := b3.set hr 3 u3
  exact ownsRow_set (ownsRow_set (ownsRow_set (ownsRow_set (ownsRow_set h R.blk hne u0) b1.blk hne u1) b2.blk hne u2) b3.blk hne u3) b4.blk hne u4
/-- a plan's result box, its tiles, its paths -/
structure PK (w : World) (m : Nat) (L : List TRec) (P : List ByteArray) (lv pv : Value) (W : World) : Prop where
  R : Box w w.heap.size #[.slice none 0 0, .slice none 0 0, .int .i64 0, .int .i64 0, .int .i64 0] 26 W
  T : TList w.heap.size L lv W
  S : W.ownsRow w.heap.size 9 1 pv L.length (P.map Value.string)
  sz : ∀ s, s ∈ P → s.size ≤ m
  lim : L.length ≤ 1 + 3 * m
  pos : 0 < L.length
theorem PK.plen {w : World} {m : Nat} {L : List TRec} {P : List ByteArray} {lv pv : Value} {W : World} (h : PK w m L P lv pv W) : P.length = L.length := by have := h.S.1; simpa using this
theorem PK.step {w : World} {m : Nat} {L : List TRec} {P : List ByteArray} {lv pv : Value} {W W' : World} (h : PK w m L P lv pv W) (k : Below W.heap.size W W') : PK w m L P lv pv W' :=
  ⟨h.R.step k, h.T.step k, ownsRow_step h.S k, h.sz, h.lim, h.pos⟩
end Go.Proofs.Ytalmhbcmagjheaa
end
