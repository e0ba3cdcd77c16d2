/- FnExactTileRead -/
import Derived.Test.YtidbdokoonikpaaGreatDoorJFnRead
import Derived.Test.YtidbdokoonikpaaGreatDoorJ21
/- FnExactTileRead: the program's TileRead returns what the reference's returns, for all arguments. No condition. -/
namespace Go.Proofs.YtidbdokoonikpaaGreatDoor
open Go.ChangeShapes Go.WideShapes Go.ChangeAt Go.RowKit Flo
attribute [local go_sem] run_store_float run_store_complex

theorem read_own3 {w w' : World} {s : List UInt8} {e : Ending} (h : ReadRes w s e w') {t : TD} (hg : t.Good) (ht : s = t.text) {n : Nat} (hn : t.xs.length = n) :
    ∃ gs cs gm cm, e = .returned (.tuple #[.agg #[.complex .f32 t.cx t.cy, .int .i64 t.d, .int .i64 t.s, .slice (some ⟨gs, 0, none⟩) n cs, .slice (some ⟨gm, 0, none⟩) n cm], .bool true]) ∧ w'.ownsRow w.heap.size 57 1 (.slice (some ⟨gs, 0, none⟩) n cs) n (t.xs.map floV) ∧ w'.ownsRow w.heap.size 3 1 (.slice (some ⟨gm, 0, none⟩) n cm) n (t.ys.map intV) ∧ w.heap.size ≤ gs ∧ w.heap.size ≤ gm ∧ Below w.heap.size w w' := by
  subst hn
  obtain ⟨hb, ⟨hno, -⟩ | ⟨u, smv, mkv, hu, htx, rfl, hM⟩⟩ := h
  · exact absurd ht.symm (hno t hg)
  · obtain rfl : u = t := TD.text_inj hu hg (htx.trans ht)
    obtain ⟨h1, h2, h3, h4, h5, h6, h7⟩ := TD.bd hg
    have hn : 0 < u.xs.length := by
      rw [h4]
      exact Nat.mul_pos (by omega) (by omega)
    obtain ⟨gs, cs, rfl, hgs, hcs⟩ := ownsRow_form hM.S hn
    obtain ⟨gm, cm, rfl, hgm, hcm⟩ := ownsRow_form hM.M hn
    exact ⟨gs, cs, gm, cm, rfl, hM.S, hM.M, hgs, hgm, hb⟩
set_option maxRecDepth 100000 in
set_option maxHeartbeats 4000000 in
theorem FnExactTileRead_walk (w : World) (hV : VarsT w) (tx : ByteArray) (_ : tx.size ≤ maxLen) :
    Calls Tryz.prog 6 #[.string tx] w fun e w' => e = .returned (.bool true) ∧ Below w.heap.size w w' := by
  by_cases hb : 1048576 < tx.size
  · go_enter Tryz.func6, Tryz.ntmps6
    go_wp2
    go_ret
    exact ⟨rfl, Below.refl _ _⟩
  have HVV := Lib.hid hV
  have C1 := Lib.hid (fun W (k : Below w.heap.size w W) => implRead_any tx (by omega) W (HVV.out.step k))
  have HQ := Lib.hid (specRead_any tx (by omega) w)
  clear hV
  by_cases hg : ∃ t : TD, t.Good ∧ tx.data.toList = t.text
  · obtain ⟨⟨cx, cy, d, s, xs, ys⟩, hg, ht⟩ := hg
    have HG := Lib.hid (And.intro hg ht)
    obtain ⟨q1, q2, q3, q4, q5, q6, q7⟩ := TD.bd hg
    dsimp only at q1 q2 q3 q4 q5 q6 q7
    obtain ⟨n, hn⟩ : ∃ n, xs.length = n := ⟨_, rfl⟩
    have HN := Lib.hid hn
    have HL := Lib.hid (show n ≤ 64 ∧ ys.length = n by omega)
    have hn64 : n ≤ 64 := HL.out.1
    clear q1 q2 q3 q4 q5 q6 q7 hn hg ht
    go_enter Tryz.func6, Tryz.ntmps6
    go_wp2_with fail
    with_reducible refine HQ.out.mono ?_
    intro e w1 hR
    obtain ⟨gs, cs, gm, cm, rfl, hs, hm, hgs, hgm, hd⟩ := read_own3 hR HG.out.1 HG.out.2 HN.out
    dsimp only at hs hm
    have X := (Box.new w1 #[.complex .f32 cx cy, .int .i64 d, .int .i64 s, .slice (some ⟨gs, 0, none⟩) n cs, .slice (some ⟨gm, 0, none⟩) n cm] 27).up hd
    have HX := Lib.hid X
    have k := (Below.refl w1.heap.size w1).alloc (Nat.le_refl _) (.cells #[.complex .f32 cx cy, .int .i64 d, .int .i64 s, .slice (some ⟨gs, 0, none⟩) n cs, .slice (some ⟨gm, 0, none⟩) n cm] 27)
    have HS := Lib.hid (ownsRow_step hs k)
    have HM := Lib.hid (ownsRow_step hm k)
    have HGE := Lib.hid (And.intro hgs hgm)
    have HR1 : Hid (gs < w1.heap.size ∧ gm < w1.heap.size ∧ w.heap.size ≤ w1.heap.size) := ⟨own_lt hs, own_lt hm, hd.size⟩
    clear hR hs hm hd X k HQ hgs hgm
    go_wp2_with fail
    with_reducible refine (C1.out _ HX.out.old).mono ?_
    intro e w2 hR
    obtain ⟨gs2, cs2, gm2, cm2, rfl, hs, hm, hgs2, hgm2, hd⟩ := read_own3 hR HG.out.1 HG.out.2 HN.out
    dsimp only at hs hm
    have X3 := HX.out.step hd
    have k := (Below.refl w2.heap.size w2).alloc (Nat.le_refl _) (.cells #[.complex .f32 cx cy, .int .i64 d, .int .i64 s, .slice (some ⟨gs2, 0, none⟩) n cs2, .slice (some ⟨gm2, 0, none⟩) n cm2] 27)
    have HX3 := Lib.hid (X3.alloc (.cells #[.complex .f32 cx cy, .int .i64 d, .int .i64 s, .slice (some ⟨gs2, 0, none⟩) n cs2, .slice (some ⟨gm2, 0, none⟩) n cm2] 27))
    have HY3 := Lib.hid ((Box.new w2 #[.complex .f32 cx cy, .int .i64 d, .int .i64 s, .slice (some ⟨gs2, 0, none⟩) n cs2, .slice (some ⟨gm2, 0, none⟩) n cm2] 27).up X3.old)
    have HS3 := Lib.hid (sl_of_own (ownsRow_step (ownsRow_step HS.out hd) k))
    have HM3 := Lib.hid (sl_of_own (ownsRow_step (ownsRow_step HM.out hd) k))
    have HS4 := Lib.hid (ownsRow_step hs k)
    have HM4 := Lib.hid (ownsRow_step hm k)
    have HAP : Hid (gs2 < w2.heap.size ∧ gm2 < w2.heap.size ∧ w1.heap.size < gs2 ∧ w1.heap.size < gm2 ∧ gs < w1.heap.size ∧ gm < w1.heap.size ∧ w.heap.size ≤ w1.heap.size) := by
      have e1 := own_lt hs
      have e2 := own_lt hm
      rw [World.size_alloc] at hgs2 hgm2
      have e3 := HGE.out
      have e4 := HR1.out
      exact ⟨e1, e2, by omega, by omega, e4.1, e4.2.1, e4.2.2⟩
    clear hR hs hm hd k HX HS HM X3 hgs2 hgm2 HR1
    have CEQ : Hid (∀ (g g' : Nat) (c c' : Nat) W, Sl W (some ⟨g, 0, none⟩) (xs.map floV) → Sl W (some ⟨g', 0, none⟩) (ys.map intV) → Sl W (some ⟨gs, 0, none⟩) (xs.map floV) → Sl W (some ⟨gm, 0, none⟩) (ys.map intV) → Calls Tryz.prog 18 #[.agg #[.complex .f32 cx cy, .int .i64 d, .int .i64 s, .slice (some ⟨g, 0, none⟩) n c, .slice (some ⟨g', 0, none⟩) n c'], .agg #[.complex .f32 cx cy, .int .i64 d, .int .i64 s, .slice (some ⟨gs, 0, none⟩) n cs, .slice (some ⟨gm, 0, none⟩) n cm]] W fun e w' => e = .returned (.bool true) ∧ Below W.heap.size W w') := by
      intro g g' c c' W j1 j2 j3 j4
      obtain ⟨d', A, B, -, -, ha, hb', -⟩ := place_pts HG.out.1.bx HG.out.1.by1 HG.out.1.pl
      have := eqTile_same ha hb' d s (some ⟨g, 0, none⟩) (some ⟨gs, 0, none⟩) (some ⟨g', 0, none⟩) (some ⟨gm, 0, none⟩) c cs c' cm xs ys (by rw [HN.out]; omega) (by rw [HL.out.2]; omega) HG.out.1.hx W j1 j3 j2 j4
      rw [HN.out, HL.out.2] at this
      exact this
    obtain ⟨M, hM⟩ : ∃ M, 1 + n + n = M := ⟨_, rfl⟩
    have CMK : Hid (∀ W, W.ownsRow (w1.heap.size + 1) 57 1 (.slice (some ⟨gs2, 0, none⟩) n cs2) n (xs.map floV) → W.ownsRow (w1.heap.size + 1) 3 1 (.slice (some ⟨gm2, 0, none⟩) n cm2) n (ys.map intV) → Calls Tryz.prog 19 #[.agg #[.complex .f32 cx cy, .int .i64 d, .int .i64 s, .slice (some ⟨gs2, 0, none⟩) n cs2, .slice (some ⟨gm2, 0, none⟩) n cm2], .int .i64 1] W fun e w' => e = .returned (.int .i64 M) ∧ w'.ownsRow (w1.heap.size + 1) 57 1 (.slice (some ⟨gs2, 0, none⟩) n cs2) n (marks markF 1 n) ∧ w'.ownsRow (w1.heap.size + 1) 3 1 (.slice (some ⟨gm2, 0, none⟩) n cm2) n (marks markI (1 + n) n) ∧ Only2 gs2 gm2 W w') := by
      intro W j1 j2
      have := markTile_own (w1.heap.size + 1) gs2 gm2 n cs2 cm2 cx cy d s _ _ (by omega) W j1 j2
      rw [hM] at this
      exact this
    have CHD : Hid (∀ W, W.ownsRow (w1.heap.size + 1) 57 1 (.slice (some ⟨gs2, 0, none⟩) n cs2) n (marks markF 1 n) → W.ownsRow (w1.heap.size + 1) 3 1 (.slice (some ⟨gm2, 0, none⟩) n cm2) n (marks markI (1 + n) n) → Calls Tryz.prog 20 #[.agg #[.complex .f32 cx cy, .int .i64 d, .int .i64 s, .slice (some ⟨gs2, 0, none⟩) n cs2, .slice (some ⟨gm2, 0, none⟩) n cm2], .int .i64 1] W fun e w' => e = .returned (.int .i64 M) ∧ Below W.heap.size W w') := by
      intro W j1 j2
      have := heldTile_own (w1.heap.size + 1) gs2 gm2 n cs2 cm2 cx cy d s (by omega) W j1 j2
      rw [hM] at this
      exact this
    have hM2 : M ≤ 2000 := by omega
    have hMM : ((M : Int) != (M : Int)) = false := by simp
    rw [World.size_alloc] at HS4 HM4
    have CE3 := Lib.hid (CEQ.out gs2 gm2 cs2 cm2 _ (sl_of_own HS4.out) (sl_of_own HM4.out) HS3.out HM3.out)
    clear hM
    obtain ⟨r0, r1, r2, r3, r4⟩ := HX3.out.cells5
    obtain ⟨z0, z1, z2, z3, z4⟩ := HY3.out.cells5
    go_wp2_with fail
    with_reducible refine CE3.out.mono ?_
    rintro e w3 ⟨rfl, hd⟩
    have HX4 := Lib.hid (HX3.out.step hd)
    have HY4 := Lib.hid (HY3.out.step hd)
    have HS5 := Lib.hid (HS3.out.step hd)
    have HM5 := Lib.hid (HM3.out.step hd)
    have CM4 := Lib.hid (CMK.out _ (ownsRow_step HS4.out hd) (ownsRow_step HM4.out hd))
    clear hd HX3 HY3 HS3 HM3 HS4 HM4 CE3 CMK r0 r1 r2 r3 r4 z0 z1 z2 z3 z4
    obtain ⟨r0, r1, r2, r3, r4⟩ := HX4.out.cells5
    obtain ⟨z0, z1, z2, z3, z4⟩ := HY4.out.cells5
    go_wp2_with fail
    with_reducible refine CM4.out.mono ?_
    rintro e w4 ⟨rfl, hs, hm, ho⟩
    obtain ⟨a1, a2, a3, a4, a5, a6, a7⟩ := HAP.out
    have HX5 := Lib.hid (HX4.out.only2 ho (by omega) (by omega) (by omega) (by omega))
    have HY5 := Lib.hid (HY4.out.only2 ho (by omega) (by omega) (by omega) (by omega))
    have HS6 := Lib.hid (HS5.out.only2 ho (by omega) (by omega))
    have HM6 := Lib.hid (HM5.out.only2 ho (by omega) (by omega))
    have HS7 := Lib.hid hs
    have HM7 := Lib.hid hm
    clear hs hm ho HX4 HY4 HS5 HM5 CM4 a1 a2 a3 a4 a5 a6 a7 HAP r0 r1 r2 r3 r4 z0 z1 z2 z3 z4
    obtain ⟨r0, r1, r2, r3, r4⟩ := HX5.out.cells5
    obtain ⟨z0, z1, z2, z3, z4⟩ := HY5.out.cells5
    have CH5 := Lib.hid (CHD.out _ HS7.out HM7.out)
    go_wp2_with fail
    with_reducible refine CH5.out.mono ?_
    rintro e w5 ⟨rfl, hd⟩
    have HX6 := Lib.hid (HX5.out.step hd)
    have HY6 := Lib.hid (HY5.out.step hd)
    have HS8 := Lib.hid (HS6.out.step hd)
    have HM8 := Lib.hid (HM6.out.step hd)
    have HS9 := Lib.hid (ownsRow_step HS7.out hd)
    have HM9 := Lib.hid (ownsRow_step HM7.out hd)
    clear hd HX5 HY5 HS6 HM6 HS7 HM7 CH5 r0 r1 r2 r3 r4 z0 z1 z2 z3 z4
    obtain ⟨r0, r1, r2, r3, r4⟩ := HX6.out.cells5
    obtain ⟨z0, z1, z2, z3, z4⟩ := HY6.out.cells5
    go_wp2_with fail
    with_reducible refine (C1.out _ HX6.out.old).mono ?_
    intro e w6 hR
    obtain ⟨gs3, cs3, gm3, cm3, rfl, hs, hm, -, -, hd⟩ := read_own3 hR HG.out.1 HG.out.2 HN.out
    dsimp only at hs hm
    have k := (Below.refl w6.heap.size w6).alloc (Nat.le_refl _) (.cells #[.complex .f32 cx cy, .int .i64 d, .int .i64 s, .slice (some ⟨gs3, 0, none⟩) n cs3, .slice (some ⟨gm3, 0, none⟩) n cm3] 27)
    have X7 := HX6.out.step hd
    have HZ7 := Lib.hid ((Box.new w6 #[.complex .f32 cx cy, .int .i64 d, .int .i64 s, .slice (some ⟨gs3, 0, none⟩) n cs3, .slice (some ⟨gm3, 0, none⟩) n cm3] 27).up X7.old)
    have HX7 := Lib.hid (X7.alloc (.cells #[.complex .f32 cx cy, .int .i64 d, .int .i64 s, .slice (some ⟨gs3, 0, none⟩) n cs3, .slice (some ⟨gm3, 0, none⟩) n cm3] 27))
    have HY7 := Lib.hid ((HY6.out.step hd).alloc (.cells #[.complex .f32 cx cy, .int .i64 d, .int .i64 s, .slice (some ⟨gs3, 0, none⟩) n cs3, .slice (some ⟨gm3, 0, none⟩) n cm3] 27))
    have CE7 := Lib.hid (CEQ.out gs3 gm3 cs3 cm3 _ (sl_of_own (ownsRow_step hs k)) (sl_of_own (ownsRow_step hm k)) ((HS8.out.step hd).step k) ((HM8.out.step hd).step k))
    have HS10 := Lib.hid (ownsRow_step (ownsRow_step HS9.out hd) k)
    have HM10 := Lib.hid (ownsRow_step (ownsRow_step HM9.out hd) k)
    clear hR hs hm hd k HX6 HY6 HS8 HM8 HS9 HM9 X7 CEQ r0 r1 r2 r3 r4 z0 z1 z2 z3 z4
    obtain ⟨r0, r1, r2, r3, r4⟩ := HX7.out.cells5
    obtain ⟨z0, z1, z2, z3, z4⟩ := HZ7.out.cells5
    go_wp2_with fail
    with_reducible refine CE7.out.mono ?_
    rintro e w7 ⟨rfl, hd⟩
    have HY8 := Lib.hid (HY7.out.step hd)
    have CH8 := Lib.hid (CHD.out _ (ownsRow_step HS10.out hd) (ownsRow_step HM10.out hd))
    clear hd HX7 HY7 HZ7 HS10 HM10 CE7 r0 r1 r2 r3 r4 z0 z1 z2 z3 z4
    obtain ⟨z0, z1, z2, z3, z4⟩ := HY8.out.cells5
    go_wp2_with fail
    with_reducible refine CH8.out.mono ?_
    rintro e w8 ⟨rfl, hd⟩
    have HB := Lib.hid (HY8.out.step hd).old
    clear hd HY8 CH8 z0 z1 z2 z3 z4
    go_wp2
    go_ret
    exact ⟨rfl, HB.out⟩
  · have HNO := Lib.hid (fun (t : TD) (h : t.Good) (e : t.text = tx.data.toList) => hg ⟨t, h, e.symm⟩)
    clear hg
    have CE : Hid (∀ W, Calls Tryz.prog 18 #[.agg #[.complex .f32 0 0, .int .i64 0, .int .i64 0, .slice none 0 0, .slice none 0 0], .agg #[.complex .f32 0 0, .int .i64 0, .int .i64 0, .slice none 0 0, .slice none 0 0]] W fun e w' => e = .returned (.bool true) ∧ Below W.heap.size W w') := fun W => eqTile_same zero_v zero_v 0 0 none none none none 0 0 0 0 [] [] (by simp) (by simp) (fun x hx => by cases hx) W (Sl.nil _ _) (Sl.nil _ _) (Sl.nil _ _) (Sl.nil _ _)
    go_enter Tryz.func6, Tryz.ntmps6
    go_wp2_with fail
    with_reducible refine HQ.out.mono ?_
    intro e w1 hR
    obtain ⟨rfl, hd⟩ := read_none hR (fun t h e => HNO.out t h e)
    have HX := Lib.hid ((Box.new w1 #[.complex .f32 0 0, .int .i64 0, .int .i64 0, .slice none 0 0, .slice none 0 0] 27).up hd)
    clear hR hd HQ
    go_wp2_with fail
    with_reducible refine (C1.out _ HX.out.old).mono ?_
    intro e w2 hR
    obtain ⟨rfl, hd⟩ := read_none hR (fun t h e => HNO.out t h e)
    have X2 := HX.out.step hd
    have HX2 := Lib.hid (X2.alloc (.cells #[.complex .f32 0 0, .int .i64 0, .int .i64 0, .slice none 0 0, .slice none 0 0] 27))
    have HY2 := Lib.hid ((Box.new w2 #[.complex .f32 0 0, .int .i64 0, .int .i64 0, .slice none 0 0, .slice none 0 0] 27).up X2.old)
    clear hR hd HX X2
    obtain ⟨r0, r1, r2, r3, r4⟩ := HX2.out.cells5
    obtain ⟨z0, z1, z2, z3, z4⟩ := HY2.out.cells5
    go_wp2_with fail
    with_reducible refine (CE.out _).mono ?_
    rintro e w3 ⟨rfl, hd⟩
    have HX3 := Lib.hid (HX2.out.step hd)
    have HY3 := Lib.hid (HY2.out.step hd)
    clear hd HX2 HY2 r0 r1 r2 r3 r4 z0 z1 z2 z3 z4
    obtain ⟨r0, r1, r2, r3, r4⟩ := HX3.out.cells5
    obtain ⟨z0, z1, z2, z3, z4⟩ := HY3.out.cells5
    go_wp2_with fail
    with_reducible refine (markTile_nil _).mono ?_
    rintro e w4 ⟨rfl, hd⟩
    have HX4 := Lib.hid (HX3.out.step hd)
    have HY4 := Lib.hid (HY3.out.step hd)
    clear hd HX3 HY3 r0 r1 r2 r3 r4 z0 z1 z2 z3 z4
    obtain ⟨r0, r1, r2, r3, r4⟩ := HX4.out.cells5
    obtain ⟨z0, z1, z2, z3, z4⟩ := HY4.out.cells5
    go_wp2_with fail
    with_reducible refine (heldTile_nil _).mono ?_
    rintro e w5 ⟨rfl, hd⟩
    have HX5 := Lib.hid (HX4.out.step hd)
    have HY5 := Lib.hid (HY4.out.step hd)
    clear hd HX4 HY4 r0 r1 r2 r3 r4 z0 z1 z2 z3 z4
    go_wp2_with fail
    with_reducible refine (C1.out _ HX5.out.old).mono ?_
    intro e w6 hR
    obtain ⟨rfl, hd⟩ := read_none hR (fun t h e => HNO.out t h e)
    have X6 := HX5.out.step hd
    have Y6 := HY5.out.step hd
    have HX6 := Lib.hid (X6.alloc (.cells #[.complex .f32 0 0, .int .i64 0, .int .i64 0, .slice none 0 0, .slice none 0 0] 27))
    have HY6 := Lib.hid (Y6.alloc (.cells #[.complex .f32 0 0, .int .i64 0, .int .i64 0, .slice none 0 0, .slice none 0 0] 27))
    have HZ6 := Lib.hid ((Box.new w6 #[.complex .f32 0 0, .int .i64 0, .int .i64 0, .slice none 0 0, .slice none 0 0] 27).up X6.old)
    clear hR hd HX5 HY5 X6 Y6
    obtain ⟨r0, r1, r2, r3, r4⟩ := HX6.out.cells5
    obtain ⟨z0, z1, z2, z3, z4⟩ := HZ6.out.cells5
    go_wp2_with fail
    with_reducible refine (CE.out _).mono ?_
    rintro e w7 ⟨rfl, hd⟩
    have HX7 := Lib.hid (HX6.out.step hd)
    have HY7 := Lib.hid (HY6.out.step hd)
    clear hd HX6 HY6 HZ6 r0 r1 r2 r3 r4 z0 z1 z2 z3 z4
    obtain ⟨z0, z1, z2, z3, z4⟩ := HY7.out.cells5
    go_wp2_with fail
    with_reducible refine (heldTile_nil _).mono ?_
    rintro e w8 ⟨rfl, hd⟩
    have HB := Lib.hid (HX7.out.step hd).old
    clear hd HX7 HY7 z0 z1 z2 z3 z4
    go_wp2
    go_ret
    exact ⟨rfl, HB.out⟩
set_option maxRecDepth 100000 in
theorem FnExactTileRead_contract (H : Type) (enc : TypeId × Value → H) (W : World) (base : Nat) (args : Array Value) (ds gs : List (DataW H)) (before : List MemPlace)
    (hval : ∀ (j : Nat) t v, Tryz.f6.params[j]? = some t → args[j]? = some v → Value.okWide Tryz.prog W .any base t v)
    (hW : DataW.Whole enc Tryz.prog Tryz.f6.params.toList Rows.fnExactTileReadSpec.vars false W args.toList ds gs before) (hL : laidMetH Tryz.prog Rows.fnExactTileReadRow.laid W) (hsh : W.ShapedOpen Tryz.prog) :
    Calls Tryz.prog 6 args W fun e W' => ∃ v, e = .returned v ∧ Rows.fnExactTileReadSpec.post enc Tryz.prog Tryz.f6 false true false false W args v W' := by
  have hW' := hW
  obtain ⟨p, q, hA0, hV, rfl, _, _⟩ := hW
  have hA : DataW.TrodAll enc Tryz.prog W 0 (fun _ => true) true Tryz.f6.params.toList args.toList ds p := hA0
  rw [Tryz.params6] at hA hval
  obtain ⟨v0, vs0, d0, ds0, p0, q0, hargs, rfl, rfl, h0, r0⟩ := trodAll_cons hA
  obtain ⟨rfl, rfl, rfl⟩ := trodAll_nil r0
  obtain rfl : args = #[v0] := by cases args; simp_all
  obtain ⟨rfl, rfl⟩ := trodVars_none hV
  obtain ⟨x0, rfl, rfl, rfl, w0⟩ := Go.ChangeMaps.open_string Tryz.underlying9 (hval 0 9 v0 rfl rfl) h0
  clear hA0
  refine (FnExactTileRead_walk W (varsT_of hL hsh) x0 w0).mono fun e W' ⟨he, hb⟩ => ⟨_, he, ?_⟩
  exact law_post laidOut (by kernel_rfl) (by kernel_rfl) rfl Tryz.underlying4 hW' rfl rfl rfl hb
set_option maxRecDepth 100000 in
theorem FnExactTileRead_reads (os : Os) {H : Type} (enc : TypeId × Value → H) : ∃ places, DataW.whole enc Tryz.prog ((laidWorldV os).forCall (fun _ _ => 0) ⟨#[], #[.string ByteArray.empty], []⟩).memory Tryz.f6.params.toList Rows.fnExactTileReadSpec.vars false #[(.string ByteArray.empty : Value)].toList 8 = some ([.lit (.string [])], [], places) :=
  ⟨[], by kernel_rfl⟩
set_option maxRecDepth 100000 in
theorem FnExactTileRead_lifted (os : Os) (started : os.Started) (H : Type) (enc : TypeId × Value → H) (F : Stop.Interp) :
    ReturnsInHanded {} Tryz.checked os 6 .any ((OpenSpec.ofChange Rows.fnExactTileReadSpec).preRow enc Tryz.prog Tryz.f6 Rows.fnExactTileReadRow.domain false Rows.fnExactTileReadRow.laid) (((OpenSpec.ofChange Rows.fnExactTileReadSpec).at F).post enc Tryz.prog Tryz.f6 false true false false) := by
  obtain ⟨places, hx⟩ := FnExactTileRead_reads os enc
  refine returnsInHanded_of_row (C := Tryz.checked) (s := OpenSpec.ofChange Rows.fnExactTileReadSpec) own started (by kernel_rfl) Tryz.func6
    (witness_row_at (enc := enc) (C := Tryz.checked) false (laidWorldV os) #[.string ByteArray.empty] rfl (by kernel_rfl) (by kernel_rfl) (by kernel_rfl)
      (OpenSpec.preRow_of_cond 8 hx (by kernel_rfl) (fun k hk => by cases hk) (by kernel_rfl) (laid_metV os _))) ?_
  intro W base args ds gs before hval hW _ _ _ hL hsh _
  exact FnExactTileRead_contract H enc W base args ds gs before hval hW hL hsh
set_option maxRecDepth 100000 in
theorem FnExactTileRead_said : Rows.FnExactTileReadSaid :=
  OpenClaim.holds_of_cond 6 Tryz.f6 rfl rfl rfl rfl rfl rfl rfl ⟨rfl, rfl, rfl, rfl, rfl⟩ rfl rfl rfl rfl rfl (by kernel_rfl) Tryz.func6 (by kernel_rfl)
    (of_decide_eq_true (by kernel_rfl)) (by unfold Func.isWrapper; first | (rw [if_pos (by decide +kernel)]; kernel_rfl) | (rw [if_neg (by decide +kernel)]; exact ⟨rfl, rfl⟩))
    (fun os started H enc _ F => by rw [OpenClaim.pre_eq_preRow]; exact FnExactTileRead_lifted os started H enc F)
set_option maxRecDepth 100000 in
theorem FnExactTileRead_plain (f : FuncId) (fn : Func) (hf : Tryz.pinned.checked.prog.funcNamed "loop.example/quadraticorbits/laws.FnExactTileRead" = some f) (hfn : Tryz.pinned.checked.prog.funcs[f]? = some fn) :
    true = Tryz.pinned.checked.prog.looks [] ∧ ∀ (j : Nat) t, fn.params[j]? = some t → Tryz.pinned.checked.prog.wantsStandIn t = false := by
  obtain rfl : f = 6 := Option.some.inj ((show Tryz.prog.funcNamed "loop.example/quadraticorbits/laws.FnExactTileRead" = some 6 by kernel_rfl).symm.trans hf) |>.symm
  obtain rfl : fn = Tryz.f6 := (Option.some.inj (Tryz.func6.symm.trans hfn)).symm
  refine ⟨by kernel_rfl, fun j t ht => ?_⟩
  rw [Tryz.params6] at ht
  obtain rfl : t = 9 := by simpa using Array.mem_of_getElem? ht
  exact (show Tryz.prog.wantsStandIn 9 = false by kernel_rfl)

set_option maxRecDepth 100000 in
theorem FnExactTileRead_holds : Rows.FnExactTileReadCardSaid :=
  Claim7.holds_tied_plain_at .later [] _ _ _ _ FnExactTileRead_said (fun _ h => by cases h) (by kernel_rfl) (fun _ h => by cases h) fnExactTileRead_row_tie rfl ⟨rfl, rfl⟩ (by kernel_rfl) rfl FnExactTileRead_plain (by kernel_rfl)
end Go.Proofs.YtidbdokoonikpaaGreatDoor
