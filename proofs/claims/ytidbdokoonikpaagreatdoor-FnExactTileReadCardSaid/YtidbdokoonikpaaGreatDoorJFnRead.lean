/- FnRead -/
import Derived.Test.YtidbdokoonikpaaGreatDoorJFnText
import Derived.Test.YtidbdokoonikpaaGreatDoorJ19
/- FnRead: what is read has its text. No condition. -/
namespace Go.Proofs.YtidbdokoonikpaaGreatDoor
open Go.ChangeShapes Go.WideShapes Go.ChangeAt Go.RowKit Flo
attribute [local go_sem] run_store_float run_store_complex

theorem text_end (t : TD) : ∃ P n, t.text = P ++ 32 :: wordL n := ⟨_, _, by unfold TD.text textT; rw [List.append_assoc]; rfl⟩
/-- a text that lacks its last letter is no text -/
theorem text_cut {t u : TD} (h : u.text = t.text.take (t.text.length - 1)) : False := by
  obtain ⟨P, n, hP⟩ := text_end t
  obtain ⟨Q, m, hQ⟩ := text_end u
  rw [← List.dropLast_eq_take, hP, hQ, List.dropLast_append_of_ne_nil (by simp)] at h
  have hn := wordL_length n
  have hm := wordL_length m
  have e := congrArg List.reverse h
  rw [List.reverse_append, List.reverse_append] at e
  have e7 := congrArg (fun l => l[7]?) e
  have hl : (32 :: wordL n).dropLast = 32 :: (wordL n).dropLast := by
    cases hw : wordL n with
    | nil => rw [hw] at hn; cases hn
    | cons a b => rfl
  rw [hl] at e7
  simp only [List.reverse_cons, List.append_assoc] at e7
  rw [List.getElem?_append_left (by simp; omega), List.getElem?_append_right (by simp; omega)] at e7
  simp only [List.length_reverse, List.length_dropLast, hn] at e7
  rw [List.getElem?_reverse (by omega), hm] at e7
  have h32 : (wordL m)[8 - 1 - 7]? = some 32 := by simpa using e7
  exact wordL_ne m 32 (List.mem_of_getElem? h32) rfl
theorem read_own2 {w w' : World} {s : List UInt8} {e : Ending} (h : ReadRes w s e w') {t : TD} (hg : t.Good) (ht : s = t.text) :
    ∃ gs cs gm cm, e = .returned (.tuple #[.agg #[.complex .f32 t.cx t.cy, .int .i64 t.d, .int .i64 t.s, .slice (some ⟨gs, 0, none⟩) t.xs.length cs, .slice (some ⟨gm, 0, none⟩) t.ys.length cm], .bool true]) ∧ TileV w.heap.size (some ⟨gs, 0, none⟩) cs (some ⟨gm, 0, none⟩) cm t.cx t.cy t.d t.s t.xs t.ys w' ∧ Below w.heap.size w w' := by
  obtain ⟨hb, ⟨hno, -⟩ | ⟨u, smv, mkv, hu, htx, rfl, hM⟩⟩ := h
  · exact absurd ht.symm (hno t hg)
  · obtain rfl : u = t := TD.text_inj hu hg (htx.trans ht)
    obtain ⟨h1, h2, h3, h4, h5, h6, h7⟩ := TD.bd hg
    have hn : 0 < u.xs.length := by
      rw [h4]
      exact Nat.mul_pos (by omega) (by omega)
    obtain ⟨gs, cs, rfl, hgs, hcs⟩ := ownsRow_form hM.S hn
    obtain ⟨gm, cm, rfl, hgm, hcm⟩ := ownsRow_form hM.M hn
    refine ⟨gs, cs, gm, cm, ?_, ⟨sl_of_own hM.S, sl_of_own hM.M, hcs, by omega, fun g o s e => ?_, fun g o s e => ?_, hg.hx, fun y hy => by have := h6 y hy; omega, hg.bx, hg.by1, hg.pl, ?_, .inl h5.symm⟩, hb⟩
    · rw [h5]
      rfl
    · injection e with e; injection e with e1; omega
    · injection e with e; injection e with e1; omega
    · rw [h5, h4, Int.toNat_natCast]
theorem read_none {w w' : World} {s : List UInt8} {e : Ending} (h : ReadRes w s e w') (hno : ∀ t : TD, t.Good → t.text ≠ s) :
    e = .returned (.tuple #[.agg #[.complex .f32 0 0, .int .i64 0, .int .i64 0, .slice none 0 0, .slice none 0 0], .bool false]) ∧ Below w.heap.size w w' := by
  obtain ⟨hb, ⟨-, he⟩ | ⟨u, smv, mkv, hu, htx, rfl, hM⟩⟩ := h
  · exact ⟨he, hb⟩
  · exact absurd htx (hno u hu)
theorem zero_v : Val Ieee.single 0 (0 * (2 ^ u32 : Nat)) := by
  have := ofInt_val (k := .f32) least32 0 (by show _ < 2 * Ieee.single.binade; rw [single_binade]; omega) (by show (u32 + 2) * Ieee.single.binade ≤ Ieee.single.infRung; rw [u32_eq]; decide)
  have e : floatOfInt .f32 0 = 0 := by kernel_rfl
  rw [e] at this
  exact this
theorem drawTileRead_any (a : Option Addr) (c : Nat) (bs : List UInt8) (hn : bs.length ≤ 1048576) (hc : bs.length ≤ c) (w : World) (hs : Sl w a (bs.map byteV)) :
    Calls Tryz.prog 12 #[.slice a bs.length c] w fun e w' => (∃ s : ByteArray, e = .returned (.string s) ∧ s.size ≤ 2000) ∧ Below w.heap.size w w' := by
  have H := Lib.hid (open_any a c bs hn hc _ hs)
  clear hs
  go_enter Tryz.func12, Tryz.ntmps12
  go_wp2_with fail
  refine H.out.mono ?_
  rintro e w1 ⟨b, rfl, -, hR⟩
  have HR := Lib.hid hR
  clear hR H
  go_wp2_with fail
  refine (l92Text_any _ b 0 (by omega) _ HR.out).mono ?_
  rintro e w2 ⟨⟨s, rfl, hs⟩, ⟨p', -, hd⟩, -⟩
  have HD := Lib.hid hd.below
  clear hd HR
  go_wp2
  go_ret
  exact ⟨⟨_, rfl, hs⟩, HD.out⟩
set_option maxRecDepth 100000 in
set_option maxHeartbeats 4000000 in
theorem FnRead_walk (w : World) (hV : VarsT w) (a : Option Addr) (c : Nat) (bs : List UInt8) (_ : bs.length ≤ maxLen) (hc : bs.length ≤ c) (hs : Sl w a (bs.map byteV)) :
    Calls Tryz.prog 4 #[.slice a bs.length c] w fun e w' => e = .returned (.bool true) ∧ Below w.heap.size w w' := by
  by_cases hb : 1048576 < bs.length
  · go_enter Tryz.func4, Tryz.ntmps4
    go_wp2
    go_ret
    exact ⟨rfl, Below.refl _ _⟩
  have H := Lib.hid (drawTileRead_any a c bs (by omega) hc w hs)
  have HVV := Lib.hid hV
  clear hs hV
  go_enter Tryz.func4, Tryz.ntmps4
  go_wp2_with fail
  refine H.out.mono ?_
  rintro e w1 ⟨⟨tx, rfl, h2⟩, hd⟩
  have HD := Lib.hid hd
  have C1 := Lib.hid (fun W (k : Below w.heap.size w W) => implRead_any tx (by omega) W (HVV.out.step k))
  have C2 := Lib.hid (fun W => specRead_any tx (by omega) W)
  clear H hd
  by_cases hg : ∃ t : TD, t.Good ∧ tx.data.toList = t.text
  · obtain ⟨⟨cx, cy, d, s, xs, ys⟩, hg, ht⟩ := hg
    have HG := Lib.hid (And.intro hg ht)
    clear hg ht
    go_wp2_with fail
    with_reducible refine (C1.out _ HD.out).mono ?_
    intro e w2 hR
    obtain ⟨gs, cs, gm, cm, rfl, T, hd⟩ := read_own2 hR HG.out.1 HG.out.2
    dsimp only at T
    have k := (Below.refl w2.heap.size w2).alloc (Nat.le_refl _) (.cells #[.complex .f32 cx cy, .int .i64 d, .int .i64 s, .slice (some ⟨gs, 0, none⟩) xs.length cs, .slice (some ⟨gm, 0, none⟩) ys.length cm] 27)
    have HX := Lib.hid ((Box.new w2 #[.complex .f32 cx cy, .int .i64 d, .int .i64 s, .slice (some ⟨gs, 0, none⟩) xs.length cs, .slice (some ⟨gm, 0, none⟩) ys.length cm] 27).up (HD.out.trans (hd.mono HD.out.size)))
    have HT := Lib.hid (T.step k)
    clear hR T hd k C1
    go_wp2_with fail
    with_reducible refine (C2.out _).mono ?_
    intro e w3 hR
    obtain ⟨gs2, cs2, gm2, cm2, rfl, T, hd⟩ := read_own2 hR HG.out.1 HG.out.2
    dsimp only at T
    have X3 := HX.out.step hd
    have k := (Below.refl w3.heap.size w3).alloc (Nat.le_refl _) (.cells #[.complex .f32 cx cy, .int .i64 d, .int .i64 s, .slice (some ⟨gs2, 0, none⟩) xs.length cs2, .slice (some ⟨gm2, 0, none⟩) ys.length cm2] 27)
    have HX3 := Lib.hid (X3.alloc (.cells #[.complex .f32 cx cy, .int .i64 d, .int .i64 s, .slice (some ⟨gs2, 0, none⟩) xs.length cs2, .slice (some ⟨gm2, 0, none⟩) ys.length cm2] 27))
    have HY3 := Lib.hid ((Box.new w3 #[.complex .f32 cx cy, .int .i64 d, .int .i64 s, .slice (some ⟨gs2, 0, none⟩) xs.length cs2, .slice (some ⟨gm2, 0, none⟩) ys.length cm2] 27).up X3.old)
    have HT3 := Lib.hid ((HT.out.step hd).step k)
    have HU3 := Lib.hid (T.step k)
    clear hR T hd k C2 HX HT X3
    obtain ⟨q1, q2, q3, q4, q5, q6, q7⟩ := TD.bd HG.out.1
    dsimp only at q5 q7
    have CS := Lib.hid (by
      obtain ⟨d', A, B, -, -, ha, hb', -⟩ := place_pts HT3.out.bx HT3.out.by1 HT3.out.pl
      exact sameTile_same ha hb' d s (some ⟨gs, 0, none⟩) (some ⟨gs2, 0, none⟩) (some ⟨gm, 0, none⟩) (some ⟨gm2, 0, none⟩) cs cs2 cm cm2 xs ys xs.length rfl (by omega) (by omega) HT3.out.hx _ HT3.out.s1 HU3.out.s1 HT3.out.s2 HU3.out.s2)
    have HL := Lib.hid (show xs.length ≤ 64 ∧ ys.length ≤ 64 by omega)
    clear q1 q2 q3 q4 q5 q6 q7 HU3
    obtain ⟨r0, r1, r2, r3, r4⟩ := HX3.out.cells5
    obtain ⟨z0, z1, z2, z3, z4⟩ := HY3.out.cells5
    go_wp2_with fail
    with_reducible refine CS.out.mono ?_
    rintro e w4 ⟨rfl, hd⟩
    have HX4 := Lib.hid (HX3.out.step hd)
    have HT4 := Lib.hid (HT3.out.step hd)
    clear hd HX3 HY3 HT3 CS r0 r1 r2 r3 r4 z0 z1 z2 z3 z4
    obtain ⟨r0, r1, r2, r3, r4⟩ := HX4.out.cells5
    have hwl : wellB s xs.length ys = true := HG.out.1.wl
    have CT := Lib.hid (implText_is HT4.out)
    have htt : ttxt cx cy d s xs ys = tx := by
      have h1 : (ttxt cx cy d s xs ys).data.toList = (⟨cx, cy, d, s, xs, ys⟩ : TD).text := by
        unfold ttxt
        rw [if_pos hwl]
        rfl
      exact ByteArray.ext (Array.toList_inj.1 (h1.trans HG.out.2.symm))
    rw [htt, hwl] at CT
    clear htt
    have CW := Lib.hid (fun W (k : Below w4.heap.size w4 W) => implWell_is cx cy d s HT4.out.bx HT4.out.by1 HT4.out.pl (some ⟨gs, 0, none⟩) (some ⟨gm, 0, none⟩) xs.length cs cm ys (by have := HL.out; omega) W (HT4.out.s2.step k))
    rw [hwl] at CW
    clear hwl
    have hbb : (tx.toList == tx.toList) = true := by simp
    go_wp2_with fail
    with_reducible refine CT.out.mono ?_
    rintro e w5 ⟨rfl, hd⟩
    have HX5 := Lib.hid (HX4.out.step hd)
    have HK5 := Lib.hid hd
    clear hd HX4 HT4 CT r0 r1 r2 r3 r4
    obtain ⟨r0, r1, r2, r3, r4⟩ := HX5.out.cells5
    have h1 : 1 ≤ tx.size := by
      have e := HG.out.2
      obtain ⟨P, n, hP⟩ := text_end ⟨cx, cy, d, s, xs, ys⟩
      rw [hP] at e
      have := congrArg List.length e
      rw [len_eq] at this
      simp at this
      omega
    obtain ⟨n, hn⟩ : ∃ n, tx.size = n := ⟨_, rfl⟩
    have hw1 : IntKind.i64.wrap ((n : Int) - 1) = ((n - 1 : Nat) : Int) := by
      rw [show (n : Int) - 1 = ((n - 1 : Nat) : Int) by omega]
      exact IntWalk.i64_in _ (by omega)
    have hsl : ∀ wx, (Instr.slice 9 (.string tx) none (some (.int .i64 ((n - 1 : Nat) : Int))) none).run Tryz.prog wx = .ok (.string (tx.extract 0 (n - 1))) wx := fun wx => by
      rw [run_slice_string_h (ht := Tryz.underlying9) (h0 := by omega) (h2 := by omega)]
      rfl
    obtain ⟨ty, hty⟩ : ∃ y, tx.extract 0 (n - 1) = y := ⟨_, rfl⟩
    rw [hty] at hsl
    have hyl : ty.data.toList = tx.data.toList.take (tx.data.toList.length - 1) := by
      rw [← hty, Lib.extract_data, len_eq, hn]
      simp
    have hys : ty.size ≤ 2000 := by
      rw [← len_eq, hyl, List.length_take, len_eq]
      omega
    have CR := Lib.hid (implRead_any ty (by omega) w5 (HVV.out.step HX5.out.old))
    have HN := Lib.hid (fun (u : TD) (_ : u.Good) (e : u.text = ty.data.toList) => text_cut (t := ⟨cx, cy, d, s, xs, ys⟩) (u := u) (by rw [e, hyl, HG.out.2]))
    clear hty hyl hys h1 HVV HG
    go_wp2_with fail
    with_reducible refine CR.out.mono ?_
    intro e w6 hR
    obtain ⟨rfl, hd⟩ := read_none hR (fun u hu e => HN.out u hu e)
    have k := (Below.refl w6.heap.size w6).alloc (Nat.le_refl _) (.cells #[.complex .f32 0 0, .int .i64 0, .int .i64 0, .slice none 0 0, .slice none 0 0] 27)
    have HX6 := Lib.hid ((HX5.out.step hd).alloc (.cells #[.complex .f32 0 0, .int .i64 0, .int .i64 0, .slice none 0 0, .slice none 0 0] 27))
    have CW6 := Lib.hid (CW.out _ ((HK5.out.trans (hd.mono HK5.out.size)).trans (k.mono (HK5.out.trans (hd.mono HK5.out.size)).size)))
    clear hR hd k CR HX5 HK5 CW r0 r1 r2 r3 r4
    obtain ⟨r0, r1, r2, r3, r4⟩ := HX6.out.cells5
    go_wp2_with fail
    with_reducible refine CW6.out.mono ?_
    rintro e w7 ⟨rfl, hd⟩
    have HB := Lib.hid (HX6.out.step hd).old
    clear hd
    go_wp2
    go_ret
    exact ⟨rfl, HB.out⟩
  · have HNO := Lib.hid (fun (t : TD) (h : t.Good) (e : t.text = tx.data.toList) => hg ⟨t, h, e.symm⟩)
    clear hg
    go_wp2_with fail
    with_reducible refine (C1.out _ HD.out).mono ?_
    intro e w2 hR
    obtain ⟨rfl, hd⟩ := read_none hR (fun t h e => HNO.out t h e)
    have HX := Lib.hid ((Box.new w2 #[.complex .f32 0 0, .int .i64 0, .int .i64 0, .slice none 0 0, .slice none 0 0] 27).up (HD.out.trans (hd.mono HD.out.size)))
    clear hR hd C1
    go_wp2_with fail
    with_reducible refine (C2.out _).mono ?_
    intro e w3 hR
    obtain ⟨rfl, hd⟩ := read_none hR (fun t h e => HNO.out t h e)
    have X3 := HX.out.step hd
    have HX3 := Lib.hid (X3.alloc (.cells #[.complex .f32 0 0, .int .i64 0, .int .i64 0, .slice none 0 0, .slice none 0 0] 27))
    have HY3 := Lib.hid ((Box.new w3 #[.complex .f32 0 0, .int .i64 0, .int .i64 0, .slice none 0 0, .slice none 0 0] 27).up X3.old)
    clear hR hd C2 HX X3
    have CS : Hid (∀ W, Calls Tryz.prog 11 #[.agg #[.complex .f32 0 0, .int .i64 0, .int .i64 0, .slice none 0 0, .slice none 0 0], .agg #[.complex .f32 0 0, .int .i64 0, .int .i64 0, .slice none 0 0, .slice none 0 0]] W fun e w' => e = .returned (.bool true) ∧ Below W.heap.size W w') := fun W => sameTile_same zero_v zero_v 0 0 none none none none 0 0 0 0 [] [] 0 rfl (by omega) (by decide) (fun x hx => by cases hx) W (Sl.nil _ _) (Sl.nil _ _) (Sl.nil _ _) (Sl.nil _ _)
    obtain ⟨r0, r1, r2, r3, r4⟩ := HX3.out.cells5
    obtain ⟨z0, z1, z2, z3, z4⟩ := HY3.out.cells5
    go_wp2_with fail
    with_reducible refine (CS.out _).mono ?_
    rintro e w4 ⟨rfl, hd⟩
    have HX4 := Lib.hid (HX3.out.step hd)
    have HY4 := Lib.hid (HY3.out.step hd)
    clear hd HX3 HY3 r0 r1 r2 r3 r4 z0 z1 z2 z3 z4
    obtain ⟨r0, r1, r2, r3, r4⟩ := HX4.out.cells5
    obtain ⟨z0, z1, z2, z3, z4⟩ := HY4.out.cells5
    go_wp2_with fail
    with_reducible refine (CS.out _).mono ?_
    rintro e w5 ⟨rfl, hd⟩
    have HB := Lib.hid (HX4.out.step hd).old
    clear hd
    go_wp2
    go_ret
    exact ⟨rfl, HB.out⟩
set_option maxRecDepth 100000 in
theorem FnRead_contract (H : Type) (enc : TypeId × Value → H) (W : World) (base : Nat) (args : Array Value) (ds gs : List (DataW H)) (before : List MemPlace)
    (hval : ∀ (j : Nat) t v, Tryz.f4.params[j]? = some t → args[j]? = some v → Value.okWide Tryz.prog W .any base t v)
    (hW : DataW.Whole enc Tryz.prog Tryz.f4.params.toList Rows.fnReadSpec.vars false W args.toList ds gs before) (hL : laidMetH Tryz.prog Rows.fnReadRow.laid W) (hsh : W.ShapedOpen Tryz.prog) :
    Calls Tryz.prog 4 args W fun e W' => ∃ v, e = .returned v ∧ Rows.fnReadSpec.post enc Tryz.prog Tryz.f4 false true false false W args v W' := by
  have hW' := hW
  obtain ⟨p, q, hA0, hV, rfl, _, _⟩ := hW
  have hA : DataW.TrodAll enc Tryz.prog W 0 (fun _ => true) true Tryz.f4.params.toList args.toList ds p := hA0
  rw [Tryz.params4] at hA hval
  obtain ⟨v0, vs0, d0, ds0, p0, q0, hargs, rfl, rfl, h0, r0⟩ := trodAll_cons hA
  obtain ⟨rfl, rfl, rfl⟩ := trodAll_nil r0
  obtain rfl : args = #[v0] := by cases args; simp_all
  obtain ⟨rfl, rfl⟩ := trodVars_none hV
  obtain ⟨a0, c0, l0, rfl, n0, m0, s0⟩ := open_bytes Tryz.underlying22 Tryz.underlying5 (by kernel_rfl) (hval 0 22 v0 rfl rfl) h0
  clear hA0
  refine (FnRead_walk W (varsT_of hL hsh) a0 c0 l0 n0 m0 s0).mono fun e W' ⟨he, hb⟩ => ⟨_, he, ?_⟩
  exact law_post laidOut (by kernel_rfl) (by kernel_rfl) rfl Tryz.underlying4 hW' rfl rfl rfl hb
set_option maxRecDepth 100000 in
theorem FnRead_reads (os : Os) {H : Type} (enc : TypeId × Value → H) : ∃ places, DataW.whole enc Tryz.prog ((laidWorldV os).forCall (fun _ _ => 0) ⟨#[], #[.slice none 0 0], []⟩).memory Tryz.f4.params.toList Rows.fnReadSpec.vars false #[(.slice none 0 0 : Value)].toList 8 = some ([.nil], [], places) :=
  ⟨[], by kernel_rfl⟩
set_option maxRecDepth 100000 in
theorem FnRead_lifted (os : Os) (started : os.Started) (H : Type) (enc : TypeId × Value → H) (F : Stop.Interp) :
    ReturnsInHanded {} Tryz.checked os 4 .any ((OpenSpec.ofChange Rows.fnReadSpec).preRow enc Tryz.prog Tryz.f4 Rows.fnReadRow.domain false Rows.fnReadRow.laid) (((OpenSpec.ofChange Rows.fnReadSpec).at F).post enc Tryz.prog Tryz.f4 false true false false) := by
  obtain ⟨places, hx⟩ := FnRead_reads os enc
  refine returnsInHanded_of_row (C := Tryz.checked) (s := OpenSpec.ofChange Rows.fnReadSpec) own started (by kernel_rfl) Tryz.func4
    (witness_row_at (enc := enc) (C := Tryz.checked) false (laidWorldV os) #[.slice none 0 0] rfl (by kernel_rfl) (by kernel_rfl) (by kernel_rfl)
      (OpenSpec.preRow_of_cond 8 hx (by kernel_rfl) (fun k hk => by cases hk) (by kernel_rfl) (laid_metV os _))) ?_
  intro W base args ds gs before hval hW _ _ _ hL hsh _
  exact FnRead_contract H enc W base args ds gs before hval hW hL hsh
set_option maxRecDepth 100000 in
theorem FnRead_said : Rows.FnReadSaid :=
  OpenClaim.holds_of_cond 4 Tryz.f4 rfl rfl rfl rfl rfl rfl rfl ⟨rfl, rfl, rfl, rfl, rfl⟩ rfl rfl rfl rfl rfl (by kernel_rfl) Tryz.func4 (by kernel_rfl)
    (of_decide_eq_true (by kernel_rfl)) (by unfold Func.isWrapper; first | (rw [if_pos (by decide +kernel)]; kernel_rfl) | (rw [if_neg (by decide +kernel)]; exact ⟨rfl, rfl⟩))
    (fun os started H enc _ F => by rw [OpenClaim.pre_eq_preRow]; exact FnRead_lifted os started H enc F)
set_option maxRecDepth 100000 in
theorem FnRead_plain (f : FuncId) (fn : Func) (hf : Tryz.pinned.checked.prog.funcNamed "loop.example/quadraticorbits/laws.FnRead" = some f) (hfn : Tryz.pinned.checked.prog.funcs[f]? = some fn) :
    true = Tryz.pinned.checked.prog.looks [] ∧ ∀ (j : Nat) t, fn.params[j]? = some t → Tryz.pinned.checked.prog.wantsStandIn t = false := by
  obtain rfl : f = 4 := Option.some.inj ((show Tryz.prog.funcNamed "loop.example/quadraticorbits/laws.FnRead" = some 4 by kernel_rfl).symm.trans hf) |>.symm
  obtain rfl : fn = Tryz.f4 := (Option.some.inj (Tryz.func4.symm.trans hfn)).symm
  refine ⟨by kernel_rfl, fun j t ht => ?_⟩
  rw [Tryz.params4] at ht
  obtain rfl : t = 22 := by simpa using Array.mem_of_getElem? ht
  exact (show Tryz.prog.wantsStandIn 22 = false by kernel_rfl)

set_option maxRecDepth 100000 in
theorem FnRead_holds : Rows.FnReadCardSaid :=
  Claim7.holds_tied_plain_at .later [] _ _ _ _ FnRead_said (fun _ h => by cases h) (by kernel_rfl) (fun _ h => by cases h) fnRead_row_tie rfl ⟨rfl, rfl⟩ (by kernel_rfl) rfl FnRead_plain (by kernel_rfl)
end Go.Proofs.YtidbdokoonikpaaGreatDoor
