/- Merged texts: MaH, MaI, MaJ. -/
import Derived.Test.YtokbalggdhippaaGreatQ36
import Derived.Conc.SmallLaws
import Derived.Conc.Comm2
set_option linter.all false
section
namespace Go.Proofs.YtokbalggdhippaaGreat
open Go.RowKit Go.Conc Go.Proofs.YtokbalggdhippaaGreat.Co Go.Proofs.YtokbalggdhippaaGreat.Ok Go.Proofs.YtokbalggdhippaaGreat.Lr Go.Proofs.YtokbalggdhippaaGreat.Tl Go.Proofs.YtokbalggdhippaaGreat.Bar
noncomputable def mR9 : Code := match mD with | .seq _ (.seq _ (.seq _ (.seq a _))) => a | _ => .skip
noncomputable def mR10 : Code := match mD with | .seq _ (.seq _ (.seq _ (.seq _ (.seq a _)))) => a | _ => .skip
noncomputable def mR12 : Code := match mY0 with | .seq a _ => a | _ => .skip
noncomputable def ops9 : Array Oper := opsOf mR9
noncomputable def ops10 : Array Oper := opsOf mR10
noncomputable def ops12 : Array Oper := opsOf mR12
theorem cuts9 {d : Code} (h : Cuts Tryz.prog "9" d) : d = .region 9 ops9 false := cuts_one (f := 11) h (by decide) (by kernel_rfl)
theorem cuts10 {d : Code} (h : Cuts Tryz.prog "10" d) : d = .region 10 ops10 false := cuts_one (f := 11) h (by decide) (by kernel_rfl)
theorem cuts12 {d : Code} (h : Cuts Tryz.prog "12" d) : d = .region 12 ops12 false := cuts_one (f := 11) h (by decide) (by kernel_rfl)
theorem op9_0 : ∃ o, ops9[0]? = some o ∧ o.op = .makeChan 67 (.const (.int .i64 0)) ∧ o.dst = some 48 ∧ o.guard = none := ⟨ops9.getD 0 default, by kernel_rfl, by kernel_rfl, by kernel_rfl, by kernel_rfl⟩
theorem op9_1 : ∃ o, ops9[1]? = some o ∧ o.op = .assign (.tmp 48) ∧ o.dst = some 12 ∧ o.guard = none := ⟨ops9.getD 1 default, by kernel_rfl, by kernel_rfl, by kernel_rfl, by kernel_rfl⟩
theorem op10_0 : ∃ o, ops10[0]? = some o ∧ o.op = .move (.tmp 12) ∧ o.dst = some 49 ∧ o.guard = none := ⟨ops10.getD 0 default, by kernel_rfl, by kernel_rfl, by kernel_rfl, by kernel_rfl⟩
theorem op10_1 : ∃ o, ops10[1]? = some o ∧ o.op = .move (.tmp 0) ∧ o.dst = some 50 ∧ o.guard = none := ⟨ops10.getD 1 default, by kernel_rfl, by kernel_rfl, by kernel_rfl, by kernel_rfl⟩
theorem op10_2 : ∃ o, ops10[2]? = some o ∧ o.op = .move (.tmp 1) ∧ o.dst = some 51 ∧ o.guard = none := ⟨ops10.getD 2 default, by kernel_rfl, by kernel_rfl, by kernel_rfl, by kernel_rfl⟩
theorem op10_3 : ∃ o, ops10[3]? = some o ∧ o.op = .move (.tmp 2) ∧ o.dst = some 52 ∧ o.guard = none := ⟨ops10.getD 3 default, by kernel_rfl, by kernel_rfl, by kernel_rfl, by kernel_rfl⟩
theorem op10_4 : ∃ o, ops10[4]? = some o ∧ o.op = .move (.tmp 3) ∧ o.dst = some 53 ∧ o.guard = none := ⟨ops10.getD 4 default, by kernel_rfl, by kernel_rfl, by kernel_rfl, by kernel_rfl⟩
theorem op10_5 : ∃ o, ops10[5]? = some o ∧ o.op = .go { callee := .value (.func 35), args := #[.tmp 49, .tmp 50, .tmp 51, .tmp 52, .tmp 53], argTypes := #[112, 23, 3, 3, 3] } ∧ o.dst = none ∧ o.guard = none := ⟨ops10.getD 5 default, by kernel_rfl, by kernel_rfl, by kernel_rfl, by kernel_rfl⟩
theorem op12_0 : ∃ o, ops12[0]? = some o ∧ o.op = .recv 67 (.tmp 54) true ∧ o.dst = some 55 ∧ o.guard = none := ⟨ops12.getD 0 default, by kernel_rfl, by kernel_rfl, by kernel_rfl, by kernel_rfl⟩
theorem op12_1 : ∃ o, ops12[1]? = some o ∧ o.op = .extract (.tmp 55) 1 ∧ o.dst = some 56 ∧ o.guard = none := ⟨ops12.getD 1 default, by kernel_rfl, by kernel_rfl, by kernel_rfl, by kernel_rfl⟩
theorem size9 : ops9.size = 2 := by kernel_rfl
theorem size10 : ops10.size = 6 := by kernel_rfl
theorem size12 : ops12.size = 2 := by kernel_rfl
def zRow : Value := .agg #[.slice none 0 0, .slice none 0 0]
def elemOf : TypeDesc → Nat
  | .chan _ e => e
  | _ => 0
theorem chan_row : ∃ d, Tryz.prog.underlying 67 = some (.chan d 70) := by
  have h : (Tryz.prog.underlying 67).map elemOf = some 70 := by kernel_rfl
  cases hu : Tryz.prog.underlying 67 with
  | none => rw [hu] at h; cases h
  | some x =>
    rw [hu] at h
    have h : elemOf x = 70 := by simpa using h
    cases x with
    | chan d e =>
      have h : e = 70 := h
      subst h
      exact ⟨d, rfl⟩
    | _ => cases h
theorem info_row : ∃ i, Tryz.prog.info? 70 = some i ∧ i.zero = some zRow ∧ i.bytes = 48 := by
  have h : (Tryz.prog.info? 70).map (fun i => (i.zero, i.bytes)) = some (some zRow, 48) := by kernel_rfl
  cases hu : Tryz.prog.info? 70 with
  | none => rw [hu] at h; cases h
  | some x =>
    rw [hu] at h
    obtain ⟨h1, h2⟩ := Prod.mk.inj (Option.some.inj h)
    exact ⟨x, rfl, h1, h2⟩
section
variable {b : Frame} {a : Act} {k : List Item} {cs base : List Frame} {w : World}
theorem step_make (hk : b.kind ≠ .early) : stepG Tryz.prog true (G (b.at a (.inRegion ops9 [0, 1] :: k)) cs) w = .go (G (b.at (a.put (some 48) (.chan (some w.heap.size))) (.inRegion ops9 [1] :: k)) cs) (w.alloc (.chan 0 #[] false 0 0 false)) #[] := by
  obtain ⟨o, ho, hop, hd, hg⟩ := op9_0
  obtain ⟨d, hu⟩ := chan_row
  obtain ⟨i, hi, _, hb⟩ := info_row
  have hr : (execOp a.eval o).run Tryz.prog w = .ok (.value (.chan (some w.heap.size))) (w.alloc (.chan 0 #[] false 0 0 false)) := by
    unfold execOp
    simp only [hop]
    have := run_makeChan (w := w) hu hi .i64 0 (by omega) (by rw [hb]; omega)
    simp [Act.eval, go_sem] at this ⊢
    simp [this]
  have he : (execOp a.eval o).events Tryz.prog w #[] = #[] := by
    unfold execOp
    simp only [hop]
    have := events_makeChan (w := w) hu hi .i64 0 (by omega) (by rw [hb]; omega) #[]
    simp [Act.eval, go_sem] at this ⊢
    simp [this]
  rw [stepG_value ho (by simp [Region.wanted, hg]) hk hr, hd]
  unfold listed
  rw [he, seen_none]
theorem stops_recv {c : Nat} (hk : b.kind ≠ .early) (hx : a.eval (.tmp 54) = .chan (some c)) : Stops Tryz.prog true base c (.recv zRow) (b.at a (.inRegion ops12 [0, 1] :: k)) cs := by
  obtain ⟨o, ho, hop, hd, hg⟩ := op12_0
  obtain ⟨d, hu⟩ := chan_row
  obtain ⟨i, hi, hz, _⟩ := info_row
  intro w
  have hr : (execOp a.eval o).run Tryz.prog w = .ok (.comm #[rcase c zRow] true (.recv true)) w := by
    unfold execOp
    simp only [hop, hx]
    simp [go_sem, zeroValue, typeInfo, run_underlying hu, hi, hz, rcase]
  have he : (execOp a.eval o).events Tryz.prog w #[] = #[] := by
    unfold execOp
    simp only [hop, hx]
    simp [go_sem, run_underlying hu]
  rw [stepG_comm (cases := #[rcase c zRow]) (blocking := true) (shape := .recv true) (w' := w) ho (by simp [Region.wanted, hg]) hk hr]
  unfold listed
  rw [he, seen_none]
  rfl
theorem yields_extract {v x : Value} (h : a.eval (.tmp 55) = .tuple #[v, x]) {o : Oper} (hop : o.op = .extract (.tmp 55) 1) : Co.Yields Tryz.prog a o x := fun w => by
  constructor
  · unfold execOp
    simp only [hop, h]
    simp [go_sem, Instr.extract]
  · unfold execOp
    simp only [hop, h]
    simp [go_sem, Instr.extract]
theorem step_go (hk : b.kind ≠ .early) : stepG Tryz.prog true (G (b.at a (.inRegion ops10 [5] :: k)) cs) w = .spawn (G (b.at a (.inRegion ops10 [] :: k)) cs) (G (bornF #[a.eval (.tmp 49), a.eval (.tmp 50), a.eval (.tmp 51), a.eval (.tmp 52), a.eval (.tmp 53)]) []) w #[] := by
  obtain ⟨o, ho, hop, hd, hg⟩ := op10_5
  have ef : a.eval (.func 35) = .func (.func 35) #[] #[] := rfl
  have hr : (execOp a.eval o).run Tryz.prog w = .ok (.spawn ⟨.fn (.func 35) #[], #[a.eval (.tmp 49), a.eval (.tmp 50), a.eval (.tmp 51), a.eval (.tmp 52), a.eval (.tmp 53)]⟩) w := by
    unfold execOp
    simp [hop, resolve, Deferred.ofValue, ef]
  have he : (execOp a.eval o).events Tryz.prog w #[] = #[] := by
    unfold execOp
    simp [hop, resolve, Deferred.ofValue, ef]
  rw [stepG_spawn ho (by simp [Region.wanted, hg]) hk hr rfl, hd]
  unfold listed
  rw [he, seen_none]
  rfl
end
end Go.Proofs.YtokbalggdhippaaGreat
end

section
namespace Go.Proofs.YtokbalggdhippaaGreat
open Go.RowKit Go.Conc Go.Proofs.YtokbalggdhippaaGreat.Co Go.Proofs.YtokbalggdhippaaGreat.Ok Go.Proofs.YtokbalggdhippaaGreat.Lr Go.Proofs.YtokbalggdhippaaGreat.Tl Go.Proofs.YtokbalggdhippaaGreat.Bar
theorem tx_blind {w W : World} {rb ob cx cy d n cap N M gs gm : Nat} {xs : List Nat} {ys : List Int} (h : TX w rb ob cx cy d n cap N M gs gm xs ys W) (τ : Tape) (k : Nat) : TX { w with tape := τ, drawn := k } rb ob cx cy d n cap N M gs gm xs ys { W with tape := τ, drawn := k } :=
  ⟨box_blind h.O τ k, box_blind h.R τ k, h.S, h.M, h.ne, h.hr, h.ho⟩
noncomputable def bM : Frame := Go.Conc.base 11
noncomputable def tArgs (cx cy d n : Nat) (most : Int) : Array Value := #[.complex .f32 cx cy, .int .i64 d, .int .i64 n, .int .i64 most]
theorem tile_fn : ∃ fn, Tryz.prog.funcs[11]? = some fn ∧ fn.body = some mBody ∧ fn.ntmps = 71 := ⟨_, Tryz.func11, by kernel_rfl, by kernel_rfl⟩
theorem enter_tile (args : Array Value) : Frame.enter Tryz.prog 11 args .normal = bM.at ⟨args ++ Array.replicate (71 - args.size) undef, []⟩ [.code mBody] := by
  obtain ⟨fn, hf, hb, hn⟩ := tile_fn
  rw [enter_at args hf hb, hn]
  rfl
def V0 (W : World) : World := { W with heap := W.heap.push (.cells #[] 0 (0, 0)) }
theorem start_wr {W : World} (hN : Vp.prog.globals.size ≤ W.heap.size) : WR (Xs W.heap.size fun _ => False) (fun _ _ => False) (V0 W) W :=
  { tape := rfl, drawn := rfl, os := rfl, output := rfl
    fn := fun b b₁ b₂ h1 h2 => h1.elim
    inj := fun b₁ b₂ b' h1 h2 => h1.elim
    glob := fun g hg => by cases hg
    live := fun b b' h hd _ => h.elim
    froz := fun b b' h hd _ => h.elim
    dead := fun b b' h _ => h.elim
    dlt := fun b hb => by obtain rfl : b = W.heap.size := hb; simp [V0]
    flt := fun b hb => hb.elim
    low := fun b b' h => h.elim
    nV := by unfold V0; rw [Array.size_push]; exact Nat.le_succ_of_le hN
    nW := hN }
theorem cutM_any (D F : Nat → Prop) (s : Code) (hs : bodyOf Tryz.prog 11 = s) : CdR (cx Vp.prog phs [] (Cuts Tryz.prog) D F) (cut [9, 10, 12] s) s := by
  have h := cutM_ok
  rw [hs] at h
  exact cut_cx [9, 10, 12] 11 (by simp [cuts]) s hs h
theorem cutM_is (p : Nat) (F : Nat → Prop) : CdR (Xs p F) (cut [9, 10, 12] mBody) mBody := cutM_any _ _ _ mBody_is
section
variable {cx cy d n : Nat} {most : Int} {a : Act} (hs : a.tmps.size = 71) (h0 : a.tmps[0]? = some (.complex .f32 cx cy)) (h1 : a.tmps[1]? = some (.int .i64 d)) (h2 : a.tmps[2]? = some (.int .i64 n)) (h3 : a.tmps[3]? = some (.int .i64 most)) (hd : a.defers = [])
include hs h0 h1 h2 h3 hd
theorem made_is {ex ey : Nat} (hn : n ≤ 8) (h : ∀ W, Calls Vp.prog 33 #[.complex .f32 cx cy, .int .i64 d, .int .i64 n] W fun e w' => e = .returned (.bool true) ∧ W = w') (hp : ∀ W, Calls Vp.prog 34 #[.complex .f32 cx cy, .int .i64 d, .int .i64 n, .int .i64 n] W fun e w' => e = .returned (.complex .f32 ex ey) ∧ W = w')
    (hf1 : (FloatKind.f32.format.order ex 1090519040 == some .gt) = false) (hf2 : (FloatKind.f32.format.order ey 1090519040 == some .gt) = false) (w : World) : HW Vp.prog [.code (cut [9, 10, 12] mBody)] (HMade cx cy d n most w) a w := by
  obtain ⟨t, ds⟩ := a
  dsimp only at hs h0 h1 h2 h3 hd
  obtain ⟨y0, y1, y2, y3, y4, y5, y6, y7, y8, y9, y10, y11, y12, y13, y14, y15, y16, y17, y18, y19, y20, y21, y22, y23, y24, y25, y26, y27, y28, y29, y30, y31, y32, y33, y34, y35, y36, y37, y38, y39, y40, y41, y42, y43, y44, y45, y46, y47, y48, y49, y50, y51, y52, y53, y54, y55, y56, y57, y58, y59, y60, y61, y62, y63, y64, y65, y66, y67, y68, y69, y70, rfl⟩ := arr71 t hs
  cases h0; cases h1; cases h2; cases h3; subst hd
  apply hm_made hn h hp hf1 hf2
end
def PMade (W0 : World) (cx cy d n : Nat) (most : Int) (L : Nat → Prop) (fr : Frame) (cs : List Frame) (W : World) : Prop :=
  ∃ (B : Lk) (V w : World) (b' : Frame) (a a' : Act) (k' : List Item) (c : Nat), cs = [] ∧ fr = b'.at (a'.put (some 48) (.chan (some c))) (.inRegion ops9 [1] :: k') ∧ WR (Xs W0.heap.size fun _ => False) B V W ∧ AR (Xs W0.heap.size fun _ => False) B a.tmps a'.tmps ∧ a'.defers = [] ∧
    TdR (Xs W0.heap.size fun _ => False) B [.code (.seq (.refuse "10") mF)] k' ∧ b'.kind = bM.kind ∧ b'.fn = bM.fn ∧ w.heap = (V0 W0).heap ∧ HMade cx cy d n most w [.code (.refuse "9"), .code (.seq (.refuse "10") mF)] a V ∧ L = Hot (Xs W0.heap.size fun _ => False) B ∧
    (∀ x y, B x y → W0.heap.size + 1 ≤ x ∧ W0.heap.size ≤ y ∧ y ≠ c) ∧ W.heap[c]? = some (.chan 0 #[] false 0 0 false) ∧ W0.heap.size ≤ c
theorem main_made {cx cy d n : Nat} {most : Int} {ex ey : Nat} (hn : n ≤ 8) (h : ∀ W, Calls Vp.prog 33 #[.complex .f32 cx cy, .int .i64 d, .int .i64 n] W fun e w' => e = .returned (.bool true) ∧ W = w') (hp : ∀ W, Calls Vp.prog 34 #[.complex .f32 cx cy, .int .i64 d, .int .i64 n, .int .i64 n] W fun e w' => e = .returned (.complex .f32 ex ey) ∧ W = w')
    (hf1 : (FloatKind.f32.format.order ex 1090519040 == some .gt) = false) (hf2 : (FloatKind.f32.format.order ey 1090519040 == some .gt) = false) {W0 : World} (hN : Vp.prog.globals.size ≤ W0.heap.size) {base : List Frame} :
    Co Tryz.prog true base (fun _ => False) (PMade W0 cx cy d n most) (fun _ => False) (Frame.enter Tryz.prog 11 (tArgs cx cy d n most) .normal) [] W0 := by
  rw [enter_tile]
  generalize hT : tArgs cx cy d n most ++ Array.replicate (71 - (tArgs cx cy d n most).size) undef = T
  have hTs : T.size = 71 := by rw [← hT]; simp [tArgs]
  have hT0 : T[0]? = some (.complex .f32 cx cy) := by rw [← hT]; exact app_get rfl _
  have hT1 : T[1]? = some (.int .i64 d) := by rw [← hT]; exact app_get rfl _
  have hT2 : T[2]? = some (.int .i64 n) := by rw [← hT]; exact app_get rfl _
  have hT3 : T[3]? = some (.int .i64 most) := by rw [← hT]; exact app_get rfl _
  have hTR : AR (Xs W0.heap.size fun _ => False) (fun _ _ => False) T T := by
    rw [← hT]
    refine AR.append ⟨rfl, fun i v v' h1 h2 => ?_⟩ (AR.replicate _ undefR)
    rw [h1] at h2
    cases h2
    match i with
    | 0 => cases h1; exact .complex _ _ _
    | 1 => cases h1; exact .int _ _
    | 2 => cases h1; exact .int _ _
    | 3 => cases h1; exact .int _ _
    | i + 4 => cases h1
  have hh : Hot (Xs W0.heap.size fun _ => False) (fun _ _ => False) = fun _ => False := by
    funext x; apply propext; exact ⟨fun ⟨b, h1, _⟩ => h1, fun h => h.elim⟩
  have st := co_of_hw (m := true) (base := base) (whole_s W0.heap.size fun _ => False) cx_noT (H := fun t a V => ∃ w, w.heap = (V0 W0).heap ∧ HMade cx cy d n most w t a V) (b := bM) (a := ⟨T, []⟩) (s := [.code (cut [9, 10, 12] mBody)])
    (fun t a V τ k h => by
      obtain ⟨w, e, rb, ob, gs, gm, g1, g2, g3, g4, g5, g6, g7, g8, g9, g10⟩ := h
      exact ⟨{ w with tape := τ, drawn := k }, e, rb, ob, gs, gm, g1, g2, g3, g4, g5, g6, g7, g8, g9, tx_blind g10 τ k⟩)
    (start_wr hN) (fr' := bM.at ⟨T, []⟩ [.code mBody]) (fr_build hTR .nil (.cons (.code (cutM_is _ _)) .nil) rfl rfl)
    (fun τ k => (made_is (a := ⟨T, []⟩) hTs hT0 hT1 hT2 hT3 rfl hn h hp hf1 hf2 { V0 W0 with tape := τ, drawn := k }).mono fun t a V h => ⟨_, rfl, h⟩)
  rw [hh, ice_none] at st
  refine st.bind ?_
  rintro L fr cs W1 ⟨B, x, τ, k, hg, ⟨hxc, t, a1, hxf, w, hwe, hH⟩, hw, hf, hc, rfl, hn1, hm1⟩
  rw [hxc] at hc
  rw [hxf] at hf
  cases hc
  have hbl : ∃ w : World, w.heap = (V0 W0).heap ∧ HMade cx cy d n most w t a1 (x.at τ k).V := by
    obtain ⟨rb, ob, gs, gm, g1, g2, g3, g4, g5, g6, g7, g8, g9, g10⟩ := hH
    exact ⟨{ w with tape := τ, drawn := k }, hwe, rb, ob, gs, gm, g1, g2, g3, g4, g5, g6, g7, g8, g9, tx_blind g10 τ k⟩
  clear hH hwe
  obtain ⟨w, hwe, hH⟩ := hbl
  generalize (x.at τ k).V = V at hw hH
  have et : t = [.code (.refuse "9"), .code (.seq (.refuse "10") mF)] := by obtain ⟨_, _, _, _, h, _⟩ := hH; exact h
  have ed : a1.defers = [] := by obtain ⟨_, _, _, _, _, _, h, _⟩ := hH; exact h
  subst et
  obtain ⟨e1, har, hds, htd, hk, hfn⟩ := fr_parts hf
  obtain ⟨d9, k', etd, hd9, hk'⟩ := td_refuse htd (by decide)
  obtain rfl := cuts9 hd9
  rw [ed] at hds
  have hfd : fr.defers = [] := by generalize fr.defers = q at hds; cases hds; rfl
  rw [etd, hfd] at e1
  rw [e1]
  have hke : fr.kind ≠ .early := by rw [hk]; simp [bM, Go.Conc.base]
  have hlt : ∀ b, Hot (Xs W0.heap.size fun _ => False) B b → b < W1.heap.size := WH.hot ⟨V, rfl, hw⟩
  refine Co.region hlt fun W2 hr2 => ?_
  rw [size9]
  have hlt2 := lt_rely hlt hr2
  refine .go (fun W3 => fr.at (Act.put ⟨fr.tmps, []⟩ (some 48) (.chan (some W3.heap.size))) (.inRegion ops9 [1] :: k')) (fun _ => []) (fun W3 => W3.alloc (.chan 0 #[] false 0 0 false)) (fun _ => #[]) (fun _ => Hot (Xs W0.heap.size fun _ => False) B) (fun W3 hr3 => ⟨step_make hke, ?_⟩) fun W3 hr3 => .stop ?_
  · have hlt3 := lt_rely hlt2 hr3
    refine ⟨fun _ h => h, fun _ h => .inl h, fun b hb => by simpa using Nat.lt_succ_of_lt (hlt3 b hb), by simp, fun b hb _ => ?_, rfl, ⟨rfl, rfl⟩, fun e he => by simp at he⟩
    show (W3.heap.push _)[b]? = _
    rw [Array.getElem?_push, if_neg (by omega)]
  · have hr13 : Rely (Hot (Xs W0.heap.size fun _ => False) B) (fun _ => False) W1 W3 := rely_trans hr2 hr3
    have hra : Rely (Hot (Xs W0.heap.size fun _ => False) B) (fun _ => False) W1 (W3.alloc (.chan 0 #[] false 0 0 false)) := by
      refine ⟨Nat.le_trans hr13.1 (by simp), fun b hb => ?_, hr13.2.2.1, hr13.2.2.2⟩
      have hb' : b < W3.heap.size := by
        rcases hb with hb | hb
        · exact lt_rely hlt hr13 b hb
        · exact hb.elim
      show (W3.heap.push _)[b]? = _
      rw [Array.getElem?_push, if_neg (by omega)]
      exact hr13.2.1 b hb
    have hra : Rely (Hot (Xs W0.heap.size fun _ => False) B) (Ice (Xs W0.heap.size fun _ => False) B) W1 (W3.alloc (.chan 0 #[] false 0 0 false)) := by
      rw [ice_none]
      exact hra
    have hsz : W0.heap.size ≤ W3.heap.size := Nat.le_trans hm1 hr13.1
    refine ⟨B, { V with tape := W3.tape, drawn := W3.drawn }, { w with tape := W3.tape, drawn := W3.drawn }, fr, a1, ⟨fr.tmps, []⟩, k', W3.heap.size, rfl, rfl, wr_rely hw hra, har, rfl, hk', hk, hfn, hwe, ?_, rfl, fun x y hxy => ?_, ?_, hsz⟩
    · obtain ⟨rb, ob, gs, gm, g1, g2, g3, g4, g5, g6, g7, g8, g9, g10⟩ := hH
      exact ⟨rb, ob, gs, gm, g1, g2, g3, g4, g5, g6, g7, g8, g9, tx_blind g10 _ _⟩
    · obtain ⟨h1, h2⟩ := (hg.2 x y hxy).resolve_left id
      refine ⟨by simpa [V0] using h1, h2, ?_⟩
      have := Nat.lt_of_lt_of_le (hw.ltW hxy) hr13.1
      omega
    · show (W3.heap.push _)[W3.heap.size]? = _
      simp
end Go.Proofs.YtokbalggdhippaaGreat
end

section
namespace Go.Proofs.YtokbalggdhippaaGreat
open Go.RowKit Go.Conc Go.Proofs.YtokbalggdhippaaGreat.Co Go.Proofs.YtokbalggdhippaaGreat.Ok Go.Proofs.YtokbalggdhippaaGreat.Lr Go.Proofs.YtokbalggdhippaaGreat.Tl Go.Proofs.YtokbalggdhippaaGreat.Bar
theorem aloof_low {t : Trace} {B c : Nat} (hs : ∀ op ∈ t, op.act.low B) (hc : B ≤ c) : ∀ i x, touchAt t i = some x → x.loc ≠ .obj c := by
  intro i a ha hla
  obtain ⟨x, hx, hxa⟩ := touch_of ha
  have hlow := hs x (Array.mem_of_getElem? hx)
  obtain ⟨loc, wr, kd⟩ := a
  have hlo : loc.low B := by
    generalize x.act = act at hlow hxa
    cases act with
    | access e => cases hxa; exact hlow
    | mark m => cases m <;> first | (cases hxa; done) | (cases hxa; exact hlow)
    | _ => cases hxa
  dsimp only at hla
  subst hla
  have : c < B := hlo
  omega
theorem ev_self {a : Act} {d : Nat} {v : Value} (h : d < a.tmps.size) : (a.put (some d) v).eval (.tmp d) = v := by simp [Act.eval, Act.put, Array.getD_eq_getD_getElem?, h]
theorem ev_ne {a : Act} {d j : Nat} {v : Value} (h : d ≠ j) : (a.put (some d) v).eval (.tmp j) = a.eval (.tmp j) := by simp [Act.eval, Act.put, Array.getD_eq_getD_getElem?, Array.getElem?_setIfInBounds, h]
theorem ev_at {a : Act} {j : Nat} {v : Value} (h : a.tmps[j]? = some v) : a.eval (.tmp j) = v := by simp [Act.eval, Array.getD_eq_getD_getElem?, h]
def put7 (ch v0 v1 v2 v3 : Value) (a : Act) : Act := ((((((a.put (some 48) ch).put (some 12) ch).put (some 49) ch).put (some 50) v0).put (some 51) v1).put (some 52) v2).put (some 53) v3
theorem put7_size {ch v0 v1 v2 v3 : Value} {a : Act} : (put7 ch v0 v1 v2 v3 a).tmps.size = a.tmps.size := by simp [put7, put_size]
theorem put7_at {ch v0 v1 v2 v3 : Value} {a : Act} {j : Nat} (h : j ≠ 12 ∧ (j < 48 ∨ 53 < j)) : (put7 ch v0 v1 v2 v3 a).tmps[j]? = a.tmps[j]? := by
  unfold put7
  rw [put_get (by omega), put_get (by omega), put_get (by omega), put_get (by omega), put_get (by omega), put_get (by omega), put_get (by omega)]
theorem put7_12 {ch v0 v1 v2 v3 : Value} {a : Act} (h : a.tmps.size = 71) : (put7 ch v0 v1 v2 v3 a).tmps[12]? = some ch := by
  unfold put7
  rw [put_get (by decide), put_get (by decide), put_get (by decide), put_get (by decide), put_get (by decide)]
  exact Array.getElem?_setIfInBounds_self_of_lt (by rw [put_size]; omega)
theorem put7_defers {ch v0 v1 v2 v3 : Value} {a : Act} : (put7 ch v0 v1 v2 v3 a).defers = a.defers := by simp only [put7, Act.put]
theorem put7_ev {ch v0 v1 v2 v3 : Value} {a : Act} (h : a.tmps.size = 71) : (put7 ch v0 v1 v2 v3 a).eval (.tmp 49) = ch ∧ (put7 ch v0 v1 v2 v3 a).eval (.tmp 50) = v0 ∧ (put7 ch v0 v1 v2 v3 a).eval (.tmp 51) = v1 ∧ (put7 ch v0 v1 v2 v3 a).eval (.tmp 52) = v2 ∧ (put7 ch v0 v1 v2 v3 a).eval (.tmp 53) = v3 := by
  have hn : ∀ (a : Act) (d j : Nat) (v x : Value), d ≠ j → a.eval (.tmp j) = x → (a.put (some d) v).eval (.tmp j) = x := fun a d j v x e y => (ev_ne e).trans y
  have hz : ∀ (a : Act) (d : Nat) (v : Value), a.tmps.size = 71 → d < 71 → (a.put (some d) v).eval (.tmp d) = v := fun a d v e l => ev_self (by omega)
  have sz : ∀ (a : Act) (d : Nat) (v : Value), a.tmps.size = 71 → (a.put (some d) v).tmps.size = 71 := fun a d v e => put_size.trans e
  unfold put7
  have s1 := sz _ 48 ch h
  have s2 := sz _ 12 ch s1
  have s3 := sz _ 49 ch s2
  have s4 := sz _ 50 v0 s3
  have s5 := sz _ 51 v1 s4
  have s6 := sz _ 52 v2 s5
  exact ⟨hn _ _ _ _ _ (by decide) (hn _ _ _ _ _ (by decide) (hn _ _ _ _ _ (by decide) (hn _ _ _ _ _ (by decide) (hz _ _ _ s2 (by decide))))), hn _ _ _ _ _ (by decide) (hn _ _ _ _ _ (by decide) (hn _ _ _ _ _ (by decide) (hz _ _ _ s3 (by decide)))), hn _ _ _ _ _ (by decide) (hn _ _ _ _ _ (by decide) (hz _ _ _ s4 (by decide))), hn _ _ _ _ _ (by decide) (hz _ _ _ s5 (by decide)), hz _ _ _ s6 (by decide)⟩
theorem main_to_go {b' : Frame} {a' : Act} {e' : Code} {c : Nat} {L : Nat → Prop} {W : World} {base : List Frame} {v0 v1 v2 v3 : Value} (hk : b'.kind ≠ .early) (hs : a'.tmps.size = 71) (h0 : a'.tmps[0]? = some v0) (h1 : a'.tmps[1]? = some v1) (h2 : a'.tmps[2]? = some v2) (h3 : a'.tmps[3]? = some v3) (hL : ∀ b, L b → b < W.heap.size) :
    Co Tryz.prog true base (fun x => x = c) (fun L' fr cs W' => L' = L ∧ cs = [] ∧ Rely L (fun x => x = c) W W' ∧ fr = b'.at (put7 (.chan (some c)) v0 v1 v2 v3 a') (.inRegion ops10 [5] :: [.code e'])) L (b'.at (a'.put (some 48) (.chan (some c))) (.inRegion ops9 [1] :: [.code (.seq (.region 10 ops10 false) e')])) [] W := by
  obtain ⟨o, ho, hop, hd, hg⟩ := op9_1
  obtain ⟨p0, i0, j0, d0, g0⟩ := op10_0
  obtain ⟨p1, i1, j1, d1, g1⟩ := op10_1
  obtain ⟨p2, i2, j2, d2, g2⟩ := op10_2
  obtain ⟨p3, i3, j3, d3, g3⟩ := op10_3
  obtain ⟨p4, i4, j4, d4, g4⟩ := op10_4
  refine Co.val ho hg hk (yields_assign hop) hL fun W1 r1 => ?_
  rw [ev_self (by omega), hd]
  have l1 := lt_rely hL r1
  refine Co.regionEnd l1 fun W2 r2 => ?_
  have l2 := lt_rely l1 r2
  refine Co.ctl l2 (fun _ => stepG_seq) fun W3 r3 => ?_
  have l3 := lt_rely l2 r3
  refine Co.region l3 fun W4 r4 => ?_
  have l4 := lt_rely l3 r4
  rw [size10]
  refine Co.val i0 g0 hk (yields_move j0) l4 fun W5 r5 => ?_
  have l5 := lt_rely l4 r5
  rw [ev_self (by rw [put_size]; omega), d0]
  refine Co.val i1 g1 hk (yields_move j1) l5 fun W6 r6 => ?_
  have l6 := lt_rely l5 r6
  rw [ev_ne (by decide), ev_ne (by decide), ev_ne (by decide), ev_at h0, d1]
  refine Co.val i2 g2 hk (yields_move j2) l6 fun W7 r7 => ?_
  have l7 := lt_rely l6 r7
  rw [ev_ne (by decide), ev_ne (by decide), ev_ne (by decide), ev_ne (by decide), ev_at h1, d2]
  refine Co.val i3 g3 hk (yields_move j3) l7 fun W8 r8 => ?_
  have l8 := lt_rely l7 r8
  rw [ev_ne (by decide), ev_ne (by decide), ev_ne (by decide), ev_ne (by decide), ev_ne (by decide), ev_at h2, d3]
  refine Co.val i4 g4 hk (yields_move j4) l8 fun W9 r9 => ?_
  rw [ev_ne (by decide), ev_ne (by decide), ev_ne (by decide), ev_ne (by decide), ev_ne (by decide), ev_ne (by decide), ev_at h3, d4]
  exact .stop ⟨rfl, rfl, rely_trans (rely_trans (rely_trans (rely_trans (rely_trans (rely_trans (rely_trans (rely_trans r1 r2) r3) r4) r5) r6) r7) r8) r9, rfl⟩
theorem wr_dead {p c : Nat} {F : Nat → Prop} {B : Lk} {V W : World} (hw : WR (Xs p F) B V W) (hp : ∀ y, ¬ B p y) (hc : ∀ x, ¬ B x c) (hV : ∃ t, V.heap[p]? = some (.cells #[] t)) (hcW : c < W.heap.size) (hpN : Vp.prog.globals.size ≤ p) (hcN : Vp.prog.globals.size ≤ c) : WR (Xs p F) (fun x y => B x y ∨ (x = p ∧ y = c)) V W := by
  have hle : Le B (fun x y => B x y ∨ (x = p ∧ y = c)) := fun _ _ h => .inl h
  refine { tape := hw.tape, drawn := hw.drawn, os := hw.os, output := hw.output, fn := ?_, inj := ?_, glob := ?_, live := ?_, froz := ?_, dead := ?_, dlt := hw.dlt, flt := hw.flt, low := ?_, nV := hw.nV, nW := hw.nW }
  · rintro b b₁ b₂ (h1 | ⟨rfl, rfl⟩) (h2 | ⟨h3, rfl⟩)
    · exact hw.fn _ _ _ h1 h2
    · subst h3; exact absurd h1 (hp _)
    · exact absurd h2 (hp _)
    · rfl
  · rintro b₁ b₂ b' (h1 | ⟨rfl, rfl⟩) (h2 | ⟨rfl, h3⟩)
    · exact hw.inj _ _ _ h1 h2
    · subst h3; exact absurd h1 (hc _)
    · exact absurd h2 (hc _)
    · rfl
  · intro g hg
    cases hg
  · rintro b b' (h | ⟨rfl, rfl⟩) hd hf
    · obtain ⟨o, o', h1, h2, h3⟩ := hw.live b b' h hd hf
      exact ⟨o, o', h1, h2, h3.mono hle⟩
    · exact absurd rfl hd
  · rintro b b' (h | ⟨rfl, rfl⟩) hd hf
    · obtain ⟨x, x', t, t', f, h1, h2, h3⟩ := hw.froz b b' h hd hf
      exact ⟨x, x', t, t', f, h1, h2, ⟨h3.1.mono hle, h3.2⟩⟩
    · exact absurd rfl hd
  · rintro b b' (h | ⟨rfl, rfl⟩) hd
    · exact hw.dead b b' h hd
    · exact ⟨hV, hcW⟩
  · rintro b b' (h | ⟨rfl, rfl⟩)
    · exact hw.low b b' h
    · have h1 : (Xs b F).N ≤ b := hpN
      have h2 : (Xs b F).N ≤ b' := hcN
      omega
theorem hot_dead {p c : Nat} {F : Nat → Prop} {B : Lk} : Hot (Xs p F) (fun x y => B x y ∨ (x = p ∧ y = c)) = Hot (Xs p F) B := by
  funext x
  apply propext
  constructor
  · rintro ⟨b, h | ⟨rfl, rfl⟩, h2, h3⟩
    · exact ⟨b, h, h2, h3⟩
    · exact absurd rfl h2
  · rintro ⟨b, h, h2, h3⟩
    exact ⟨b, .inl h, h2, h3⟩
end Go.Proofs.YtokbalggdhippaaGreat
end
