/- Merged texts: MaK, MaL, MaM, MaN, DuF. -/
import Derived.Test.YtokbalggdhippaaGreatQ37
import Derived.Test.YtokbalggdhippaaGreatQ36
set_option linter.all false
section
namespace Go.Proofs.YtokbalggdhippaaGreat
open Go.ConcN (sumTo)
open Go.RowKit Go.Conc Go.Proofs.YtokbalggdhippaaGreat.Co Go.Proofs.YtokbalggdhippaaGreat.Ok Go.Proofs.YtokbalggdhippaaGreat.Lr Go.Proofs.YtokbalggdhippaaGreat.Tl Go.Proofs.YtokbalggdhippaaGreat.Bar
structure MS (p c m0 : Nat) (F : Nat → Prop) (B : Lk) (V W : World) (a a' : Act) (b' : Frame) (s s' : List Item) : Prop where
  wr : WR (Xs p F) B V W
  fr : FrR (Xs p F) B (bM.at a s) (b'.at a' s')
  pc : B p c
  low : ∀ x y, B x y → m0 ≤ y
theorem flat_at {X : Cx} {B : Lk} {p p' : Array Value} (h : AR X B p p') {i : Nat} {v : Value} (hv : p[i]? = some v) (hf : (∃ k n m, v = .complex k n m) ∨ ∃ k n, v = .int k n) : p'[i]? = some v := by
  obtain ⟨v', h1, h2⟩ := ar_at h hv
  rcases hf with ⟨k, n, m, rfl⟩ | ⟨k, n, rfl⟩ <;> (cases h2; exact h1)
theorem phase_start {cx cy d n : Nat} {most : Int} {ex ey : Nat} (hn : n ≤ 8) (h : ∀ W, Calls Vp.prog 33 #[.complex .f32 cx cy, .int .i64 d, .int .i64 n] W fun e w' => e = .returned (.bool true) ∧ W = w') (hp : ∀ W, Calls Vp.prog 34 #[.complex .f32 cx cy, .int .i64 d, .int .i64 n, .int .i64 n] W fun e w' => e = .returned (.complex .f32 ex ey) ∧ W = w')
    (hf1 : (FloatKind.f32.format.order ex 1090519040 == some .gt) = false) (hf2 : (FloatKind.f32.format.order ey 1090519040 == some .gt) = false) {base : List Frame} {gs : Array Goroutine} {w : World} {sl : Option (Nat × Nat)} {t : Trace} {q : Nat → Nat}
    (hN : Vp.prog.globals.size ≤ w.heap.size) (h0 : gs[0]? = some (G (Frame.enter Tryz.prog 11 (tArgs cx cy d n most) .normal) base)) (hL : Leavers Tryz.prog t gs q) (hP : Past (fun _ => False) w.heap.size t) :
    ∃ gs' w' sl' t' q' B V ww b' a a' e' c L rb ob gS gM, Ran Tryz.prog gs w sl t gs' w' sl' t' ∧ gs'.size = gs.size + 1 ∧ gs'[0]? = some (G (b'.at a' (.inRegion ops10 [] :: [.code e'])) base) ∧ gs'[gs.size]? = some (G (bornF (sArgs c cx cy d n most)) []) ∧
      Sit Tryz.prog c 0 gs.size w.heap.size w gs' w' t' q' L (fun _ => False) (fun _ => False) ∧ L = Hot (Xs w.heap.size fun _ => False) B ∧ MS w.heap.size c w.heap.size (fun _ => False) B V w' a a' b' [.code mF] [.code e'] ∧
      a.tmps.size = 71 ∧ a.tmps[8]? = some (.pointer (some ⟨rb, 0, none⟩)) ∧ a.tmps[11]? = some (.pointer (some ⟨ob, 0, none⟩)) ∧ a.tmps[12]? = some (.chan (some w.heap.size)) ∧ a.defers = [] ∧ TX ww rb ob cx cy d n (n * n) 0 0 gS gM [] [] V := by
  
  obtain ⟨N1, gs1, fr1, cs1, w1, W1, sl1, t1, q1, L1, a1, a2, a3, a4, a5, a6, a7, a8, a9, a10⟩ := co_beside2 (main_made (W0 := w) hn h hp hf1 hf2 hN (base := base)) gs w sl t q h0 (rely_refl _ _ _) (fun _ h => h.elim) hL hP
  obtain ⟨B, V, ww, b', a, a', k', c, rfl, rfl, hw, har, had, htd, hbk, hbf, hwe, hH, rfl, hB, hch, hcw⟩ := a4
  have hch1 : w1.heap[c]? = some (.chan 0 #[] false 0 0 false) := by rw [← a9 rfl]; exact hch
  have hc1 : c < w1.heap.size := (Array.getElem?_eq_some_iff.1 hch1).1
  have hnL : ¬ Hot (Xs w.heap.size fun _ => False) B c := fun ⟨x, h1, _⟩ => (hB x c h1).2.2 rfl
  have al1 := a10 c hnL (aloof_low hP.seen hcw)
  obtain ⟨rb, ob, gS, gM, g1, g2, g3, g4, g5, g6, g7, g8, g9, g10⟩ := hH
  clear g1
  have hlt1 : ∀ b, Hot (Xs w.heap.size fun _ => False) B b → b < w1.heap.size := fun b hb => Nat.lt_of_lt_of_le (WH.hot ⟨V, rfl, hw⟩ b hb) a5.1
  
  obtain ⟨e', rfl, hce⟩ : ∃ e', k' = [.code (.seq (.region 10 ops10 false) e')] ∧ CdR (Xs w.heap.size fun _ => False) mF e' := by
    cases htd with
    | cons hx hk =>
      cases hk
      cases hx with
      | code hc =>
        obtain ⟨d10, e', ec, hd, he⟩ := hc
        obtain rfl := cuts10 (hd.resolve_left (by decide))
        exact ⟨e', by rw [ec], he⟩
  have hke : b'.kind ≠ .early := by rw [hbk]; simp [bM, Go.Conc.base]
  have hs' : a'.tmps.size = 71 := by rw [← har.1]; exact g2
  
  obtain ⟨N2, gs2, fr2, cs2, w2, W2, sl2, t2, q2, L2, b1, b2, b3, b4, b5, b6, b7, b8, b9, b10⟩ := co_beside2 (main_to_go (c := c) (base := base) (e' := e') (W := w1) hke hs' (flat_at har g4 (.inl ⟨_, _, _, rfl⟩)) (flat_at har g5 (.inr ⟨_, _, rfl⟩)) (flat_at har g6 (.inr ⟨_, _, rfl⟩)) (flat_at har g7 (.inr ⟨_, _, rfl⟩)) hlt1)
    gs1 w1 sl1 t1 q1 a3 (rely_refl _ _ _) (fun x hx => by obtain rfl : x = c := hx; exact hc1) a6 a7
  obtain ⟨rfl, rfl, hr12, rfl⟩ := b4
  have al2 := b10 c hnL al1
  have hr2 : Rely (Hot (Xs w.heap.size fun _ => False) B) (fun x => x = c) w1 w2 := rely_trans hr12 b5
  have hch2 : w2.heap[c]? = some (.chan 0 #[] false 0 0 false) := (hr2.2.1 c (.inr rfl)).trans hch1
  
  obtain ⟨N3, gs3, d3, sl3, t3, q3, c1, c2, c3, c4, c5, c6, d4, sl4, c7⟩ := picked0 (P := Tryz.prog) (sumTo gs2.size q2) gs2 w2 sl2 t2 q2 rfl b3 b6 b7
  have al3 := c6 c al2
  have hleft := a8.trans b8
  obtain ⟨gs4, ops, e1, e0, e2, e3, e4⟩ := sit_spawn (B0 := w.heap.size) (w0 := w) (w := w2.at d4) (c := c) (L := Hot (Xs w.heap.size fun _ => False) B) (sl := sl4) c3 (step_go hke) c4 c5 ⟨0, false, hch2⟩ al3
    (fun x hx => by
      have hx' := hx
      obtain ⟨y, hy, _⟩ := hx'
      exact ⟨(hB y x hy).2.1, (hB y x hy).2.2, Nat.lt_of_lt_of_le (hlt1 x hx) hr2.1⟩) hcw
    ⟨hleft.size, fun x hx => hleft.kept x hx (fun h => h), hleft.tape, hleft.os⟩
  have hsz : gs3.size = gs.size := c2.trans (b2.trans a2)
  have hrun : Ran Tryz.prog gs w sl t gs4 (w2.at d4) sl4 (t3 ++ ops) :=
    (Ran.trans ⟨N1, a1⟩ (Ran.trans ⟨N2, b1⟩ ⟨N3, c1⟩)).trans (Ran.head (by rw [c7]; exact e1) .refl)
  have hV : V.heap[w.heap.size]? = some (.cells #[] 0 (0, 0)) := by
    have hsz : ww.heap.size = w.heap.size + 1 := by rw [hwe]; simp [V0]
    rw [g10.O.old.block w.heap.size (by omega), hwe]
    show (w.heap.push _)[w.heap.size]? = _
    rw [Array.getElem?_push, if_pos rfl]
  have hw2 : WR (Xs w.heap.size fun _ => False) B { V with tape := w2.tape, drawn := d4 } (w2.at d4) := by
    refine wr_rely (W2 := w2.at d4) hw ?_
    rw [ice_none]
    refine rely_trans a5 (rely_at ?_ d4)
    exact ⟨hr2.1, fun x hx => hr2.2.1 x (hx.elim .inl fun h => h.elim), hr2.2.2⟩
  have hw3 := wr_dead (c := c) hw2 (fun y hy => by have := (hB _ _ hy).1; omega) (fun x hx => (hB _ _ hx).2.2 rfl) ⟨0, hV⟩ (Array.getElem?_eq_some_iff.1 hch2).1 hN (Nat.le_trans hN hcw)
  have hle : Le B (fun x y => B x y ∨ (x = w.heap.size ∧ y = c)) := fun _ _ h => .inl h
  have hAR : AR (Xs w.heap.size fun _ => False) (fun x y => B x y ∨ (x = w.heap.size ∧ y = c)) (put7 (.chan (some w.heap.size)) (.complex .f32 cx cy) (.int .i64 d) (.int .i64 n) (.int .i64 most) a).tmps (put7 (.chan (some c)) (.complex .f32 cx cy) (.int .i64 d) (.int .i64 n) (.int .i64 most) a').tmps := by
    have hch : VR (Xs w.heap.size fun _ => False) (fun x y => B x y ∨ (x = w.heap.size ∧ y = c)) (.chan (some w.heap.size)) (.chan (some c)) := .chan (.inr ⟨rfl, rfl⟩)
    unfold put7
    exact ar_put (ar_put (ar_put (ar_put (ar_put (ar_put (ar_put (har.mono hle) _ hch) _ hch) _ hch) _ (.complex _ _ _)) _ (.int _ _)) _ (.int _ _)) _ (.int _ _)
  refine ⟨gs4, w2.at d4, sl4, t3 ++ ops, q3, fun x y => B x y ∨ (x = w.heap.size ∧ y = c), { V with tape := w2.tape, drawn := d4 }, { ww with tape := w2.tape, drawn := d4 }, b', put7 (.chan (some w.heap.size)) (.complex .f32 cx cy) (.int .i64 d) (.int .i64 n) (.int .i64 most) a, put7 (.chan (some c)) (.complex .f32 cx cy) (.int .i64 d) (.int .i64 n) (.int .i64 most) a', e', c, Hot (Xs w.heap.size fun _ => False) B, rb, ob, gS, gM, hrun, by rw [e0, hsz], e2, ?_, ?_, hot_dead.symm, ⟨hw3, ?_, .inr ⟨rfl, rfl⟩, ?_⟩, ?_, ?_, ?_, ?_, ?_, tx_blind g10 _ _⟩
  · rw [← hsz, e3]
    obtain ⟨z1, z2, z3, z4, z5⟩ := put7_ev (ch := .chan (some c)) (v0 := .complex .f32 cx cy) (v1 := .int .i64 d) (v2 := .int .i64 n) (v3 := .int .i64 most) hs'
    rw [z1, z2, z3, z4, z5]
    rfl
  · rw [← hsz]; exact e4
  · refine fr_build hAR ?_ (.cons (.code hce) .nil) hbk hbf
    rw [put7_defers, put7_defers, g3, had]
    exact .nil
  · rintro x y (hxy | ⟨_, rfl⟩)
    · exact (hB x y hxy).2.1
    · exact hcw
  · rw [put7_size]; exact g2
  · rw [put7_at (by omega)]; exact g8
  · rw [put7_at (by omega)]; exact g9
  · exact put7_12 g2
  · rw [put7_defers]; exact g3
end Go.Proofs.YtokbalggdhippaaGreat
end

section
namespace Go.Proofs.YtokbalggdhippaaGreat
open Go.RowKit Go.Conc Go.Proofs.YtokbalggdhippaaGreat.Co Go.Proofs.YtokbalggdhippaaGreat.Ok Go.Proofs.YtokbalggdhippaaGreat.Lr Go.Proofs.YtokbalggdhippaaGreat.Tl Go.Proofs.YtokbalggdhippaaGreat.Bar
noncomputable def sRecv : List Item := [.code mZ, .inLoop mY, .inBlock 0, .code (.seq mR16 .ret)]
def RecvP (p c m0 cx cy d n N : Nat) (xs : List Nat) (ys : List Int) (R L : Nat → Prop) (fr : Frame) (cs : List Frame) (W : World) : Prop :=
  ∃ (F : Nat → Prop) (B : Lk) (V ww : World) (a a' : Act) (b' : Frame) (k' : List Item) (rb ob gS gM : Nat), cs = [] ∧ fr = b'.at a' (.inRegion ops12 [0, 1] :: k') ∧ MS p c m0 F B V W a a' b' sRecv k' ∧ MA rb ob (.chan (some p)) a ∧
    TX ww rb ob cx cy d n (n * n) N N gS gM xs ys V ∧ L = Hot (Xs p F) B ∧ R = Ice (Xs p F) B
theorem MS.rely {p c m0 : Nat} {F : Nat → Prop} {B : Lk} {V W W2 : World} {a a' : Act} {b' : Frame} {s s' : List Item} (h : MS p c m0 F B V W a a' b' s s') (hr : Rely (Hot (Xs p F) B) (Ice (Xs p F) B) W W2) : MS p c m0 F B { V with tape := W2.tape, drawn := W2.drawn } W2 a a' b' s s' :=
  ⟨wr_rely h.wr hr, h.fr, h.pc, h.low⟩
theorem MS.kind {p c m0 : Nat} {F : Nat → Prop} {B : Lk} {V W : World} {a a' : Act} {b' : Frame} {s s' : List Item} (h : MS p c m0 F B V W a a' b' s s') : b'.kind = bM.kind ∧ b'.fn = bM.fn ∧ AR (Xs p F) B a.tmps a'.tmps ∧ DsR (Xs p F) B a.defers a'.defers ∧ TdR (Xs p F) B s s' := by
  obtain ⟨_, h1, h2, h3, h4, h5⟩ := fr_parts h.fr
  exact ⟨h4, h5, h1, h2, h3⟩
theorem chan_at {p c : Nat} {F : Nat → Prop} {B : Lk} {V W : World} (hw : WR (Xs p F) B V W) (hpc : B p c) {q q' : Array Value} (h : AR (Xs p F) B q q') {i : Nat} (hv : q[i]? = some (.chan (some p))) : q'[i]? = some (.chan (some c)) := by
  obtain ⟨v', h1, h2⟩ := ar_at h hv
  cases h2 with
  | chan g => rw [hw.fn _ _ _ hpc g]; exact h1
theorem stretchM {p c m0 cx cy d n N : Nat} {xs : List Nat} {ys : List Int} {F : Nat → Prop} {B : Lk} {V W : World} {a a' : Act} {b' : Frame} {s s' : List Item} {base : List Frame} {ww : World} {rb ob gS gM : Nat} (h : MS p c m0 F B V W a a' b' s s') (hm : m0 ≤ W.heap.size)
    (hh : ∀ τ k, HW Vp.prog s (H12 cx cy d n rb ob (.chan (some p)) gS gM N xs ys { ww with tape := τ, drawn := k }) a { V with tape := τ, drawn := k }) :
    Co Tryz.prog true base (Ice (Xs p F) B) (fun L fr cs W => Stops Tryz.prog true base c (.recv zRow) fr cs ∧ RecvP p c m0 cx cy d n N xs ys (Ice (Xs p F) B) L fr cs W) (Hot (Xs p F) B) (b'.at a' s') [] W := by
  refine (co_of_hw (m := true) (base := base) (whole_s p F) cx_noT (H := fun t a V => ∃ ww, H12 cx cy d n rb ob (.chan (some p)) gS gM N xs ys ww t a V) (fun t a V τ k h => by
      obtain ⟨w, h1, h2, h3⟩ := h
      exact ⟨{ w with tape := τ, drawn := k }, h1, h2, tx_blind h3 τ k⟩) h.wr h.fr fun τ k => (hh τ k).mono fun t a V x => ⟨_, x⟩).bind ?_
  rintro L fr cs W1 ⟨B1, x, τ, k, hg, ⟨hxc, t, a1, hxf, w, hH⟩, hw, hf, hc, rfl, hn1, hm1⟩
  rw [hxc] at hc
  rw [hxf] at hf
  cases hc
  obtain ⟨rfl, hMA, hTX⟩ := hH
  have hTX' : TX { w with tape := τ, drawn := k } rb ob cx cy d n (n * n) N N gS gM xs ys (x.at τ k).V := tx_blind hTX τ k
  clear hTX
  generalize (x.at τ k).V = V1 at hw hTX'
  obtain ⟨e1, har, hds, htd, hk, hfn⟩ := fr_parts hf
  obtain ⟨d12, k', etd, hd12, hk'⟩ := td_refuse htd (by decide)
  obtain rfl := cuts12 hd12
  rw [etd] at e1
  rw [e1]
  have hke : fr.kind ≠ .early := by rw [hk]; simp [bM, Go.Conc.base]
  have hpc : B1 p c := hg.1 _ _ h.pc
  have hIce := ice_gr h.wr hg
  have hMS : MS p c m0 F B1 V1 W1 a1 ⟨fr.tmps, fr.defers⟩ fr sRecv k' := ⟨hw, fr_build har hds hk' hk hfn, hpc, fun x y hxy => by
    rcases hg.2 x y hxy with h1 | ⟨_, h1⟩
    · exact h.low _ _ h1
    · exact Nat.le_trans hm h1⟩
  have hch := chan_at hw hpc har hMA.t54
  refine Co.region (WH.hot ⟨V1, rfl, hw⟩) fun W2 hr2 => ?_
  rw [size12]
  rw [← hIce] at hr2
  refine .stop ⟨stops_recv hke (ev_at hch), F, B1, _, { w with tape := W2.tape, drawn := W2.drawn }, a1, ⟨fr.tmps, fr.defers⟩, fr, k', rb, ob, gS, gM, rfl, rfl, hMS.rely hr2, hMA, tx_blind hTX' _ _, rfl, hIce.symm⟩
end Go.Proofs.YtokbalggdhippaaGreat
end

section
namespace Go.Proofs.YtokbalggdhippaaGreat
open Go.RowKit Go.Conc Go.Proofs.YtokbalggdhippaaGreat.Co Go.Proofs.YtokbalggdhippaaGreat.Ok Go.Proofs.YtokbalggdhippaaGreat.Lr Go.Proofs.YtokbalggdhippaaGreat.Tl Go.Proofs.YtokbalggdhippaaGreat.Bar
theorem flat_flo {X : Cx} {xs : List Nat} : ∀ v ∈ ((xs.map floV).toArray : Array Value), Flat X v := by
  intro v hv
  rw [List.mem_toArray, List.mem_map] at hv
  obtain ⟨x, _, rfl⟩ := hv
  exact fun B => .float _ _
theorem flat_int {X : Cx} {xs : List Int} : ∀ v ∈ ((xs.map intV).toArray : Array Value), Flat X v := by
  intro v hv
  rw [List.mem_toArray, List.mem_map] at hv
  obtain ⟨x, _, rfl⟩ := hv
  exact fun B => .int _ _
theorem finish12 {b' : Frame} {a' : Act} {k' : List Item} {v : Value} : (b'.at a' (.inRegion ops12 [0, 1] :: k')).finish v = b'.at (a'.put (some 55) v) (.inRegion ops12 [1] :: k') := by
  obtain ⟨o, ho, _, hd, _⟩ := op12_0
  rw [← hd, Frame.finish_at, ho]
  rfl
theorem MA.puts {rb ob : Nat} {ch v x : Value} {a : Act} (h : MA rb ob ch a) : MA rb ob ch ((a.put (some 55) v).put (some 56) x) := by
  obtain ⟨h1, h2, h3, h4, h5, h6⟩ := h
  refine ⟨?_, ?_, ?_, ?_, ?_, h6⟩
  · rw [put_size, put_size]; exact h1
  all_goals rw [put_get (by decide), put_get (by decide)]
  · exact h2
  · exact h3
  · exact h4
  · exact h5
theorem after_recv {p c m0 : Nat} {F : Nat → Prop} {B : Lk} {V W : World} {a a' : Act} {b' : Frame} {k' : List Item} {base : List Frame} {Post : (Nat → Prop) → Frame → List Frame → World → Prop} {vV vW : Value} {y : Bool}
    (h : MS p c m0 F B V W a a' b' sRecv k') (hs : a.tmps.size = 71) (hv : VR (Xs p F) B vV vW)
    (k : ∀ (τ : Tape) (d : Nat) (W2 : World), W.heap.size ≤ W2.heap.size → MS p c m0 F B { V with tape := τ, drawn := d } W2 ((a.put (some 55) (.tuple #[vV, .bool y])).put (some 56) (.bool y)) ((a'.put (some 55) (.tuple #[vW, .bool y])).put (some 56) (.bool y)) b' sRecv k' →
      Co Tryz.prog true base (Ice (Xs p F) B) Post (Hot (Xs p F) B) (b'.at ((a'.put (some 55) (.tuple #[vW, .bool y])).put (some 56) (.bool y)) k') [] W2) :
    Co Tryz.prog true base (Ice (Xs p F) B) Post (Hot (Xs p F) B) ((b'.at a' (.inRegion ops12 [0, 1] :: k')).finish (.tuple #[vW, .bool y])) [] W := by
  obtain ⟨hk, hfn, har, hds, htd⟩ := h.kind
  have hke : b'.kind ≠ .early := by rw [hk]; simp [bM, Go.Conc.base]
  have hs' : a'.tmps.size = 71 := by rw [← har.1]; exact hs
  obtain ⟨o, ho, hop, hd, hg⟩ := op12_1
  rw [finish12]
  have l0 : ∀ b, Hot (Xs p F) B b → b < W.heap.size := WH.hot ⟨V, rfl, h.wr⟩
  refine Co.val ho hg hke (yields_extract (ev_self (by omega)) hop) l0 fun W1 r1 => ?_
  rw [hd]
  refine Co.regionEnd (lt_rely l0 r1) fun W2 r2 => ?_
  have r := rely_trans r1 r2
  refine k W2.tape W2.drawn W2 r.1 ⟨wr_rely h.wr r, fr_build (ar_put (ar_put har _ (.tuple (p := #[vV, .bool y]) (p' := #[vW, .bool y]) rfl fun i v v' h1 h2 => ?_)) _ (.bool y)) hds htd hk hfn, h.pc, h.low⟩
  match i with
  | 0 => cases h1; cases h2; exact hv
  | 1 => cases h1; cases h2; exact .bool y
  | i + 2 => cases h1
set_option maxHeartbeats 1000000 in
theorem recv_next {p c m0 cx cy d n N i : Nat} {xs : List Nat} {ys : List Int} {st : Nat → Nat → Int} {sm : Nat → Nat → Nat} {R L Lb R' : Nat → Prop} {fr : Frame} {cs base : List Frame} {W1 Wb w : World} {v : Value} (hn : n ≤ 8) (hN : N + n ≤ n * n)
    (hP : RecvP p c m0 cx cy d n N xs ys R L fr cs W1) (hr : Rely L R W1 w) (row : RowIs n st sm i v R' Wb) (hrb : Rely Lb R Wb w) (hsub : ∀ x, R' x → Lb x) (hdb : ∀ x, Lb x → ¬ L x ∧ ¬ R x ∧ x ≠ c ∧ m0 ≤ x) (hNm : Vp.prog.globals.size ≤ m0) (hmw : m0 ≤ w.heap.size) :
    cs = [] ∧ Co Tryz.prog true base (fun x => R x ∨ R' x) (fun L fr cs W => Stops Tryz.prog true base c (.recv zRow) fr cs ∧ RecvP p c m0 cx cy d n (N + n) (xs ++ (List.range n).map (sm i)) (ys ++ (List.range n).map (st i)) (fun x => R x ∨ R' x) L fr cs W) L (fr.finish (.tuple #[v, .bool true])) [] w := by
  obtain ⟨F, B, V0, ww0, a, a', b', k', rb, ob, gS, gM, rfl, rfl, hMS, hMA, hTX, rfl, rfl⟩ := hP
  refine ⟨rfl, ?_⟩
  have hMS := hMS.rely hr
  have hTX : TX { ww0 with tape := w.tape, drawn := w.drawn } rb ob cx cy d n (n * n) N N gS gM xs ys { V0 with tape := w.tape, drawn := w.drawn } := tx_blind hTX _ _
  generalize ({ V0 with tape := w.tape, drawn := w.drawn } : World) = V at hMS hTX
  generalize ({ ww0 with tape := w.tape, drawn := w.drawn } : World) = ww at hTX
  obtain ⟨sb, mb, f, g, rfl, hne, hR', hs, hm⟩ := row
  have rs : R' sb := (hR' sb).2 (.inl rfl)
  have rm : R' mb := (hR' mb).2 (.inr rfl)
  have hs := (hrb.2.1 sb (.inl (hsub _ rs))).trans hs
  have hm := (hrb.2.1 mb (.inl (hsub _ rm))).trans hm
  have hw := hMS.wr
  have unl : ∀ s, R' s → ∀ b, ¬ B b s := by
    intro s hs b hb
    have := hdb s (hsub s hs)
    by_cases hd : b = p
    · subst hd; exact this.2.2.1 (hw.fn _ _ _ hb hMS.pc)
    by_cases hf : F b
    · exact this.2.1 ⟨b, hb, hd, hf⟩
    · exact this.1 ⟨b, hb, hd, hf⟩
  have l1 := wr_link (alike_s p F fun b => F b ∨ b = V.heap.size) hw (unl sb rs) hs flat_flo (Nat.le_trans hNm (hdb _ (hsub _ rs)).2.2.2) (fun _ => .rfl)
  have unl2 : ∀ b, ¬ ((fun b b' => B b b' ∨ (b = V.heap.size ∧ b' = sb)) b mb) := by
    rintro b (hb | ⟨_, hb⟩)
    · exact unl mb rm b hb
    · exact hne hb.symm
  have l2 := wr_link (alike_s p _ fun b => (F b ∨ b = V.heap.size) ∨ b = V.heap.size + 1) l1 unl2 hm flat_int (Nat.le_trans hNm (hdb _ (hsub _ rm)).2.2.2) (fun b => by rw [Array.size_push]; exact .rfl)
  generalize hB2 : (fun b b' => (B b b' ∨ (b = V.heap.size ∧ b' = sb)) ∨ (b = ({ V with heap := V.heap.push (.cells (((List.range n).map (sm i)).map floV).toArray 63 (0, (((List.range n).map (sm i)).map floV).toArray.size)) } : World).heap.size ∧ b' = mb) : Lk) = B2 at l2
  have l3 := l2
  clear l2
  have hB2 : ∀ x y, B2 x y ↔ (B x y ∨ (x = V.heap.size ∧ y = sb)) ∨ (x = V.heap.size + 1 ∧ y = mb) := fun x y => by
    rw [← hB2, Array.size_push]
  have hle : Le B B2 := fun x y h => (hB2 x y).2 (.inl (.inl h))
  have hpV : p < V.heap.size := hw.dlt p rfl
  have eH : Hot (Xs p fun b => (F b ∨ b = V.heap.size) ∨ b = V.heap.size + 1) B2 = Hot (Xs p F) B := by
    funext x
    apply propext
    constructor
    · rintro ⟨b, h1, h2, h3⟩
      rcases (hB2 b x).1 h1 with (h | ⟨rfl, _⟩) | ⟨rfl, _⟩
      · exact ⟨b, h, h2, fun f => h3 (.inl (.inl f))⟩
      · exact absurd (.inl (.inr rfl)) h3
      · exact absurd (.inr rfl) h3
    · rintro ⟨b, h1, h2, h3⟩
      have := hw.ltV h1
      refine ⟨b, hle _ _ h1, h2, ?_⟩
      rintro ((h | rfl) | rfl)
      · exact h3 h
      · omega
      · omega
  have eI : Ice (Xs p fun b => (F b ∨ b = V.heap.size) ∨ b = V.heap.size + 1) B2 = fun x => Ice (Xs p F) B x ∨ R' x := by
    funext x
    apply propext
    constructor
    · rintro ⟨b, h1, h2, h3⟩
      rcases (hB2 b x).1 h1 with (h | ⟨_, rfl⟩) | ⟨_, rfl⟩
      · have := hw.ltV h
        rcases h3 with (h3 | rfl) | rfl
        · exact .inl ⟨b, h, h2, h3⟩
        · omega
        · omega
      · exact .inr rs
      · exact .inr rm
    · rintro (⟨b, h1, h2, h3⟩ | h)
      · exact ⟨b, hle _ _ h1, h2, .inl (.inl h3)⟩
      · rcases (hR' x).1 h with rfl | rfl
        · exact ⟨V.heap.size, (hB2 _ _).2 (.inl (.inr ⟨rfl, rfl⟩)), fun e => by have e : V.heap.size = p := e; omega, .inl (.inr rfl)⟩
        · exact ⟨V.heap.size + 1, (hB2 _ _).2 (.inr ⟨rfl, rfl⟩), fun e => by have e : V.heap.size + 1 = p := e; omega, .inr rfl⟩
  rw [← eI, ← eH]
  have hMS2 : MS p c m0 (fun b => (F b ∨ b = V.heap.size) ∨ b = V.heap.size + 1) B2 _ w a a' b' sRecv k' :=
    ⟨l3, (hMS.fr.mono hle).cx (alike_s p F _), hle _ _ hMS.pc, fun x y hxy => by
      rcases (hB2 x y).1 hxy with (h | ⟨_, rfl⟩) | ⟨_, rfl⟩
      · exact hMS.low _ _ h
      · exact (hdb _ (hsub _ rs)).2.2.2
      · exact (hdb _ (hsub _ rm)).2.2.2⟩
  have hTX2 : TX ww rb ob cx cy d n (n * n) N N gS gM xs ys ((V.alloc (.cells (((List.range n).map (sm i)).map floV).toArray 63 (0, (((List.range n).map (sm i)).map floV).toArray.size))).alloc (.cells (((List.range n).map (st i)).map intV).toArray 3 (0, (((List.range n).map (st i)).map intV).toArray.size))) := (hTX.alloc _).alloc _
  have hob : ob < V.heap.size := (Array.getElem?_eq_some_iff.1 hTX.O.blk).1
  have hgS : gS < V.heap.size := (hTX.S.lt gS rfl).2
  have hgM : gM < V.heap.size := (hTX.M.lt gM rfl).2
  refine after_recv (vV := .agg #[.slice (some ⟨V.heap.size, 0, none⟩) n n, .slice (some ⟨V.heap.size + 1, 0, none⟩) n n]) hMS2 hMA.size (.agg rfl fun j v v' h1 h2 => ?_) fun τ k W2 hsz hM => ?_
  · match j with
    | 0 => cases h1; cases h2; exact .slice _ _ ⟨⟨(hB2 _ _).2 (.inl (.inr ⟨rfl, rfl⟩)), fun e => by have e : V.heap.size = p := e; omega⟩, ⟨rfl, Nat.zero_le _⟩, rfl⟩
    | 1 => cases h1; cases h2; exact .slice _ _ ⟨⟨(hB2 _ _).2 (.inr ⟨rfl, rfl⟩), fun e => by have e : V.heap.size + 1 = p := e; omega⟩, ⟨rfl, Nat.zero_le _⟩, rfl⟩
    | j + 2 => cases h1
  · refine stretchM (ww := ww) (rb := rb) (ob := ob) (gS := gS) (gM := gM) hM (Nat.le_trans hmw hsz) fun τ' k' => ?_
    refine hm_next (sb := V.heap.size) (mb := V.heap.size + 1) (fz := (0, (((List.range n).map (sm i)).map floV).toArray.size)) (fu := (0, (((List.range n).map (st i)).map intV).toArray.size)) hn hN hMA.puts ?_ ?_ (tx_blind hTX2 τ' k') (by simp) (by simp) ?_ ?_ ⟨by omega, by omega⟩ ⟨by omega, by omega, by omega⟩
    · rw [put_get (by decide)]
      exact Array.getElem?_setIfInBounds_self_of_lt (by rw [hMA.size]; decide)
    · exact Array.getElem?_setIfInBounds_self_of_lt (by rw [put_size, hMA.size]; decide)
    · show ((V.heap.push _).push _)[V.heap.size]? = _
      rw [Array.getElem?_push, if_neg (by rw [Array.size_push]; omega), Array.getElem?_push, if_pos rfl]
    · show ((V.heap.push _).push _)[V.heap.size + 1]? = _
      rw [Array.getElem?_push, if_pos (by rw [Array.size_push])]
end Go.Proofs.YtokbalggdhippaaGreat
end

section
namespace Go.Proofs.YtokbalggdhippaaGreat
open Go.RowKit Go.Conc Go.Proofs.YtokbalggdhippaaGreat.Co Go.Proofs.YtokbalggdhippaaGreat.Ok Go.Proofs.YtokbalggdhippaaGreat.Lr Go.Proofs.YtokbalggdhippaaGreat.Tl Go.Proofs.YtokbalggdhippaaGreat.Bar
theorem results_tile {t : Array Value} {V : World} {rb : Nat} {v0 v1 v2 v3 v4 x : Value} (h8 : t[8]? = some (.pointer (some ⟨rb, 0, none⟩))) (h9 : t[9]? = some x)
    (h : V.cell? ⟨rb, 0, none⟩ = some v0 ∧ V.cell? ⟨rb, 1, none⟩ = some v1 ∧ V.cell? ⟨rb, 2, none⟩ = some v2 ∧ V.cell? ⟨rb, 3, none⟩ = some v3 ∧ V.cell? ⟨rb, 4, none⟩ = some v4) : (results Vp.fT t).run Vp.prog V = .ok (.tuple #[.agg #[v0, v1, v2, v3, v4], x]) V := by
  obtain ⟨c0, c1, c2, c3, c4⟩ := h
  have hr : Vp.fT.results = #[.cell 8 29, .tmp 9] := by rw [Vp.resultsT]; rfl
  unfold results
  rw [hr]
  simp [go_sem, loadVar, Array.getD_eq_getD_getElem?, h8, h9, c0, c1, c2, c3, c4]
def TileQ (cx cy d n : Nat) (good : Bool) (xs : List Nat) (ys : List Int) (v : Value) (V : World) : Prop :=
  if good then ∃ gS gM, v = .tuple #[.agg (tileC cx cy d n (.slice (some ⟨gS, 0, none⟩) (n * n) (n * n)) (.slice (some ⟨gM, 0, none⟩) (n * n) (n * n))), .bool true] ∧ V.heap[gS]? = some (.cells (xs.map floV).toArray 63 (0, 0)) ∧ V.heap[gM]? = some (.cells (ys.map intV).toArray 3 (0, 0))
  else v = .tuple #[.agg (tileC 0 0 0 0 (.slice none 0 0) (.slice none 0 0)), .bool false]
theorem leaving_ret {cx cy d n : Nat} {good : Bool} {xs : List Nat} {ys : List Int} {w V : World} {t : List Item} {a : Act} (h : HRet cx cy d n good xs ys w t a V) :
    ∃ v, Frame.leaving Vp.prog { bM.at a t with mode := .returning } V (.returned v) ∧ TileQ cx cy d n good xs ys v V := by
  obtain ⟨rb, rest, _, hd, h8, h9, _, h⟩ := h
  cases good with
  | false =>
    rw [if_neg (by simp)] at h
    exact ⟨_, ⟨rfl, hd, rfl, Vp.fT, Vp.funcT, results_tile h8 h9 h.cells5⟩, rfl⟩
  | true =>
    rw [if_pos rfl] at h
    obtain ⟨gS, gM, hb, hS, hM⟩ := h
    exact ⟨_, ⟨rfl, hd, rfl, Vp.fT, Vp.funcT, results_tile h8 h9 hb.cells5⟩, gS, gM, rfl, own_full hS, own_full hM⟩
theorem hret_blind {cx cy d n : Nat} {good : Bool} {xs : List Nat} {ys : List Int} {w V : World} {t : List Item} {a : Act} (h : HRet cx cy d n good xs ys w t a V) (τ : Tape) (k : Nat) : HRet cx cy d n good xs ys { w with tape := τ, drawn := k } t a { V with tape := τ, drawn := k } := by
  obtain ⟨rb, rest, h1, hd, h8, h9, h10, h⟩ := h
  refine ⟨rb, rest, h1, hd, h8, h9, h10, ?_⟩
  cases good with
  | false =>
    rw [if_neg (by simp)] at h ⊢
    exact box_blind h τ k
  | true =>
    rw [if_pos rfl] at h ⊢
    obtain ⟨gS, gM, hb, hS, hM⟩ := h
    exact ⟨gS, gM, box_blind hb τ k, hS, hM⟩
theorem last_ret {p cx cy d n : Nat} {good : Bool} {xs : List Nat} {ys : List Int} {F : Nat → Prop} {B : Lk} {V W : World} {fr : Frame} {a : Act} {s : List Item} {base : List Frame} (hw : WR (Xs p F) B V W) (hf : FrR (Xs p F) B (bM.at a s) fr)
    (hh : ∀ τ k, ∃ ww : World, HW Vp.prog s (HRet cx cy d n good xs ys ww) a { V with tape := τ, drawn := k }) :
    Co Tryz.prog true base (Ice (Xs p F) B) (PostR (Xs p F) V.heap.size W.heap.size B (Fin Vp.prog (TileQ cx cy d n good xs ys))) (Hot (Xs p F) B) fr [] W := by
  refine (co_of_hw (m := true) (base := base) (whole_s p F) cx_noT (H := fun t a V => ∃ ww, HRet cx cy d n good xs ys ww t a V) (fun t a V τ k ⟨w, h⟩ => ⟨_, hret_blind h τ k⟩) hw hf fun τ k => by
      obtain ⟨ww, h⟩ := hh τ k
      exact h.mono fun t a V x => ⟨ww, x⟩).bind ?_
  rintro L fr1 cs W1 ⟨B1, x, τ, k, hg, ⟨hxc, t, a1, hxf, ww, hH⟩, hw1, hf1, hc, rfl, hn1, hm1⟩
  rw [hxc] at hc
  rw [hxf] at hf1
  cases hc
  obtain ⟨rb, rest, et, _⟩ := id hH
  have hH2 := hret_blind hH τ k
  obtain ⟨e1, har, hds, htd, hk, hfn⟩ := fr_parts hf1
  obtain ⟨k', etd, hk'⟩ : ∃ k', fr1.todo = .code .ret :: k' ∧ TdR (Xs p F) B1 rest k' := by
    rw [et] at htd
    generalize fr1.todo = q at htd
    cases htd with
    | cons hi hk =>
      cases hi with
      | code hc =>
        have hc := hc
        exact ⟨_, by rw [show _ = Code.ret from hc], hk⟩
  rw [etd] at e1
  rw [e1]
  have hIce := ice_gr hw hg
  have l0 := WH.hot (X := Xs p F) (B := B1) ⟨(x.at τ k).V, rfl, hw1⟩
  refine Co.ctl (fr1 := { fr1.at ⟨fr1.tmps, fr1.defers⟩ (.code .ret :: k') with mode := .returning }) (cs1 := []) l0 (fun _ => stepG_ret') fun W2 hr2 => .stop ?_
  rw [← hIce] at hr2
  obtain ⟨v, hv, hq⟩ := leaving_ret hH
  refine ⟨B1, ⟨{ bM.at a1 t with mode := .returning }, [], x.V⟩, W2.tape, W2.drawn, hg, ⟨rfl, v, hv, hq⟩, wr_rely (V := (x.at τ k).V) hw1 hr2, ?_, .nil, rfl, hn1, Nat.le_trans hm1 hr2.1⟩
  have := hf1.withMode .returning
  rw [e1] at this
  exact this
end Go.Proofs.YtokbalggdhippaaGreat
end

section
namespace Go.Proofs.YtokbalggdhippaaGreat.Co
open Go.Conc Go.Proofs.YtokbalggdhippaaGreat.Tl Go.Proofs.YtokbalggdhippaaGreat.Lr Go.Proofs.YtokbalggdhippaaGreat.Bar
theorem main_step {P : Program} {gs : Array Goroutine} {w w1 : World} {sl : Option (Nat × Nat)} {t : Trace} {q : Nat → Nat} {fr fr1 : Frame} {cs cs1 : List Frame} {n : Array Event} {L L1 R : Nat → Prop}
    (h0 : gs[0]? = some (G fr cs)) (hst : stepG P true (G fr cs) w = .go (G fr1 cs1) w1 n) (hdid : Did L R w L1 w1 n) (hR : ∀ b, R b → b < w.heap.size) (hL : Leavers P t gs q) (hP : Past (fun _ => False) w.heap.size t) :
    ∃ gs' ops, runT P (crowd gs w sl) 0 = (.next (crowd gs' w1 sl), ops) ∧ gs'.size = gs.size ∧ gs'[0]? = some (G fr1 cs1) ∧ Leavers P (t ++ ops) gs' q ∧ Past (fun _ => False) w1.heap.size (t ++ ops) := by
  have hrunT := runT_crowd_go (P := P) (sl := sl) (i := 0) h0 (show stepG P (0 == 0) (G fr cs) w = _ from hst)
  have hlt : 0 < gs.size := (Array.getElem?_eq_some_iff.1 h0).1
  refine ⟨_, _, hrunT, by simp, Array.getElem?_setIfInBounds_self_of_lt (by simpa using hlt), ⟨fun j x hj hx => ?_, fun j hj => ?_⟩, (hP.mono hdid.size).own fun e he => evC_evL (hdid.evs e he) hdid.lt fun b hb => Nat.lt_of_lt_of_le (hR b hb) hdid.size⟩
  · have hne : 0 ≠ j := by omega
    rw [Array.getElem?_setIfInBounds_ne hne, Array.getElem?_map] at hx
    obtain ⟨y, hy, rfl⟩ := Option.map_eq_some_iff.1 hx
    have hq := hL.old j y hj hy
    rw [woken_quitsD hq, Deaf_other t (by omega) _ (fun op hop => by obtain ⟨e, _, rfl⟩ := Go.Conc.mem_ofEvents hop; rfl)]
    exact hq
  · rw [Deaf_other t (g' := 0) (by simp at hj; omega) _ (fun op hop => by obtain ⟨e, _, rfl⟩ := Go.Conc.mem_ofEvents hop; rfl)]
    exact hL.above j (by simpa using hj)
end Go.Proofs.YtokbalggdhippaaGreat.Co
end
