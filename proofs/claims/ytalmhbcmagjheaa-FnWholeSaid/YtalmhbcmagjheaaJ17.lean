/- Merged texts: JoiS, JoiT, Law. -/
import Derived.Test.YtalmhbcmagjheaaJ7
import Derived.Test.YtalmhbcmagjheaaJ3
import Derived.Test.YtalmhbcmagjheaaJ9
import Derived.BigQuiet
import Derived.Test.YtalmhbcmagjheaaJ16
import Derived.Test.YtalmhbcmagjheaaJ13
import Derived.Test.YtalmhbcmagjheaaJ15
import Derived.Test.YtalmhbcmagjheaaRows
import Derived.WalkKit
import Derived.ProofKit
import Derived.OpenVars
import Derived.Lib.SmallJoins
section
/- Walks: the laws' sameTile of two tiles whose smooth values are alike. -/
namespace Go.Proofs.Ytalmhbcmagjheaa
open Go.RowKit Flo
attribute [local go_sem] run_store_float run_store_complex

theorem widen_finJ {x : Nat} {a : Int} (h : Val Ieee.single x a) {p : Nat} (hp : Al .f64 (widenC x) p) : Val Ieee.double p (a * (2 ^ wup : Nat)) := by
  obtain ⟨y, hy, hv⟩ := widen_val h
  have e : widenC x = y := by unfold widenC; rw [hy]; rfl
  rw [e] at hp
  rw [Al.same hp (val_nan (k := .f64) hv)]
  exact hv
set_option maxHeartbeats 400000 in
theorem sameSingle_valJ {x y : Nat} {a b : Int} (hx : Val Ieee.single x a) (hy : Val Ieee.single y b) (w : World) :
    Calls Try.prog 31 #[.complex .f32 x y, .complex .f32 x y] w fun e w' => e = .returned (.bool true) ∧ Drw w w' := by
  obtain ⟨p, q, w1, h1, p1, q1, d1, ap, aq⟩ := Flo.cwiden_al (P := Try.prog) 34 84 (by kernel_rfl) Try.underlying84 x y hx.lt hy.lt w
  obtain ⟨p', q', w2, h2, p1', q1', d2, ap', aq'⟩ := Flo.cwiden_al (P := Try.prog) 34 84 (by kernel_rfl) Try.underlying84 x y hx.lt hy.lt w1
  have n1 : nan .f64 p = false := val_nan (k := .f64) (widen_finJ hx ap)
  have n2 : nan .f64 q = false := val_nan (k := .f64) (widen_finJ hy aq)
  have e1 : p' = p := Al.same (ap.symm.trans ap') n1
  have e2 : q' = q := Al.same (aq.symm.trans aq') n2
  subst e1 e2
  have H1 := Lib.hid (alikeFloat_refl p' n1)
  have H2 := Lib.hid (alikeFloat_refl q' n2)
  have HD := Lib.hid (d1.trans d2)
  clear n1 n2 ap aq ap' aq' d1 d2 hx hy
  go_enter Try.func31, Try.ntmps31
  go_wp2_with fail
  go_enter Try.func44, Try.ntmps44
  go_wp2_with fail
  refine (H1.out _).mono ?_
  rintro e w3 ⟨rfl, rfl⟩
  go_wp2_with fail
  refine (H2.out _).mono ?_
  rintro e w3 ⟨rfl, rfl⟩
  go_wp2
  go_ret
  exact ⟨rfl, HD.out⟩
set_option maxHeartbeats 400000 in
theorem sameSmall_al (x y : Nat) (hx : x < 4294967296) (h : Al .f32 x y) (w : World) :
    Calls Try.prog 32 #[.float .f32 x, .float .f32 y] w fun e w' => e = .returned (.bool true) ∧ Drw w w' := by
  rcases h with rfl | ⟨n1, n2⟩
  · exact sameSmall_self x hx w
  · obtain ⟨p, hp, hpn⟩ := run_convert_nan64 41 67 (by kernel_rfl) Try.underlying67 n1 w
    obtain ⟨q, hq, hqn⟩ := run_convert_nan64 41 67 (by kernel_rfl) Try.underlying67 n2 w.drew
    have H := Lib.hid (alikeFloat_nan p q hpn hqn)
    clear hpn hqn n1 n2
    go_enter Try.func32, Try.ntmps32
    go_wp2_with (go_at_call 45; refine (H.out _).mono ?_; rintro e w' ⟨rfl, rfl⟩)
    go_ret
    exact ⟨rfl, (Drw.refl w).drew.drew⟩
set_option maxRecDepth 100000 in
set_option maxHeartbeats 2000000 in
theorem sameTile_al {cx cy : Nat} {da db : Int} (hcx : Val Ieee.single cx da) (hcy : Val Ieee.single cy db) (deep size : Int) (a1 b1 a2 b2 : Option Addr) (c1 e1 c2 e2 : Nat) (xs xs' : List Nat) (ys : List Int) (n : Nat) (hn : n ≤ 1048576) (m : Nat) (hm : ys.length = m) (hmm : m ≤ 1048576) (hx : ∀ k, k < n → ∃ x y, xs[k]? = some x ∧ xs'[k]? = some y ∧ x < 4294967296 ∧ Al .f32 x y) (w : World) (s1 : Sl w a1 (xs.map floV)) (t1 : Sl w b1 (xs'.map floV)) (s2 : Sl w a2 (ys.map intV)) (t2 : Sl w b2 (ys.map intV)) :
    Calls Try.prog 16 #[.agg #[.complex .f32 cx cy, .int .i64 deep, .int .i64 size, .slice a1 n c1, .slice a2 m c2], .agg #[.complex .f32 cx cy, .int .i64 deep, .int .i64 size, .slice b1 n e1, .slice b2 m e2]] w fun e w' => e = .returned (.bool true) ∧ Below w.heap.size w w' := by
  subst hm
  have X0 : Box w w.heap.size #[.complex .f32 cx cy, .int .i64 deep, .int .i64 size, .slice a1 n c1, .slice a2 ys.length c2] 37 ((w.alloc (.cells #[.complex .f32 cx cy, .int .i64 deep, .int .i64 size, .slice a1 n c1, .slice a2 ys.length c2] 37)).alloc (.cells #[.complex .f32 cx cy, .int .i64 deep, .int .i64 size, .slice b1 n e1, .slice b2 ys.length e2] 37)) := (Box.new w _ _).alloc _
  have X1 : Box w (w.heap.size + 1) #[.complex .f32 cx cy, .int .i64 deep, .int .i64 size, .slice b1 n e1, .slice b2 ys.length e2] 37 ((w.alloc (.cells #[.complex .f32 cx cy, .int .i64 deep, .int .i64 size, .slice a1 n c1, .slice a2 ys.length c2] 37)).alloc (.cells #[.complex .f32 cx cy, .int .i64 deep, .int .i64 size, .slice b1 n e1, .slice b2 ys.length e2] 37)) := by
    have := (Box.new (w.alloc (.cells #[.complex .f32 cx cy, .int .i64 deep, .int .i64 size, .slice a1 n c1, .slice a2 ys.length c2] 37)) #[.complex .f32 cx cy, .int .i64 deep, .int .i64 size, .slice b1 n e1, .slice b2 ys.length e2] 37).up (w0 := w) ((Below.refl _ _).alloc (Nat.le_refl _) _)
    rwa [World.size_alloc] at this
  have HX0 := Lib.hid X0
  have HX1 := Lib.hid X1
  have HA := Lib.hid (s1.step X0.old)
  have HB := Lib.hid (t1.step X0.old)
  have HS := Lib.hid (fun W (k : Below w.heap.size w W) => sameInts_same a2 b2 c2 e2 ys hmm W (s2.step k) (t2.step k))
  have HC := Lib.hid (fun W => sameSingle_valJ hcx hcy W)
  have HE := Lib.hid (fun k (h : k < n) => show ∃ x y, x < 4294967296 ∧ Al .f32 x y ∧ (xs.map floV)[k]? = some (.float .f32 x) ∧ (xs'.map floV)[k]? = some (.float .f32 y) from by
    obtain ⟨x, y, h1, h2, h3, h4⟩ := hx k h
    exact ⟨x, y, h3, h4, by rw [List.getElem?_map, h1]; rfl, by rw [List.getElem?_map, h2]; rfl⟩)
  clear X0 X1 s1 t1 s2 t2 hcx hcy hx
  obtain ⟨r0, r1, r2, r3, r4⟩ := HX0.out.cells5
  obtain ⟨z0, z1, z2, z3, z4⟩ := HX1.out.cells5
  go_enter Try.func16, Try.ntmps16
  go_wp2_with fail
  with_reducible refine (HC.out _).mono ?_
  rintro e w1 ⟨rfl, hd⟩
  have HX01 := Lib.hid (HX0.out.step (hd.below _))
  have HX11 := Lib.hid (HX1.out.step (hd.below _))
  have HA1 := Lib.hid (HA.out.drw hd)
  have HB1 := Lib.hid (HB.out.drw hd)
  clear hd HA HB HX0 HX1 r0 r1 r2 r3 r4 z0 z1 z2 z3 z4
  obtain ⟨r0, r1, r2, r3, r4⟩ := HX01.out.cells5
  obtain ⟨z0, z1, z2, z3, z4⟩ := HX11.out.cells5
  go_wp2
  go_loopw [5] (fun i wr => ∃ k : Nat, k ≤ n ∧ i = .int .i64 k ∧ Hid (Drw w1 wr)) (fun i _ => (n - intOf i).toNat)
  case atStart => exact ⟨0, by omega, rfl, Drw.refl _⟩
  case round =>
    obtain ⟨k, hk, rfl, HD⟩ := hrel
    have HY0 := Lib.hid (HX01.out.step (HD.out.below _))
    have HY1 := Lib.hid (HX11.out.step (HD.out.below _))
    clear r0 r1 r2 r3 r4 z0 z1 z2 z3 z4
    obtain ⟨r0, r1, r2, r3, r4⟩ := HY0.out.cells5
    obtain ⟨z0, z1, z2, z3, z4⟩ := HY1.out.cells5
    by_cases hlt : k < n
    · obtain ⟨x, y, hx, hal, hxe, hye⟩ := HE.out k hlt
      obtain ⟨b1, o1, rfl, hc1⟩ := (HA1.out.drw HD.out).at hxe
      obtain ⟨b2, o2, rfl, hc2⟩ := (HB1.out.drw HD.out).at hye
      have HF := Lib.hid (fun W => sameSmall_al x y hx hal W)
      clear hxe hye hal
      go_upto_region 6 with fail
      go_quiet ((go_at_call 32; exact quiet_drw (HF.out _)))
      have HD2 := Lib.hid (HD.out.drewN nq)
      go_wp2
      go_roundw
      case rel => exact ⟨k + 1, by omega, by go_num, HD2⟩
      case measure => simp [intOf]; omega
    · have HO := Lib.hid HY0.out.old
      go_wp2_with fail
      with_reducible refine (HS.out _ HO.out).mono ?_
      rintro e w2 ⟨rfl, hd⟩
      have HO2 := Lib.hid (HO.out.trans (hd.below _))
      go_wp2
      go_ret
      exact ⟨rfl, HO2.out⟩
/-- the zero tile is itself -/
theorem sameTile_zero (w : World) : Calls Try.prog 16 #[.agg #[.complex .f32 0 0, .int .i64 0, .int .i64 0, .slice none 0 0, .slice none 0 0], .agg #[.complex .f32 0 0, .int .i64 0, .int .i64 0, .slice none 0 0, .slice none 0 0]] w fun e w' => e = .returned (.bool true) ∧ Below w.heap.size w w' := by
  have hz : Val Ieee.single 0 0 := ⟨by decide, by unfold Flo.fin; decide, by decide +kernel⟩
  exact sameTile_al hz hz 0 0 none none none none 0 0 0 0 [] [] [] 0 (by decide) 0 rfl (by decide) (fun k h => by omega) w (.inl rfl) (.inl rfl) (.inl rfl) (.inl rfl)
end Go.Proofs.Ytalmhbcmagjheaa
end

section
/- Words for the laws of joined tiles. -/
namespace Go.Proofs.Ytalmhbcmagjheaa
open Go.RowKit Flo

theorem JoinRes.not {w w' : World} {L : List JT} {t0 : JT} {e : Ending} (h : JoinRes w L t0 e w') (hF : ¬ FitW L t0) : e = .returned (.tuple #[.agg #[.complex .f32 0 0, .int .i64 0, .int .i64 0, .slice none 0 0, .slice none 0 0], .bool false]) ∧ Below w.heap.size w w' := by
  obtain ⟨hb, ⟨-, rfl⟩ | ⟨h, -⟩⟩ := h
  · exact ⟨rfl, hb⟩
  · exact absurd h hF
/-- a joined tile, with its rows -/
structure JOut (B : Nat) (L : List JT) (n : Nat) (a1 : Option Addr) (c1 : Nat) (a2 : Option Addr) (c2 : Nat) (xs : List Nat) (ys : List Int) (W : World) : Prop where
  s1 : Sl W a1 (xs.map floV)
  s2 : Sl W a2 (ys.map intV)
  lx : xs.length = n * n
  ly : ys.length = n * n
  hx : ∀ x, x ∈ xs → x < 4294967296
  hy : ∀ y, y ∈ ys → -1 ≤ y ∧ y ≤ 1
  jx : JX (JXs L) n (n * n) xs
  jy : ys = jys (JYs L) n
theorem JOut.step {B n : Nat} {L : List JT} {a1 : Option Addr} {c1 : Nat} {a2 : Option Addr} {c2 : Nat} {xs : List Nat} {ys : List Int} {W W' : World} (h : JOut B L n a1 c1 a2 c2 xs ys W) (k : Below W.heap.size W W') : JOut B L n a1 c1 a2 c2 xs ys W' :=
  ⟨h.s1.step k, h.s2.step k, h.lx, h.ly, h.hx, h.hy, h.jx, h.jy⟩
theorem JoinRes.fit {w w' : World} {L : List JT} {t0 : JT} {e : Ending} (h : JoinRes w L t0 e w') (hF : FitW L t0) {n : Nat} (hn : t0.size = n) (hn1 : 1 ≤ n) : ∃ a1 c1 a2 c2 xs ys, e = .returned (.tuple #[.agg #[.complex .f32 t0.cx t0.cy, .int .i64 (t0.deep - 1), .int .i64 n, .slice a1 (n * n) c1, .slice a2 (n * n) c2], .bool true]) ∧ JOut w.heap.size L n a1 c1 a2 c2 xs ys w' ∧ Below w.heap.size w w' := by
  obtain ⟨hb, ⟨h, -⟩ | ⟨-, xs, ys, smv, mkv, rfl, M, hX, hY⟩⟩ := h
  · exact absurd hF h
  · rw [hn] at M hX hY ⊢
    rw [Int.toNat_natCast] at M hX hY
    have hp : 0 < n * n := Nat.mul_pos hn1 hn1
    obtain ⟨gs, cs, rfl, -, -⟩ := ownsRow_form M.S hp
    obtain ⟨gm, cm, rfl, -, -⟩ := ownsRow_form M.M hp
    exact ⟨_, cs, _, cm, xs, ys, rfl, ⟨sl_of_own M.S, sl_of_own M.M, M.lx, M.ly, M.hx, M.hy, hX, hY⟩, hb⟩
theorem Al.symm' {k : FloatKind} {x y : Nat} (h : Al k x y) : Al k y x := h.symm
/-- two joins of the same tiles are alike -/
theorem JX.alike {X : Nat → List Nat} {n m : Nat} {xs xs' : List Nat} (h : JX X n m xs) (h' : JX X n m xs') (k : Nat) (hk : k < m) : ∃ x y, xs[k]? = some x ∧ xs'[k]? = some y ∧ x < 4294967296 ∧ Al .f32 x y := by
  have e1 := List.getElem?_eq_getElem (l := xs) (i := k) (by rw [h.1]; exact hk)
  have e2 := List.getElem?_eq_getElem (l := xs') (i := k) (by rw [h'.1]; exact hk)
  obtain ⟨a1, b1⟩ := h.2 _ _ e1
  obtain ⟨a2, b2⟩ := h'.2 _ _ e2
  exact ⟨_, _, e1, e2, b1, a1.symm.trans a2⟩
/-- the corner of a fitting tile is a number -/
theorem JT.Ok.vals {t : JT} {B : Nat} {W : World} (h : t.Ok B W) : ∃ da db, Val Ieee.single t.cx da ∧ Val Ieee.single t.cy db := by
  obtain ⟨d', A, B', hd', hd, hA, hB, -, -, ha, hb⟩ := place_pts h.bx h.by1 h.pl
  exact ⟨_, _, hA, hB⟩
def sumJ (Y : Nat → List Int) (v : Int) : Nat → Nat
  | 0 => 0
  | k + 1 => sumJ Y v k + cnt v (Y k)
theorem sumJ_le {Y : Nat → List Int} (hY : ∀ q, q < 4 → (Y q).length ≤ 64) (v : Int) : ∀ k, k ≤ 4 → sumJ Y v k ≤ 64 * k
  | 0, _ => Nat.zero_le _
  | k + 1, h => by
    have h1 := sumJ_le hY v k (by omega)
    have h2 := cnt_le v (Y k)
    have h3 := hY k (by omega)
    show sumJ Y v k + cnt v (Y k) ≤ _
    omega
end Go.Proofs.Ytalmhbcmagjheaa
end

section
/- What closes a law: from 'the call returns true and leaves old memory as it was' to the given row's post. -/
namespace Go.Proofs.Ytalmhbcmagjheaa
open Go.ChangeShapes Go.WideShapes Go.ChangeAt Go.RowKit

theorem own : ownKnob Try.prog.godebug = none := by kernel_rfl
theorem laidOut : laidOutB Try.prog = true := by kernel_rfl

/-- each parameter's type can be read and is a row of the table -/
def parsRowed (P : Program) (ts : List TypeId) : Bool := ts.all fun t => P.readableRec t && decide (t < P.types.size)

theorem trodAll_below {H : Type} {enc : TypeId × Value → H} {P : Program} (hl : laidOutB P = true) {W W' : World} (hb : Below W.heap.size W W') :
    ∀ {ts : List TypeId} {vs : List Value} {ds : List (DataW H)} {ps : List MemPlace}, parsRowed P ts = true →
      DataW.TrodAll enc P W 0 (fun _ => true) true ts vs ds ps → (∀ x ∈ ps, x.block < W.heap.size) →
      DataW.TrodAll enc P W' 0 (fun b => decide (b < W.heap.size)) true ts vs ds ps
  | [], [], [], _, _, h, _ => h
  | [], [], _ :: _, _, _, h, _ => h.elim
  | [], _ :: _, _, _, _, h, _ => h.elim
  | _ :: _, [], _, _, _, h, _ => h.elim
  | _ :: _, _ :: _, [], _, _, h, _ => h.elim
  | t :: ts, v :: vs, d :: ds, ps, hv, h, hlt => by
    obtain ⟨p, q, h1, h2, rfl⟩ := h
    simp only [parsRowed, List.all_cons, Bool.and_eq_true, decide_eq_true_eq] at hv
    exact ⟨p, q, Below.trod hl hv.1.1 hv.1.2 h1 hb (fun x hx => hlt x (by simp [hx])),
      trodAll_below hl hb (by simpa [parsRowed] using hv.2) h2 (fun x hx => hlt x (by simp [hx])), rfl⟩

/-- THE POST OF A LAW -/
theorem law_post {H : Type} {enc : TypeId × Value → H} {P : Program} {fn : Func} {s : ChangeSpec} {apart : Bool} {W W' : World} {args : Array Value} {ds gs : List (DataW H)} {before : List MemPlace} {tb : TypeId}
    (hl : laidOutB P = true) (hp : parsRowed P fn.params.toList = true) (hvr : varsRowed P s.vars = true) (hr : fn.resultTypes = #[tb]) (htb : P.underlying tb = some .bool)
    (hW : DataW.Whole enc P fn.params.toList s.vars apart W args.toList ds gs before)
    (hs : (s.fn H (ds ++ gs)).results = [.lit (.bool true)]) (ha : (s.fn H (ds ++ gs)).args = ds) (hv : (s.fn H (ds ++ gs)).vars = gs)
    (hb : Below W.heap.size W W') : s.post enc P fn apart true false false W args (.bool true) W' := by
  have hlt := hW.lt
  have hW2 := hW
  obtain ⟨p, q, hA, hV, rfl, hz, hn⟩ := hW
  refine ⟨ds, gs, p ++ q, [], p, q, hW2, ?_, ?_, ?_, ?_, fun h => by cases h⟩
  · rw [hs, hr]
    exact trodAll_mk1 (shut_bool htb true)
  · rw [ha]
    exact trodAll_below hl hb hp hA (fun x hx => hlt x (by simp [hx]))
  · rw [hv]
    exact Below.trodVars hl hb hvr hV
  · exact hb.frame _
/-- a struct of two ints, by value -/
theorem open_angle {H : Type} {enc : TypeId × Value → H} {P : Program} {w : World} {base : Nat} {spare : Nat → Bool} {held : Bool} {r : Reach} {b0 : Nat} {t : TypeId} {f0 f1 : Field} {v : Value} {d : DataW H} {p : List MemPlace}
    (hs : P.underlying t = some (.struct #[f0, f1])) (hone : Deep.oneCellFields P #[f0, f1] = true) (hC : P.cellsOf t = 2) (h0 : P.underlying f0.type = some (.int .i64)) (h1 : P.underlying f1.type = some (.int .i64))
    (hv : Value.okWide P w r b0 t v) (h : DataW.Trod enc P w base spare held t v d p) :
    ∃ x y : Int, v = .agg #[.int .i64 x, .int .i64 y] ∧ (Lit.int .i64 x).wf = true ∧ (Lit.int .i64 y).wf = true := by
  obtain ⟨c0, c1, y0, y1, m, rfl, rfl, rfl, hy0, hy1⟩ := Joins.open_agg2 hs hone hC hv h
  obtain ⟨a, e0, rfl, wa⟩ := DataW.trod_int h0 hy0
  obtain ⟨b, e1, rfl, wb⟩ := DataW.trod_int h1 hy1
  simp at e0 e1
  subst e0 e1
  exact ⟨a, b, rfl, wa, wb⟩
open Go.Deep in
/-- a struct of five fields of one cell each, by value -/
theorem open_agg5 {H : Type} {enc : TypeId × Value → H} {P : Program} {w : World} {base : Nat} {spare : Nat → Bool} {held : Bool} {r : Reach} {b0 : Nat} {t : TypeId} {f0 f1 f2 f3 f4 : Field} {v : Value} {d : DataW H} {p : List MemPlace} (hs : P.underlying t = some (.struct #[f0, f1, f2, f3, f4])) (hone : oneCellFields P #[f0, f1, f2, f3, f4] = true) (hC : P.cellsOf t = 5)
    (hv : Value.okWide P w r b0 t v) (h : DataW.Trod enc P w base spare held t v d p) :
    ∃ (v0 v1 v2 v3 v4 : Value) (y0 y1 y2 y3 y4 : DataW H × List MemPlace) (n : Nat), v = .agg #[v0, v1, v2, v3, v4] ∧
      DataW.trod enc P w base spare held n f0.type [v0] = some y0 ∧ DataW.trod enc P w base spare held n f1.type [v1] = some y1 ∧ DataW.trod enc P w base spare held n f2.type [v2] = some y2 ∧ DataW.trod enc P w base spare held n f3.type [v3] = some y3 ∧ DataW.trod enc P w base spare held n f4.type [v4] = some y4 := by
  obtain ⟨cs, rfl, hsz⟩ := okWide_struct hs hv
  obtain ⟨c0, c1, c2, c3, c4, rfl⟩ : ∃ c0 c1 c2 c3 c4, cs = #[c0, c1, c2, c3, c4] := by
    replace hsz := hsz.trans hC
    obtain ⟨l⟩ := cs
    match l, hsz with
    | [c0, c1, c2, c3, c4], _ => exact ⟨c0, c1, c2, c3, c4, rfl⟩
  obtain ⟨fuel, hf⟩ := h
  obtain ⟨xs, n, _, _, hl, hlen, hf⟩ := DataW.trod_struct hs hf
  obtain ⟨o0, k0⟩ := hone_of hone 0 f0 rfl
  obtain ⟨o1, k1⟩ := hone_of hone 1 f1 rfl
  obtain ⟨o2, k2⟩ := hone_of hone 2 f2 rfl
  obtain ⟨o3, k3⟩ := hone_of hone 3 f3 rfl
  obtain ⟨o4, k4⟩ := hone_of hone 4 f4 rfl
  match xs, hlen with
  | [y0, y1, y2, y3, y4], _ =>
    have g0 := by simpa using hf 0 f0 rfl
    have g1 := by simpa using hf 1 f1 rfl
    have g2 := by simpa using hf 2 f2 rfl
    have g3 := by simpa using hf 3 f3 rfl
    have g4 := by simpa using hf 4 f4 rfl
    exact ⟨c0, c1, c2, c3, c4, y0, y1, y2, y3, y4, n, rfl, by simpa [Value.cells, o0, k0] using g0, by simpa [Value.cells, o1, k1] using g1, by simpa [Value.cells, o2, k2] using g2, by simpa [Value.cells, o3, k3] using g3, by simpa [Value.cells, o4, k4] using g4⟩
theorem list_of {α : Type} {f : α → Value} {R : α → Prop} {V : Nat → Value} : ∀ {len : Nat}, (∀ i, i < len → ∃ x, V i = f x ∧ R x) → ∃ X : List α, X.length = len ∧ ∀ i x, X[i]? = some x → V i = f x ∧ R x
  | 0, _ => ⟨[], rfl, by simp⟩
  | k + 1, hV => by
    obtain ⟨X, hX, hX2⟩ := list_of (len := k) (fun i hi => hV i (by omega))
    obtain ⟨x, hx⟩ := hV k (by omega)
    refine ⟨X ++ [x], by simp [hX], fun i u hu => ?_⟩
    by_cases hi : i < X.length
    · rw [List.getElem?_append_left hi] at hu; exact hX2 i u hu
    · rw [List.getElem?_append_right (by omega)] at hu
      have : i - X.length = 0 := by
        rcases Nat.eq_zero_or_pos (i - X.length) with h | h
        · exact h
        · rw [List.getElem?_eq_none (by simp; omega)] at hu; cases hu
      rw [this] at hu
      simp at hu
      subst hu
      obtain rfl : i = k := by omega
      exact hx
/-- a slice that came in, its elements of one cell -/
theorem open_sl {H : Type} {enc : TypeId × Value → H} {P : Program} {w : World} {base : Nat} {spare : Nat → Bool} {held : Bool} {t e : TypeId} {α : Type} {f : α → Value} {R : α → Prop} (ht : P.underlying t = some (.slice e)) (hc : P.cellsOf e = 1)
    (he : ∀ n v (y : DataW H × List MemPlace), DataW.trod enc P w base spare held n e [v] = some y → ∃ x, v = f x ∧ R x) {n : Nat} {v : Value} {y : DataW H × List MemPlace} (h : DataW.trod enc P w base spare held n t [v] = some y) :
    ∃ (a : Option Addr) (c : Nat) (xs : List α), v = .slice a xs.length c ∧ xs.length ≤ maxLen ∧ Sl w a (xs.map f) ∧ (∀ x ∈ xs, R x) ∧ xs.length ≤ c := by
  rcases Deep.open_slice1 ht hc h with ⟨h, _⟩ | ⟨a, len, cap, m, n, V, D, Pl, hcs, _, hl, hm, hmm, _, hx⟩
  · simp at h; exact ⟨none, 0, [], h, Nat.zero_le _, .inl rfl, by simp, Nat.le_refl _⟩
  · have hlm : len ≤ m := by rw [hmm]; split <;> omega
    have hV : ∀ i, i < len → ∃ x, V i = f x ∧ R x := fun i hi => he _ _ _ (hx i (by omega)).2
    obtain ⟨X, hX, hX2⟩ := list_of hV
    simp at hcs
    subst hcs
    refine ⟨some a, cap, X, by rw [hX], by omega, ?_, fun x hx => ?_, by omega⟩
    · by_cases h0 : len = 0
      · exact .inl (by rw [List.eq_nil_of_length_eq_zero (show X.length = 0 by omega)]; rfl)
      · have hspot : a = ⟨a.block, a.off, none⟩ := by
          have := (hx 0 (by omega)).1
          obtain ⟨b, o, s⟩ := a
          cases s with
          | none => rfl
          | some s => simp [Addr.add, World.cell?] at this; split at this <;> simp at this
        refine .inr ⟨a.block, a.off, by rw [← hspot], fun i v hv => ?_⟩
        rw [List.getElem?_map] at hv
        obtain ⟨x, hx1, rfl⟩ := Option.map_eq_some_iff.1 hv
        have hi : i < len := by
          have := (List.getElem?_eq_some_iff.1 hx1).1; omega
        rw [← (hX2 i x hx1).1, ← (hx i (by omega)).1]
        congr 1
        unfold Addr.add
        by_cases hi0 : i = 0
        · rw [if_pos hi0, hi0, Nat.add_zero]; exact hspot.symm
        · rw [if_neg hi0]
    · obtain ⟨i, hi, rfl⟩ := List.getElem_of_mem hx
      exact (hX2 i _ (List.getElem?_eq_getElem hi)).2
/-- bytes that came in -/
theorem open_bytes {H : Type} {enc : TypeId × Value → H} {P : Program} {w : World} {base : Nat} {spare : Nat → Bool} {held : Bool} {r : Reach} {b0 : Nat} {t e : TypeId} {v : Value} {d : DataW H} {p : List MemPlace} (ht : P.underlying t = some (.slice e)) (hu : P.underlying e = some (.int .u8)) (hc : P.cellsOf e = 1)
    (hv : Value.okWide P w r b0 t v) (h : DataW.Trod enc P w base spare held t v d p) : ∃ (a : Option Addr) (c : Nat) (bs : List UInt8), v = .slice a bs.length c ∧ bs.length ≤ maxLen ∧ bs.length ≤ c ∧ Sl w a (bs.map byteV) := by
  obtain ⟨fuel, hf⟩ := h
  obtain ⟨a, l, c, rfl⟩ : ∃ a l c, v = .slice a l c := okWide_slice ht hv
  obtain ⟨a, c, xs, e, hn, hS, _, hc⟩ := open_sl (f := byteV) (R := fun _ => True) ht hc (fun n v y hy => by
    obtain ⟨x, e, _, hw⟩ := DataW.trod_int hu hy
    simp at e
    subst e
    have : x.toNat < 256 ∧ 0 ≤ x := by simp [Lit.wf, IntKind.min, IntKind.max, IntKind.signed, IntKind.bits] at hw; omega
    refine ⟨⟨⟨x.toNat, by omega⟩⟩, ?_, trivial⟩
    unfold byteV
    congr 1
    show x = (x.toNat : Int)
    omega) (by simpa [Value.cells] using hf)
  exact ⟨a, c, xs, e, hn, hc, hS⟩
end Go.Proofs.Ytalmhbcmagjheaa
end
