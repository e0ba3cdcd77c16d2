/- Merged texts: BlH, SiF, RkP, Law. -/
import Derived.Test.YtokbalggdhippaaGreatQ51
import Derived.Test.YtokbalggdhippaaGreatQ46
import Derived.Test.YtokbalggdhippaaGreatQ4
import Derived.Test.YtokbalggdhippaaGreatQ3
import Derived.Test.YtokbalggdhippaaGreatRows
import Derived.WalkKit
import Derived.ProofKit
import Derived.OpenVars
import Derived.Lib.SmallJoins
set_option linter.all false
section
namespace Go.Proofs.YtokbalggdhippaaGreat
open Go.RowKit Flo
attribute [local go_sem ↓] Go.wp_at_zero Go.wp_at_succ
attribute [local go_sem] run_store_float run_store_complex
theorem sameRecs {most : Int} {t u : TRec} {B B' : Nat} {W : World} (ht : TOwn B t W) (hu : TOwn B' u W) (gt : TGood most t) (gu : TGood most u) (ex : t.cx = u.cx) (ey : t.cy = u.cy) (ed : t.deep = u.deep) (es : t.size = u.size) :
    Calls Vp.prog 10 #[.agg #[.complex .f32 t.cx t.cy, .int .i64 t.deep, .int .i64 t.size, .slice (some ⟨t.gs, 0, none⟩) t.n t.cs, .slice (some ⟨t.gm, 0, none⟩) t.n t.cm], .agg #[.complex .f32 u.cx u.cy, .int .i64 u.deep, .int .i64 u.size, .slice (some ⟨u.gs, 0, none⟩) u.n u.cs, .slice (some ⟨u.gm, 0, none⟩) u.n u.cm]] W fun e w' => e = .returned (.bool true) ∧ Below W.heap.size W w' := by
  obtain ⟨e1, e2⟩ := gt.same gu ex ey ed es
  have en : u.n = t.n := by unfold TRec.n; rw [es]
  obtain ⟨d, s, a, b, h1, h2, h3, -, -⟩ := gt
  obtain ⟨d', s', k1, k2, k3, k4, k5, k6⟩ := gu.n
  have hn : t.n ≤ 64 := by
    rw [← en, k3]
    exact Nat.mul_le_mul k5 k5
  obtain ⟨l1, l2⟩ := ht.lens
  have S1 := sl_of_own ht.made.S
  have S2 := sl_of_own ht.made.M
  have T1 := sl_of_own hu.made.S
  have T2 := sl_of_own hu.made.M
  rw [← e1] at T1
  rw [← e2] at T2
  rw [← ex, ← ey, ← ed, ← es, en]
  exact sameTile_al h3.px h3.py t.deep t.size _ _ _ _ t.cs u.cs t.cm u.cm t.xs t.xs t.ys t.n (by omega) t.n l2 (by omega) (fun k hk => ⟨t.xs[k]'(by omega), t.xs[k]'(by omega), List.getElem?_eq_getElem (by omega), List.getElem?_eq_getElem (by omega), ht.made.hx _ (List.getElem_mem _), Al.refl _ _⟩) W S1 T1 S2 T2
theorem PathOut.parts {w w' : World} {cx cy : Nat} {deep size most : Int} {bs : List UInt8} {e : Ending} (h : PathOut w cx cy deep size most bs e w') :
    (¬ PathOK cx cy deep size bs ∧ e = .returned (.tuple #[.agg #[.complex .f32 0 0, .int .i64 0, .int .i64 0, .slice none 0 0, .slice none 0 0], .bool false]) ∧ Below w.heap.size w w') ∨
    (∃ (t : TRec) (d0 dd : Nat), e = .returned (.tuple #[.agg #[.complex .f32 t.cx t.cy, .int .i64 t.deep, .int .i64 t.size, .slice (some ⟨t.gs, 0, none⟩) t.n t.cs, .slice (some ⟨t.gm, 0, none⟩) t.n t.cm], .bool true]) ∧ Below w.heap.size w w' ∧ TOwn w.heap.size t w' ∧ TGood most t ∧ t.size = size ∧ deep = d0 ∧ t.deep = dd ∧ MkP cx cy deep size ∧ PathR size bs cx cy d0 t.cx t.cy dd) := by
  obtain ⟨hb, ⟨rfl, h⟩ | ⟨t, d0, dd, rfl, h1, h2, h3, h4, h5, h6, h7⟩⟩ := h
  · exact .inl ⟨h, rfl, hb⟩
  · exact .inr ⟨t, d0, dd, rfl, hb, h1, h2, h3, h4, h5, h6, h7⟩
set_option maxRecDepth 100000 in
set_option maxHeartbeats 16000000 in
theorem FnPath_walk (w : World) (a : Option Addr) (c : Nat) (bs : List UInt8) (_ : bs.length ≤ maxLen) (hc : bs.length ≤ c) (hs : Sl w a (bs.map byteV)) :
    Calls Vp.prog 3 #[.slice a bs.length c] w fun e _ => e = .returned (.bool true) := by
  by_cases hb : 1048576 < bs.length
  · go_enter Vp.func3, Tryz.ntmps3
    go_wp2
    go_ret
    rfl
  have H := Lib.hid (drawPath_any a c bs (by omega) hc w hs)
  clear hs
  go_enter Vp.func3, Tryz.ntmps3
  go_wp2_with fail
  refine H.out.mono ?_
  rintro e w1 ⟨⟨cx, cy, deep, size, most, p, rfl, hx, hy, hp⟩, hb1⟩
  have HSP := Lib.hid (fun W => specPath_is cx cy deep size most p (by omega) hx hy W)
  clear H hb1
  go_wp2_with fail
  refine (implPath_is cx cy deep size most p (by omega) hx hy _).mono ?_
  intro e w2 h2
  obtain ⟨hno, rfl, hb2⟩ | ⟨t, d0, dd, rfl, hb2, ht, hg, hsz, hd0, hdd, hmk, hpath⟩ := h2.parts
  · 
    have HNO := Lib.hid hno
    have X := (Box.new w2 #[.complex .f32 0 0, .int .i64 0, .int .i64 0, .slice none 0 0, .slice none 0 0] 29)
    obtain ⟨x0, x1, x2, x3, x4⟩ := X.cells5
    have HX := Lib.hid X
    clear h2 hno X
    go_wp2_with fail
    refine (HSP.out _).mono ?_
    intro e w3 h3
    obtain ⟨-, rfl, hb3⟩ | ⟨u, e0, ee, rfl, -, -, -, -, k1, k2, k3, k4⟩ := h3.parts
    · have Y := Lib.hid ((HX.out.step hb3).alloc (.cells #[.complex .f32 0 0, .int .i64 0, .int .i64 0, .slice none 0 0, .slice none 0 0] 29))
      clear x0 x1 x2 x3 x4
      obtain ⟨x0, x1, x2, x3, x4⟩ := Y.out.cells5
      have YY := Box.new w3 #[.complex .f32 0 0, .int .i64 0, .int .i64 0, .slice none 0 0, .slice none 0 0] 29
      obtain ⟨y0, y1, y2, y3, y4⟩ := YY.cells5
      have HS := Lib.hid sameTile_zero
      have HY := Lib.hid YY
      clear h3 hb3 HX YY
      go_wp2_with fail
      refine (HS.out _).mono ?_
      rintro e w4 ⟨rfl, hb4⟩
      clear x0 x1 x2 x3 x4 y0 y1 y2 y3 y4
      obtain ⟨x0, x1, x2, x3, x4⟩ := (Y.out.step hb4).cells5
      obtain ⟨y0, y1, y2, y3, y4⟩ := (HY.out.step hb4).cells5
      go_wp2_with fail
      refine (HS.out _).mono ?_
      rintro e w5 ⟨rfl, -⟩
      go_wp2
      go_ret
      rfl
    · exact absurd ⟨k3, e0, _, _, _, k1, k4⟩ HNO.out
  · have HG := Lib.hid hg
    have HMK := Lib.hid hmk
    have HP := Lib.hid hpath
    have X := ((Box.new w2 #[.complex .f32 t.cx t.cy, .int .i64 t.deep, .int .i64 t.size, .slice (some ⟨t.gs, 0, none⟩) t.n t.cs, .slice (some ⟨t.gm, 0, none⟩) t.n t.cm] 29))
    obtain ⟨x0, x1, x2, x3, x4⟩ := X.cells5
    have HX := Lib.hid X
    have HT := Lib.hid (ht.step ((Below.refl _ _).alloc (Nat.le_refl _) (.cells #[.complex .f32 t.cx t.cy, .int .i64 t.deep, .int .i64 t.size, .slice (some ⟨t.gs, 0, none⟩) t.n t.cs, .slice (some ⟨t.gm, 0, none⟩) t.n t.cm] 29)))
    have HSZ := Lib.hid hsz
    have HD0 := Lib.hid hd0
    have HDD := Lib.hid hdd
    clear h2 X ht hg hmk hpath hsz hd0 hdd
    go_wp2_with fail
    refine (HSP.out _).mono ?_
    intro e w3 h3
    obtain ⟨hno, -, -⟩ | ⟨u, e0, ee, rfl, hb3, hu, hgu, hus, k1, k2, -, k4⟩ := h3.parts
    · exact absurd ⟨HMK.out, d0, _, _, _, HD0.out, HP.out⟩ hno
    · obtain rfl : d0 = e0 := Int.ofNat_inj.1 (HD0.out.symm.trans k1)
      obtain ⟨q1, q2, q3⟩ := HP.out.fn k4
      have hdp := HP.out.len
      have hlen : p.data.toList.length = p.size := by rw [Array.length_toList]; rfl
      rw [hlen] at hdp
      have Y := Lib.hid ((HX.out.step hb3).alloc (.cells #[.complex .f32 u.cx u.cy, .int .i64 u.deep, .int .i64 u.size, .slice (some ⟨u.gs, 0, none⟩) u.n u.cs, .slice (some ⟨u.gm, 0, none⟩) u.n u.cm] 29))
      have YY := Lib.hid (Box.new w3 #[.complex .f32 u.cx u.cy, .int .i64 u.deep, .int .i64 u.size, .slice (some ⟨u.gs, 0, none⟩) u.n u.cs, .slice (some ⟨u.gm, 0, none⟩) u.n u.cm] 29)
      clear x0 x1 x2 x3 x4
      obtain ⟨x0, x1, x2, x3, x4⟩ := Y.out.cells5
      obtain ⟨y0, y1, y2, y3, y4⟩ := YY.out.cells5
      have k : Below w3.heap.size w3 (w3.alloc (.cells #[.complex .f32 u.cx u.cy, .int .i64 u.deep, .int .i64 u.size, .slice (some ⟨u.gs, 0, none⟩) u.n u.cs, .slice (some ⟨u.gm, 0, none⟩) u.n u.cm] 29)) := (Below.refl _ _).alloc (Nat.le_refl _) _
      have HT2 := Lib.hid ((HT.out.step hb3).step k)
      have HU2 := Lib.hid (hu.step k)
      have HS1 := Lib.hid (sameRecs HT2.out HU2.out HG.out hgu q1 q2 (HDD.out.trans (by rw [k2, q3])) (HSZ.out.trans hus.symm))
      have HMC := Lib.hid (fun W => implMakeC t.cx t.cy t.deep t.size most HT.out.bx HT.out.by1 W)
      have HMP : Hid (MkP t.cx t.cy t.deep t.size) := by
        obtain ⟨a1, a2, a3, a4, b1, b2, b3, -, -⟩ := HG.out
        exact ⟨a1, a2, a3, a4, b1, b2, b3⟩
      have hde : wrap64 (deep + (p.size : Int)) = t.deep := by
        rw [HD0.out, HDD.out, hdp]
        obtain ⟨d1, s1, z1, -, -, -, -, z2⟩ := HG.out.n
        have hdd := HDD.out
        rw [w64 (by omega) (by omega)]
        omega
      have HDE := Lib.hid hde
      clear h3 hb3 hu hgu q1 q2 q3 k1 k2 k4 k hus hlen hde hdp
      go_wp2_with fail
      refine HS1.out.mono ?_
      rintro e w4 ⟨rfl, hb4⟩
      have Y4 := Lib.hid (Y.out.step hb4)
      have HT4 := Lib.hid (HT2.out.step hb4)
      clear x0 x1 x2 x3 x4 y0 y1 y2 y3 y4 hb4 HS1
      obtain ⟨x0, x1, x2, x3, x4⟩ := Y4.out.cells5
      go_wp2_with fail
      refine (HMC.out _).mono ?_
      rintro e w5 ⟨⟨x, y, dd', ss', a1, n1, c1, a2, n2, c2, ok, rfl, hM⟩, hb5⟩
      cases ok with
      | false => exact absurd HMP.out (hM.1 rfl).1
      | true =>
        obtain ⟨v, g1, g2, g3, g4, g5, hv, hgv⟩ := hM.2 rfl
        have hC : (#[.complex .f32 x y, .int .i64 dd', .int .i64 ss', .slice a1 n1 c1, .slice a2 n2 c2] : Array Value) = #[.complex .f32 v.cx v.cy, .int .i64 v.deep, .int .i64 v.size, .slice (some ⟨v.gs, 0, none⟩) v.n v.cs, .slice (some ⟨v.gm, 0, none⟩) v.n v.cm] := by
          injection g5
        injection hC with hC
        simp only [List.cons.injEq, and_true] at hC
        obtain ⟨f1, f2, f3, f4, f5⟩ := hC
        injection f1 with _ f1 f1'
        injection f2 with _ f2
        injection f3 with _ f3
        injection f4 with f4 f4' f4''
        injection f5 with f5 f5' f5''
        subst f1 f1' f2 f3 f4 f4' f4'' f5 f5' f5''
        have Y5 := Lib.hid ((Y4.out.step hb5).alloc (.cells #[.complex .f32 v.cx v.cy, .int .i64 v.deep, .int .i64 v.size, .slice (some ⟨v.gs, 0, none⟩) v.n v.cs, .slice (some ⟨v.gm, 0, none⟩) v.n v.cm] 29))
        have V5 := Lib.hid (Box.new w5 #[.complex .f32 v.cx v.cy, .int .i64 v.deep, .int .i64 v.size, .slice (some ⟨v.gs, 0, none⟩) v.n v.cs, .slice (some ⟨v.gm, 0, none⟩) v.n v.cm] 29)
        have k : Below w5.heap.size w5 (w5.alloc (.cells #[.complex .f32 v.cx v.cy, .int .i64 v.deep, .int .i64 v.size, .slice (some ⟨v.gs, 0, none⟩) v.n v.cs, .slice (some ⟨v.gm, 0, none⟩) v.n v.cm] 29)) := (Below.refl _ _).alloc (Nat.le_refl _) _
        have HS2 := Lib.hid (sameRecs (hv.step k) ((HT4.out.step hb5).step k) hgv HG.out g1 g2 g3 g4)
        clear x0 x1 x2 x3 x4
        obtain ⟨x0, x1, x2, x3, x4⟩ := Y5.out.cells5
        obtain ⟨y0, y1, y2, y3, y4⟩ := V5.out.cells5
        clear g1 g2 g3 g4 g5 hv hgv hM hb5 k
        go_wp2_with fail
        refine HS2.out.mono ?_
        rintro e w6 ⟨rfl, hb6⟩
        clear y0 y1 y2 y3 y4
        have Y6 := Y5.out.step hb6
        clear x0 x1 x2 x3 x4 hb6
        obtain ⟨x0, x1, x2, x3, x4⟩ := Y6.cells5
        clear Y6
        go_wp2
        rotate_right
        · rename_i h
          exact absurd HDE.out.symm h
        go_ret
        have hde := HDE.out
        have hsz := HSZ.out
        simp [hde, hsz]
end Go.Proofs.YtokbalggdhippaaGreat
end

section
namespace Go.Proofs.YtokbalggdhippaaGreat
open Go.RowKit Go.Conc Go.Proofs.YtokbalggdhippaaGreat.Co Go.Proofs.YtokbalggdhippaaGreat.Ok Go.Proofs.YtokbalggdhippaaGreat.Lr Go.Proofs.YtokbalggdhippaaGreat.Tl Go.Proofs.YtokbalggdhippaaGreat.Bar
def cutAt (W : World) (b : Nat) (C : Array Value) (t : TypeId) (n : Nat) : World := { W with heap := W.heap.setIfInBounds b (.cells (C.extract 0 n) t (0, (C.extract 0 n).size)) }
section
variable {W : World} {b off : Nat} {C : Array Value} {t : TypeId} {fr : Nat × Nat} {xs : List Value} (hb : W.heap[b]? = some (.cells C t fr)) (hs : ∀ i v, xs[i]? = some v → W.cell? ⟨b, off + i, none⟩ = some v)
include hb hs
theorem cut_sl {tV : TypeId} : Sl (cutAt W b C tV (off + xs.length)) (some ⟨b, off, none⟩) xs := by
  refine .inr ⟨b, off, rfl, fun i v hv => ?_⟩
  have h := hs i v hv
  have hlt : b < W.heap.size := (Array.getElem?_eq_some_iff.1 hb).1
  have hi : i < xs.length := (List.getElem?_eq_some_iff.1 hv).1
  unfold World.cell? at h ⊢
  rw [hb] at h
  have hc : (cutAt W b C tV (off + xs.length)).heap[b]? = some (.cells (C.extract 0 (off + xs.length)) tV (0, (C.extract 0 (off + xs.length)).size)) := by
    unfold cutAt
    simp [hlt]
  rw [hc]
  have h : C[off + i]? = some v := h
  show (C.extract 0 (off + xs.length))[off + i]? = some v
  rw [Array.getElem?_extract, if_pos (by have := (Array.getElem?_eq_some_iff.1 h).1; omega), Nat.zero_add]
  exact h
theorem cut_flat {i : Nat} {v : Value} (hi : off ≤ i) (h1 : (C.extract 0 (off + xs.length))[i]? = some v) : v ∈ xs ∧ C[i]? = some v := by
  rw [Array.getElem?_extract] at h1
  split at h1
  · rename_i hlt
    rw [Nat.zero_add] at h1
    have hj : i - off < xs.length := by
      omega
    obtain ⟨u, hu⟩ : ∃ u, xs[i - off]? = some u := ⟨_, List.getElem?_eq_getElem hj⟩
    have h := hs (i - off) u hu
    unfold World.cell? at h
    rw [hb] at h
    have h : C[off + (i - off)]? = some u := h
    rw [Nat.add_sub_cancel' hi, h1] at h
    cases h
    exact ⟨List.mem_of_getElem? hu, h1⟩
  · cases h1
theorem cut_rel {X : Cx} (hx : ∀ v ∈ xs, Flat X v) {B : Lk} : PR X B off (C.extract 0 (off + xs.length)) C := by
  refine ⟨by rw [Array.size_extract]; omega, fun i v v' hi h1 h2 => ?_⟩
  obtain ⟨h3, h4⟩ := cut_flat hb hs hi h1
  rw [h4] at h2
  cases h2
  exact hx _ h3 B
theorem cut_rel' {X : Cx} (hx : ∀ v ∈ xs, Flat X v) {B : Lk} : PR X B off (C.extract 0 (off + xs.length)) (C.extract 0 (off + xs.length)) := by
  refine ⟨Nat.le_refl _, fun i v v' hi h1 h2 => ?_⟩
  rw [h1] at h2
  cases h2
  exact hx _ (cut_flat hb hs hi h1).1 B
end
abbrev tNo : TypeId := 1000000007
theorem tNo_no : Vp.prog.info? tNo = none := by kernel_rfl
def GlobUp (W : World) : Prop := ∀ b C t fr, b < Vp.prog.globals.size → W.heap[b]? = some (.cells C t fr) → ∀ n l, mvP Vp.prog t n l
theorem mvP_one {P : Program} {t : TypeId} (h1 : P.cellsOf t = 1) (h2 : P.bytesOf t = 1) (hu : ∀ d off, byteOfCell P (d + 1) t off = if off = 0 then some 0 else none) (hv : ∀ d off, cellOfByte P (d + 1) t off = if off = 0 then some 0 else none) : ∀ n l, mvP P t n l := by
  intro n l off m off' hl hm h
  have hd : P.depth = 2 * (P.types.size + Made.depth) + 1 + 1 := rfl
  unfold cellAtBytes at h
  rw [h1, h2, hd] at h
  simp only [hu, hv, Nat.mod_one, Nat.div_one, Nat.mul_one, if_true] at h
  simp at h
  omega
structure RowOk (cl : List Nat) (f : Nat) : Prop where
  chkT : (cl.filter fun f => !(ext.contains f)).all (chk Vp.prog tmL cl []) = true
  chkV : ((11 :: cl).filter fun f => !(ext.contains f)).all (chk Vp.prog [] (11 :: cl) []) = true
  not : cl.contains 11 = false
  mem : cl.contains f = true
  ini : Tryz.prog.inits.idxOf? f = none
theorem wr_atV {X : Cx} {B : Lk} {V W : World} (h : WR X B V W) : WR X B { V with tape := W.tape, drawn := W.drawn } W := by
  have h1 := h.tape
  have h2 := h.drawn
  rw [h1, h2]
  exact h
section
variable {cl : List Nat} {f : Nat} (R : RowOk cl f) {Q : String → Code → Prop} {F : Nat → Prop} {L : Nat → Nat} {lf : ∀ b, L b ≠ 0 → F b}
include R
theorem wholeT : Whole (cxL Vp.prog tmL cl [] Q (fun _ => False) F False L lf) Vp.prog Tryz.prog :=
  whole_ofL zeros Vp.tab.symm Vp.size.symm (fun f hf => by
    have ht : f ≠ 11 := fun e => by
      subst e
      have := R.not
      rw [Bool.eq_false_iff] at this
      exact this (by simpa using hf)
    exact ⟨all_ok R.chkT f hf, fun n hn => by simp only [List.mem_singleton, Prod.mk.injEq] at hn; exact ht hn.1, (Vp.same ht).symm⟩)
  (fun f ⟨n, hn⟩ => by
    simp only [List.mem_singleton, Prod.mk.injEq] at hn
    obtain ⟨rfl, _⟩ := hn
    exact ⟨Vp.fT, Tryz.f11, Vp.funcT, Tryz.func11, by kernel_rfl, by kernel_rfl, by kernel_rfl, by kernel_rfl, by kernel_rfl⟩)
  tm_same fun g h => by cases h
theorem wholeV : Whole (cxL Vp.prog [] (11 :: cl) [] Q (fun _ => False) F False L lf) Vp.prog Vp.prog :=
  whole_ofL zeros rfl rfl (fun f hf => ⟨all_ok R.chkV f hf, (fun n hn => by cases hn), rfl⟩) (fun f ⟨n, hn⟩ => by cases hn) (fun f => .inl rfl) fun g h => by cases h
theorem ends_of (hV : Vals) {args : Array Value} {W0 V0 : World} {B : Lk} (hB : ∀ x y, B x y → F x)
    (hw : WR (cxL Vp.prog tmL cl [] Q (fun _ => False) F False L lf) B V0 W0) (hwV : WR (cxL Vp.prog [] (11 :: cl) [] Q (fun _ => False) F False L lf) B V0 V0)
    (ha : AR (cxL Vp.prog tmL cl [] Q (fun _ => False) F False L lf) B args args) (haV : AR (cxL Vp.prog [] (11 :: cl) [] Q (fun _ => False) F False L lf) B args args)
    (hc : ∀ τ d, Calls Vp.prog f args { V0 with tape := τ, drawn := d } fun e _ => e = .returned (.bool true)) :
    Co.Ends Tryz.prog (fun v w' => v = .bool true ∧ Below W0.heap.size W0 w') #[G (Frame.enter Tryz.prog f args .normal) []] W0 none #[] := by
  have hmem : f ∈ cl := by simpa using R.mem
  have hnot : ¬ ∃ n, (f, n) ∈ tmL := fun ⟨n, hn⟩ => by
    simp only [List.mem_singleton, Prod.mk.injEq] at hn
    obtain ⟨rfl, _⟩ := hn
    have := R.not
    rw [R.mem] at this
    cases this
  have hT := wholeT R (Q := Q) (F := F) (L := L) (lf := lf)
  have hTV := wholeV R (Q := Q) (F := F) (L := L) (lf := lf)
  have noT : ∀ f, ¬ (cxL Vp.prog [] (11 :: cl) [] Q (fun _ => False) F False L lf).T f := fun f ⟨n, hn⟩ => by cases hn
  have hfV : FrR (cxL Vp.prog [] (11 :: cl) [] Q (fun _ => False) F False L lf) B (Frame.enter Vp.prog f args .normal) (Frame.enter Vp.prog f args .normal) := by
    rcases enter_lr (P := Vp.prog) (P' := Vp.prog) (B := B) (cs := []) (cs' := []) hTV.hF (f := f) (.inl (List.mem_cons_of_mem _ hmem)) (fun h => absurd h (noT _)) haV .normal (fun h => absurd h (noT _)) .nil with ⟨h, _⟩ | ⟨g, _, _, _, ⟨h, _⟩, _⟩
    · exact h
    · exact absurd h (noT _)
  have hf : FrR (cxL Vp.prog tmL cl [] Q (fun _ => False) F False L lf) B (Frame.enter Vp.prog f args .normal) (Frame.enter Tryz.prog f args .normal) := by
    rcases enter_lr (P := Vp.prog) (P' := Tryz.prog) (B := B) (cs := []) (cs' := []) hT.hF (f := f) (.inl hmem) (fun h => absurd h hnot) ha .normal (fun h => absurd h hnot) .nil with ⟨h, _⟩ | ⟨g, p, p', k, ⟨hg, _⟩, _, e, _⟩
    · exact h
    · obtain rfl : f = g := congrArg Frame.fn e
      exact absurd hg hnot
  have hway := way_of hTV noT (Q := fun v _ => v = .bool true) (fun _ _ _ _ h => h) (f := f) (args := args) (V := V0) ⟨B, V0, _, _, hwV, hfV, .nil, rfl⟩ fun τ d => (hc τ d).mono fun e w h => by
    subst h
    exact rfl
  have hs := sim (Post := fun v w' => v = .bool true ∧ Below W0.heap.size W0 w') (m0 := W0.heap.size) (w0 := W0) hT id (Q := fun v _ => v = .bool true) (parts_of hV (fun x hx => Fin.pop hx.1) _ _ _) (fun _ _ _ _ h => h) (fun x hx => ⟨hx.1, by rw [hx.2]; exact R.ini⟩)
    (fun B V v v' W hv hvv _ hk => by
      subst hv
      cases hvv
      exact ⟨rfl, ⟨hk.os.1, hk.tape, hk.os.2, hk.size, hk.old⟩⟩) hway
  exact hs B W0.tape W0.drawn #[G (Frame.enter Tryz.prog f args .normal) []] W0 none #[] (fun _ => 0) _ [] (wr_atV hw) hf .nil rfl ⟨fun x y h hn => absurd (hB x y h) hn, Nat.le_refl _, fun _ _ => rfl, rfl, ⟨rfl, rfl⟩⟩ rfl (leavers_one _ _) (past_nil.mono (Nat.zero_le _))
theorem ends_bytes (hV : Vals) {a : Option Addr} {c : Nat} {bs : List UInt8} {W0 : World} (hN : Vp.prog.globals.size ≤ W0.heap.size) (hL : GlobUp W0) (hs : Sl W0 a (bs.map byteV))
    (hblk : ∀ x, a = some x → ∃ b off C t fr, x = ⟨b, off, none⟩ ∧ W0.heap[b]? = some (.cells C t fr))
    (hlaw : ∀ w, Sl w a (bs.map byteV) → Calls Vp.prog f #[.slice a bs.length c] w fun e _ => e = .returned (.bool true)) :
    Co.Ends Tryz.prog (fun v w' => v = .bool true ∧ Below W0.heap.size W0 w') #[G (Frame.enter Tryz.prog f #[.slice a bs.length c] .normal) []] W0 none #[] := by
  cases a with
  | none =>
    have ar : ∀ (X : Cx) (B : Lk), AR X B #[.slice none bs.length c] #[.slice none bs.length c] := fun X B => AR.one (.snil _ _)
    have wr : ∀ (X : Cx), X.N = Vp.prog.globals.size → (∀ g, ¬ X.G g) → (∀ g, ¬ X.D g) → (∀ g, ¬ X.F g) → WR X (fun _ _ => False) W0 W0 := fun X h1 h2 h3 h4 =>
      ⟨rfl, rfl, rfl, rfl, fun _ _ _ h => h.elim, fun _ _ _ h => h.elim, fun g h => absurd h (h2 g), fun _ _ h => h.elim, fun _ _ h => h.elim, fun _ _ h => h.elim, fun b h => absurd h (h3 b), fun b h => absurd h (h4 b), fun _ _ h => h.elim, by rw [h1]; exact hN, by rw [h1]; exact hN⟩
    exact ends_of R hV (Q := fun _ _ => False) (F := fun _ => False) (L := fun _ => 0) (lf := fun _ h => absurd rfl h) (B := fun _ _ => False) (V0 := W0) (fun _ _ h => h.elim) (wr _ rfl (fun g h => by cases h) (fun _ => id) (fun _ => id)) (wr _ rfl (fun g h => by cases h) (fun _ => id) (fun _ => id)) (ar _ _) (ar _ _)
      fun τ d => hlaw _ hs
  | some x =>
    obtain ⟨b, off, C, t, fr, rfl, hb⟩ := hblk x rfl
    have hlt : b < W0.heap.size := (Array.getElem?_eq_some_iff.1 hb).1
    have hs' : ∀ i v, (bs.map byteV)[i]? = some v → W0.cell? ⟨b, off + i, none⟩ = some v := by
      rcases hs with h | ⟨b', off', e, h⟩
      · intro i v hv
        rw [h] at hv
        simp at hv
      · cases e
        exact h
    have hfl : ∀ (X : Cx) (v : Value), v ∈ bs.map byteV → Flat X v := fun X v hv B => by
      obtain ⟨x, _, rfl⟩ := List.mem_map.1 hv
      exact .int _ _
    have hlf : ∀ x, (if x = b then off else 0) ≠ 0 → x = b := fun x h => by
      by_cases e : x = b
      · exact e
      · rw [if_neg e] at h
        exact absurd rfl h
    have ar : ∀ (X : Cx), (∀ g, ¬ X.D g) → X.L b ≤ off → AR X (fun x y => x = b ∧ y = b) #[.slice (some ⟨b, off, none⟩) bs.length c] #[.slice (some ⟨b, off, none⟩) bs.length c] := fun X h1 h2 => AR.one (.slice _ _ ⟨⟨⟨rfl, rfl⟩, h1 _⟩, ⟨rfl, h2⟩, rfl⟩)
    obtain ⟨tV, htV⟩ : ∃ tV : TypeId, tV = if off = 0 ∨ b < Vp.prog.globals.size then t else tNo := ⟨_, rfl⟩
    have hc0 : (cutAt W0 b C tV (off + (bs.map byteV).length)).heap[b]? = some (.cells (C.extract 0 (off + (bs.map byteV).length)) tV (0, (C.extract 0 (off + (bs.map byteV).length)).size)) := by
      unfold cutAt
      simp [hlt]
    have hsz : (cutAt W0 b C tV (off + (bs.map byteV).length)).heap.size = W0.heap.size := by
      unfold cutAt
      simp
    have wr : ∀ (X : Cx) (W : World) (tW : TypeId), X.N = Vp.prog.globals.size → (∀ g, ¬ X.G g) → (∀ g, ¬ X.D g) → (∀ g, X.F g ↔ g = b) → X.L b = off → (X.Mv = mvP Vp.prog) → (∀ t, Vp.prog.info? t = none → X.Z t) → W.tape = W0.tape → W.drawn = W0.drawn → W.os = W0.os → W.output = W0.output → W.heap.size = W0.heap.size →
        (∃ c' f, W.heap[b]? = some (.cells c' tW f) ∧ (tW = tV ∨ tW = t) ∧ PR X (fun x y => x = b ∧ y = b) off (C.extract 0 (off + (bs.map byteV).length)) c') → WR X (fun x y => x = b ∧ y = b) (cutAt W0 b C tV (off + (bs.map byteV).length)) W := by
      rintro X W tW h1 h2 h3 h4 h5 h6 hz e1 e2 e3 e4 e5 ⟨c', f', h7, hty, h8⟩
      refine ⟨e1, e2, e3, e4, ?_, ?_, fun g h => absurd h (h2 g), ?_, ?_, fun x y _ h => absurd h (h3 x), fun x h => absurd h (h3 x), fun x h => ?_, ?_, ?_, ?_⟩
      · rintro x y z ⟨_, rfl⟩ ⟨_, rfl⟩
        rfl
      · rintro x y z ⟨rfl, _⟩ ⟨rfl, _⟩
        rfl
      · rintro x y ⟨rfl, rfl⟩ _ hn
        exact absurd ((h4 _).2 rfl) hn
      · rintro x y ⟨hx, hy⟩ _ _
        rw [hx, hy]
        refine ⟨_, c', tV, tW, f', hc0, h7, by rw [h5]; exact h8, ?_⟩
        unfold TyR
        rw [h5, h6, h1]
        by_cases hcs : off = 0 ∨ b < Vp.prog.globals.size
        · rw [if_pos hcs] at htV
          refine .inr ⟨hcs, ?_, ?_⟩
          · rcases hty with h | h
            · exact h
            · rw [h, htV]
          · rcases hcs with h | h
            · exact .inl h
            · exact .inr (by rw [htV]; exact hL b C t fr h hb _ _)
        · rw [if_neg hcs] at htV
          exact .inl ⟨fun h => hcs (.inl h), Nat.le_of_not_lt fun h => hcs (.inr h), by rw [htV]; exact hz _ tNo_no⟩
      · rw [(h4 x).1 h, hsz]
        exact hlt
      · rintro x y ⟨rfl, rfl⟩
        exact Iff.rfl
      · rw [hsz, h1]
        exact hN
      · rw [e5, h1]
        exact hN
    exact ends_of R hV (Q := fun _ _ => False) (F := fun x => x = b) (L := fun x => if x = b then off else 0) (lf := hlf) (B := fun x y => x = b ∧ y = b) (V0 := cutAt W0 b C tV (off + (bs.map byteV).length)) (fun _ _ h => h.1)
      (wr _ W0 t rfl (fun g h => by cases h) (fun _ => id) (fun _ => Iff.rfl) (if_pos rfl) rfl (fun _ => id) rfl rfl rfl rfl rfl ⟨C, fr, hb, .inr rfl, cut_rel hb hs' (hfl _)⟩)
      (wr _ _ tV rfl (fun g h => by cases h) (fun _ => id) (fun _ => Iff.rfl) (if_pos rfl) rfl (fun _ => id) rfl rfl rfl rfl hsz ⟨_, _, hc0, .inl rfl, cut_rel' hb hs' (hfl _)⟩)
      (ar _ (fun _ => id) (Nat.le_of_eq (if_pos rfl))) (ar _ (fun _ => id) (Nat.le_of_eq (if_pos rfl)))
      fun τ d => hlaw _ (cut_sl hb hs')
end
end Go.Proofs.YtokbalggdhippaaGreat
end

section
namespace Go.Proofs.YtokbalggdhippaaGreat
open Go.Conc Go.Proofs.YtokbalggdhippaaGreat.Co Go.Proofs.YtokbalggdhippaaGreat.Ok Go.Proofs.YtokbalggdhippaaGreat.Lr Go.Proofs.YtokbalggdhippaaGreat.Tl Go.Proofs.YtokbalggdhippaaGreat.Bar
def pathFs : List Nat := [3, 7, 8, 9, 10, 13, 14, 17, 24, 25, 26, 27, 28, 29, 30, 31, 32, 33, 37, 38, 39, 44, 50, 51, 52, 53, 54, 55, 56, 57, 58, 59, 63, 76, 77, 78, 79, 80, 81, 82, 83, 84, 85, 97, 98, 99, 100, 101, 102, 103, 104, 105, 106, 107, 108, 132, 133, 134, 135, 136, 137, 152, 153, 154, 155, 160, 161, 162, 163]
set_option maxRecDepth 100000 in
theorem path_chkT : (pathFs.filter fun f => !(ext.contains f)).all (chk Vp.prog tmL pathFs []) = true := by kernel_rfl
set_option maxRecDepth 100000 in
theorem path_chkV : ((11 :: pathFs).filter fun f => !(ext.contains f)).all (chk Vp.prog [] (11 :: pathFs) []) = true := by kernel_rfl
theorem path_ok : RowOk pathFs 3 := ⟨path_chkT, path_chkV, by kernel_rfl, by kernel_rfl, by kernel_rfl⟩
end Go.Proofs.YtokbalggdhippaaGreat
end

section
namespace Go.Proofs.YtokbalggdhippaaGreat
open Go.ChangeShapes Go.WideShapes Go.ChangeAt Go.RowKit
theorem own : ownKnob Vp.prog.godebug = none := by kernel_rfl
def parsRowed (P : Program) (ts : List TypeId) : Bool := ts.all fun t => P.readableRec t && decide (t < P.types.size)
theorem trodAll_below {H : Type} {enc : TypeId × Value → H} {P : Program} (hl : laidOutB P = true) {W W' : World} (hb : Below W.heap.size W W') :
    ∀ {ts : List TypeId} {vs : List Value} {ds : List (DataW H)} {ps : List MemPlace}, parsRowed P ts = true →
      DataW.TrodAll enc P W 0 (fun _ => true) true ts vs ds ps → (∀ x ∈ ps, x.block < W.heap.size) →
      DataW.TrodAll enc P W' 0 (fun b => decide (b < W.heap.size)) true ts vs ds ps
  | [], [], [], _, _, h, _ => h
  | [], [], _ :: _, _, _, h, _ => h.elim
  | [], _ :: _, _, _, _, h, _ => h.elim
  | _ :: _, [], _, _, _, h, _ => h.elim
  | _ :: _, _ :: _, [], _, _, h, _ => h.elim
  | t :: ts, v :: vs, d :: ds, ps, hv, h, hlt => by
    obtain ⟨p, q, h1, h2, rfl⟩ := h
    simp only [parsRowed, List.all_cons, Bool.and_eq_true, decide_eq_true_eq] at hv
    exact ⟨p, q, Below.trod hl hv.1.1 hv.1.2 h1 hb (fun x hx => hlt x (by simp [hx])),
      trodAll_below hl hb (by simpa [parsRowed] using hv.2) h2 (fun x hx => hlt x (by simp [hx])), rfl⟩
theorem law_post {H : Type} {enc : TypeId × Value → H} {P : Program} {fn : Func} {s : ChangeSpec} {apart : Bool} {W W' : World} {args : Array Value} {ds gs : List (DataW H)} {before : List MemPlace} {tb : TypeId}
    (hl : laidOutB P = true) (hp : parsRowed P fn.params.toList = true) (hvr : varsRowed P s.vars = true) (hr : fn.resultTypes = #[tb]) (htb : P.underlying tb = some .bool)
    (hW : DataW.Whole enc P fn.params.toList s.vars apart W args.toList ds gs before)
    (hs : (s.fn H (ds ++ gs)).results = [.lit (.bool true)]) (ha : (s.fn H (ds ++ gs)).args = ds) (hv : (s.fn H (ds ++ gs)).vars = gs)
    (hb : Below W.heap.size W W') : s.post enc P fn apart true false false W args (.bool true) W' := by
  have hlt := hW.lt
  have hW2 := hW
  obtain ⟨p, q, hA, hV, rfl, hz, hn⟩ := hW
  refine ⟨ds, gs, p ++ q, [], p, q, hW2, ?_, ?_, ?_, ?_, fun h => by cases h⟩
  · rw [hs, hr]
    exact trodAll_mk1 (shut_bool htb true)
  · rw [ha]
    exact trodAll_below hl hb hp hA (fun x hx => hlt x (by simp [hx]))
  · rw [hv]
    exact Below.trodVars hl hb hvr hV
  · exact hb.frame _
theorem list_of {α : Type} {f : α → Value} {R : α → Prop} {V : Nat → Value} : ∀ {len : Nat}, (∀ i, i < len → ∃ x, V i = f x ∧ R x) → ∃ X : List α, X.length = len ∧ ∀ i x, X[i]? = some x → V i = f x ∧ R x
  | 0, _ => ⟨[], rfl, by simp⟩
  | k + 1, hV => by
    obtain ⟨X, hX, hX2⟩ := list_of (len := k) (fun i hi => hV i (by omega))
    obtain ⟨x, hx⟩ := hV k (by omega)
    refine ⟨X ++ [x], by simp [hX], fun i u hu => ?_⟩
    by_cases hi : i < X.length
    · rw [List.getElem?_append_left hi] at hu; exact hX2 i u hu
    · rw [List.getElem?_append_right (by omega)] at hu
      have : i - X.length = 0 := by
        rcases Nat.eq_zero_or_pos (i - X.length) with h | h
        · exact h
        · rw [List.getElem?_eq_none (by simp; omega)] at hu; cases hu
      rw [this] at hu
      simp at hu
      subst hu
      obtain rfl : i = k := by omega
      exact hx
theorem open_sl {H : Type} {enc : TypeId × Value → H} {P : Program} {w : World} {base : Nat} {spare : Nat → Bool} {held : Bool} {t e : TypeId} {α : Type} {f : α → Value} {R : α → Prop} (ht : P.underlying t = some (.slice e)) (hc : P.cellsOf e = 1)
    (he : ∀ n v (y : DataW H × List MemPlace), DataW.trod enc P w base spare held n e [v] = some y → ∃ x, v = f x ∧ R x) {n : Nat} {v : Value} {y : DataW H × List MemPlace} (h : DataW.trod enc P w base spare held n t [v] = some y) :
    ∃ (a : Option Addr) (c : Nat) (xs : List α), v = .slice a xs.length c ∧ xs.length ≤ maxLen ∧ Sl w a (xs.map f) ∧ (∀ x ∈ xs, R x) ∧ xs.length ≤ c := by
  rcases Deep.open_slice1 ht hc h with ⟨h, _⟩ | ⟨a, len, cap, m, n, V, D, Pl, hcs, _, hl, hm, hmm, _, hx⟩
  · simp at h; exact ⟨none, 0, [], h, Nat.zero_le _, .inl rfl, by simp, Nat.le_refl _⟩
  · have hlm : len ≤ m := by rw [hmm]; split <;> omega
    have hV : ∀ i, i < len → ∃ x, V i = f x ∧ R x := fun i hi => he _ _ _ (hx i (by omega)).2
    obtain ⟨X, hX, hX2⟩ := list_of hV
    simp at hcs
    subst hcs
    refine ⟨some a, cap, X, by rw [hX], by omega, ?_, fun x hx => ?_, by omega⟩
    · by_cases h0 : len = 0
      · exact .inl (by rw [List.eq_nil_of_length_eq_zero (show X.length = 0 by omega)]; rfl)
      · have hspot : a = ⟨a.block, a.off, none⟩ := by
          have := (hx 0 (by omega)).1
          obtain ⟨b, o, s⟩ := a
          cases s with
          | none => rfl
          | some s => simp [Addr.add, World.cell?] at this; split at this <;> simp at this
        refine .inr ⟨a.block, a.off, by rw [← hspot], fun i v hv => ?_⟩
        rw [List.getElem?_map] at hv
        obtain ⟨x, hx1, rfl⟩ := Option.map_eq_some_iff.1 hv
        have hi : i < len := by
          have := (List.getElem?_eq_some_iff.1 hx1).1; omega
        rw [← (hX2 i x hx1).1, ← (hx i (by omega)).1]
        congr 1
        unfold Addr.add
        by_cases hi0 : i = 0
        · rw [if_pos hi0, hi0, Nat.add_zero]; exact hspot.symm
        · rw [if_neg hi0]
    · obtain ⟨i, hi, rfl⟩ := List.getElem_of_mem hx
      exact (hX2 i _ (List.getElem?_eq_getElem hi)).2
theorem open_bytes {H : Type} {enc : TypeId × Value → H} {P : Program} {w : World} {base : Nat} {spare : Nat → Bool} {held : Bool} {r : Reach} {b0 : Nat} {t e : TypeId} {v : Value} {d : DataW H} {p : List MemPlace} (ht : P.underlying t = some (.slice e)) (hu : P.underlying e = some (.int .u8)) (hc : P.cellsOf e = 1)
    (hv : Value.okWide P w r b0 t v) (h : DataW.Trod enc P w base spare held t v d p) : ∃ (a : Option Addr) (c : Nat) (bs : List UInt8), v = .slice a bs.length c ∧ bs.length ≤ maxLen ∧ bs.length ≤ c ∧ Sl w a (bs.map byteV) := by
  obtain ⟨fuel, hf⟩ := h
  obtain ⟨a, l, c, rfl⟩ : ∃ a l c, v = .slice a l c := okWide_slice ht hv
  obtain ⟨a, c, xs, e, hn, hS, _, hc⟩ := open_sl (f := byteV) (R := fun _ => True) ht hc (fun n v y hy => by
    obtain ⟨x, e, _, hw⟩ := DataW.trod_int hu hy
    simp at e
    subst e
    have : x.toNat < 256 ∧ 0 ≤ x := by simp [Lit.wf, IntKind.min, IntKind.max, IntKind.signed, IntKind.bits] at hw; omega
    refine ⟨⟨⟨x.toNat, by omega⟩⟩, ?_, trivial⟩
    unfold byteV
    congr 1
    show x = (x.toNat : Int)
    omega) (by simpa [Value.cells] using hf)
  exact ⟨a, c, xs, e, hn, hc, hS⟩
end Go.Proofs.YtokbalggdhippaaGreat
end
