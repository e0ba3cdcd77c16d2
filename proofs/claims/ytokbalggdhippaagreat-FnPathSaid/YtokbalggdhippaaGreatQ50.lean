/- Merged texts: BlD, BlE. -/
import Derived.Test.YtokbalggdhippaaGreatQ49
set_option linter.all false
section
namespace Go.Proofs.YtokbalggdhippaaGreat
open Go.RowKit Flo
def dig (c : UInt8) : Prop := 48 ≤ c.toNat ∧ c.toNat ≤ 51
def SplitP (cx cy d : Nat) (s : Int) : Prop := ∀ k, k < 4 → MkP (quart cx cy d s k).1 (quart cx cy d s k).2 ((d : Int) + 1) s
def PathR (s : Int) : List UInt8 → Nat → Nat → Nat → Nat → Nat → Nat → Prop
  | [], cx, cy, d, x, y, dd => x = cx ∧ y = cy ∧ dd = d
  | c :: cs, cx, cy, d, x, y, dd => dig c ∧ SplitP cx cy d s ∧ PathR s cs (quart cx cy d s (c.toNat - 48)).1 (quart cx cy d s (c.toNat - 48)).2 (d + 1) x y dd
theorem PathR.fn {s : Int} : ∀ {bs : List UInt8} {cx cy d x y dd x' y' dd' : Nat}, PathR s bs cx cy d x y dd → PathR s bs cx cy d x' y' dd' → x = x' ∧ y = y' ∧ dd = dd'
  | [], _, _, _, _, _, _, _, _, _, ⟨h1, h2, h3⟩, ⟨g1, g2, g3⟩ => ⟨h1.trans g1.symm, h2.trans g2.symm, h3.trans g3.symm⟩
  | _ :: _, _, _, _, _, _, _, _, _, _, ⟨_, _, h⟩, ⟨_, _, g⟩ => PathR.fn h g
theorem PathR.digs {s : Int} : ∀ {bs : List UInt8} {cx cy d x y dd : Nat}, PathR s bs cx cy d x y dd → ∀ c ∈ bs, dig c
  | [], _, _, _, _, _, _, _, c, h => by cases h
  | a :: bs, _, _, _, _, _, _, ⟨h1, _, h⟩, c, hc => by
    rcases List.mem_cons.1 hc with rfl | hc
    · exact h1
    · exact h.digs c hc
theorem PathR.len {s : Int} : ∀ {bs : List UInt8} {cx cy d x y dd : Nat}, PathR s bs cx cy d x y dd → dd = d + bs.length
  | [], _, _, _, _, _, _, ⟨_, _, h⟩ => h
  | a :: bs, _, _, _, _, _, _, ⟨_, _, h⟩ => by rw [h.len, List.length_cons]; omega
def SplitC (f : Nat) : Prop := ∀ (most : Int) (t : TRec) (B : Nat) (W : World), TOwn B t W → TGood most t → ∃ d : Nat, t.deep = d ∧ Calls Vp.prog f #[.agg t.cells.toArray, .int .i64 most] W (SplitV W t.cx t.cy d t.size most)
theorem TGood.n {most : Int} {t : TRec} (h : TGood most t) : ∃ d s : Nat, t.deep = d ∧ t.size = s ∧ t.n = s * s ∧ 1 ≤ s ∧ s ≤ 8 ∧ d ≤ 10 := by
  obtain ⟨d, s, a, b, h1, h2, h3, -, -⟩ := h
  exact ⟨d, s, h1, h2, by unfold TRec.n; rw [h2]; simp, h3.s1, h3.s8, h3.d10⟩
theorem splitC_of {f : Nat} (h : ∀ (cx cy d : Nat) (s most : Int), cx < 4294967296 → cy < 4294967296 → placeB cx cy d s = true → ∀ (a a' : Option Addr) (n c c' : Nat) (ys : List Int), ys.length ≤ 1048576 → wellB s n ys = true → ∀ w, Sl w a' (ys.map intV) →
    Calls Vp.prog f #[.agg #[.complex .f32 cx cy, .int .i64 d, .int .i64 s, .slice a n c, .slice a' ys.length c'], .int .i64 most] w (SplitV w cx cy d s most)) : SplitC f := by
  intro most t B W hO hG
  obtain ⟨d, s, hd, hs, hn, s1, s8, d10⟩ := hG.n
  obtain ⟨l1, l2⟩ := hO.lens
  have hss : s * s ≤ 64 := Nat.mul_le_mul s8 s8
  refine ⟨d, hd, ?_⟩
  have hw : wellB t.size t.n t.ys = true := wellB_ok (by rw [hn, hs]; simp) l2 fun j hj => by
    have := hO.made.hy t.ys[j] (List.getElem_mem hj)
    unfold markB inB
    simp only [Bool.and_eq_true, decide_eq_true_eq]
    exact this
  have := h t.cx t.cy d t.size most hO.bx hO.by1 (by rw [← hd]; exact hO.pl) (some ⟨t.gs, 0, none⟩) (some ⟨t.gm, 0, none⟩) t.n t.cs t.cm t.ys (by omega) hw W (sl_of_own hO.made.M)
  rw [l2] at this
  rw [show (.agg t.cells.toArray : Value) = .agg #[.complex .f32 t.cx t.cy, .int .i64 d, .int .i64 t.size, .slice (some ⟨t.gs, 0, none⟩) t.n t.cs, .slice (some ⟨t.gm, 0, none⟩) t.n t.cm] from by unfold TRec.cells; rw [hd]]
  exact this
theorem specSplitC : SplitC 14 := splitC_of fun cx cy d s most hx hy hp a a' n c c' ys hl hw w hs => specSplit_val cx cy d s most hx hy hp a a' n c c' ys hl hw w hs
theorem implSplitC : SplitC 13 := splitC_of fun cx cy d s most hx hy hp a a' n c c' ys hl hw w hs => implSplit_val cx cy d s most hx hy hp a a' n c c' ys hl hw w hs
theorem TList.cells {B : Nat} {L : List TRec} {g cap : Nat} {W : World} (h : TList B L (.slice (some ⟨g, 0, none⟩) L.length cap) W) {k : Nat} {t : TRec} (ht : L[k]? = some t) :
    W.cell? ⟨g, k * 5, none⟩ = some (.complex .f32 t.cx t.cy) ∧ W.cell? ⟨g, k * 5 + 1, none⟩ = some (.int .i64 t.deep) ∧ W.cell? ⟨g, k * 5 + 2, none⟩ = some (.int .i64 t.size) ∧ W.cell? ⟨g, k * 5 + 3, none⟩ = some (.slice (some ⟨t.gs, 0, none⟩) t.n t.cs) ∧ W.cell? ⟨g, k * 5 + 4, none⟩ = some (.slice (some ⟨t.gm, 0, none⟩) t.n t.cm) := by
  have hk : k < L.length := (List.getElem?_eq_some_iff.1 ht).1
  have at_ : ∀ j v, j < 5 → t.cells[j]? = some v → W.cell? ⟨g, k * 5 + j, none⟩ = some v := fun j v hj hv => by
    rw [h.row.cellAt (k * 5 + j) (by omega)]
    exact cellsL_at L k j t v ht hv
  exact ⟨at_ 0 _ (by omega) rfl, at_ 1 _ (by omega) rfl, at_ 2 _ (by omega) rfl, at_ 3 _ (by omega) rfl, at_ 4 _ (by omega) rfl⟩
def PathOK (cx cy : Nat) (deep size : Int) (bs : List UInt8) : Prop := MkP cx cy deep size ∧ ∃ d0 x y dd : Nat, deep = d0 ∧ PathR size bs cx cy d0 x y dd
def PathOut (w : World) (cx cy : Nat) (deep size most : Int) (bs : List UInt8) (e : Ending) (w' : World) : Prop :=
  Below w.heap.size w w' ∧ ((e = .returned zTileV ∧ ¬ PathOK cx cy deep size bs) ∨
    (∃ (t : TRec) (d0 dd : Nat), e = .returned (.tuple #[.agg t.cells.toArray, .bool true]) ∧ TOwn w.heap.size t w' ∧ TGood most t ∧ t.size = size ∧ deep = d0 ∧ t.deep = dd ∧ MkP cx cy deep size ∧ PathR size bs cx cy d0 t.cx t.cy dd))
theorem index_str (p : ByteArray) (k : Nat) (hk : k < p.size) (w : World) : (Instr.index 9 (.string p) (.int .i64 k)).run Vp.prog w = .ok (.int .u8 (p[k]'hk).toNat) w := by
  have h := run_index_string (P := Vp.prog) (w := w) 9 p .i64 k (Vp.und Tryz.underlying9)
  rw [h, dif_pos (by omega)]
  rfl
theorem bytes_at (p : ByteArray) (k : Nat) (hk : k < p.size) : p.data.toList[k]? = some (p[k]'hk) := by
  have hk' : k < p.data.size := hk
  rw [Array.getElem?_toList, Array.getElem?_eq_getElem hk']
  rfl
theorem drop_at {bs : List UInt8} {k : Nat} {c : UInt8} (h : bs[k]? = some c) : bs.drop k = c :: bs.drop (k + 1) := by
  obtain ⟨hk, e⟩ := List.getElem?_eq_some_iff.1 h
  rw [List.drop_eq_getElem_cons hk, e]
def PwRes (p : ByteArray) (e : Ending) : Prop := ∃ b, e = .returned (.bool b) ∧ (b = true ↔ ∀ c ∈ p.data.toList, dig c)
theorem PwRes.no {p : ByteArray} (h : ¬ ∀ c ∈ p.data.toList, dig c) : PwRes p (.returned (.bool false)) := ⟨false, rfl, ⟨fun x => (by cases x), fun x => absurd x h⟩⟩
theorem PwRes.yes {p : ByteArray} (h : ∀ c ∈ p.data.toList, dig c) : PwRes p (.returned (.bool true)) := ⟨true, rfl, ⟨fun _ => h, fun _ => rfl⟩⟩
set_option maxRecDepth 100000 in
set_option maxHeartbeats 2000000 in
theorem pathWell_is (p : ByteArray) (hp : p.size ≤ 8) (w : World) : Calls Vp.prog 28 #[.string p, .int .i64 8] w fun e w' => PwRes p e ∧ w = w' := by
  have HIX := Lib.hid (index_str p)
  have HBA := Lib.hid (bytes_at p)
  obtain ⟨n, hn⟩ : ∃ n, p.size = n := ⟨_, rfl⟩
  have HN : Hid (p.size = n ∧ p.data.toList.length = n) := ⟨hn, by rw [Array.length_toList]; exact hn⟩
  go_enter Vp.func28, Tryz.ntmps28
  go_wp2
  go_loopw [12] (fun i wr => ∃ k : Nat, k ≤ n ∧ i = .int .i64 k ∧ w = wr ∧ Hid (∀ j c, j < k → p.data.toList[j]? = some c → dig c)) (fun i _ => (n - intOf i).toNat)
  case atStart => exact ⟨0, by omega, rfl, rfl, fun j c h => by omega⟩
  case round =>
    obtain ⟨k, hk, rfl, rfl, HD⟩ := hrel
    by_cases hlt : k < n
    · have hix := HIX.out k (by omega)
      have hba := HBA.out k (by omega)
      generalize p[k]'(by omega) = c at *
      have HBK := Lib.hid hba
      obtain ⟨cn, hcn⟩ : ∃ cn, c.toNat = cn := ⟨_, rfl⟩
      have HCN := Lib.hid hcn
      rw [hcn] at hix
      clear hba
      by_cases h1 : cn < 48
      · have HF : Hid (¬ ∀ c ∈ p.data.toList, dig c) := fun h => by
          have := (h c (List.mem_of_getElem? HBK.out)).1
          have := HCN.out
          omega
        have h1' : ((cn : Int) < 48) := by omega
        go_wp2
        go_ret
        exact ⟨PwRes.no HF.out, rfl⟩
      · by_cases h2 : 51 < cn
        · have HF : Hid (¬ ∀ c ∈ p.data.toList, dig c) := fun h => by
            have := (h c (List.mem_of_getElem? HBK.out)).2
            have := HCN.out
            omega
          have h1' : ¬ ((cn : Int) < 48) := by omega
          have h2' : (51 : Int) < cn := by omega
          go_wp2
          go_ret
          exact ⟨PwRes.no HF.out, rfl⟩
        · have HD2 : Hid (∀ j c, j < k + 1 → p.data.toList[j]? = some c → dig c) := fun j c' hj hc => by
            by_cases e : j = k
            · subst e
              rw [HBK.out] at hc
              injection hc with hc
              subst hc
              have := HCN.out
              exact ⟨by omega, by omega⟩
            · exact HD.out j c' (by omega) hc
          have h1' : ¬ ((cn : Int) < 48) := by omega
          have h2' : ¬ (51 : Int) < cn := by omega
          go_wp2
          go_roundw
          case rel => exact ⟨k + 1, by omega, by go_num, (by first | rfl | trivial), HD2⟩
          case measure => simp [intOf]; omega
    · have HT : Hid (∀ c ∈ p.data.toList, dig c) := fun c hc => by
        obtain ⟨j, hj, e⟩ := List.getElem_of_mem hc
        exact HD.out j c (by have := HN.out.2; omega) (by rw [← e]; exact List.getElem?_eq_getElem hj)
      go_wp2
      go_ret
      exact ⟨PwRes.yes HT.out, rfl⟩
end Go.Proofs.YtokbalggdhippaaGreat
end

section
namespace Go.Proofs.YtokbalggdhippaaGreat
open Go.RowKit Flo
attribute [local go_sem ↓] Go.wp_at_zero Go.wp_at_succ
attribute [local go_sem] run_store_float run_store_complex
theorem Box.oth5 {w0 W : World} {b : Nat} {C : Array Value} {T : TypeId} (h : Box w0 b C T W) {p : Nat} (hp : w0.heap.size ≤ p) (hne : b ≠ p) (u0 u1 u2 u3 u4 : Value) :
    Box w0 b C T (((((W.setCell ⟨p, 0, none⟩ u0).setCell ⟨p, 1, none⟩ u1).setCell ⟨p, 2, none⟩ u2).setCell ⟨p, 3, none⟩ u3).setCell ⟨p, 4, none⟩ u4) :=
  ((((h.other (p := ⟨p, 0, none⟩) hp hne u0).other (p := ⟨p, 1, none⟩) hp hne u1).other (p := ⟨p, 2, none⟩) hp hne u2).other (p := ⟨p, 3, none⟩) hp hne u3).other (p := ⟨p, 4, none⟩) hp hne u4
theorem PathR_cons {s : Int} {c : UInt8} {cs : List UInt8} {cx cy d x y dd : Nat} : PathR s (c :: cs) cx cy d x y dd ↔ dig c ∧ SplitP cx cy d s ∧ PathR s cs (quart cx cy d s (c.toNat - 48)).1 (quart cx cy d s (c.toNat - 48)).2 (d + 1) x y dd := Iff.rfl
theorem PathOut.no {w w' : World} {cx cy : Nat} {deep size most : Int} {bs : List UInt8} (hb : Below w.heap.size w w') (h : ¬ PathOK cx cy deep size bs) : PathOut w cx cy deep size most bs (.returned (.tuple #[.agg #[.complex .f32 0 0, .int .i64 0, .int .i64 0, .slice none 0 0, .slice none 0 0], .bool false])) w' := ⟨hb, .inl ⟨rfl, h⟩⟩
theorem PathOut.yes {w w' : World} {cx cy : Nat} {deep size most : Int} {bs : List UInt8} {t : TRec} {d0 d : Nat} (hb : Below w.heap.size w w') (h1 : TOwn w.heap.size t w') (h2 : TGood most t) (h3 : t.size = size) (h4 : deep = d0) (h5 : t.deep = d) (h6 : MkP cx cy deep size) (h7 : PathR size bs cx cy d0 t.cx t.cy d) :
    PathOut w cx cy deep size most bs (.returned (.tuple #[.agg #[.complex .f32 t.cx t.cy, .int .i64 t.deep, .int .i64 t.size, .slice (some ⟨t.gs, 0, none⟩) t.n t.cs, .slice (some ⟨t.gm, 0, none⟩) t.n t.cm], .bool true])) w' := ⟨hb, .inr ⟨t, d0, d, rfl, h1, h2, h3, h4, h5, h6, h7⟩⟩
structure PathI (w : World) (tb cx cy d0 : Nat) (size most : Int) (bs : List UInt8) (k : Nat) (t : TRec) (d : Nat) (W : World) : Prop where
  R : Box w w.heap.size #[.complex .f32 0 0, .int .i64 0, .int .i64 0, .slice none 0 0, .slice none 0 0] 29 W
  T : Box w tb #[.complex .f32 t.cx t.cy, .int .i64 t.deep, .int .i64 t.size, .slice (some ⟨t.gs, 0, none⟩) t.n t.cs, .slice (some ⟨t.gm, 0, none⟩) t.n t.cm] 29 W
  own : TOwn w.heap.size t W
  good : TGood most t
  deep : t.deep = d
  sz : t.size = size
  tbw : w.heap.size < tb
  path : ∀ x y dd, PathR size bs cx cy d0 x y dd ↔ PathR size (bs.drop k) t.cx t.cy d x y dd
section
variable {w W W' : World} {tb cx cy d0 : Nat} {size most : Int} {bs : List UInt8} {k : Nat} {t : TRec} {d : Nat}
theorem PathI.step (h : PathI w tb cx cy d0 size most bs k t d W) (b : Below W.heap.size W W') : PathI w tb cx cy d0 size most bs k t d W' := ⟨h.R.step b, h.T.step b, h.own.step b, h.good, h.deep, h.sz, h.tbw, h.path⟩
theorem PathI.cut (h : PathI w tb cx cy d0 size most bs k t d W) {c : UInt8} (hc : bs[k]? = some c) (hn : ¬ (dig c ∧ SplitP t.cx t.cy d size)) {deep : Int} (hd : deep = d0) : ¬ PathOK cx cy deep size bs := by
  rintro ⟨-, d1, x, y, dd, e, hP⟩
  obtain rfl : d0 = d1 := by omega
  have := (h.path x y dd).1 hP
  rw [drop_at hc] at this
  exact hn ⟨this.1, this.2.1⟩
theorem PathI.next (h : PathI w tb cx cy d0 size most bs k t d W) {c : UInt8} (hc : bs[k]? = some c) {j : Nat} (hj : c.toNat = 48 + j) (hdig : j < 4) (hS : SplitP t.cx t.cy d size) {u : TRec} (hu : TOwn w.heap.size u W) (hg : TGood most u) (ex : u.cx = (quart t.cx t.cy d size j).1) (ey : u.cy = (quart t.cx t.cy d size j).2) (ed : u.deep = (d : Int) + 1) (es : u.size = size) :
    PathI w tb cx cy d0 size most bs (k + 1) u (d + 1) (((((W.setCell ⟨tb, 0, none⟩ (.complex .f32 u.cx u.cy)).setCell ⟨tb, 1, none⟩ (.int .i64 u.deep)).setCell ⟨tb, 2, none⟩ (.int .i64 u.size)).setCell ⟨tb, 3, none⟩ (.slice (some ⟨u.gs, 0, none⟩) u.n u.cs)).setCell ⟨tb, 4, none⟩ (.slice (some ⟨u.gm, 0, none⟩) u.n u.cm)) := by
  have hb : w.heap.size ≤ tb := Nat.le_of_lt h.tbw
  refine ⟨h.R.oth5 hb (Nat.ne_of_lt h.tbw) _ _ _ _ _, h.T.set5 hb _ _ _ _ _, hu.far5 h.T hb _ _ _ _ _, hg, by rw [ed]; rfl, es, h.tbw, fun x y dd => ?_⟩
  rw [h.path, drop_at hc, PathR_cons]
  have e : c.toNat - 48 = j := by omega
  rw [e, ← ex, ← ey]
  exact ⟨fun h => h.2.2, fun h => ⟨⟨by omega, by omega⟩, hS, h⟩⟩
end
set_option maxRecDepth 100000 in
set_option maxHeartbeats 16000000 in
theorem specPath_is (cx cy : Nat) (deep size most : Int) (p : ByteArray) (hp : p.size ≤ 8) (hx : cx < 4294967296) (hy : cy < 4294967296) (w : World) :
    Calls Vp.prog 9 #[.complex .f32 cx cy, .int .i64 deep, .int .i64 size, .int .i64 most, .string p] w (PathOut w cx cy deep size most p.data.toList) := by
  have HIX := Lib.hid (index_str p)
  have HBA := Lib.hid (bytes_at p)
  have HMK := Lib.hid (fun W => specMakeC cx cy deep size most hx hy W)
  have HPW := Lib.hid (pathWell_is p hp)
  obtain ⟨n, hn⟩ : ∃ n, p.size = n := ⟨_, rfl⟩
  have HN : Hid (p.size = n ∧ p.data.toList.length = n) := ⟨hn, by rw [Array.length_toList]; exact hn⟩
  rw [hn] at hp
  have R := Box.new w #[.complex .f32 0 0, .int .i64 0, .int .i64 0, .slice none 0 0, .slice none 0 0] 29
  have HR := Lib.hid R
  obtain ⟨r0, r1, r2, r3, r4⟩ := R.cells5
  obtain ⟨f0, f1, f2, f3, f4⟩ := R.free5
  clear R
  go_enter Vp.func9, Tryz.ntmps9
  go_wp2_with fail
  refine (HMK.out _).mono ?_
  rintro e w1 ⟨⟨x, y, dd, ss, a1, n1, c1, a2, n2, c2, ok, rfl, hM⟩, hb1⟩
  have HM := Lib.hid hM
  have HB1 := Lib.hid hb1
  have HR1 := Lib.hid ((HR.out.step HB1.out).alloc (.cells #[.complex .f32 x y, .int .i64 dd, .int .i64 ss, .slice a1 n1 c1, .slice a2 n2 c2] 29))
  have htb : w.heap.size < w1.heap.size := (HR.out.step HB1.out).lt
  clear hM hb1 r0 r1 r2 r3 r4 f0 f1 f2 f3 f4
  obtain ⟨r0, r1, r2, r3, r4⟩ := HR1.out.cells5
  obtain ⟨f0, f1, f2, f3, f4⟩ := HR1.out.free5
  cases ok with
  | false =>
    have HNO : Hid (¬ PathOK cx cy deep size p.data.toList) := fun h => (HM.out.1 rfl).1 h.1
    have HBX := Lib.hid (HR.out.step HB1.out).old
    have hbx := HBX.out.size
    have HZ := Lib.hid (((HR.out.step HB1.out).set5 (Nat.le_refl _) (.complex .f32 0 0) (.int .i64 0) (.int .i64 0) (.slice none 0 0) (.slice none 0 0)).alloc (.cells #[.complex .f32 x y, .int .i64 dd, .int .i64 ss, .slice a1 n1 c1, .slice a2 n2 c2] 29))
    clear HR1 r0 r1 r2 r3 r4 f0 f1 f2 f3 f4
    obtain ⟨r0, r1, r2, r3, r4⟩ := (HR.out.step HB1.out).cells5
    obtain ⟨f0, f1, f2, f3, f4⟩ := (HR.out.step HB1.out).free5
    go_wp2
    obtain ⟨z0, z1, z2, z3, z4⟩ := HZ.out.cells5
    exact bodyPost_ret (v := .tuple #[.agg #[.complex .f32 0 0, .int .i64 0, .int .i64 0, .slice none 0 0, .slice none 0 0], .bool false]) (by simp [results, Tryz.f9, go_sem, z0, z1, z2, z3, z4]) rfl (PathOut.no ((set5 HBX.out (Nat.le_refl _) _ _ _ _ _).alloc (by simp; omega) _) HNO.out)
  | true =>
    obtain ⟨t, e1, e2, e3, e4, e5, ht, hgood⟩ := HM.out.2 rfl
    obtain ⟨d0, s0, hd0, hs0, -, -, -, -⟩ := hgood.n
    have hMK : MkP cx cy deep size := by
      obtain ⟨d, s, a, b, g1, g2, g3, -, -⟩ := hgood
      rw [← e1, ← e2, ← e3, ← e4]
      exact ⟨d, s, a, b, g1, g2, g3⟩
    have HMKP := Lib.hid hMK
    have hC : (#[.complex .f32 x y, .int .i64 dd, .int .i64 ss, .slice a1 n1 c1, .slice a2 n2 c2] : Array Value) = #[.complex .f32 t.cx t.cy, .int .i64 t.deep, .int .i64 t.size, .slice (some ⟨t.gs, 0, none⟩) t.n t.cs, .slice (some ⟨t.gm, 0, none⟩) t.n t.cm] := by
      injection e5
    injection hC with hC
    simp only [List.cons.injEq, and_true] at hC
    obtain ⟨g1, g2, g3, g4, g5⟩ := hC
    injection g1 with _ g1 g1'
    injection g2 with _ g2
    injection g3 with _ g3
    injection g4 with g4 g4' g4''
    injection g5 with g5 g5' g5''
    subst g1 g1' g2 g3 g4 g4' g4'' g5 g5' g5''
    have HD0 : Hid (deep = d0) := e3.symm.trans hd0
    have HI0 : Hid (PathI w w1.heap.size cx cy d0 size most p.data.toList 0 t d0 (w1.alloc (.cells #[.complex .f32 t.cx t.cy, .int .i64 t.deep, .int .i64 t.size, .slice (some ⟨t.gs, 0, none⟩) t.n t.cs, .slice (some ⟨t.gm, 0, none⟩) t.n t.cm] 29))) := by
      refine ⟨HR1.out, ((Box.new w1 _ _).up ((HR.out.step HB1.out).old)), ?_, hgood, hd0, e4, htb, fun x y dd => ?_⟩
      · exact (ht.step ((Below.refl _ _).alloc (Nat.le_refl _) _)).mono (Nat.le_of_lt (by have := HR.out.lt; omega))
      · rw [List.drop_zero, e1, e2]
    clear e1 e2 e3 e4 e5 ht hgood hMK hd0 hs0 HR1 HM HR r0 r1 r2 r3 r4 f0 f1 f2 f3 f4
    go_wp2
    generalize w1.heap.size = tb at *
    go_loopw [14] (fun i wr => ∃ (k d : Nat) (t : TRec), k ≤ n ∧ i = .int .i64 k ∧ Hid (PathI w tb cx cy d0 size most p.data.toList k t d wr)) (fun i _ => (n - intOf i).toNat)
    case atStart => exact ⟨0, d0, t, by omega, rfl, HI0⟩
    case round =>
      clear HI0
      obtain ⟨k, d, t, hk, rfl, HI⟩ := hrel
      obtain ⟨wo, rfl⟩ : ∃ wo, wo = wr := ⟨_, rfl⟩
      obtain ⟨t0, t1, t2, t3, t4⟩ := HI.out.T.cells5
      by_cases hlt : k < n
      · have hix := HIX.out k (by have := HN.out.1; omega)
        have hba := HBA.out k (by have := HN.out.1; omega)
        generalize p[k]'(by have := HN.out.1; omega) = c at *
        have HBK := Lib.hid hba
        obtain ⟨cn, hcn⟩ : ∃ cn, c.toNat = cn := ⟨_, rfl⟩
        have HCN := Lib.hid hcn
        rw [hcn] at hix
        clear hba hcn
        obtain ⟨d', hd', hsp⟩ := specSplitC most t w.heap.size wo HI.out.own HI.out.good
        obtain rfl : d = d' := by have := HI.out.deep; omega
        have HSP : Hid (Calls Vp.prog 14 #[.agg #[.complex .f32 t.cx t.cy, .int .i64 t.deep, .int .i64 t.size, .slice (some ⟨t.gs, 0, none⟩) t.n t.cs, .slice (some ⟨t.gm, 0, none⟩) t.n t.cm], .int .i64 most] wo (SplitV wo t.cx t.cy d t.size most)) := hsp
        clear hsp hd'
        go_wp2_with fail
        refine HSP.out.mono ?_
        rintro e w2 ⟨⟨v, rfl, k', hk', hno⟩ | ⟨L, v, rfl, hL, hLl, hLt⟩, hb2⟩
        · have HNO : Hid (¬ PathOK cx cy deep size p.data.toList) := HI.out.cut HBK.out (fun h => hno (by have := h.2 k' hk'; rw [← HI.out.sz] at this; exact this)) HD0.out
          have HI2 := Lib.hid (HI.out.step hb2)
          obtain ⟨r0, r1, r2, r3, r4⟩ := HI2.out.R.cells5
          obtain ⟨f0, f1, f2, f3, f4⟩ := HI2.out.R.free5
          have HB := Lib.hid HI2.out.R.old
          clear hno hb2 t0 t1 t2 t3 t4 HSP
          go_wp2
          exact bodyPost_ret (v := .tuple #[.agg #[.complex .f32 0 0, .int .i64 0, .int .i64 0, .slice none 0 0, .slice none 0 0], .bool false]) (by simp [results, Tryz.f9, go_sem, r0, r1, r2, r3, r4]) rfl (PathOut.no (set5 HB.out (Nat.le_refl _) _ _ _ _ _) HNO.out)
        · have hform := ownsRow_form hL.row (by omega)
          obtain ⟨g, cap, rfl, -, hcap⟩ := hform
          have hszz := HI.out.sz
          rw [hszz] at hLt
          clear hszz
          have HL := Lib.hid hL
          have HI2 := Lib.hid (HI.out.step hb2)
          have HSPL : Hid (SplitP t.cx t.cy d size) := fun j hj => by
            obtain ⟨u, hu⟩ : ∃ u, L[j]? = some u := ⟨_, List.getElem?_eq_getElem (by omega)⟩
            obtain ⟨q1, q2, q3, q4, q5⟩ := hLt j u hu
            obtain ⟨a1, a2, a3, a4, b1, b2, b3, -, -⟩ := q5
            have hm : MkP u.cx u.cy u.deep u.size := ⟨a1, a2, a3, a4, b1, b2, b3⟩
            rw [q1, q2, q3, q4] at hm
            exact hm
          have HLT := Lib.hid hLt
          have HLN := Lib.hid hLl
          have hb2s := hb2.size
          clear hL hb2 hLt t0 t1 t2 t3 t4 HSP
          rw [hLl] at hcap ⊢
          by_cases h1 : cn < 48
          · have HNO : Hid (¬ PathOK cx cy deep size p.data.toList) := HI.out.cut HBK.out (fun h => by have := h.1.1; have := HCN.out; omega) HD0.out
            obtain ⟨r0, r1, r2, r3, r4⟩ := HI2.out.R.cells5
            obtain ⟨f0, f1, f2, f3, f4⟩ := HI2.out.R.free5
            have HB := Lib.hid HI2.out.R.old
            have h1' : ((cn : Int) < 48) := by omega
            go_wp2
            exact bodyPost_ret (v := .tuple #[.agg #[.complex .f32 0 0, .int .i64 0, .int .i64 0, .slice none 0 0, .slice none 0 0], .bool false]) (by simp [results, Tryz.f9, go_sem, r0, r1, r2, r3, r4]) rfl (PathOut.no (set5 HB.out (Nat.le_refl _) _ _ _ _ _) HNO.out)
          · by_cases h2 : 51 < cn
            · have HNO : Hid (¬ PathOK cx cy deep size p.data.toList) := HI.out.cut HBK.out (fun h => by have := h.1.2; have := HCN.out; omega) HD0.out
              obtain ⟨r0, r1, r2, r3, r4⟩ := HI2.out.R.cells5
              obtain ⟨f0, f1, f2, f3, f4⟩ := HI2.out.R.free5
              have HB := Lib.hid HI2.out.R.old
              have h1' : ¬ ((cn : Int) < 48) := by omega
              have h2' : (51 : Int) < cn := by omega
              go_wp2
              exact bodyPost_ret (v := .tuple #[.agg #[.complex .f32 0 0, .int .i64 0, .int .i64 0, .slice none 0 0, .slice none 0 0], .bool false]) (by simp [results, Tryz.f9, go_sem, r0, r1, r2, r3, r4]) rfl (PathOut.no (set5 HB.out (Nat.le_refl _) _ _ _ _ _) HNO.out)
            · obtain ⟨j, hj⟩ : ∃ j, cn = 48 + j := ⟨cn - 48, by omega⟩
              have hj4 : j < 4 := by omega
              obtain ⟨u, hu⟩ : ∃ u, L[j]? = some u := ⟨_, List.getElem?_eq_getElem (by omega)⟩
              obtain ⟨q1, q2, q3, q4, q5⟩ := HLT.out j u hu
              have HU := Lib.hid (HL.out.own u (List.mem_of_getElem? hu))
              have HCE := Lib.hid (show TList wo.heap.size L (.slice (some ⟨g, 0, none⟩) L.length cap) w2 from HL.out)
              obtain ⟨y0, y1, y2, y3, y4⟩ := HCE.out.cells hu
              obtain ⟨t0, t1, t2, t3, t4⟩ := HI2.out.T.cells5
              obtain ⟨f0, f1, f2, f3, f4⟩ := HI2.out.T.free5
              have HNX := Lib.hid (HI2.out.next HBK.out (HCN.out.trans hj) hj4 HSPL.out (HU.out.mono (Nat.le_of_lt (by have := HI.out.R.lt; exact this))) q5 q1 q2 q3 q4)
              have huT := HI2.out.T.lt
              clear q1 q2 q3 q4 q5 hu HCE HL HU HSPL HLT
              subst hj
              clear h1 h2
              rcases (by omega : j = 0 ∨ j = 1 ∨ j = 2 ∨ j = 3) with rfl | rfl | rfl | rfl
              all_goals
                simp only [Nat.reduceMul, Nat.reduceAdd] at y0 y1 y2 y3 y4 hix
                go_wp2
                go_roundw
                case rel => exact ⟨k + 1, d + 1, u, by omega, by go_num, HNX⟩
                case measure => simp [intOf]; omega
      · obtain rfl : k = n := by omega
        have HP : Hid (PathR size p.data.toList cx cy d0 t.cx t.cy d) := (HI.out.path _ _ _).2 (by rw [← HN.out.2, List.drop_length]; exact ⟨rfl, rfl, rfl⟩)
        obtain ⟨r0, r1, r2, r3, r4⟩ := HI.out.R.cells5
        obtain ⟨f0, f1, f2, f3, f4⟩ := HI.out.R.free5
        have HO : Hid (∀ u0 u1 u2 u3 u4, TOwn w.heap.size t (((((wo.setCell ⟨w.heap.size, 0, none⟩ u0).setCell ⟨w.heap.size, 1, none⟩ u1).setCell ⟨w.heap.size, 2, none⟩ u2).setCell ⟨w.heap.size, 3, none⟩ u3).setCell ⟨w.heap.size, 4, none⟩ u4)) := fun u0 u1 u2 u3 u4 => HI.out.own.far5 HI.out.R (Nat.le_refl _) u0 u1 u2 u3 u4
        have HB := Lib.hid HI.out.R.old
        go_wp2
        exact bodyPost_ret (v := .tuple #[.agg #[.complex .f32 t.cx t.cy, .int .i64 t.deep, .int .i64 t.size, .slice (some ⟨t.gs, 0, none⟩) t.n t.cs, .slice (some ⟨t.gm, 0, none⟩) t.n t.cm], .bool true]) (by simp [results, Tryz.f9, go_sem, r0, r1, r2, r3, r4]) rfl (PathOut.yes (set5 HB.out (Nat.le_refl _) _ _ _ _ _) (HO.out _ _ _ _ _) HI.out.good HI.out.sz HD0.out HI.out.deep HMKP.out HP.out)
end Go.Proofs.YtokbalggdhippaaGreat
end
