/- Merged texts: Row. -/
import Derived.Test.YtokbalggdhippaaGreatQ4
import Derived.Test.YtokbalggdhippaaGreatQ5
import Derived.Deep.Cut
import Derived.Deep.RegionHeld3
import Derived.Deep.RegionLaw
import Derived.Test.YtokbalggdhippaaGreatQ14
import Derived.Deep.DeepAppendRoom
set_option linter.all false
section
namespace Go.Proofs.YtokbalggdhippaaGreat
open Go.RowKit Go.Proofs.YtokbalggdhippaaGreat.Co
attribute [local go_sem ↓] Go.wp_at_zero Go.wp_at_succ
attribute [local go_sem] run_store_float run_store_complex
theorem step_append_spare {P : Program} (w : World) {ops : Array Oper} {o : Oper} {a : Act} {K : Act → World → Prop} {Q : Exit → Act → World → Prop} {E : Prop} (hgd : o.guard = none) (s x : Operand) (t : TypeId)
    (ho : o.op = .call { callee := .builtin .append, args := #[s, x], argTypes := #[t, t] })
    (base : Nat) (e : TypeId) (i : TypeInfo) (size : Nat) (ht : P.underlying t = some (.slice e)) (hi : P.info? e = some i) (hsize : i.size = size)
    (g n cap : Nat) (xs : List Value) (hs : a.eval s = .slice (some ⟨g, 0, none⟩) n cap) (hown : w.ownsRow base e size (.slice (some ⟨g, 0, none⟩) n cap) n xs)
    (ad : Addr) (m c : Nat) (news : List Value) (hx : a.eval x = .slice (some ad) m c) (hl : news.length = m * size) (hnews : ∀ j u, news[j]? = some u → w.cell? (ad.add j) = some u) (h1 : ∀ u ∈ news, u.oneCell' = true)
    (hroom : n + m ≤ cap)
    (h : ∀ w', w'.ownsRow base e size (.slice (some ⟨g, 0, none⟩) (n + m) cap) (n + m) (xs ++ news) → w.grownBy w' (some g) → K (a.put o.dst (.slice (some ⟨g, 0, none⟩) (n + m) cap)) w') :
    if Region.wanted o (yielded ops a.tmps) = true then Oper.wp P o a w K Q else E := by
  have hw : Region.wanted o (yielded ops a.tmps) = true := by simp [Region.wanted, hgd]
  rw [if_pos hw]
  exact wp_append_own_spare w s x t ho base e i size ht hi hsize g n cap xs hs hown ad m c news hx hl hnews h1 hroom h
structure RW (w : World) (rb cap N M gs gm : Nat) (xs : List Nat) (ys : List Int) (W : World) : Prop where
  R : Box w rb #[.slice (some ⟨gs, 0, none⟩) N cap, .slice (some ⟨gm, 0, none⟩) M cap] 70 W
  S : W.ownsRow w.heap.size 63 1 (.slice (some ⟨gs, 0, none⟩) N cap) N (xs.map floV)
  M : W.ownsRow w.heap.size 3 1 (.slice (some ⟨gm, 0, none⟩) M cap) M (ys.map intV)
  hr : w.heap.size ≤ rb
section
variable {w W W' : World} {rb cap N M gs gm : Nat} {xs : List Nat} {ys : List Int}
theorem RW.step (h : RW w rb cap N M gs gm xs ys W) (k : Below W.heap.size W W') : RW w rb cap N M gs gm xs ys W' := ⟨h.R.step k, ownsRow_step h.S k, ownsRow_step h.M k, h.hr⟩
theorem RW.alloc (h : RW w rb cap N M gs gm xs ys W) (o : Obj) : RW w rb cap N M gs gm xs ys (W.alloc o) := h.step ((Below.refl _ _).alloc (Nat.le_refl _) o)
theorem RW.drw (h : RW w rb cap N M gs gm xs ys W) (k : Drw W W') : RW w rb cap N M gs gm xs ys W' := h.step (k.below _)
theorem RW.old (h : RW w rb cap N M gs gm xs ys W) : Below w.heap.size w W := h.R.old
theorem RW.c0 (h : RW w rb cap N M gs gm xs ys W) : W.cell? ⟨rb, 0, none⟩ = some (.slice (some ⟨gs, 0, none⟩) N cap) := h.R.cell 0 _ rfl
theorem RW.c1 (h : RW w rb cap N M gs gm xs ys W) : W.cell? ⟨rb, 1, none⟩ = some (.slice (some ⟨gm, 0, none⟩) M cap) := h.R.cell 1 _ rfl
theorem RW.smooth (h : RW w rb cap N M gs gm xs ys W) {z : Nat} (hown : W'.ownsRow w.heap.size 63 1 (.slice (some ⟨gs, 0, none⟩) (N + 1) cap) (N + 1) (xs.map floV ++ [floV z])) (hg : W.grownBy W' (some gs)) :
    RW w rb cap (N + 1) M gs gm (xs ++ [z]) ys (W'.setCell ⟨rb, 0, none⟩ (.slice (some ⟨gs, 0, none⟩) (N + 1) cap)) ∧ W'.cell? ⟨rb, 0, none⟩ = some (.slice (some ⟨gs, 0, none⟩) N cap) ∧ W'.frozen? ⟨rb, 0, none⟩ = false := by
  have hrow : ∀ k, some gs = some k → w.heap.size ≤ k := fun k hk => (h.S.lt k hk).1
  have R := h.R.grown hg (ownsRow_ne h.S h.R.blk (by decide)) hrow
  have M := h.M.kept hg (ownsRow_apart h.M h.S (by decide))
  refine ⟨⟨?_, ?_, ownsRow_set M R.blk (by decide) _, h.hr⟩, R.cell 0 _ rfl, R.frozen 0⟩
  · have := R.set h.hr 0 (.slice (some ⟨gs, 0, none⟩) (N + 1) cap)
    exact this
  · rw [List.map_append]
    exact ownsRow_set hown R.blk (by decide) _
theorem RW.mark (h : RW w rb cap N M gs gm xs ys W) {z : Int} (hown : W'.ownsRow w.heap.size 3 1 (.slice (some ⟨gm, 0, none⟩) (M + 1) cap) (M + 1) (ys.map intV ++ [intV z])) (hg : W.grownBy W' (some gm)) :
    RW w rb cap N (M + 1) gs gm xs (ys ++ [z]) (W'.setCell ⟨rb, 1, none⟩ (.slice (some ⟨gm, 0, none⟩) (M + 1) cap)) ∧ W'.cell? ⟨rb, 1, none⟩ = some (.slice (some ⟨gm, 0, none⟩) M cap) ∧ W'.frozen? ⟨rb, 1, none⟩ = false := by
  have hrow : ∀ k, some gm = some k → w.heap.size ≤ k := fun k hk => (h.M.lt k hk).1
  have R := h.R.grown hg (ownsRow_ne h.M h.R.blk (by decide)) hrow
  have S := h.S.kept hg (ownsRow_apart h.S h.M (by decide))
  refine ⟨⟨?_, ownsRow_set S R.blk (by decide) _, ?_, h.hr⟩, R.cell 1 _ rfl, R.frozen 1⟩
  · have := R.set h.hr 1 (.slice (some ⟨gm, 0, none⟩) (M + 1) cap)
    exact this
  · rw [List.map_append]
    exact ownsRow_set hown R.blk (by decide) _
end
theorem heap_al (w : World) (o : Obj) : (w.alloc o).heap = w.heap.push o := rfl
theorem heap_dr (w : World) : w.drew.heap = w.heap := rfl
theorem push3 (h : Array Obj) (a b c : Obj) : (((h.push a).push b).push c)[h.size]? = some a ∧ (((h.push a).push b).push c)[h.size + 1]? = some b ∧ (((h.push a).push b).push c)[h.size + 1 + 1]? = some c := by
  refine ⟨?_, ?_, ?_⟩
  · rw [Array.getElem?_push, if_neg (by simp; omega), Array.getElem?_push, if_neg (by simp), Array.getElem?_push, if_pos rfl]
  · rw [Array.getElem?_push, if_neg (by simp), Array.getElem?_push, if_pos (by simp)]
  · rw [Array.getElem?_push, if_pos (by simp)]
theorem run_make_0 {P : Program} (t e : TypeId) (i : TypeInfo) (z : Value) (ht : P.underlying t = some (.slice e)) (hi : P.info? e = some i) (hz : i.zero = some z) (n : Nat) (hb : i.bytes ≤ 128) (hn : n ≤ 1099511627776) :
    ∃ C : Array Value, C.size = n * i.size ∧ ∀ w : World, (Instr.makeSlice t (.int .i64 0) (.int .i64 n)).run P w = .ok (.slice (some ⟨w.heap.size, 0, none⟩) 0 n) (w.alloc (.cells C e)) := by
  refine ⟨madeCells z.cells (n * i.size), size_madeCells _ _, fun w => ?_⟩
  have hm : i.bytes * n ≤ 128 * 1099511627776 := Nat.mul_le_mul hb hn
  have hm2 : ((i.bytes * n : Nat) : Int) = (i.bytes : Int) * n := by simp
  have h := run_make w t e i z ht hi hz .i64 .i64 (0 : Int) n (by omega) (by omega) (by omega) (by omega)
  rw [Int.toNat_natCast] at h
  exact h
theorem RW.start {w W : World} {rb gs gm cap : Nat} {C D : Array Value} (hC : C.size = cap) (hD : D.size = cap) (hgs : w.heap.size ≤ gs) (hgm : w.heap.size ≤ gm) (hrb : w.heap.size ≤ rb) (hcap : cap ≤ 8) (hW : Below w.heap.size w W)
    (hs : W.heap[gs]? = some (.cells C 63 (0, 0))) (hm : W.heap[gm]? = some (.cells D 3 (0, 0)))
    (hr : W.heap[rb]? = some (.cells #[.slice (some ⟨gs, 0, none⟩) 0 cap, .slice (some ⟨gm, 0, none⟩) 0 cap] 70 (0, 0))) : RW w rb cap 0 0 gs gm [] [] W :=
  ⟨⟨hr, hW⟩, ⟨by simp, .inr ⟨gs, cap, _, rfl, hgs, hs, Nat.zero_le _, by unfold maxLen; omega, by simp [hC], by simp⟩⟩, ⟨by simp, .inr ⟨gm, cap, _, rfl, hgm, hm, Nat.zero_le _, by unfold maxLen; omega, by simp [hD], by simp⟩⟩, hrb⟩
structure CellOK (cx cy d n : Nat) (most : Int) (px py : Nat → Nat → Nat) (bx : Nat → Nat → Value) (st : Nat → Nat → Int) (sm : Nat → Nat → Nat) : Prop where
  pt : ∀ k l : Nat, k < n → l < n → ∀ W, Calls Vp.prog 34 #[.complex .f32 cx cy, .int .i64 d, .int .i64 k, .int .i64 l] W fun e w' => e = .returned (.complex .f32 (px k l) (py k l)) ∧ W = w'
  box : ∀ k l : Nat, k < n → l < n → ∀ W, Calls Vp.prog 61 #[.complex .f32 (px k l) (py k l), .int .i64 d] W fun e w' => e = .returned (bx k l) ∧ Below W.heap.size W w'
  state : ∀ k l : Nat, k < n → l < n → ∀ W, Calls Vp.prog 60 #[bx k l, .int .i64 most] W fun e w' => e = .returned (.tuple #[.int .i64 (st k l), .bool true]) ∧ Below W.heap.size W w'
  smooth : ∀ k l : Nat, k < n → l < n → ∀ W, Calls Vp.prog 62 #[.complex .f32 (px k l) (py k l), .int .i64 most] W fun e w' => e = .returned (.float .f32 (sm k l)) ∧ Below W.heap.size W w'
noncomputable def sBody : Code := Tryz.f35.body.getD .skip
noncomputable def sX0 : Code := match sBody with | .seq _ (.seq _ (.block _ (.loop x))) => x | _ => .skip
noncomputable def sRow : Code := match sX0 with | .seq _ (.seq _ (.seq (.block _ r) _)) => r | _ => .skip
noncomputable def sR3 : Code := match sRow with | .seq a _ => a | _ => .skip
noncomputable def sR4 : Code := match sRow with | .seq _ (.seq a _) => a | _ => .skip
noncomputable def sIn : Code := match sRow with | .seq _ (.seq _ (.seq a _)) => a | _ => .skip
def RowN (ch : Value) (cx cy d n : Nat) (most : Int) (st : Nat → Nat → Int) (sm : Nat → Nat → Nat) (ds : List Deferred) (w : World) (i : Nat) (a : Act) (W : World) : Prop :=
  ∃ rb gs gm, a.tmps.size = 61 ∧ a.defers = ds ∧ a.tmps[0]? = some ch ∧ a.tmps[1]? = some (.complex .f32 cx cy) ∧ a.tmps[2]? = some (.int .i64 d) ∧ a.tmps[3]? = some (.int .i64 n) ∧ a.tmps[4]? = some (.int .i64 most) ∧
    a.tmps[17]? = some (.int .i64 n) ∧ a.tmps[18]? = some (.int .i64 i) ∧ a.tmps[11]? = some (.pointer (some ⟨rb, 0, none⟩)) ∧ RW w rb n n n gs gm ((List.range n).map (sm i)) ((List.range n).map (st i)) W
set_option maxRecDepth 100000 in
set_option maxHeartbeats 8000000 in
theorem in_wp {cx cy d n : Nat} {most : Int} {px py : Nat → Nat → Nat} {bx : Nat → Nat → Value} {st : Nat → Nat → Int} {sm : Nat → Nat → Nat} (C : CellOK cx cy d n most px py bx st sm) (hn : n ≤ 8) (i : Nat) (hi : i < n) (ch : Value) (ds : List Deferred) (rb gs gm : Nat) (x5 x6 x7 x8 x9 x12 x13 x14 x15 x16 x19 x20 x21 x23 x25 x26 x27 x28 x29 x30 x31 x32 x33 x34 x35 x36 x37 x38 x39 x40 x41 x42 x43 x44 x45 x46 x47 x48 x49 x50 x51 x52 x53 x54 x55 x56 x57 x58 x59 x60 : Value) (w W : World) (T : RW w rb n 0 0 gs gm [] [] W) :
    sIn.wp Vp.prog (onlyN fun a w3 => RowN ch cx cy d n most st sm ds w i a w3) ⟨#[ch, .complex .f32 cx cy, .int .i64 d, .int .i64 n, .int .i64 most, x5, x6, x7, x8, x9, .int .i64 i, .pointer (some ⟨rb, 0, none⟩), x12, x13, x14, x15, x16, .int .i64 n, .int .i64 i, x19, x20, x21, .slice (some ⟨gs, 0, none⟩) 0 n, x23, .slice (some ⟨gm, 0, none⟩) 0 n, x25, x26, x27, x28, x29, x30, x31, x32, x33, x34, x35, x36, x37, x38, x39, x40, x41, x42, x43, x44, x45, x46, x47, x48, x49, x50, x51, x52, x53, x54, x55, x56, x57, x58, x59, x60], ds⟩ W := by
  obtain ⟨iF, hiF, hzF0, hzF1, hzF2⟩ := info_parts infoF
  obtain ⟨iI, hiI, hzI0, hzI1, hzI2⟩ := info_parts infoI
  have HT := Lib.hid T
  have HC := Lib.hid C
  clear T C
  unfold sIn sRow sX0 sBody Tryz.f35
  dsimp only [Option.getD]
  go_wp2
  go_loopw [12, 13, 14, 15, 27, 28, 29, 30, 31, 32, 33, 34, 35, 36, 37, 38, 39, 40, 41, 42, 43, 44, 45, 46, 47, 48, 49, 50, 51, 52, 53, 54, 55, 56, 57] (fun _ _ _ _ c _ _ _ _ _ _ _ _ _ _ _ _ _ _ _ _ _ _ _ _ _ _ _ _ _ _ _ _ _ _ wr => ∃ l : Nat, l ≤ n ∧ c = .int .i64 l ∧ Hid (RW w rb n l l gs gm ((List.range l).map (sm i)) ((List.range l).map (st i)) wr)) (fun _ _ _ _ c _ _ _ _ _ _ _ _ _ _ _ _ _ _ _ _ _ _ _ _ _ _ _ _ _ _ _ _ _ _ _ => (n - intOf c).toNat)
  case atStart => exact ⟨0, by omega, rfl, HT⟩
  case round =>
    clear HT
    obtain ⟨l, hl, rfl, HT⟩ := hrel
    obtain ⟨wo, rfl⟩ : ∃ wo, wo = wr := ⟨_, rfl⟩
    by_cases hls : l < n
    · go_wp2_with fail
      refine (HC.out.pt i l hi hls _).mono ?_
      rintro e w1 ⟨rfl, rfl⟩
      go_wp2_with fail
      refine (HC.out.box i l hi hls _).mono ?_
      rintro e w2 ⟨rfl, hb⟩
      have HT1 := Lib.hid (HT.out.step hb)
      clear HT hb
      go_wp2_with fail
      refine (HC.out.state i l hi hls _).mono ?_
      rintro e w3 ⟨rfl, hb⟩
      have T3 := HT1.out.step hb
      clear HT1 hb
      have k3 := T3.c0
      go_wp2_with fail
      go_region_law (first
        | (go_simp
           go_at_call 62
           refine (HC.out.smooth i l hi hls _).mono ?_
           rintro e w5 ⟨rfl, hb⟩
           have T5 := (T3.drw (Drw.refl _).drew).step hb
           have k5 := T5.c0
           have k5' := (T5.alloc (.cells #[.float .f32 (sm i l)] 63)).c0
           clear hb)
        | (refine step_append_spare _ (by rfl) _ _ _ (by rfl) w.heap.size 63 iF 1 (Vp.und Tryz.underlying26) hiF hzF1 gs l n (((List.range l).map (sm i)).map floV) (by rfl) (T5.S.alloc _) ⟨w5.heap.size, 0, none⟩ 1 1 [floV (sm i l)] (by rfl) (by rfl) (World.news_of_block (cs := #[floV (sm i l)]) (t := 63) (fr := (0, 0)) (heap_alloc_new w5 _)) (by simp [floV, Value.oneCell']) (by omega) ?_
           intro w6 hown hgrow
           obtain ⟨T6, k6, f6⟩ := (T5.alloc _).smooth hown hgrow))
      all_goals
        have HT6 := Lib.hid T6
        have k7 := T6.c1
        have k8 := (T6.alloc (.cells #[.int .i64 (st i l)] 3)).c1
        clear T3 T5 T6 k3 k5 k5' k6 f6 hown hgrow
        generalize w6.setCell ⟨rb, 0, none⟩ (.slice (some ⟨gs, 0, none⟩) (l + 1) n) = w7 at *
        go_wp2_with (at_builtin; refine wpList_append_own_spare _ rfl _ _ _ rfl w.heap.size 3 iI 1 (Vp.und Tryz.underlying27) hiI hzI1 gm l n (((List.range l).map (st i)).map intV) rfl (HT6.out.M.alloc _) ⟨w7.heap.size, 0, none⟩ 1 1 [intV (st i l)] rfl rfl (World.news_of_block (cs := #[intV (st i l)]) (t := 3) (fr := (0, 0)) (heap_alloc_new w7 _)) (by simp [intV, Value.oneCell']) (by omega) ?_; intro w8 hown hgrow; obtain ⟨T8, k9, f9⟩ := (HT6.out.alloc _).mark hown hgrow; have HT8 := Lib.hid T8; clear T8 hown hgrow)
        go_roundw
        case rel => exact ⟨l + 1, by omega, by go_num, (by show RW _ _ _ _ _ _ _ _ _ _; rw [List.range_succ, List.map_append, List.map_append]; exact HT8.out)⟩
        case measure => simp [intOf]; omega
    · obtain rfl : l = n := by omega
      go_wp2
      exact ⟨rb, gs, gm, rfl, rfl, rfl, rfl, rfl, rfl, rfl, rfl, rfl, rfl, HT.out⟩
set_option maxRecDepth 100000 in
set_option maxHeartbeats 8000000 in
theorem row_wp {cx cy d n : Nat} {most : Int} {px py : Nat → Nat → Nat} {bx : Nat → Nat → Value} {st : Nat → Nat → Int} {sm : Nat → Nat → Nat} (C : CellOK cx cy d n most px py bx st sm) (hn : n ≤ 8) (i : Nat) (hi : i < n) (ch : Value) (ds : List Deferred) (x5 x6 x7 x8 x9 x10 x11 x12 x13 x14 x15 x16 x19 x20 x21 x22 x23 x24 x25 x26 x27 x28 x29 x30 x31 x32 x33 x34 x35 x36 x37 x38 x39 x40 x41 x42 x43 x44 x45 x46 x47 x48 x49 x50 x51 x52 x53 x54 x55 x56 x57 x58 x59 x60 : Value) (w : World) :
    sR3.wp Vp.prog (onlyN fun a w1 => sR4.wp Vp.prog (onlyN fun a w2 => sIn.wp Vp.prog (onlyN fun a w3 => RowN ch cx cy d n most st sm ds w i a w3) a w2) a w1) ⟨#[ch, .complex .f32 cx cy, .int .i64 d, .int .i64 n, .int .i64 most, x5, x6, x7, x8, x9, x10, x11, x12, x13, x14, x15, x16, .int .i64 n, .int .i64 i, x19, x20, x21, x22, x23, x24, x25, x26, x27, x28, x29, x30, x31, x32, x33, x34, x35, x36, x37, x38, x39, x40, x41, x42, x43, x44, x45, x46, x47, x48, x49, x50, x51, x52, x53, x54, x55, x56, x57, x58, x59, x60], ds⟩ w := by
  obtain ⟨iF, hiF, hzF0, hzF1, hzF2⟩ := info_parts infoF
  obtain ⟨iI, hiI, hzI0, hzI1, hzI2⟩ := info_parts infoI
  obtain ⟨cF, hcF, hF⟩ := run_make_0 (P := Vp.prog) 26 63 iF _ (Vp.und Tryz.underlying26) hiF hzF0 n (by omega) (by omega)
  obtain ⟨cI, hcI, hI⟩ := run_make_0 (P := Vp.prog) 27 3 iI _ (Vp.und Tryz.underlying27) hiI hzI0 n (by omega) (by omega)
  unfold sR3 sRow sX0 sBody Tryz.f35
  dsimp only [Option.getD]
  go_wp2
  show Code.wp Vp.prog sR4 _ _ _
  unfold sR4 sRow sX0 sBody Tryz.f35
  dsimp only [Option.getD]
  go_region
  all_goals
    clear hF hI
    refine in_wp C hn i hi ch ds _ _ _ _ _ _ _ _ _ _ _ _ _ _ _ _ _ _ _ _ _ _ _ _ _ _ _ _ _ _ _ _ _ _ _ _ _ _ _ _ _ _ _ _ _ _ _ _ _ _ _ _ _ w _ ?_
    refine RW.start (cap := n) (by rw [hcF, hzF1]; omega) (by rw [hcI, hzI1]; omega) (by omega) (by omega) (by omega) hn ?_ ?_ ?_ ?_
    · exact ((((Below.refl _ _).alloc (Nat.le_refl _) _).alloc (by simp) _).alloc (by simp; omega) _).drew
    all_goals
      simp only [heap_al, heap_dr]
      first | exact (push3 _ _ _ _).1 | exact (push3 _ _ _ _).2.1 | exact (push3 _ _ _ _).2.2
end Go.Proofs.YtokbalggdhippaaGreat
end
