/- Merged texts: JoiD, RegI, JoiL. -/
import Derived.Test.YtalmhbcmagjheaaJ12
import Derived.Test.YtalmhbcmagjheaaJ1
import Derived.Orders
import Derived.OrdersHeld
import Derived.Test.YtalmhbcmagjheaaJ13
section
/- Walks: the reference's l7Four. -/
namespace Go.Proofs.Ytalmhbcmagjheaa
open Go.RowKit Flo
attribute [local go_sem] run_store_float run_store_complex

set_option maxRecDepth 100000 in
set_option maxHeartbeats 8000000 in
theorem l7Four_is (B g cap : Nat) (L : List JT) (t0 : JT) (h0 : L[0]? = some t0) (hl : L.length ≤ 4) (w : World) (hL : JIn B g L w) :
    Calls Try.prog 29 #[.slice (some ⟨g, 0, none⟩) L.length cap] w fun e w' => (∃ b, e = .returned (.bool b) ∧ (b = true ↔ Fit4 L t0)) ∧ Below w.heap.size w w' := by
  obtain ⟨n, hn⟩ : ∃ n, L.length = n := ⟨_, rfl⟩
  have HN := Lib.hid hn
  rw [hn] at hl ⊢
  by_cases h4 : n = 4
  · subst h4
    have hok := hL.own t0 (List.mem_of_getElem? h0)
    have HOK := Lib.hid hok
    have HL := Lib.hid hL
    have H0 := Lib.hid h0
    have HAT : Hid (∀ k, k < 4 → ∃ t, L[k]? = some t) := fun k hk => ⟨_, List.getElem?_eq_getElem (by omega)⟩
    clear hL hok h0 hn hl
    go_enter Try.func29, Try.ntmps29
    go_wp2
    go_loopw [3] (fun i wr => ∃ k : Nat, k ≤ 4 ∧ i = .int .i64 k ∧ Hid (Below w.heap.size w wr) ∧ Hid (∀ (j : Nat) (t : JT), j < k → L[j]? = some t → gdB t0 t = true)) (fun i _ => (4 - intOf i).toNat)
    case atStart => exact ⟨0, by omega, rfl, Below.refl _ _, fun j t hj => by omega⟩
    case round =>
      obtain ⟨k, hk, rfl, HB, HG⟩ := hrel
      by_cases hlt : k < 4
      · obtain ⟨t, ht⟩ := HAT.out k hlt
        have HT := Lib.hid ht
        obtain ⟨c0, c1, c2, c3, c4⟩ : (∀ s : Kw wr, s.W.cell? ⟨g, k * 5, none⟩ = some (.complex .f32 t.cx t.cy)) ∧ (∀ s : Kw wr, s.W.cell? ⟨g, k * 5 + 1, none⟩ = some (.int .i64 t.deep)) ∧ (∀ s : Kw wr, s.W.cell? ⟨g, k * 5 + 2, none⟩ = some (.int .i64 t.size)) ∧ (∀ s : Kw wr, s.W.cell? ⟨g, k * 5 + 3, none⟩ = some (.slice t.a1 t.xs.length t.c1)) ∧ (∀ s : Kw wr, s.W.cell? ⟨g, k * 5 + 4, none⟩ = some (.slice t.a2 t.ys.length t.c2)) := by
          have J := fun s : Kw wr => ((HL.out.step HB.out).step s.h).cells5 HT.out
          exact ⟨fun s => (J s).1, fun s => (J s).2.1, fun s => (J s).2.2.1, fun s => (J s).2.2.2.1, fun s => (J s).2.2.2.2⟩
        obtain ⟨b1, b2⟩ : (∀ s : Kw wr, s.W.cell? ⟨g, 1, none⟩ = some (.int .i64 t0.deep)) ∧ (∀ s : Kw wr, s.W.cell? ⟨g, 2, none⟩ = some (.int .i64 t0.size)) := by
          have J := fun s : Kw wr => ((HL.out.step HB.out).step s.h).cells5 H0.out
          exact ⟨fun s => (J s).2.1, fun s => (J s).2.2.1⟩
        have T := fun s : Kw wr => ((HL.out.step HB.out).step s.h).own t (List.mem_of_getElem? ht)
        have CW : Hid (∀ s : Kw wr, Calls Try.prog 30 #[.agg #[.complex .f32 t.cx t.cy, .int .i64 t.deep, .int .i64 t.size, .slice t.a1 t.xs.length t.c1, .slice t.a2 t.ys.length t.c2]] s.W fun e w' => e = .returned (.bool (wellB t.size t.xs.length t.ys)) ∧ ∃ s' : Kw wr, w' = s'.W) := fun s => by
          have hlm := (T s).lim
          refine (specWell_is t.cx t.cy t.deep t.size (T s).bx (T s).by1 (T s).pl t.a1 t.a2 t.xs.length t.c1 t.c2 t.ys (by omega) _ (T s).s2).mono ?_
          rintro e w' ⟨rfl, hd⟩
          exact ⟨rfl, s.step hd, rfl⟩
        clear T ht
        have i1 : (k : Int) < 4 := by omega
        have i0 : (0 : Int) ≤ k := by omega
        cases hwb : wellB t.size t.xs.length t.ys with
        | false =>
          have HF : Hid (¬ Fit4 L t0) := fun h => by have := (gdB_of (h.gd k t HT.out)).1; rw [hwb] at this; cases this
          rw [hwb] at CW
          clear hwb
          go_upto_region 6 with fail
          refine wp_region_kept (by kernel_rfl) (by kernel_rfl) ?_
          repeat (go_big_quiet_step ((go_at_call 30; exact CW.out _)))
          refine wpQuiet_nil ?_
          rintro _ ⟨sq, rfl⟩
          have HB3 := Lib.hid (HB.out.trans (sq.h.mono HB.out.size))
          go_wp2
          go_ret
          exact ⟨⟨false, rfl, by simp; exact fun h => absurd h HF.out⟩, HB3.out⟩
        | true =>
          rw [hwb] at CW
          by_cases e3 : t.deep = t0.deep
          · have f3 : (t.deep != t0.deep) = false := by simpa using e3
            by_cases e2 : t.size = t0.size
            · have f2 : (t.size != t0.size) = false := by simpa using e2
              by_cases e4 : t.deep = 0
              · have HF : Hid (¬ Fit4 L t0) := fun h => (gdB_of (h.gd k t HT.out)).2.2.2 e4
                have f4 : (t.deep == 0) = true := by simpa using e4
                clear hwb e2 e3 e4
                go_upto_region 6 with fail
                refine wp_region_kept (by kernel_rfl) (by kernel_rfl) ?_
                repeat (go_big_quiet_step ((go_at_call 30; exact CW.out _)))
                refine wpQuiet_nil ?_
                rintro _ ⟨sq, rfl⟩
                have HB3 := Lib.hid (HB.out.trans (sq.h.mono HB.out.size))
                go_wp2
                go_ret
                exact ⟨⟨false, rfl, by simp; exact fun h => absurd h HF.out⟩, HB3.out⟩
              · have f4 : (t.deep == 0) = false := by simpa using e4
                have HG2 : Hid (∀ (j : Nat) (u : JT), j < k + 1 → L[j]? = some u → gdB t0 u = true) := fun j u hj hu => by
                  by_cases hjk : j = k
                  · subst hjk
                    obtain rfl : u = t := Option.some.inj (hu.symm.trans HT.out)
                    unfold gdB
                    rw [hwb, decide_eq_true e2, decide_eq_true e3, decide_eq_false e4]
                    rfl
                  · exact HG.out j u (by omega) hu
                clear hwb e2 e3 e4 HG
                go_upto_region 6 with fail
                refine wp_region_kept (by kernel_rfl) (by kernel_rfl) ?_
                repeat (go_big_quiet_step ((go_at_call 30; exact CW.out _)))
                refine wpQuiet_nil ?_
                rintro _ ⟨sq, rfl⟩
                have HB3 := Lib.hid (HB.out.trans (sq.h.mono HB.out.size))
                go_wp2
                go_roundw
                case rel => exact ⟨k + 1, by omega, by go_num, HB3, HG2⟩
                case measure => simp [intOf]; omega
            · have HF : Hid (¬ Fit4 L t0) := fun h => e2 (gdB_of (h.gd k t HT.out)).2.1
              have f2 : (t.size != t0.size) = true := by simpa using e2
              clear hwb e2 e3
              go_upto_region 6 with fail
              refine wp_region_kept (by kernel_rfl) (by kernel_rfl) ?_
              repeat (go_big_quiet_step ((go_at_call 30; exact CW.out _)))
              refine wpQuiet_nil ?_
              rintro _ ⟨sq, rfl⟩
              have HB3 := Lib.hid (HB.out.trans (sq.h.mono HB.out.size))
              go_wp2
              go_ret
              exact ⟨⟨false, rfl, by simp; exact fun h => absurd h HF.out⟩, HB3.out⟩
          · have HF : Hid (¬ Fit4 L t0) := fun h => e3 (gdB_of (h.gd k t HT.out)).2.2.1
            have f3 : (t.deep != t0.deep) = true := by simpa using e3
            clear hwb e3
            go_upto_region 6 with fail
            refine wp_region_kept (by kernel_rfl) (by kernel_rfl) ?_
            repeat (go_big_quiet_step ((go_at_call 30; exact CW.out _)))
            refine wpQuiet_nil ?_
            rintro _ ⟨sq, rfl⟩
            have HB3 := Lib.hid (HB.out.trans (sq.h.mono HB.out.size))
            go_wp2
            go_ret
            exact ⟨⟨false, rfl, by simp; exact fun h => absurd h HF.out⟩, HB3.out⟩
      · obtain rfl : k = 4 := by omega
        obtain ⟨d, hd1, hd2, hd3, hs1, hs2, hq, hbx, hby⟩ := first_ok HOK.out (gdB_of (HG.out 0 t0 (by omega) H0.out)).2.2.2
        have CQ : Hid (∀ W, Calls Try.prog 40 #[.agg #[.complex .f32 t0.cx t0.cy, .int .i64 (t0.deep - 1), .int .i64 t0.size, .slice t0.a1 t0.xs.length t0.c1, .slice t0.a2 t0.ys.length t0.c2]] W fun e w' => ∃ b, e = .returned (.slice (some ⟨b, 0, none⟩) 4 4) ∧ W.heap.size ≤ b ∧ Box W b (quartC t0.cx t0.cy d t0.size) 34 w') := fun W => by
          have := l7Corners_ok t0.cx t0.cy d t0.size (by omega) hq t0.a1 t0.a2 t0.xs.length t0.c1 t0.ys.length t0.c2 W
          rw [show (d : Int) = t0.deep - 1 by omega] at this
          exact this
        have hb1 : 1 ≤ t0.deep ∧ t0.deep ≤ 10 := by omega
        have hw1 : IntKind.i64.wrap (t0.deep - 1) = t0.deep - 1 := IntWalk.i64_in _ (by omega)
        have HD2 := Lib.hid hd2
        clear hd1 hd2 hd3 hs1 hs2 hq hbx hby hlt hk
        obtain ⟨x0, x1, x2, x3, x4⟩ := (HL.out.step HB.out).cells5 H0.out
        go_wp2_with fail
        with_reducible refine (CQ.out _).mono ?_
        rintro e w2 ⟨b, rfl, hb, hX⟩
        have HX := Lib.hid (hX.up (HB.out.alloc HB.out.size _))
        have HG0 := HG
        clear hX HB HG CQ x0 x1 x2 x3 x4 hw1 hb1
        go_wp2
        go_loopw [6] (fun i wr => ∃ k : Nat, k ≤ 4 ∧ i = .int .i64 k ∧ Hid (Box w b (quartC t0.cx t0.cy d t0.size) 34 wr) ∧ Hid (∀ (j : Nat) (t : JT), j < k → L[j]? = some t → corB t0 j t = true)) (fun i _ => (4 - intOf i).toNat)
        case atStart => exact ⟨0, by omega, rfl, HX, fun j t hj => by omega⟩
        case round =>
          clear HX
          obtain ⟨k, hk, rfl, HX, HC⟩ := hrel
          by_cases hlt : k < 4
          · obtain ⟨t, ht⟩ := HAT.out k hlt
            have i1 : (k : Int) < 4 := by omega
            have i0 : (0 : Int) ≤ k := by omega
            have HT := Lib.hid ht
            obtain ⟨p0, p1⟩ : (∀ s : Kw wr, s.W.cell? ⟨g, k * 5, none⟩ = some (.complex .f32 t.cx t.cy)) ∧ (∀ s : Kw wr, s.W.cell? ⟨b, k, none⟩ = some (.complex .f32 (quart t0.cx t0.cy d t0.size k).1 (quart t0.cx t0.cy d t0.size k).2)) :=
              ⟨fun s => (((HL.out.step HX.out.old).step s.h).cells5 HT.out).1, fun s => (HX.out.step s.h).cell k _ (quartC_at t0.cx t0.cy d t0.size k hlt)⟩
            have HCB : Hid (corB t0 k t = eqcB t.cx t.cy (quart t0.cx t0.cy d t0.size k).1 (quart t0.cx t0.cy d t0.size k).2) := by
              show _ = _
              unfold corB
              rw [HD2.out]
            clear ht
            generalize (quart t0.cx t0.cy d t0.size k).1 = qx at *
            generalize (quart t0.cx t0.cy d t0.size k).2 = qy at *
            cases hcb : eqcB t.cx t.cy qx qy with
            | false =>
              have HF : Hid (¬ Fit4 L t0) := fun h => by have := h.cor k t HT.out; rw [HCB.out, hcb] at this; cases this
              have hcc : ((FloatKind.f32.format.order t.cx qx == some .eq) && (FloatKind.f32.format.order t.cy qy == some .eq)) = false := hcb
              have HB := Lib.hid HX.out.old
              clear hcb
              go_upto_region 14 with fail
              refine wp_region_kept (by kernel_rfl) (by kernel_rfl) ?_
              repeat (go_big_quiet_step (fail))
              refine wpQuiet_nil ?_
              rintro _ ⟨sq, rfl⟩
              have HB3 := Lib.hid (HB.out.trans (sq.h.mono HB.out.size))
              go_wp2
              go_ret
              exact ⟨⟨false, rfl, by simp; exact fun h => absurd h HF.out⟩, HB3.out⟩
            | true =>
              have hcc : ((FloatKind.f32.format.order t.cx qx == some .eq) && (FloatKind.f32.format.order t.cy qy == some .eq)) = true := hcb
              have HC2 : Hid (∀ (j : Nat) (u : JT), j < k + 1 → L[j]? = some u → corB t0 j u = true) := fun j u hj hu => by
                by_cases hjk : j = k
                · subst hjk
                  obtain rfl : u = t := Option.some.inj (hu.symm.trans HT.out)
                  exact HCB.out.trans hcb
                · exact HC.out j u (by omega) hu
              clear hcb HC
              go_upto_region 14 with fail
              refine wp_region_kept (by kernel_rfl) (by kernel_rfl) ?_
              repeat (go_big_quiet_step (fail))
              refine wpQuiet_nil ?_
              rintro _ ⟨sq, rfl⟩
              have HX3 := Lib.hid (HX.out.step sq.h)
              go_wp2
              go_roundw
              case rel => exact ⟨k + 1, by omega, by go_num, HX3, HC2⟩
              case measure => simp [intOf]; omega
          · obtain rfl : k = 4 := by omega
            have HF : Hid (Fit4 L t0) := ⟨HN.out, H0.out, fun k t h => HG0.out k t (by have := (List.getElem?_eq_some_iff.1 h).1; have := HN.out; omega) h, fun k t h => HC.out k t (by have := (List.getElem?_eq_some_iff.1 h).1; have := HN.out; omega) h⟩
            have HB := Lib.hid HX.out.old
            go_wp2
            go_ret
            exact ⟨⟨true, rfl, ⟨fun _ => HF.out, fun _ => rfl⟩⟩, HB.out⟩
  · have hne : ((n : Int) != 4) = true := by simp; omega
    have HF : Hid (¬ Fit4 L t0) := fun h => h4 (HN.out.symm.trans h.len)
    go_enter Try.func29, Try.ntmps29
    go_wp2
    go_ret
    exact ⟨⟨false, rfl, by simp; exact fun h => absurd h HF.out⟩, Below.refl _ _⟩
end Go.Proofs.Ytalmhbcmagjheaa
end

section
/- A region that draws its order, by an invariant over what has come up. -/
namespace Go.Proofs.Ytalmhbcmagjheaa
open Go.RowKit

theorem getD_setB (l : Array Bool) (i j : Nat) (d : Bool) (hi : i < l.size) : (l.setIfInBounds i true).getD j d = if j = i then true else l.getD j d := by
  simp only [Array.getD_eq_getD_getElem?]
  by_cases h : j = i
  · subst h
    rw [if_pos rfl, Array.getElem?_setIfInBounds_self_of_lt hi]
    rfl
  · rw [if_neg h, Array.getElem?_setIfInBounds_ne (fun e => h e.symm)]
theorem all_listed {md : Region.Mode} {ops : Array Oper} {l : Array Bool} (hsz : l.size = ops.size) (hac : ∀ (i : Nat) (o : Oper), ops[i]? = some o → ∀ e ∈ o.after, e.on < i) (hr : Region.ready md ops l = []) :
    ∀ n i, i < n → i < ops.size → l.getD i false = true
  | 0, i, h, _ => absurd h (by omega)
  | n + 1, i, h, hi => by
    by_cases hin : i < n
    · exact all_listed hsz hac hr n i hin hi
    · obtain rfl : i = n := by omega
      cases hl : l.getD i false with
      | true => rfl
      | false =>
        exfalso
        have ho : ops[i]? = some ops[i] := Array.getElem?_eq_getElem hi
        have hm : i ∈ Region.ready md ops l := by
          refine mem_ready.2 ⟨?_, _, ho, fun e he _ => ?_⟩
          · rw [Array.getD_eq_getD_getElem?, Array.getElem?_eq_getElem (by omega)] at hl ⊢
            exact hl
          · have hlt := hac i _ ho e he
            exact all_listed hsz hac hr i e.on hlt (by omega)
        rw [hr] at hm
        cases hm
def unl (n : Nat) (l : Array Bool) : Nat := ((List.range n).filter (fun i => !l.getD i true)).length
theorem unl_set {n : Nat} {l : Array Bool} (hsz : l.size = n) {i : Nat} (hi : i < n) (hl : l.getD i true = false) : unl n (l.setIfInBounds i true) < unl n l := by
  unfold unl
  have e : ((List.range n).filter (fun j => !(l.setIfInBounds i true).getD j true)) = ((List.range n).filter (fun j => !l.getD j true)).filter (fun j => decide (j ≠ i)) := by
    rw [List.filter_filter]
    refine List.filter_congr fun j _ => ?_
    rw [getD_setB l i j true (by omega)]
    by_cases h : j = i
    · subst h; simp
    · simp [h]
  rw [e]
  have hm : i ∈ (List.range n).filter (fun j => !l.getD j true) := by
    rw [List.mem_filter]
    exact ⟨List.mem_range.2 hi, by rw [hl]; rfl⟩
  have hlt := List.length_filter_lt_length_iff_exists (p := fun j => decide (j ≠ i)) (l := (List.range n).filter (fun j => !l.getD j true))
  exact hlt.2 ⟨i, hm, by simp⟩
theorem wpAny_inv {P : Program} {md : Region.Mode} {ops : Array Oper} {Q : Exit → Act → World → Prop} (Inv : (Nat → Bool) → Act → World → Prop) (hac : ∀ (i : Nat) (o : Oper), ops[i]? = some o → ∀ e ∈ o.after, e.on < i)
    (hstep : ∀ D a w, Inv D a w → ∀ (i : Nat) (o : Oper), ops[i]? = some o → D i = false → (∀ e ∈ o.after, Region.binds md e = true → D e.on = true) →
      if Region.wanted o (yielded ops a.tmps) = true then o.wp P a w (fun a' w' => Inv (fun j => if j = i then true else D j) a' w') Q else Inv (fun j => if j = i then true else D j) (a.put o.dst undef) w)
    (hend : ∀ D a w, Inv D a w → (∀ i, i < ops.size → D i = true) → Q .normal a w) :
    ∀ (fuel : Nat) (l : Array Bool) (a : Act) (w : World), l.size = ops.size → Inv (fun j => l.getD j false) a w → unl ops.size l ≤ fuel → wpAny P md ops Q fuel l a w
  | 0, l, a, w, hsz, hI, hf => by
    have hall : ∀ i, i < ops.size → l.getD i true = true := by
      intro i hi
      cases h : l.getD i true with
      | true => rfl
      | false =>
        have := unl_set hsz hi h
        omega
    refine ⟨List.eq_nil_iff_forall_not_mem.2 fun j hj => ?_, hend _ a w hI fun i hi => ?_⟩
    · obtain ⟨h0, o, ho, _⟩ := mem_ready.1 hj
      have hj2 := (Array.getElem?_eq_some_iff.1 ho).1
      rw [hall j hj2] at h0
      cases h0
    · have := hall i hi
      rw [Array.getD_eq_getD_getElem?, Array.getElem?_eq_getElem (by omega)] at this ⊢
      exact this
  | fuel + 1, l, a, w, hsz, hI, hf => by
    refine ⟨fun hr => hend _ a w hI fun i hi => all_listed hsz hac hr (i + 1) i (by omega) hi, fun i hi => ?_⟩
    obtain ⟨h0, o, ho, hall⟩ := mem_ready.1 hi
    have hilt := (Array.getElem?_eq_some_iff.1 ho).1
    have h1 : l.getD i false = false := by
      rw [Array.getD_eq_getD_getElem?, Array.getElem?_eq_getElem (by omega)] at h0 ⊢
      exact h0
    have hs := hstep _ a w hI i o ho h1 hall
    have hfun : (fun j => if j = i then true else l.getD j false) = fun j => (l.setIfInBounds i true).getD j false := by
      funext j
      rw [getD_setB l i j false (by omega)]
    rw [hfun] at hs
    have hlt := unl_set hsz hilt h0
    have hnext : ∀ a' w', Inv (fun j => (l.setIfInBounds i true).getD j false) a' w' → wpAny P md ops Q fuel (l.setIfInBounds i true) a' w' := fun a' w' h => wpAny_inv Inv hac hstep hend fuel _ a' w' (by rw [Array.size_setIfInBounds]; exact hsz) h (by omega)
    unfold wpOp
    rw [ho]
    simp only
    split
    · rename_i hw
      rw [if_pos hw] at hs
      exact .inl (Oper.wp_mono hnext hs)
    · rename_i hw
      rw [if_neg hw] at hs
      exact hnext _ _ hs
/-- a region that draws its order: an invariant over what has come up -/
theorem wp_region_inv {P : Program} {ops : Array Oper} {Q : Exit → Act → World → Prop} {id : Nat} {a : Act} {w : World} (hm : P.follows .mixedOrders = true) (Inv : (Nat → Bool) → Act → World → Prop) (hac : ∀ (i : Nat) (o : Oper), ops[i]? = some o → ∀ e ∈ o.after, e.on < i)
    (h0 : Inv (fun _ => false) a { w with drawn := w.drawn + 1 })
    (hstep : ∀ D a w, Inv D a w → ∀ (i : Nat) (o : Oper), ops[i]? = some o → D i = false → (∀ e ∈ o.after, Region.binds .any e = true → D e.on = true) →
      if Region.wanted o (yielded ops a.tmps) = true then o.wp P a w (fun a' w' => Inv (fun j => if j = i then true else D j) a' w') Q else Inv (fun j => if j = i then true else D j) (a.put o.dst undef) w)
    (hend : ∀ D a w, Inv D a w → (∀ i, i < ops.size → D i = true) → Q .normal a w) : (Code.region id ops true).wp P Q a w := by
  refine wp_region_any hm (wpAny_inv Inv hac hstep hend _ _ _ _ (by simp) ?_ ?_)
  · have e : (fun j => (Array.replicate ops.size false).getD j false) = fun _ => false := by
      funext j
      rw [Array.getD_eq_getD_getElem?, Array.getElem?_replicate]
      split <;> rfl
    rw [e]
    exact h0
  · unfold unl
    refine Nat.le_trans (List.length_filter_le _ _) ?_
    rw [List.length_range]
    exact Nat.le_refl _
end Go.Proofs.Ytalmhbcmagjheaa
end

section
/- Words: the region of a tile's literal in the reference's TileJoin. -/
namespace Go.Proofs.Ytalmhbcmagjheaa
open Go.RowKit Flo

/-- what was there stands -/
def JKW (w1 W : World) : Prop := Below w1.heap.size w1 W
theorem JKW.drew {w1 W : World} (h : JKW w1 W) : JKW w1 W.drew := Below.drew h
theorem JKW.alloc {w1 W : World} {o : Obj} (h : JKW w1 W) : JKW w1 (W.alloc o) := Below.alloc h h.size o
theorem JKW.set {w1 W : World} {b j : Nat} {v : Value} (h : JKW w1 W) (hb : w1.heap.size ≤ b) : JKW w1 (W.setCell ⟨b, j, none⟩ v) := Below.setCell h (p := ⟨b, j, none⟩) hb v
theorem JKW.step {w1 W W' : World} (h : JKW w1 W) (k : Below W.heap.size W W') : JKW w1 W' := Below.trans h (k.mono h.size)
/-- an empty row's block -/
structure JEM (w1 : World) (b : Nat) (T : TypeId) (W : World) : Prop where
  blk : W.heap[b]? = some (.cells #[] T (0, 0))
  ge : w1.heap.size ≤ b
theorem JEM.new {w1 W : World} {T : TypeId} (h : JKW w1 W) : JEM w1 W.heap.size T (W.alloc (.cells #[] T)) := ⟨(MapKept.heap_alloc W _).1, h.size⟩
theorem JEM.lt {w1 W : World} {b : Nat} {T : TypeId} (h : JEM w1 b T W) : b < W.heap.size := (Array.getElem?_eq_some_iff.1 h.blk).1
theorem JEM.step {w1 W W' : World} {b : Nat} {T : TypeId} (h : JEM w1 b T W) (k : Below W.heap.size W W') : JEM w1 b T W' := ⟨(k.block b h.lt).trans h.blk, h.ge⟩
theorem JEM.drew {w1 W : World} {b : Nat} {T : TypeId} (h : JEM w1 b T W) : JEM w1 b T W.drew := ⟨h.blk, h.ge⟩
theorem JEM.alloc {w1 W : World} {b : Nat} {T : TypeId} {o : Obj} (h : JEM w1 b T W) : JEM w1 b T (W.alloc o) := h.step ((Below.refl _ _).alloc (Nat.le_refl _) o)
theorem Box.jnewK {w1 W : World} {C : Array Value} {T : TypeId} (h : JKW w1 W) : Box w1 W.heap.size C T (W.alloc (.cells C T)) := (Box.new W C T).up h
theorem Box.jnewE {w1 W : World} {b : Nat} {C : Array Value} {T : TypeId} (h : JKW w1 W) (hb : b = W.heap.size) : Box w1 b C T (W.alloc (.cells C T)) := by subst hb; exact Box.jnewK h
theorem Box.jdrew {w1 W : World} {b : Nat} {C : Array Value} {T : TypeId} (h : Box w1 b C T W) : Box w1 b C T W.drew := ⟨h.blk, h.old.drew⟩
theorem JEM.newE {w1 W : World} {b : Nat} {T : TypeId} (h : JKW w1 W) (hb : b = W.heap.size) : JEM w1 b T (W.alloc (.cells #[] T)) := by subst hb; exact JEM.new h
theorem JEM.own {w0 w1 W : World} {b : Nat} {T : TypeId} {s : Nat} (h : JEM w1 b T W) (k : w0.heap.size ≤ w1.heap.size) : W.ownsRow w0.heap.size T s (.slice (some ⟨b, 0, none⟩) 0 0) 0 [] :=
  ⟨by simp, .inr ⟨b, 0, #[], rfl, Nat.le_trans k h.ge, h.blk, Nat.le_refl _, by decide, by simp, by simp⟩⟩
theorem JEM.far {w1 W : World} {b ob : Nat} {T T' : TypeId} {C : Array Value} (h : JEM w1 b T W) (hO : Box w1 ob C T' W) (hT : T ≠ T') (j : Nat) (v : Value) : JEM w1 b T (W.setCell ⟨ob, j, none⟩ v) := by
  have hne : b ≠ ob := by
    intro e
    subst e
    have := h.blk.symm.trans hO.blk
    injection this with this
    injection this with _ h2 _
    exact hT h2
  exact ⟨(Below.heap_setCell W ⟨ob, j, none⟩ v b hne).trans h.blk, h.ge⟩
/-- what the tile's literal leaves -/
def JLitOut (w w1 : World) (ob gs gm cx cy : Nat) (deep size : Int) (wx : World) : Prop :=
  TM w w.heap.size ob cx cy deep size 0 0 [] [] (.slice (some ⟨gs, 0, none⟩) 0 0) (.slice (some ⟨gm, 0, none⟩) 0 0) wx ∧ JKW w1 wx
theorem JLitOut.mk' {w w1 wx : World} {ob gs gm cx cy : Nat} {deep size : Int} (R : Box w w.heap.size (tileC 0 0 0 0 (.slice none 0 0) (.slice none 0 0)) 37 w1) (K : JKW w1 wx) (E1 : JEM w1 gs 41 wx) (E2 : JEM w1 gm 3 wx) (O : Box w1 ob (tileC cx cy deep size (.slice (some ⟨gs, 0, none⟩) 0 0) (.slice (some ⟨gm, 0, none⟩) 0 0)) 37 wx) (ho : w1.heap.size ≤ ob) :
    JLitOut w w1 ob gs gm cx cy deep size wx := by
  have hs := R.old.size
  have hlt := R.lt
  exact ⟨⟨O.up R.old, R.step K, E1.own hs, E2.own hs, (fun x hx => by cases hx), (fun x hx => by cases hx), by omega, Nat.le_refl _, by omega⟩, K⟩
theorem Jlit_new {w w1 W : World} {ob gs gm cx cy : Nat} {deep size : Int} (R : Box w w.heap.size (tileC 0 0 0 0 (.slice none 0 0) (.slice none 0 0)) 37 w1) (K : JKW w1 W) (E1 : JEM w1 gs 41 W) (E2 : JEM w1 gm 3 W) (hb : ob = W.heap.size) :
    JLitOut w w1 ob gs gm cx cy deep size (W.alloc (.cells #[.complex .f32 cx cy, .int .i64 deep, .int .i64 size, .slice (some ⟨gs, 0, none⟩) 0 0, .slice (some ⟨gm, 0, none⟩) 0 0] 37)) :=
  JLitOut.mk' R K.alloc E1.alloc E2.alloc (Box.jnewE K hb) (by have := K.size; omega)
theorem Jlit_set {w w1 W : World} {ob gs gm cx cy : Nat} {deep size : Int} (R : Box w w.heap.size (tileC 0 0 0 0 (.slice none 0 0) (.slice none 0 0)) 37 w1) (_ : JKW w1 W) (E1 : JEM w1 gs 41 W) (E2 : JEM w1 gm 3 W) (O : Box w1 ob #[.complex .f32 0 0, .int .i64 0, .int .i64 0, .slice none 0 0, .slice none 0 0] 37 W) (ho : w1.heap.size ≤ ob) :
    JLitOut w w1 ob gs gm cx cy deep size (((((W.setCell ⟨ob, 0, none⟩ (.complex .f32 cx cy)).setCell ⟨ob, 1, none⟩ (.int .i64 deep)).setCell ⟨ob, 2, none⟩ (.int .i64 size)).setCell ⟨ob, 3, none⟩ (.slice (some ⟨gs, 0, none⟩) 0 0)).setCell ⟨ob, 4, none⟩ (.slice (some ⟨gm, 0, none⟩) 0 0)) := by
  have O0 := O.set ho 0 (.complex .f32 cx cy)
  have O1 := O0.set ho 1 (.int .i64 deep)
  have O2 := O1.set ho 2 (.int .i64 size)
  have O3 := O2.set ho 3 (.slice (some ⟨gs, 0, none⟩) 0 0)
  have O4 := O3.set ho 4 (.slice (some ⟨gm, 0, none⟩) 0 0)
  refine JLitOut.mk' R O4.old ?_ ?_ O4 ho
  · exact (((((E1.far O (by decide) _ _).far O0 (by decide) _ _).far O1 (by decide) _ _).far O2 (by decide) _ _).far O3 (by decide) _ _)
  · exact (((((E2.far O (by decide) _ _).far O0 (by decide) _ _).far O1 (by decide) _ _).far O2 (by decide) _ _).far O3 (by decide) _ _)
theorem Jwp_hold {P : Program} {o : Oper} {a : Act} {w : World} {K : Act → World → Prop} {Q : Exit → Act → World → Prop} (h : ∀ K' : Act → World → Prop, (∀ a' w', K a' w' → K' a' w') → o.wp P a w K' Q) : o.wp P a w K Q := h K (fun _ _ h => h)
theorem Jhac_of {ops : Array Oper} (h : (List.range ops.size).all (fun i => ((ops[i]?).map (fun o => o.after.all fun e => decide (e.on < i))).getD true) = true) : ∀ (i : Nat) (o : Oper), ops[i]? = some o → ∀ e ∈ o.after, e.on < i := by
  intro i o ho e he
  have hi := (Array.getElem?_eq_some_iff.1 ho).1
  have h1 := List.all_eq_true.1 h i (List.mem_range.2 hi)
  rw [ho] at h1
  simp only [Option.map_some, Option.getD_some] at h1
  have h2 := Array.all_eq_true_iff_forall_mem.1 h1 e he
  simpa using h2
/-- what each operation of the literal has left -/
def JLitF (w1 : World) (g cap cx cy n : Nat) (td dj : Int) : Nat → Value → World → Prop
  | 0, v, _ => v = .slice (some ⟨g, 0, none⟩) 4 cap
  | 1, v, _ => v = .pointer (some ⟨g, 0, none⟩)
  | 2, v, _ => v = .pointer (some ⟨g, 0, none⟩)
  | 3, v, _ => v = .complex .f32 cx cy
  | 4, v, _ => v = .slice (some ⟨g, 0, none⟩) 4 cap
  | 5, v, _ => v = .pointer (some ⟨g, 0, none⟩)
  | 6, v, _ => v = .pointer (some ⟨g, 1, none⟩)
  | 7, v, _ => v = .int .i64 td
  | 8, v, _ => v = .int .i64 dj
  | 9, v, _ => v = .int .i64 n
  | 10, v, W => ∃ b, v = .slice (some ⟨b, 0, none⟩) 0 0 ∧ JEM w1 b 41 W
  | 11, v, W => ∃ b, v = .slice (some ⟨b, 0, none⟩) 0 0 ∧ JEM w1 b 3 W
  | 12, v, W => ∃ gs gm, v = .agg #[.complex .f32 cx cy, .int .i64 dj, .int .i64 n, .slice (some ⟨gs, 0, none⟩) 0 0, .slice (some ⟨gm, 0, none⟩) 0 0] ∧ JEM w1 gs 41 W ∧ JEM w1 gm 3 W
  | 13, v, W => ∃ b, v = .pointer (some ⟨b, 0, none⟩) ∧ w1.heap.size ≤ b ∧ Box w1 b #[.complex .f32 0 0, .int .i64 0, .int .i64 0, .slice none 0 0, .slice none 0 0] 37 W
  | _, _, _ => True
theorem JLitF.step {w1 : World} {g cap cx cy n : Nat} {td dj : Int} {W W' : World} (k : Below W.heap.size W W') : ∀ (j : Nat) (v : Value), JLitF w1 g cap cx cy n td dj j v W → JLitF w1 g cap cx cy n td dj j v W'
  | 0, _, h => h
  | 1, _, h => h
  | 2, _, h => h
  | 3, _, h => h
  | 4, _, h => h
  | 5, _, h => h
  | 6, _, h => h
  | 7, _, h => h
  | 8, _, h => h
  | 9, _, h => h
  | 10, _, ⟨b, e, h⟩ => ⟨b, e, h.step k⟩
  | 11, _, ⟨b, e, h⟩ => ⟨b, e, h.step k⟩
  | 12, _, ⟨gs, gm, e, h1, h2⟩ => ⟨gs, gm, e, h1.step k, h2.step k⟩
  | 13, _, ⟨b, e, hb, h⟩ => ⟨b, e, hb, h.step k⟩
  | _ + 14, _, _ => trivial
/-- the state of the literal's region -/
def JLitS (w w1 : World) (g cap cx cy n : Nat) (td dj : Int) (D : Nat → Bool) (u : Nat → Value) (W : World) : Prop :=
  (D 14 = false ∧ JKW w1 W ∧ ∀ j, D j = true → JLitF w1 g cap cx cy n td dj j (u j) W) ∨
  (D 14 = true ∧ (∀ j, j < 14 → D j = true) ∧ ∃ ob gs gm, u 13 = .pointer (some ⟨ob, 0, none⟩) ∧ JLitOut w w1 ob gs gm cx cy dj n W)
theorem JLitS.open {w w1 : World} {g cap cx cy n : Nat} {td dj : Int} {D : Nat → Bool} {u : Nat → Value} {W : World} (h : JLitS w w1 g cap cx cy n td dj D u W) {i : Nat} (hi : i < 15) (hD : D i = false) :
    D 14 = false ∧ JKW w1 W ∧ ∀ j, D j = true → JLitF w1 g cap cx cy n td dj j (u j) W := by
  rcases h with h | ⟨h1, h2, _⟩
  · exact h
  · by_cases hi15 : i = 14
    · subst hi15; rw [hD] at h1; cases h1
    · have := h2 i (by omega); rw [hD] at this; cases this
theorem JLitS.put {w w1 : World} {g cap cx cy n : Nat} {td dj : Int} {D : Nat → Bool} {u : Nat → Value} {W W' : World} (h : D 14 = false ∧ JKW w1 W ∧ ∀ j, D j = true → JLitF w1 g cap cx cy n td dj j (u j) W) (i : Nat) (hi : i < 14) (v : Value) (k : Below W.heap.size W W') (hv : JLitF w1 g cap cx cy n td dj i v W') :
    JLitS w w1 g cap cx cy n td dj (fun j => if j = i then true else D j) (fun j => if j = i then v else u j) W' := by
  refine .inl ⟨?_, h.2.1.step k, fun j hj => ?_⟩
  · simp only; rw [if_neg (by omega)]; exact h.1
  · by_cases e : j = i
    · subst e; simp only [if_true]; exact hv
    · simp only [if_neg e] at hj ⊢
      exact JLitF.step k _ _ (h.2.2 j hj)
/-- behind an append to the smooth values -/
theorem QM.smooth {w : World} {rb ob sb mb cx cy n m : Nat} {deep size : Int} {xs : List Nat} {ys : List Int} {smv mkv v' : Value} {sc mc : Array Value} {W W' : World} (h : QM w rb ob sb mb cx cy deep size n m xs ys smv mkv sc mc W) {z : Nat} (hz : z < 4294967296) (hown : W'.ownsRow w.heap.size 41 1 v' (n + 1) (xs.map floV ++ [floV z])) (hg : W.grownBy W' smv.ownBlock) :
    QM w rb ob sb mb cx cy deep size (n + 1) m (xs ++ [z]) ys v' mkv sc mc (W'.setCell ⟨ob, 3, none⟩ v') ∧ W'.cell? ⟨ob, 3, none⟩ = some smv ∧ W'.frozen? ⟨ob, 3, none⟩ = false := by
  have hrow : ∀ k, smv.ownBlock = some k → w.heap.size ≤ k := fun k hk => (h.T.S.lt k hk).1
  obtain ⟨t1, t2, t3⟩ := h.T.smooth hz hown hg
  have S := h.S.grown hg (ownsRow_ne h.T.S h.S.blk (by decide)) hrow
  have M := h.M.grown hg (ownsRow_ne h.T.S h.M.blk (by decide)) hrow
  exact ⟨⟨t1, S.other (p := ⟨ob, 3, none⟩) h.T.ho (fun e => h.n2 e.symm) _, M.other (p := ⟨ob, 3, none⟩) h.T.ho (fun e => h.n4 e.symm) _, h.n1, h.n2, h.n3, h.n4, h.n5, h.hs, h.hm⟩, t2, t3⟩
theorem wellB_true {n N : Nat} {ys : List Int} (h1 : N = n * n) (h2 : ys.length = N) (h3 : ∀ y, y ∈ ys → -1 ≤ y ∧ y ≤ 1) : wellB (n : Int) N ys = true := by
  unfold wellB
  rw [decide_eq_true (by rw [h1]; exact Int.natCast_mul n n), decide_eq_true h2]
  simp only [Bool.true_and, List.all_eq_true]
  intro y hy
  have := h3 y hy
  unfold markB inB
  simp only [Bool.and_eq_true, decide_eq_true_eq]
  exact this
end Go.Proofs.Ytalmhbcmagjheaa
end
