/- Merged texts: PmkE, PmkF, PlanP, WholeP. -/
import Derived.Test.YtalmhbcmagjheaaJ20
import Derived.Test.YtalmhbcmagjheaaJ6
import Derived.Test.YtalmhbcmagjheaaJ1
section
/- Walks: the draw of a plan. -/
namespace Go.Proofs.Ytalmhbcmagjheaa
open Go.RowKit Flo
attribute [local go_sem] run_store_float run_store_complex

/-- what draws a plan leaves -/
def PlanOut (B0 : Nat) (e : Ending) (w' : World) : Prop :=
  ∃ (gp cp g cap : Nat) (ss : List ByteArray) (ms : List Int) (p q r : Int), e = .returned (.agg #[.slice (some ⟨gp, 0, none⟩) ss.length cp, .slice (some ⟨g, 0, none⟩) ms.length cap, .int .i64 p, .int .i64 q, .int .i64 r]) ∧
    B0 ≤ gp ∧ B0 ≤ g ∧ 0 < ss.length ∧ 0 < ms.length ∧ ss.length ≤ 2000 ∧ ms.length ≤ 2000 ∧ ss.length ≤ cp ∧ cp ≤ maxLen ∧ ms.length ≤ cap ∧ cap ≤ maxLen ∧ (∀ s, s ∈ ss → s.size ≤ 100) ∧ Sl w' (some ⟨gp, 0, none⟩) (ss.map Value.string) ∧ Sl w' (some ⟨g, 0, none⟩) (ms.map intV)
theorem own_lim {w : World} {base : Nat} {e : TypeId} {size : Nat} {g m cap n : Nat} {xs : List Value} (_ : 0 < n) (h : w.ownsRow base e size (.slice (some ⟨g, 0, none⟩) m cap) n xs) : n = m ∧ m ≤ cap ∧ cap ≤ maxLen := by
  rcases h.2 with ⟨h1, _⟩ | ⟨g', cap', cur, h1, _, _, hc, hm, _⟩
  · cases h1
  · injection h1 with _ h2 h3
    omega
theorem PlanOut.of {W : World} {B0 B B' gp cp n g cap n' : Nat} {P : List ByteArray} {ms : List Int} {p q r : Int} (hS : W.ownsRow B 9 1 (.slice (some ⟨gp, 0, none⟩) n cp) n (P.map Value.string)) (hI : W.ownsRow B' 3 1 (.slice (some ⟨g, 0, none⟩) n' cap) n' (ms.map intV)) (hn : 0 < n) (hn' : 0 < n') (hl : n ≤ 2000) (hl' : n' ≤ 2000) (hz : ∀ s, s ∈ P → s.size ≤ 100) (hB : B0 ≤ B) (hB' : B0 ≤ B') :
    PlanOut B0 (.returned (.agg #[.slice (some ⟨gp, 0, none⟩) n cp, .slice (some ⟨g, 0, none⟩) n' cap, .int .i64 p, .int .i64 q, .int .i64 r])) W := by
  obtain ⟨-, c1, c2⟩ := own_lim hn hS
  obtain ⟨-, d1, d2⟩ := own_lim hn' hI
  have l1 : P.length = n := by have := hS.1; simpa using this
  have l2 : ms.length = n' := by have := hI.1; simpa using this
  refine ⟨gp, cp, g, cap, P, ms, p, q, r, by rw [l1, l2], Nat.le_trans hB (own_ge hS), Nat.le_trans hB' (own_ge hI), by omega, by omega, by omega, by omega, by omega, c2, by omega, d2, hz, sl_of_own hS, sl_of_own hI⟩
theorem set5' {w W : World} (h : Below w.heap.size w W) {b : Nat} (hb : w.heap.size ≤ b) (u0 u1 u2 u3 u4 : Value) :
    Below w.heap.size w (((((W.setCell ⟨b, 0, none⟩ u0).setCell ⟨b, 1, none⟩ u1).setCell ⟨b, 2, none⟩ u2).setCell ⟨b, 3, none⟩ u3).setCell ⟨b, 4, none⟩ u4) := set5 h hb u0 u1 u2 u3 u4
set_option maxRecDepth 100000 in
set_option maxHeartbeats 4000000 in
theorem l92Plan_any (w0 : World) (b : Nat) (W : World) (h : Rd w0 b 0 W) :
    Calls Try.prog 20 #[.pointer (some ⟨b, 0, none⟩)] W fun e w' => PlanOut w0.heap.size e w' ∧ Below w0.heap.size w0 w' := by
  obtain ⟨hb0, hb1⟩ := h.ownb
  have R0 := (Box.new W #[.slice none 0 0, .slice none 0 0, .int .i64 0, .int .i64 0, .int .i64 0] 26).up h.below
  have hw := h.below.size
  have hA := Lib.hid (place_any w0 b 0 (by omega) _ (h.step ((Below.refl _ _).alloc (Nat.le_refl _) (.cells #[.slice none 0 0, .slice none 0 0, .int .i64 0, .int .i64 0, .int .i64 0] 26))))
  have HR0 := Lib.hid R0
  have hrw : W.heap.size < (W.alloc (.cells #[.slice none 0 0, .slice none 0 0, .int .i64 0, .int .i64 0, .int .i64 0] 26)).heap.size := R0.lt
  clear h R0
  go_enter Try.func20, Try.ntmps20
  go_upto_region 1 with fail
  generalize W.alloc (.cells #[.slice none 0 0, .slice none 0 0, .int .i64 0, .int .i64 0, .int .i64 0] 26) = W1 at *
  generalize W.heap.size = rb at *
  go_wp2_with fail
  refine hA.out.mono ?_
  rintro e w2 ⟨⟨x, y, d, s, m, rfl, hx, hy, hm1, hm2⟩, ⟨p', hp', hD⟩, hO⟩
  have R2 := HR0.out.onlyb hO (by omega) hb0
  have hs2 := hO.size
  clear hA HR0 hO hm1 hm2
  go_wp2_with fail
  refine (pick_any w0 b p' 5 (by omega) (by omega) _ hD).mono ?_
  rintro e w3 ⟨⟨u, rfl, -, -⟩, hD3, hO3⟩
  have HR3 := Lib.hid (R2.onlyb hO3 (by omega) hb0)
  have hs3 := hO3.size
  have HD3 := Lib.hid hD3
  clear R2 hD hD3 hO3
  go_wp2_with fail
  refine (planMake_any x y d s m u hx hy _).mono ?_
  rintro e w4 ⟨hd4, rfl | ⟨gp, cp, g, cap, n, P, ms, p, q, r, rfl, hS, hI, hz, hn0, hn1⟩⟩
  · have HR4 := Lib.hid (HR3.out.step hd4)
    have hw4 : rb < w4.heap.size := HR4.out.lt
    have HP4 := Lib.hid (Box.new w4 #[.slice none 0 0, .slice none 0 0, .int .i64 0, .int .i64 0, .int .i64 0] 26)
    have HR5 := Lib.hid (HR4.out.alloc (.cells #[.slice none 0 0, .slice none 0 0, .int .i64 0, .int .i64 0, .int .i64 0] 26))
    clear HR4 HR3 HD3 hd4
    go_upto_region 3 with fail
    generalize w4.alloc (.cells #[.slice none 0 0, .slice none 0 0, .int .i64 0, .int .i64 0, .int .i64 0] 26) = w5 at *
    generalize w4.heap.size = pb at *
    obtain ⟨r0, r1, r2, r3, r4⟩ := HR5.out.cells5
    obtain ⟨f0, f1, f2, f3, f4⟩ := HR5.out.free5
    have hrl := HR5.out.lt
    have HX := Lib.hid (HR5.out.set5 hw (.slice (some ⟨w5.heap.size, 0, none⟩) 4 4) (.slice (some ⟨w5.heap.size + 1, 0, none⟩) 4 4) (.int .i64 0) (.int .i64 0) (.int .i64 0))
    have HSZ : Hid ((((((w5.setCell ⟨rb, 0, none⟩ (.slice (some ⟨w5.heap.size, 0, none⟩) 4 4)).setCell ⟨rb, 1, none⟩ (.slice (some ⟨w5.heap.size + 1, 0, none⟩) 4 4)).setCell ⟨rb, 2, none⟩ (.int .i64 0)).setCell ⟨rb, 3, none⟩ (.int .i64 0)).setCell ⟨rb, 4, none⟩ (.int .i64 0)).heap.size = w5.heap.size) := by show _ = _; simp
    have HZ4 : Hid (∀ s, s ∈ ([⟨#[48]⟩, ⟨#[49]⟩, ⟨#[50]⟩, ⟨#[51]⟩] : List ByteArray) → s.size ≤ 100) := fun s hs => by
      simp only [List.mem_cons, List.not_mem_nil, or_false] at hs
      rcases hs with rfl | rfl | rfl | rfl <;> decide
    clear HP4
    go_wp2
    clear r0 r1 r2 r3 r4 f0 f1 f2 f3 f4 HR5
    generalize (((((w5.setCell ⟨rb, 0, none⟩ (.slice (some ⟨w5.heap.size, 0, none⟩) 4 4)).setCell ⟨rb, 1, none⟩ (.slice (some ⟨w5.heap.size + 1, 0, none⟩) 4 4)).setCell ⟨rb, 2, none⟩ (.int .i64 0)).setCell ⟨rb, 3, none⟩ (.int .i64 0)).setCell ⟨rb, 4, none⟩ (.int .i64 0)) = ws at *
    generalize w5.heap.size = g5 at *
    have hsz := HSZ.out
    subst hsz
    obtain ⟨k0, k1, k2, k3, k4⟩ := HX.out.cells5
    have hrl2 := HX.out.lt
    have hSS : Hid (((ws.alloc (.cells #[.string ⟨#[48]⟩, .string ⟨#[49]⟩, .string ⟨#[50]⟩, .string ⟨#[51]⟩] 9)).alloc (.cells #[.int .i64 1, .int .i64 2, .int .i64 3, .int .i64 4] 3)).ownsRow w0.heap.size 9 1 (.slice (some ⟨ws.heap.size, 0, none⟩) 4 4) 4 (([⟨#[48]⟩, ⟨#[49]⟩, ⟨#[50]⟩, ⟨#[51]⟩] : List ByteArray).map Value.string)) :=
      (World.ownsRow_lit (e := 9) (size := 1) (base := w0.heap.size) ws #[.string ⟨#[48]⟩, .string ⟨#[49]⟩, .string ⟨#[50]⟩, .string ⟨#[51]⟩] 4 HX.out.old.size (by decide) rfl).alloc _
    have hII : Hid (((ws.alloc (.cells #[.string ⟨#[48]⟩, .string ⟨#[49]⟩, .string ⟨#[50]⟩, .string ⟨#[51]⟩] 9)).alloc (.cells #[.int .i64 1, .int .i64 2, .int .i64 3, .int .i64 4] 3)).ownsRow w0.heap.size 3 1 (.slice (some ⟨ws.heap.size + 1, 0, none⟩) 4 4) 4 (([1, 2, 3, 4] : List Int).map intV)) := by
      have := World.ownsRow_lit (e := 3) (size := 1) (base := w0.heap.size) (ws.alloc (.cells #[.string ⟨#[48]⟩, .string ⟨#[49]⟩, .string ⟨#[50]⟩, .string ⟨#[51]⟩] 9)) #[.int .i64 1, .int .i64 2, .int .i64 3, .int .i64 4] 4 (HX.out.alloc _).old.size (by decide) rfl
      rw [World.size_alloc] at this
      exact this
    have HFIN : Hid (PlanOut w0.heap.size (.returned (.agg #[.slice (some ⟨ws.heap.size, 0, none⟩) 4 4, .slice (some ⟨ws.heap.size + 1, 0, none⟩) 4 4, .int .i64 0, .int .i64 0, .int .i64 0])) ((ws.alloc (.cells #[.string ⟨#[48]⟩, .string ⟨#[49]⟩, .string ⟨#[50]⟩, .string ⟨#[51]⟩] 9)).alloc (.cells #[.int .i64 1, .int .i64 2, .int .i64 3, .int .i64 4] 3)) ∧ Below w0.heap.size w0 ((ws.alloc (.cells #[.string ⟨#[48]⟩, .string ⟨#[49]⟩, .string ⟨#[50]⟩, .string ⟨#[51]⟩] 9)).alloc (.cells #[.int .i64 1, .int .i64 2, .int .i64 3, .int .i64 4] 3))) :=
      ⟨PlanOut.of hSS.out hII.out (by decide) (by decide) (by decide) (by decide) HZ4.out (Nat.le_refl _) (Nat.le_refl _), ((HX.out.alloc _).alloc _).old⟩
    exact bodyPost_ret (v := .agg #[.slice (some ⟨ws.heap.size, 0, none⟩) 4 4, .slice (some ⟨ws.heap.size + 1, 0, none⟩) 4 4, .int .i64 0, .int .i64 0, .int .i64 0]) (by simp [results, Try.f20, go_sem, k0, k1, k2, k3, k4, hrl2]) rfl HFIN.out
  · have HR4 := Lib.hid (HR3.out.step hd4)
    have hbw : b < w3.heap.size := by omega
    have hw4 : rb < w4.heap.size := HR4.out.lt
    have hs4 := hd4.size
    have HP5 := Lib.hid ((Box.new w4 #[.slice (some ⟨gp, 0, none⟩) n cp, .slice (some ⟨g, 0, none⟩) n cap, .int .i64 p, .int .i64 q, .int .i64 r] 26).up (HR4.out.old))
    have HR5 := Lib.hid (HR4.out.alloc (.cells #[.slice (some ⟨gp, 0, none⟩) n cp, .slice (some ⟨g, 0, none⟩) n cap, .int .i64 p, .int .i64 q, .int .i64 r] 26))
    have HS5 := Lib.hid (hS.alloc (.cells #[.slice (some ⟨gp, 0, none⟩) n cp, .slice (some ⟨g, 0, none⟩) n cap, .int .i64 p, .int .i64 q, .int .i64 r] 26))
    have HI5 := Lib.hid (hI.alloc (.cells #[.slice (some ⟨gp, 0, none⟩) n cp, .slice (some ⟨g, 0, none⟩) n cap, .int .i64 p, .int .i64 q, .int .i64 r] 26))
    have HD5 := Lib.hid ((HD3.out.step hd4).step ((Below.refl _ _).alloc (Nat.le_refl _) (.cells #[.slice (some ⟨gp, 0, none⟩) n cp, .slice (some ⟨g, 0, none⟩) n cap, .int .i64 p, .int .i64 q, .int .i64 r] 26)))
    have HZ := Lib.hid hz
    clear HR4 HR3 HD3 hd4 hS hI hz
    go_upto_region 3 with fail
    generalize w4.alloc (.cells #[.slice (some ⟨gp, 0, none⟩) n cp, .slice (some ⟨g, 0, none⟩) n cap, .int .i64 p, .int .i64 q, .int .i64 r] 26) = w5 at *
    generalize w4.heap.size = pb at *
    go_wp2_with fail
    refine (pick_any w0 b (p' + 1) 8 (by omega) (by omega) _ HD5.out).mono ?_
    rintro e w6 ⟨⟨v, rfl, -, -⟩, hD6, hO6⟩
    have HP6 := Lib.hid (HP5.out.onlyb hO6 (by omega) hb0)
    have HR6 := Lib.hid (HR5.out.onlyb hO6 (by omega) hb0)
    have HS6 := Lib.hid (ownsRow_only HS5.out hO6 hbw)
    have HI6 := Lib.hid (ownsRow_only HI5.out hO6 hbw)
    have hpr : pb ≠ rb := by omega
    have hpb : w0.heap.size ≤ pb := by omega
    have hgp : w3.heap.size ≤ gp := own_ge HS6.out
    clear HP5 HR5 HS5 HI5 HD5 hD6 hO6
    have hlp : P.length = n := by have := HS6.out.1; simpa using this
    have hlm : ms.length = n := by have := HI6.out.1; simpa using this
    obtain ⟨s0, hs0⟩ : ∃ s0, P[0]? = some s0 := ⟨_, List.getElem?_eq_getElem (by omega)⟩
    have cg : w6.cell? ⟨gp, 0, none⟩ = some (.string s0) := st_cells HS6.out 0 _ (by rw [List.getElem?_map, hs0]; rfl)
    have fg := HS6.out.frozenAt 0
    have hgl := (HS6.out.lt gp rfl).2
    have HS0 := Lib.hid (HZ.out s0 (List.mem_of_getElem? hs0))
    obtain ⟨q0, q1, q2, q3, q4⟩ := HP6.out.cells5
    obtain ⟨e0, e1, e2, e3, e4⟩ := HP6.out.free5
    have hpl := HP6.out.lt
    have i0 : (0 : Int) < n := by omega
    have i1 : (0 : Int) ≤ 0 := by omega
    clear hlp hlm hs0
    by_cases h0 : v = 0
    · subst h0
      have A0 := fun W : World => run_string_add_sum (P := Try.prog) W s0 ⟨#[48]⟩ (by have := HS0.out; show s0.size + 1 ≤ _; omega)
      have HZ1 : Hid ((s0 ++ ⟨#[48]⟩ : ByteArray).size ≤ 100) := by
        show _ ≤ _
        rw [ByteArray.size_append]
        have := HS0.out
        show s0.size + 1 ≤ _
        omega
      generalize s0 ++ ⟨#[48]⟩ = s1 at *
      go_upto_region 7 with fail
      go_region_with (fail)
      all_goals
        have HSF : Hid ((w6.setCell ⟨gp, 0, none⟩ (.string s1)).drew.ownsRow w3.heap.size 9 1 (.slice (some ⟨gp, 0, none⟩) n cp) n ((P.set 0 s1).map Value.string)) := by
          have h1 := (HS6.out.stored 0 (.string s1)).1
          rw [List.map_set]
          exact ownsRow_step h1 ((Drw.refl _).drew.below _)
        have HIF : Hid ((w6.setCell ⟨gp, 0, none⟩ (.string s1)).drew.ownsRow w3.heap.size 3 1 (.slice (some ⟨g, 0, none⟩) n cap) n (ms.map intV)) := by
          have h1 := HI6.out.kept (HS6.out.stored 0 (.string s1)).2 (ownsRow_apart HI6.out HS6.out (by decide))
          exact ownsRow_step h1 ((Drw.refl _).drew.below _)
        have HPF : Hid (Box w0 pb #[.slice (some ⟨gp, 0, none⟩) n cp, .slice (some ⟨g, 0, none⟩) n cap, .int .i64 p, .int .i64 q, .int .i64 r] 26 (w6.setCell ⟨gp, 0, none⟩ (.string s1)).drew) := by
          have h1 := HP6.out.grown (HS6.out.stored 0 (.string s1)).2 (ownsRow_ne HS6.out HP6.out.blk (by decide)) (fun k hk => by have := (HS6.out.lt k hk).1; omega)
          exact h1.step ((Drw.refl _).drew.below _)
        have HRF : Hid (Box w0 rb #[.slice none 0 0, .slice none 0 0, .int .i64 0, .int .i64 0, .int .i64 0] 26 (w6.setCell ⟨gp, 0, none⟩ (.string s1)).drew) := by
          have h1 := HR6.out.grown (HS6.out.stored 0 (.string s1)).2 (ownsRow_ne HS6.out HR6.out.blk (by decide)) (fun k hk => by have := (HS6.out.lt k hk).1; omega)
          exact h1.step ((Drw.refl _).drew.below _)
        have HZF : Hid (∀ u, u ∈ P.set 0 s1 → u.size ≤ 100) := fun u hu => by
          rcases List.mem_or_eq_of_mem_set hu with hu | rfl
          · have := HZ.out u hu; omega
          · exact HZ1.out
        generalize (w6.setCell ⟨gp, 0, none⟩ (.string s1)).drew = w7 at *
        clear HS6 HI6 HP6 HR6 q0 q1 q2 q3 q4 e0 e1 e2 e3 e4 hpl cg fg hgl
        obtain ⟨r0, r1, r2, r3, r4⟩ := HRF.out.cells5
        obtain ⟨f0, f1, f2, f3, f4⟩ := HRF.out.free5
        obtain ⟨q0, q1, q2, q3, q4⟩ := HPF.out.cells5
        have hrl := HRF.out.lt
        have hpl := HPF.out.lt
        have HFIN := Lib.hid (fun u0 u1 u2 u3 u4 => And.intro (PlanOut.of (p := p) (q := q) (r := r) (ownsRow_box5 HSF.out HRF.out hw (by decide) u0 u1 u2 u3 u4) (ownsRow_box5 HIF.out HRF.out hw (by decide) u0 u1 u2 u3 u4) (by omega) (by omega) (by omega) (by omega) HZF.out (B0 := w0.heap.size) (by omega) (by omega)) (set5' HRF.out.old hw u0 u1 u2 u3 u4))
        go_wp2
        exact bodyPost_ret (v := .agg #[.slice (some ⟨gp, 0, none⟩) n cp, .slice (some ⟨g, 0, none⟩) n cap, .int .i64 p, .int .i64 q, .int .i64 r]) (by simp [results, Try.f20, go_sem, r0, r1, r2, r3, r4]) rfl (HFIN.out _ _ _ _ _)
    · have h0' : (v == 0) = false := by simpa using h0
      by_cases h1 : v = 1
      · subst h1
        obtain ⟨iI, hiI, hzI0, hzI1, hzI2⟩ := info_parts infoI
        have hb6 : w3.heap.size ≤ w6.heap.size := by omega
        clear h0
        go_upto_region 12 with (at_builtin; refine wpList_append_lies _ rfl _ _ _ rfl w3.heap.size 3 iI _ 1 8 Try.underlying24 hiI hzI0 hzI1 hzI2 rfl (by omega) _ n (ms.map intV) rfl (HI6.out.alloc _) ⟨w6.heap.size, 0, none⟩ 1 1 [intV 1] rfl rfl (World.news_of_block (cs := #[intV 1]) (t := 3) (fr := (0, 0)) (heap_alloc_new w6 _)) (by simp [intV, Value.oneCell']) (by omega) (by unfold maxLen; omega) (by omega) (by simp; omega) (w6.heap.size + 1) (by simp) ?_; intro g8 c8 w8 hown hgrow _ _; have P8 := (HP6.out.alloc (.cells #[intV 1] 3)).grown hgrow (ownsRow_ne (HI6.out.alloc (.cells #[intV 1] 3)) (HP6.out.alloc (.cells #[intV 1] 3)).blk (by decide)) (fun k hk => by have := (HI6.out.lt k hk).1; omega); have R8 := (HR6.out.alloc (.cells #[intV 1] 3)).grown hgrow (ownsRow_ne (HI6.out.alloc (.cells #[intV 1] 3)) (HR6.out.alloc (.cells #[intV 1] 3)).blk (by decide)) (fun k hk => by have := (HI6.out.lt k hk).1; omega); have S8 := (HS6.out.alloc (.cells #[intV 1] 3)).kept hgrow (ownsRow_apart (HS6.out.alloc (.cells #[intV 1] 3)) (HI6.out.alloc (.cells #[intV 1] 3)) (by decide)); have k9 := P8.cell 1 _ rfl; have f9 := P8.frozen 1; have H8 := Lib.hid (And.intro P8 (And.intro R8 (And.intro S8 hown))); clear P8 R8 S8 hown hgrow)
        have HPF : Hid (Box w0 pb #[.slice (some ⟨gp, 0, none⟩) n cp, .slice (some ⟨g8, 0, none⟩) (n + 1) c8, .int .i64 p, .int .i64 q, .int .i64 r] 26 (w8.setCell ⟨pb, 1, none⟩ (.slice (some ⟨g8, 0, none⟩) (n + 1) c8))) := H8.out.1.set hpb 1 _
        have HRF : Hid (Box w0 rb #[.slice none 0 0, .slice none 0 0, .int .i64 0, .int .i64 0, .int .i64 0] 26 (w8.setCell ⟨pb, 1, none⟩ (.slice (some ⟨g8, 0, none⟩) (n + 1) c8))) := H8.out.2.1.other (p := ⟨pb, 1, none⟩) hpb (fun e => hpr e.symm) _
        have HSF : Hid ((w8.setCell ⟨pb, 1, none⟩ (.slice (some ⟨g8, 0, none⟩) (n + 1) c8)).ownsRow w3.heap.size 9 1 (.slice (some ⟨gp, 0, none⟩) n cp) n (P.map Value.string)) := ownsRow_set H8.out.2.2.1 H8.out.1.blk (by decide) _
        have HIF : Hid ((w8.setCell ⟨pb, 1, none⟩ (.slice (some ⟨g8, 0, none⟩) (n + 1) c8)).ownsRow w3.heap.size 3 1 (.slice (some ⟨g8, 0, none⟩) (n + 1) c8) (n + 1) ((ms ++ [1]).map intV)) := by
          have := ownsRow_set H8.out.2.2.2 H8.out.1.blk (by decide) (.slice (some ⟨g8, 0, none⟩) (n + 1) c8) (j := 1)
          rw [List.map_append]
          exact this
        have HZF : Hid (∀ u, u ∈ P → u.size ≤ 100) := fun u hu => by have := HZ.out u hu; omega
        clear HS6 HI6 HP6 HR6 q0 q1 q2 q3 q4 e0 e1 e2 e3 e4 hpl cg fg hgl k9 f9 H8
        generalize w8.setCell ⟨pb, 1, none⟩ (.slice (some ⟨g8, 0, none⟩) (n + 1) c8) = w7 at *
        obtain ⟨r0, r1, r2, r3, r4⟩ := HRF.out.cells5
        obtain ⟨f0, f1, f2, f3, f4⟩ := HRF.out.free5
        obtain ⟨q0, q1, q2, q3, q4⟩ := HPF.out.cells5
        have hrl := HRF.out.lt
        have hpl := HPF.out.lt
        have HFIN := Lib.hid (fun u0 u1 u2 u3 u4 => And.intro (PlanOut.of (p := p) (q := q) (r := r) (ownsRow_box5 HSF.out HRF.out hw (by decide) u0 u1 u2 u3 u4) (ownsRow_box5 HIF.out HRF.out hw (by decide) u0 u1 u2 u3 u4) (by omega) (by omega) (by omega) (by omega) HZF.out (B0 := w0.heap.size) (by omega) (by omega)) (set5' HRF.out.old hw u0 u1 u2 u3 u4))
        go_wp2
        exact bodyPost_ret (v := .agg #[.slice (some ⟨gp, 0, none⟩) n cp, .slice (some ⟨g8, 0, none⟩) (n + 1) c8, .int .i64 p, .int .i64 q, .int .i64 r]) (by simp [results, Try.f20, go_sem, r0, r1, r2, r3, r4]) rfl (HFIN.out _ _ _ _ _)
      · have h1' : (v == 1) = false := by simpa using h1
        by_cases h2 : v = 2
        · subst h2
          clear h0 h1
          go_upto_region 12 with fail
          have HSF : Hid ((w6.setCell ⟨gp, 0, none⟩ (.string ⟨#[52]⟩)).ownsRow w3.heap.size 9 1 (.slice (some ⟨gp, 0, none⟩) n cp) n ((P.set 0 ⟨#[52]⟩).map Value.string)) := by
            have h1 := (HS6.out.stored 0 (.string ⟨#[52]⟩)).1
            rw [List.map_set]
            exact h1
          have HIF : Hid ((w6.setCell ⟨gp, 0, none⟩ (.string ⟨#[52]⟩)).ownsRow w3.heap.size 3 1 (.slice (some ⟨g, 0, none⟩) n cap) n (ms.map intV)) := by
            have h1 := HI6.out.kept (HS6.out.stored 0 (.string ⟨#[52]⟩)).2 (ownsRow_apart HI6.out HS6.out (by decide))
            exact h1
          have HPF : Hid (Box w0 pb #[.slice (some ⟨gp, 0, none⟩) n cp, .slice (some ⟨g, 0, none⟩) n cap, .int .i64 p, .int .i64 q, .int .i64 r] 26 (w6.setCell ⟨gp, 0, none⟩ (.string ⟨#[52]⟩))) := by
            have h1 := HP6.out.grown (HS6.out.stored 0 (.string ⟨#[52]⟩)).2 (ownsRow_ne HS6.out HP6.out.blk (by decide)) (fun k hk => by have := (HS6.out.lt k hk).1; omega)
            exact h1
          have HRF : Hid (Box w0 rb #[.slice none 0 0, .slice none 0 0, .int .i64 0, .int .i64 0, .int .i64 0] 26 (w6.setCell ⟨gp, 0, none⟩ (.string ⟨#[52]⟩))) := by
            have h1 := HR6.out.grown (HS6.out.stored 0 (.string ⟨#[52]⟩)).2 (ownsRow_ne HS6.out HR6.out.blk (by decide)) (fun k hk => by have := (HS6.out.lt k hk).1; omega)
            exact h1
          have HZF : Hid (∀ u, u ∈ P.set 0 ⟨#[52]⟩ → u.size ≤ 100) := fun u hu => by
            rcases List.mem_or_eq_of_mem_set hu with hu | rfl
            · have := HZ.out u hu; omega
            · decide
          generalize w6.setCell ⟨gp, 0, none⟩ (.string ⟨#[52]⟩) = w7 at *
          clear HS6 HI6 HP6 HR6 q0 q1 q2 q3 q4 e0 e1 e2 e3 e4 hpl cg fg hgl
          obtain ⟨r0, r1, r2, r3, r4⟩ := HRF.out.cells5
          obtain ⟨f0, f1, f2, f3, f4⟩ := HRF.out.free5
          obtain ⟨q0, q1, q2, q3, q4⟩ := HPF.out.cells5
          have hrl := HRF.out.lt
          have hpl := HPF.out.lt
          have HFIN := Lib.hid (fun u0 u1 u2 u3 u4 => And.intro (PlanOut.of (p := p) (q := q) (r := r) (ownsRow_box5 HSF.out HRF.out hw (by decide) u0 u1 u2 u3 u4) (ownsRow_box5 HIF.out HRF.out hw (by decide) u0 u1 u2 u3 u4) (by omega) (by omega) (by omega) (by omega) HZF.out (B0 := w0.heap.size) (by omega) (by omega)) (set5' HRF.out.old hw u0 u1 u2 u3 u4))
          go_wp2
          exact bodyPost_ret (v := .agg #[.slice (some ⟨gp, 0, none⟩) n cp, .slice (some ⟨g, 0, none⟩) n cap, .int .i64 p, .int .i64 q, .int .i64 r]) (by simp [results, Try.f20, go_sem, r0, r1, r2, r3, r4]) rfl (HFIN.out _ _ _ _ _)
        · have h2' : (v == 2) = false := by simpa using h2
          have HSF := HS6
          have HIF := HI6
          have HPF := HP6
          have HRF := HR6
          have HZF : Hid (∀ u, u ∈ P → u.size ≤ 100) := fun u hu => by have := HZ.out u hu; omega
          clear HS6 HI6 HP6 HR6 q0 q1 q2 q3 q4 e0 e1 e2 e3 e4 hpl cg fg hgl h0 h1 h2
          obtain ⟨r0, r1, r2, r3, r4⟩ := HRF.out.cells5
          obtain ⟨f0, f1, f2, f3, f4⟩ := HRF.out.free5
          obtain ⟨q0, q1, q2, q3, q4⟩ := HPF.out.cells5
          have hrl := HRF.out.lt
          have hpl := HPF.out.lt
          have HFIN := Lib.hid (fun u0 u1 u2 u3 u4 => And.intro (PlanOut.of (p := p) (q := q) (r := r) (ownsRow_box5 HSF.out HRF.out hw (by decide) u0 u1 u2 u3 u4) (ownsRow_box5 HIF.out HRF.out hw (by decide) u0 u1 u2 u3 u4) (by omega) (by omega) (by omega) (by omega) HZF.out (B0 := w0.heap.size) (by omega) (by omega)) (set5' HRF.out.old hw u0 u1 u2 u3 u4))
          go_wp2
          exact bodyPost_ret (v := .agg #[.slice (some ⟨gp, 0, none⟩) n cp, .slice (some ⟨g, 0, none⟩) n cap, .int .i64 p, .int .i64 q, .int .i64 r]) (by simp [results, Try.f20, go_sem, r0, r1, r2, r3, r4]) rfl (HFIN.out _ _ _ _ _)
end Go.Proofs.Ytalmhbcmagjheaa
end

section
/- Walks: the draws of plans. -/
namespace Go.Proofs.Ytalmhbcmagjheaa
open Go.RowKit Flo
attribute [local go_sem] run_store_float run_store_complex

theorem PlanOut.far5 {B rb : Nat} {e : Ending} {W : World} (h : PlanOut B e W) (hb : rb < B) (u0 u1 u2 u3 u4 : Value) :
    PlanOut 0 e (((((W.setCell ⟨rb, 0, none⟩ u0).setCell ⟨rb, 1, none⟩ u1).setCell ⟨rb, 2, none⟩ u2).setCell ⟨rb, 3, none⟩ u3).setCell ⟨rb, 4, none⟩ u4) := by
  obtain ⟨gp, cp, g, cap, ss, ms, p, q, r, h0, b1, b2, h1, h2, h3, h4, h5, h6, h7, h8, h9, s1, s2⟩ := h
  have n1 : gp ≠ rb := by omega
  have n2 : g ≠ rb := by omega
  exact ⟨gp, cp, g, cap, ss, ms, p, q, r, h0, Nat.zero_le _, Nat.zero_le _, h1, h2, h3, h4, h5, h6, h7, h8, h9,
    ((((s1.other (p := ⟨rb, 0, none⟩) n1 u0).other (p := ⟨rb, 1, none⟩) n1 u1).other (p := ⟨rb, 2, none⟩) n1 u2).other (p := ⟨rb, 3, none⟩) n1 u3).other (p := ⟨rb, 4, none⟩) n1 u4,
    ((((s2.other (p := ⟨rb, 0, none⟩) n2 u0).other (p := ⟨rb, 1, none⟩) n2 u1).other (p := ⟨rb, 2, none⟩) n2 u2).other (p := ⟨rb, 3, none⟩) n2 u3).other (p := ⟨rb, 4, none⟩) n2 u4⟩
set_option maxRecDepth 100000 in
set_option maxHeartbeats 1000000 in
theorem drawPlanDepth_any (a : Option Addr) (c : Nat) (bs : List UInt8) (hn : bs.length ≤ 1048576) (hc : bs.length ≤ c) (w : World) (hs : Sl w a (bs.map byteV)) :
    Calls Try.prog 7 #[.slice a bs.length c] w fun e w' => PlanOut 0 e w' ∧ Below w.heap.size w w' := by
  have R := Box.new w #[.slice none 0 0, .slice none 0 0, .int .i64 0, .int .i64 0, .int .i64 0] 26
  have H := Lib.hid (open_any a c bs hn hc _ (hs.alloc (.cells #[.slice none 0 0, .slice none 0 0, .int .i64 0, .int .i64 0, .int .i64 0] 26)))
  have HR := Lib.hid R
  have hrl := R.lt
  clear hs R
  go_enter Try.func7, Try.ntmps7
  go_upto_region 1 with fail
  generalize w.alloc (.cells #[.slice none 0 0, .slice none 0 0, .int .i64 0, .int .i64 0, .int .i64 0] 26) = W1 at *
  go_wp2_with fail
  refine H.out.mono ?_
  rintro e w2 ⟨b, rfl, -, hR⟩
  clear H
  go_wp2_with fail
  refine (l92Plan_any W1 b w2 hR).mono ?_
  rintro e w3 ⟨hP, hd⟩
  have HP := Lib.hid hP
  have HR3 := Lib.hid (HR.out.step hd)
  clear hR hP hd HR
  obtain ⟨gp, cp, g, cap, ss, ms, p, q, r, rfl, -⟩ := HP.out
  have HPF := Lib.hid (fun u0 u1 u2 u3 u4 => PlanOut.far5 HP.out hrl u0 u1 u2 u3 u4)
  obtain ⟨r0, r1, r2, r3, r4⟩ := HR3.out.cells5
  obtain ⟨f0, f1, f2, f3, f4⟩ := HR3.out.free5
  have hr3 := HR3.out.lt
  clear HP
  go_wp2
  exact bodyPost_ret (v := .agg #[.slice (some ⟨gp, 0, none⟩) ss.length cp, .slice (some ⟨g, 0, none⟩) ms.length cap, .int .i64 p, .int .i64 q, .int .i64 r]) (by simp [results, Try.f7, go_sem, r0, r1, r2, r3, r4]) rfl ⟨HPF.out _ _ _ _ _, set5 HR3.out.old (Nat.le_refl _) _ _ _ _ _⟩
set_option maxRecDepth 100000 in
set_option maxHeartbeats 1000000 in
theorem drawPlanWhole_any (a : Option Addr) (c : Nat) (bs : List UInt8) (hn : bs.length ≤ 1048576) (hc : bs.length ≤ c) (w : World) (hs : Sl w a (bs.map byteV)) :
    Calls Try.prog 10 #[.slice a bs.length c] w fun e w' => PlanOut 0 e w' ∧ Below w.heap.size w w' := by
  have R := Box.new w #[.slice none 0 0, .slice none 0 0, .int .i64 0, .int .i64 0, .int .i64 0] 26
  have H := Lib.hid (open_any a c bs hn hc _ (hs.alloc (.cells #[.slice none 0 0, .slice none 0 0, .int .i64 0, .int .i64 0, .int .i64 0] 26)))
  have HR := Lib.hid R
  have hrl := R.lt
  clear hs R
  go_enter Try.func10, Try.ntmps10
  go_upto_region 1 with fail
  generalize w.alloc (.cells #[.slice none 0 0, .slice none 0 0, .int .i64 0, .int .i64 0, .int .i64 0] 26) = W1 at *
  go_wp2_with fail
  refine H.out.mono ?_
  rintro e w2 ⟨b, rfl, -, hR⟩
  clear H
  go_wp2_with fail
  refine (l92Plan_any W1 b w2 hR).mono ?_
  rintro e w3 ⟨hP, hd⟩
  have HP := Lib.hid hP
  have HR3 := Lib.hid (HR.out.step hd)
  clear hR hP hd HR
  obtain ⟨gp, cp, g, cap, ss, ms, p, q, r, rfl, -⟩ := HP.out
  have HPF := Lib.hid (fun u0 u1 u2 u3 u4 => PlanOut.far5 HP.out hrl u0 u1 u2 u3 u4)
  obtain ⟨r0, r1, r2, r3, r4⟩ := HR3.out.cells5
  obtain ⟨f0, f1, f2, f3, f4⟩ := HR3.out.free5
  have hr3 := HR3.out.lt
  clear HP
  go_wp2
  exact bodyPost_ret (v := .agg #[.slice (some ⟨gp, 0, none⟩) ss.length cp, .slice (some ⟨g, 0, none⟩) ms.length cap, .int .i64 p, .int .i64 q, .int .i64 r]) (by simp [results, Try.f10, go_sem, r0, r1, r2, r3, r4]) rfl ⟨HPF.out _ _ _ _ _, set5 HR3.out.old (Nat.le_refl _) _ _ _ _ _⟩
end Go.Proofs.Ytalmhbcmagjheaa
end

section
/- Plain: paths of plans. -/
namespace Go.Proofs.Ytalmhbcmagjheaa

def digitOK (c : UInt8) : Bool := decide (48 ≤ c.toNat) && decide (c.toNat ≤ 51)
/-- a path has only its signs and at most a number of them -/
def pathOK (s : ByteArray) (most : Nat) : Bool := decide (s.size ≤ most) && s.data.toList.all digitOK
/-- the greatest length, if all are paths -/
def depthTo : List ByteArray → Nat → Option Nat
  | [], d => some d
  | s :: r, d => if pathOK s 10 then depthTo r (max d s.size) else none
def planDepth (ss : List ByteArray) (m : Nat) : Option Nat := if ss.length = 0 then none else if m = ss.length then depthTo ss 0 else none
theorem pathOK_of {s : ByteArray} {most : Nat} (h : s.size ≤ most) (hd : ∀ j, j < s.size → digitOK (s.data.toList.getD j 0) = true) : pathOK s most = true := by
  simp only [pathOK, Bool.and_eq_true, decide_eq_true_eq, List.all_eq_true]
  refine ⟨h, fun c hc => ?_⟩
  obtain ⟨i, hi, rfl⟩ := List.getElem_of_mem hc
  have hi' : i < s.size := by rw [← len_eq]; exact hi
  have := hd i hi'
  rwa [List.getD_eq_getElem?_getD, List.getElem?_eq_getElem hi] at this
theorem pathOK_long {s : ByteArray} {most : Nat} (h : most < s.size) : pathOK s most = false := by
  have : decide (s.size ≤ most) = false := by simp; omega
  simp only [pathOK, this, Bool.false_and]
theorem pathOK_bad {s : ByteArray} {most j : Nat} (hj : j < s.size) (hd : digitOK (s.data.toList.getD j 0) = false) : pathOK s most = false := by
  have hi : j < s.data.toList.length := by rw [len_eq]; exact hj
  rw [List.getD_eq_getElem?_getD, List.getElem?_eq_getElem hi] at hd
  have : s.data.toList.all digitOK = false := by
    rw [List.all_eq_false]
    exact ⟨_, List.getElem_mem hi, by simpa using hd⟩
  simp only [pathOK, this, Bool.and_false]
theorem depthTo_ok {s : ByteArray} {r : List ByteArray} {d : Nat} (h : pathOK s 10 = true) : depthTo (s :: r) d = depthTo r (max d s.size) := by
  simp only [depthTo, h, if_true]
theorem depthTo_no {s : ByteArray} {r : List ByteArray} {d : Nat} (h : pathOK s 10 = false) : depthTo (s :: r) d = none := by
  simp only [depthTo, h, Bool.false_eq_true, if_false]
end Go.Proofs.Ytalmhbcmagjheaa
end

section
/- Plain: lists of paths that together have all of a tile. -/
namespace Go.Proofs.Ytalmhbcmagjheaa

/-- a path's number -/
def numL : List UInt8 → Nat → Nat
  | [], n => n
  | c :: r, n => numL r (4 * n + (c.toNat - 48))
def widL (n : Nat) : Nat := 4 ^ (10 - n)
theorem widL_pos (n : Nat) : 0 < widL n := Nat.pow_pos (by omega)
abbrev Path := List UInt8
def okP (s : Path) : Prop := s.length ≤ 10 ∧ ∀ c ∈ s, 48 ≤ c.toNat ∧ c.toNat ≤ 51
theorem numL_append : ∀ (s t : Path) (n : Nat), numL (s ++ t) n = numL t (numL s n)
  | [], _, _ => rfl
  | _ :: s, t, _ => numL_append s t _
theorem numL_start : ∀ (s : Path) (n : Nat), numL s n = n * 4 ^ s.length + numL s 0
  | [], _ => by simp [numL]
  | c :: s, n => by
    unfold numL
    rw [numL_start s (4 * n + _), numL_start s (4 * 0 + _), List.length_cons, Nat.pow_succ]
    generalize 4 ^ s.length = q
    generalize c.toNat - 48 = d
    rw [Nat.add_mul, Nat.add_mul]
    have : n * (q * 4) = 4 * n * q := by rw [Nat.mul_comm q 4, ← Nat.mul_assoc, Nat.mul_comm n 4]
    omega
theorem numL_lt : ∀ (s : Path), (∀ c ∈ s, 48 ≤ c.toNat ∧ c.toNat ≤ 51) → numL s 0 < 4 ^ s.length
  | [], _ => by simp [numL]
  | c :: s, h => by
    have h1 := numL_lt s (fun c hc => h c (by simp [hc]))
    have h2 := h c (by simp)
    unfold numL
    rw [numL_start, List.length_cons, Nat.pow_succ]
    generalize 4 ^ s.length = q at *
    have : (4 * 0 + (c.toNat - 48)) * q ≤ 3 * q := Nat.mul_le_mul_right q (by omega)
    omega
theorem numL_inj : ∀ (s t : Path), s.length = t.length → (∀ c ∈ s, 48 ≤ c.toNat ∧ c.toNat ≤ 51) → (∀ c ∈ t, 48 ≤ c.toNat ∧ c.toNat ≤ 51) → numL s 0 = numL t 0 → s = t
  | [], [], _, _, _, _ => rfl
  | [], _ :: _, h, _, _, _ => by simp at h
  | _ :: _, [], h, _, _, _ => by simp at h
  | c :: s, d :: t, h, hs, ht, he => by
    have hl : s.length = t.length := by simpa using h
    have h1 := numL_lt s (fun c hc => hs c (by simp [hc]))
    have h2 := numL_lt t (fun c hc => ht c (by simp [hc]))
    have h3 := hs c (by simp)
    have h4 := ht d (by simp)
    unfold numL at he
    rw [numL_start s, numL_start t, ← hl] at he
    rw [← hl] at h2
    have hq : 0 < 4 ^ s.length := Nat.pow_pos (by omega)
    generalize 4 ^ s.length = q at *
    have hcd : 4 * 0 + (c.toNat - 48) = 4 * 0 + (d.toNat - 48) := by
      have e1 : ((4 * 0 + (c.toNat - 48)) * q + numL s 0) / q = 4 * 0 + (c.toNat - 48) := by rw [Nat.mul_comm, Nat.mul_add_div hq, Nat.div_eq_of_lt h1]; rfl
      have e2 : ((4 * 0 + (d.toNat - 48)) * q + numL t 0) / q = 4 * 0 + (d.toNat - 48) := by rw [Nat.mul_comm, Nat.mul_add_div hq, Nat.div_eq_of_lt h2]; rfl
      rw [← e1, ← e2, he]
    have hc : c = d := UInt8.toNat_inj.1 (by omega)
    subst hc
    rw [numL_inj s t hl (fun c hc => hs c (by simp [hc])) (fun c hc => ht c (by simp [hc])) (by omega)]
/-- where a path begins -/
def atP (s : Path) : Nat := numL s 0 * widL s.length
def sumTo : List Path → Nat → Option Nat
  | [], x => some x
  | s :: r, x => if atP s = x then sumTo r (x + widL s.length) else none
/-- to a target -/
def sp (tgt : Nat) : List Path → Nat → Option (List Path)
  | [], x => if x = tgt then some [] else none
  | s :: r, x => if x = tgt then some (s :: r) else if atP s = x then sp tgt r (x + widL s.length) else none
theorem sp_at (tgt : Nat) (ss : List Path) : sp tgt ss tgt = some ss := by
  cases ss <;> simp [sp]
theorem sp_over (tgt : Nat) : ∀ (ss : List Path) (x : Nat), tgt < x → sp tgt ss x = none
  | [], x, h => by simp [sp]; omega
  | s :: r, x, h => by
    unfold sp
    rw [if_neg (by omega), sp_over tgt r _ (by omega)]
    simp
theorem sumTo_ge : ∀ (ss : List Path) (x y : Nat), sumTo ss x = some y → x ≤ y ∧ (ss ≠ [] → x < y)
  | [], x, y, h => by simp [sumTo] at h; simp [h]
  | s :: r, x, y, h => by
    unfold sumTo at h
    split at h
    · have := (sumTo_ge r _ y h).1
      have := widL_pos s.length
      exact ⟨by omega, fun _ => by omega⟩
    · cases h
theorem sp_sum (tgt : Nat) : ∀ (ss : List Path) (x : Nat), sp tgt ss x = some [] ↔ sumTo ss x = some tgt
  | [], x => by simp [sp, sumTo]
  | s :: r, x => by
    unfold sp
    by_cases h : x = tgt
    · rw [if_pos h]
      constructor
      · intro h; simp at h
      · intro h2; exact absurd ((sumTo_ge _ _ _ h2).2 (by simp)) (by omega)
    · rw [if_neg h]
      unfold sumTo
      by_cases h3 : atP s = x
      · rw [if_pos h3, if_pos h3]; exact sp_sum tgt r _
      · rw [if_neg h3, if_neg h3]; simp
theorem widL_dvd {a b : Nat} (h : a ≤ b) : widL b ∣ widL a := Nat.pow_dvd_pow 4 (by omega)
theorem widL_succ {n : Nat} (h : n < 10) : widL n = 4 * widL (n + 1) := by
  unfold widL
  rw [show 10 - n = (10 - (n + 1)) + 1 by omega, Nat.pow_succ, Nat.mul_comm]
theorem dvd_step {d x b : Nat} (hx : d ∣ x) (hb : d ∣ b) (h : x < b) : x + d ≤ b := by
  obtain ⟨m, rfl⟩ := hx
  obtain ⟨n, rfl⟩ := hb
  have : m < n := Nat.lt_of_mul_lt_mul_left h
  have : d * (m + 1) ≤ d * n := Nat.mul_le_mul_left d this
  rw [Nat.mul_succ] at this
  exact this
/-- a boundary is not passed over -/
theorem sp_comp (n tgt b : Nat) (ht : widL n ∣ tgt) (hb : widL (n + 1) ∣ b) (hbt : b ≤ tgt) :
    ∀ (ss : List Path) (x : Nat), x ≤ b → tgt ≤ x + widL n → (x < b → ¬ widL n ∣ x ∨ ∀ s r, ss = s :: r → n + 1 ≤ s.length) → sp tgt ss x = (sp b ss x).bind fun r => sp tgt r b := by
  intro ss
  induction ss with
  | nil =>
    intro x hx _ _
    by_cases h : x = b
    · subst h; simp [sp]
    · have : x ≠ tgt := by omega
      simp [sp, h, this]
  | cons s r ih =>
    intro x hx hx2 hc
    by_cases h : x = b
    · subst h; rw [sp_at]; rfl
    · have hxt : x ≠ tgt := by omega
      have hlt : x < b := by omega
      show (if x = tgt then some (s :: r) else if atP s = x then sp tgt r (x + widL s.length) else none) = _
      rw [if_neg hxt]
      show _ = (if x = b then some (s :: r) else if atP s = x then sp b r (x + widL s.length) else none).bind _
      rw [if_neg h]
      by_cases hs : atP s = x
      · rw [if_pos hs, if_pos hs]
        have hdx : widL s.length ∣ x := ⟨numL s 0, by rw [← hs, atP, Nat.mul_comm]⟩
        have hlen : n + 1 ≤ s.length := by
          rcases hc hlt with h1 | h1
          · rcases Nat.lt_or_ge n s.length with h2 | h2
            · exact h2
            · exact absurd (Nat.dvd_trans (widL_dvd h2) hdx) h1
          · exact h1 s r rfl
        have hstep : x + widL s.length ≤ b := dvd_step hdx (Nat.dvd_trans (widL_dvd hlen) hb) hlt
        have hp := widL_pos s.length
        refine ih _ hstep (by omega) (fun hlt2 => .inl fun hd => ?_)
        have := dvd_step hd ht (by omega)
        omega
      · rw [if_neg hs, if_neg hs]; rfl
def chain (f : List Path → Path → Option (List Path)) (p : Path) : List UInt8 → List Path → Option (List Path)
  | [], cs => some cs
  | d :: ds, cs => (f cs (p ++ [d])).bind (chain f p ds)
/-- what is behind the paths that have all of a tile -/
def wholeM : Nat → List Path → Path → Option (List Path)
  | _, [], _ => none
  | 0, s :: r, p => if p <+: s then if s = p then some r else none else none
  | m + 1, s :: r, p => if p <+: s then if s = p then some r else chain (wholeM m) p [48, 49, 50, 51] (s :: r) else none
theorem sp_rest {tgt : Nat} : ∀ {ss : List Path} {x : Nat} {r : List Path}, sp tgt ss x = some r → ∀ s ∈ r, s ∈ ss
  | [], x, r, h => by unfold sp at h; split at h <;> simp at h; subst h; simp
  | s :: q, x, r, h => by
    unfold sp at h
    split at h
    · simp at h; subst h; exact fun _ h => h
    · split at h
      · intro t ht; exact List.mem_cons_of_mem _ (sp_rest h t ht)
      · cases h
theorem atP_snoc (p : Path) (d : UInt8) : atP (p ++ [d]) = (4 * numL p 0 + (d.toNat - 48)) * widL (p.length + 1) := by
  unfold atP
  rw [numL_append]
  simp [numL]
theorem wholeM_sp : ∀ (m : Nat) (ss : List Path) (p : Path), (∀ s ∈ ss, okP s) → okP p → 10 ≤ p.length + m → wholeM m ss p = sp (atP p + widL p.length) ss (atP p)
  | m, [], p, _, _, _ => by
    have := widL_pos p.length
    have h : ¬ atP p = atP p + widL p.length := by omega
    cases m <;> simp [wholeM, sp] <;> omega
  | m, s :: r, p, hs, hp, hm => by
    have hw := widL_pos p.length
    have hso := hs s (by simp)
    by_cases hpre : p <+: s
    · by_cases heq : s = p
      · have : wholeM m (s :: r) p = some r := by cases m <;> simp [wholeM, heq]
        rw [this, heq]
        unfold sp
        rw [if_neg (by omega), if_pos rfl, sp_at]
      · have hlen : p.length < s.length := by
          have h1 := hpre.length_le
          rcases Nat.lt_or_eq_of_le h1 with h2 | h2
          · exact h2
          · exact absurd (hpre.eq_of_length h2).symm heq
        have hp10 : p.length < 10 := by have := hso.1; omega
        cases m with
        | zero => omega
        | succ m =>
          have ih : ∀ (qs : List Path) (d : UInt8), 48 ≤ d.toNat → d.toNat ≤ 51 → (∀ s ∈ qs, okP s) → wholeM m qs (p ++ [d]) = sp ((4 * numL p 0 + (d.toNat - 48) + 1) * widL (p.length + 1)) qs ((4 * numL p 0 + (d.toNat - 48)) * widL (p.length + 1)) := by
            intro qs d h1 h2 hq
            rw [wholeM_sp m qs (p ++ [d]) hq ⟨by simp; omega, fun c hc => by
              rcases List.mem_append.1 hc with h | h
              · exact hp.2 c h
              · simp at h; subst h; exact ⟨h1, h2⟩⟩ (by simp; omega)]
            rw [atP_snoc p d, Nat.succ_mul (4 * numL p 0 + (d.toNat - 48)), show (p ++ [d]).length = p.length + 1 by simp]
          show (if p <+: s then if s = p then some r else chain (wholeM m) p [48, 49, 50, 51] (s :: r) else none) = _
          rw [if_pos hpre, if_neg heq]
          have hws := widL_succ hp10
          have ea : atP p = (4 * numL p 0) * widL (p.length + 1) := by
            unfold atP; rw [hws, ← Nat.mul_assoc, Nat.mul_comm (numL p 0) 4]
          have eb : atP p + widL p.length = (4 * numL p 0 + 4) * widL (p.length + 1) := by rw [ea, hws, Nat.add_mul]
          have hdt : widL p.length ∣ (4 * numL p 0 + 4) * widL (p.length + 1) := ⟨numL p 0 + 1, by rw [hws, ← Nat.mul_succ, Nat.mul_right_comm]⟩
          have comp : ∀ (qs : List Path) (i : Nat), i < 4 → (∀ s r, qs = s :: r → i = 0 → p.length + 1 ≤ s.length) → (i = 0 → qs ≠ []) →
              sp ((4 * numL p 0 + 4) * widL (p.length + 1)) qs ((4 * numL p 0 + i) * widL (p.length + 1)) = (sp ((4 * numL p 0 + (i + 1)) * widL (p.length + 1)) qs ((4 * numL p 0 + i) * widL (p.length + 1))).bind fun r => sp ((4 * numL p 0 + 4) * widL (p.length + 1)) r ((4 * numL p 0 + (i + 1)) * widL (p.length + 1)) := by
            intro qs i hi hq _
            refine sp_comp p.length _ _ hdt (Nat.dvd_mul_left _ _) (Nat.mul_le_mul_right _ (by omega)) qs _ (Nat.mul_le_mul_right _ (by omega)) ?_ (fun _ => ?_)
            · rw [hws, ← Nat.add_mul]; exact Nat.mul_le_mul_right _ (by omega)
            · by_cases h0 : i = 0
              · exact .inr fun s r e => hq s r e h0
              · left
                rintro ⟨k, hk⟩
                rw [hws, Nat.mul_right_comm] at hk
                have := Nat.eq_of_mul_eq_mul_right (widL_pos (p.length + 1)) hk
                omega
          rw [eb, ea]
          have step0 := comp (s :: r) 0 (by omega) (fun s' r' e _ => by simp at e; rw [← e.1]; exact hlen) (fun _ => by simp)
          simp only [Nat.add_zero] at step0
          rw [step0]
          unfold chain
          rw [ih (s :: r) 48 (by decide) (by decide) hs]
          show (sp ((4 * numL p 0 + 0 + 1) * _) (s :: r) ((4 * numL p 0 + 0) * _)).bind _ = _
          simp only [Nat.add_zero, Nat.zero_add]
          cases h1 : sp ((4 * numL p 0 + 1) * widL (p.length + 1)) (s :: r) (4 * numL p 0 * widL (p.length + 1)) with
          | none => rfl
          | some r1 =>
            have k1 : ∀ t ∈ r1, okP t := fun t ht => hs t (sp_rest h1 t ht)
            simp only [Option.bind_some]
            rw [comp r1 1 (by omega) (fun _ _ _ h => absurd h (by omega)) (fun h => absurd h (by omega))]
            unfold chain
            rw [ih r1 49 (by decide) (by decide) k1]
            show (sp ((4 * numL p 0 + 1 + 1) * _) r1 ((4 * numL p 0 + 1) * _)).bind _ = _
            cases h2 : sp ((4 * numL p 0 + 1 + 1) * widL (p.length + 1)) r1 ((4 * numL p 0 + 1) * widL (p.length + 1)) with
            | none => rfl
            | some r2 =>
              have k2 : ∀ t ∈ r2, okP t := fun t ht => k1 t (sp_rest h2 t ht)
              simp only [Option.bind_some]
              show _ = sp _ r2 ((4 * numL p 0 + 2) * _)
              rw [comp r2 2 (by omega) (fun _ _ _ h => absurd h (by omega)) (fun h => absurd h (by omega))]
              unfold chain
              rw [ih r2 50 (by decide) (by decide) k2]
              show (sp ((4 * numL p 0 + 2 + 1) * _) r2 ((4 * numL p 0 + 2) * _)).bind _ = _
              cases h3 : sp ((4 * numL p 0 + 2 + 1) * widL (p.length + 1)) r2 ((4 * numL p 0 + 2) * widL (p.length + 1)) with
              | none => rfl
              | some r3 =>
                have k3 : ∀ t ∈ r3, okP t := fun t ht => k2 t (sp_rest h3 t ht)
                simp only [Option.bind_some]
                unfold chain
                rw [ih r3 51 (by decide) (by decide) k3]
                show (sp ((4 * numL p 0 + 3 + 1) * _) r3 ((4 * numL p 0 + 3) * _)).bind _ = sp _ r3 ((4 * numL p 0 + 3) * _)
                have hc : chain (wholeM m) p [] = some := by funext x; rfl
                rw [hc]
                simp
    · have : wholeM m (s :: r) p = none := by cases m <;> simp [wholeM, hpre]
      rw [this]
      unfold sp
      rw [if_neg (by omega)]
      by_cases hs1 : atP s = atP p
      · rw [if_pos hs1]
        symm
        apply sp_over
        rcases Nat.lt_or_ge s.length p.length with h | h
        · have hp10 := hp.1
          have h1 := widL_succ (n := s.length) (by omega)
          have h2 : widL p.length ≤ widL (s.length + 1) := Nat.le_of_dvd (widL_pos _) (widL_dvd h)
          have := widL_pos (s.length + 1)
          omega
        · exfalso
          apply hpre
          have e : s = s.take p.length ++ s.drop p.length := (List.take_append_drop _ _).symm
          have hl : (s.take p.length).length = p.length := by simp; omega
          have hd : (s.drop p.length).length = s.length - p.length := by simp
          have hlt := numL_lt (s.drop p.length) (fun c hc => hso.2 c (List.mem_of_mem_drop hc))
          have hn : numL s 0 = numL (s.take p.length) 0 * 4 ^ (s.length - p.length) + numL (s.drop p.length) 0 := by
            conv => lhs; rw [e, numL_append, numL_start, hd]
          have hww : widL p.length = 4 ^ (s.length - p.length) * widL s.length := by
            unfold widL
            rw [← Nat.pow_add]
            congr 1
            have := hso.1
            omega
          unfold atP at hs1
          rw [hn, hww] at hs1
          rw [hd] at hlt
          have hws := widL_pos s.length
          rw [← Nat.mul_assoc] at hs1
          have h5 := Nat.eq_of_mul_eq_mul_right hws hs1
          have hq : 0 < 4 ^ (s.length - p.length) := Nat.pow_pos (by omega)
          generalize 4 ^ (s.length - p.length) = q at *
          have h6 : numL (s.take p.length) 0 = numL p 0 := by
            have e1 : (numL (s.take p.length) 0 * q + numL (s.drop p.length) 0) / q = numL (s.take p.length) 0 := by rw [Nat.mul_comm, Nat.mul_add_div hq, Nat.div_eq_of_lt hlt]; rfl
            rw [h5, Nat.mul_div_cancel _ hq] at e1
            exact e1.symm
          have h7 := numL_inj _ p hl (fun c hc => hso.2 c (List.mem_of_mem_take hc)) hp.2 h6
          rw [← h7]
          exact List.take_prefix _ _
      · rw [if_neg hs1]
/-- THE TWO TELL THE SAME -/
theorem whole_same (ss : List Path) (h : ∀ s ∈ ss, okP s) : wholeM 10 ss [] = some [] ↔ sumTo ss 0 = some 1048576 := by
  rw [wholeM_sp 10 ss [] h ⟨by simp, by simp⟩ (by simp)]
  have e : atP [] = 0 := rfl
  have e2 : widL ([] : Path).length = 1048576 := rfl
  rw [e, e2, Nat.zero_add]
  exact sp_sum _ _ _
end Go.Proofs.Ytalmhbcmagjheaa
end
