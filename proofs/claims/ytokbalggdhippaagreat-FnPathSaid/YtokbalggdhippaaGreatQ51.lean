/- Merged texts: BlF, AngD, RdO, BlG, LawT, JoiS. -/
import Derived.Test.YtokbalggdhippaaGreatQ50
import Derived.Test.YtokbalggdhippaaGreatQ4
import Derived.Deep.RegionWith
import Derived.StillTailTactics
import Derived.Test.YtokbalggdhippaaGreatQ47
import Derived.Test.YtokbalggdhippaaGreatQ14
import Derived.Deep.Cut
import Derived.Test.YtokbalggdhippaaGreatQ48
import Derived.Test.YtokbalggdhippaaGreatQ10
import Derived.BigQuiet
set_option linter.all false
section
namespace Go.Proofs.YtokbalggdhippaaGreat
open Go.RowKit Flo
attribute [local go_sem ↓] Go.wp_at_zero Go.wp_at_succ
attribute [local go_sem] run_store_float run_store_complex
set_option maxRecDepth 100000 in
set_option maxHeartbeats 16000000 in
theorem implPath_is (cx cy : Nat) (deep size most : Int) (p : ByteArray) (hp : p.size ≤ 8) (hx : cx < 4294967296) (hy : cy < 4294967296) (w : World) :
    Calls Vp.prog 8 #[.complex .f32 cx cy, .int .i64 deep, .int .i64 size, .int .i64 most, .string p] w (PathOut w cx cy deep size most p.data.toList) := by
  have HIX := Lib.hid (index_str p)
  have HBA := Lib.hid (bytes_at p)
  have HMK := Lib.hid (fun W => implMakeC cx cy deep size most hx hy W)
  have HPW := Lib.hid (pathWell_is p hp)
  obtain ⟨n, hn⟩ : ∃ n, p.size = n := ⟨_, rfl⟩
  have HN : Hid (p.size = n ∧ p.data.toList.length = n) := ⟨hn, by rw [Array.length_toList]; exact hn⟩
  rw [hn] at hp
  have R := Box.new w #[.complex .f32 0 0, .int .i64 0, .int .i64 0, .slice none 0 0, .slice none 0 0] 29
  have HR := Lib.hid R
  obtain ⟨r0, r1, r2, r3, r4⟩ := R.cells5
  obtain ⟨f0, f1, f2, f3, f4⟩ := R.free5
  clear R
  go_enter Vp.func8, Tryz.ntmps8
  go_wp2_with fail
  refine (HPW.out _).mono ?_
  rintro e w0 ⟨⟨pw, rfl, hpw⟩, rfl⟩
  have HPWD := Lib.hid hpw
  clear hpw
  cases pw with
  | false =>
    have HNO : Hid (¬ PathOK cx cy deep size p.data.toList) := fun ⟨_, d0, x, y, dd, _, h⟩ => by
      have := HPWD.out.2 h.digs
      cases this
    have HB := Lib.hid HR.out.old
    go_wp2
    exact bodyPost_ret (v := .tuple #[.agg #[.complex .f32 0 0, .int .i64 0, .int .i64 0, .slice none 0 0, .slice none 0 0], .bool false]) (by simp [results, Tryz.f8, go_sem, r0, r1, r2, r3, r4]) rfl (PathOut.no HB.out HNO.out)
  | true =>
   have HDG : Hid (∀ c ∈ p.data.toList, dig c) := HPWD.out.1 rfl
   clear HPWD
   go_wp2_with fail
   refine (HMK.out _).mono ?_
   rintro e w1 ⟨⟨x, y, dd, ss, a1, n1, c1, a2, n2, c2, ok, rfl, hM⟩, hb1⟩
   have HM := Lib.hid hM
   have HB1 := Lib.hid hb1
   have HR1 := Lib.hid ((HR.out.step HB1.out).alloc (.cells #[.complex .f32 x y, .int .i64 dd, .int .i64 ss, .slice a1 n1 c1, .slice a2 n2 c2] 29))
   have htb : w.heap.size < w1.heap.size := (HR.out.step HB1.out).lt
   clear hM hb1 r0 r1 r2 r3 r4 f0 f1 f2 f3 f4
   obtain ⟨r0, r1, r2, r3, r4⟩ := HR1.out.cells5
   obtain ⟨f0, f1, f2, f3, f4⟩ := HR1.out.free5
   cases ok with
   | false =>
     have HNO : Hid (¬ PathOK cx cy deep size p.data.toList) := fun h => (HM.out.1 rfl).1 h.1
     have HBX := Lib.hid (HR.out.step HB1.out).old
     have hbx := HBX.out.size
     have HZ := Lib.hid (((HR.out.step HB1.out).set5 (Nat.le_refl _) (.complex .f32 0 0) (.int .i64 0) (.int .i64 0) (.slice none 0 0) (.slice none 0 0)).alloc (.cells #[.complex .f32 x y, .int .i64 dd, .int .i64 ss, .slice a1 n1 c1, .slice a2 n2 c2] 29))
     clear HR1 r0 r1 r2 r3 r4 f0 f1 f2 f3 f4
     obtain ⟨r0, r1, r2, r3, r4⟩ := (HR.out.step HB1.out).cells5
     obtain ⟨f0, f1, f2, f3, f4⟩ := (HR.out.step HB1.out).free5
     go_wp2
     obtain ⟨z0, z1, z2, z3, z4⟩ := HZ.out.cells5
     exact bodyPost_ret (v := .tuple #[.agg #[.complex .f32 0 0, .int .i64 0, .int .i64 0, .slice none 0 0, .slice none 0 0], .bool false]) (by simp [results, Tryz.f8, go_sem, z0, z1, z2, z3, z4]) rfl (PathOut.no ((set5 HBX.out (Nat.le_refl _) _ _ _ _ _).alloc (by simp; omega) _) HNO.out)
   | true =>
     obtain ⟨t, e1, e2, e3, e4, e5, ht, hgood⟩ := HM.out.2 rfl
     obtain ⟨d0, s0, hd0, hs0, -, -, -, -⟩ := hgood.n
     have hMK : MkP cx cy deep size := by
       obtain ⟨d, s, a, b, g1, g2, g3, -, -⟩ := hgood
       rw [← e1, ← e2, ← e3, ← e4]
       exact ⟨d, s, a, b, g1, g2, g3⟩
     have HMKP := Lib.hid hMK
     have hC : (#[.complex .f32 x y, .int .i64 dd, .int .i64 ss, .slice a1 n1 c1, .slice a2 n2 c2] : Array Value) = #[.complex .f32 t.cx t.cy, .int .i64 t.deep, .int .i64 t.size, .slice (some ⟨t.gs, 0, none⟩) t.n t.cs, .slice (some ⟨t.gm, 0, none⟩) t.n t.cm] := by
       injection e5
     injection hC with hC
     simp only [List.cons.injEq, and_true] at hC
     obtain ⟨g1, g2, g3, g4, g5⟩ := hC
     injection g1 with _ g1 g1'
     injection g2 with _ g2
     injection g3 with _ g3
     injection g4 with g4 g4' g4''
     injection g5 with g5 g5' g5''
     subst g1 g1' g2 g3 g4 g4' g4'' g5 g5' g5''
     have HD0 : Hid (deep = d0) := e3.symm.trans hd0
     have HI0 : Hid (PathI w w1.heap.size cx cy d0 size most p.data.toList 0 t d0 (w1.alloc (.cells #[.complex .f32 t.cx t.cy, .int .i64 t.deep, .int .i64 t.size, .slice (some ⟨t.gs, 0, none⟩) t.n t.cs, .slice (some ⟨t.gm, 0, none⟩) t.n t.cm] 29))) := by
       refine ⟨HR1.out, ((Box.new w1 _ _).up ((HR.out.step HB1.out).old)), ?_, hgood, hd0, e4, htb, fun x y dd => ?_⟩
       · exact (ht.step ((Below.refl _ _).alloc (Nat.le_refl _) _)).mono (Nat.le_of_lt (by have := HR.out.lt; omega))
       · rw [List.drop_zero, e1, e2]
     clear e1 e2 e3 e4 e5 ht hgood hMK hd0 hs0 HR1 HM HR r0 r1 r2 r3 r4 f0 f1 f2 f3 f4
     go_wp2
     generalize w1.heap.size = tb at *
     go_loopw [34] (fun i wr => ∃ (k d : Nat) (t : TRec), k ≤ n ∧ i = .int .i64 k ∧ Hid (PathI w tb cx cy d0 size most p.data.toList k t d wr)) (fun i _ => (n - intOf i).toNat)
     case atStart => exact ⟨0, d0, t, by omega, rfl, HI0⟩
     case round =>
       clear HI0
       obtain ⟨k, d, t, hk, rfl, HI⟩ := hrel
       obtain ⟨wo, rfl⟩ : ∃ wo, wo = wr := ⟨_, rfl⟩
       obtain ⟨t0, t1, t2, t3, t4⟩ := HI.out.T.cells5
       by_cases hlt : k < n
       · have hix := HIX.out k (by have := HN.out.1; omega)
         have hba := HBA.out k (by have := HN.out.1; omega)
         generalize p[k]'(by have := HN.out.1; omega) = c at *
         have HBK := Lib.hid hba
         obtain ⟨cn, hcn⟩ : ∃ cn, c.toNat = cn := ⟨_, rfl⟩
         have HCN := Lib.hid hcn
         rw [hcn] at hix
         clear hba hcn
         obtain ⟨d', hd', hsp⟩ := implSplitC most t w.heap.size wo HI.out.own HI.out.good
         obtain rfl : d = d' := by have := HI.out.deep; omega
         have HSP : Hid (Calls Vp.prog 13 #[.agg #[.complex .f32 t.cx t.cy, .int .i64 t.deep, .int .i64 t.size, .slice (some ⟨t.gs, 0, none⟩) t.n t.cs, .slice (some ⟨t.gm, 0, none⟩) t.n t.cm], .int .i64 most] wo (SplitV wo t.cx t.cy d t.size most)) := hsp
         clear hsp hd'
         go_wp2_with fail
         refine HSP.out.mono ?_
         rintro e w2 ⟨⟨v, rfl, k', hk', hno⟩ | ⟨L, v, rfl, hL, hLl, hLt⟩, hb2⟩
         · have HNO : Hid (¬ PathOK cx cy deep size p.data.toList) := HI.out.cut HBK.out (fun h => hno (by have := h.2 k' hk'; rw [← HI.out.sz] at this; exact this)) HD0.out
           have HI2 := Lib.hid (HI.out.step hb2)
           obtain ⟨r0, r1, r2, r3, r4⟩ := HI2.out.R.cells5
           obtain ⟨f0, f1, f2, f3, f4⟩ := HI2.out.R.free5
           have HB := Lib.hid HI2.out.R.old
           clear hno hb2 t0 t1 t2 t3 t4 HSP
           go_wp2
           exact bodyPost_ret (v := .tuple #[.agg #[.complex .f32 0 0, .int .i64 0, .int .i64 0, .slice none 0 0, .slice none 0 0], .bool false]) (by simp [results, Tryz.f8, go_sem, r0, r1, r2, r3, r4]) rfl (PathOut.no (set5 HB.out (Nat.le_refl _) _ _ _ _ _) HNO.out)
         · have hform := ownsRow_form hL.row (by omega)
           obtain ⟨g, cap, rfl, -, hcap⟩ := hform
           have hszz := HI.out.sz
           rw [hszz] at hLt
           clear hszz
           have HL := Lib.hid hL
           have HI2 := Lib.hid (HI.out.step hb2)
           have HSPL : Hid (SplitP t.cx t.cy d size) := fun j hj => by
             obtain ⟨u, hu⟩ : ∃ u, L[j]? = some u := ⟨_, List.getElem?_eq_getElem (by omega)⟩
             obtain ⟨q1, q2, q3, q4, q5⟩ := hLt j u hu
             obtain ⟨a1, a2, a3, a4, b1, b2, b3, -, -⟩ := q5
             have hm : MkP u.cx u.cy u.deep u.size := ⟨a1, a2, a3, a4, b1, b2, b3⟩
             rw [q1, q2, q3, q4] at hm
             exact hm
           have HLT := Lib.hid hLt
           have HLN := Lib.hid hLl
           have hb2s := hb2.size
           clear hL hb2 hLt t0 t1 t2 t3 t4 HSP
           rw [hLl] at hcap ⊢
           have hdg : dig c := HDG.out c (List.mem_of_getElem? HBK.out)
           have h1 : ¬ cn < 48 := by have := hdg.1; have := HCN.out; omega
           have h2 : ¬ 51 < cn := by have := hdg.2; have := HCN.out; omega
           obtain ⟨j, hj⟩ : ∃ j, cn = 48 + j := ⟨cn - 48, by omega⟩
           have hj4 : j < 4 := by omega
           obtain ⟨u, hu⟩ : ∃ u, L[j]? = some u := ⟨_, List.getElem?_eq_getElem (by omega)⟩
           obtain ⟨q1, q2, q3, q4, q5⟩ := HLT.out j u hu
           have HU := Lib.hid (HL.out.own u (List.mem_of_getElem? hu))
           have HCE := Lib.hid (show TList wo.heap.size L (.slice (some ⟨g, 0, none⟩) L.length cap) w2 from HL.out)
           obtain ⟨y0, y1, y2, y3, y4⟩ := HCE.out.cells hu
           obtain ⟨t0, t1, t2, t3, t4⟩ := HI2.out.T.cells5
           obtain ⟨f0, f1, f2, f3, f4⟩ := HI2.out.T.free5
           have HNX := Lib.hid (HI2.out.next HBK.out (HCN.out.trans hj) hj4 HSPL.out (HU.out.mono (Nat.le_of_lt (by have := HI.out.R.lt; exact this))) q5 q1 q2 q3 q4)
           have huT := HI2.out.T.lt
           clear q1 q2 q3 q4 q5 hu HCE HL HU HSPL HLT
           subst hj
           clear h1 h2
           rcases (by omega : j = 0 ∨ j = 1 ∨ j = 2 ∨ j = 3) with rfl | rfl | rfl | rfl
           all_goals
             simp only [Nat.reduceMul, Nat.reduceAdd] at y0 y1 y2 y3 y4 hix
             go_wp2
             go_roundw
             case rel => exact ⟨k + 1, d + 1, u, by omega, by go_num, HNX⟩
             case measure => simp [intOf]; omega
       · obtain rfl : k = n := by omega
         have HP : Hid (PathR size p.data.toList cx cy d0 t.cx t.cy d) := (HI.out.path _ _ _).2 (by rw [← HN.out.2, List.drop_length]; exact ⟨rfl, rfl, rfl⟩)
         obtain ⟨r0, r1, r2, r3, r4⟩ := HI.out.R.cells5
         obtain ⟨f0, f1, f2, f3, f4⟩ := HI.out.R.free5
         have HO : Hid (∀ u0 u1 u2 u3 u4, TOwn w.heap.size t (((((wo.setCell ⟨w.heap.size, 0, none⟩ u0).setCell ⟨w.heap.size, 1, none⟩ u1).setCell ⟨w.heap.size, 2, none⟩ u2).setCell ⟨w.heap.size, 3, none⟩ u3).setCell ⟨w.heap.size, 4, none⟩ u4)) := fun u0 u1 u2 u3 u4 => HI.out.own.far5 HI.out.R (Nat.le_refl _) u0 u1 u2 u3 u4
         have HB := Lib.hid HI.out.R.old
         go_wp2
         exact bodyPost_ret (v := .tuple #[.agg #[.complex .f32 t.cx t.cy, .int .i64 t.deep, .int .i64 t.size, .slice (some ⟨t.gs, 0, none⟩) t.n t.cs, .slice (some ⟨t.gm, 0, none⟩) t.n t.cm], .bool true]) (by simp [results, Tryz.f8, go_sem, r0, r1, r2, r3, r4]) rfl (PathOut.yes (set5 HB.out (Nat.le_refl _) _ _ _ _ _) (HO.out _ _ _ _ _) HI.out.good HI.out.sz HD0.out HI.out.deep HMKP.out HP.out)
end Go.Proofs.YtokbalggdhippaaGreat
end

section
namespace Go.Proofs.YtokbalggdhippaaGreat
open Go.RowKit
theorem Box.only {w0 W W' : World} {b b' : Nat} {C : Array Value} {T : TypeId} (h : Box w0 b' C T W) (k : Only b W W') (hne : b' ≠ b) (hb : w0.heap.size ≤ b) : Box w0 b' C T W' :=
  ⟨(k.block b' h.lt hne).trans h.blk, h.old.trans (k.below _ h.old.size hb)⟩
theorem Rd.own {w0 : World} {b p : Nat} {W : World} (h : Rd w0 b p W) : w0.heap.size ≤ b ∧ b < W.heap.size := by
  obtain ⟨_, _, _, h, _, h2, _⟩ := h; exact ⟨h2, h.lt⟩
theorem Rd.other {w0 : World} {b q : Nat} {W : World} (h : Rd w0 b q W) {p : Addr} (hp : w0.heap.size ≤ p.block) (hne : b ≠ p.block) (v : Value) : Rd w0 b q (W.setCell p v) := by
  obtain ⟨a, c, bs, h, r⟩ := h; exact ⟨a, c, bs, h.other hp hne v, r⟩
end Go.Proofs.YtokbalggdhippaaGreat
end

section
namespace Go.Proofs.YtokbalggdhippaaGreat
open Go.RowKit
theorem Only.cell {b : Nat} {u v : World} (h : Only b u v) {p : Addr} (hp : p.block < u.heap.size) (hne : p.block ≠ b) : v.cell? p = u.cell? p := World.cell?_of_block (h.block _ hp hne)
set_option maxHeartbeats 400000 in
theorem of_any (w0 : World) (b p : Nat) (hp : p ≤ 1099511627000) (W : World) (h : Rd w0 b p W) (lb n c : Nat) (xs : List ByteArray) (hx : xs.length = n) (hn : 1 ≤ n) (hn2 : n ≤ 1000) (hne : lb ≠ b) (hs : Sl W (some ⟨lb, 0, none⟩) (xs.map Value.string)) :
    Calls Vp.prog 27 #[.pointer (some ⟨b, 0, none⟩), .slice (some ⟨lb, 0, none⟩) n c] W fun e w' => (∃ s, s ∈ xs ∧ e = .returned (.string s)) ∧ Rd w0 b (p + 1) w' ∧ Only b W w' := by
  have HS := Lib.hid hs
  have HX := Lib.hid hx
  clear hs hx
  go_enter Vp.func27, Tryz.ntmps27
  go_wp2_with fail
  refine (pick_any w0 b p n (by omega) (by omega) _ h).mono ?_
  rintro e w1 ⟨⟨r, rfl, r0, r1⟩, hR, hO⟩
  have hrn : r < n := by omega
  have hv : (xs.map Value.string)[r.toNat]? = some (Value.string (xs[r.toNat]'(by rw [HX.out]; omega))) := by
    rw [List.getElem?_map, List.getElem?_eq_getElem (by rw [HX.out]; omega)]; rfl
  obtain ⟨b', o', he, hc⟩ := HS.out.at hv
  obtain ⟨rfl, rfl⟩ : lb = b' ∧ 0 = o' := by injection he with he; injection he with h3 h4 _; exact ⟨h3, h4⟩
  have hc1 : w1.cell? ⟨lb, 0 + r.toNat, none⟩ = some (Value.string (xs[r.toNat]'(by rw [HX.out]; omega))) := (hO.cell (World.block_lt_of_cell? _ _ hc) hne).trans hc
  rw [Nat.zero_add] at hc1
  have HM : Hid (xs[r.toNat]'(by rw [HX.out]; omega) ∈ xs) := List.getElem_mem _
  generalize xs[r.toNat]'(by rw [HX.out]; omega) = s at *
  have HR := Lib.hid hR
  have HO := Lib.hid hO
  clear hv he hc hR hO h HS
  go_wp2
  go_ret
  exact ⟨⟨s, HM.out, rfl⟩, HR.out, HO.out⟩
end Go.Proofs.YtokbalggdhippaaGreat
end

section
namespace Go.Proofs.YtokbalggdhippaaGreat
open Go.RowKit
def PathDrawn (w : World) (e : Ending) (w' : World) : Prop := (∃ (x y : Nat) (d s m : Int) (p : ByteArray), e = .returned (.tuple #[.complex .f32 x y, .int .i64 d, .int .i64 s, .int .i64 m, .string p]) ∧ x < 4294967296 ∧ y < 4294967296 ∧ p.size ≤ 3) ∧ Below w.heap.size w w'
set_option maxHeartbeats 4000000 in
theorem drawPath_any (a : Option Addr) (c : Nat) (bs : List UInt8) (hn : bs.length ≤ 1048576) (hc : bs.length ≤ c) (w : World) (hs : Sl w a (bs.map byteV)) :
    Calls Vp.prog 7 #[.slice a bs.length c] w (PathDrawn w) := by
  have H := Lib.hid (open_any a c bs hn hc w hs)
  clear hs
  go_enter Vp.func7, Tryz.ntmps7
  go_wp2_with fail
  refine H.out.mono ?_
  rintro e w1 ⟨b, rfl, -, hR⟩
  go_wp2_with fail
  refine (place_any w b 0 (by omega) _ hR).mono ?_
  rintro e w2 ⟨⟨x, y, d, s, m, rfl, hx, hy, -, -⟩, ⟨p0, hp0, hR2⟩, -⟩
  clear hR
  go_wp2_with fail
  refine (pick_any w b p0 3 (by omega) (by omega) _ hR2).mono ?_
  rintro e w3 ⟨⟨n, rfl, n0, n1⟩, hR3, -⟩
  obtain ⟨k, rfl⟩ := Int.eq_ofNat_of_zero_le n0
  have hk : k ≤ 2 := by omega
  have HR := Lib.hid hR3
  clear hR2 hR3 n0 n1
  go_wp2
  go_loopw [12, 14] (fun t i wr => ∃ (j p' : Nat) (s : ByteArray), j ≤ k ∧ i = .int .i64 j ∧ t = .string s ∧ s.size ≤ j ∧ p' ≤ p0 + 1 + j ∧ Hid (Rd w b p' wr)) (fun _ i _ => (k - intOf i).toNat)
  case atStart => exact ⟨0, p0 + 1, _, by omega, rfl, rfl, by decide, by omega, HR⟩
  case round =>
    clear HR
    obtain ⟨j, p', q, hj, rfl, rfl, hs, hp', HR⟩ := hrel
    obtain ⟨wo, rfl⟩ : ∃ wo, wo = wr := ⟨_, rfl⟩
    have hb := HR.out.own.2
    by_cases hlt : j < k
    · have X := Box.new wo #[.string ⟨#[48]⟩, .string ⟨#[49]⟩, .string ⟨#[50]⟩, .string ⟨#[51]⟩] 9
      have HR2 := HR.out.step ((Below.refl _ _).alloc (Nat.le_refl _) (.cells #[.string ⟨#[48]⟩, .string ⟨#[49]⟩, .string ⟨#[50]⟩, .string ⟨#[51]⟩] 9))
      have HO := Lib.hid (of_any w b p' (by omega) _ HR2 wo.heap.size 4 4 [⟨#[48]⟩, ⟨#[49]⟩, ⟨#[50]⟩, ⟨#[51]⟩] rfl (by omega) (by omega) (by omega) (Sl.of_box X rfl))
      clear X HR2
      go_wp2_with fail
      refine HO.out.mono ?_
      rintro e w4 ⟨⟨c, hc, rfl⟩, hR, -⟩
      have hcs : c.size ≤ 1 := by
        simp only [List.mem_cons, List.not_mem_nil, or_false] at hc
        rcases hc with rfl | rfl | rfl | rfl <;> decide
      have HS : Hid ((q ++ c).size ≤ j + 1) := by show (q ++ c).size ≤ _; rw [ByteArray.size_append]; omega
      have HR3 := Lib.hid hR
      clear hR hc HO HR
      go_wp2
      go_roundw
      case rel => exact ⟨j + 1, p' + 1, _, by omega, by go_num, rfl, HS.out, by omega, HR3⟩
      case measure => simp [intOf]; omega
    · have hjk : j = k := by omega
      subst hjk
      go_wp2_with fail
      refine (pick_any w b p' 20 (by omega) (by omega) _ HR.out).mono ?_
      rintro e w4 ⟨⟨z, rfl, z0, z1⟩, hR, -⟩
      have HB := Lib.hid hR.below
      have HS : Hid (q.size ≤ 3 ∧ (q ++ ⟨#[52]⟩).size ≤ 3) := ⟨by omega, by rw [ByteArray.size_append]; have : (⟨#[52]⟩ : ByteArray).size = 1 := rfl; omega⟩
      clear hR HR
      by_cases hz : z = 0
      · subst hz
        go_wp2
        exact bodyPost_ret (v := .tuple #[.complex .f32 x y, .int .i64 d, .int .i64 s, .int .i64 m, .string (q ++ ⟨#[52]⟩)]) (by simp [results, Tryz.f7, go_sem]) rfl ⟨⟨x, y, d, s, m, _, rfl, hx, hy, HS.out.2⟩, HB.out⟩
      · have hz' : (z == 0) = false := by simpa using hz
        go_wp2
        exact bodyPost_ret (v := .tuple #[.complex .f32 x y, .int .i64 d, .int .i64 s, .int .i64 m, .string q]) (by simp [results, Tryz.f7, go_sem]) rfl ⟨⟨x, y, d, s, m, _, rfl, hx, hy, HS.out.1⟩, HB.out⟩
end Go.Proofs.YtokbalggdhippaaGreat
end

section
namespace Go.Proofs.YtokbalggdhippaaGreat
open Go.RowKit
set_option maxHeartbeats 1000000 in
theorem sameInts_same (a b : Option Addr) (ca cb : Nat) (xs : List Int) (hn : xs.length ≤ 1048576) (w : World) (ha : Sl w a (xs.map intV)) (hb : Sl w b (xs.map intV)) :
    Calls Vp.prog 32 #[.slice a xs.length ca, .slice b xs.length cb] w fun e w' => e = .returned (.bool true) ∧ Drw w w' := by
  obtain ⟨n, hnn⟩ : ∃ n, xs.length = n := ⟨_, rfl⟩
  have HX : Hid (∀ k, k < n → ∃ x, (xs.map intV)[k]? = some (.int .i64 x)) := fun k h => ⟨xs[k]'(by omega), by rw [List.getElem?_map, List.getElem?_eq_getElem (by omega)]; rfl⟩
  have HA := Lib.hid ha
  have HB := Lib.hid hb
  rw [hnn] at hn ⊢
  clear ha hb hnn
  go_enter Vp.func32, Tryz.ntmps32
  go_wp2
  go_loopw [5] (fun i wr => ∃ k : Nat, k ≤ n ∧ i = .int .i64 k ∧ Hid (Drw w wr)) (fun i _ => (n - intOf i).toNat)
  case atStart => exact ⟨0, by omega, rfl, Drw.refl _⟩
  case round =>
    obtain ⟨k, hk, rfl, HD⟩ := hrel
    by_cases hlt : k < n
    · obtain ⟨x, hx⟩ := HX.out k hlt
      obtain ⟨b1, o1, rfl, hc1⟩ := (HA.out.drw HD.out).at hx
      obtain ⟨b2, o2, rfl, hc2⟩ := (HB.out.drw HD.out).at hx
      clear hx
      go_upto_region 6 with fail
      go_quiet (fail)
      have HD2 := Lib.hid (HD.out.drewN nq)
      go_wp2
      go_roundw
      case rel => exact ⟨k + 1, by omega, by go_num, HD2⟩
      case measure => simp [intOf]; omega
    · go_wp2
      go_ret
      exact ⟨rfl, HD.out⟩
end Go.Proofs.YtokbalggdhippaaGreat
end

section
namespace Go.Proofs.YtokbalggdhippaaGreat
open Go.RowKit Flo
attribute [local go_sem] run_store_float run_store_complex
theorem widen_finJ {x : Nat} {a : Int} (h : Val Ieee.single x a) {p : Nat} (hp : Al .f64 (widenC x) p) : Val Ieee.double p (a * (2 ^ wup : Nat)) := by
  obtain ⟨y, hy, hv⟩ := widen_val h
  have e : widenC x = y := by unfold widenC; rw [hy]; rfl
  rw [e] at hp
  rw [Al.same hp (val_nan (k := .f64) hv)]
  exact hv
set_option maxHeartbeats 400000 in
theorem sameSingle_valJ {x y : Nat} {a b : Int} (hx : Val Ieee.single x a) (hy : Val Ieee.single y b) (w : World) :
    Calls Vp.prog 30 #[.complex .f32 x y, .complex .f32 x y] w fun e w' => e = .returned (.bool true) ∧ Drw w w' := by
  obtain ⟨p, q, w1, h1, p1, q1, d1, ap, aq⟩ := Flo.cwiden_al (P := Vp.prog) 23 107 (by kernel_rfl) (Vp.und Tryz.underlying107) x y hx.lt hy.lt w
  obtain ⟨p', q', w2, h2, p1', q1', d2, ap', aq'⟩ := Flo.cwiden_al (P := Vp.prog) 23 107 (by kernel_rfl) (Vp.und Tryz.underlying107) x y hx.lt hy.lt w1
  have n1 : nan .f64 p = false := val_nan (k := .f64) (widen_finJ hx ap)
  have n2 : nan .f64 q = false := val_nan (k := .f64) (widen_finJ hy aq)
  have e1 : p' = p := Al.same (ap.symm.trans ap') n1
  have e2 : q' = q := Al.same (aq.symm.trans aq') n2
  subst e1 e2
  have H1 := Lib.hid (alikeFloat_refl p' n1)
  have H2 := Lib.hid (alikeFloat_refl q' n2)
  have HD := Lib.hid (d1.trans d2)
  clear n1 n2 ap aq ap' aq' d1 d2 hx hy
  go_enter Vp.func30, Tryz.ntmps30
  go_wp2_with fail
  go_enter Vp.func56, Tryz.ntmps56
  go_wp2_with fail
  refine (H1.out _).mono ?_
  rintro e w3 ⟨rfl, rfl⟩
  go_wp2_with fail
  refine (H2.out _).mono ?_
  rintro e w3 ⟨rfl, rfl⟩
  go_wp2
  go_ret
  exact ⟨rfl, HD.out⟩
set_option maxHeartbeats 400000 in
theorem sameSmall_al (x y : Nat) (hx : x < 4294967296) (h : Al .f32 x y) (w : World) :
    Calls Vp.prog 31 #[.float .f32 x, .float .f32 y] w fun e w' => e = .returned (.bool true) ∧ Drw w w' := by
  rcases h with rfl | ⟨n1, n2⟩
  · exact sameSmall_self x hx w
  · obtain ⟨p, hp, hpn⟩ := run_convert_nan64 63 109 (by kernel_rfl) (Vp.und Tryz.underlying109) n1 w
    obtain ⟨q, hq, hqn⟩ := run_convert_nan64 63 109 (by kernel_rfl) (Vp.und Tryz.underlying109) n2 w.drew
    have H := Lib.hid (alikeFloat_nan p q hpn hqn)
    clear hpn hqn n1 n2
    go_enter Vp.func31, Tryz.ntmps31
    go_wp2_with (go_at_call 57; refine (H.out _).mono ?_; rintro e w' ⟨rfl, rfl⟩)
    go_ret
    exact ⟨rfl, (Drw.refl w).drew.drew⟩
set_option maxRecDepth 100000 in
set_option maxHeartbeats 2000000 in
theorem sameTile_al {cx cy : Nat} {da db : Int} (hcx : Val Ieee.single cx da) (hcy : Val Ieee.single cy db) (deep size : Int) (a1 b1 a2 b2 : Option Addr) (c1 e1 c2 e2 : Nat) (xs xs' : List Nat) (ys : List Int) (n : Nat) (hn : n ≤ 1048576) (m : Nat) (hm : ys.length = m) (hmm : m ≤ 1048576) (hx : ∀ k, k < n → ∃ x y, xs[k]? = some x ∧ xs'[k]? = some y ∧ x < 4294967296 ∧ Al .f32 x y) (w : World) (s1 : Sl w a1 (xs.map floV)) (t1 : Sl w b1 (xs'.map floV)) (s2 : Sl w a2 (ys.map intV)) (t2 : Sl w b2 (ys.map intV)) :
    Calls Vp.prog 10 #[.agg #[.complex .f32 cx cy, .int .i64 deep, .int .i64 size, .slice a1 n c1, .slice a2 m c2], .agg #[.complex .f32 cx cy, .int .i64 deep, .int .i64 size, .slice b1 n e1, .slice b2 m e2]] w fun e w' => e = .returned (.bool true) ∧ Below w.heap.size w w' := by
  subst hm
  have X0 : Box w w.heap.size #[.complex .f32 cx cy, .int .i64 deep, .int .i64 size, .slice a1 n c1, .slice a2 ys.length c2] 29 ((w.alloc (.cells #[.complex .f32 cx cy, .int .i64 deep, .int .i64 size, .slice a1 n c1, .slice a2 ys.length c2] 29)).alloc (.cells #[.complex .f32 cx cy, .int .i64 deep, .int .i64 size, .slice b1 n e1, .slice b2 ys.length e2] 29)) := (Box.new w _ _).alloc _
  have X1 : Box w (w.heap.size + 1) #[.complex .f32 cx cy, .int .i64 deep, .int .i64 size, .slice b1 n e1, .slice b2 ys.length e2] 29 ((w.alloc (.cells #[.complex .f32 cx cy, .int .i64 deep, .int .i64 size, .slice a1 n c1, .slice a2 ys.length c2] 29)).alloc (.cells #[.complex .f32 cx cy, .int .i64 deep, .int .i64 size, .slice b1 n e1, .slice b2 ys.length e2] 29)) := by
    have := (Box.new (w.alloc (.cells #[.complex .f32 cx cy, .int .i64 deep, .int .i64 size, .slice a1 n c1, .slice a2 ys.length c2] 29)) #[.complex .f32 cx cy, .int .i64 deep, .int .i64 size, .slice b1 n e1, .slice b2 ys.length e2] 29).up (w0 := w) ((Below.refl _ _).alloc (Nat.le_refl _) _)
    rwa [World.size_alloc] at this
  have HX0 := Lib.hid X0
  have HX1 := Lib.hid X1
  have HA := Lib.hid (s1.step X0.old)
  have HB := Lib.hid (t1.step X0.old)
  have HS := Lib.hid (fun W (k : Below w.heap.size w W) => sameInts_same a2 b2 c2 e2 ys hmm W (s2.step k) (t2.step k))
  have HC := Lib.hid (fun W => sameSingle_valJ hcx hcy W)
  have HE := Lib.hid (fun k (h : k < n) => show ∃ x y, x < 4294967296 ∧ Al .f32 x y ∧ (xs.map floV)[k]? = some (.float .f32 x) ∧ (xs'.map floV)[k]? = some (.float .f32 y) from by
    obtain ⟨x, y, h1, h2, h3, h4⟩ := hx k h
    exact ⟨x, y, h3, h4, by rw [List.getElem?_map, h1]; rfl, by rw [List.getElem?_map, h2]; rfl⟩)
  clear X0 X1 s1 t1 s2 t2 hcx hcy hx
  obtain ⟨r0, r1, r2, r3, r4⟩ := HX0.out.cells5
  obtain ⟨z0, z1, z2, z3, z4⟩ := HX1.out.cells5
  go_enter Vp.func10, Tryz.ntmps10
  go_wp2_with fail
  with_reducible refine (HC.out _).mono ?_
  rintro e w1 ⟨rfl, hd⟩
  have HX01 := Lib.hid (HX0.out.step (hd.below _))
  have HX11 := Lib.hid (HX1.out.step (hd.below _))
  have HA1 := Lib.hid (HA.out.drw hd)
  have HB1 := Lib.hid (HB.out.drw hd)
  clear hd HA HB HX0 HX1 r0 r1 r2 r3 r4 z0 z1 z2 z3 z4
  obtain ⟨r0, r1, r2, r3, r4⟩ := HX01.out.cells5
  obtain ⟨z0, z1, z2, z3, z4⟩ := HX11.out.cells5
  go_wp2
  go_loopw [5] (fun i wr => ∃ k : Nat, k ≤ n ∧ i = .int .i64 k ∧ Hid (Drw w1 wr)) (fun i _ => (n - intOf i).toNat)
  case atStart => exact ⟨0, by omega, rfl, Drw.refl _⟩
  case round =>
    obtain ⟨k, hk, rfl, HD⟩ := hrel
    have HY0 := Lib.hid (HX01.out.step (HD.out.below _))
    have HY1 := Lib.hid (HX11.out.step (HD.out.below _))
    clear r0 r1 r2 r3 r4 z0 z1 z2 z3 z4
    obtain ⟨r0, r1, r2, r3, r4⟩ := HY0.out.cells5
    obtain ⟨z0, z1, z2, z3, z4⟩ := HY1.out.cells5
    by_cases hlt : k < n
    · obtain ⟨x, y, hx, hal, hxe, hye⟩ := HE.out k hlt
      obtain ⟨b1, o1, rfl, hc1⟩ := (HA1.out.drw HD.out).at hxe
      obtain ⟨b2, o2, rfl, hc2⟩ := (HB1.out.drw HD.out).at hye
      have HF := Lib.hid (fun W => sameSmall_al x y hx hal W)
      clear hxe hye hal
      go_upto_region 6 with fail
      go_quiet ((go_at_call 31; exact quiet_drw (HF.out _)))
      have HD2 := Lib.hid (HD.out.drewN nq)
      go_wp2
      go_roundw
      case rel => exact ⟨k + 1, by omega, by go_num, HD2⟩
      case measure => simp [intOf]; omega
    · have HO := Lib.hid HY0.out.old
      go_wp2_with fail
      with_reducible refine (HS.out _ HO.out).mono ?_
      rintro e w2 ⟨rfl, hd⟩
      have HO2 := Lib.hid (HO.out.trans (hd.below _))
      go_wp2
      go_ret
      exact ⟨rfl, HO2.out⟩
theorem sameTile_zero (w : World) : Calls Vp.prog 10 #[.agg #[.complex .f32 0 0, .int .i64 0, .int .i64 0, .slice none 0 0, .slice none 0 0], .agg #[.complex .f32 0 0, .int .i64 0, .int .i64 0, .slice none 0 0, .slice none 0 0]] w fun e w' => e = .returned (.bool true) ∧ Below w.heap.size w w' := by
  have hz : Val Ieee.single 0 0 := ⟨by decide, by unfold Flo.fin; decide, by decide +kernel⟩
  exact sameTile_al hz hz 0 0 none none none none 0 0 0 0 [] [] [] 0 (by decide) 0 rfl (by decide) (fun k h => by omega) w (.inl rfl) (.inl rfl) (.inl rfl) (.inl rfl)
end Go.Proofs.YtokbalggdhippaaGreat
end
