/- Merged texts: FtA, AngD, QuiK, FtB, FtC, SiF. -/
import Derived.Test.YthhfljldbfgpcaaGreatDoorT20
import Derived.Test.YthhfljldbfgpcaaGreatDoorT21
import Derived.Test.YthhfljldbfgpcaaGreatDoorT49
import Derived.Test.YthhfljldbfgpcaaGreatDoorT18
import Derived.Test.YthhfljldbfgpcaaGreatDoorT45
import Derived.Test.YthhfljldbfgpcaaGreatDoorT4
import Derived.Deep.RegionWith
import Derived.StillTailTactics
import Derived.Test.YthhfljldbfgpcaaGreatDoorT48
import Derived.Test.YthhfljldbfgpcaaGreatDoorT1
import Derived.BigQuiet
import Derived.Test.YthhfljldbfgpcaaGreatDoorT47
set_option linter.all false
section
namespace Go.Proofs.YthhfljldbfgpcaaGreatDoor
open Go.RowKit Flo
theorem ptF_fx {c d:Nat} {A:Int} (hd:d ≤ 11) (hc:Pt c d A) (hA:A.natAbs ≤ 60000) (j:Int) (hj:j.natAbs ≤ 5000):ptF c d j=fx c d j:=by
 obtain ⟨p,h1,h2,-⟩:=ptF_is hd hc (by omega) j (by omega)
 unfold fx
 have e:opC .mul .f32 (floatOfInt .f32 j) (sideF d)=p:=by unfold opC; rw [h1]; rfl
 rw [e]
 unfold opC
 rw [h2]
 rfl
theorem mk_ok2 {cx cy d s:Nat} {A B:Int} (h:MkT cx cy d s A B) {i j:Nat} (hi:i < s) (hj:j < s):(bxC A B d i j).ok=true:=by
 have:=(cOk_iff (d:=d) (by have:=h.d10; omega) h.ha h.hb i j).2 ⟨by have:=h.ga; omega,by have:=h.gb; omega⟩
 exact (cOk_box this).2.2
def pB (A B:Int) (d i j:Nat):Bx:=⟨cA A d j,cA A d j,cA B d i,cA B d i⟩
theorem pB_sub (A B:Int) (d i j:Nat):Sub (pB A B d i j) (bxC A B d i j):=by
 have hp:(0:Int) < ((2 ^ (24 - d):Nat):Int):=by have:=Nat.two_pow_pos (24 - d); omega
 unfold pB bxC
 constructor <;> dsimp only <;> omega
structure CellF (cx cy d s:Nat) (A B most:Int) (i j:Nat) (u v:Int) (l:Nat):Prop where
 px:Pt (ptC cx cy d i j).1 d (A + j)
 py:Pt (ptC cx cy d i j).2 d (B + i)
 bx:Bd 8 (ptC cx cy d i j).1
 by1:Bd 8 (ptC cx cy d i j).2
 sm:smC (ptC cx cy d i j).1 (ptC cx cy d i j).2 most=smT cx cy d most i j
 low:lowT (A + j) (B + i) d=(u,v,l)
 val:dyadB u v l=true
 l24:l ≤ 24
 re:u * (2 ^ (24 - l):Nat)=cA A d j
 im:v * (2 ^ (24 - l):Nat)=cA B d i
 ok:boxOK (cA A d j) (cA A d j) (cA B d i) (cA B d i)=true
 st:stT A B d most i j ≠ 0 → stB (pB A B d i j) (mostN most).toNat=stT A B d most i j
 no:stT A B d most i j=1 → ∀ L,OrbD (dv u l) (dv v l) L → L.length ≤ 40 → ∀ r,r ∈ L → normS r.1 r.2.1 r.2.2 ≤ 0
theorem low_step {X:Int} {d l:Nat} {u:Int} (hl:l ≤ d) (hd:d ≤ 24) (h:u * (2 ^ (d - l):Nat)=X):u * (2 ^ (24 - l):Nat)=X * (2 ^ (24 - d):Nat):=by
 rw [← h,Int.mul_assoc,← Int.natCast_mul,← Nat.pow_add,show d - l + (24 - d)=24 - l from by omega]
theorem dv_step {u p:Int} {l:Nat} (hl:l ≤ 24) (h:u * (2 ^ (24 - l):Nat)=p):(p:Rat)=16777216 * dv u l:=by
 have e:=dv_up u l (24 - l)
 rw [show l + (24 - l)=24 from by omega,h] at e
 rw [← e]
 unfold dv
 have e24:((2 ^ 24:Nat):Rat)=16777216:=rfl
 rw [e24]
 grind
theorem cellF {cx cy d s:Nat} {A B most:Int} (h:MkT cx cy d s A B) (hm:(mostN most).toNat ≤ 31) {i j:Nat} (hi:i < s) (hj:j < s):∃ u v l,CellF cx cy d s A B most i j u v l:=by
 have d10:=h.d10
 have s8:=h.s8
 have p10:2 ^ d ≤ 2 ^ 10:=Nat.pow_le_pow_right (by decide) d10
 have ha:=h.ha
 have hb:=h.hb
 have ga:=h.ga
 have gb:=h.gb
 obtain ⟨_,_,_,q1⟩:=ptF_is (by omega) h.px (by omega) (j:Int) (by omega)
 obtain ⟨_,_,_,q2⟩:=ptF_is (by omega) h.py (by omega) (i:Int) (by omega)
 have f1:=ptF_fx (by omega) h.px (by omega) (j:Int) (by omega)
 have f2:=ptF_fx (by omega) h.py (by omega) (i:Int) (by omega)
 have e1:(ptC cx cy d i j).1=ptF cx d j:=by unfold ptC; rw [Int.toNat_natCast]
 have e2:(ptC cx cy d i j).2=ptF cy d i:=by unfold ptC; rw [Int.toNat_natCast]
 obtain ⟨u,v,l,hl⟩:∃ u v l,lowT (A + j) (B + i) d=(u,v,l):=⟨_,_,_,rfl⟩
 have hi':=lowT_is (A + j) (B + i) d
 have hv:=low_valid (X:=A + j) (Y:=B + i) (d:=d) (by omega) (by omega) (by omega)
 rw [hl] at hi' hv
 obtain ⟨k1,k2,k3,-,-,-⟩:=hi'
 dsimp only at k1 k2 k3 hv
 have r1:=low_step k1 (by omega) k2
 have r2:=low_step k1 (by omega) k3
 have bok:=mk_ok2 h hi hj
 have pok:(pB A B d i j).ok=true:=(pB_sub A B d i j).ok bok
 refine ⟨u,v,l,by rw [e1]; exact q1,by rw [e2]; exact q2,by rw [e1]; exact pt_bd (by omega) q1 (by omega),by rw [e2]; exact pt_bd (by omega) q2 (by omega),?_,hl,hv,by omega,r1,r2,pok,fun hne => ?_,fun h1 L hL hl40 r hr => ?_⟩
 · rw [e1,e2,f1,f2]
   rfl
 · exact (pB_sub A B d i j).state bok hm hne
 · obtain ⟨k,hk,rfl⟩:=List.getElem_of_mem hr
   obtain ⟨g1,g2,g3⟩:=hL k L[k] (List.getElem?_eq_getElem hk)
   have hb':=Bx.bd bok
   have hsub:=pB_sub A B d i j
   have hin:Cov.Inn (cA A d j) (cA B d i):=by
     have hs:cardB (bxC A B d i j) ≤ 0 ∨ discB (bxC A B d i j) ≤ 0:=by
       unfold stT stB at h1
       by_cases hc:cardB (bxC A B d i j) ≤ 0 ∨ discB (bxC A B d i j) ≤ 0
       · exact hc
       · rw [if_neg hc] at h1
         split at h1 <;> omega
     exact hs.elim (fun g => card_inn hsub.a hsub.b hsub.c hsub.d g) (fun g => disc_inn hsub.a hsub.b hsub.c hsub.d g)
   have hf:=Cov.fine_of_inn (px:=cA A d j) (py:=cA B d i) (by have:=hsub.a; exact Int.le_trans hb'.1 this) (by have:=hsub.b; exact Int.le_trans this hb'.2.2.1) (by have:=hsub.c; exact Int.le_trans hb'.2.2.2.1 this) (by have:=hsub.d; exact Int.le_trans this hb'.2.2.2.2.2) hin
   exact norm_of hf (by omega) (dv_step (by omega) r1) (dv_step (by omega) r2) g2 g3
end Go.Proofs.YthhfljldbfgpcaaGreatDoor
end

section
namespace Go.Proofs.YthhfljldbfgpcaaGreatDoor
open Go.RowKit
theorem Rd.own {w0:World} {b p:Nat} {W:World} (h:Rd w0 b p W):w0.heap.size ≤ b ∧ b < W.heap.size:=by
 obtain ⟨_,_,_,h,_,h2,_⟩:=h; exact ⟨h2,h.lt⟩
end Go.Proofs.YthhfljldbfgpcaaGreatDoor
end

section
namespace Go.Proofs.YthhfljldbfgpcaaGreatDoor
open Go.RowKit
structure Kw (w:World) where
 W:World
 h:Below w.heap.size w W
instance (w:World):Inhabited (Kw w):=⟨⟨w,Below.refl _ _⟩⟩
def Kw.step {w:World} (s:Kw w) {w':World} (k:Below s.W.heap.size s.W w'):Kw w:=⟨w',s.h.trans (k.mono s.h.size)⟩
theorem wp_region_kept {P:Program} {id:Nat} {Q:Exit → Act → World → Prop} {a:Act} {w:World} {l:List Oper} (hm:P.follows .mixedOrders=true) (hB:Region.lexB .any l.toArray=true)
   (h:wpQuiet P l.toArray (fun w' => ∃ s:Kw w,w'=s.W) (fun a' => ∀ w',(∃ s:Kw w,w'=s.W) → Q .normal a' w') l a):(Code.region id l.toArray true).wp P Q a w :=
 wp_region_quiet (C:=fun w' => ∃ s:Kw w,w'=s.W) hm hB ⟨⟨w.drew,(Below.refl _ _).drew⟩,rfl⟩ (by simpa using h)
end Go.Proofs.YthhfljldbfgpcaaGreatDoor
end

section
namespace Go.Proofs.YthhfljldbfgpcaaGreatDoor
open Go.RowKit Flo
attribute [local go_sem ↓] Go.wp_at_zero Go.wp_at_succ
attribute [local go_sem] run_store_float run_store_complex
def MakeDrawn (w:World) (e:Ending) (w':World):Prop:=(∃ (x y:Nat) (d s m:Int),e=.returned (.tuple #[.complex .f32 x y,.int .i64 d,.int .i64 s,.int .i64 m]) ∧ x < 4294967296 ∧ y < 4294967296 ∧ 1 ≤ m ∧ m ≤ 31) ∧ Below w.heap.size w w'
set_option maxHeartbeats 4000000 in
theorem drawMake_any (a:Option Addr) (c:Nat) (bs:List UInt8) (hn:bs.length ≤ 1048576) (hc:bs.length ≤ c) (w:World) (hs:Sl w a (bs.map byteV)) :
   Calls Vp.prog 4 #[.slice a bs.length c] w (MakeDrawn w):=by
 have H:=Lib.hid (open_any a c bs hn hc w hs)
 clear hs
 go_enter Vp.func4,Tryz.ntmps4
 go_wp2_with fail
 refine H.out.mono ?_
 rintro e w1 ⟨b,rfl,-,hR⟩
 go_wp2_with fail
 refine (place_any w b 0 (by omega) _ hR).mono ?_
 rintro e w2 ⟨⟨x,y,d,s,m,rfl,hx,hy,h1,h2⟩,⟨p0,hp0,hR2⟩,-⟩
 have HB:=Lib.hid hR2.below
 have HF:=Lib.hid (And.intro hx (And.intro hy (And.intro h1 h2)))
 clear hR hR2 hx hy h1 h2 H
 go_wp2
 exact bodyPost_ret (v:=.tuple #[.complex .f32 x y,.int .i64 d,.int .i64 s,.int .i64 m]) (by simp [results,Tryz.f4,go_sem]) rfl ⟨⟨x,y,d,s,m,rfl,HF.out⟩,HB.out⟩
theorem widen_pt' {x y d:Nat} {a b:Int} (hd:d ≤ 11) (hx:Pt x d a) (hy:Pt y d b) (w:World) :
   Calls Vp.prog 10 #[.complex .f32 x y] w fun e w' => (∃ p q,e=.returned (.complex .f64 p q) ∧ Val Ieee.double p (a * (2 ^ (u64 - d):Nat)) ∧ Val Ieee.double q (b * (2 ^ (u64 - d):Nat))) ∧ Below w.heap.size w w':=by
 refine (implWiden_val hx hy w).mono ?_
 rintro e w1 ⟨⟨p,q,rfl,h1,h2⟩,hd1⟩
 have pt_wide:∀ n:Int,n * (2 ^ (u32 - d):Nat) * (2 ^ wup:Nat)=n * (2 ^ (u64 - d):Nat):=fun n => by
   rw [Int.mul_assoc,← Int.natCast_mul,← Nat.pow_add,show u32 - d + wup=u64 - d by rw [u32_eq,wup_eq,u64_eq]; omega]
 rw [pt_wide] at h1 h2
 exact ⟨⟨p,q,rfl,h1,h2⟩,hd1.below _⟩
structure CellC (cx cy d s:Nat) (A B most:Int) (i j:Nat) (u v:Int) (l:Nat) (w:World):Prop where
 wid:∀ W,Below w.heap.size w W → Calls Vp.prog 10 #[.complex .f32 (ptC cx cy d i j).1 (ptC cx cy d i j).2] W fun e w' => (∃ p q,e=.returned (.complex .f64 p q) ∧ ∀ W',Below w.heap.size w W' → Calls Vp.prog 9 #[.complex .f64 p q] W' fun e w' => e=.returned (.tuple #[.agg #[.int .i64 u,.int .i64 v,.int .i64 l],.bool true]) ∧ Below W'.heap.size W' w') ∧ Below W.heap.size W w'
theorem cellC {cx cy d s:Nat} {A B most:Int} {i j:Nat} {u v:Int} {l:Nat} {w:World} (h:CellF cx cy d s A B most i j u v l) (hM:MkT cx cy d s A B) (hi:i < s) (hj:j < s) (hT:Tab w):CellC cx cy d s A B most i j u v l w:=by
 have d10:=hM.d10
 have p10:2 ^ d ≤ 2 ^ 10:=Nat.pow_le_pow_right (by decide) d10
 have ha:=hM.ha
 have hb:=hM.hb
 have s8:=hM.s8
 refine ⟨fun W hW => (widen_pt' (by omega) h.px h.py W).mono ?_⟩
 rintro e w1 ⟨⟨p,q,rfl,h1,h2⟩,hb1⟩
 refine ⟨⟨p,q,rfl,fun W' hW' => ?_⟩,hb1⟩
 have:=dyadOf_is (by omega) (by omega) (by omega) h1 h2 W' (hT.step hW')
 rw [h.low] at this
 exact this
end Go.Proofs.YthhfljldbfgpcaaGreatDoor
end

section
namespace Go.Proofs.YthhfljldbfgpcaaGreatDoor
open Go.RowKit Flo
attribute [local go_sem ↓] Go.wp_at_zero Go.wp_at_succ
attribute [local go_sem] run_store_float run_store_complex
theorem OneRes.parts {w w':World} {cx cy:Nat} {deep size most:Int} {e:Ending} (h:OneRes w cx cy deep size most e w') :
   (¬ MkP cx cy deep size ∧ e=.returned (.tuple #[.agg #[.complex .f32 0 0,.int .i64 0,.int .i64 0,.slice none 0 0,.slice none 0 0],.bool false]) ∧ Below w.heap.size w w') ∨
   (∃ t:TRec,e=.returned (.tuple #[.agg #[.complex .f32 t.cx t.cy,.int .i64 t.deep,.int .i64 t.size,.slice (some ⟨t.gs,0,none⟩) t.n t.cs,.slice (some ⟨t.gm,0,none⟩) t.n t.cm],.bool true]) ∧ Below w.heap.size w w' ∧ TOwn w.heap.size t w' ∧ TGood most t ∧ t.cx=cx ∧ t.cy=cy ∧ t.deep=deep ∧ t.size=size ∧ MkP cx cy deep size):=by
 obtain ⟨⟨x,y,d,s,a1,n1,c1,a2,n2,c2,ok,rfl,hM⟩,hb⟩:=h
 cases ok with
 | false =>
   obtain ⟨hno,e⟩:=hM.1 rfl
   rw [e]
   exact .inl ⟨hno,rfl,hb⟩
 | true =>
   obtain ⟨t,e1,e2,e3,e4,e,ht,hg⟩:=hM.2 rfl
   rw [e]
   refine .inr ⟨t,rfl,hb,ht,hg,e1,e2,e3,e4,?_⟩
   obtain ⟨d',s',a,b,g1,g2,g3,-,-⟩:=hg
   exact ⟨d',s',a,b,by omega,by omega,by rw [← e1,← e2]; exact g3⟩
set_option maxRecDepth 100000 in
set_option maxHeartbeats 16000000 in
theorem FnTile_walk (w:World) (hT:Tab w) (a:Option Addr) (c:Nat) (bs:List UInt8) (_:bs.length ≤ maxLen) (hc:bs.length ≤ c) (hs:Sl w a (bs.map byteV)) :
   Calls Vp.prog 3 #[.slice a bs.length c] w fun e _ => e=.returned (.bool true):=by
 by_cases hb:1048576 < bs.length
 · clear hT hs
   go_enter Vp.func3,Tryz.ntmps3
   go_wp2
   go_ret
   rfl
 have H:=Lib.hid (drawMake_any a c bs (by omega) hc w hs)
 have HT:=Lib.hid hT
 clear hs hT
 go_enter Vp.func3,Tryz.ntmps3
 go_wp2_with fail
 refine H.out.mono ?_
 rintro e w1 ⟨⟨cx,cy,deep,size,most,rfl,hx,hy,m0,m1⟩,hb1⟩
 have HT1:=Lib.hid (HT.out.step hb1)
 have HMM:Hid ((mostN most).toNat ≤ 31):=by unfold mostN; show _ ≤ _; omega
 have HSP:=Lib.hid (fun W => specMakeC cx cy deep size most hx hy W)
 clear H hb1 HT
 go_wp2_with fail
 refine (implMakeC cx cy deep size most hx hy _).mono ?_
 intro e w2 h2
 obtain ⟨hno,rfl,hb2⟩ | ⟨t,rfl,hb2,ht,hg,ex,ey,ed,es,hmk⟩:=h2.parts
 · 
   have HNO:=Lib.hid hno
   have X:=(Box.new w2 #[.complex .f32 0 0,.int .i64 0,.int .i64 0,.slice none 0 0,.slice none 0 0] 29)
   obtain ⟨x0,x1,x2,x3,x4⟩:=X.cells5
   have HX:=Lib.hid X
   clear h2 hno X m0 m1 hx hy HT1
   go_wp2_with fail
   refine (HSP.out _).mono ?_
   intro e w3 h3
   obtain ⟨-,rfl,hb3⟩ | ⟨u,rfl,-,-,-,-,-,-,-,hmk⟩:=h3.parts
   · have Y:=Lib.hid ((HX.out.step hb3).alloc (.cells #[.complex .f32 0 0,.int .i64 0,.int .i64 0,.slice none 0 0,.slice none 0 0] 29))
     clear x0 x1 x2 x3 x4
     obtain ⟨x0,x1,x2,x3,x4⟩:=Y.out.cells5
     have YY:=Box.new w3 #[.complex .f32 0 0,.int .i64 0,.int .i64 0,.slice none 0 0,.slice none 0 0] 29
     obtain ⟨y0,y1,y2,y3,y4⟩:=YY.cells5
     have HS:=Lib.hid sameTile_zero
     have HY:=Lib.hid YY
     clear h3 hb3 HX YY
     go_wp2_with fail
     refine (HS.out _).mono ?_
     rintro e w4 ⟨rfl,hb4⟩
     clear x0 x1 x2 x3 x4 y0 y1 y2 y3 y4
     obtain ⟨x0,x1,x2,x3,x4⟩:=(Y.out.step hb4).cells5
     obtain ⟨y0,y1,y2,y3,y4⟩:=(HY.out.step hb4).cells5
     go_wp2_with fail
     refine (HS.out _).mono ?_
     rintro e w5 ⟨rfl,-⟩
     go_wp2
     go_ret
     rfl
   · exact absurd hmk HNO.out
 · have HG:=Lib.hid hg
   have HMK:=Lib.hid hmk
   have HEX:=Lib.hid (And.intro ex (And.intro ey (And.intro ed es)))
   have X:=(Box.new w2 #[.complex .f32 t.cx t.cy,.int .i64 t.deep,.int .i64 t.size,.slice (some ⟨t.gs,0,none⟩) t.n t.cs,.slice (some ⟨t.gm,0,none⟩) t.n t.cm] 29)
   obtain ⟨x0,x1,x2,x3,x4⟩:=X.cells5
   have HX:=Lib.hid X
   have HTT:=Lib.hid (ht.step ((Below.refl _ _).alloc (Nat.le_refl _) (.cells #[.complex .f32 t.cx t.cy,.int .i64 t.deep,.int .i64 t.size,.slice (some ⟨t.gs,0,none⟩) t.n t.cs,.slice (some ⟨t.gm,0,none⟩) t.n t.cm] 29)))
   have HT2:=Lib.hid ((HT1.out.step hb2).step ((Below.refl _ _).alloc (Nat.le_refl _) (.cells #[.complex .f32 t.cx t.cy,.int .i64 t.deep,.int .i64 t.size,.slice (some ⟨t.gs,0,none⟩) t.n t.cs,.slice (some ⟨t.gm,0,none⟩) t.n t.cm] 29)))
   clear h2 X ht hg hmk hb2 HT1 ex ey ed es m0 m1 hx hy
   go_wp2_with fail
   refine (HSP.out _).mono ?_
   intro e w3 h3
   obtain ⟨hno,-,-⟩ | ⟨u,rfl,hb3,hu,hgu,ux,uy,ud,us,-⟩:=h3.parts
   · exact absurd HMK.out hno
   · have Y:=Lib.hid ((HX.out.step hb3).alloc (.cells #[.complex .f32 u.cx u.cy,.int .i64 u.deep,.int .i64 u.size,.slice (some ⟨u.gs,0,none⟩) u.n u.cs,.slice (some ⟨u.gm,0,none⟩) u.n u.cm] 29))
     have YY:=Lib.hid (Box.new w3 #[.complex .f32 u.cx u.cy,.int .i64 u.deep,.int .i64 u.size,.slice (some ⟨u.gs,0,none⟩) u.n u.cs,.slice (some ⟨u.gm,0,none⟩) u.n u.cm] 29)
     clear x0 x1 x2 x3 x4
     obtain ⟨x0,x1,x2,x3,x4⟩:=Y.out.cells5
     obtain ⟨y0,y1,y2,y3,y4⟩:=YY.out.cells5
     have k:Below w3.heap.size w3 (w3.alloc (.cells #[.complex .f32 u.cx u.cy,.int .i64 u.deep,.int .i64 u.size,.slice (some ⟨u.gs,0,none⟩) u.n u.cs,.slice (some ⟨u.gm,0,none⟩) u.n u.cm] 29)):=(Below.refl _ _).alloc (Nat.le_refl _) _
     have HTT2:=Lib.hid ((HTT.out.step hb3).step k)
     have HU2:=Lib.hid (hu.step k)
     have HT3:=Lib.hid ((HT2.out.step hb3).step k)
     have HS1:=Lib.hid (sameRecs HTT2.out HU2.out HG.out hgu (HEX.out.1.trans ux.symm) (HEX.out.2.1.trans uy.symm) (HEX.out.2.2.1.trans ud.symm) (HEX.out.2.2.2.trans us.symm))
     clear h3 hb3 hu hgu ux uy ud us k HTT HT2 HX
     go_wp2_with fail
     refine HS1.out.mono ?_
     rintro e w4 ⟨rfl,hb4⟩
     have HX4:=Lib.hid (Y.out.step hb4)
     have HT4:=Lib.hid (HT3.out.step hb4)
     have HO4:=Lib.hid (HTT2.out.step hb4)
     clear x0 x1 x2 x3 x4 y0 y1 y2 y3 y4 hb4 HS1 Y YY HTT2 HU2 HT3
     generalize w2.heap.size=xb at *
     obtain ⟨ex,ey,ed,es⟩:=HEX.out
     obtain ⟨tcx,tcy,tdeep,tsize,gs,cs,gm,cm,txs,tys⟩:=t
     dsimp only at ex ey ed es
     subst ex ey ed es
     obtain ⟨d,s,A,B,hd,hs,hM,hxs,hys⟩:=HG.out
     dsimp only at hd hs hM hxs hys
     subst hd hs
     have hn:(TRec.mk tcx tcy (d:Int) (s:Int) gs cs gm cm txs tys).n=s * s:=by unfold TRec.n; simp
     rw [hn] at HX4
     dsimp only at HX4
     have HMT:=Lib.hid hM
     have HXS:=Lib.hid hxs
     have HYS:=Lib.hid hys
     have HWL:Hid (wellB (s:Int) (s * s) tys=true):=by
       have:=HO4.out.well HG.out
       rw [HO4.out.lens.1,hn] at this
       exact this
     have HLY:Hid (tys.length=s * s):=by show _=_; rw [hys,rowsOf_len]
     have HLX:Hid (txs.length=s * s):=by show _=_; rw [hxs,rowsOf_len]
     have HSX:Hid (Sl w4 (some ⟨gs,0,none⟩) (txs.map floV)):=sl_of_own HO4.out.made.S
     have HSY:Hid (Sl w4 (some ⟨gm,0,none⟩) (tys.map intV)):=sl_of_own HO4.out.made.M
     have HXB:Hid (∀ x,x ∈ txs → x < 4294967296):=HO4.out.made.hx
     have HPL:Hid (placeB tcx tcy (d:Int) (s:Int)=true):=HO4.out.pl
     have HBX:=Lib.hid HO4.out.bx
     have HBY:=Lib.hid HO4.out.by1
     dsimp only at HBX HBY
     have hs8:=hM.s8
     have hs1:=hM.s1
     have hss:s * s ≤ 64:=Nat.mul_le_mul hs8 hs8
     clear hM hxs hys HO4 HG HEX HMK HSP hn
     obtain ⟨nn,hnn⟩:∃ nn,nn=s * s:=⟨_,rfl⟩
     rw [← hnn] at HX4 HWL HLY HLX hss
     have HNN:=Lib.hid hnn
     obtain ⟨x0,x1,x2,x3,x4⟩:=HX4.out.cells5
     clear hnn
     go_wp2
     clear x0 x1 x2 x3 x4
     go_loopw [11] (fun i wr => ∃ k:Nat,k ≤ s ∧ i=.int .i64 k ∧ Hid (Below w4.heap.size w4 wr)) (fun i _ => (s - intOf i).toNat)
     case atStart => exact ⟨0,by omega,rfl,Below.refl _ _⟩
     case round =>
       obtain ⟨k,hk,rfl,HB⟩:=hrel
       by_cases hks:k < s
       · go_wp2
         go_loopw [12] (fun j wx => ∃ l:Nat,l ≤ s ∧ j=.int .i64 l ∧ Hid (Below w4.heap.size w4 wx)) (fun j _ => (s - intOf j).toNat)
         case atStart => exact ⟨0,by omega,rfl,HB⟩
         case round =>
           clear HB
           obtain ⟨l,hl,rfl,HB⟩:=hrel
           by_cases hls:l < s
           · obtain ⟨u,v,m,hc⟩:=cellF HMT.out HMM.out hks hls
             have HC:=Lib.hid hc
             have HCC:=(cellC hc HMT.out hks hls (HT4.out.step HB.out)).wid
             have TP:=implTPoint_good tcx tcy (d:Int) (s:Int) HBX.out HBY.out HPL.out (some ⟨gs,0,none⟩) (some ⟨gm,0,none⟩) nn cs cm tys (by rw [HLY.out]; omega) (k:Int) (l:Int) (by omega) (by omega) (by omega) (by omega) wr (HSY.out.step HB.out) HWL.out
             rw [HLY.out] at TP
             have SM:=fun w => implSmooth_is _ _ most hc.bx hc.by1 w
             rw [hc.sm] at SM
             obtain ⟨zx,hzx⟩:∃ zx,(ptC tcx tcy d k l).1=zx:=⟨_,rfl⟩
             obtain ⟨zy,hzy⟩:∃ zy,(ptC tcx tcy d k l).2=zy:=⟨_,rfl⟩
             rw [hzx,hzy] at HCC TP SM
             replace TP:=Lib.hid TP
             replace HCC:=Lib.hid HCC
             obtain ⟨x0,x1,x2,x3,x4⟩:=(HX4.out.step HB.out).cells5
             have hrow:(rowsOf s (smT tcx tcy d most) s)[k * s + l]?=some (smT tcx tcy d most k l):=rowsOf_at s _ s k l hks hls
             have hrow2:(rowsOf s (stT A B d most) s)[k * s + l]?=some (stT A B d most k l):=rowsOf_at s _ s k l hks hls
             rw [← HXS.out] at hrow
             rw [← HYS.out] at hrow2
             have hidx:k * s + l < nn:=by rw [← HLY.out]; exact (List.getElem?_eq_some_iff.1 hrow2).1
             have hxlt:smT tcx tcy d most k l < 4294967296:=HXB.out _ (List.mem_of_getElem? hrow)
             obtain ⟨sv,hsv⟩:∃ sv,smT tcx tcy d most k l=sv:=⟨_,rfl⟩
             obtain ⟨mk,hmk⟩:∃ mk,stT A B d most k l=mk:=⟨_,rfl⟩
             rw [hsv] at SM hrow hxlt
             rw [hmk] at hrow2
             have HMK:=Lib.hid hmk
             replace SM:=Lib.hid SM
             have HX1:Hid ((txs.map floV)[k * s + l]?=some (.float .f32 sv)):=by show _=_; rw [List.getElem?_map,hrow]; rfl
             have HY1:Hid ((tys.map intV)[k * s + l]?=some (.int .i64 mk)):=by show _=_; rw [List.getElem?_map,hrow2]; rfl
             have HXL:=Lib.hid hxlt
             have wm:IntKind.i64.wrap ((k:Int) * s)=((k * s:Nat):Int):=by rw [IntWalk.i64_in _ (by have:k * s ≤ 8 * 8:=Nat.mul_le_mul (by omega) (by omega); have e:(k:Int) * s=((k * s:Nat):Int):=(by simp); omega)]; simp
             obtain ⟨ks,hks2⟩:∃ ks,k * s=ks:=⟨_,rfl⟩
             rw [hks2] at wm HX1 HY1 hidx
             have wa:IntKind.i64.wrap ((ks:Int) + l)=((ks + l:Nat):Int):=by rw [IntWalk.i64_in _ (by omega)]; simp
             obtain ⟨idx,hix⟩:∃ idx,ks + l=idx:=⟨_,rfl⟩
             rw [hix] at wa HX1 HY1 hidx
             have WM:=Lib.hid wm
             have WA:=Lib.hid wa
             clear hrow hrow2 hxlt hc hzx hzy hsv hmk hix hks2 wm wa
             go_wp2_with fail
             refine TP.out.mono ?_
             rintro e w5 ⟨rfl,hb5⟩
             have HB5:=Lib.hid hb5
             clear x0 x1 x2 x3 x4 hb5 TP
             go_wp2_with fail
             refine (HCC.out _ HB5.out).mono ?_
             rintro e w6 ⟨⟨p,q,rfl,hdy⟩,hb6⟩
             have HB6:=Lib.hid (HB5.out.trans (hb6.mono HB5.out.size))
             have HDY:=Lib.hid hdy
             clear hb6 hdy HCC
             go_wp2_with fail
             refine (HDY.out _ HB6.out).mono ?_
             rintro e w7 ⟨rfl,hb7⟩
             have HB7:=Lib.hid ((HB.out.trans ((HB6.out.trans (hb7.mono HB6.out.size)).mono HB.out.size)).alloc (Nat.le_trans HB.out.size (HB6.out.trans (hb7.mono HB6.out.size)).size) (.cells #[.int .i64 u,.int .i64 v,.int .i64 m] 36))
             have HD7:=Lib.hid (Box.new w7 #[.int .i64 u,.int .i64 v,.int .i64 m] 36)
             clear hb7 HDY HB6 HB5
             go_upto_region 16 with fail
             generalize w7.heap.size=db at *
             generalize w7.alloc (.cells #[.int .i64 u,.int .i64 v,.int .i64 m] 36)=W8 at *
             have a3:∀ sx:Kw W8,sx.W.cell? ⟨xb,3,none⟩=some (.slice (some ⟨gs,0,none⟩) nn cs):=fun sx => ((HX4.out.step HB7.out).step sx.h).cells5.2.2.2.1
             have a5:∀ sx:Kw W8,sx.W.cell? ⟨gs,idx,none⟩=some (.float .f32 sv):=fun sx => by
               obtain ⟨b1,o1,e1,hc1⟩:=((HSX.out.step HB7.out).step sx.h).at HX1.out
               injection e1 with e1
               injection e1 with e1 e2 e3
               subst e1 e2
               rw [Nat.zero_add] at hc1
               exact hc1
             have CS:Hid (∀ sx:Kw W8,Calls Vp.prog 12 #[.complex .f32 zx zy,.int .i64 most] sx.W fun e w' => e=.returned (.float .f32 sv) ∧ ∃ s':Kw W8,w'=s'.W):=fun sx => by
               refine (SM.out _).mono ?_
               rintro e w' ⟨rfl,hd⟩
               exact ⟨rfl,sx.step hd,rfl⟩
             have CE:Hid (∀ sx:Kw W8,Calls Vp.prog 11 #[.float .f32 sv,.float .f32 sv] sx.W fun e w' => e=.returned (.bool true) ∧ ∃ s':Kw W8,w'=s'.W):=fun sx => by
               refine (sameSmall_self sv HXL.out _).mono ?_
               rintro e w' ⟨rfl,hd⟩
               exact ⟨rfl,sx.step (hd.below _),rfl⟩
             have wm:=WM.out
             have wa:=WA.out
             have i1:(idx:Int) < nn:=by omega
             have i0:(0:Int) ≤ idx:=by omega
             refine wp_region_kept (by kernel_rfl) (by kernel_rfl) ?_
             repeat (go_big_quiet_step (first | (go_at_call 12; exact CS.out _) | (go_at_call 11; exact CE.out _)))
             refine wpQuiet_nil ?_
             rintro _ ⟨sq,rfl⟩
             have HB8:=Lib.hid (HB7.out.trans (sq.h.mono HB7.out.size))
             have HD8:=Lib.hid (HD7.out.step sq.h)
             clear a3 a5 CS CE wm wa SM HX1
             generalize sq.W=w8 at *
             obtain ⟨d0,d1,d2⟩:=HD8.out.cells3
             have HST:=Lib.hid (fun w => dyadState_is u v _ _ most m HC.out.val HC.out.l24 HC.out.re HC.out.im HC.out.ok w)
             obtain ⟨stv,hstv⟩:∃ stv,stB (pB A B d k l) (mostN most).toNat=stv:=⟨_,rfl⟩
             have HSM:Hid (mk ≠ 0 → stv=mk):=fun h => by rw [← hstv,← HMK.out]; exact HC.out.st (by rw [HMK.out]; exact h)
             have hst2:stB ⟨cA A d l,cA A d l,cA B d k,cA B d k⟩ (mostN most).toNat=stv:=hstv
             rw [hst2] at HST
             clear hstv hst2 HB7 HD7
             go_wp2_with fail
             refine (HST.out _).mono ?_
             rintro e w9 ⟨rfl,hb9⟩
             have HB9:=Lib.hid (HB8.out.trans (hb9.mono HB8.out.size))
             have HD9:=Lib.hid (HD8.out.step hb9)
             clear d0 d1 d2 hb9 HB8 HD8 HST
             obtain ⟨x0,x1,x2,x3,x4⟩:=(HX4.out.step HB9.out).cells5
             have a5:w9.cell? ⟨gm,idx,none⟩=some (.int .i64 mk):=by
               obtain ⟨b1,o1,e1,hc1⟩:=(HSY.out.step HB9.out).at HY1.out
               injection e1 with e1
               injection e1 with e1 e2 e3
               subst e1 e2
               rw [Nat.zero_add] at hc1
               exact hc1
             have wm:=WM.out
             have wa:=WA.out
             obtain ⟨d0,d1,d2⟩:=HD9.out.cells3
             have HOR:=Lib.hid (dyadOrbit_is u v m HC.out.val w9)
             have HNO:Hid (mk=1 → ∀ L,OrbD (dv u m) (dv v m) L → L.length ≤ 40 → ∀ r,r ∈ L → normS r.1 r.2.1 r.2.2 ≤ 0):=fun h => HC.out.no (by rw [HMK.out]; exact h)
             have hcond:(mk != 0)=false ∨ (mk ≠ 0 ∧ stv=mk):=by
               by_cases h:mk=0
               · exact .inl (by simp [h])
               · exact .inr ⟨h,HSM.out h⟩
             clear HSM HY1 HC
             go_upto_region 20 with fail
             clear wm wa a5
             go_cut [142] from 132 to 143 (fun p wx => p=.bool false ∧ wx=w9)
             case first =>
               rcases hcond with h | ⟨h,rfl⟩
               · go_wp2
                 go_meet
                 exact ⟨rfl,rfl⟩
               · go_wp2
                 go_meet
                 exact ⟨rfl,rfl⟩
             case rest =>
               obtain ⟨rfl,rfl⟩:=hcut
               clear hcond x0 x1 x2 x3 x4
               go_wp2_with fail
               refine HOR.out.mono ?_
               rintro e w10 ⟨⟨L,g,cap,rfl,hL40,hrw,hL⟩,hb10⟩
               have HB10:=Lib.hid (HB9.out.trans (hb10.mono HB9.out.size))
               have HRW:=Lib.hid hrw
               have HLL:=Lib.hid hL
               have HL4:=Lib.hid hL40
               clear d0 d1 d2 hb10 hrw hL HOR HB9 HD9
               obtain ⟨ll,hll⟩:∃ ll,L.length=ll:=⟨_,rfl⟩
               rw [hll] at HRW ⊢
               have HLE:=Lib.hid hll
               clear hll hL40
               have hl4:ll ≤ 40:=by have:=HL4.out; have:=HLE.out; omega
               go_wp2
               go_loopw [22] (fun i wy => ∃ n:Nat,n ≤ ll ∧ i=.int .i64 n ∧ Hid (Below w10.heap.size w10 wy)) (fun i _ => (ll - intOf i).toNat)
               case atStart => exact ⟨0,by omega,rfl,Below.refl _ _⟩
               case round =>
                 obtain ⟨n,hn,rfl,HBY⟩:=hrel
                 by_cases hlt:n < ll
                 · obtain ⟨r,hr⟩:∃ r,L[n]?=some r:=⟨_,List.getElem?_eq_getElem (by have:=HLE.out; omega)⟩
                   obtain ⟨v1,v2,v3⟩:=HLL.out n r hr
                   have hmem:=List.mem_of_getElem? hr
                   have HNR:Hid (mk=1 → normS r.1 r.2.1 r.2.2 ≤ 0):=fun h => HNO.out h L HLL.out HL4.out r hmem
                   obtain ⟨c0,c1,c2⟩:wr.cell? ⟨g,n * 3,none⟩=some (.int .i64 r.1) ∧ wr.cell? ⟨g,n * 3 + 1,none⟩=some (.int .i64 r.2.1) ∧ wr.cell? ⟨g,n * 3 + 2,none⟩=some (.int .i64 r.2.2):=by
                     have hq:=ownsRow_step HRW.out HBY.out
                     have at_:∀ j x,j < 3 → (D3.cells r)[j]?=some x → wr.cell? ⟨g,n * 3 + j,none⟩=some x:=fun j x hj hx => by
                       rw [hq.cellAt (n * 3 + j) (by omega)]
                       exact cellsD_at L n j r x hr hx
                     exact ⟨at_ 0 _ (by omega) rfl,at_ 1 _ (by omega) rfl,at_ 2 _ (by omega) rfl⟩
                   have HNM:=Lib.hid (fun w => dyadNorm_is r.1 r.2.1 r.2.2 v1 w)
                   obtain ⟨ns,hns⟩:∃ ns,normS r.1 r.2.1 r.2.2=ns:=⟨_,rfl⟩
                   rw [hns] at HNM HNR
                   clear v1 v2 v3 hmem hns hr
                   have i1:(n:Int) < ll:=by omega
                   have i0:(0:Int) ≤ n:=by omega
                   go_wp2_with fail
                   refine (HNM.out _).mono ?_
                   rintro e w11 ⟨rfl,hb11⟩
                   have HBY2:=Lib.hid (HBY.out.trans (hb11.mono HBY.out.size))
                   clear c0 c1 c2 hb11
                   by_cases hm1:mk=1
                   · have hle:=HNR.out hm1
                     have f1:decide ((0:Int) < ns)=false:=by simp; omega
                     have f2:(mk == 1)=true:=by simp [hm1]
                     clear hle hm1
                     go_wp2
                     go_roundw
                     case rel => exact ⟨n + 1,by omega,by go_num,HBY2⟩
                     case measure => simp [intOf]; omega
                   · have f2:(mk == 1)=false:=by simp [hm1]
                     clear hm1
                     go_wp2
                     go_roundw
                     case rel => exact ⟨n + 1,by omega,by go_num,HBY2⟩
                     case measure => simp [intOf]; omega
                 · have HBE:=Lib.hid (HB10.out.trans (HBY.out.mono HB10.out.size))
                   go_wp2
                   go_roundw
                   case rel => exact ⟨l + 1,by omega,by go_num,HBE⟩
                   case measure => simp [intOf]; omega
           · go_wp2
             go_roundw
             case rel => exact ⟨k + 1,by omega,by go_num,HB⟩
             case measure => simp [intOf]; omega
       · 
         have HXE:=HX4.out.step HB.out
         obtain ⟨x0,x1,x2,x3,x4⟩:=HXE.cells5
         have CW:=implWell_is tcx tcy (d:Int) (s:Int) HBX.out HBY.out HPL.out (some ⟨gs,0,none⟩) (some ⟨gm,0,none⟩) nn cs cm tys (by rw [HLY.out]; omega) wr (HSY.out.step HB.out)
         rw [HLY.out,HWL.out] at CW
         replace CW:=Lib.hid CW
         clear HXE
         go_wp2_with fail
         refine CW.out.mono ?_
         rintro e w8 ⟨rfl,-⟩
         go_wp2
         go_ret
         rfl
end Go.Proofs.YthhfljldbfgpcaaGreatDoor
end

section
namespace Go.Proofs.YthhfljldbfgpcaaGreatDoor
open Go.RowKit Go.Conc Go.Proofs.YthhfljldbfgpcaaGreatDoor.Co Go.Proofs.YthhfljldbfgpcaaGreatDoor.Ok Go.Proofs.YthhfljldbfgpcaaGreatDoor.Lr Go.Proofs.YthhfljldbfgpcaaGreatDoor.Tl Go.Proofs.YthhfljldbfgpcaaGreatDoor.Bar
def cutAt (W:World) (b:Nat) (C:Array Value) (t:TypeId) (n:Nat):World:={ W with heap:=W.heap.setIfInBounds b (.cells (C.extract 0 n) t (0,(C.extract 0 n).size)) }
section
variable {W:World} {b off:Nat} {C:Array Value} {t:TypeId} {fr:Nat × Nat} {xs:List Value} (hb:W.heap[b]?=some (.cells C t fr)) (hs:∀ i v,xs[i]?=some v → W.cell? ⟨b,off + i,none⟩=some v)
include hb hs
theorem cut_sl {tV:TypeId}:Sl (cutAt W b C tV (off + xs.length)) (some ⟨b,off,none⟩) xs:=by
 refine .inr ⟨b,off,rfl,fun i v hv => ?_⟩
 have h:=hs i v hv
 have hlt:b < W.heap.size:=(Array.getElem?_eq_some_iff.1 hb).1
 have hi:i < xs.length:=(List.getElem?_eq_some_iff.1 hv).1
 unfold World.cell? at h ⊢
 rw [hb] at h
 have hc:(cutAt W b C tV (off + xs.length)).heap[b]?=some (.cells (C.extract 0 (off + xs.length)) tV (0,(C.extract 0 (off + xs.length)).size)):=by
   unfold cutAt
   simp [hlt]
 rw [hc]
 have h:C[off + i]?=some v:=h
 show (C.extract 0 (off + xs.length))[off + i]?=some v
 rw [Array.getElem?_extract,if_pos (by have:=(Array.getElem?_eq_some_iff.1 h).1; omega),Nat.zero_add]
 exact h
theorem cut_flat {i:Nat} {v:Value} (hi:off ≤ i) (h1:(C.extract 0 (off + xs.length))[i]?=some v):v ∈ xs ∧ C[i]?=some v:=by
 rw [Array.getElem?_extract] at h1
 split at h1
 · rename_i hlt
   rw [Nat.zero_add] at h1
   have hj:i - off < xs.length:=by
     omega
   obtain ⟨u,hu⟩:∃ u,xs[i - off]?=some u:=⟨_,List.getElem?_eq_getElem hj⟩
   have h:=hs (i - off) u hu
   unfold World.cell? at h
   rw [hb] at h
   have h:C[off + (i - off)]?=some u:=h
   rw [Nat.add_sub_cancel' hi,h1] at h
   cases h
   exact ⟨List.mem_of_getElem? hu,h1⟩
 · cases h1
end
abbrev tNo:TypeId:=1000000007
theorem tNo_no:Vp.prog.info? tNo=none:=by kernel_rfl
theorem mvP_one {P:Program} {t:TypeId} (h1:P.cellsOf t=1) (h2:P.bytesOf t=1) (hu:∀ d off,byteOfCell P (d + 1) t off=if off=0 then some 0 else none) (hv:∀ d off,cellOfByte P (d + 1) t off=if off=0 then some 0 else none):∀ n l,mvP P t n l:=by
 intro n l off m off' hl hm h
 have hd:P.depth=2 * (P.types.size + Made.depth) + 1 + 1:=rfl
 unfold cellAtBytes at h
 rw [h1,h2,hd] at h
 simp only [hu,hv,Nat.mod_one,Nat.div_one,Nat.mul_one,if_true] at h
 simp at h
 omega
structure RowOk (cl:List Nat) (f:Nat):Prop where
 chkT:(cl.filter fun f => !(ext.contains f)).all (chk Vp.prog tmL cl [])=true
 chkV:((5 :: cl).filter fun f => !(ext.contains f)).all (chk Vp.prog [] (5 :: cl) [])=true
 not:cl.contains 5=false
 mem:cl.contains f=true
 ini:Tryz.prog.inits.idxOf? f=none
theorem wr_atV {X:Cx} {B:Lk} {V W:World} (h:WR X B V W):WR X B { V with tape:=W.tape,drawn:=W.drawn } W:=by
 have h1:=h.tape
 have h2:=h.drawn
 rw [h1,h2]
 exact h
end Go.Proofs.YthhfljldbfgpcaaGreatDoor
end
