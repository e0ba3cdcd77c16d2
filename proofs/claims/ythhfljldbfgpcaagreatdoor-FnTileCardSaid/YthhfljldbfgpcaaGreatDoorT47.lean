/- Merged texts: SiE, BkE. -/
import Derived.Test.YthhfljldbfgpcaaGreatDoorT46
import Derived.Test.YthhfljldbfgpcaaGreatDoorT44
import Derived.Test.YthhfljldbfgpcaaGreatDoorT15
import Derived.Test.YthhfljldbfgpcaaGreatDoorT45
import Derived.Test.YthhfljldbfgpcaaGreatDoorT10
set_option linter.all false
section
namespace Go.Proofs.YthhfljldbfgpcaaGreatDoor
open Go.RowKit Go.Conc Go.Proofs.YthhfljldbfgpcaaGreatDoor.Co Go.Proofs.YthhfljldbfgpcaaGreatDoor.Ok Go.Proofs.YthhfljldbfgpcaaGreatDoor.Lr Go.Proofs.YthhfljldbfgpcaaGreatDoor.Tl Go.Proofs.YthhfljldbfgpcaaGreatDoor.Bar
theorem steps_way {P:Program} {F:St → Prop} (hF:∀ x,F x → Pop x) {z:St}:∀ (n:Nat) (x:St),Bar.Way P F x → runN P n (lone x.fr (x.cs ++ [wall P]) x.V)=.next (lone z.fr (z.cs ++ [wall P]) z.V) → Bar.Sub P x z:=by
 intro n
 induction n with
 | zero =>
   intro x _ h
   simp only [runN] at h
   injection h with h
   injection h with h1 h2 _
   have h2:(#[{ frame:=x.fr,callers:=x.cs ++ [wall P],status:=.running,dying:=none }]:Array Goroutine)=#[{ frame:=z.fr,callers:=z.cs ++ [wall P],status:=.running,dying:=none }]:=h2
   simp only [Array.mk.injEq,List.cons.injEq,Goroutine.mk.injEq,and_true] at h2
   obtain ⟨a,b,c⟩:=x
   obtain ⟨a',b',c'⟩:=z
   dsimp only at h1 h2
   obtain ⟨rfl,h3⟩:=h2
   subst h1
   have h3:=List.append_cancel_right h3
   subst h3
   exact .refl _
 | succ n ih =>
   intro x hw h
   simp only [runN] at h
   cases hw with
   | fin hx =>
     have hp:=hF x hx
     rw [hp.1] at h
     rcases pop_ends (P:=P) hp with ⟨o,w,e⟩ | ⟨fr1,w,o,w1,e1,e2⟩
     · rw [List.nil_append,e] at h
       cases h
     · rw [List.nil_append,e1] at h
       dsimp only at h
       cases n with
       | zero =>
         simp only [runN] at h
         injection h with h
         injection h with _ h2 _
         have h2:(#[{ frame:=fr1,callers:=[],status:=.running,dying:=none }]:Array Goroutine)=#[{ frame:=z.fr,callers:=z.cs ++ [wall P],status:=.running,dying:=none }]:=h2
         simp at h2
       | succ n =>
         simp only [runN,e2] at h
         cases h
   | go g hg hw =>
     obtain ⟨es,k⟩:=hg x.V.tape x.V.drawn
     have k:stepG P true { frame:=x.fr,callers:=x.cs ++ [wall P],status:=.running,dying:=none } x.V=_:=k
     have:step P (lone x.fr (x.cs ++ [wall P]) x.V)=.next (lone (g x.V.tape x.V.drawn).fr ((g x.V.tape x.V.drawn).cs ++ [wall P]) (g x.V.tape x.V.drawn).V):=step_lone_go (by rw [k]; rfl)
     rw [this] at h
     exact .step x.V.tape x.V.drawn ⟨es,k⟩ (ih _ (hw _ _) h)
theorem call_way {P:Program} {F:St → Prop} (hF:∀ x,F x → Pop x) {f:FuncId} {args:Array Value} {V:World} {c:Frame} {cs:List Frame} {Q:Value → World → Prop} (hw:Bar.Way P F ⟨Frame.enter P f args .normal,c :: cs,V⟩) (h:Calls P f args V (fun e w => ∃ v,e=.returned v ∧ Q v w)) :
   ∃ v V',Q v V' ∧ Bar.Sub P ⟨Frame.enter P f args .normal,c :: cs,V⟩ ⟨c.finish v,cs,V'⟩:=by
 obtain ⟨e,w',fr,⟨v,rfl,hq⟩,hs,hf,hl⟩:=h (c :: cs ++ [wall P])
 have hs:Steps P (lone (Frame.enter P f args .normal) (c :: cs ++ [wall P]) V) (lone fr (c :: (cs ++ [wall P])) w'):=hs
 have h1:Steps P (lone fr (c :: (cs ++ [wall P])) w') (lone (c.finish v) (cs ++ [wall P]) w'):=⟨1,by
   simp only [runN]
   rw [step_leave_returned hl]⟩
 obtain ⟨n,hn⟩:=Steps.trans hs h1
 exact ⟨v,w',hq,steps_way hF (z:=⟨c.finish v,cs,w'⟩) n ⟨Frame.enter P f args .normal,c :: cs,V⟩ hw hn⟩
def mArgs (cx cy:Nat) (deep size most:Int):Array Value:=#[.complex .f32 cx cy,.int .i64 deep,.int .i64 size,.int .i64 most]
def zTile:Value:=.tuple #[.agg (tileC 0 0 0 0 (.slice none 0 0) (.slice none 0 0)),.bool false]
def ValsNo (cx cy:Nat) (deep size most:Int):Prop :=
 (∀ a:Act,a.tmps.size=71 → a.tmps[0]?=some (.complex .f32 cx cy) → a.tmps[1]?=some (.int .i64 deep) → a.tmps[2]?=some (.int .i64 size) → a.tmps[3]?=some (.int .i64 most) → a.defers=[] → ∀ w,HW Vp.prog [.code (cut [9,10,12] mBody)] (HRet 0 0 0 0 false [] [] w) a w) ∧
 ∀ V,Calls Vp.prog 5 (mArgs cx cy deep size most) V fun e V' => e=.returned zTile ∧ Below V.heap.size V V'
def ValsOk (cx cy:Nat) (deep size most:Int):Prop :=
 ∃ (d n:Nat) (px py:Nat → Nat → Nat) (bx:Nat → Nat → Value) (st:Nat → Nat → Int) (sm:Nat → Nat → Nat) (ex ey:Nat),deep=d ∧ size=n ∧ n ≤ 8 ∧ 0 < n ∧ CellOK cx cy d n most px py bx st sm ∧
   (∀ W,Calls Vp.prog 19 #[.complex .f32 cx cy,.int .i64 d,.int .i64 n] W fun e w' => e=.returned (.bool true) ∧ W=w') ∧ (∀ W,Calls Vp.prog 20 #[.complex .f32 cx cy,.int .i64 d,.int .i64 n,.int .i64 n] W fun e w' => e=.returned (.complex .f32 ex ey) ∧ W=w') ∧
   (FloatKind.f32.format.order ex 1090519040 == some .gt)=false ∧ (FloatKind.f32.format.order ey 1090519040 == some .gt)=false ∧
   ∀ V,Calls Vp.prog 5 (mArgs cx cy deep size most) V fun e V' => ∃ v,e=.returned v ∧ TileW cx cy d n (rowsOf n sm n) (rowsOf n st n) V.heap.size v V' ∧ Below V.heap.size V V'
def Vals:Prop:=∀ cx cy deep size most,ValsNo cx cy deep size most ∨ ValsOk cx cy deep size most
abbrev tmL:List (Nat × Nat):=[(5,4)]
section
variable {cl gl:List Nat} {Q:String → Code → Prop} {F:Nat → Prop} {L:Nat → Nat} {lf:∀ b,L b ≠ 0 → F b}
theorem tw_rel {cx cy d n gS gM gS' gM':Nat} {B:Lk} {V:World} (hF:∀ b,F b → b < V.heap.size) (h1:V.heap.size ≤ gS) (h2:V.heap.size ≤ gM) (b1:B gS gS') (b2:B gM gM') :
   VR (cxL Vp.prog tmL cl gl Q (fun _ => False) F False L lf) B (.tuple #[.agg (tileC cx cy d n (.slice (some ⟨gS,0,none⟩) (n * n) (n * n)) (.slice (some ⟨gM,0,none⟩) (n * n) (n * n))),.bool true])
     (.tuple #[.agg (tileC cx cy d n (.slice (some ⟨gS',0,none⟩) (n * n) (n * n)) (.slice (some ⟨gM',0,none⟩) (n * n) (n * n))),.bool true]):=by
 have hl:∀ g,V.heap.size ≤ g → L g ≤ 0:=fun g hg => Nat.le_of_eq (Decidable.byContradiction fun x => Nat.lt_irrefl _ (Nat.lt_of_lt_of_le (hF g (lf g x)) hg))
 refine .tuple rfl fun i v v' x x' => ?_
 match i with
 | 0 =>
   cases x; cases x'
   refine .agg rfl fun i v v' x x' => ?_
   match i with
   | 0 => cases x; cases x'; exact .complex _ _ _
   | 1 => cases x; cases x'; exact .int _ _
   | 2 => cases x; cases x'; exact .int _ _
   | 3 => cases x; cases x'; exact .slice _ _ ⟨⟨b1,id⟩,⟨rfl,hl _ h1⟩,rfl⟩
   | 4 => cases x; cases x'; exact .slice _ _ ⟨⟨b2,id⟩,⟨rfl,hl _ h2⟩,rfl⟩
   | i + 5 => cases x
 | 1 => cases x; cases x'; exact .bool _
 | i + 2 => cases x
theorem parts_of (hV:Vals) {Fi:St → Prop} (hFi:∀ x,Fi x → Pop x) (m0:Nat) (w0:World) (Post:Value → World → Prop) :
   Parts (cxL Vp.prog tmL cl gl Q (fun _ => False) F False L lf) Vp.prog Tryz.prog Fi m0 w0 Post:=by
 intro f p p' c cs V B gs w sl t q cs' hT hway hsub hb hkp hw hp hcs h0 hL hP
 obtain ⟨-,hT⟩:=hT
 have hT:(f,p.size) ∈ tmL:=hT
 simp only [List.mem_singleton,Prod.mk.injEq] at hT
 obtain ⟨rfl,hs⟩:=hT
 obtain ⟨cx,cy,deep,size,most,rfl⟩:=shape_of hFi hs hway
 obtain rfl:p'=mArgs cx cy deep size most:=by
   have:=eq_flat (X:=cxL Vp.prog tmL cl gl Q (fun _ => False) F False L lf) (B:=B) 1 (.agg (mArgs cx cy deep size most)) (.agg p') (by simp [flatV,mArgs]) (.agg hp.1 hp.2)
   injection this
 obtain ⟨c',cs'',rfl,hc,hcs⟩:∃ c' cs'',cs'=c' :: cs'' ∧ FrR (cxL Vp.prog tmL cl gl Q (fun _ => False) F False L lf) B c c' ∧ CsR (cxL Vp.prog tmL cl gl Q (fun _ => False) F False L lf) B cs cs'':=by
   cases hcs with
   | cons a b => exact ⟨_,_,rfl,a,b⟩
 have hbot:∀ v,botR (c.finish v) cs=none:=fun v => (botR_of (finish_round c v) cs).trans hb
 have hN:Vp.prog.globals.size ≤ w.heap.size:=hw.nW
 rcases hV cx cy deep size most with ⟨hh,hv⟩ | ⟨d,n,px,py,bx,st,sm,ex,ey,rfl,rfl,hn8,hn0,C,hpl,hpt,hf1,hf2,hv⟩
 · obtain ⟨v,V',⟨rfl,hbl⟩,hsb⟩:=call_way hFi hway (Q:=fun v V' => v=zTile ∧ Below V.heap.size V V') ((hv V).mono fun e V' ⟨h1,h2⟩ => ⟨_,h1,rfl,h2⟩)
   obtain ⟨gs',w',sl',t',q',r,-,g0,gL,gP,hsz,hkept,htape,hos,hout⟩:=tile_bad hh (sl:=sl) hN h0 hL hP
   have hw':WR (cxL Vp.prog tmL cl gl Q (fun _ => False) F False L lf) B { V' with tape:=w'.tape,drawn:=w'.drawn } w' :=
     wr_same hw (V':={ V' with tape:=w'.tape,drawn:=w'.drawn }) hbl.size (fun b hb => hbl.block b hb) hsz hkept rfl rfl (by rw [hos,hw.os]; exact hbl.os.symm) (by rw [hout,hw.output]; exact hbl.output.symm)
   refine Ends.ran r (hsub _ hsb B w'.tape w'.drawn gs' w' sl' t' q' _ cs'' hw' (hc.finish ?_) hcs (hbot _) ?_ g0 gL gP)
   · refine .tuple rfl fun i v v' x x' => ?_
     match i with
     | 0 =>
       cases x; cases x'
       refine .agg rfl fun i v v' x x' => ?_
       match i with
       | 0 => cases x; cases x'; exact .complex _ _ _
       | 1 => cases x; cases x'; exact .int _ _
       | 2 => cases x; cases x'; exact .int _ _
       | 3 => cases x; cases x'; exact .snil _ _
       | 4 => cases x; cases x'; exact .snil _ _
       | i + 5 => cases x
     | 1 => cases x; cases x'; exact .bool _
     | i + 2 => cases x
   · exact ⟨hkp.low,Nat.le_trans hkp.size hsz,fun x hx => (hkept x (Nat.lt_of_lt_of_le hx hkp.size)).trans (hkp.old x hx),htape.trans hkp.tape,⟨hos.trans hkp.os.1,hout.trans hkp.os.2⟩⟩
 · obtain ⟨v,V',⟨⟨gS,gM,rfl,l1,l2,l3,c1,c2⟩,hbl⟩,hsb⟩:=call_way hFi hway (Q:=fun v V' => TileW cx cy d n (rowsOf n sm n) (rowsOf n st n) V.heap.size v V' ∧ Below V.heap.size V V') (hv V)
   obtain ⟨gs',w',sl',t',q',v',r,-,g0,gL,gP,hsz,hkept,htape,hos,hout,⟨gS',gM',rfl,l1',l2',l3',c1',c2'⟩⟩:=tile_good C hn8 hn0 hpl hpt hf1 hf2 (sl:=sl) hN h0 hL hP
   have hw':WR (cxL Vp.prog tmL cl gl Q (fun _ => False) F False L lf) B { V' with tape:=w'.tape,drawn:=w'.drawn } w' :=
     wr_same hw (V':={ V' with tape:=w'.tape,drawn:=w'.drawn }) hbl.size (fun b hb => hbl.block b hb) hsz hkept rfl rfl (by rw [hos,hw.os]; exact hbl.os.symm) (by rw [hout,hw.output]; exact hbl.output.symm)
   have hnF:∀ g,V.heap.size ≤ g → ¬ F g:=fun g hg hf => Nat.lt_irrefl _ (Nat.lt_of_lt_of_le (hw.flt g hf) hg)
   have hfl:∀ (X:Cx) (x:Nat),Flat X (floV x):=fun X x B => .float _ _
   have hil:∀ (X:Cx) (x:Int),Flat X (intV x):=fun X x B => .int _ _
   have hw1:=wr_new hw' (s:=gS) (s':=gS') (fun y h => Nat.lt_irrefl _ (Nat.lt_of_lt_of_le (hw.ltV h) l1)) (fun x h => Nat.lt_irrefl _ (Nat.lt_of_lt_of_le (hw.ltW h) l1')) c1 c1'
     (fun v hv => by
       rw [List.mem_toArray,List.mem_map] at hv
       obtain ⟨x,_,rfl⟩:=hv
       exact hfl _ x) id (hnF gS l1) (Nat.le_trans hw.nV l1) (Nat.le_trans hw.nW l1')
   have hw2:=wr_new hw1 (s:=gM) (s':=gM') (fun y h => h.elim (fun h => Nat.lt_irrefl _ (Nat.lt_of_lt_of_le (hw.ltV h) l2)) fun h => l3 h.1.symm) (fun x h => h.elim (fun h => Nat.lt_irrefl _ (Nat.lt_of_lt_of_le (hw.ltW h) l2')) fun h => l3' h.2.symm) c2 c2'
     (fun v hv => by
       rw [List.mem_toArray,List.mem_map] at hv
       obtain ⟨x,_,rfl⟩:=hv
       exact hil _ x) id (hnF gM l2) (Nat.le_trans hw.nV l2) (Nat.le_trans hw.nW l2')
   have hle:Le B (fun b b' => (B b b' ∨ (b=gS ∧ b'=gS')) ∨ (b=gM ∧ b'=gM')):=fun _ _ h => .inl (.inl h)
   refine Ends.ran r (hsub _ hsb _ w'.tape w'.drawn gs' w' sl' t' q' _ cs'' hw2 ((hc.mono hle).finish (tw_rel (V:=V) hw.flt l1 l2 (.inl (.inr ⟨rfl,rfl⟩)) (.inr ⟨rfl,rfl⟩))) (hcs.mono hle) (hbot _) ?_ g0 gL gP)
   refine ⟨fun x y h hf => ?_,Nat.le_trans hkp.size hsz,fun x hx => (hkept x (Nat.lt_of_lt_of_le hx hkp.size)).trans (hkp.old x hx),htape.trans hkp.tape,⟨hos.trans hkp.os.1,hout.trans hkp.os.2⟩⟩
   rcases h with (h | ⟨_,rfl⟩) | ⟨_,rfl⟩
   · exact hkp.low x y h hf
   · exact Nat.le_trans hkp.size l1'
   · exact Nat.le_trans hkp.size l2'
end
end Go.Proofs.YthhfljldbfgpcaaGreatDoor
end

section
namespace Go.Proofs.YthhfljldbfgpcaaGreatDoor
open Go.RowKit Go.Conc Go.Proofs.YthhfljldbfgpcaaGreatDoor.Co Go.Proofs.YthhfljldbfgpcaaGreatDoor.Ok Go.Proofs.YthhfljldbfgpcaaGreatDoor.Lr Go.Proofs.YthhfljldbfgpcaaGreatDoor.Tl Go.Proofs.YthhfljldbfgpcaaGreatDoor.Bar
theorem lim_split {d:Nat} (hd:d ≤ 11):(134217728:Int)=((8 * 2 ^ d:Nat):Int) * ((2 ^ (24 - d):Nat):Int):=by
 rw [← Int.natCast_mul,Nat.mul_assoc,← Nat.pow_add,show d + (24 - d)=24 from by omega]
 rfl
theorem step_le {d:Nat} (hd:d ≤ 11) (x:Int):x * ((2 ^ (24 - d):Nat):Int) ≤ 134217728 ↔ x ≤ ((8 * 2 ^ d:Nat):Int):=by
 have hp:(0:Int) < ((2 ^ (24 - d):Nat):Int):=by have:=Nat.two_pow_pos (24 - d); omega
 rw [lim_split hd]
 exact ⟨fun h => Int.le_of_mul_le_mul_right h hp,fun h => Int.mul_le_mul_of_nonneg_right h (Int.le_of_lt hp)⟩
theorem step_ge {d:Nat} (hd:d ≤ 11) {x:Int} (h:-((8 * 2 ^ d:Nat):Int) ≤ x):-134217728 ≤ x * ((2 ^ (24 - d):Nat):Int):=by
 have hp:(0:Int) < ((2 ^ (24 - d):Nat):Int):=by have:=Nat.two_pow_pos (24 - d); omega
 have:=Int.mul_le_mul_of_nonneg_right h (Int.le_of_lt hp)
 rw [Int.neg_mul,← lim_split hd] at this
 exact this
def fx (c d:Nat) (j:Int):Nat:=Flo.opC .add .f32 c (Flo.opC .mul .f32 (floatOfInt .f32 j) (Flo.sideF d))
theorem fx_runs {c d:Nat} {A:Int} (hd:d ≤ 11) (hc:Flo.Pt (c % 4294967296) d A) (hA:A.natAbs ≤ 60000) (j:Int) (hj:j.natAbs ≤ 5000) :
   floatBits .mul .f32 (floatOfInt .f32 j) (Flo.sideF d)=some (Flo.opC .mul .f32 (floatOfInt .f32 j) (Flo.sideF d)) ∧ floatBits .add .f32 c (Flo.opC .mul .f32 (floatOfInt .f32 j) (Flo.sideF d))=some (fx c d j) ∧ Flo.Pt (fx c d j) d (A + j):=by
 obtain ⟨p,x,e1,e2,h⟩:=Flo.point_pt hd hc (by omega) j (by omega)
 rw [Flo.addM] at e2
 have h1:Flo.opC .mul .f32 (floatOfInt .f32 j) (Flo.sideF d)=p:=by unfold Flo.opC; rw [e1]; rfl
 have h2:fx c d j=x:=by unfold fx; rw [h1]; unfold Flo.opC; rw [e2]; rfl
 rw [h1,h2]
 exact ⟨e1,e2,h⟩
theorem pt_bd {x d:Nat} {n:Int} (hd:d ≤ 11) (h:Flo.Pt x d n) (hn:n.natAbs ≤ 8 * 2 ^ d):Flo.Bd 8 x:=by
 refine ⟨by rw [h.iv]; exact h,?_⟩
 rw [h.iv,Int.natAbs_mul,Int.natAbs_natCast,Flo.pow_split hd]
 calc n.natAbs * 2 ^ (Flo.u32 - d) ≤ 8 * 2 ^ d * 2 ^ (Flo.u32 - d):=Nat.mul_le_mul_right _ hn
   _=8 * (2 ^ (Flo.u32 - d) * 2 ^ d):=by rw [Nat.mul_assoc,Nat.mul_comm (2 ^ d)]
def cA (a:Int) (d j:Nat):Int:=(a + j) * ((2 ^ (24 - d):Nat):Int)
def cIn (a b:Int) (d i j:Nat):Bool:=decide (cA a d j ≤ 134217728 ∧ cA b d i ≤ 134217728)
def cB (a b:Int) (d i j:Nat) (z:Int):Int:=if cIn a b d i j=true then z else 0
def cOk (a b:Int) (d i j:Nat):Bool:=cIn a b d i j && boxOK (cB a b d i j (cA a d j)) (cB a b d i j (cA a d j) + ((2 ^ (24 - d):Nat):Int)) (cB a b d i j (cA b d i)) (cB a b d i j (cA b d i) + ((2 ^ (24 - d):Nat):Int))
def bxC (a b:Int) (d i j:Nat):Bx:=⟨cA a d j,cA a d j + ((2 ^ (24 - d):Nat):Int),cA b d i,cA b d i + ((2 ^ (24 - d):Nat):Int)⟩
theorem cA_next (a:Int) (d j:Nat):cA a d j + ((2 ^ (24 - d):Nat):Int)=(a + j + 1) * ((2 ^ (24 - d):Nat):Int):=by unfold cA; rw [Int.add_mul (a + j),Int.one_mul]
theorem cOk_iff {a b:Int} {d:Nat} (hd:d ≤ 11) (ha:a.natAbs ≤ 4 * 2 ^ d) (hb:b.natAbs ≤ 4 * 2 ^ d) (i j:Nat) :
   cOk a b d i j=true ↔ a + j + 1 ≤ ((8 * 2 ^ d:Nat):Int) ∧ b + i + 1 ≤ ((8 * 2 ^ d:Nat):Int):=by
 have g1:-134217728 ≤ cA a d j:=step_ge hd (by omega)
 have g2:-134217728 ≤ cA b d i:=step_ge hd (by omega)
 have n1:=cA_next a d j
 have n2:=cA_next b d i
 have s1:=step_le hd (a + j + 1)
 have s2:=step_le hd (b + i + 1)
 rw [← n1] at s1
 rw [← n2] at s2
 have hp:(0:Int) < ((2 ^ (24 - d):Nat):Int):=by have:=Nat.two_pow_pos (24 - d); omega
 rw [← s1,← s2]
 unfold cOk cB cIn boxOK inB
 generalize cA a d j=A at *
 generalize cA b d i=B at *
 generalize ((2 ^ (24 - d):Nat):Int)=S at *
 simp only [Bool.and_eq_true,decide_eq_true_eq]
 by_cases h:A ≤ 134217728 ∧ B ≤ 134217728
 · rw [if_pos h,if_pos h]; omega
 · rw [if_neg h,if_neg h]; omega
theorem cOk_box {a b:Int} {d:Nat} {i j:Nat} (h:cOk a b d i j=true):cB a b d i j (cA a d j)=cA a d j ∧ cB a b d i j (cA b d i)=cA b d i ∧ (bxC a b d i j).ok=true:=by
 unfold cOk at h
 rw [Bool.and_eq_true] at h
 obtain ⟨h1,h2⟩:=h
 have e:∀ z,cB a b d i j z=z:=fun z => by unfold cB; rw [if_pos h1]
 rw [e,e] at h2
 exact ⟨e _,e _,h2⟩
theorem eight_val:Flo.Val Ieee.single 1090519040 (8 * (2 ^ Flo.u32:Nat)):=by
 refine ⟨by decide,by unfold Flo.fin; decide,?_⟩
 rw [Flo.u32_eq]
 unfold Flo.iv
 have h1:Flo.sgn Ieee.single 1090519040=false:=by decide
 have h2:Flo.rv Ieee.single (Flo.rung Ieee.single 1090519040)=8 * 2 ^ 149:=by decide +kernel
 rw [h1,h2]; simp
theorem far_iff {x d:Nat} {n:Int} (hd:d ≤ 11) (h:Flo.Pt x d n):(FloatKind.f32.format.order x 1090519040 == some .gt)=decide (((8 * 2 ^ d:Nat):Int) < n):=by
 rw [Flo.order_gt_val (k:=.f32) h eight_val,Bool.eq_iff_iff,decide_eq_true_eq,decide_eq_true_eq]
 have hp:(0:Int) < ((2 ^ (Flo.u32 - d):Nat):Int):=by have:=Nat.two_pow_pos (Flo.u32 - d); omega
 have e:(8:Int) * ((2 ^ Flo.u32:Nat):Int)=((8 * 2 ^ d:Nat):Int) * ((2 ^ (Flo.u32 - d):Nat):Int):=by
   rw [Flo.pow_split hd,Int.natCast_mul,Int.natCast_mul,Int.mul_assoc,Int.mul_comm ((2 ^ (Flo.u32 - d):Nat):Int)]
   rfl
 rw [e]
 exact ⟨fun h => Int.lt_of_mul_lt_mul_right h (Int.le_of_lt hp),fun h => Int.mul_lt_mul_of_pos_right h hp⟩
theorem stB_bd (x:Bx) (M:Nat):-1 ≤ stB x M ∧ stB x M ≤ 1:=by
 unfold stB
 split
 · omega
 · split <;> omega
theorem smC_lt (c d:Nat) (n:Int):smC c d n < 4294967296:=by
 unfold smC
 split
 · omega
 · exact Flo.opC_lt
def stT (a b:Int) (d:Nat) (most:Int) (i j:Nat):Int:=stB (bxC a b d i j) (mostN most).toNat
def smT (cx cy d:Nat) (most:Int) (i j:Nat):Nat:=smC (fx cx d j) (fx cy d i) most
section
variable {cx cy d s:Nat} {a b:Int} (most:Int) (hd:d ≤ 10) (hs:s ≤ 8) (hx:Flo.Pt (cx % 4294967296) d a) (hy:Flo.Pt (cy % 4294967296) d b) (ha:a.natAbs ≤ 4 * 2 ^ d) (hb:b.natAbs ≤ 4 * 2 ^ d)
include hd hs hx hy ha hb
theorem cellV_ok:CellV cx cy d s most (fun i j => cOk a b d i j) (fun i j => cB a b d i j (cA a d j)) (fun i j => cB a b d i j (cA a d j) + ((2 ^ (24 - d):Nat):Int)) (fun i j => cB a b d i j (cA b d i)) (fun i j => cB a b d i j (cA b d i) + ((2 ^ (24 - d):Nat):Int))
   (fun _ j => fx cx d j) (fun i _ => fx cy d i) (stT a b d most) (smT cx cy d most):=by
 have hpd:2 ^ d ≤ 1024:=Nat.le_trans (Nat.pow_le_pow_right (by omega) hd) (show 2 ^ 10 ≤ 1024 by decide)
 have run:∀ (c:Nat) (A:Int) (j:Nat),Flo.Pt (c % 4294967296) d A → A.natAbs ≤ 4 * 2 ^ d → j < s → _:=fun c A j h hA hj => fx_runs (c:=c) (by omega) h (by omega) (j:Int) (by omega)
 have hbd:∀ i j,i < s → j < s → cOk a b d i j=true → Flo.Bd 8 (fx cx d j) ∧ Flo.Bd 8 (fx cy d i):=fun i j hi hj h => by
   have h:=(cOk_iff (by omega) ha hb i j).1 h
   exact ⟨pt_bd (by omega) (run cx a j hx ha hj).2.2 (by omega),pt_bd (by omega) (run cy b i hy hb hi).2.2 (by omega)⟩
 refine ⟨fun i j hi hj W => ?_,fun i j hi hj ho W => ?_,fun i j hi hj W => ?_,fun i j hi hj ho W => ?_,fun i j => smC_lt _ _ _,fun i j => stB_bd _ _⟩
 · obtain ⟨e1,e2,hp⟩:=run cx a j hx ha hj
   obtain ⟨e3,e4,hq⟩:=run cy b i hy hb hi
   have hP:=Lib.hid (fun w => l7Point_is cx cy d i j (by omega) e1 e3 e2 e4 w)
   have hO:=Lib.hid (fun w => boxOf_all (fx cx d j) (fx cy d i) d (a + j) (b + i) (cA a d j) (cA b d i) (by omega) hp hq (by omega) (by omega) rfl rfl (step_ge (by omega) (by omega)) (step_ge (by omega) (by omega)) w)
   have g1:-134217728 ≤ cA a d j:=step_ge (by omega) (by omega)
   have g2:-134217728 ≤ cA b d i:=step_ge (by omega) (by omega)
   have hS0:0 < 2 ^ (24 - d):=Nat.two_pow_pos _
   have hS:(2 ^ (24 - d):Nat) ≤ 2 ^ 24:=Nat.pow_le_pow_right (by omega) (by omega)
   cases hin:cIn a b d i j with
   | true =>
     have hin':cA a d j ≤ 134217728 ∧ cA b d i ≤ 134217728:=by unfold cIn at hin; simpa using hin
     have hb2:∀ z,cB a b d i j z=z:=fun z => by unfold cB; rw [if_pos hin]
     have hO2:Hid (∀ w,Calls Vp.prog 53 #[.complex .f32 (fx cx d j) (fx cy d i)] w fun e w' => e=.returned (.tuple #[.agg #[.int .i64 (cA a d j),.int .i64 (cA a d j),.int .i64 (cA b d i),.int .i64 (cA b d i)],.bool true]) ∧ Below w.heap.size w w'):=fun w => (hO.out w).mono fun e w' ⟨h1,h2⟩ => ⟨by rw [h1]; unfold ofV; rw [if_pos hin'],h2⟩
     have:=l7Box_of cx cy d _ _ i j _ _ _ _ _ _ _ true (side_steps d (by omega)) (by omega) (w64 (by omega) (by omega)) (w64 (by omega) (by omega)) hP hO2 W
     simp only [hb2,cOk,hin]
     exact this
   | false =>
     have hin':¬ (cA a d j ≤ 134217728 ∧ cA b d i ≤ 134217728):=by unfold cIn at hin; simpa using hin
     have hb2:∀ z,cB a b d i j z=0:=fun z => by unfold cB; rw [if_neg (by rw [hin]; simp)]
     have hO2:Hid (∀ w,Calls Vp.prog 53 #[.complex .f32 (fx cx d j) (fx cy d i)] w fun e w' => e=.returned (.tuple #[.agg #[.int .i64 0,.int .i64 0,.int .i64 0,.int .i64 0],.bool false]) ∧ Below w.heap.size w w'):=fun w => (hO.out w).mono fun e w' ⟨h1,h2⟩ => ⟨by rw [h1]; unfold ofV; rw [if_neg hin'],h2⟩
     have:=l7Box_of cx cy d _ _ i j _ _ _ _ _ _ _ false (side_steps d (by omega)) (by omega) (w64 (by omega) (by omega)) (w64 (by omega) (by omega)) hP hO2 W
     simp only [hb2,cOk,hin]
     exact this
 · obtain ⟨e1,e2,e3⟩:=cOk_box ho

   rw [e1,e2]
   exact cellState_is _ _ _ _ most e3 W
 · obtain ⟨e1,e2,-⟩:=run cx a j hx ha hj
   obtain ⟨e3,e4,-⟩:=run cy b i hy hb hi
   exact l7Point_is cx cy d i j (by omega) e1 e3 e2 e4 W
 · obtain ⟨h1,h2⟩:=hbd i j hi hj ho
   exact specSmooth_is _ _ most h1 h2 W
theorem cellOK_ok (hok:∀ i j,i < s → j < s → cOk a b d i j=true):CellOK cx cy d s most (fun _ j => fx cx d j) (fun i _ => fx cy d i) (fun i j => .agg #[.int .i64 (cA a d j),.int .i64 (cA a d j + ((2 ^ (24 - d):Nat):Int)),.int .i64 (cA b d i),.int .i64 (cA b d i + ((2 ^ (24 - d):Nat):Int))]) (stT a b d most) (smT cx cy d most):=by
 have hpd:2 ^ d ≤ 1024:=Nat.le_trans (Nat.pow_le_pow_right (by omega) hd) (show 2 ^ 10 ≤ 1024 by decide)
 have run:∀ (c:Nat) (A:Int) (j:Nat),Flo.Pt (c % 4294967296) d A → A.natAbs ≤ 4 * 2 ^ d → j < s → _:=fun c A j h hA hj => fx_runs (c:=c) (by omega) h (by omega) (j:Int) (by omega)
 refine ⟨fun i j hi hj W => ?_,fun i j hi hj W => ?_,fun i j hi hj W => ?_,fun i j hi hj W => ?_⟩
 · obtain ⟨e1,e2,-⟩:=run cx a j hx ha hj
   obtain ⟨e3,e4,-⟩:=run cy b i hy hb hi
   exact pointOf_is cx cy d i j (by omega) e1 e3 e2 e4 W
 · have h:=(cOk_iff (by omega) ha hb i j).1 (hok i j hi hj)
   have n1:=cA_next a d j
   have n2:=cA_next b d i
   have s1:=step_le (d:=d) (by omega) (a + j + 1)
   have s2:=step_le (d:=d) (by omega) (b + i + 1)
   rw [← n1] at s1
   rw [← n2] at s2
   exact boxOfCell_is _ _ d (a + j) (b + i) _ _ _ (by omega) (run cx a j hx ha hj).2.2 (run cy b i hy hb hi).2.2 (by omega) (by omega) rfl rfl rfl (step_ge (by omega) (by omega)) (s1.2 h.1) (step_ge (by omega) (by omega)) (s2.2 h.2) W
 · obtain ⟨-,-,e3⟩:=cOk_box (hok i j hi hj)
   exact implCell_is _ _ _ _ most e3 W
 · have h:=(cOk_iff (by omega) ha hb i j).1 (hok i j hi hj)
   exact implSmooth_is _ _ most (pt_bd (by omega) (run cx a j hx ha hj).2.2 (by omega)) (pt_bd (by omega) (run cy b i hy hb hi).2.2 (by omega)) W
end
theorem placePts {cx cy:Nat} {deep size:Int} (h:placeB cx cy deep size=true):∃ (d s:Nat) (a b:Int),deep=d ∧ size=s ∧ d ≤ 10 ∧ 1 ≤ s ∧ s ≤ 8 ∧ Flo.Pt (cx % 4294967296) d a ∧ Flo.Pt (cy % 4294967296) d b ∧ a.natAbs ≤ 4 * 2 ^ d ∧ b.natAbs ≤ 4 * 2 ^ d:=by
 obtain ⟨h1,h2,h3,h4⟩:=placeB_bd h
 obtain ⟨d,rfl⟩:=Int.eq_ofNat_of_zero_le h1
 obtain ⟨s,rfl⟩:=Int.eq_ofNat_of_zero_le (show 0 ≤ size by omega)
 unfold placeB at h
 rw [Bool.and_eq_true,Bool.and_eq_true,Int.toNat_natCast,← Flo.wholeB_mod cx,← Flo.wholeB_mod cy] at h
 obtain ⟨a,hx,ha⟩:=Flo.whole_pt (Nat.mod_lt cx (by decide)) (by omega) h.1.2
 obtain ⟨b,hy,hb⟩:=Flo.whole_pt (Nat.mod_lt cy (by decide)) (by omega) h.2
 exact ⟨d,s,a,b,rfl,rfl,by omega,by omega,by omega,hx,hy,ha,hb⟩
theorem all_iff {a b:Int} {d s:Nat} (hd:d ≤ 11) (h1:1 ≤ s) (ha:a.natAbs ≤ 4 * 2 ^ d) (hb:b.natAbs ≤ 4 * 2 ^ d) :
   (∀ i j,i < s → j < s → cOk a b d i j=true) ↔ a + s ≤ ((8 * 2 ^ d:Nat):Int) ∧ b + s ≤ ((8 * 2 ^ d:Nat):Int):=by
 constructor
 · intro h
   have:=(cOk_iff hd ha hb (s - 1) (s - 1)).1 (h _ _ (by omega) (by omega))
   omega
 · intro h i j hi hj
   exact (cOk_iff hd ha hb i j).2 (by omega)
theorem hmno {cx cy:Nat} {deep size most:Int} (h:∀ W,Calls Vp.prog 19 #[.complex .f32 cx cy,.int .i64 deep,.int .i64 size] W fun e w' => e=.returned (.bool false) ∧ W=w') (a:Act) (hs:a.tmps.size=71) (h0:a.tmps[0]?=some (.complex .f32 cx cy)) (h1:a.tmps[1]?=some (.int .i64 deep)) (h2:a.tmps[2]?=some (.int .i64 size)) (h3:a.tmps[3]?=some (.int .i64 most)) (hd:a.defers=[]) (w:World) :
   HW Vp.prog [.code (cut [9,10,12] mBody)] (HRet 0 0 0 0 false [] [] w) a w:=by
 obtain ⟨t,ds⟩:=a
 dsimp only at hs h0 h1 h2 h3 hd
 obtain ⟨y0,y1,y2,y3,y4,y5,y6,y7,y8,y9,y10,y11,y12,y13,y14,y15,y16,y17,y18,y19,y20,y21,y22,y23,y24,y25,y26,y27,y28,y29,y30,y31,y32,y33,y34,y35,y36,y37,y38,y39,y40,y41,y42,y43,y44,y45,y46,y47,y48,y49,y50,y51,y52,y53,y54,y55,y56,y57,y58,y59,y60,y61,y62,y63,y64,y65,y66,y67,y68,y69,y70,rfl⟩:=arr71 t hs
 cases h0; cases h1; cases h2; cases h3; subst hd
 apply hm_noplace (d:=0) (n:=0) (xs:=[]) (ys:=[]) h
theorem hmfar {cx cy d n:Nat} {most:Int} {ex ey:Nat} (h:∀ W,Calls Vp.prog 19 #[.complex .f32 cx cy,.int .i64 d,.int .i64 n] W fun e w' => e=.returned (.bool true) ∧ W=w') (hp:∀ W,Calls Vp.prog 20 #[.complex .f32 cx cy,.int .i64 d,.int .i64 n,.int .i64 n] W fun e w' => e=.returned (.complex .f32 ex ey) ∧ W=w')
   (hf:(FloatKind.f32.format.order ex 1090519040 == some .gt || FloatKind.f32.format.order ey 1090519040 == some .gt)=true) (a:Act) (hs:a.tmps.size=71) (h0:a.tmps[0]?=some (.complex .f32 cx cy)) (h1:a.tmps[1]?=some (.int .i64 d)) (h2:a.tmps[2]?=some (.int .i64 n)) (h3:a.tmps[3]?=some (.int .i64 most)) (hd:a.defers=[]) (w:World) :
   HW Vp.prog [.code (cut [9,10,12] mBody)] (HRet 0 0 0 0 false [] [] w) a w:=by
 obtain ⟨t,ds⟩:=a
 dsimp only at hs h0 h1 h2 h3 hd
 obtain ⟨y0,y1,y2,y3,y4,y5,y6,y7,y8,y9,y10,y11,y12,y13,y14,y15,y16,y17,y18,y19,y20,y21,y22,y23,y24,y25,y26,y27,y28,y29,y30,y31,y32,y33,y34,y35,y36,y37,y38,y39,y40,y41,y42,y43,y44,y45,y46,y47,y48,y49,y50,y51,y52,y53,y54,y55,y56,y57,y58,y59,y60,y61,y62,y63,y64,y65,y66,y67,y68,y69,y70,rfl⟩:=arr71 t hs
 cases h0; cases h1; cases h2; cases h3; subst hd
 have:=hm_far (most:=most) h hp hf y4 y5 y6 y7 y8 y9 y10 y11 y12 y13 y14 y15 y16 y17 y18 y19 y20 y21 y22 y23 y24 y25 y26 y27 y28 y29 y30 y31 y32 y33 y34 y35 y36 y37 y38 y39 y40 y41 y42 y43 y44 y45 y46 y47 y48 y49 y50 y51 y52 y53 y54 y55 y56 y57 y58 y59 y60 y61 y62 y63 y64 y65 y66 y67 y68 y69 y70 w [] []
 exact this
theorem vals:Vals:=by
 intro cx cy deep size most
 have hpw:=fun W => placeWell_isR cx cy deep size W
 cases hpl:placeB cx cy deep size with
 | false =>
   rw [hpl] at hpw
   exact .inl ⟨hmno hpw,fun V => tileMakeV_no cx cy deep size most hpl V⟩
 | true =>
   rw [hpl] at hpw
   obtain ⟨d,s,a,b,rfl,rfl,hd,h1,h8,hx,hy,ha,hb⟩:=placePts hpl
   have hpd:2 ^ d ≤ 1024:=Nat.le_trans (Nat.pow_le_pow_right (by omega) hd) (show 2 ^ 10 ≤ 1024 by decide)
   have hV:=fun V => tileMakeV_val cx cy d s most hd h8 hpl (cellV_ok most hd h8 hx hy ha hb) V
   obtain ⟨e1,e2,hpx⟩:=fx_runs (c:=cx) (by omega) hx (by omega) (s:Int) (by omega)
   obtain ⟨e3,e4,hpy⟩:=fx_runs (c:=cy) (by omega) hy (by omega) (s:Int) (by omega)
   have hpt:=fun W => pointOf_is cx cy d s s (by omega) e1 e3 e2 e4 W
   have f1:=far_iff (by omega) hpx
   have f2:=far_iff (by omega) hpy
   have hall:=all_iff (d:=d) (by omega) h1 ha hb
   by_cases hg:a + s ≤ ((8 * 2 ^ d:Nat):Int) ∧ b + s ≤ ((8 * 2 ^ d:Nat):Int)
   · rw [decide_eq_false (by omega)] at f1 f2
     have hok:=hall.2 hg
     refine .inr ⟨d,s,_,_,_,_,_,_,_,rfl,rfl,h8,by omega,cellOK_ok most hd h8 hx hy ha hb hok,hpw,hpt,f1,f2,fun V => (hV V).mono ?_⟩
     rintro e V' ⟨hbl,⟨⟨i,j,hi,hj,hno⟩,-⟩ | ⟨-,v,rfl,ht⟩⟩
     · have hno:cOk a b d i j=false:=hno
       have:=hok i j hi hj
       rw [hno] at this
       cases this
     · exact ⟨v,rfl,ht,hbl⟩
   · refine .inl ⟨hmfar hpw hpt ?_,fun V => (hV V).mono ?_⟩
     · rw [f1,f2,Bool.or_eq_true,decide_eq_true_eq,decide_eq_true_eq]
       omega
     · rintro e V' ⟨hbl,⟨-,rfl⟩ | ⟨hok,-⟩⟩
       · exact ⟨rfl,hbl⟩
       · exact absurd (hall.1 hok) hg
end Go.Proofs.YthhfljldbfgpcaaGreatDoor
end
