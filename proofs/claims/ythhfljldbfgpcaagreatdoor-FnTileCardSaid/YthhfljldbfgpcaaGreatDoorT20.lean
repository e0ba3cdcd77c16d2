/- Merged texts: Hw, Row, SplW, Dyh. -/
import Derived.Calls
import Derived.Test.YthhfljldbfgpcaaGreatDoorT19
import Derived.Test.YthhfljldbfgpcaaGreatDoorT4
import Derived.Test.YthhfljldbfgpcaaGreatDoorT5
import Derived.Deep.Cut
import Derived.Deep.RegionHeld3
import Derived.Deep.RegionLaw
import Derived.Deep.DeepAppendRoom
import Derived.Test.YthhfljldbfgpcaaGreatDoorT14
import Derived.Deep.DrawnRows
import Derived.Deep.RegionWith
import Derived.Deep.AppendLies
import Derived.Deep.CutRange
import Derived.Test.YthhfljldbfgpcaaGreatDoorT18
set_option linter.all false
section
namespace Go.Proofs.YthhfljldbfgpcaaGreatDoor.Co
def HW (P:Program) (s:List Item) (H:List Item → Act → World → Prop) (a:Act) (w:World):Prop :=
 ∀ (b:Frame) (k:List Item) (cs:List Frame),∃ t a' w',H t a' w' ∧ Steps P (lone (b.at a (s ++ k)) cs w) (lone (b.at a' (t ++ k)) cs w')
section
variable {P:Program} {H:List Item → Act → World → Prop} {a a':Act} {w w':World} {s s':List Item}
theorem HW.stop (h:H s a w):HW P s H a w:=fun b k cs => ⟨s,a,w,h,.refl _ _⟩
theorem HW.mono {H':List Item → Act → World → Prop} (h:HW P s H a w) (k:∀ t a w,H t a w → H' t a w):HW P s H' a w:=fun b l cs =>
 let ⟨t,a',w',x,y⟩:=h b l cs
 ⟨t,a',w',k _ _ _ x,y⟩
theorem HW.step (h:∀ (b:Frame) (k:List Item) (cs:List Frame),Go.step P (lone (b.at a (s ++ k)) cs w)=.next (lone (b.at a' (s' ++ k)) cs w')) (hn:HW P s' H a' w'):HW P s H a w:=fun b k cs =>
 let ⟨t,a2,w2,x,y⟩:=hn b k cs
 ⟨t,a2,w2,x,.head (h b k cs) y⟩
theorem HW.trans {N:List Item → Act → World → Prop} (h:HW P s N a w) (hn:∀ t a w,N t a w → HW P t H a w):HW P s H a w:=fun b k cs =>
 let ⟨t,a1,w1,x,y⟩:=h b k cs
 let ⟨t2,a2,w2,x2,y2⟩:=hn t a1 w1 x b k cs
 ⟨t2,a2,w2,x2,y.trans y2⟩
def onlyN (N:Act → World → Prop):Exit → Act → World → Prop
 | .normal,a,w => N a w
 | _,_,_ => False
theorem HW.codeN {c:Code} {N:Act → World → Prop} (h:c.wp P (onlyN N) a w) (hn:∀ a w,N a w → HW P s H a w):HW P (.code c :: s) H a w:=fun b k cs => by
 obtain ⟨e,a1,w1,hN,harr⟩:=h b (s ++ k) cs
 cases e <;> first
   | exact hN.elim
   | skip
 obtain ⟨t,a2,w2,x,y⟩:=hn a1 w1 hN b k cs
 exact ⟨t,a2,w2,x,Steps.trans harr y⟩
theorem HW.code0 {c:Code} (h:c.wp P (onlyN fun a w => HW P s H a w) a w):HW P (.code c :: s) H a w:=.codeN h fun _ _ h => h
theorem HW.code {c:Code} {N:Act → World → Prop} (h:c.wp P (fun e a w => e=.normal ∧ N a w) a w) (hn:∀ a w,N a w → HW P s H a w):HW P (.code c :: s) H a w:=fun b k cs => by
 obtain ⟨e,a1,w1,⟨rfl,hN⟩,harr⟩:=h b (s ++ k) cs
 obtain ⟨t,a2,w2,x,y⟩:=hn a1 w1 hN b k cs
 exact ⟨t,a2,w2,x,Steps.trans harr y⟩
theorem HW.seq {x y:Code} (h:HW P (.code x :: .code y :: s) H a w):HW P (.code (.seq x y) :: s) H a w:=.step (fun _ _ _ => step_seq) h
theorem HW.cond {c:Operand} {x y:Code} {t:Bool} (hc:a.eval c=.bool t) (h:HW P (.code (if t then x else y) :: s) H a w):HW P (.code (.cond c x y) :: s) H a w:=.step (fun _ _ _ => step_cond hc) h
theorem HW.block {id:Nat} {c:Code} (h:HW P (.code c :: .inBlock id :: s) H a w):HW P (.code (.block id c) :: s) H a w:=.step (fun _ _ _ => step_block) h
theorem HW.inBlock {id:Nat} (h:HW P s H a w):HW P (.inBlock id :: s) H a w:=.step (fun _ _ _ => step_inBlock) h
theorem HW.loop {c:Code} (h:HW P (.code c :: .inLoop c :: s) H a w):HW P (.code (.loop c) :: s) H a w:=.step (fun _ _ _ => step_loop) h
theorem HW.inLoop {c:Code} (h:HW P (.code c :: .inLoop c :: s) H a w):HW P (.inLoop c :: s) H a w:=.step (fun _ _ _ => step_inLoop) h
theorem HW.skip (h:HW P s H a w):HW P (.code .skip :: s) H a w:=.step (fun _ _ _ => step_skip) h
theorem exitTo_app {id:Nat}:∀ {s s' k:List Item},exitTo id s=some s' → exitTo id (s ++ k)=some (s' ++ k)
 | [],_,_,h => by simp [exitTo] at h
 | x :: s,s',k,h => by
   cases x with
   | inBlock j =>
     simp only [exitTo,List.cons_append] at h ⊢
     split at h
     · rename_i e
       rw [if_pos e]
       cases h
       rfl
     · rename_i e
       rw [if_neg e]
       exact exitTo_app h
   | _ =>
     simp only [exitTo,List.cons_append] at h ⊢
     exact exitTo_app h
theorem HW.exit {id:Nat} (h0:exitTo id s=some s') (h:HW P s' H a w):HW P (.code (.exit id) :: s) H a w:=.step (fun _ _ _ => step_exit (exitTo_app h0)) h
end
end Go.Proofs.YthhfljldbfgpcaaGreatDoor.Co
end

section
namespace Go.Proofs.YthhfljldbfgpcaaGreatDoor
open Go.RowKit Go.Proofs.YthhfljldbfgpcaaGreatDoor.Co
attribute [local go_sem ↓] Go.wp_at_zero Go.wp_at_succ
attribute [local go_sem] run_store_float run_store_complex
theorem step_append_spare {P:Program} (w:World) {ops:Array Oper} {o:Oper} {a:Act} {K:Act → World → Prop} {Q:Exit → Act → World → Prop} {E:Prop} (hgd:o.guard=none) (s x:Operand) (t:TypeId)
   (ho:o.op=.call { callee:=.builtin .append,args:=#[s,x],argTypes:=#[t,t] })
   (base:Nat) (e:TypeId) (i:TypeInfo) (size:Nat) (ht:P.underlying t=some (.slice e)) (hi:P.info? e=some i) (hsize:i.size=size)
   (g n cap:Nat) (xs:List Value) (hs:a.eval s=.slice (some ⟨g,0,none⟩) n cap) (hown:w.ownsRow base e size (.slice (some ⟨g,0,none⟩) n cap) n xs)
   (ad:Addr) (m c:Nat) (news:List Value) (hx:a.eval x=.slice (some ad) m c) (hl:news.length=m * size) (hnews:∀ j u,news[j]?=some u → w.cell? (ad.add j)=some u) (h1:∀ u ∈ news,u.oneCell'=true)
   (hroom:n + m ≤ cap)
   (h:∀ w',w'.ownsRow base e size (.slice (some ⟨g,0,none⟩) (n + m) cap) (n + m) (xs ++ news) → w.grownBy w' (some g) → K (a.put o.dst (.slice (some ⟨g,0,none⟩) (n + m) cap)) w') :
   if Region.wanted o (yielded ops a.tmps)=true then Oper.wp P o a w K Q else E:=by
 have hw:Region.wanted o (yielded ops a.tmps)=true:=by simp [Region.wanted,hgd]
 rw [if_pos hw]
 exact wp_append_own_spare w s x t ho base e i size ht hi hsize g n cap xs hs hown ad m c news hx hl hnews h1 hroom h
structure RW (w:World) (rb cap N M gs gm:Nat) (xs:List Nat) (ys:List Int) (W:World):Prop where
 R:Box w rb #[.slice (some ⟨gs,0,none⟩) N cap,.slice (some ⟨gm,0,none⟩) M cap] 60 W
 S:W.ownsRow w.heap.size 42 1 (.slice (some ⟨gs,0,none⟩) N cap) N (xs.map floV)
 M:W.ownsRow w.heap.size 3 1 (.slice (some ⟨gm,0,none⟩) M cap) M (ys.map intV)
 hr:w.heap.size ≤ rb
section
variable {w W W':World} {rb cap N M gs gm:Nat} {xs:List Nat} {ys:List Int}
theorem RW.step (h:RW w rb cap N M gs gm xs ys W) (k:Below W.heap.size W W'):RW w rb cap N M gs gm xs ys W':=⟨h.R.step k,ownsRow_step h.S k,ownsRow_step h.M k,h.hr⟩
theorem RW.alloc (h:RW w rb cap N M gs gm xs ys W) (o:Obj):RW w rb cap N M gs gm xs ys (W.alloc o):=h.step ((Below.refl _ _).alloc (Nat.le_refl _) o)
theorem RW.drw (h:RW w rb cap N M gs gm xs ys W) (k:Drw W W'):RW w rb cap N M gs gm xs ys W':=h.step (k.below _)
theorem RW.old (h:RW w rb cap N M gs gm xs ys W):Below w.heap.size w W:=h.R.old
theorem RW.c0 (h:RW w rb cap N M gs gm xs ys W):W.cell? ⟨rb,0,none⟩=some (.slice (some ⟨gs,0,none⟩) N cap):=h.R.cell 0 _ rfl
theorem RW.c1 (h:RW w rb cap N M gs gm xs ys W):W.cell? ⟨rb,1,none⟩=some (.slice (some ⟨gm,0,none⟩) M cap):=h.R.cell 1 _ rfl
theorem RW.smooth (h:RW w rb cap N M gs gm xs ys W) {z:Nat} (hown:W'.ownsRow w.heap.size 42 1 (.slice (some ⟨gs,0,none⟩) (N + 1) cap) (N + 1) (xs.map floV ++ [floV z])) (hg:W.grownBy W' (some gs)) :
   RW w rb cap (N + 1) M gs gm (xs ++ [z]) ys (W'.setCell ⟨rb,0,none⟩ (.slice (some ⟨gs,0,none⟩) (N + 1) cap)) ∧ W'.cell? ⟨rb,0,none⟩=some (.slice (some ⟨gs,0,none⟩) N cap) ∧ W'.frozen? ⟨rb,0,none⟩=false:=by
 have hrow:∀ k,some gs=some k → w.heap.size ≤ k:=fun k hk => (h.S.lt k hk).1
 have R:=h.R.grown hg (ownsRow_ne h.S h.R.blk (by decide)) hrow
 have M:=h.M.kept hg (ownsRow_apart h.M h.S (by decide))
 refine ⟨⟨?_,?_,ownsRow_set M R.blk (by decide) _,h.hr⟩,R.cell 0 _ rfl,R.frozen 0⟩
 · have:=R.set h.hr 0 (.slice (some ⟨gs,0,none⟩) (N + 1) cap)
   exact this
 · rw [List.map_append]
   exact ownsRow_set hown R.blk (by decide) _
theorem RW.mark (h:RW w rb cap N M gs gm xs ys W) {z:Int} (hown:W'.ownsRow w.heap.size 3 1 (.slice (some ⟨gm,0,none⟩) (M + 1) cap) (M + 1) (ys.map intV ++ [intV z])) (hg:W.grownBy W' (some gm)) :
   RW w rb cap N (M + 1) gs gm xs (ys ++ [z]) (W'.setCell ⟨rb,1,none⟩ (.slice (some ⟨gm,0,none⟩) (M + 1) cap)) ∧ W'.cell? ⟨rb,1,none⟩=some (.slice (some ⟨gm,0,none⟩) M cap) ∧ W'.frozen? ⟨rb,1,none⟩=false:=by
 have hrow:∀ k,some gm=some k → w.heap.size ≤ k:=fun k hk => (h.M.lt k hk).1
 have R:=h.R.grown hg (ownsRow_ne h.M h.R.blk (by decide)) hrow
 have S:=h.S.kept hg (ownsRow_apart h.S h.M (by decide))
 refine ⟨⟨?_,ownsRow_set S R.blk (by decide) _,?_,h.hr⟩,R.cell 1 _ rfl,R.frozen 1⟩
 · have:=R.set h.hr 1 (.slice (some ⟨gm,0,none⟩) (M + 1) cap)
   exact this
 · rw [List.map_append]
   exact ownsRow_set hown R.blk (by decide) _
end
theorem heap_al (w:World) (o:Obj):(w.alloc o).heap=w.heap.push o:=rfl
theorem heap_dr (w:World):w.drew.heap=w.heap:=rfl
theorem push3 (h:Array Obj) (a b c:Obj):(((h.push a).push b).push c)[h.size]?=some a ∧ (((h.push a).push b).push c)[h.size + 1]?=some b ∧ (((h.push a).push b).push c)[h.size + 1 + 1]?=some c:=by
 refine ⟨?_,?_,?_⟩
 · rw [Array.getElem?_push,if_neg (by simp; omega),Array.getElem?_push,if_neg (by simp),Array.getElem?_push,if_pos rfl]
 · rw [Array.getElem?_push,if_neg (by simp),Array.getElem?_push,if_pos (by simp)]
 · rw [Array.getElem?_push,if_pos (by simp)]
theorem run_make_0 {P:Program} (t e:TypeId) (i:TypeInfo) (z:Value) (ht:P.underlying t=some (.slice e)) (hi:P.info? e=some i) (hz:i.zero=some z) (n:Nat) (hb:i.bytes ≤ 128) (hn:n ≤ 1099511627776) :
   ∃ C:Array Value,C.size=n * i.size ∧ ∀ w:World,(Instr.makeSlice t (.int .i64 0) (.int .i64 n)).run P w=.ok (.slice (some ⟨w.heap.size,0,none⟩) 0 n) (w.alloc (.cells C e)):=by
 refine ⟨madeCells z.cells (n * i.size),size_madeCells _ _,fun w => ?_⟩
 have hm:i.bytes * n ≤ 128 * 1099511627776:=Nat.mul_le_mul hb hn
 have hm2:((i.bytes * n:Nat):Int)=(i.bytes:Int) * n:=by simp
 have h:=run_make w t e i z ht hi hz .i64 .i64 (0:Int) n (by omega) (by omega) (by omega) (by omega)
 rw [Int.toNat_natCast] at h
 exact h
theorem RW.start {w W:World} {rb gs gm cap:Nat} {C D:Array Value} (hC:C.size=cap) (hD:D.size=cap) (hgs:w.heap.size ≤ gs) (hgm:w.heap.size ≤ gm) (hrb:w.heap.size ≤ rb) (hcap:cap ≤ 8) (hW:Below w.heap.size w W)
   (hs:W.heap[gs]?=some (.cells C 42 (0,0))) (hm:W.heap[gm]?=some (.cells D 3 (0,0)))
   (hr:W.heap[rb]?=some (.cells #[.slice (some ⟨gs,0,none⟩) 0 cap,.slice (some ⟨gm,0,none⟩) 0 cap] 60 (0,0))):RW w rb cap 0 0 gs gm [] [] W :=
 ⟨⟨hr,hW⟩,⟨by simp,.inr ⟨gs,cap,_,rfl,hgs,hs,Nat.zero_le _,by unfold maxLen; omega,by simp [hC],by simp⟩⟩,⟨by simp,.inr ⟨gm,cap,_,rfl,hgm,hm,Nat.zero_le _,by unfold maxLen; omega,by simp [hD],by simp⟩⟩,hrb⟩
structure CellOK (cx cy d n:Nat) (most:Int) (px py:Nat → Nat → Nat) (bx:Nat → Nat → Value) (st:Nat → Nat → Int) (sm:Nat → Nat → Nat):Prop where
 pt:∀ k l:Nat,k < n → l < n → ∀ W,Calls Vp.prog 20 #[.complex .f32 cx cy,.int .i64 d,.int .i64 k,.int .i64 l] W fun e w' => e=.returned (.complex .f32 (px k l) (py k l)) ∧ W=w'
 box:∀ k l:Nat,k < n → l < n → ∀ W,Calls Vp.prog 50 #[.complex .f32 (px k l) (py k l),.int .i64 d] W fun e w' => e=.returned (bx k l) ∧ Below W.heap.size W w'
 state:∀ k l:Nat,k < n → l < n → ∀ W,Calls Vp.prog 41 #[bx k l,.int .i64 most] W fun e w' => e=.returned (.tuple #[.int .i64 (st k l),.bool true]) ∧ Below W.heap.size W w'
 smooth:∀ k l:Nat,k < n → l < n → ∀ W,Calls Vp.prog 12 #[.complex .f32 (px k l) (py k l),.int .i64 most] W fun e w' => e=.returned (.float .f32 (sm k l)) ∧ Below W.heap.size W w'
noncomputable def sBody:Code:=Tryz.f21.body.getD .skip
noncomputable def sX0:Code:=match sBody with | .seq _ (.seq _ (.block _ (.loop x))) => x | _ => .skip
noncomputable def sRow:Code:=match sX0 with | .seq _ (.seq _ (.seq (.block _ r) _)) => r | _ => .skip
noncomputable def sR3:Code:=match sRow with | .seq a _ => a | _ => .skip
noncomputable def sR4:Code:=match sRow with | .seq _ (.seq a _) => a | _ => .skip
noncomputable def sIn:Code:=match sRow with | .seq _ (.seq _ (.seq a _)) => a | _ => .skip
def RowN (ch:Value) (cx cy d n:Nat) (most:Int) (st:Nat → Nat → Int) (sm:Nat → Nat → Nat) (ds:List Deferred) (w:World) (i:Nat) (a:Act) (W:World):Prop :=
 ∃ rb gs gm,a.tmps.size=61 ∧ a.defers=ds ∧ a.tmps[0]?=some ch ∧ a.tmps[1]?=some (.complex .f32 cx cy) ∧ a.tmps[2]?=some (.int .i64 d) ∧ a.tmps[3]?=some (.int .i64 n) ∧ a.tmps[4]?=some (.int .i64 most) ∧
   a.tmps[17]?=some (.int .i64 n) ∧ a.tmps[18]?=some (.int .i64 i) ∧ a.tmps[11]?=some (.pointer (some ⟨rb,0,none⟩)) ∧ RW w rb n n n gs gm ((List.range n).map (sm i)) ((List.range n).map (st i)) W
set_option maxRecDepth 100000 in
set_option maxHeartbeats 8000000 in
theorem in_wp {cx cy d n:Nat} {most:Int} {px py:Nat → Nat → Nat} {bx:Nat → Nat → Value} {st:Nat → Nat → Int} {sm:Nat → Nat → Nat} (C:CellOK cx cy d n most px py bx st sm) (hn:n ≤ 8) (i:Nat) (hi:i < n) (ch:Value) (ds:List Deferred) (rb gs gm:Nat) (x5 x6 x7 x8 x9 x12 x13 x14 x15 x16 x19 x20 x21 x23 x25 x26 x27 x28 x29 x30 x31 x32 x33 x34 x35 x36 x37 x38 x39 x40 x41 x42 x43 x44 x45 x46 x47 x48 x49 x50 x51 x52 x53 x54 x55 x56 x57 x58 x59 x60:Value) (w W:World) (T:RW w rb n 0 0 gs gm [] [] W) :
   sIn.wp Vp.prog (onlyN fun a w3 => RowN ch cx cy d n most st sm ds w i a w3) ⟨#[ch,.complex .f32 cx cy,.int .i64 d,.int .i64 n,.int .i64 most,x5,x6,x7,x8,x9,.int .i64 i,.pointer (some ⟨rb,0,none⟩),x12,x13,x14,x15,x16,.int .i64 n,.int .i64 i,x19,x20,x21,.slice (some ⟨gs,0,none⟩) 0 n,x23,.slice (some ⟨gm,0,none⟩) 0 n,x25,x26,x27,x28,x29,x30,x31,x32,x33,x34,x35,x36,x37,x38,x39,x40,x41,x42,x43,x44,x45,x46,x47,x48,x49,x50,x51,x52,x53,x54,x55,x56,x57,x58,x59,x60],ds⟩ W:=by
 obtain ⟨iF,hiF,hzF0,hzF1,hzF2⟩:=info_parts infoF
 obtain ⟨iI,hiI,hzI0,hzI1,hzI2⟩:=info_parts infoI
 have HT:=Lib.hid T
 have HC:=Lib.hid C
 clear T C
 unfold sIn sRow sX0 sBody Tryz.f21
 dsimp only [Option.getD]
 go_wp2
 go_loopw [12,13,14,15,27,28,29,30,31,32,33,34,35,36,37,38,39,40,41,42,43,44,45,46,47,48,49,50,51,52,53,54,55,56,57] (fun _ _ _ _ c _ _ _ _ _ _ _ _ _ _ _ _ _ _ _ _ _ _ _ _ _ _ _ _ _ _ _ _ _ _ wr => ∃ l:Nat,l ≤ n ∧ c=.int .i64 l ∧ Hid (RW w rb n l l gs gm ((List.range l).map (sm i)) ((List.range l).map (st i)) wr)) (fun _ _ _ _ c _ _ _ _ _ _ _ _ _ _ _ _ _ _ _ _ _ _ _ _ _ _ _ _ _ _ _ _ _ _ _ => (n - intOf c).toNat)
 case atStart => exact ⟨0,by omega,rfl,HT⟩
 case round =>
   clear HT
   obtain ⟨l,hl,rfl,HT⟩:=hrel
   obtain ⟨wo,rfl⟩:∃ wo,wo=wr:=⟨_,rfl⟩
   by_cases hls:l < n
   · go_wp2_with fail
     refine (HC.out.pt i l hi hls _).mono ?_
     rintro e w1 ⟨rfl,rfl⟩
     go_wp2_with fail
     refine (HC.out.box i l hi hls _).mono ?_
     rintro e w2 ⟨rfl,hb⟩
     have HT1:=Lib.hid (HT.out.step hb)
     clear HT hb
     go_wp2_with fail
     refine (HC.out.state i l hi hls _).mono ?_
     rintro e w3 ⟨rfl,hb⟩
     have T3:=HT1.out.step hb
     clear HT1 hb
     have k3:=T3.c0
     go_wp2_with fail
     go_region_law (first
       | (go_simp
          go_at_call 12
          refine (HC.out.smooth i l hi hls _).mono ?_
          rintro e w5 ⟨rfl,hb⟩
          have T5:=(T3.drw (Drw.refl _).drew).step hb
          have k5:=T5.c0
          have k5':=(T5.alloc (.cells #[.float .f32 (sm i l)] 42)).c0
          clear hb)
       | (refine step_append_spare _ (by rfl) _ _ _ (by rfl) w.heap.size 42 iF 1 (Vp.und Tryz.underlying26) hiF hzF1 gs l n (((List.range l).map (sm i)).map floV) (by rfl) (T5.S.alloc _) ⟨w5.heap.size,0,none⟩ 1 1 [floV (sm i l)] (by rfl) (by rfl) (World.news_of_block (cs:=#[floV (sm i l)]) (t:=42) (fr:=(0,0)) (heap_alloc_new w5 _)) (by simp [floV,Value.oneCell']) (by omega) ?_
          intro w6 hown hgrow
          obtain ⟨T6,k6,f6⟩:=(T5.alloc _).smooth hown hgrow))
     all_goals
       have HT6:=Lib.hid T6
       have k7:=T6.c1
       have k8:=(T6.alloc (.cells #[.int .i64 (st i l)] 3)).c1
       clear T3 T5 T6 k3 k5 k5' k6 f6 hown hgrow
       generalize w6.setCell ⟨rb,0,none⟩ (.slice (some ⟨gs,0,none⟩) (l + 1) n)=w7 at *
       go_wp2_with (at_builtin; refine wpList_append_own_spare _ rfl _ _ _ rfl w.heap.size 3 iI 1 (Vp.und Tryz.underlying27) hiI hzI1 gm l n (((List.range l).map (st i)).map intV) rfl (HT6.out.M.alloc _) ⟨w7.heap.size,0,none⟩ 1 1 [intV (st i l)] rfl rfl (World.news_of_block (cs:=#[intV (st i l)]) (t:=3) (fr:=(0,0)) (heap_alloc_new w7 _)) (by simp [intV,Value.oneCell']) (by omega) ?_; intro w8 hown hgrow; obtain ⟨T8,k9,f9⟩:=(HT6.out.alloc _).mark hown hgrow; have HT8:=Lib.hid T8; clear T8 hown hgrow)
       go_roundw
       case rel => exact ⟨l + 1,by omega,by go_num,(by show RW _ _ _ _ _ _ _ _ _ _; rw [List.range_succ,List.map_append,List.map_append]; exact HT8.out)⟩
       case measure => simp [intOf]; omega
   · obtain rfl:l=n:=by omega
     go_wp2
     exact ⟨rb,gs,gm,rfl,rfl,rfl,rfl,rfl,rfl,rfl,rfl,rfl,rfl,HT.out⟩
set_option maxRecDepth 100000 in
set_option maxHeartbeats 8000000 in
theorem row_wp {cx cy d n:Nat} {most:Int} {px py:Nat → Nat → Nat} {bx:Nat → Nat → Value} {st:Nat → Nat → Int} {sm:Nat → Nat → Nat} (C:CellOK cx cy d n most px py bx st sm) (hn:n ≤ 8) (i:Nat) (hi:i < n) (ch:Value) (ds:List Deferred) (x5 x6 x7 x8 x9 x10 x11 x12 x13 x14 x15 x16 x19 x20 x21 x22 x23 x24 x25 x26 x27 x28 x29 x30 x31 x32 x33 x34 x35 x36 x37 x38 x39 x40 x41 x42 x43 x44 x45 x46 x47 x48 x49 x50 x51 x52 x53 x54 x55 x56 x57 x58 x59 x60:Value) (w:World) :
   sR3.wp Vp.prog (onlyN fun a w1 => sR4.wp Vp.prog (onlyN fun a w2 => sIn.wp Vp.prog (onlyN fun a w3 => RowN ch cx cy d n most st sm ds w i a w3) a w2) a w1) ⟨#[ch,.complex .f32 cx cy,.int .i64 d,.int .i64 n,.int .i64 most,x5,x6,x7,x8,x9,x10,x11,x12,x13,x14,x15,x16,.int .i64 n,.int .i64 i,x19,x20,x21,x22,x23,x24,x25,x26,x27,x28,x29,x30,x31,x32,x33,x34,x35,x36,x37,x38,x39,x40,x41,x42,x43,x44,x45,x46,x47,x48,x49,x50,x51,x52,x53,x54,x55,x56,x57,x58,x59,x60],ds⟩ w:=by
 obtain ⟨iF,hiF,hzF0,hzF1,hzF2⟩:=info_parts infoF
 obtain ⟨iI,hiI,hzI0,hzI1,hzI2⟩:=info_parts infoI
 obtain ⟨cF,hcF,hF⟩:=run_make_0 (P:=Vp.prog) 26 42 iF _ (Vp.und Tryz.underlying26) hiF hzF0 n (by omega) (by omega)
 obtain ⟨cI,hcI,hI⟩:=run_make_0 (P:=Vp.prog) 27 3 iI _ (Vp.und Tryz.underlying27) hiI hzI0 n (by omega) (by omega)
 unfold sR3 sRow sX0 sBody Tryz.f21
 dsimp only [Option.getD]
 go_wp2
 show Code.wp Vp.prog sR4 _ _ _
 unfold sR4 sRow sX0 sBody Tryz.f21
 dsimp only [Option.getD]
 go_region
 all_goals
   clear hF hI
   refine in_wp C hn i hi ch ds _ _ _ _ _ _ _ _ _ _ _ _ _ _ _ _ _ _ _ _ _ _ _ _ _ _ _ _ _ _ _ _ _ _ _ _ _ _ _ _ _ _ _ _ _ _ _ _ _ _ _ _ _ w _ ?_
   refine RW.start (cap:=n) (by rw [hcF,hzF1]; omega) (by rw [hcI,hzI1]; omega) (by omega) (by omega) (by omega) hn ?_ ?_ ?_ ?_
   · exact ((((Below.refl _ _).alloc (Nat.le_refl _) _).alloc (by simp) _).alloc (by simp; omega) _).drew
   all_goals
     simp only [heap_al,heap_dr]
     first | exact (push3 _ _ _ _).1 | exact (push3 _ _ _ _).2.1 | exact (push3 _ _ _ _).2.2
end Go.Proofs.YthhfljldbfgpcaaGreatDoor
end

section
namespace Go.Proofs.YthhfljldbfgpcaaGreatDoor
open Go.RowKit Flo
attribute [local go_sem ↓] Go.wp_at_zero Go.wp_at_succ
attribute [local go_sem] run_store_float run_store_complex
structure TRec where
 cx:Nat
 cy:Nat
 deep:Int
 size:Int
 gs:Nat
 cs:Nat
 gm:Nat
 cm:Nat
 xs:List Nat
 ys:List Int
def TRec.n (t:TRec):Nat:=t.size.toNat * t.size.toNat
def TRec.cells (t:TRec):List Value:=[.complex .f32 t.cx t.cy,.int .i64 t.deep,.int .i64 t.size,.slice (some ⟨t.gs,0,none⟩) t.n t.cs,.slice (some ⟨t.gm,0,none⟩) t.n t.cm]
structure TOwn (B:Nat) (t:TRec) (W:World):Prop where
 made:Made B t.n t.xs t.ys (.slice (some ⟨t.gs,0,none⟩) t.n t.cs) (.slice (some ⟨t.gm,0,none⟩) t.n t.cm) W
 pl:placeB t.cx t.cy t.deep t.size=true
 bx:t.cx < 4294967296
 by1:t.cy < 4294967296
 ks:t.n ≤ t.cs
 km:t.n ≤ t.cm
theorem TOwn.step {B:Nat} {t:TRec} {W W':World} (h:TOwn B t W) (k:Below W.heap.size W W'):TOwn B t W':=⟨h.made.step k,h.pl,h.bx,h.by1,h.ks,h.km⟩
def cellsL (L:List TRec):List Value:=L.flatMap TRec.cells
structure TList (B:Nat) (L:List TRec) (v:Value) (W:World):Prop where
 row:W.ownsRow B 29 5 v L.length (cellsL L)
 own:∀ t,t ∈ L → TOwn B t W
theorem TList.step {B:Nat} {L:List TRec} {v:Value} {W W':World} (h:TList B L v W) (k:Below W.heap.size W W'):TList B L v W':=⟨ownsRow_step h.row k,fun t ht => (h.own t ht).step k⟩
theorem Made.far {B n:Nat} {xs:List Nat} {ys:List Int} {smv mkv:Value} {W:World} (h:Made B n xs ys smv mkv W) {w0:World} {b:Nat} {C:Array Value} (hb:Box w0 b C 29 W) (j:Nat) (u:Value):Made B n xs ys smv mkv (W.setCell ⟨b,j,none⟩ u):=h.set hb.blk j u
theorem TOwn.far {B:Nat} {t:TRec} {W:World} (h:TOwn B t W) {w0:World} {b:Nat} {C:Array Value} (hb:Box w0 b C 29 W) (j:Nat) (u:Value):TOwn B t (W.setCell ⟨b,j,none⟩ u):=⟨h.made.far hb j u,h.pl,h.bx,h.by1,h.ks,h.km⟩
theorem ownsRow_mono {w:World} {base base':Nat} {e:TypeId} {size:Nat} {v:Value} {n:Nat} {xs:List Value} (h:w.ownsRow base e size v n xs) (hB:base' ≤ base):w.ownsRow base' e size v n xs:=by
 obtain ⟨s1,s2⟩:=h
 refine ⟨s1,?_⟩
 rcases s2 with h | ⟨g,cap,cur,h1,h2,r⟩
 · exact .inl h
 · exact .inr ⟨g,cap,cur,h1,Nat.le_trans hB h2,r⟩
theorem TOwn.lens {B:Nat} {t:TRec} {W:World} (h:TOwn B t W):t.xs.length=t.n ∧ t.ys.length=t.n:=⟨h.made.lx,h.made.ly⟩
end Go.Proofs.YthhfljldbfgpcaaGreatDoor
end

section
namespace Go.Proofs.YthhfljldbfgpcaaGreatDoor
open Go.RowKit Flo
abbrev D3:=Int × Int × Nat
def D3.cells (r:D3):List Value:=[.int .i64 r.1,.int .i64 r.2.1,.int .i64 r.2.2]
def cellsD (L:List D3):List Value:=L.flatMap D3.cells
theorem cellsD_snoc (L:List D3) (t:D3):cellsD (L ++ [t])=cellsD L ++ t.cells:=by unfold cellsD; rw [List.flatMap_append,List.flatMap_singleton]
theorem cellsD_at:∀ (L:List D3) (k j:Nat) (t:D3) (v:Value),L[k]?=some t → t.cells[j]?=some v → (cellsD L)[k * 3 + j]?=some v
 | [],k,j,t,v,h,_ => by simp at h
 | u :: L,0,j,t,v,h,hv => by
   have e:u=t:=by simpa using h
   subst e
   show (u.cells ++ cellsD L)[0 * 3 + j]?=_
   have hj:j < 3:=(List.getElem?_eq_some_iff.1 hv).1
   rw [List.getElem?_append_left (by show 0 * 3 + j < 3; omega),Nat.zero_mul,Nat.zero_add]
   exact hv
 | u :: L,k + 1,j,t,v,h,hv => by
   show (u.cells ++ cellsD L)[(k + 1) * 3 + j]?=_
   rw [List.getElem?_append_right (by show 3 ≤ (k + 1) * 3 + j; omega)]
   show (cellsD L)[(k + 1) * 3 + j - 3]?=_
   rw [show (k + 1) * 3 + j - 3=k * 3 + j by omega]
   exact cellsD_at L k j t v (by simpa using h) hv
def OrbD (a b:Rat) (L:List D3):Prop:=∀ i r,L[i]?=some r → dyadB r.1 r.2.1 r.2.2=true ∧ dv r.1 r.2.2=(zq a b i).1 ∧ dv r.2.1 r.2.2=(zq a b i).2
theorem OrbD.snoc {a b:Rat} {L:List D3} (h:OrbD a b L) {r:D3} (h1:dyadB r.1 r.2.1 r.2.2=true) (h2:dv r.1 r.2.2=(zq a b L.length).1) (h3:dv r.2.1 r.2.2=(zq a b L.length).2):OrbD a b (L ++ [r]):=by
 intro i s hs
 by_cases hi:i < L.length
 · rw [List.getElem?_append_left hi] at hs
   exact h i s hs
 · rw [List.getElem?_append_right (by omega)] at hs
   by_cases h0:i - L.length=0
   · rw [h0] at hs
     injection hs with hs
     obtain rfl:i=L.length:=by omega
     rw [← hs]
     exact ⟨h1,h2,h3⟩
   · rw [List.getElem?_eq_none (by simp; omega)] at hs
     cases hs
def OrbOut (w:World) (a b:Rat) (e:Ending) (w':World):Prop :=
 (∃ (L:List D3) (g cap:Nat),e=.returned (.tuple #[.slice (some ⟨g,0,none⟩) L.length cap,.bool true]) ∧ L.length ≤ 40 ∧ w'.ownsRow w.heap.size 36 3 (.slice (some ⟨g,0,none⟩) L.length cap) L.length (cellsD L) ∧ OrbD a b L) ∧ Below w.heap.size w w'
def lenOf:Value → Nat
 | .slice _ n _ => n
 | _ => 0
theorem infoD:(Vp.prog.info? 36).map (fun i => (i.zero,i.size,i.bytes))=some (some (.agg #[.int .i64 0,.int .i64 0,.int .i64 0]),3,24):=by kernel_rfl
set_option maxRecDepth 100000 in
set_option maxHeartbeats 8000000 in
theorem dyadOrbit_is (u v:Int) (l:Nat) (hv:dyadB u v l=true) (w:World) :
   Calls Vp.prog 14 #[.agg #[.int .i64 u,.int .i64 v,.int .i64 l],.int .i64 40] w (OrbOut w (dv u l) (dv v l)):=by
 have HV:=Lib.hid (fun w => valid_ok u v l hv w)
 have HS:=Lib.hid (fun (x y:Int) (k:Nat) (h:dyadB x y k=true) w => dyadSquare_told x y k h w)
 have HA:=Lib.hid (fun (x y:Int) (k:Nat) (h:dyadB x y k=true) w => dyadAdd_told x y k u v l h hv w)
 have X:=Box.new w #[.int .i64 u,.int .i64 v,.int .i64 l] 36
 have HX:=Lib.hid X
 obtain ⟨x0,x1,x2⟩:=X.cells3
 clear X hv
 obtain ⟨iT,hiT,hzT0,hzT1,hzT2⟩:=info_parts infoD
 obtain ⟨cT,hcT,hT⟩:=run_make_0 (P:=Vp.prog) 46 36 iT _ (Vp.und Tryz.underlying46) hiT hzT0 40 (by omega) (by omega)
 have hT4:∀ w:World,(Instr.makeSlice 46 (.int .i64 0) (.int .i64 40)).run Vp.prog w=.ok (.slice (some ⟨w.heap.size,0,none⟩) 0 40) (w.alloc (.cells cT 36)):=hT
 have hcT2:cT.size=40 * 3:=by rw [hcT,hzT1]
 go_enter Vp.func14,Tryz.ntmps14
 go_wp2_with fail
 refine (HV.out _).mono ?_
 rintro e w1 ⟨rfl,hb⟩
 have HX1:=Lib.hid (((HX.out.step hb).alloc (.cells cT 36)).alloc (.cells #[.int .i64 0,.int .i64 0,.int .i64 0] 36))
 have hs1:w.heap.size < w1.heap.size:=(HX.out.step hb).lt
 have HZ1:Hid (Box w (w1.heap.size + 1) #[.int .i64 0,.int .i64 0,.int .i64 0] 36 ((w1.alloc (.cells cT 36)).alloc (.cells #[.int .i64 0,.int .i64 0,.int .i64 0] 36))):=by
   have:=(Box.new (w1.alloc (.cells cT 36)) #[.int .i64 0,.int .i64 0,.int .i64 0] 36).up ((HX.out.step hb).alloc (.cells cT 36)).old
   rw [World.size_alloc] at this
   exact this
 have HR1:Hid (((w1.alloc (.cells cT 36)).alloc (.cells #[.int .i64 0,.int .i64 0,.int .i64 0] 36)).ownsRow (w.heap.size + 1) 36 3 (.slice (some ⟨w1.heap.size,0,none⟩) 0 40) 0 (cellsD [])):=by
   have h0:(w1.alloc (.cells cT 36)).ownsRow (w.heap.size + 1) 36 3 (.slice (some ⟨w1.heap.size,0,none⟩) 0 40) 0 (cellsD []) :=
     ⟨by simp [cellsD],.inr ⟨w1.heap.size,40,cT,rfl,hs1,heap_alloc_new w1 _,by simp,by unfold maxLen; omega,hcT2,by simp [cellsD]⟩⟩
   exact ownsRow_step h0 ((Below.refl _ _).alloc (Nat.le_refl _) _)
 clear hb x0 x1 x2 HX HV
 go_wp2
 generalize (w1.alloc (.cells cT 36)).alloc (.cells #[.int .i64 0,.int .i64 0,.int .i64 0] 36)=W2 at *
 generalize hg0:w1.heap.size=g0 at *
 generalize hzb:g0 + 1=zb at *
 have hzw:w.heap.size + 1 ≤ zb ∧ g0 ≠ zb:=by omega
 have hpw:w.heap.size < W2.heap.size:=HX1.out.lt
 clear hcT hT hT4 hcT2 hg0 hzb
 go_loopw [6,8,9] (fun o p q wr => ∃ (g cap n:Nat) (L:List D3) (x y:Int) (k:Nat),n ≤ 40 ∧ o=.slice (some ⟨g,0,none⟩) n cap ∧ Hid (L.length=n) ∧ Hid (wr.ownsRow (w.heap.size + 1) 36 3 (.slice (some ⟨g,0,none⟩) n cap) n (cellsD L)) ∧ Hid (OrbD (dv u l) (dv v l) L) ∧ g ≠ zb ∧ Hid (Box w zb #[.int .i64 x,.int .i64 y,.int .i64 k] 36 wr) ∧ Hid (Box w w.heap.size #[.int .i64 u,.int .i64 v,.int .i64 l] 36 wr) ∧ Hid (dyadB x y k=true ∧ dv x k=(zq (dv u l) (dv v l) n).1 ∧ dv y k=(zq (dv u l) (dv v l) n).2)) (fun o _ _ _ => 40 - lenOf o)
 case atStart => exact ⟨g0,40,0,[],0,0,0,by omega,rfl,rfl,HR1.out,(fun i r h => by simp at h),hzw.2,HZ1.out,HX1.out,by decide,by unfold dv; simp [zq]; decide +kernel,by unfold dv; simp [zq]; decide +kernel⟩
 case round =>
   obtain ⟨g,cap,n,L,x,y,k,hn,rfl,HL,HR,HO,hgz,HZ,HX,HD⟩:=hrel
   clear HR1 HZ1 HX1
   obtain ⟨z0,z1,z2⟩:=HZ.out.cells3
   obtain ⟨x0,x1,x2⟩:=HX.out.cells3
   by_cases hlt:n < 40
   · have hzl:=HZ.out.lt
     go_upto_region 7 with (at_builtin; go_must (refine wpList_append_lies _ rfl _ _ _ rfl (w.heap.size + 1) 36 iT _ 3 24 (Vp.und Tryz.underlying46) hiT hzT0 hzT1 hzT2 rfl (by omega) _ n (cellsD L) rfl (HR.out.alloc (.cells #[.int .i64 x,.int .i64 y,.int .i64 k] 36)) ⟨wr.heap.size,0,none⟩ 1 1 [.int .i64 x,.int .i64 y,.int .i64 k] rfl rfl (World.news_of_block (cs:=#[.int .i64 x,.int .i64 y,.int .i64 k]) (t:=36) (fr:=(0,0)) (heap_alloc_new wr (.cells #[.int .i64 x,.int .i64 y,.int .i64 k] 36))) (by intro u hu; simp only [List.mem_cons,List.not_mem_nil,or_false] at hu; rcases hu with rfl | rfl | rfl <;> rfl) (by omega) (by unfold maxLen; omega) (by omega) (by simp; omega) (wr.heap.size + 1) (by simp) ?_); intro g8 c8 w8 hown hgrow hg8 _)
     have ZA:=HZ.out.alloc (.cells #[.int .i64 x,.int .i64 y,.int .i64 k] 36)
     have XA:=HX.out.alloc (.cells #[.int .i64 x,.int .i64 y,.int .i64 k] 36)
     have hge:w.heap.size + 1 ≤ g:=own_ge HR.out
     have hrow:∀ j,(some g:Option Nat)=some j → w.heap.size ≤ j:=fun j hj => by injection hj with hj; omega
     have HZ8:=Lib.hid (ZA.grown (row:=some g) hgrow (fun e => by injection e with e; exact hgz e) hrow)
     have HX8:=Lib.hid (XA.grown (row:=some g) hgrow (fun e => by injection e with e; omega) hrow)
     have hgz8:g8 ≠ zb:=by
       rcases hg8 with h | h
       · have h:some g=some g8:=h
         injection h with h
         omega
       · have h:g8=wr.heap.size + 1:=h
         omega
     have HR8:Hid (w8.ownsRow (w.heap.size + 1) 36 3 (.slice (some ⟨g8,0,none⟩) (n + 1) c8) (n + 1) (cellsD (L ++ [((x,y,k):D3)]))):=by
       rw [cellsD_snoc]
       exact hown
     have HO8:Hid (OrbD (dv u l) (dv v l) (L ++ [((x,y,k):D3)])):=HO.out.snoc HD.out.1 (by rw [HL.out]; exact HD.out.2.1) (by rw [HL.out]; exact HD.out.2.2)
     have HL8:Hid ((L ++ [((x,y,k):D3)]).length=n + 1):=by show _=_; rw [List.length_append,HL.out]; rfl
     have HSQ:=Lib.hid (HS.out x y k HD.out.1)
     have HB8:=Lib.hid HX8.out.old
     have HDONE:Hid (∀ W,Below w8.heap.size w8 W → OrbOut w (dv u l) (dv v l) (.returned (.tuple #[.slice (some ⟨g8,0,none⟩) (n + 1) c8,.bool true])) W):=fun W hb =>
       ⟨⟨_,g8,c8,by rw [HL8.out],by rw [HL8.out]; omega,by rw [HL8.out]; exact ownsRow_mono (ownsRow_step HR8.out hb) (by omega),HO8.out⟩,HB8.out.trans (hb.mono HB8.out.size)⟩
     clear hown hgrow hg8 ZA XA z0 z1 z2 x0 x1 x2 hge hrow HZ HX HR HO HL
     obtain ⟨z0,z1,z2⟩:=HZ8.out.cells3
     go_wp2_with fail
     refine (HSQ.out _).mono ?_
     rintro e w9 ⟨⟨a,b,kk,rfl,hvs,ha,hb'⟩ | rfl,hb9⟩
     · have HZ9:=Lib.hid ((HZ8.out.step hb9).alloc (.cells #[.int .i64 a,.int .i64 b,.int .i64 kk] 36))
       have HX9:=Lib.hid ((HX8.out.step hb9).alloc (.cells #[.int .i64 a,.int .i64 b,.int .i64 kk] 36))
       have HY9:=Lib.hid (Box.new w9 #[.int .i64 a,.int .i64 b,.int .i64 kk] 36)
       have HR9:=Lib.hid (ownsRow_step (ownsRow_step HR8.out hb9) ((Below.refl _ _).alloc (Nat.le_refl _) (.cells #[.int .i64 a,.int .i64 b,.int .i64 kk] 36)))
       have HB9:=Lib.hid (hb9.alloc hb9.size (.cells #[.int .i64 a,.int .i64 b,.int .i64 kk] 36))
       have HAD:=Lib.hid (HA.out a b kk hvs)
       have HAB:=Lib.hid (And.intro ha hb')
       clear z0 z1 z2 hb9 hvs ha hb' HSQ
       obtain ⟨y0,y1,y2⟩:=HY9.out.cells3
       obtain ⟨x0,x1,x2⟩:=HX9.out.cells3
       go_wp2_with fail
       refine (HAD.out _).mono ?_
       rintro e w10 ⟨⟨a',b',k',rfl,hvs,ha,hb'⟩ | rfl,hb10⟩
       · have Z10:=HZ9.out.step hb10
         have HB10:=Lib.hid (HB9.out.trans (hb10.mono HB9.out.size))
         obtain ⟨q0,q1,q2⟩:=Z10.cells3
         obtain ⟨f0,f1,f2⟩:=Z10.free3
         have hzl10:=Z10.lt
         have HZ11:=Lib.hid (Z10.set3 (by omega) (.int .i64 a') (.int .i64 b') (.int .i64 k'))
         have HX11:=Lib.hid ((HX9.out.step hb10).other3 (p:=zb) (by omega) (by omega) (.int .i64 a') (.int .i64 b') (.int .i64 k'))
         have HR10:=ownsRow_step HR9.out hb10
         have HR11:Hid ((((w10.setCell ⟨zb,0,none⟩ (.int .i64 a')).setCell ⟨zb,1,none⟩ (.int .i64 b')).setCell ⟨zb,2,none⟩ (.int .i64 k')).ownsRow (w.heap.size + 1) 36 3 (.slice (some ⟨g8,0,none⟩) (n + 1) c8) (n + 1) (cellsD (L ++ [((x,y,k):D3)]))) :=
           ownsRow_setCell_other (ownsRow_setCell_other (ownsRow_setCell_other HR10 (by simpa [Value.ownBlock] using hgz8) _) (by simpa [Value.ownBlock] using hgz8) _) (by simpa [Value.ownBlock] using hgz8) _
         have HD11:Hid (dyadB a' b' k'=true ∧ dv a' k'=(zq (dv u l) (dv v l) (n + 1)).1 ∧ dv b' k'=(zq (dv u l) (dv v l) (n + 1)).2):=by
           obtain ⟨-,d1,d2⟩:=HD.out
           refine ⟨hvs,?_,?_⟩
           · rw [ha,HAB.out.1,d1,d2]; rfl
           · rw [hb',HAB.out.2,d1,d2]; rfl
         clear x0 x1 x2 y0 y1 y2 hb10 Z10 HR10 ha hb' hvs
         go_wp2
         go_roundw
         case rel => exact ⟨g8,c8,n + 1,L ++ [((x,y,k):D3)],a',b',k',by omega,rfl,HL8,HR11,HO8,hgz8,HZ11,HX11,HD11⟩
         case measure => simp [lenOf]; omega
       · have Z10:=HZ9.out.step hb10
         have HR10:=ownsRow_step HR9.out hb10
         have hzl10:=Z10.lt
         have HX11:=Lib.hid ((HX9.out.step hb10).other3 (p:=zb) (by omega) (by omega) (.int .i64 0) (.int .i64 0) (.int .i64 0))
         have HR11:Hid ((((w10.setCell ⟨zb,0,none⟩ (.int .i64 0)).setCell ⟨zb,1,none⟩ (.int .i64 0)).setCell ⟨zb,2,none⟩ (.int .i64 0)).ownsRow (w.heap.size + 1) 36 3 (.slice (some ⟨g8,0,none⟩) (n + 1) c8) (n + 1) (cellsD (L ++ [((x,y,k):D3)]))) :=
           ownsRow_setCell_other (ownsRow_setCell_other (ownsRow_setCell_other HR10 (by simpa [Value.ownBlock] using hgz8) _) (by simpa [Value.ownBlock] using hgz8) _) (by simpa [Value.ownBlock] using hgz8) _
         have HE:Hid (OrbOut w (dv u l) (dv v l) (.returned (.tuple #[.slice (some ⟨g8,0,none⟩) (n + 1) c8,.bool true])) (((w10.setCell ⟨zb,0,none⟩ (.int .i64 0)).setCell ⟨zb,1,none⟩ (.int .i64 0)).setCell ⟨zb,2,none⟩ (.int .i64 0))) :=
           ⟨⟨_,g8,c8,by rw [HL8.out],by rw [HL8.out]; omega,by rw [HL8.out]; exact ownsRow_mono HR11.out (by omega),HO8.out⟩,HX11.out.old⟩
         obtain ⟨q0,q1,q2⟩:=Z10.cells3
         obtain ⟨f0,f1,f2⟩:=Z10.free3
         clear x0 x1 x2 y0 y1 y2 hb10 Z10 HR10
         go_wp2
         go_ret2
         exact HE.out
     · have HE:=Lib.hid (HDONE.out _ (hb9.alloc hb9.size (.cells #[.int .i64 0,.int .i64 0,.int .i64 0] 36)))
       clear z0 z1 z2 hb9
       go_wp2
       go_ret2
       exact HE.out
   · obtain rfl:n=40:=by omega
     have HR4:Hid (wr.ownsRow w.heap.size 36 3 (.slice (some ⟨g,0,none⟩) 40 cap) 40 (cellsD L)):=ownsRow_mono HR.out (by omega)
     have HB:=Lib.hid HX.out.old
     go_wp2
     go_ret2
     exact ⟨⟨L,g,cap,by rw [HL.out]; rfl,by rw [HL.out]; omega,by rw [HL.out]; exact HR4.out,HO.out⟩,HB.out⟩
end Go.Proofs.YthhfljldbfgpcaaGreatDoor
end
