/- Merged texts: Row, LrA. -/
import Derived.Test.YtokbalggdhippaaGreatR4
import Derived.Deep.Cut
import Derived.Deep.RegionHeld3
import Derived.Deep.RegionLaw
import Derived.Test.YtokbalggdhippaaGreatR14
import Derived.Deep.DeepAppendRoom
import Derived.Conc.Own
import Derived.Conc.Events
set_option linter.all false
section
namespace Go.Proofs.YtokbalggdhippaaGreat
open Go.RowKit Go.Proofs.YtokbalggdhippaaGreat.Co
attribute [local go_sem ↓] Go.wp_at_zero Go.wp_at_succ
attribute [local go_sem] run_store_float run_store_complex
theorem step_append_spare {P:Program} (w:World) {ops:Array Oper} {o:Oper} {a:Act} {K:Act → World → Prop} {Q:Exit → Act → World → Prop} {E:Prop} (hgd:o.guard=none) (s x:Operand) (t:TypeId)
   (ho:o.op=.call { callee:=.builtin .append,args:=#[s,x],argTypes:=#[t,t] })
   (base:Nat) (e:TypeId) (i:TypeInfo) (size:Nat) (ht:P.underlying t=some (.slice e)) (hi:P.info? e=some i) (hsize:i.size=size)
   (g n cap:Nat) (xs:List Value) (hs:a.eval s=.slice (some ⟨g,0,none⟩) n cap) (hown:w.ownsRow base e size (.slice (some ⟨g,0,none⟩) n cap) n xs)
   (ad:Addr) (m c:Nat) (news:List Value) (hx:a.eval x=.slice (some ad) m c) (hl:news.length=m * size) (hnews:∀ j u,news[j]?=some u → w.cell? (ad.add j)=some u) (h1:∀ u ∈ news,u.oneCell'=true)
   (hroom:n + m ≤ cap)
   (h:∀ w',w'.ownsRow base e size (.slice (some ⟨g,0,none⟩) (n + m) cap) (n + m) (xs ++ news) → w.grownBy w' (some g) → K (a.put o.dst (.slice (some ⟨g,0,none⟩) (n + m) cap)) w') :
   if Region.wanted o (yielded ops a.tmps)=true then Oper.wp P o a w K Q else E:=by
 have hw:Region.wanted o (yielded ops a.tmps)=true:=by simp [Region.wanted,hgd]
 rw [if_pos hw]
 exact wp_append_own_spare w s x t ho base e i size ht hi hsize g n cap xs hs hown ad m c news hx hl hnews h1 hroom h
structure RW (w:World) (rb cap N M gs gm:Nat) (xs:List Nat) (ys:List Int) (W:World):Prop where
 R:Box w rb #[.slice (some ⟨gs,0,none⟩) N cap,.slice (some ⟨gm,0,none⟩) M cap] 70 W
 S:W.ownsRow w.heap.size 63 1 (.slice (some ⟨gs,0,none⟩) N cap) N (xs.map floV)
 M:W.ownsRow w.heap.size 3 1 (.slice (some ⟨gm,0,none⟩) M cap) M (ys.map intV)
 hr:w.heap.size ≤ rb
section
variable {w W W':World} {rb cap N M gs gm:Nat} {xs:List Nat} {ys:List Int}
theorem RW.step (h:RW w rb cap N M gs gm xs ys W) (k:Below W.heap.size W W'):RW w rb cap N M gs gm xs ys W':=⟨h.R.step k,ownsRow_step h.S k,ownsRow_step h.M k,h.hr⟩
theorem RW.alloc (h:RW w rb cap N M gs gm xs ys W) (o:Obj):RW w rb cap N M gs gm xs ys (W.alloc o):=h.step ((Below.refl _ _).alloc (Nat.le_refl _) o)
theorem RW.drw (h:RW w rb cap N M gs gm xs ys W) (k:Drw W W'):RW w rb cap N M gs gm xs ys W':=h.step (k.below _)
theorem RW.c0 (h:RW w rb cap N M gs gm xs ys W):W.cell? ⟨rb,0,none⟩=some (.slice (some ⟨gs,0,none⟩) N cap):=h.R.cell 0 _ rfl
theorem RW.c1 (h:RW w rb cap N M gs gm xs ys W):W.cell? ⟨rb,1,none⟩=some (.slice (some ⟨gm,0,none⟩) M cap):=h.R.cell 1 _ rfl
theorem RW.smooth (h:RW w rb cap N M gs gm xs ys W) {z:Nat} (hown:W'.ownsRow w.heap.size 63 1 (.slice (some ⟨gs,0,none⟩) (N + 1) cap) (N + 1) (xs.map floV ++ [floV z])) (hg:W.grownBy W' (some gs)) :
   RW w rb cap (N + 1) M gs gm (xs ++ [z]) ys (W'.setCell ⟨rb,0,none⟩ (.slice (some ⟨gs,0,none⟩) (N + 1) cap)) ∧ W'.cell? ⟨rb,0,none⟩=some (.slice (some ⟨gs,0,none⟩) N cap) ∧ W'.frozen? ⟨rb,0,none⟩=false:=by
 have hrow:∀ k,some gs=some k → w.heap.size ≤ k:=fun k hk => (h.S.lt k hk).1
 have R:=h.R.grown hg (ownsRow_ne h.S h.R.blk (by decide)) hrow
 have M:=h.M.kept hg (ownsRow_apart h.M h.S (by decide))
 refine ⟨⟨?_,?_,ownsRow_set M R.blk (by decide) _,h.hr⟩,R.cell 0 _ rfl,R.frozen 0⟩
 · have:=R.set h.hr 0 (.slice (some ⟨gs,0,none⟩) (N + 1) cap)
   exact this
 · rw [List.map_append]
   exact ownsRow_set hown R.blk (by decide) _
theorem RW.mark (h:RW w rb cap N M gs gm xs ys W) {z:Int} (hown:W'.ownsRow w.heap.size 3 1 (.slice (some ⟨gm,0,none⟩) (M + 1) cap) (M + 1) (ys.map intV ++ [intV z])) (hg:W.grownBy W' (some gm)) :
   RW w rb cap N (M + 1) gs gm xs (ys ++ [z]) (W'.setCell ⟨rb,1,none⟩ (.slice (some ⟨gm,0,none⟩) (M + 1) cap)) ∧ W'.cell? ⟨rb,1,none⟩=some (.slice (some ⟨gm,0,none⟩) M cap) ∧ W'.frozen? ⟨rb,1,none⟩=false:=by
 have hrow:∀ k,some gm=some k → w.heap.size ≤ k:=fun k hk => (h.M.lt k hk).1
 have R:=h.R.grown hg (ownsRow_ne h.M h.R.blk (by decide)) hrow
 have S:=h.S.kept hg (ownsRow_apart h.S h.M (by decide))
 refine ⟨⟨?_,ownsRow_set S R.blk (by decide) _,?_,h.hr⟩,R.cell 1 _ rfl,R.frozen 1⟩
 · have:=R.set h.hr 1 (.slice (some ⟨gm,0,none⟩) (M + 1) cap)
   exact this
 · rw [List.map_append]
   exact ownsRow_set hown R.blk (by decide) _
end
theorem heap_al (w:World) (o:Obj):(w.alloc o).heap=w.heap.push o:=rfl
theorem heap_dr (w:World):w.drew.heap=w.heap:=rfl
theorem push3 (h:Array Obj) (a b c:Obj):(((h.push a).push b).push c)[h.size]?=some a ∧ (((h.push a).push b).push c)[h.size + 1]?=some b ∧ (((h.push a).push b).push c)[h.size + 1 + 1]?=some c:=by
 refine ⟨?_,?_,?_⟩
 · rw [Array.getElem?_push,if_neg (by simp; omega),Array.getElem?_push,if_neg (by simp),Array.getElem?_push,if_pos rfl]
 · rw [Array.getElem?_push,if_neg (by simp),Array.getElem?_push,if_pos (by simp)]
 · rw [Array.getElem?_push,if_pos (by simp)]
theorem run_make_0 {P:Program} (t e:TypeId) (i:TypeInfo) (z:Value) (ht:P.underlying t=some (.slice e)) (hi:P.info? e=some i) (hz:i.zero=some z) (n:Nat) (hb:i.bytes ≤ 128) (hn:n ≤ 1099511627776) :
   ∃ C:Array Value,C.size=n * i.size ∧ ∀ w:World,(Instr.makeSlice t (.int .i64 0) (.int .i64 n)).run P w=.ok (.slice (some ⟨w.heap.size,0,none⟩) 0 n) (w.alloc (.cells C e)):=by
 refine ⟨madeCells z.cells (n * i.size),size_madeCells _ _,fun w => ?_⟩
 have hm:i.bytes * n ≤ 128 * 1099511627776:=Nat.mul_le_mul hb hn
 have hm2:((i.bytes * n:Nat):Int)=(i.bytes:Int) * n:=by simp
 have h:=run_make w t e i z ht hi hz .i64 .i64 (0:Int) n (by omega) (by omega) (by omega) (by omega)
 rw [Int.toNat_natCast] at h
 exact h
theorem RW.start {w W:World} {rb gs gm cap:Nat} {C D:Array Value} (hC:C.size=cap) (hD:D.size=cap) (hgs:w.heap.size ≤ gs) (hgm:w.heap.size ≤ gm) (hrb:w.heap.size ≤ rb) (hcap:cap ≤ 8) (hW:Below w.heap.size w W)
   (hs:W.heap[gs]?=some (.cells C 63 (0,0))) (hm:W.heap[gm]?=some (.cells D 3 (0,0)))
   (hr:W.heap[rb]?=some (.cells #[.slice (some ⟨gs,0,none⟩) 0 cap,.slice (some ⟨gm,0,none⟩) 0 cap] 70 (0,0))):RW w rb cap 0 0 gs gm [] [] W :=
 ⟨⟨hr,hW⟩,⟨by simp,.inr ⟨gs,cap,_,rfl,hgs,hs,Nat.zero_le _,by unfold maxLen; omega,by simp [hC],by simp⟩⟩,⟨by simp,.inr ⟨gm,cap,_,rfl,hgm,hm,Nat.zero_le _,by unfold maxLen; omega,by simp [hD],by simp⟩⟩,hrb⟩
structure CellOK (cx cy d n:Nat) (most:Int) (px py:Nat → Nat → Nat) (bx:Nat → Nat → Value) (st:Nat → Nat → Int) (sm:Nat → Nat → Nat):Prop where
 pt:∀ k l:Nat,k < n → l < n → ∀ W,Calls Vp.prog 34 #[.complex .f32 cx cy,.int .i64 d,.int .i64 k,.int .i64 l] W fun e w' => e=.returned (.complex .f32 (px k l) (py k l)) ∧ W=w'
 box:∀ k l:Nat,k < n → l < n → ∀ W,Calls Vp.prog 61 #[.complex .f32 (px k l) (py k l),.int .i64 d] W fun e w' => e=.returned (bx k l) ∧ Below W.heap.size W w'
 state:∀ k l:Nat,k < n → l < n → ∀ W,Calls Vp.prog 60 #[bx k l,.int .i64 most] W fun e w' => e=.returned (.tuple #[.int .i64 (st k l),.bool true]) ∧ Below W.heap.size W w'
 smooth:∀ k l:Nat,k < n → l < n → ∀ W,Calls Vp.prog 62 #[.complex .f32 (px k l) (py k l),.int .i64 most] W fun e w' => e=.returned (.float .f32 (sm k l)) ∧ Below W.heap.size W w'
noncomputable def sBody:Code:=Tryz.f35.body.getD .skip
noncomputable def sX0:Code:=match sBody with | .seq _ (.seq _ (.block _ (.loop x))) => x | _ => .skip
noncomputable def sRow:Code:=match sX0 with | .seq _ (.seq _ (.seq (.block _ r) _)) => r | _ => .skip
noncomputable def sR3:Code:=match sRow with | .seq a _ => a | _ => .skip
noncomputable def sR4:Code:=match sRow with | .seq _ (.seq a _) => a | _ => .skip
noncomputable def sIn:Code:=match sRow with | .seq _ (.seq _ (.seq a _)) => a | _ => .skip
def RowN (ch:Value) (cx cy d n:Nat) (most:Int) (st:Nat → Nat → Int) (sm:Nat → Nat → Nat) (ds:List Deferred) (w:World) (i:Nat) (a:Act) (W:World):Prop :=
 ∃ rb gs gm,a.tmps.size=61 ∧ a.defers=ds ∧ a.tmps[0]?=some ch ∧ a.tmps[1]?=some (.complex .f32 cx cy) ∧ a.tmps[2]?=some (.int .i64 d) ∧ a.tmps[3]?=some (.int .i64 n) ∧ a.tmps[4]?=some (.int .i64 most) ∧
   a.tmps[17]?=some (.int .i64 n) ∧ a.tmps[18]?=some (.int .i64 i) ∧ a.tmps[11]?=some (.pointer (some ⟨rb,0,none⟩)) ∧ RW w rb n n n gs gm ((List.range n).map (sm i)) ((List.range n).map (st i)) W
set_option maxRecDepth 100000 in
set_option maxHeartbeats 8000000 in
theorem in_wp {cx cy d n:Nat} {most:Int} {px py:Nat → Nat → Nat} {bx:Nat → Nat → Value} {st:Nat → Nat → Int} {sm:Nat → Nat → Nat} (C:CellOK cx cy d n most px py bx st sm) (hn:n ≤ 8) (i:Nat) (hi:i < n) (ch:Value) (ds:List Deferred) (rb gs gm:Nat) (x5 x6 x7 x8 x9 x12 x13 x14 x15 x16 x19 x20 x21 x23 x25 x26 x27 x28 x29 x30 x31 x32 x33 x34 x35 x36 x37 x38 x39 x40 x41 x42 x43 x44 x45 x46 x47 x48 x49 x50 x51 x52 x53 x54 x55 x56 x57 x58 x59 x60:Value) (w W:World) (T:RW w rb n 0 0 gs gm [] [] W) :
   sIn.wp Vp.prog (onlyN fun a w3 => RowN ch cx cy d n most st sm ds w i a w3) ⟨#[ch,.complex .f32 cx cy,.int .i64 d,.int .i64 n,.int .i64 most,x5,x6,x7,x8,x9,.int .i64 i,.pointer (some ⟨rb,0,none⟩),x12,x13,x14,x15,x16,.int .i64 n,.int .i64 i,x19,x20,x21,.slice (some ⟨gs,0,none⟩) 0 n,x23,.slice (some ⟨gm,0,none⟩) 0 n,x25,x26,x27,x28,x29,x30,x31,x32,x33,x34,x35,x36,x37,x38,x39,x40,x41,x42,x43,x44,x45,x46,x47,x48,x49,x50,x51,x52,x53,x54,x55,x56,x57,x58,x59,x60],ds⟩ W:=by
 obtain ⟨iF,hiF,hzF0,hzF1,hzF2⟩:=info_parts infoF
 obtain ⟨iI,hiI,hzI0,hzI1,hzI2⟩:=info_parts infoI
 have HT:=Lib.hid T
 have HC:=Lib.hid C
 clear T C
 unfold sIn sRow sX0 sBody Tryz.f35
 dsimp only [Option.getD]
 go_wp2
 go_loopw [12,13,14,15,27,28,29,30,31,32,33,34,35,36,37,38,39,40,41,42,43,44,45,46,47,48,49,50,51,52,53,54,55,56,57] (fun _ _ _ _ c _ _ _ _ _ _ _ _ _ _ _ _ _ _ _ _ _ _ _ _ _ _ _ _ _ _ _ _ _ _ wr => ∃ l:Nat,l ≤ n ∧ c=.int .i64 l ∧ Hid (RW w rb n l l gs gm ((List.range l).map (sm i)) ((List.range l).map (st i)) wr)) (fun _ _ _ _ c _ _ _ _ _ _ _ _ _ _ _ _ _ _ _ _ _ _ _ _ _ _ _ _ _ _ _ _ _ _ _ => (n - intOf c).toNat)
 case atStart => exact ⟨0,by omega,rfl,HT⟩
 case round =>
   clear HT
   obtain ⟨l,hl,rfl,HT⟩:=hrel
   obtain ⟨wo,rfl⟩:∃ wo,wo=wr:=⟨_,rfl⟩
   by_cases hls:l < n
   · go_wp2_with fail
     refine (HC.out.pt i l hi hls _).mono ?_
     rintro e w1 ⟨rfl,rfl⟩
     go_wp2_with fail
     refine (HC.out.box i l hi hls _).mono ?_
     rintro e w2 ⟨rfl,hb⟩
     have HT1:=Lib.hid (HT.out.step hb)
     clear HT hb
     go_wp2_with fail
     refine (HC.out.state i l hi hls _).mono ?_
     rintro e w3 ⟨rfl,hb⟩
     have T3:=HT1.out.step hb
     clear HT1 hb
     have k3:=T3.c0
     go_wp2_with fail
     go_region_law (first
       | (go_simp
          go_at_call 62
          refine (HC.out.smooth i l hi hls _).mono ?_
          rintro e w5 ⟨rfl,hb⟩
          have T5:=(T3.drw (Drw.refl _).drew).step hb
          have k5:=T5.c0
          have k5':=(T5.alloc (.cells #[.float .f32 (sm i l)] 63)).c0
          clear hb)
       | (refine step_append_spare _ (by rfl) _ _ _ (by rfl) w.heap.size 63 iF 1 (Vp.und Tryz.underlying26) hiF hzF1 gs l n (((List.range l).map (sm i)).map floV) (by rfl) (T5.S.alloc _) ⟨w5.heap.size,0,none⟩ 1 1 [floV (sm i l)] (by rfl) (by rfl) (World.news_of_block (cs:=#[floV (sm i l)]) (t:=63) (fr:=(0,0)) (heap_alloc_new w5 _)) (by simp [floV,Value.oneCell']) (by omega) ?_
          intro w6 hown hgrow
          obtain ⟨T6,k6,f6⟩:=(T5.alloc _).smooth hown hgrow))
     all_goals
       have HT6:=Lib.hid T6
       have k7:=T6.c1
       have k8:=(T6.alloc (.cells #[.int .i64 (st i l)] 3)).c1
       clear T3 T5 T6 k3 k5 k5' k6 f6 hown hgrow
       generalize w6.setCell ⟨rb,0,none⟩ (.slice (some ⟨gs,0,none⟩) (l + 1) n)=w7 at *
       go_wp2_with (at_builtin; refine wpList_append_own_spare _ rfl _ _ _ rfl w.heap.size 3 iI 1 (Vp.und Tryz.underlying27) hiI hzI1 gm l n (((List.range l).map (st i)).map intV) rfl (HT6.out.M.alloc _) ⟨w7.heap.size,0,none⟩ 1 1 [intV (st i l)] rfl rfl (World.news_of_block (cs:=#[intV (st i l)]) (t:=3) (fr:=(0,0)) (heap_alloc_new w7 _)) (by simp [intV,Value.oneCell']) (by omega) ?_; intro w8 hown hgrow; obtain ⟨T8,k9,f9⟩:=(HT6.out.alloc _).mark hown hgrow; have HT8:=Lib.hid T8; clear T8 hown hgrow)
       go_roundw
       case rel => exact ⟨l + 1,by omega,by go_num,(by show RW _ _ _ _ _ _ _ _ _ _; rw [List.range_succ,List.map_append,List.map_append]; exact HT8.out)⟩
       case measure => simp [intOf]; omega
   · obtain rfl:l=n:=by omega
     go_wp2
     exact ⟨rb,gs,gm,rfl,rfl,rfl,rfl,rfl,rfl,rfl,rfl,rfl,rfl,HT.out⟩
set_option maxRecDepth 100000 in
set_option maxHeartbeats 8000000 in
theorem row_wp {cx cy d n:Nat} {most:Int} {px py:Nat → Nat → Nat} {bx:Nat → Nat → Value} {st:Nat → Nat → Int} {sm:Nat → Nat → Nat} (C:CellOK cx cy d n most px py bx st sm) (hn:n ≤ 8) (i:Nat) (hi:i < n) (ch:Value) (ds:List Deferred) (x5 x6 x7 x8 x9 x10 x11 x12 x13 x14 x15 x16 x19 x20 x21 x22 x23 x24 x25 x26 x27 x28 x29 x30 x31 x32 x33 x34 x35 x36 x37 x38 x39 x40 x41 x42 x43 x44 x45 x46 x47 x48 x49 x50 x51 x52 x53 x54 x55 x56 x57 x58 x59 x60:Value) (w:World) :
   sR3.wp Vp.prog (onlyN fun a w1 => sR4.wp Vp.prog (onlyN fun a w2 => sIn.wp Vp.prog (onlyN fun a w3 => RowN ch cx cy d n most st sm ds w i a w3) a w2) a w1) ⟨#[ch,.complex .f32 cx cy,.int .i64 d,.int .i64 n,.int .i64 most,x5,x6,x7,x8,x9,x10,x11,x12,x13,x14,x15,x16,.int .i64 n,.int .i64 i,x19,x20,x21,x22,x23,x24,x25,x26,x27,x28,x29,x30,x31,x32,x33,x34,x35,x36,x37,x38,x39,x40,x41,x42,x43,x44,x45,x46,x47,x48,x49,x50,x51,x52,x53,x54,x55,x56,x57,x58,x59,x60],ds⟩ w:=by
 obtain ⟨iF,hiF,hzF0,hzF1,hzF2⟩:=info_parts infoF
 obtain ⟨iI,hiI,hzI0,hzI1,hzI2⟩:=info_parts infoI
 obtain ⟨cF,hcF,hF⟩:=run_make_0 (P:=Vp.prog) 26 63 iF _ (Vp.und Tryz.underlying26) hiF hzF0 n (by omega) (by omega)
 obtain ⟨cI,hcI,hI⟩:=run_make_0 (P:=Vp.prog) 27 3 iI _ (Vp.und Tryz.underlying27) hiI hzI0 n (by omega) (by omega)
 unfold sR3 sRow sX0 sBody Tryz.f35
 dsimp only [Option.getD]
 go_wp2
 show Code.wp Vp.prog sR4 _ _ _
 unfold sR4 sRow sX0 sBody Tryz.f35
 dsimp only [Option.getD]
 go_region
 all_goals
   clear hF hI
   refine in_wp C hn i hi ch ds _ _ _ _ _ _ _ _ _ _ _ _ _ _ _ _ _ _ _ _ _ _ _ _ _ _ _ _ _ _ _ _ _ _ _ _ _ _ _ _ _ _ _ _ _ _ _ _ _ _ _ _ _ w _ ?_
   refine RW.start (cap:=n) (by rw [hcF,hzF1]; omega) (by rw [hcI,hzI1]; omega) (by omega) (by omega) (by omega) hn ?_ ?_ ?_ ?_
   · exact ((((Below.refl _ _).alloc (Nat.le_refl _) _).alloc (by simp) _).alloc (by simp; omega) _).drew
   all_goals
     simp only [heap_al,heap_dr]
     first | exact (push3 _ _ _ _).1 | exact (push3 _ _ _ _).2.1 | exact (push3 _ _ _ _).2.2
end Go.Proofs.YtokbalggdhippaaGreat
end

section
namespace Go.Proofs.YtokbalggdhippaaGreat.Lr
abbrev Lk:=Nat → Nat → Prop
def Le (B B':Lk):Prop:=∀ b b',B b b' → B' b b'
theorem Le.refl (B:Lk):Le B B:=fun _ _ h => h
theorem Le.trans {A B C:Lk} (h:Le A B) (k:Le B C):Le A C:=fun b b' x => k b b' (h b b' x)
structure Cx where
 C:FuncId → Prop
 M:Prop
 T:FuncId → Prop
 K:Oper → Prop
 D:Nat → Prop
 F:Nat → Prop
 G:Nat → Prop
 N:Nat
 R:String → Code → Prop
 Dn:Prop
 L:Nat → Nat
 Mv:TypeId → Nat → Nat → Prop
 Z:TypeId → Prop
 lf:∀ b,L b ≠ 0 → F b
 Ar:Nat → Nat → Prop
 all:M → ∀ f,C f ∧ ¬ T f
def AdR (X:Cx) (B:Lk) (a a':Addr):Prop:=(B a.block a'.block ∧ ¬ X.D a.block) ∧ (a'.off=a.off ∧ X.L a.block ≤ a.off) ∧ a'.spot=a.spot
theorem AdR.mono {X:Cx} {B B':Lk} (h:Le B B') {a a':Addr} (k:AdR X B a a'):AdR X B' a a':=⟨⟨h _ _ k.1.1,k.1.2⟩,k.2⟩
theorem AdR.add {X:Cx} {B:Lk} {a a':Addr} (k:AdR X B a a') (n:Nat):AdR X B (a.add n) (a'.add n):=by
 unfold Addr.add
 split
 · exact k
 · exact ⟨k.1,⟨by simp [k.2.1.1],Nat.le_trans k.2.1.2 (Nat.le_add_right _ _)⟩,rfl⟩
inductive FnR (X:Cx) (B:Lk):Fn → Fn → Prop
 | func (f:FuncId):X.C f → ¬ X.T f → FnR X B (.func f) (.func f)
 | method (n:String):X.M → FnR X B (.method n) (.method n)
 | methodOf (t:TypeId) (n:String):X.M → FnR X B (.methodOf t n) (.methodOf t n)
 | via (t:TypeId) (p:Array FieldStep) (f:FuncId) (x:Bool):X.M → FnR X B (.via t p f x) (.via t p f x)
 | yield (l l':Nat):B l l' → FnR X B (.yield l) (.yield l')
theorem FnR.mono {X:Cx} {B B':Lk} (h:Le B B') {f f':Fn} (k:FnR X B f f'):FnR X B' f f':=by
 cases k with
 | func f c t => exact .func f c t
 | method n c => exact .method n c
 | methodOf t n c => exact .methodOf t n c
 | via t p f x c => exact .via t p f x c
 | yield l l' c => exact .yield l l' (h _ _ c)
inductive VR (X:Cx) (B:Lk):Value → Value → Prop
 | bool (b:Bool):VR X B (.bool b) (.bool b)
 | int (k:IntKind) (n:Int):VR X B (.int k n) (.int k n)
 | float (k:FloatKind) (n:Nat):VR X B (.float k n) (.float k n)
 | complex (k:FloatKind) (n m:Nat):VR X B (.complex k n m) (.complex k n m)
 | string (s:ByteArray):VR X B (.string s) (.string s)
 | pnil:VR X B (.pointer none) (.pointer none)
 | ptr {a a':Addr}:AdR X B a a' → VR X B (.pointer (some a)) (.pointer (some a'))
 | snil (l c:Nat):VR X B (.slice none l c) (.slice none l c)
 | slice {a a':Addr} (l c:Nat):AdR X B a a' → VR X B (.slice (some a) l c) (.slice (some a') l c)
 | mnil:VR X B (.map none) (.map none)
 | map {r r':Nat}:B r r' → VR X B (.map (some r)) (.map (some r'))
 | cnil:VR X B (.chan none) (.chan none)
 | chan {r r':Nat}:B r r' → VR X B (.chan (some r)) (.chan (some r'))
 | func {f f':Fn} {p p' q q':Array Value}:FnR X B f f' → p.size=p'.size → (∀ (i:Nat) v v',p[i]?=some v → p'[i]?=some v' → VR X B v v') →
     q.size=q'.size → (∀ (i:Nat) v v',q[i]?=some v → q'[i]?=some v' → VR X B v v') → VR X B (.func f p q) (.func f' p' q')
 | nilFunc:VR X B .nilFunc .nilFunc
 | iface (t:TypeId) {v v':Value}:VR X B v v' → VR X B (.iface t v) (.iface t v')
 | nilIface:VR X B .nilIface .nilIface
 | agg {p p':Array Value}:p.size=p'.size → (∀ (i:Nat) v v',p[i]?=some v → p'[i]?=some v' → VR X B v v') → VR X B (.agg p) (.agg p')
 | tuple {p p':Array Value}:p.size=p'.size → (∀ (i:Nat) v v',p[i]?=some v → p'[i]?=some v' → VR X B v v') → VR X B (.tuple p) (.tuple p')
theorem VR.mono {X:Cx} {B B':Lk} (h:Le B B') {v v':Value} (k:VR X B v v'):VR X B' v v':=by
 induction k with
 | bool b => exact .bool b
 | int k n => exact .int k n
 | float k n => exact .float k n
 | complex k n m => exact .complex k n m
 | string s => exact .string s
 | pnil => exact .pnil
 | ptr a => exact .ptr (a.mono h)
 | snil l c => exact .snil l c
 | slice l c a => exact .slice l c (a.mono h)
 | mnil => exact .mnil
 | map r => exact .map (h _ _ r)
 | cnil => exact .cnil
 | chan r => exact .chan (h _ _ r)
 | func f hp _ hq _ ip iq => exact .func (f.mono h) hp ip hq iq
 | nilFunc => exact .nilFunc
 | iface t _ i => exact .iface t i
 | nilIface => exact .nilIface
 | agg hp _ i => exact .agg hp i
 | tuple hp _ i => exact .tuple hp i
def AR (X:Cx) (B:Lk) (p p':Array Value):Prop:=p.size=p'.size ∧ ∀ (i:Nat) v v',p[i]?=some v → p'[i]?=some v' → VR X B v v'
theorem AR.mono {X:Cx} {B B':Lk} (h:Le B B') {p p':Array Value} (k:AR X B p p'):AR X B' p p':=⟨k.1,fun i v v' a b => (k.2 i v v' a b).mono h⟩
theorem AR.agg {X:Cx} {B:Lk} {p p':Array Value} (k:AR X B p p'):VR X B (.agg p) (.agg p'):=.agg k.1 k.2
theorem AR.tuple {X:Cx} {B:Lk} {p p':Array Value} (k:AR X B p p'):VR X B (.tuple p) (.tuple p'):=.tuple k.1 k.2
def Flat (X:Cx) (v:Value):Prop:=∀ B,VR X B v v
theorem AR.get {X:Cx} {B:Lk} {p p':Array Value} (k:AR X B p p') (i:Nat):(∃ v v',p[i]?=some v ∧ p'[i]?=some v' ∧ VR X B v v') ∨ (p[i]?=none ∧ p'[i]?=none):=by
 rcases Nat.lt_or_ge i p.size with h | h
 · have h':i < p'.size:=k.1 ▸ h
   exact .inl ⟨p[i],p'[i],Array.getElem?_eq_getElem h,Array.getElem?_eq_getElem h',k.2 i _ _ (Array.getElem?_eq_getElem h) (Array.getElem?_eq_getElem h')⟩
 · exact .inr ⟨Array.getElem?_eq_none h,Array.getElem?_eq_none (k.1 ▸ h)⟩
theorem AR.nil {X:Cx} {B:Lk}:AR X B #[] #[]:=⟨rfl,fun i v v' a _ => by simp at a⟩
theorem AR.push {X:Cx} {B:Lk} {p p':Array Value} (k:AR X B p p') {v v':Value} (h:VR X B v v'):AR X B (p.push v) (p'.push v'):=by
 refine ⟨by simp [k.1],fun i a b ha hb => ?_⟩
 rw [Array.getElem?_push] at ha hb
 rw [← k.1] at hb
 split at ha
 · rename_i hi
   rw [if_pos hi] at hb
   cases ha; cases hb; exact h
 · rename_i hi
   rw [if_neg hi] at hb
   exact k.2 i a b ha hb
theorem AR.one {X:Cx} {B:Lk} {v v':Value} (h:VR X B v v'):AR X B #[v] #[v']:=AR.push AR.nil h
theorem AR.append {X:Cx} {B:Lk} {p p' q q':Array Value} (k:AR X B p p') (l:AR X B q q'):AR X B (p ++ q) (p' ++ q'):=by
 refine ⟨by simp [k.1,l.1],fun i a b ha hb => ?_⟩
 rw [Array.getElem?_append] at ha hb
 rw [← k.1] at hb
 split at ha
 · rename_i hi
   rw [if_pos hi] at hb
   exact k.2 i a b ha hb
 · rename_i hi
   rw [if_neg hi] at hb
   exact l.2 _ a b ha hb
theorem AR.set {X:Cx} {B:Lk} {p p':Array Value} (k:AR X B p p') (i:Nat) {v v':Value} (h:VR X B v v'):AR X B (p.setIfInBounds i v) (p'.setIfInBounds i v'):=by
 refine ⟨by simp [k.1],fun j a b ha hb => ?_⟩
 rw [Array.getElem?_setIfInBounds] at ha hb
 rw [← k.1] at hb
 split at ha
 · rename_i hi
   rw [if_pos hi] at hb
   split at ha
   · rename_i hl
     rw [if_pos hl] at hb
     cases ha; cases hb; exact h
   · cases ha
 · rename_i hi
   rw [if_neg hi] at hb
   exact k.2 j a b ha hb
theorem AR.extract {X:Cx} {B:Lk} {p p':Array Value} (k:AR X B p p') (i j:Nat):AR X B (p.extract i j) (p'.extract i j):=by
 refine ⟨by simp [k.1],fun n a b ha hb => ?_⟩
 rw [Array.getElem?_extract] at ha hb
 rw [← k.1] at hb
 split at ha
 · rename_i hi
   rw [if_pos hi] at hb
   exact k.2 _ a b ha hb
 · cases ha
theorem AR.map {X:Cx} {B:Lk} {ι:Type} (l:Array ι) {f g:ι → Value} (h:∀ x ∈ l,VR X B (f x) (g x)):AR X B (l.map f) (l.map g):=by
 refine ⟨by simp,fun i a b ha hb => ?_⟩
 simp only [Array.getElem?_map,Option.map_eq_some_iff] at ha hb
 obtain ⟨x,hx,rfl⟩:=ha
 obtain ⟨y,hy,rfl⟩:=hb
 cases hx.symm.trans hy
 exact h x (Array.mem_of_getElem? hx)
theorem AR.replicate {X:Cx} {B:Lk} (n:Nat) {v v':Value} (h:VR X B v v'):AR X B (Array.replicate n v) (Array.replicate n v'):=by
 refine ⟨by simp,fun i a b ha hb => ?_⟩
 rw [Array.getElem?_replicate] at ha hb
 split at ha
 · rename_i hi
   rw [if_pos hi] at hb
   cases ha; cases hb; exact h
 · cases ha
theorem AR.getD {X:Cx} {B:Lk} {p p':Array Value} (k:AR X B p p') (i:Nat) {d d':Value} (h:VR X B d d'):VR X B (p.getD i d) (p'.getD i d'):=by
 rw [Array.getD_eq_getD_getElem?,Array.getD_eq_getD_getElem?]
 rcases k.get i with ⟨v,v',h1,h2,h3⟩ | ⟨h1,h2⟩
 · rw [h1,h2]; exact h3
 · rw [h1,h2]; exact h
theorem undefR {X:Cx} {B:Lk}:VR X B undef undef:=.tuple rfl (fun i v v' a _ => by simp at a)
theorem VR.cells {X:Cx} {B:Lk} {v v':Value} (h:VR X B v v'):AR X B v.cells v'.cells:=by
 cases h with
 | agg h1 h2 => exact ⟨h1,h2⟩
 | _ => exact AR.one (by constructor <;> assumption)
inductive LR (X:Cx) (B:Lk):List Value → List Value → Prop
 | nil:LR X B [] []
 | cons {v v':Value} {l l':List Value}:VR X B v v' → LR X B l l' → LR X B (v :: l) (v' :: l')
theorem LR.of {X:Cx} {B:Lk}:∀ {l l':List Value},l.length=l'.length → (∀ (i:Nat) v v',l[i]?=some v → l'[i]?=some v' → VR X B v v') → LR X B l l'
 | [],[],_,_ => .nil
 | v :: l,v' :: l',hl,h => .cons (h 0 v v' rfl rfl) (LR.of (by simpa using hl) fun i a b ha hb => h (i + 1) a b (by simpa using ha) (by simpa using hb))
 | [],_ :: _,hl,_ => by simp at hl
 | _ :: _,[],hl,_ => by simp at hl
theorem AR.toList {X:Cx} {B:Lk} {p p':Array Value} (k:AR X B p p'):LR X B p.toList p'.toList :=
 LR.of (by simpa using k.1) fun i v v' a b => k.2 i v v' (by simpa using a) (by simpa using b)
theorem LR.mono {X:Cx} {B B':Lk} (h:Le B B') {l l':List Value} (k:LR X B l l'):LR X B' l l':=by
 induction k with
 | nil => exact .nil
 | cons a _ ih => exact .cons (a.mono h) ih
def BiOk:Builtin → Bool
 | .append | .cap | .close | .complex | .imag | .len | .max | .min | .real => true
 | _ => false
inductive TgR (X:Cx) (B:Lk):Target → Target → Prop
 | fn {f f':Fn} {p p':Array Value}:FnR X B f f' → AR X B p p' → TgR X B (.fn f p) (.fn f' p')
 | nil:TgR X B .nil .nil
 | builtin (b:Builtin) (ts:Array TypeId) (t:TypeId) (cs:Array Bool):BiOk b=true → TgR X B (.builtin b ts t cs) (.builtin b ts t cs)
 | collected {r r':Nat}:B r r' → TgR X B (.collected r) (.collected r')
theorem TgR.mono {X:Cx} {B B':Lk} (h:Le B B') {t t':Target} (k:TgR X B t t'):TgR X B' t t':=by
 cases k with
 | fn f p => exact .fn (f.mono h) (p.mono h)
 | nil => exact .nil
 | builtin b ts t cs h => exact .builtin b ts t cs h
 | collected r => exact .collected (h _ _ r)
def DfR (X:Cx) (B:Lk) (d d':Deferred):Prop:=TgR X B d.target d'.target ∧ AR X B d.args d'.args
theorem DfR.mono {X:Cx} {B B':Lk} (h:Le B B') {d d':Deferred} (k:DfR X B d d'):DfR X B' d d':=⟨k.1.mono h,k.2.mono h⟩
inductive DsR (X:Cx) (B:Lk):List Deferred → List Deferred → Prop
 | nil:DsR X B [] []
 | cons {d d':Deferred} {l l':List Deferred}:(X.Dn ∨ ∃ r,d.target=.collected r) → DfR X B d d' → DsR X B l l' → DsR X B (d :: l) (d' :: l')
theorem DsR.mono {X:Cx} {B B':Lk} (h:Le B B') {l l':List Deferred} (k:DsR X B l l'):DsR X B' l l':=by
 induction k with
 | nil => exact .nil
 | cons q a _ ih => exact .cons q (a.mono h) ih
theorem DsR.append {X:Cx} {B:Lk} {l l' m m':List Deferred} (h:DsR X B l l') (k:DsR X B m m'):DsR X B (l ++ m) (l' ++ m'):=by
 induction h with
 | nil => exact k
 | cons q a _ ih => exact .cons q a ih
def OpdOk (X:Cx):Operand → Prop
 | .tmp _ => True
 | .const v => Flat X v
 | .global g => X.G g
 | .func f => X.C f ∧ ¬ X.T f
def CdR (X:Cx):Code → Code → Prop
 | .refuse why,d => why = "unsupported: a function without a Go body is entered" ∨ X.R why d
 | .region id ops q,d => d=.region id ops q ∧ ∀ o ∈ ops,X.K o
 | .seq a b,d => ∃ a' b',d=.seq a' b' ∧ CdR X a a' ∧ CdR X b b'
 | .cond c a b,d => ∃ a' b',d=.cond c a' b' ∧ OpdOk X c ∧ CdR X a a' ∧ CdR X b b'
 | .rangeFunc f p a b,d => ∃ a' b',d=.rangeFunc f p a' b' ∧ OpdOk X f ∧ CdR X a a' ∧ CdR X b b'
 | .block i c,d => ∃ c',d=.block i c' ∧ CdR X c c'
 | .loop c,d => ∃ c',d=.loop c' ∧ CdR X c c'
 | .scope c,d => ∃ c',d=.scope c' ∧ CdR X c c'
 | .goto _,_ => False
 | .skip,d => d=.skip
 | .ret,d => d=.ret
 | .exit i,d => d=.exit i
 | .label i,d => d=.label i
structure LpR (X:Cx) (B:Lk) (l l':Loop):Prop where
 state:l'.state=l.state
 pending:l'.pending=l.pending
 pok:∀ c,l.pending=some c → CdR X c c
 fn:l'.fn=l.fn
 tmps:AR X B l.tmps l'.tmps
 params:l'.params=l.params
 assign:CdR X l.assign l'.assign
 body:CdR X l.body l'.body
 defers:B l.defers l'.defers
theorem LpR.mono {X:Cx} {B B':Lk} (h:Le B B') {l l':Loop} (k:LpR X B l l'):LpR X B' l l' :=
 ⟨k.state,k.pending,k.pok,k.fn,k.tmps.mono h,k.params,k.assign,k.body,h _ _ k.defers⟩
inductive ObR (X:Cx) (B:Lk):Obj → Obj → Prop
 | cells {c c':Array Value} (t:TypeId) (f:Nat × Nat):AR X B c c' → ObR X B (.cells c t f) (.cells c' t f)
 | chan (cap:Nat) {b b':Array Value} (cl:Bool) (s r:Nat) (tm:Bool):AR X B b b' → ObR X B (.chan cap b cl s r tm) (.chan cap b' cl s r tm)
 | number {a a':Addr} (l:Bool):AdR X B a a' → ObR X B (.number a l) (.number a' l)
 | stringIter (s:ByteArray) (p:Nat):ObR X B (.stringIter s p) (.stringIter s p)
 | loop {l l':Loop}:LpR X B l l' → ObR X B (.loop l) (.loop l')
 | dnone:ObR X B (.deferred none) (.deferred none)
 | dsome {l l':List Deferred}:DsR X B l l' → ObR X B (.deferred (some l)) (.deferred (some l'))
theorem ObR.mono {X:Cx} {B B':Lk} (h:Le B B') {o o':Obj} (k:ObR X B o o'):ObR X B' o o':=by
 cases k with
 | cells t f a => exact .cells t f (a.mono h)
 | chan cap cl s r tm a => exact .chan cap cl s r tm (a.mono h)
 | number l a => exact .number l (a.mono h)
 | stringIter s p => exact .stringIter s p
 | loop a => exact .loop (a.mono h)
 | dnone => exact .dnone
 | dsome a => exact .dsome (a.mono h)
def PR (X:Cx) (B:Lk) (l:Nat) (p p':Array Value):Prop:=p.size ≤ p'.size ∧ ∀ (i:Nat) v v',l ≤ i → p[i]?=some v → p'[i]?=some v' → VR X B v v'
theorem PR.mono {X:Cx} {B B':Lk} (h:Le B B') {l:Nat} {p p':Array Value} (k:PR X B l p p'):PR X B' l p p':=⟨k.1,fun i v v' g a b => (k.2 i v v' g a b).mono h⟩
theorem AR.part {X:Cx} {B:Lk} {p p':Array Value} (k:AR X B p p') (l:Nat):PR X B l p p':=⟨Nat.le_of_eq k.1,fun i v v' _ a b => k.2 i v v' a b⟩
theorem PR.get {X:Cx} {B:Lk} {l:Nat} {p p':Array Value} (k:PR X B l p p') (i:Nat) (h:l ≤ i):(∃ v v',p[i]?=some v ∧ p'[i]?=some v' ∧ VR X B v v') ∨ p[i]?=none:=by
 rcases Nat.lt_or_ge i p.size with g | g
 · have h':i < p'.size:=Nat.lt_of_lt_of_le g k.1
   exact .inl ⟨p[i],p'[i],Array.getElem?_eq_getElem g,Array.getElem?_eq_getElem h',k.2 i _ _ h (Array.getElem?_eq_getElem g) (Array.getElem?_eq_getElem h')⟩
 · exact .inr (Array.getElem?_eq_none g)
def TyR (X:Cx) (b:Nat) (t t':TypeId) (n:Nat):Prop:=(X.L b ≠ 0 ∧ X.N ≤ b ∧ X.Z t) ∨ ((X.L b=0 ∨ b < X.N) ∧ t'=t ∧ (X.L b=0 ∨ X.Mv t n (X.L b)))
theorem TyR.same {X:Cx} {b:Nat} {t:TypeId} {n:Nat} (h:X.L b=0):TyR X b t t n:=.inr ⟨.inl h,rfl,.inl h⟩
structure WR (X:Cx) (B:Lk) (V W:World):Prop where
 tape:W.tape=V.tape
 drawn:W.drawn=V.drawn
 os:W.os=V.os
 output:W.output=V.output
 fn:∀ b b₁ b₂,B b b₁ → B b b₂ → b₁=b₂
 inj:∀ b₁ b₂ b',B b₁ b' → B b₂ b' → b₁=b₂
 glob:∀ g,X.G g → B g g
 live:∀ b b',B b b' → ¬ X.D b → ¬ X.F b → ∃ o o',V.heap[b]?=some o ∧ W.heap[b']?=some o' ∧ ObR X B o o'
 froz:∀ b b',B b b' → ¬ X.D b → X.F b → ∃ c c' t t' f,V.heap[b]?=some (.cells c t (0,c.size)) ∧ W.heap[b']?=some (.cells c' t' f) ∧ PR X B (X.L b) c c' ∧ TyR X b t t' c.size
 dead:∀ b b',B b b' → X.D b → (∃ t,V.heap[b]?=some (.cells #[] t)) ∧ b' < W.heap.size
 dlt:∀ b,X.D b → b < V.heap.size
 flt:∀ b,X.F b → b < V.heap.size
 low:∀ b b',B b b' → (b < X.N ↔ b' < X.N)
 nV:X.N ≤ V.heap.size
 nW:X.N ≤ W.heap.size
theorem WR.ltV {X:Cx} {B:Lk} {V W:World} (h:WR X B V W) {b b':Nat} (k:B b b'):b < V.heap.size:=by
 by_cases d:X.D b
 · exact h.dlt b d
 · by_cases f:X.F b
   · exact h.flt b f
   · obtain ⟨o,o',e,_⟩:=h.live b b' k d f
     exact (Array.getElem?_eq_some_iff.1 e).1
theorem WR.ltW {X:Cx} {B:Lk} {V W:World} (h:WR X B V W) {b b':Nat} (k:B b b'):b' < W.heap.size:=by
 by_cases d:X.D b
 · exact (h.dead b b' k d).2
 · by_cases f:X.F b
   · obtain ⟨_,_,_,_,_,_,e,_⟩:=h.froz b b' k d f
     exact (Array.getElem?_eq_some_iff.1 e).1
   · obtain ⟨o,o',_,e,_⟩:=h.live b b' k d f
     exact (Array.getElem?_eq_some_iff.1 e).1
structure Ext (X:Cx) (B:Lk) (V W:World) (B':Lk) (V' W':World):Prop where
 le:Le B B'
 new:∀ b b',B' b b' → B b b' ∨ (V.heap.size ≤ b ∧ W.heap.size ≤ b')
 sizeV:V.heap.size ≤ V'.heap.size
 sizeW:W.heap.size ≤ W'.heap.size
 tape:W'.tape=W.tape
 osV:V'.os=V.os ∧ V'.output=V.output
 kept:∀ b',b' < W.heap.size → (∀ b,B b b' → X.D b ∨ X.F b) → W'.heap[b']?=W.heap[b']?
theorem Ext.refl (X:Cx) (B:Lk) (V W:World):Ext X B V W B V W:=⟨Le.refl _,fun _ _ h => .inl h,Nat.le_refl _,Nat.le_refl _,rfl,⟨rfl,rfl⟩,fun _ _ _ => rfl⟩
theorem Ext.trans {X:Cx} {B B' B'':Lk} {V V' V'' W W' W'':World} (h:Ext X B V W B' V' W') (k:Ext X B' V' W' B'' V'' W''):Ext X B V W B'' V'' W'' where
 le:=h.le.trans k.le
 new b b' x:=by
   rcases k.new b b' x with y | ⟨y1,y2⟩
   · exact h.new b b' y
   · exact .inr ⟨Nat.le_trans h.sizeV y1,Nat.le_trans h.sizeW y2⟩
 sizeV:=Nat.le_trans h.sizeV k.sizeV
 sizeW:=Nat.le_trans h.sizeW k.sizeW
 tape:=k.tape.trans h.tape
 osV:=⟨k.osV.1.trans h.osV.1,k.osV.2.trans h.osV.2⟩
 kept b' hb hd:=by
   rw [k.kept b' (Nat.lt_of_lt_of_le hb h.sizeW) (fun b x => ?_)]
   · exact h.kept b' hb hd
   · rcases h.new b b' x with y | ⟨_,y⟩
     · exact hd b y
     · omega
def EvOk (X:Cx) (B:Lk) (e:Event):Prop :=
 match e.loc with
 | .cell a => (∃ b,B b a.block ∧ ¬ X.D b ∧ (e.write=true → ¬ X.F b)) ∧ e.sync=false
 | .obj r => (∃ b,B b r ∧ ¬ X.D b ∧ ¬ X.F b)
 | .mark m => m=.noRoom ∨ ∃ f,m=.extern f
 | _ => False
theorem EvOk.mono {X:Cx} {B B':Lk} (h:Le B B') {e:Event} (k:EvOk X B e):EvOk X B' e:=by
 unfold EvOk at *
 split <;> simp_all only
 · obtain ⟨⟨b,h1,h2⟩,h3⟩:=k
   exact ⟨⟨b,h _ _ h1,h2⟩,trivial⟩
 · obtain ⟨b,h1,h2⟩:=k
   exact ⟨b,h _ _ h1,h2⟩
end Go.Proofs.YtokbalggdhippaaGreat.Lr
end
