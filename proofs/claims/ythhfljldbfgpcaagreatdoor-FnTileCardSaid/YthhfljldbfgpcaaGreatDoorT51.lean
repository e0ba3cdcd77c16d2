/- Merged texts: SiK, RkF, SiL, SiM, Law, SiG, SiN. -/
import Derived.Test.YthhfljldbfgpcaaGreatDoorT50
import Derived.Test.YthhfljldbfgpcaaGreatDoorT3
import Derived.Test.YthhfljldbfgpcaaGreatDoorRows
import Derived.WalkKit
import Derived.ProofKit
import Derived.OpenVars
import Derived.Lib.SmallJoins
import Derived.Test.YthhfljldbfgpcaaGreatDoorT4
import Derived.Conc.LeavingOf
import Derived.Test.YthhfljldbfgpcaaGreatDoorCards
import Derived.Test.YthhfljldbfgpcaaGreatDoorTie
import Derived.OpenShut
import Derived.Deep.DeepHandedRow
import Derived.Lib.LaidTab
import Derived.LaidSub
import Derived.SevenTiedAt
set_option linter.all false
section
namespace Go.Proofs.YthhfljldbfgpcaaGreatDoor
open Go.RowKit Go.Conc Go.Proofs.YthhfljldbfgpcaaGreatDoor.Co Go.Proofs.YthhfljldbfgpcaaGreatDoor.Ok Go.Proofs.YthhfljldbfgpcaaGreatDoor.Lr Go.Proofs.YthhfljldbfgpcaaGreatDoor.Tl Go.Proofs.YthhfljldbfgpcaaGreatDoor.Bar
structure RowOkG (cl gl:List Nat) (f:Nat):Prop where
 chkT:(cl.filter fun f => !(ext.contains f)).all (chk Vp.prog tmL cl gl)=true
 chkV:((5 :: cl).filter fun f => !(ext.contains f)).all (chk Vp.prog [] (5 :: cl) gl)=true
 not:cl.contains 5=false
 mem:cl.contains f=true
 ini:Tryz.prog.inits.idxOf? f=none
section
variable {cl gl:List Nat} {f:Nat} (R:RowOkG cl gl f) {Q:String → Code → Prop} {F:Nat → Prop} {L:Nat → Nat} {lf:∀ b,L b ≠ 0 → F b} (hg0:∀ g ∈ gl,L g=0)
include R hg0
theorem wholeTG:Whole (cxL Vp.prog tmL cl gl Q (fun _ => False) F False L lf) Vp.prog Tryz.prog :=
 whole_ofL zeros Vp.tab.symm Vp.size.symm (fun f hf => by
   have ht:f ≠ 5:=fun e => by
     subst e
     have:=R.not
     rw [Bool.eq_false_iff] at this
     exact this (by simpa using hf)
   exact ⟨all_ok R.chkT f hf,fun n hn => by simp only [List.mem_singleton,Prod.mk.injEq] at hn; exact ht hn.1,(Vp.same ht).symm⟩)
 (fun f ⟨n,hn⟩ => by
   simp only [List.mem_singleton,Prod.mk.injEq] at hn
   obtain ⟨rfl,_⟩:=hn
   exact ⟨Vp.fT,Tryz.f5,Vp.funcT,Tryz.func5,by kernel_rfl,by kernel_rfl,by kernel_rfl,by kernel_rfl,by kernel_rfl⟩)
 tm_same fun g h => ⟨id,hg0 g h⟩
theorem wholeVG:Whole (cxL Vp.prog [] (5 :: cl) gl Q (fun _ => False) F False L lf) Vp.prog Vp.prog :=
 whole_ofL zeros rfl rfl (fun f hf => ⟨all_ok R.chkV f hf,(fun n hn => by cases hn),rfl⟩) (fun f ⟨n,hn⟩ => by cases hn) (fun f => .inl rfl) fun g h => ⟨id,hg0 g h⟩
theorem ends_ofG (hV:Vals) {args:Array Value} {W0 V0:World} {B:Lk} (hB:∀ x y,B x y → F x)
   (hw:WR (cxL Vp.prog tmL cl gl Q (fun _ => False) F False L lf) B V0 W0) (hwV:WR (cxL Vp.prog [] (5 :: cl) gl Q (fun _ => False) F False L lf) B V0 V0)
   (ha:AR (cxL Vp.prog tmL cl gl Q (fun _ => False) F False L lf) B args args) (haV:AR (cxL Vp.prog [] (5 :: cl) gl Q (fun _ => False) F False L lf) B args args)
   (hc:∀ τ d,Calls Vp.prog f args { V0 with tape:=τ,drawn:=d } fun e _ => e=.returned (.bool true)) :
   Co.Ends Tryz.prog (fun v w' => v=.bool true ∧ Below W0.heap.size W0 w') #[G (Frame.enter Tryz.prog f args .normal) []] W0 none #[]:=by
 have hmem:f ∈ cl:=by simpa using R.mem
 have hnot:¬ ∃ n,(f,n) ∈ tmL:=fun ⟨n,hn⟩ => by
   simp only [List.mem_singleton,Prod.mk.injEq] at hn
   obtain ⟨rfl,_⟩:=hn
   have:=R.not
   rw [R.mem] at this
   cases this
 have hT:=wholeTG R hg0 (Q:=Q) (F:=F) (L:=L) (lf:=lf)
 have hTV:=wholeVG R hg0 (Q:=Q) (F:=F) (L:=L) (lf:=lf)
 have noT:∀ f,¬ (cxL Vp.prog [] (5 :: cl) gl Q (fun _ => False) F False L lf).T f:=fun f ⟨n,hn⟩ => by cases hn
 have hfV:FrR (cxL Vp.prog [] (5 :: cl) gl Q (fun _ => False) F False L lf) B (Frame.enter Vp.prog f args .normal) (Frame.enter Vp.prog f args .normal):=by
   rcases enter_lr (P:=Vp.prog) (P':=Vp.prog) (B:=B) (cs:=[]) (cs':=[]) hTV.hF (f:=f) (.inl (List.mem_cons_of_mem _ hmem)) (fun h => absurd h (noT _)) haV .normal (fun h => absurd h (noT _)) .nil with ⟨h,_⟩ | ⟨g,_,_,_,⟨h,_⟩,_⟩
   · exact h
   · exact absurd h (noT _)
 have hf:FrR (cxL Vp.prog tmL cl gl Q (fun _ => False) F False L lf) B (Frame.enter Vp.prog f args .normal) (Frame.enter Tryz.prog f args .normal):=by
   rcases enter_lr (P:=Vp.prog) (P':=Tryz.prog) (B:=B) (cs:=[]) (cs':=[]) hT.hF (f:=f) (.inl hmem) (fun h => absurd h hnot) ha .normal (fun h => absurd h hnot) .nil with ⟨h,_⟩ | ⟨g,p,p',k,⟨hg,_⟩,_,e,_⟩
   · exact h
   · obtain rfl:f=g:=congrArg Frame.fn e
     exact absurd hg hnot
 have hway:=way_of hTV noT (Q:=fun v _ => v=.bool true) (fun _ _ _ _ h => h) (f:=f) (args:=args) (V:=V0) ⟨B,V0,_,_,hwV,hfV,.nil,rfl⟩ fun τ d => (hc τ d).mono fun e w h => by
   subst h
   exact rfl
 have hs:=sim (Post:=fun v w' => v=.bool true ∧ Below W0.heap.size W0 w') (m0:=W0.heap.size) (w0:=W0) hT id (Q:=fun v _ => v=.bool true) (parts_of hV (fun x hx => Fin.pop hx.1) _ _ _) (fun _ _ _ _ h => h) (fun x hx => ⟨hx.1,by rw [hx.2]; exact R.ini⟩)
   (fun B V v v' W hv hvv _ hk => by
     subst hv
     cases hvv
     exact ⟨rfl,⟨hk.os.1,hk.tape,hk.os.2,hk.size,hk.old⟩⟩) hway
 exact hs B W0.tape W0.drawn #[G (Frame.enter Tryz.prog f args .normal) []] W0 none #[] (fun _ => 0) _ [] (wr_atV hw) hf .nil rfl ⟨fun x y h hn => absurd (hB x y h) hn,Nat.le_refl _,fun _ _ => rfl,rfl,⟨rfl,rfl⟩⟩ rfl (leavers_one _ _) (past_nil.mono (Nat.zero_le _))
end
end Go.Proofs.YthhfljldbfgpcaaGreatDoor
end

section
namespace Go.Proofs.YthhfljldbfgpcaaGreatDoor
open Go.Conc Go.Proofs.YthhfljldbfgpcaaGreatDoor.Co Go.Proofs.YthhfljldbfgpcaaGreatDoor.Ok Go.Proofs.YthhfljldbfgpcaaGreatDoor.Lr Go.Proofs.YthhfljldbfgpcaaGreatDoor.Tl Go.Proofs.YthhfljldbfgpcaaGreatDoor.Bar
def ftlFs:List Nat:=[3,4,6,7,8,9,10,11,12,13,14,15,16,17,18,19,20,22,23,24,25,26,27,28,29,30,31,32,33,34,35,36,37,38,39,40,41,42,43,44,45,46,47,48,49,51,52,53,54,55,56,57,58,59,60,61,62,63,64,65,66,67,68,69,70,71,72,73,74,75,76,77,78,79,80,81,82,83,84,85,86,87,88,89,90,91,92,93,94,95,96,97,98,99,100,101,102,103,104,105,106,107,108,109,110,111,112,113,114,115]
set_option maxRecDepth 100000 in
theorem ftl_chkT:(ftlFs.filter fun f => !(ext.contains f)).all (chk Vp.prog tmL ftlFs [1])=true:=by kernel_rfl
set_option maxRecDepth 100000 in
theorem ftl_chkV:((5 :: ftlFs).filter fun f => !(ext.contains f)).all (chk Vp.prog [] (5 :: ftlFs) [1])=true:=by kernel_rfl
theorem ftl_ok:RowOkG ftlFs [1] 3:=⟨ftl_chkT,ftl_chkV,by kernel_rfl,by kernel_rfl,by kernel_rfl⟩
end Go.Proofs.YthhfljldbfgpcaaGreatDoor
end

section
namespace Go.Proofs.YthhfljldbfgpcaaGreatDoor
open Go.RowKit Go.Conc Go.Proofs.YthhfljldbfgpcaaGreatDoor.Co Go.Proofs.YthhfljldbfgpcaaGreatDoor.Ok Go.Proofs.YthhfljldbfgpcaaGreatDoor.Lr Go.Proofs.YthhfljldbfgpcaaGreatDoor.Tl Go.Proofs.YthhfljldbfgpcaaGreatDoor.Bar
def idB (S:Nat → Prop):Lk:=fun x y => S x ∧ y=x
theorem wr_id {X:Cx} {S:Nat → Prop} {V W:World} (h1:W.tape=V.tape) (h2:W.drawn=V.drawn) (h3:W.os=V.os) (h4:W.output=V.output) (h5:W.heap.size=V.heap.size) (hN:X.N ≤ W.heap.size)
   (hF:∀ x,X.F x ↔ S x) (hG:∀ x,X.G x → S x) (hD:∀ x,¬ X.D x)
   (hS:∀ x,S x → x < V.heap.size ∧ ∃ c c' t t' f,V.heap[x]?=some (.cells c t (0,c.size)) ∧ W.heap[x]?=some (.cells c' t' f) ∧ PR X (idB S) (X.L x) c c' ∧ TyR X x t t' c.size):WR X (idB S) V W:=by
 refine ⟨h1,h2,h3,h4,?_,?_,fun g h => ⟨hG g h,rfl⟩,?_,?_,fun x y _ h => absurd h (hD x),fun x h => absurd h (hD x),fun x h => (hS x ((hF x).1 h)).1,?_,by rw [← h5]; exact hN,hN⟩
 · rintro x y z ⟨_,rfl⟩ ⟨_,rfl⟩
   rfl
 · rintro x y z ⟨_,rfl⟩ ⟨_,h⟩
   exact h
 · rintro x y ⟨hs,rfl⟩ _ hn
   exact absurd ((hF _).2 hs) hn
 · rintro x y ⟨hs,rfl⟩ _ _
   exact (hS _ hs).2
 · rintro x y ⟨_,rfl⟩
   exact Iff.rfl
end Go.Proofs.YthhfljldbfgpcaaGreatDoor
end

section
namespace Go.Proofs.YthhfljldbfgpcaaGreatDoor
open Go.RowKit Go.Conc Go.Proofs.YthhfljldbfgpcaaGreatDoor.Co Go.Proofs.YthhfljldbfgpcaaGreatDoor.Ok Go.Proofs.YthhfljldbfgpcaaGreatDoor.Lr Go.Proofs.YthhfljldbfgpcaaGreatDoor.Tl Go.Proofs.YthhfljldbfgpcaaGreatDoor.Bar
section
variable {cl gl:List Nat} {f:Nat} (R:RowOkG cl gl f)
include R
theorem ends_blocks (hV:Vals) {args:Array Value} {W0 V0:World} {S:Nat → Prop} {L:Nat → Nat} (lf:∀ b,L b ≠ 0 → S b) (hgS:∀ g ∈ gl,S g) (hg0:∀ g ∈ gl,L g=0) (hN:Vp.prog.globals.size ≤ W0.heap.size)
   (e1:V0.tape=W0.tape) (e2:V0.drawn=W0.drawn) (e3:V0.os=W0.os) (e4:V0.output=W0.output) (e5:V0.heap.size=W0.heap.size)
   (hS:∀ x,S x → ∃ c c' t t' f',V0.heap[x]?=some (.cells c t (0,c.size)) ∧ W0.heap[x]?=some (.cells c' t' f') ∧ c.size ≤ c'.size ∧ (∀ i v,L x ≤ i → c[i]?=some v → (∃ k n,v=.int k n) ∧ c'[i]?=some v) ∧
     ((L x=0 ∧ t'=t) ∨ (L x ≠ 0 ∧ x < Vp.prog.globals.size ∧ t'=t ∧ ∀ n l,mvP Vp.prog t n l) ∨ (L x ≠ 0 ∧ Vp.prog.globals.size ≤ x ∧ Vp.prog.info? t=none)))
   (ha:∀ X:Cx,X.L=L → (∀ g,¬ X.D g) → AR X (idB S) args args)
   (hc:∀ τ d,Calls Vp.prog f args { V0 with tape:=τ,drawn:=d } fun e _ => e=.returned (.bool true)) :
   Co.Ends Tryz.prog (fun v w' => v=.bool true ∧ Below W0.heap.size W0 w') #[G (Frame.enter Tryz.prog f args .normal) []] W0 none #[]:=by
 have key:∀ (X:Cx) (W:World),X.N=Vp.prog.globals.size → X.L=L → (∀ x,X.G x → x ∈ gl) → (∀ x,X.F x ↔ S x) → (∀ x,¬ X.D x) → X.Mv=mvP Vp.prog → (∀ t,Vp.prog.info? t=none → X.Z t) →
     W.tape=W0.tape → W.drawn=W0.drawn → W.os=W0.os → W.output=W0.output → W.heap.size=W0.heap.size →
     (∀ x,S x → ∃ c c' t t' f',V0.heap[x]?=some (.cells c t (0,c.size)) ∧ W.heap[x]?=some (.cells c' t' f') ∧ c.size ≤ c'.size ∧ (∀ i v,L x ≤ i → c[i]?=some v → (∃ k n,v=.int k n) ∧ c'[i]?=some v) ∧
       ((L x=0 ∧ t'=t) ∨ (L x ≠ 0 ∧ x < Vp.prog.globals.size ∧ t'=t ∧ ∀ n l,mvP Vp.prog t n l) ∨ (L x ≠ 0 ∧ Vp.prog.globals.size ≤ x ∧ Vp.prog.info? t=none))) → WR X (idB S) V0 W:=by
   intro X W h1 h2 h3 h4 h5 h6 h7 i1 i2 i3 i4 i5 hS
   refine wr_id (i1.trans e1.symm) (i2.trans e2.symm) (i3.trans e3.symm) (i4.trans e4.symm) (i5.trans e5.symm) (by rw [h1,i5]; exact hN) h4 (fun x hx => hgS x (h3 x hx)) h5 fun x hx => ?_
   obtain ⟨c,c',t,t',f',k1,k2,k3,k4,k5⟩:=hS x hx
   refine ⟨(Array.getElem?_eq_some_iff.1 k1).1,c,c',t,t',f',k1,k2,⟨k3,fun i v v' hi g1 g2 => ?_⟩,?_⟩
   · rw [h2] at hi
     obtain ⟨⟨k,n,rfl⟩,g3⟩:=k4 i v hi g1
     rw [g3] at g2
     cases g2
     exact .int _ _
   · unfold TyR
     rw [h1,h2,h6]
     rcases k5 with ⟨k5,rfl⟩ | ⟨k5,k6,rfl,k7⟩ | ⟨k5,k6,k7⟩
     · exact .inr ⟨.inl k5,rfl,.inl k5⟩
     · exact .inr ⟨.inr k6,rfl,.inr (k7 _ _)⟩
     · exact .inl ⟨k5,k6,h7 _ k7⟩
 exact ends_ofG R hg0 hV (Q:=fun _ _ => False) (F:=S) (L:=L) (lf:=lf) (B:=idB S) (V0:=V0) (fun x y h => h.1)
   (key _ W0 rfl rfl (fun x h => h) (fun _ => Iff.rfl) (fun _ => id) rfl (fun _ => id) rfl rfl rfl rfl rfl hS)
   (key _ V0 rfl rfl (fun x h => h) (fun _ => Iff.rfl) (fun _ => id) rfl (fun _ => id) e1 e2 e3 e4 e5 fun x hx => by
     obtain ⟨c,c',t,t',f',k1,k2,k3,k4,k5⟩:=hS x hx
     refine ⟨c,c,t,t,_,k1,k1,Nat.le_refl _,fun i v hi g => ⟨(k4 i v hi g).1,g⟩,?_⟩
     rcases k5 with ⟨k5,rfl⟩ | ⟨k5,k6,rfl,k7⟩ | ⟨k5,k6,k7⟩
     · exact .inl ⟨k5,rfl⟩
     · exact .inr (.inl ⟨k5,k6,rfl,k7⟩)
     · exact .inr (.inr ⟨k5,k6,k7⟩))
   (ha _ rfl (fun _ => id)) (ha _ rfl (fun _ => id)) hc
end
def GlobUpG (g:Nat) (W:World):Prop:=∀ b C t fr,b ≠ g → b < Vp.prog.globals.size → W.heap[b]?=some (.cells C t fr) → ∀ n l,mvP Vp.prog t n l
def frz (W:World) (g:Nat) (C:Array Value) (t:TypeId):World:={ W with heap:=W.heap.setIfInBounds g (.cells C t (0,C.size)) }
section
variable {cl:List Nat} {g f:Nat} (R:RowOkG cl [g] f)
include R
theorem ends_bytesG (hV:Vals) {a:Option Addr} {c:Nat} {bs:List UInt8} {W0:World} {CT:Array Value} {tT:TypeId} {frT:Nat × Nat} (hN:Vp.prog.globals.size ≤ W0.heap.size) (hL:GlobUpG g W0)
   (hgb:W0.heap[g]?=some (.cells CT tT frT)) (hfl:∀ (i:Nat) v,CT[i]?=some v → ∃ k n,v=.int k n) (hs:Sl W0 a (bs.map byteV))
   (hblk:∀ x,a=some x → ∃ b off C t fr,x=⟨b,off,none⟩ ∧ W0.heap[b]?=some (.cells C t fr))
   (hlaw:∀ w,(∀ j,w.cell? ⟨g,j,none⟩=CT[j]?) → Sl w a (bs.map byteV) → Calls Vp.prog f #[.slice a bs.length c] w fun e _ => e=.returned (.bool true)) :
   Co.Ends Tryz.prog (fun v w' => v=.bool true ∧ Below W0.heap.size W0 w') #[G (Frame.enter Tryz.prog f #[.slice a bs.length c] .normal) []] W0 none #[]:=by
 have hgl:g < W0.heap.size:=(Array.getElem?_eq_some_iff.1 hgb).1
 have hg0:(frz W0 g CT tT).heap[g]?=some (.cells CT tT (0,CT.size)):=by
   unfold frz
   simp [hgl]
 have hgsz:(frz W0 g CT tT).heap.size=W0.heap.size:=by
   unfold frz
   simp
 have hother:∀ b,b ≠ g → (frz W0 g CT tT).heap[b]?=W0.heap[b]?:=fun b hb => by
   unfold frz
   simp [Array.getElem?_setIfInBounds,Ne.symm hb]
 have hcells:∀ x,(frz W0 g CT tT).cell? x=W0.cell? x:=fun x => by
   unfold World.cell?
   by_cases hb:x.block=g
   · rw [hb,hg0,hgb]
   · rw [hother _ hb]
 have htab:∀ j,(frz W0 g CT tT).cell? ⟨g,j,none⟩=CT[j]?:=fun j => by
   unfold World.cell?
   rw [hg0]
   rfl
 have hsl:Sl (frz W0 g CT tT) a (bs.map byteV):=by
   rcases hs with h | ⟨b',off',e,h⟩
   · exact .inl h
   · exact .inr ⟨b',off',e,fun i v hv => by rw [hcells]; exact h i v hv⟩
 have one:∀ x,x=g → ∃ c c' t t' f',(frz W0 g CT tT).heap[x]?=some (.cells c t (0,c.size)) ∧ W0.heap[x]?=some (.cells c' t' f') ∧ c.size ≤ c'.size ∧ (∀ i v,0 ≤ i → c[i]?=some v → (∃ k n,v=.int k n) ∧ c'[i]?=some v) ∧
     (((0:Nat)=0 ∧ t'=t) ∨ ((0:Nat) ≠ 0 ∧ x < Vp.prog.globals.size ∧ t'=t ∧ ∀ n l,mvP Vp.prog t n l) ∨ ((0:Nat) ≠ 0 ∧ Vp.prog.globals.size ≤ x ∧ Vp.prog.info? t=none)):=by
   rintro x rfl
   exact ⟨CT,CT,tT,tT,frT,hg0,hgb,Nat.le_refl _,fun i v _ h => ⟨hfl i v h,h⟩,.inl ⟨rfl,rfl⟩⟩
 have alone:(∀ x,a=some x → x.block=g ∧ x.spot=none) → Co.Ends Tryz.prog (fun v w' => v=.bool true ∧ Below W0.heap.size W0 w') #[G (Frame.enter Tryz.prog f #[.slice a bs.length c] .normal) []] W0 none #[]:=fun hin =>
   ends_blocks R hV (W0:=W0) (V0:=frz W0 g CT tT) (S:=fun x => x=g) (L:=fun _ => 0) (fun _ h => absurd rfl h) (fun x hx => by simpa using hx) (fun _ _ => rfl) hN rfl rfl rfl rfl hgsz one
     (fun X h1 h2 => AR.one (by
       cases a with
       | none => exact .snil _ _
       | some x =>
         obtain ⟨k1,k2⟩:=hin x rfl
         obtain ⟨b,off,s⟩:=x
         dsimp only at k1 k2
         subst k1 k2
         exact .slice _ _ ⟨⟨⟨rfl,rfl⟩,h2 _⟩,⟨rfl,by rw [h1]; exact Nat.zero_le _⟩,rfl⟩))
     fun τ d => hlaw _ htab hsl
 cases a with
 | none => exact alone fun x h => by cases h
 | some x =>
   obtain ⟨b,off,C,t,fr,rfl,hb⟩:=hblk x rfl
   by_cases hbg:b=g
   · exact alone fun x h => by cases h; exact ⟨hbg,rfl⟩
   have hlt:b < W0.heap.size:=(Array.getElem?_eq_some_iff.1 hb).1
   have hs':∀ i v,(bs.map byteV)[i]?=some v → W0.cell? ⟨b,off + i,none⟩=some v:=by
     rcases hs with h | ⟨b',off',e,h⟩
     · intro i v hv
       rw [h] at hv
       simp at hv
     · cases e
       exact h
   have hb':(frz W0 g CT tT).heap[b]?=some (.cells C t fr):=by rw [hother b hbg]; exact hb
   have hs2:∀ i v,(bs.map byteV)[i]?=some v → (frz W0 g CT tT).cell? ⟨b,off + i,none⟩=some v:=fun i v hv => by rw [hcells]; exact hs' i v hv
   obtain ⟨tV,htV⟩:∃ tV:TypeId,tV=if off=0 ∨ b < Vp.prog.globals.size then t else tNo:=⟨_,rfl⟩
   have hc0:(cutAt (frz W0 g CT tT) b C tV (off + (bs.map byteV).length)).heap[b]?=some (.cells (C.extract 0 (off + (bs.map byteV).length)) tV (0,(C.extract 0 (off + (bs.map byteV).length)).size)):=by
     unfold cutAt
     simp [hgsz,hlt]
   have hcg:(cutAt (frz W0 g CT tT) b C tV (off + (bs.map byteV).length)).heap[g]?=some (.cells CT tT (0,CT.size)):=by
     unfold cutAt
     simp only [Array.getElem?_setIfInBounds,hbg,if_false]
     exact hg0
   have hsz:(cutAt (frz W0 g CT tT) b C tV (off + (bs.map byteV).length)).heap.size=W0.heap.size:=by
     unfold cutAt
     simp [hgsz]
   refine ends_blocks R hV (W0:=W0) (V0:=cutAt (frz W0 g CT tT) b C tV (off + (bs.map byteV).length)) (S:=fun x => x=g ∨ x=b) (L:=fun x => if x=b then off else 0) (fun x h => ?_) (fun x hx => .inl (by simpa using hx)) (fun x hx => ?_) hN rfl rfl rfl rfl hsz ?_ ?_ ?_
   · by_cases e:x=b
     · exact .inr e
     · rw [if_neg e] at h
       exact absurd rfl h
   · obtain rfl:x=g:=by simpa using hx
     exact if_neg fun e => hbg e.symm
   · rintro x (rfl | rfl)
     · rw [if_neg fun e => hbg e.symm]
       exact ⟨CT,CT,tT,tT,frT,hcg,hgb,Nat.le_refl _,fun i v _ h => ⟨hfl i v h,h⟩,.inl ⟨rfl,rfl⟩⟩
     · rw [if_pos rfl]
       refine ⟨_,C,tV,t,fr,hc0,hb,by rw [Array.size_extract]; omega,fun i v hi h => ?_,?_⟩
       · obtain ⟨h3,h4⟩:=cut_flat hb hs' hi h
         obtain ⟨y,_,rfl⟩:=List.mem_map.1 h3
         exact ⟨⟨_,_,rfl⟩,h4⟩
       · by_cases h0:off=0
         · rw [if_pos (.inl h0)] at htV
           exact .inl ⟨h0,htV.symm⟩
         · by_cases hgs:x < Vp.prog.globals.size
           · rw [if_pos (.inr hgs)] at htV
             subst htV
             exact .inr (.inl ⟨h0,hgs,rfl,hL x C _ fr hbg hgs hb⟩)
           · rw [if_neg (fun h => h.elim h0 hgs)] at htV
             exact .inr (.inr ⟨h0,Nat.le_of_not_lt hgs,by rw [htV]; exact tNo_no⟩)
   · intro X h1 h2
     exact AR.one (.slice _ _ ⟨⟨⟨.inr rfl,rfl⟩,h2 _⟩,⟨rfl,by rw [h1]; exact Nat.le_of_eq (if_pos rfl)⟩,rfl⟩)
   · intro τ d
     refine hlaw _ (fun j => ?_) (cut_sl hb' hs2)
     unfold World.cell?
     rw [show ({ cutAt (frz W0 g CT tT) b C tV (off + (bs.map byteV).length) with tape:=τ,drawn:=d }:World).heap[g]?=some (.cells CT tT (0,CT.size)) from hcg]
     rfl
end
end Go.Proofs.YthhfljldbfgpcaaGreatDoor
end

section
namespace Go.Proofs.YthhfljldbfgpcaaGreatDoor
open Go.ChangeShapes Go.WideShapes Go.ChangeAt Go.RowKit
theorem own:ownKnob Vp.prog.godebug=none:=by kernel_rfl
def parsRowed (P:Program) (ts:List TypeId):Bool:=ts.all fun t => P.readableRec t && decide (t < P.types.size)
theorem trodAll_below {H:Type} {enc:TypeId × Value → H} {P:Program} (hl:laidOutB P=true) {W W':World} (hb:Below W.heap.size W W') :
   ∀ {ts:List TypeId} {vs:List Value} {ds:List (DataW H)} {ps:List MemPlace},parsRowed P ts=true →
     DataW.TrodAll enc P W 0 (fun _ => true) true ts vs ds ps → (∀ x ∈ ps,x.block < W.heap.size) →
     DataW.TrodAll enc P W' 0 (fun b => decide (b < W.heap.size)) true ts vs ds ps
 | [],[],[],_,_,h,_ => h
 | [],[],_ :: _,_,_,h,_ => h.elim
 | [],_ :: _,_,_,_,h,_ => h.elim
 | _ :: _,[],_,_,_,h,_ => h.elim
 | _ :: _,_ :: _,[],_,_,h,_ => h.elim
 | t :: ts,v :: vs,d :: ds,ps,hv,h,hlt => by
   obtain ⟨p,q,h1,h2,rfl⟩:=h
   simp only [parsRowed,List.all_cons,Bool.and_eq_true,decide_eq_true_eq] at hv
   exact ⟨p,q,Below.trod hl hv.1.1 hv.1.2 h1 hb (fun x hx => hlt x (by simp [hx])),
     trodAll_below hl hb (by simpa [parsRowed] using hv.2) h2 (fun x hx => hlt x (by simp [hx])),rfl⟩
theorem law_post {H:Type} {enc:TypeId × Value → H} {P:Program} {fn:Func} {s:ChangeSpec} {apart:Bool} {W W':World} {args:Array Value} {ds gs:List (DataW H)} {before:List MemPlace} {tb:TypeId}
   (hl:laidOutB P=true) (hp:parsRowed P fn.params.toList=true) (hvr:varsRowed P s.vars=true) (hr:fn.resultTypes=#[tb]) (htb:P.underlying tb=some .bool)
   (hW:DataW.Whole enc P fn.params.toList s.vars apart W args.toList ds gs before)
   (hs:(s.fn H (ds ++ gs)).results=[.lit (.bool true)]) (ha:(s.fn H (ds ++ gs)).args=ds) (hv:(s.fn H (ds ++ gs)).vars=gs)
   (hb:Below W.heap.size W W'):s.post enc P fn apart true false false W args (.bool true) W':=by
 have hlt:=hW.lt
 have hW2:=hW
 obtain ⟨p,q,hA,hV,rfl,hz,hn⟩:=hW
 refine ⟨ds,gs,p ++ q,[],p,q,hW2,?_,?_,?_,?_,fun h => by cases h⟩
 · rw [hs,hr]
   exact trodAll_mk1 (shut_bool htb true)
 · rw [ha]
   exact trodAll_below hl hb hp hA (fun x hx => hlt x (by simp [hx]))
 · rw [hv]
   exact Below.trodVars hl hb hvr hV
 · exact hb.frame _
theorem list_of {α:Type} {f:α → Value} {R:α → Prop} {V:Nat → Value}:∀ {len:Nat},(∀ i,i < len → ∃ x,V i=f x ∧ R x) → ∃ X:List α,X.length=len ∧ ∀ i x,X[i]?=some x → V i=f x ∧ R x
 | 0,_ => ⟨[],rfl,by simp⟩
 | k + 1,hV => by
   obtain ⟨X,hX,hX2⟩:=list_of (len:=k) (fun i hi => hV i (by omega))
   obtain ⟨x,hx⟩:=hV k (by omega)
   refine ⟨X ++ [x],by simp [hX],fun i u hu => ?_⟩
   by_cases hi:i < X.length
   · rw [List.getElem?_append_left hi] at hu; exact hX2 i u hu
   · rw [List.getElem?_append_right (by omega)] at hu
     have:i - X.length=0:=by
       rcases Nat.eq_zero_or_pos (i - X.length) with h | h
       · exact h
       · rw [List.getElem?_eq_none (by simp; omega)] at hu; cases hu
     rw [this] at hu
     simp at hu
     subst hu
     obtain rfl:i=k:=by omega
     exact hx
theorem open_sl {H:Type} {enc:TypeId × Value → H} {P:Program} {w:World} {base:Nat} {spare:Nat → Bool} {held:Bool} {t e:TypeId} {α:Type} {f:α → Value} {R:α → Prop} (ht:P.underlying t=some (.slice e)) (hc:P.cellsOf e=1)
   (he:∀ n v (y:DataW H × List MemPlace),DataW.trod enc P w base spare held n e [v]=some y → ∃ x,v=f x ∧ R x) {n:Nat} {v:Value} {y:DataW H × List MemPlace} (h:DataW.trod enc P w base spare held n t [v]=some y) :
   ∃ (a:Option Addr) (c:Nat) (xs:List α),v=.slice a xs.length c ∧ xs.length ≤ maxLen ∧ Sl w a (xs.map f) ∧ (∀ x ∈ xs,R x) ∧ xs.length ≤ c:=by
 rcases Deep.open_slice1 ht hc h with ⟨h,_⟩ | ⟨a,len,cap,m,n,V,D,Pl,hcs,_,hl,hm,hmm,_,hx⟩
 · simp at h; exact ⟨none,0,[],h,Nat.zero_le _,.inl rfl,by simp,Nat.le_refl _⟩
 · have hlm:len ≤ m:=by rw [hmm]; split <;> omega
   have hV:∀ i,i < len → ∃ x,V i=f x ∧ R x:=fun i hi => he _ _ _ (hx i (by omega)).2
   obtain ⟨X,hX,hX2⟩:=list_of hV
   simp at hcs
   subst hcs
   refine ⟨some a,cap,X,by rw [hX],by omega,?_,fun x hx => ?_,by omega⟩
   · by_cases h0:len=0
     · exact .inl (by rw [List.eq_nil_of_length_eq_zero (show X.length=0 by omega)]; rfl)
     · have hspot:a=⟨a.block,a.off,none⟩:=by
         have:=(hx 0 (by omega)).1
         obtain ⟨b,o,s⟩:=a
         cases s with
         | none => rfl
         | some s => simp [Addr.add,World.cell?] at this; split at this <;> simp at this
       refine .inr ⟨a.block,a.off,by rw [← hspot],fun i v hv => ?_⟩
       rw [List.getElem?_map] at hv
       obtain ⟨x,hx1,rfl⟩:=Option.map_eq_some_iff.1 hv
       have hi:i < len:=by
         have:=(List.getElem?_eq_some_iff.1 hx1).1; omega
       rw [← (hX2 i x hx1).1,← (hx i (by omega)).1]
       congr 1
       unfold Addr.add
       by_cases hi0:i=0
       · rw [if_pos hi0,hi0,Nat.add_zero]; exact hspot.symm
       · rw [if_neg hi0]
   · obtain ⟨i,hi,rfl⟩:=List.getElem_of_mem hx
     exact (hX2 i _ (List.getElem?_eq_getElem hi)).2
theorem open_bytes {H:Type} {enc:TypeId × Value → H} {P:Program} {w:World} {base:Nat} {spare:Nat → Bool} {held:Bool} {r:Reach} {b0:Nat} {t e:TypeId} {v:Value} {d:DataW H} {p:List MemPlace} (ht:P.underlying t=some (.slice e)) (hu:P.underlying e=some (.int .u8)) (hc:P.cellsOf e=1)
   (hv:Value.okWide P w r b0 t v) (h:DataW.Trod enc P w base spare held t v d p):∃ (a:Option Addr) (c:Nat) (bs:List UInt8),v=.slice a bs.length c ∧ bs.length ≤ maxLen ∧ bs.length ≤ c ∧ Sl w a (bs.map byteV):=by
 obtain ⟨fuel,hf⟩:=h
 obtain ⟨a,l,c,rfl⟩:∃ a l c,v=.slice a l c:=okWide_slice ht hv
 obtain ⟨a,c,xs,e,hn,hS,_,hc⟩:=open_sl (f:=byteV) (R:=fun _ => True) ht hc (fun n v y hy => by
   obtain ⟨x,e,_,hw⟩:=DataW.trod_int hu hy
   simp at e
   subst e
   have:x.toNat < 256 ∧ 0 ≤ x:=by simp [Lit.wf,IntKind.min,IntKind.max,IntKind.signed,IntKind.bits] at hw; omega
   refine ⟨⟨⟨x.toNat,by omega⟩⟩,?_,trivial⟩
   unfold byteV
   congr 1
   show x=(x.toNat:Int)
   omega) (by simpa [Value.cells] using hf)
 exact ⟨a,c,xs,e,hn,hc,hS⟩
end Go.Proofs.YthhfljldbfgpcaaGreatDoor
end

section
namespace Go.Proofs.YthhfljldbfgpcaaGreatDoor
open Go.ChangeShapes Go.WideShapes Go.ChangeAt Go.RowKit Go.Conc Go.Proofs.YthhfljldbfgpcaaGreatDoor.Ok
theorem globals_le {P:Program} {w:World} (h:w.ShapedOpen P):P.globals.size ≤ w.heap.size:=by
 have hb:P.globals.size < (begin P (fun _ _ => 0) default).world.heap.size:=by
   unfold begin
   simp
   omega
 obtain ⟨o,o0,h1,_⟩:=h.2 P.globals.size (Nat.le_refl _) hb
 exact Nat.le_of_lt (Array.getElem?_eq_some_iff.1 h1).1
theorem block_of {P:Program} {w:World} {r:Reach} {b0:Nat} {t e:TypeId} {a:Option Addr} {l c:Nat} (ht:P.underlying t=some (.slice e)) (hv:Value.okWide P w r b0 t (.slice a l c)) :
   ∀ x,a=some x → ∃ b off C t fr,x=⟨b,off,none⟩ ∧ w.heap[b]?=some (.cells C t fr):=by
 rintro x rfl
 unfold Value.okWide at hv
 rw [ht] at hv
 unfold Cell.okWide at hv
 rw [ht] at hv
 have hv:Cell.ok P w r b0 t (.slice (some x) l c):=hv
 unfold Cell.ok at hv
 rw [ht] at hv
 obtain ⟨_,_,_,hs,row,cells,hsh,_⟩:=hv
 obtain ⟨b,off,s⟩:=x
 dsimp only at hs hsh
 subst hs
 unfold World.shape? at hsh
 split at hsh
 · rename_i C t fr h
   exact ⟨b,off,C,t,fr,rfl,h⟩
 · cases hsh
theorem ownW:ownKnob Tryz.prog.godebug=none:=by kernel_rfl
theorem globals_v:Vp.prog.globals=Tryz.prog.globals:=congrArg Tables.globals Vp.tab
theorem laidW:laidOutB Tryz.prog=true:=by kernel_rfl
end Go.Proofs.YthhfljldbfgpcaaGreatDoor
end

section
namespace Go
theorem Claim7.holds_tied_going_at (Lk:Looks) {p:Pinned} {s:OpenSpec} {c:OpenClaim} (kinds:List LaidKind) (tests:Bool) (har:Bool × String) (lk:Bool)
   (hc:c.holds p s) (hw:c.wfByText s=true) (htie:c.laidByTextAt Lk p kinds tests)
   (hst:c.start=.entering) (hnb:c.noBlocks=false ∧ c.again=false) (hm:p.checked.prog.mainIs=some (har.1,har.2.toList)) (hn:(!har.1 && har.2.isEmpty && !lk)=false)
   (hl:∀ f fn,p.checked.prog.funcNamed c.func=some f → p.checked.prog.funcs[f]?=some fn → lk=p.checked.prog.looks [] ∧ ∀ (j:Nat) t,fn.params[j]?=some t → p.checked.prog.wantsStandIn t=false)
   (hg:true=c.goesBy p.checked.prog) :
   Claim7.holds p (.plain s) { stood:={ row:=c,standIns:=[],harness:=har,looks:=lk },kinds:=[],alts:=[],laidByText:=true,laidKinds:=kinds,laidTests:=tests,laidLooks:=Lk,goes:=true }:=by
 have h6:Claim7.isSixth { stood:={ row:=c,standIns:=[],harness:=har,looks:=lk },kinds:=[] }=false:=by simpa [Claim7.isSixth] using hn
 have h:=Claim7.tied_new_at Lk kinds tests (Claim7.new_of_sixth hc har lk hst hnb hm h6 hl) hw
 exact ⟨h,(fun D hD => by cases hD),htie,(fun h => by cases h),hg⟩
end Go
namespace Go.Proofs.YthhfljldbfgpcaaGreatDoor
open Go.ChangeShapes Go.WideShapes Go.ChangeAt Go.RowKit Go.Conc Go.Proofs.YthhfljldbfgpcaaGreatDoor.Ok
section
variable {H:Type} {enc:TypeId × Value → H}
theorem leaving_of_row {a:Assume} {C:Checked} {os:Os} {f:FuncId} {fn:Func} {s:ChangeSpec} {conds:List PathCond} {apart fresh handsOn again:Bool} {laid:List (String × DataW Unit)}
   (own:ownKnob C.prog.godebug=none) (started:os.Started) (hfn:C.prog.funcs[f]?=some fn)
   (witness:∃ (w:World) (tape:Tape) (i:Input),w.os=os ∧ (w.forCall tape i).Shaped C.prog ∧ i.vars=[] ∧ Input.okWide C.prog (w.forCall tape i) .any w.heap.size f i ∧
     (OpenSpec.ofChange s).preRow enc C.prog fn conds apart laid (w.forCall tape i).memory i.args ∧ a.holds C.prog (lone (Frame.enter C.prog f i.args .normal) [] (w.forCall tape i)))
   (runs:∀ (W:World) (base:Nat) (args:Array Value) (ds gs:List (DataW H)) (before:List MemPlace),W.ShapedOpen C.prog →
     (∀ (j:Nat) t v,fn.params[j]?=some t → args[j]?=some v → Value.okWide C.prog W .any base t v) →
     DataW.Whole enc C.prog fn.params.toList s.vars apart W args.toList ds gs before → laidMetH C.prog laid W →
     ∃ M last o w' t',runNT C.prog (M + 1) (solo (G (Frame.enter C.prog f args .normal) []) W) #[]=(.ended o w',t') ∧ runN C.prog M (solo (G (Frame.enter C.prog f args .normal) []) W)=.next last ∧
       step C.prog last=.ended o w' ∧ Conc.Good C.prog (fun v W' => s.post enc C.prog fn apart fresh handsOn again W args v W') last o w' t') :
   ReturnsInLeavingWide a C os f .any ((OpenSpec.ofChange s).preRow enc C.prog fn conds apart laid) (s.post enc C.prog fn apart fresh handsOn again):=by
 refine returnsInLeavingWide_of_good own started witness ?_
 intro w tape i _ hsh _ hok hpre _
 obtain ⟨_,_,_,fn',hfn',_,_,_,_,hval⟩:=hok
 obtain rfl:fn'=fn:=Option.some.inj (hfn'.symm.trans hfn)
 obtain ⟨⟨hp,hl⟩,hz⟩:=hpre
 obtain ⟨ds,gs,before,hw,_,_⟩:=OpenSpec.pre_parts hp
 have hw':=DataW.Whole.of_heap (w':=w.forCall tape i) (by rfl) hw
 obtain ⟨M,last,o,w',t',h1,h2,h3,h4⟩:=runs (w.forCall tape i) w.heap.size i.args ds gs before hsh hval hw' (hl.of_heap (by rfl))
 exact ⟨M,last,o,w',t',h1,h2,h3,h4.mono fun v hp => ChangeSpec.post_blind hp⟩
end
theorem gTabW:Tryz.prog.globalNamed "math/bits.deBruijn64tab" = some 1:=by kernel_rfl
theorem gTabTypeW:(Tryz.prog.globals[1]?).map (·.type)=some 127:=by kernel_rfl
theorem cellsTabW:Tryz.prog.cellsOf 127=64:=by kernel_rfl
theorem cellsU8W:Tryz.prog.cellsOf 5=1:=by kernel_rfl
def tabZW:List Int:=Lib.deBruijn64tab.map fun n:Nat => (n:Int)
theorem tab_ofW {W:World} (h:laidMetH Tryz.prog [("math/bits.deBruijn64tab",Rows.laid_math_bits_deBruijn64tab)] W):Tab W:=by
 have h2:=h
 rw [show [("math/bits.deBruijn64tab",(Rows.laid_math_bits_deBruijn64tab:DataW Unit))] = [("math/bits.deBruijn64tab",Lib.tabData .u8 tabZW)] from by kernel_rfl] at h2
 have h3:=Lib.tabIs_of_head (rest:=[]) gTabW gTabTypeW Tryz.underlying127 Tryz.underlying5 cellsU8W cellsTabW h2
 intro j hj
 have h4:=h3.cell gTabW j (by simpa [tabZW] using hj)
 rw [h4]
 congr 2
 unfold tabZW
 rw [List.getD_eq_getElem?_getD,List.getD_eq_getElem?_getD,List.getElem?_map]
 cases Lib.deBruijn64tab[j]? <;> rfl
def putTabW (cs:Array Value):Obj → Obj
 | .cells _ t frozen => .cells cs t frozen
 | o => o
noncomputable def laidWorldW (os:Os):World :=
 { World.holding Tryz.prog os ⟨#[],#[],[]⟩ with heap:=(World.holding Tryz.prog os ⟨#[],#[],[]⟩).heap.modify 1 (putTabW (tabZW.map (Value.int .u8)).toArray) }
theorem laid_metW (os:Os):laidMet Tryz.prog [("math/bits.deBruijn64tab",Rows.laid_math_bits_deBruijn64tab)] ((laidWorldW os).forCall (fun _ _ => 0) ⟨#[],#[.slice none 0 0],[]⟩).memory :=
 laidMet_of_run' 8 (by kernel_rfl) (by kernel_rfl)
theorem tab_block {W:World} (hsh:W.ShapedOpen Tryz.prog) (hT:Tab W):∃ CT t fr,W.heap[1]?=some (.cells CT t fr) ∧ (∀ (i:Nat) v,CT[i]?=some v → ∃ k n,v=.int k n) ∧ ∀ w:World,(∀ j,w.cell? ⟨1,j,none⟩=CT[j]?) → Tab w:=by
 obtain ⟨cs,h1,h2,-⟩:=hsh.1 1 (Array.replicate 64 (.int .u8 0)) 127 (by rw [show Tryz.prog.globals.size=2 by kernel_rfl]; decide) (by kernel_rfl)
 have hsz:cs.size=64:=by rw [h2]; rfl
 have hc:∀ j:Nat,W.cell? ⟨1,j,none⟩=cs[j]?:=fun j => by
   unfold World.cell?
   rw [h1]
   rfl
 refine ⟨cs,_,_,h1,fun i v hv => ?_,fun w hw j hj => ?_⟩
 · have hi:i < 64:=hsz ▸ (Array.getElem?_eq_some_iff.1 hv).1
   have h:=hT i hi
   rw [hc,hv] at h
   exact ⟨_,_,Option.some.inj h⟩
 · rw [hw,← hc]
   exact hT j hj
set_option maxRecDepth 100000 in
set_option maxHeartbeats 400000 in
theorem FnTile_lifted {cl:List Nat} (R:RowOkG cl [1] 3) (hV:Vals) (hup:∀ w:World,w.ShapedOpen Tryz.prog → GlobUpG 1 w)
   (hlaw:∀ (w:World) (_:Tab w) (a:Option Addr) (c:Nat) (bs:List UInt8),bs.length ≤ maxLen → bs.length ≤ c → Sl w a (bs.map byteV) → Calls Vp.prog 3 #[.slice a bs.length c] w fun e _ => e=.returned (.bool true))
   (os:Os) (started:os.Started) (H:Type) (enc:TypeId × Value → H) :
   ReturnsInLeavingWide {} Tryz.checked os 3 .any ((OpenSpec.ofChange Rows.fnTileSpec).preRow enc Tryz.prog Tryz.f3 Rows.fnTileRow.domain false Rows.fnTileRow.laid) (Rows.fnTileSpec.post enc Tryz.prog Tryz.f3 false true false false):=by
 obtain ⟨places,hx⟩:∃ places,DataW.whole enc Tryz.prog ((laidWorldW os).forCall (fun _ _ => 0) ⟨#[],#[.slice none 0 0],[]⟩).memory Tryz.f3.params.toList Rows.fnTileSpec.vars false #[(.slice none 0 0:Value)].toList 8=some ([.nil],[],places):=⟨[],by kernel_rfl⟩
 refine leaving_of_row (C:=Tryz.checked) ownW started (by kernel_rfl)
   (witness_row_at (enc:=enc) (C:=Tryz.checked) false (laidWorldW os) #[.slice none 0 0] rfl (by kernel_rfl) (by kernel_rfl) (by kernel_rfl)
     (OpenSpec.preRow_of_cond 8 hx (by kernel_rfl) (fun k hk => by cases hk) (by kernel_rfl) (laid_metW os))) ?_
 intro W base args ds gs before hsh hval0 hW hLd
 have hval:∀ (j:Nat) t v,Tryz.f3.params[j]?=some t → args[j]?=some v → Value.okWide Tryz.prog W .any base t v:=hval0
 have hW':=hW
 obtain ⟨p,q,hA0,hV0,rfl,_,_⟩:=hW
 have hA:DataW.TrodAll enc Tryz.prog W 0 (fun _ => true) true Tryz.f3.params.toList args.toList ds p:=hA0
 rw [Tryz.params3] at hA hval
 obtain ⟨v0,vs0,d0,ds0,p0,q0,hargs,rfl,rfl,h0,r0⟩:=trodAll_cons hA
 obtain ⟨rfl,rfl,rfl⟩:=trodAll_nil r0
 obtain rfl:args=#[v0]:=by cases args; simp_all
 obtain ⟨rfl,rfl⟩:=trodVars_none hV0
 have hok:=hval 0 22 v0 rfl rfl
 obtain ⟨a0,c0,l0,rfl,n0,m0,s0⟩:=open_bytes Tryz.underlying22 Tryz.underlying5 (by kernel_rfl) hok h0
 clear hA0 hval0
 obtain ⟨CT,tT,frT,hgb,hfl,htab⟩:=tab_block hsh (tab_ofW hLd)
 obtain ⟨N,last,o,w',t',e1,e2,e3,e4⟩:=ends_bytesG R hV (W0:=W) (a:=a0) (c:=c0) (bs:=l0) (by rw [globals_v]; exact globals_le hsh) (hup W hsh) hgb hfl s0 (block_of Tryz.underlying22 hok) fun w ht hs => hlaw w (htab w ht) a0 c0 l0 n0 m0 hs
 exact ⟨N,last,o,w',t',e1,e2,e3,e4.mono fun v ⟨hv,hb⟩ => by
   subst hv
   exact law_post laidW (by kernel_rfl) (by kernel_rfl) rfl Tryz.underlying4 hW' rfl rfl rfl hb⟩
set_option maxRecDepth 100000 in
theorem FnTile_of {cl:List Nat} (R:RowOkG cl [1] 3) (hV:Vals) (hup:∀ w:World,w.ShapedOpen Tryz.prog → GlobUpG 1 w)
   (hlaw:∀ (w:World) (_:Tab w) (a:Option Addr) (c:Nat) (bs:List UInt8),bs.length ≤ maxLen → bs.length ≤ c → Sl w a (bs.map byteV) → Calls Vp.prog 3 #[.slice a bs.length c] w fun e _ => e=.returned (.bool true)):Rows.FnTileSaid :=
 OpenClaim.holds_of_wide_leaving 3 Tryz.f3 rfl rfl rfl rfl rfl rfl rfl ⟨rfl,rfl,rfl,rfl,rfl⟩ rfl rfl rfl rfl rfl (by kernel_rfl) Tryz.func3 (by kernel_rfl)
   (of_decide_eq_true (by kernel_rfl)) (by unfold Func.isWrapper; first | (rw [if_pos (by decide +kernel)]; kernel_rfl) | (rw [if_neg (by decide +kernel)]; exact ⟨rfl,rfl⟩))
   (fun os started H enc _ => by rw [OpenClaim.pre_eq_preRow]; exact FnTile_lifted R hV hup hlaw os started H enc)
set_option maxRecDepth 100000 in
theorem FnTile_plain (f:FuncId) (fn:Func) (hf:Tryz.pinned.checked.prog.funcNamed "loop.example/quadraticorbits/laws.FnTile" = some f) (hfn:Tryz.pinned.checked.prog.funcs[f]?=some fn) :
   false=Tryz.pinned.checked.prog.looks [] ∧ ∀ (j:Nat) t,fn.params[j]?=some t → Tryz.pinned.checked.prog.wantsStandIn t=false:=by
 obtain rfl:f=3:=Option.some.inj ((show Tryz.prog.funcNamed "loop.example/quadraticorbits/laws.FnTile" = some 3 by kernel_rfl).symm.trans hf) |>.symm
 obtain rfl:fn=Tryz.f3:=(Option.some.inj (Tryz.func3.symm.trans hfn)).symm
 refine ⟨by kernel_rfl,fun j t ht => ?_⟩
 rw [Tryz.params3] at ht
 obtain rfl:t=22:=by simpa using Array.mem_of_getElem? ht
 exact (show Tryz.prog.wantsStandIn 22=false by kernel_rfl)
set_option maxRecDepth 100000 in
theorem FnTile_card (hs:Rows.FnTileSaid):Rows.FnTileCardSaid :=
 Claim7.holds_tied_going_at .later _ _ _ _ hs (by kernel_rfl) fnTile_row_tie rfl ⟨rfl,rfl⟩ (by kernel_rfl) rfl FnTile_plain (by kernel_rfl)
end Go.Proofs.YthhfljldbfgpcaaGreatDoor
end
