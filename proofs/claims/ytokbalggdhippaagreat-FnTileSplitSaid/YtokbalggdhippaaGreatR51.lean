/- Merged texts: SiF, RkT, Law, SiG, SiT. -/
import Derived.Test.YtokbalggdhippaaGreatR41
import Derived.Test.YtokbalggdhippaaGreatR3
import Derived.Test.YtokbalggdhippaaGreatRows
import Derived.WalkKit
import Derived.ProofKit
import Derived.OpenVars
import Derived.Lib.SmallJoins
import Derived.Conc.LeavingOf
set_option linter.all false
section
namespace Go.Proofs.YtokbalggdhippaaGreat
open Go.RowKit Go.Conc Go.Proofs.YtokbalggdhippaaGreat.Co Go.Proofs.YtokbalggdhippaaGreat.Ok Go.Proofs.YtokbalggdhippaaGreat.Lr Go.Proofs.YtokbalggdhippaaGreat.Tl Go.Proofs.YtokbalggdhippaaGreat.Bar
def cutAt (W:World) (b:Nat) (C:Array Value) (t:TypeId) (n:Nat):World:={ W with heap:=W.heap.setIfInBounds b (.cells (C.extract 0 n) t (0,(C.extract 0 n).size)) }
section
variable {W:World} {b off:Nat} {C:Array Value} {t:TypeId} {fr:Nat × Nat} {xs:List Value} (hb:W.heap[b]?=some (.cells C t fr)) (hs:∀ i v,xs[i]?=some v → W.cell? ⟨b,off + i,none⟩=some v)
include hb hs
theorem cut_sl {tV:TypeId}:Sl (cutAt W b C tV (off + xs.length)) (some ⟨b,off,none⟩) xs:=by
 refine .inr ⟨b,off,rfl,fun i v hv => ?_⟩
 have h:=hs i v hv
 have hlt:b < W.heap.size:=(Array.getElem?_eq_some_iff.1 hb).1
 have hi:i < xs.length:=(List.getElem?_eq_some_iff.1 hv).1
 unfold World.cell? at h ⊢
 rw [hb] at h
 have hc:(cutAt W b C tV (off + xs.length)).heap[b]?=some (.cells (C.extract 0 (off + xs.length)) tV (0,(C.extract 0 (off + xs.length)).size)):=by
   unfold cutAt
   simp [hlt]
 rw [hc]
 have h:C[off + i]?=some v:=h
 show (C.extract 0 (off + xs.length))[off + i]?=some v
 rw [Array.getElem?_extract,if_pos (by have:=(Array.getElem?_eq_some_iff.1 h).1; omega),Nat.zero_add]
 exact h
theorem cut_flat {i:Nat} {v:Value} (hi:off ≤ i) (h1:(C.extract 0 (off + xs.length))[i]?=some v):v ∈ xs ∧ C[i]?=some v:=by
 rw [Array.getElem?_extract] at h1
 split at h1
 · rename_i hlt
   rw [Nat.zero_add] at h1
   have hj:i - off < xs.length:=by
     omega
   obtain ⟨u,hu⟩:∃ u,xs[i - off]?=some u:=⟨_,List.getElem?_eq_getElem hj⟩
   have h:=hs (i - off) u hu
   unfold World.cell? at h
   rw [hb] at h
   have h:C[off + (i - off)]?=some u:=h
   rw [Nat.add_sub_cancel' hi,h1] at h
   cases h
   exact ⟨List.mem_of_getElem? hu,h1⟩
 · cases h1
theorem cut_rel {X:Cx} (hx:∀ v ∈ xs,Flat X v) {B:Lk}:PR X B off (C.extract 0 (off + xs.length)) C:=by
 refine ⟨by rw [Array.size_extract]; omega,fun i v v' hi h1 h2 => ?_⟩
 obtain ⟨h3,h4⟩:=cut_flat hb hs hi h1
 rw [h4] at h2
 cases h2
 exact hx _ h3 B
theorem cut_rel' {X:Cx} (hx:∀ v ∈ xs,Flat X v) {B:Lk}:PR X B off (C.extract 0 (off + xs.length)) (C.extract 0 (off + xs.length)):=by
 refine ⟨Nat.le_refl _,fun i v v' hi h1 h2 => ?_⟩
 rw [h1] at h2
 cases h2
 exact hx _ (cut_flat hb hs hi h1).1 B
end
abbrev tNo:TypeId:=1000000007
theorem tNo_no:Vp.prog.info? tNo=none:=by kernel_rfl
def GlobUp (W:World):Prop:=∀ b C t fr,b < Vp.prog.globals.size → W.heap[b]?=some (.cells C t fr) → ∀ n l,mvP Vp.prog t n l
theorem mvP_one {P:Program} {t:TypeId} (h1:P.cellsOf t=1) (h2:P.bytesOf t=1) (hu:∀ d off,byteOfCell P (d + 1) t off=if off=0 then some 0 else none) (hv:∀ d off,cellOfByte P (d + 1) t off=if off=0 then some 0 else none):∀ n l,mvP P t n l:=by
 intro n l off m off' hl hm h
 have hd:P.depth=2 * (P.types.size + Made.depth) + 1 + 1:=rfl
 unfold cellAtBytes at h
 rw [h1,h2,hd] at h
 simp only [hu,hv,Nat.mod_one,Nat.div_one,Nat.mul_one,if_true] at h
 simp at h
 omega
structure RowOk (cl:List Nat) (f:Nat):Prop where
 chkT:(cl.filter fun f => !(ext.contains f)).all (chk Vp.prog tmL cl [])=true
 chkV:((11 :: cl).filter fun f => !(ext.contains f)).all (chk Vp.prog [] (11 :: cl) [])=true
 not:cl.contains 11=false
 mem:cl.contains f=true
 ini:Tryz.prog.inits.idxOf? f=none
theorem wr_atV {X:Cx} {B:Lk} {V W:World} (h:WR X B V W):WR X B { V with tape:=W.tape,drawn:=W.drawn } W:=by
 have h1:=h.tape
 have h2:=h.drawn
 rw [h1,h2]
 exact h
section
variable {cl:List Nat} {f:Nat} (R:RowOk cl f) {Q:String → Code → Prop} {F:Nat → Prop} {L:Nat → Nat} {lf:∀ b,L b ≠ 0 → F b}
include R
theorem wholeT:Whole (cxL Vp.prog tmL cl [] Q (fun _ => False) F False L lf) Vp.prog Tryz.prog :=
 whole_ofL zeros Vp.tab.symm Vp.size.symm (fun f hf => by
   have ht:f ≠ 11:=fun e => by
     subst e
     have:=R.not
     rw [Bool.eq_false_iff] at this
     exact this (by simpa using hf)
   exact ⟨all_ok R.chkT f hf,fun n hn => by simp only [List.mem_singleton,Prod.mk.injEq] at hn; exact ht hn.1,(Vp.same ht).symm⟩)
 (fun f ⟨n,hn⟩ => by
   simp only [List.mem_singleton,Prod.mk.injEq] at hn
   obtain ⟨rfl,_⟩:=hn
   exact ⟨Vp.fT,Tryz.f11,Vp.funcT,Tryz.func11,by kernel_rfl,by kernel_rfl,by kernel_rfl,by kernel_rfl,by kernel_rfl⟩)
 tm_same fun g h => by cases h
theorem wholeV:Whole (cxL Vp.prog [] (11 :: cl) [] Q (fun _ => False) F False L lf) Vp.prog Vp.prog :=
 whole_ofL zeros rfl rfl (fun f hf => ⟨all_ok R.chkV f hf,(fun n hn => by cases hn),rfl⟩) (fun f ⟨n,hn⟩ => by cases hn) (fun f => .inl rfl) fun g h => by cases h
theorem ends_of (hV:Vals) {args:Array Value} {W0 V0:World} {B:Lk} (hB:∀ x y,B x y → F x)
   (hw:WR (cxL Vp.prog tmL cl [] Q (fun _ => False) F False L lf) B V0 W0) (hwV:WR (cxL Vp.prog [] (11 :: cl) [] Q (fun _ => False) F False L lf) B V0 V0)
   (ha:AR (cxL Vp.prog tmL cl [] Q (fun _ => False) F False L lf) B args args) (haV:AR (cxL Vp.prog [] (11 :: cl) [] Q (fun _ => False) F False L lf) B args args)
   (hc:∀ τ d,Calls Vp.prog f args { V0 with tape:=τ,drawn:=d } fun e _ => e=.returned (.bool true)) :
   Co.Ends Tryz.prog (fun v w' => v=.bool true ∧ Below W0.heap.size W0 w') #[G (Frame.enter Tryz.prog f args .normal) []] W0 none #[]:=by
 have hmem:f ∈ cl:=by simpa using R.mem
 have hnot:¬ ∃ n,(f,n) ∈ tmL:=fun ⟨n,hn⟩ => by
   simp only [List.mem_singleton,Prod.mk.injEq] at hn
   obtain ⟨rfl,_⟩:=hn
   have:=R.not
   rw [R.mem] at this
   cases this
 have hT:=wholeT R (Q:=Q) (F:=F) (L:=L) (lf:=lf)
 have hTV:=wholeV R (Q:=Q) (F:=F) (L:=L) (lf:=lf)
 have noT:∀ f,¬ (cxL Vp.prog [] (11 :: cl) [] Q (fun _ => False) F False L lf).T f:=fun f ⟨n,hn⟩ => by cases hn
 have hfV:FrR (cxL Vp.prog [] (11 :: cl) [] Q (fun _ => False) F False L lf) B (Frame.enter Vp.prog f args .normal) (Frame.enter Vp.prog f args .normal):=by
   rcases enter_lr (P:=Vp.prog) (P':=Vp.prog) (B:=B) (cs:=[]) (cs':=[]) hTV.hF (f:=f) (.inl (List.mem_cons_of_mem _ hmem)) (fun h => absurd h (noT _)) haV .normal (fun h => absurd h (noT _)) .nil with ⟨h,_⟩ | ⟨g,_,_,_,⟨h,_⟩,_⟩
   · exact h
   · exact absurd h (noT _)
 have hf:FrR (cxL Vp.prog tmL cl [] Q (fun _ => False) F False L lf) B (Frame.enter Vp.prog f args .normal) (Frame.enter Tryz.prog f args .normal):=by
   rcases enter_lr (P:=Vp.prog) (P':=Tryz.prog) (B:=B) (cs:=[]) (cs':=[]) hT.hF (f:=f) (.inl hmem) (fun h => absurd h hnot) ha .normal (fun h => absurd h hnot) .nil with ⟨h,_⟩ | ⟨g,p,p',k,⟨hg,_⟩,_,e,_⟩
   · exact h
   · obtain rfl:f=g:=congrArg Frame.fn e
     exact absurd hg hnot
 have hway:=way_of hTV noT (Q:=fun v _ => v=.bool true) (fun _ _ _ _ h => h) (f:=f) (args:=args) (V:=V0) ⟨B,V0,_,_,hwV,hfV,.nil,rfl⟩ fun τ d => (hc τ d).mono fun e w h => by
   subst h
   exact rfl
 have hs:=sim (Post:=fun v w' => v=.bool true ∧ Below W0.heap.size W0 w') (m0:=W0.heap.size) (w0:=W0) hT id (Q:=fun v _ => v=.bool true) (parts_of hV (fun x hx => Fin.pop hx.1) _ _ _) (fun _ _ _ _ h => h) (fun x hx => ⟨hx.1,by rw [hx.2]; exact R.ini⟩)
   (fun B V v v' W hv hvv _ hk => by
     subst hv
     cases hvv
     exact ⟨rfl,⟨hk.os.1,hk.tape,hk.os.2,hk.size,hk.old⟩⟩) hway
 exact hs B W0.tape W0.drawn #[G (Frame.enter Tryz.prog f args .normal) []] W0 none #[] (fun _ => 0) _ [] (wr_atV hw) hf .nil rfl ⟨fun x y h hn => absurd (hB x y h) hn,Nat.le_refl _,fun _ _ => rfl,rfl,⟨rfl,rfl⟩⟩ rfl (leavers_one _ _) (past_nil.mono (Nat.zero_le _))
theorem ends_bytes (hV:Vals) {a:Option Addr} {c:Nat} {bs:List UInt8} {W0:World} (hN:Vp.prog.globals.size ≤ W0.heap.size) (hL:GlobUp W0) (hs:Sl W0 a (bs.map byteV))
   (hblk:∀ x,a=some x → ∃ b off C t fr,x=⟨b,off,none⟩ ∧ W0.heap[b]?=some (.cells C t fr))
   (hlaw:∀ w,Sl w a (bs.map byteV) → Calls Vp.prog f #[.slice a bs.length c] w fun e _ => e=.returned (.bool true)) :
   Co.Ends Tryz.prog (fun v w' => v=.bool true ∧ Below W0.heap.size W0 w') #[G (Frame.enter Tryz.prog f #[.slice a bs.length c] .normal) []] W0 none #[]:=by
 cases a with
 | none =>
   have ar:∀ (X:Cx) (B:Lk),AR X B #[.slice none bs.length c] #[.slice none bs.length c]:=fun X B => AR.one (.snil _ _)
   have wr:∀ (X:Cx),X.N=Vp.prog.globals.size → (∀ g,¬ X.G g) → (∀ g,¬ X.D g) → (∀ g,¬ X.F g) → WR X (fun _ _ => False) W0 W0:=fun X h1 h2 h3 h4 =>
     ⟨rfl,rfl,rfl,rfl,fun _ _ _ h => h.elim,fun _ _ _ h => h.elim,fun g h => absurd h (h2 g),fun _ _ h => h.elim,fun _ _ h => h.elim,fun _ _ h => h.elim,fun b h => absurd h (h3 b),fun b h => absurd h (h4 b),fun _ _ h => h.elim,by rw [h1]; exact hN,by rw [h1]; exact hN⟩
   exact ends_of R hV (Q:=fun _ _ => False) (F:=fun _ => False) (L:=fun _ => 0) (lf:=fun _ h => absurd rfl h) (B:=fun _ _ => False) (V0:=W0) (fun _ _ h => h.elim) (wr _ rfl (fun g h => by cases h) (fun _ => id) (fun _ => id)) (wr _ rfl (fun g h => by cases h) (fun _ => id) (fun _ => id)) (ar _ _) (ar _ _)
     fun τ d => hlaw _ hs
 | some x =>
   obtain ⟨b,off,C,t,fr,rfl,hb⟩:=hblk x rfl
   have hlt:b < W0.heap.size:=(Array.getElem?_eq_some_iff.1 hb).1
   have hs':∀ i v,(bs.map byteV)[i]?=some v → W0.cell? ⟨b,off + i,none⟩=some v:=by
     rcases hs with h | ⟨b',off',e,h⟩
     · intro i v hv
       rw [h] at hv
       simp at hv
     · cases e
       exact h
   have hfl:∀ (X:Cx) (v:Value),v ∈ bs.map byteV → Flat X v:=fun X v hv B => by
     obtain ⟨x,_,rfl⟩:=List.mem_map.1 hv
     exact .int _ _
   have hlf:∀ x,(if x=b then off else 0) ≠ 0 → x=b:=fun x h => by
     by_cases e:x=b
     · exact e
     · rw [if_neg e] at h
       exact absurd rfl h
   have ar:∀ (X:Cx),(∀ g,¬ X.D g) → X.L b ≤ off → AR X (fun x y => x=b ∧ y=b) #[.slice (some ⟨b,off,none⟩) bs.length c] #[.slice (some ⟨b,off,none⟩) bs.length c]:=fun X h1 h2 => AR.one (.slice _ _ ⟨⟨⟨rfl,rfl⟩,h1 _⟩,⟨rfl,h2⟩,rfl⟩)
   obtain ⟨tV,htV⟩:∃ tV:TypeId,tV=if off=0 ∨ b < Vp.prog.globals.size then t else tNo:=⟨_,rfl⟩
   have hc0:(cutAt W0 b C tV (off + (bs.map byteV).length)).heap[b]?=some (.cells (C.extract 0 (off + (bs.map byteV).length)) tV (0,(C.extract 0 (off + (bs.map byteV).length)).size)):=by
     unfold cutAt
     simp [hlt]
   have hsz:(cutAt W0 b C tV (off + (bs.map byteV).length)).heap.size=W0.heap.size:=by
     unfold cutAt
     simp
   have wr:∀ (X:Cx) (W:World) (tW:TypeId),X.N=Vp.prog.globals.size → (∀ g,¬ X.G g) → (∀ g,¬ X.D g) → (∀ g,X.F g ↔ g=b) → X.L b=off → (X.Mv=mvP Vp.prog) → (∀ t,Vp.prog.info? t=none → X.Z t) → W.tape=W0.tape → W.drawn=W0.drawn → W.os=W0.os → W.output=W0.output → W.heap.size=W0.heap.size →
       (∃ c' f,W.heap[b]?=some (.cells c' tW f) ∧ (tW=tV ∨ tW=t) ∧ PR X (fun x y => x=b ∧ y=b) off (C.extract 0 (off + (bs.map byteV).length)) c') → WR X (fun x y => x=b ∧ y=b) (cutAt W0 b C tV (off + (bs.map byteV).length)) W:=by
     rintro X W tW h1 h2 h3 h4 h5 h6 hz e1 e2 e3 e4 e5 ⟨c',f',h7,hty,h8⟩
     refine ⟨e1,e2,e3,e4,?_,?_,fun g h => absurd h (h2 g),?_,?_,fun x y _ h => absurd h (h3 x),fun x h => absurd h (h3 x),fun x h => ?_,?_,?_,?_⟩
     · rintro x y z ⟨_,rfl⟩ ⟨_,rfl⟩
       rfl
     · rintro x y z ⟨rfl,_⟩ ⟨rfl,_⟩
       rfl
     · rintro x y ⟨rfl,rfl⟩ _ hn
       exact absurd ((h4 _).2 rfl) hn
     · rintro x y ⟨hx,hy⟩ _ _
       rw [hx,hy]
       refine ⟨_,c',tV,tW,f',hc0,h7,by rw [h5]; exact h8,?_⟩
       unfold TyR
       rw [h5,h6,h1]
       by_cases hcs:off=0 ∨ b < Vp.prog.globals.size
       · rw [if_pos hcs] at htV
         refine .inr ⟨hcs,?_,?_⟩
         · rcases hty with h | h
           · exact h
           · rw [h,htV]
         · rcases hcs with h | h
           · exact .inl h
           · exact .inr (by rw [htV]; exact hL b C t fr h hb _ _)
       · rw [if_neg hcs] at htV
         exact .inl ⟨fun h => hcs (.inl h),Nat.le_of_not_lt fun h => hcs (.inr h),by rw [htV]; exact hz _ tNo_no⟩
     · rw [(h4 x).1 h,hsz]
       exact hlt
     · rintro x y ⟨rfl,rfl⟩
       exact Iff.rfl
     · rw [hsz,h1]
       exact hN
     · rw [e5,h1]
       exact hN
   exact ends_of R hV (Q:=fun _ _ => False) (F:=fun x => x=b) (L:=fun x => if x=b then off else 0) (lf:=hlf) (B:=fun x y => x=b ∧ y=b) (V0:=cutAt W0 b C tV (off + (bs.map byteV).length)) (fun _ _ h => h.1)
     (wr _ W0 t rfl (fun g h => by cases h) (fun _ => id) (fun _ => Iff.rfl) (if_pos rfl) rfl (fun _ => id) rfl rfl rfl rfl rfl ⟨C,fr,hb,.inr rfl,cut_rel hb hs' (hfl _)⟩)
     (wr _ _ tV rfl (fun g h => by cases h) (fun _ => id) (fun _ => Iff.rfl) (if_pos rfl) rfl (fun _ => id) rfl rfl rfl rfl hsz ⟨_,_,hc0,.inl rfl,cut_rel' hb hs' (hfl _)⟩)
     (ar _ (fun _ => id) (Nat.le_of_eq (if_pos rfl))) (ar _ (fun _ => id) (Nat.le_of_eq (if_pos rfl)))
     fun τ d => hlaw _ (cut_sl hb hs')
end
end Go.Proofs.YtokbalggdhippaaGreat
end

section
namespace Go.Proofs.YtokbalggdhippaaGreat
open Go.Conc Go.Proofs.YtokbalggdhippaaGreat.Co Go.Proofs.YtokbalggdhippaaGreat.Ok Go.Proofs.YtokbalggdhippaaGreat.Lr Go.Proofs.YtokbalggdhippaaGreat.Tl Go.Proofs.YtokbalggdhippaaGreat.Bar
def tspFs:List Nat:=[4,10,12,13,14,15,16,17,24,25,26,29,30,31,32,33,36,37,38,39,40,41,44,50,51,52,53,54,55,56,57,58,59,63,76,77,78,79,80,81,82,83,84,85,97,98,99,100,101,102,103,104,105,106,107,108,132,133,134,135,136,137,152,153,154,155,160,161,162,163]
set_option maxRecDepth 100000 in
theorem tsp_chkT:(tspFs.filter fun f => !(ext.contains f)).all (chk Vp.prog tmL tspFs [])=true:=by kernel_rfl
set_option maxRecDepth 100000 in
theorem tsp_chkV:((11 :: tspFs).filter fun f => !(ext.contains f)).all (chk Vp.prog [] (11 :: tspFs) [])=true:=by kernel_rfl
theorem tsp_ok:RowOk tspFs 4:=⟨tsp_chkT,tsp_chkV,by kernel_rfl,by kernel_rfl,by kernel_rfl⟩
end Go.Proofs.YtokbalggdhippaaGreat
end

section
namespace Go.Proofs.YtokbalggdhippaaGreat
open Go.ChangeShapes Go.WideShapes Go.ChangeAt Go.RowKit
def parsRowed (P:Program) (ts:List TypeId):Bool:=ts.all fun t => P.readableRec t && decide (t < P.types.size)
theorem trodAll_below {H:Type} {enc:TypeId × Value → H} {P:Program} (hl:laidOutB P=true) {W W':World} (hb:Below W.heap.size W W') :
   ∀ {ts:List TypeId} {vs:List Value} {ds:List (DataW H)} {ps:List MemPlace},parsRowed P ts=true →
     DataW.TrodAll enc P W 0 (fun _ => true) true ts vs ds ps → (∀ x ∈ ps,x.block < W.heap.size) →
     DataW.TrodAll enc P W' 0 (fun b => decide (b < W.heap.size)) true ts vs ds ps
 | [],[],[],_,_,h,_ => h
 | [],[],_ :: _,_,_,h,_ => h.elim
 | [],_ :: _,_,_,_,h,_ => h.elim
 | _ :: _,[],_,_,_,h,_ => h.elim
 | _ :: _,_ :: _,[],_,_,h,_ => h.elim
 | t :: ts,v :: vs,d :: ds,ps,hv,h,hlt => by
   obtain ⟨p,q,h1,h2,rfl⟩:=h
   simp only [parsRowed,List.all_cons,Bool.and_eq_true,decide_eq_true_eq] at hv
   exact ⟨p,q,Below.trod hl hv.1.1 hv.1.2 h1 hb (fun x hx => hlt x (by simp [hx])),
     trodAll_below hl hb (by simpa [parsRowed] using hv.2) h2 (fun x hx => hlt x (by simp [hx])),rfl⟩
theorem law_post {H:Type} {enc:TypeId × Value → H} {P:Program} {fn:Func} {s:ChangeSpec} {apart:Bool} {W W':World} {args:Array Value} {ds gs:List (DataW H)} {before:List MemPlace} {tb:TypeId}
   (hl:laidOutB P=true) (hp:parsRowed P fn.params.toList=true) (hvr:varsRowed P s.vars=true) (hr:fn.resultTypes=#[tb]) (htb:P.underlying tb=some .bool)
   (hW:DataW.Whole enc P fn.params.toList s.vars apart W args.toList ds gs before)
   (hs:(s.fn H (ds ++ gs)).results=[.lit (.bool true)]) (ha:(s.fn H (ds ++ gs)).args=ds) (hv:(s.fn H (ds ++ gs)).vars=gs)
   (hb:Below W.heap.size W W'):s.post enc P fn apart true false false W args (.bool true) W':=by
 have hlt:=hW.lt
 have hW2:=hW
 obtain ⟨p,q,hA,hV,rfl,hz,hn⟩:=hW
 refine ⟨ds,gs,p ++ q,[],p,q,hW2,?_,?_,?_,?_,fun h => by cases h⟩
 · rw [hs,hr]
   exact trodAll_mk1 (shut_bool htb true)
 · rw [ha]
   exact trodAll_below hl hb hp hA (fun x hx => hlt x (by simp [hx]))
 · rw [hv]
   exact Below.trodVars hl hb hvr hV
 · exact hb.frame _
theorem list_of {α:Type} {f:α → Value} {R:α → Prop} {V:Nat → Value}:∀ {len:Nat},(∀ i,i < len → ∃ x,V i=f x ∧ R x) → ∃ X:List α,X.length=len ∧ ∀ i x,X[i]?=some x → V i=f x ∧ R x
 | 0,_ => ⟨[],rfl,by simp⟩
 | k + 1,hV => by
   obtain ⟨X,hX,hX2⟩:=list_of (len:=k) (fun i hi => hV i (by omega))
   obtain ⟨x,hx⟩:=hV k (by omega)
   refine ⟨X ++ [x],by simp [hX],fun i u hu => ?_⟩
   by_cases hi:i < X.length
   · rw [List.getElem?_append_left hi] at hu; exact hX2 i u hu
   · rw [List.getElem?_append_right (by omega)] at hu
     have:i - X.length=0:=by
       rcases Nat.eq_zero_or_pos (i - X.length) with h | h
       · exact h
       · rw [List.getElem?_eq_none (by simp; omega)] at hu; cases hu
     rw [this] at hu
     simp at hu
     subst hu
     obtain rfl:i=k:=by omega
     exact hx
theorem open_sl {H:Type} {enc:TypeId × Value → H} {P:Program} {w:World} {base:Nat} {spare:Nat → Bool} {held:Bool} {t e:TypeId} {α:Type} {f:α → Value} {R:α → Prop} (ht:P.underlying t=some (.slice e)) (hc:P.cellsOf e=1)
   (he:∀ n v (y:DataW H × List MemPlace),DataW.trod enc P w base spare held n e [v]=some y → ∃ x,v=f x ∧ R x) {n:Nat} {v:Value} {y:DataW H × List MemPlace} (h:DataW.trod enc P w base spare held n t [v]=some y) :
   ∃ (a:Option Addr) (c:Nat) (xs:List α),v=.slice a xs.length c ∧ xs.length ≤ maxLen ∧ Sl w a (xs.map f) ∧ (∀ x ∈ xs,R x) ∧ xs.length ≤ c:=by
 rcases Deep.open_slice1 ht hc h with ⟨h,_⟩ | ⟨a,len,cap,m,n,V,D,Pl,hcs,_,hl,hm,hmm,_,hx⟩
 · simp at h; exact ⟨none,0,[],h,Nat.zero_le _,.inl rfl,by simp,Nat.le_refl _⟩
 · have hlm:len ≤ m:=by rw [hmm]; split <;> omega
   have hV:∀ i,i < len → ∃ x,V i=f x ∧ R x:=fun i hi => he _ _ _ (hx i (by omega)).2
   obtain ⟨X,hX,hX2⟩:=list_of hV
   simp at hcs
   subst hcs
   refine ⟨some a,cap,X,by rw [hX],by omega,?_,fun x hx => ?_,by omega⟩
   · by_cases h0:len=0
     · exact .inl (by rw [List.eq_nil_of_length_eq_zero (show X.length=0 by omega)]; rfl)
     · have hspot:a=⟨a.block,a.off,none⟩:=by
         have:=(hx 0 (by omega)).1
         obtain ⟨b,o,s⟩:=a
         cases s with
         | none => rfl
         | some s => simp [Addr.add,World.cell?] at this; split at this <;> simp at this
       refine .inr ⟨a.block,a.off,by rw [← hspot],fun i v hv => ?_⟩
       rw [List.getElem?_map] at hv
       obtain ⟨x,hx1,rfl⟩:=Option.map_eq_some_iff.1 hv
       have hi:i < len:=by
         have:=(List.getElem?_eq_some_iff.1 hx1).1; omega
       rw [← (hX2 i x hx1).1,← (hx i (by omega)).1]
       congr 1
       unfold Addr.add
       by_cases hi0:i=0
       · rw [if_pos hi0,hi0,Nat.add_zero]; exact hspot.symm
       · rw [if_neg hi0]
   · obtain ⟨i,hi,rfl⟩:=List.getElem_of_mem hx
     exact (hX2 i _ (List.getElem?_eq_getElem hi)).2
theorem open_bytes {H:Type} {enc:TypeId × Value → H} {P:Program} {w:World} {base:Nat} {spare:Nat → Bool} {held:Bool} {r:Reach} {b0:Nat} {t e:TypeId} {v:Value} {d:DataW H} {p:List MemPlace} (ht:P.underlying t=some (.slice e)) (hu:P.underlying e=some (.int .u8)) (hc:P.cellsOf e=1)
   (hv:Value.okWide P w r b0 t v) (h:DataW.Trod enc P w base spare held t v d p):∃ (a:Option Addr) (c:Nat) (bs:List UInt8),v=.slice a bs.length c ∧ bs.length ≤ maxLen ∧ bs.length ≤ c ∧ Sl w a (bs.map byteV):=by
 obtain ⟨fuel,hf⟩:=h
 obtain ⟨a,l,c,rfl⟩:∃ a l c,v=.slice a l c:=okWide_slice ht hv
 obtain ⟨a,c,xs,e,hn,hS,_,hc⟩:=open_sl (f:=byteV) (R:=fun _ => True) ht hc (fun n v y hy => by
   obtain ⟨x,e,_,hw⟩:=DataW.trod_int hu hy
   simp at e
   subst e
   have:x.toNat < 256 ∧ 0 ≤ x:=by simp [Lit.wf,IntKind.min,IntKind.max,IntKind.signed,IntKind.bits] at hw; omega
   refine ⟨⟨⟨x.toNat,by omega⟩⟩,?_,trivial⟩
   unfold byteV
   congr 1
   show x=(x.toNat:Int)
   omega) (by simpa [Value.cells] using hf)
 exact ⟨a,c,xs,e,hn,hc,hS⟩
end Go.Proofs.YtokbalggdhippaaGreat
end

section
namespace Go.Proofs.YtokbalggdhippaaGreat
open Go.ChangeShapes Go.WideShapes Go.ChangeAt Go.RowKit Go.Conc Go.Proofs.YtokbalggdhippaaGreat.Ok
theorem globals_le {P:Program} {w:World} (h:w.ShapedOpen P):P.globals.size ≤ w.heap.size:=by
 have hb:P.globals.size < (begin P (fun _ _ => 0) default).world.heap.size:=by
   unfold begin
   simp
   omega
 obtain ⟨o,o0,h1,_⟩:=h.2 P.globals.size (Nat.le_refl _) hb
 exact Nat.le_of_lt (Array.getElem?_eq_some_iff.1 h1).1
theorem block_of {P:Program} {w:World} {r:Reach} {b0:Nat} {t e:TypeId} {a:Option Addr} {l c:Nat} (ht:P.underlying t=some (.slice e)) (hv:Value.okWide P w r b0 t (.slice a l c)) :
   ∀ x,a=some x → ∃ b off C t fr,x=⟨b,off,none⟩ ∧ w.heap[b]?=some (.cells C t fr):=by
 rintro x rfl
 unfold Value.okWide at hv
 rw [ht] at hv
 unfold Cell.okWide at hv
 rw [ht] at hv
 have hv:Cell.ok P w r b0 t (.slice (some x) l c):=hv
 unfold Cell.ok at hv
 rw [ht] at hv
 obtain ⟨_,_,_,hs,row,cells,hsh,_⟩:=hv
 obtain ⟨b,off,s⟩:=x
 dsimp only at hs hsh
 subst hs
 unfold World.shape? at hsh
 split at hsh
 · rename_i C t fr h
   exact ⟨b,off,C,t,fr,rfl,h⟩
 · cases hsh
section
variable {H:Type} {enc:TypeId × Value → H}
theorem leaving_of {a:Assume} {C:Checked} {os:Os} {f:FuncId} {fn:Func} {s:ChangeSpec} {conds:List PathCond} {apart fresh handsOn again:Bool}
   (own:ownKnob C.prog.godebug=none) (started:os.Started) (hfn:C.prog.funcs[f]?=some fn)
   (witness:∃ (w:World) (tape:Tape) (i:Input),w.os=os ∧ (w.forCall tape i).Shaped C.prog ∧ i.vars=[] ∧ Input.okWide C.prog (w.forCall tape i) .any w.heap.size f i ∧
     s.pre6 enc C.prog fn conds apart (w.forCall tape i).memory i.args ∧ a.holds C.prog (lone (Frame.enter C.prog f i.args .normal) [] (w.forCall tape i)))
   (runs:∀ (W:World) (base:Nat) (args:Array Value) (ds gs:List (DataW H)) (before:List MemPlace),W.ShapedOpen C.prog →
     (∀ (j:Nat) t v,fn.params[j]?=some t → args[j]?=some v → Value.okWide C.prog W .any base t v) →
     DataW.Whole enc C.prog fn.params.toList s.vars apart W args.toList ds gs before →
     ∃ M last o w' t',runNT C.prog (M + 1) (solo (G (Frame.enter C.prog f args .normal) []) W) #[]=(.ended o w',t') ∧ runN C.prog M (solo (G (Frame.enter C.prog f args .normal) []) W)=.next last ∧
       step C.prog last=.ended o w' ∧ Conc.Good C.prog (fun v W' => s.post enc C.prog fn apart fresh handsOn again W args v W') last o w' t') :
   ReturnsInLeavingWide a C os f .any (s.pre6 enc C.prog fn conds apart) (s.post enc C.prog fn apart fresh handsOn again):=by
 refine returnsInLeavingWide_of_good own started witness ?_
 intro w tape i _ hsh _ hok hpre _
 obtain ⟨_,_,_,fn',hfn',_,_,_,_,hval⟩:=hok
 obtain rfl:fn'=fn:=Option.some.inj (hfn'.symm.trans hfn)
 obtain ⟨⟨ds,gs,before,hw,_⟩,_⟩:=hpre
 have hw':=DataW.Whole.of_heap (w':=w.forCall tape i) (by rfl) hw
 obtain ⟨M,last,o,w',t',h1,h2,h3,h4⟩:=runs (w.forCall tape i) w.heap.size i.args ds gs before hsh hval hw'
 exact ⟨M,last,o,w',t',h1,h2,h3,h4.mono fun v hp => ChangeSpec.post_blind hp⟩
end
theorem boolUp:∀ n l,mvP Vp.prog 4 n l :=
 mvP_one (by kernel_rfl) (by kernel_rfl) (fun d off => by unfold byteOfCell; rw [Vp.und Tryz.underlying4]) (fun d off => by unfold cellOfByte; rw [Vp.und Tryz.underlying4])
theorem glob_up {w:World} (h:w.ShapedOpen Tryz.prog):GlobUp w:=by
 intro b C t fr hb hw n l
 have hn:Vp.prog.globals.size=1:=by kernel_rfl
 have hnW:Tryz.prog.globals.size=1:=by kernel_rfl
 obtain rfl:b=0:=by omega
 obtain ⟨cs,h1,-,-⟩:=h.1 0 #[.bool false] 4 (by omega) (by kernel_rfl)
 rw [h1] at hw
 injection hw with hw
 injection hw with _ hw
 subst hw
 exact boolUp n l
theorem ownW:ownKnob Tryz.prog.godebug=none:=by kernel_rfl
theorem globals_v:Vp.prog.globals=Tryz.prog.globals:=congrArg Tables.globals Vp.tab
theorem laidW:laidOutB Tryz.prog=true:=by kernel_rfl
end Go.Proofs.YtokbalggdhippaaGreat
end

section
namespace Go.Proofs.YtokbalggdhippaaGreat
open Go.ChangeShapes Go.WideShapes Go.ChangeAt Go.RowKit Go.Conc Go.Proofs.YtokbalggdhippaaGreat.Ok
set_option maxRecDepth 100000 in
set_option maxHeartbeats 400000 in
theorem FnTileSplit_lifted {cl:List Nat} (R:RowOk cl 4) (hV:Vals) (hlaw:∀ (w:World) (a:Option Addr) (c:Nat) (bs:List UInt8),bs.length ≤ maxLen → bs.length ≤ c → Sl w a (bs.map byteV) → Calls Vp.prog 4 #[.slice a bs.length c] w fun e _ => e=.returned (.bool true))
   (os:Os) (started:os.Started) (H:Type) (enc:TypeId × Value → H) :
   ReturnsInLeavingWide {} Tryz.checked os 4 .any (Rows.fnTileSplitSpec.pre6 enc Tryz.prog Tryz.f4 Rows.fnTileSplitRow.domain false) (Rows.fnTileSplitSpec.post enc Tryz.prog Tryz.f4 false true false false):=by
 refine leaving_of (C:=Tryz.checked) ownW started (by kernel_rfl)
   (ChangeSpec.witness6 (enc:=enc) (C:=Tryz.checked) false ⟨#[],#[.slice none 0 0],[]⟩ 8 (by kernel_rfl) (by kernel_rfl) (by kernel_rfl) (by kernel_rfl)) ?_
 intro W base args ds gs before hsh hval0 hW
 have hval:∀ (j:Nat) t v,Tryz.f4.params[j]?=some t → args[j]?=some v → Value.okWide Tryz.prog W .any base t v:=hval0
 have hW':=hW
 obtain ⟨p,q,hA0,hV0,rfl,_,_⟩:=hW
 have hA:DataW.TrodAll enc Tryz.prog W 0 (fun _ => true) true Tryz.f4.params.toList args.toList ds p:=hA0
 rw [Tryz.params4] at hA hval
 obtain ⟨v0,vs0,d0,ds0,p0,q0,hargs,rfl,rfl,h0,r0⟩:=trodAll_cons hA
 obtain ⟨rfl,rfl,rfl⟩:=trodAll_nil r0
 obtain rfl:args=#[v0]:=by cases args; simp_all
 obtain ⟨rfl,rfl⟩:=trodVars_none hV0
 have hok:=hval 0 22 v0 rfl rfl
 obtain ⟨a0,c0,l0,rfl,n0,m0,s0⟩:=open_bytes Tryz.underlying22 Tryz.underlying5 (by kernel_rfl) hok h0
 clear hA0 hval0
 obtain ⟨N,last,o,w',t',e1,e2,e3,e4⟩:=ends_bytes R hV (W0:=W) (a:=a0) (c:=c0) (bs:=l0) (by rw [globals_v]; exact globals_le hsh) (glob_up hsh) s0 (block_of Tryz.underlying22 hok) fun w hs => hlaw w a0 c0 l0 n0 m0 hs
 exact ⟨N,last,o,w',t',e1,e2,e3,e4.mono fun v ⟨hv,hb⟩ => by
   subst hv
   exact law_post laidW (by kernel_rfl) (by kernel_rfl) rfl Tryz.underlying4 hW' rfl rfl rfl hb⟩
theorem FnTileSplit_of {cl:List Nat} (R:RowOk cl 4) (hV:Vals) (hlaw:∀ (w:World) (a:Option Addr) (c:Nat) (bs:List UInt8),bs.length ≤ maxLen → bs.length ≤ c → Sl w a (bs.map byteV) → Calls Vp.prog 4 #[.slice a bs.length c] w fun e _ => e=.returned (.bool true)):Rows.FnTileSplitSaid :=
 OpenClaim.holds_of_wide_leaving 4 Tryz.f4 rfl rfl rfl rfl rfl rfl rfl ⟨rfl,rfl,rfl,rfl,rfl⟩ rfl rfl rfl rfl rfl (by kernel_rfl) Tryz.func4 (by kernel_rfl)
   (of_decide_eq_true (by kernel_rfl)) (by unfold Func.isWrapper; first | (rw [if_pos (by decide +kernel)]; kernel_rfl) | (rw [if_neg (by decide +kernel)]; exact ⟨rfl,rfl⟩))
   (fun os started H enc _ => FnTileSplit_lifted R hV hlaw os started H enc)
end Go.Proofs.YtokbalggdhippaaGreat
end
