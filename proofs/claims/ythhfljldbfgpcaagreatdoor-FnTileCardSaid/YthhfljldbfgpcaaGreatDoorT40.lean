/- Merged texts: SeH, SeI, SeJ. -/
import Derived.Test.YthhfljldbfgpcaaGreatDoorT35
import Derived.Test.YthhfljldbfgpcaaGreatDoorT39
import Derived.Conc.Walk
import Derived.Conc.DeferLaws
import Derived.Conc.Quits
set_option linter.all false
section
namespace Go.Proofs.YthhfljldbfgpcaaGreatDoor
open Go.RowKit Go.Conc Go.Proofs.YthhfljldbfgpcaaGreatDoor.Co Go.Proofs.YthhfljldbfgpcaaGreatDoor.Ok Go.Proofs.YthhfljldbfgpcaaGreatDoor.Lr Go.Proofs.YthhfljldbfgpcaaGreatDoor.Tl Go.Proofs.YthhfljldbfgpcaaGreatDoor.Bar
theorem cuts_one {P:Program} {why:String} {d:Code} {f id:Nat} {ops:Array Oper} (h:Cuts P why d) (ht:∀ k ∈ cuts,∀ i ∈ k.2,tagOf i=why → k.1=f ∧ i=id) (hr:(regs (bodyOf P f)).filter (fun r => r.1 == id)=[(id,ops,false)]):d=.region id ops false:=by
 obtain ⟨k,hk,r,hrm,hi,hw,rfl⟩:=h
 have hi':r.1 ∈ k.2:=by simpa using hi
 obtain ⟨e1,e2⟩:=ht k hk r.1 hi' hw.symm
 rw [e1] at hrm
 have:r ∈ (regs (bodyOf P f)).filter (fun r => r.1 == id):=List.mem_filter.2 ⟨hrm,by simp [e2]⟩
 rw [hr] at this
 rw [List.mem_singleton] at this
 rw [this]
noncomputable def opsOf:Code → Array Oper
 | .region _ ops _ => ops
 | _ => #[]
noncomputable def ops0:Array Oper:=opsOf sR0
noncomputable def ops13:Array Oper:=opsOf sR13
theorem cuts0 {d:Code} (h:Cuts Tryz.prog "0" d):d=.region 0 ops0 false:=cuts_one (f:=21) h (by decide) (by kernel_rfl)
theorem cuts13 {d:Code} (h:Cuts Tryz.prog "13" d):d=.region 13 ops13 false:=cuts_one (f:=21) h (by decide) (by kernel_rfl)
section
variable {X:Cx} {B:Lk}
theorem td_nil {s:List Item} (h:TdR X B [] s):s=[]:=by cases h; rfl
theorem td_refuse {why:String} {k s:List Item} (h:TdR X B (.code (.refuse why) :: k) s) (hn:why ≠ "unsupported: a function without a Go body is entered"):∃ d k',s=.code d :: k' ∧ X.R why d ∧ TdR X B k k':=by
 cases h with
 | cons h hk =>
   cases h with
   | code hc => exact ⟨_,_,rfl,hc.resolve_left hn,hk⟩
theorem fr_parts {b:Frame} {a:Act} {s:List Item} {fr:Frame} (h:FrR X B (b.at a s) fr):fr=fr.at ⟨fr.tmps,fr.defers⟩ fr.todo ∧ AR X B a.tmps fr.tmps ∧ DsR X B a.defers fr.defers ∧ TdR X B s fr.todo ∧ fr.kind=b.kind ∧ fr.fn=b.fn:=by
 refine ⟨frame_at ?_ ?_,h.tmps,h.defers,h.todo,h.kind,h.fn⟩
 · have:=h.mode
   generalize fr.mode=q at this
   cases this
   rfl
 · have:=h.roundOf
   generalize fr.roundOf=q at this
   cases this
   rfl
theorem fr_build {b b':Frame} {a a':Act} {s s':List Item} (h1:AR X B a.tmps a'.tmps) (h2:DsR X B a.defers a'.defers) (h3:TdR X B s s') (h4:b'.kind=b.kind) (h5:b'.fn=b.fn):FrR X B (b.at a s) (b'.at a' s') :=
 ⟨h5,h1,h3,h2,.run,h4,.none⟩
theorem ar_at {p p':Array Value} (h:AR X B p p') {i:Nat} {v:Value} (hv:p[i]?=some v):∃ v',p'[i]?=some v' ∧ VR X B v v':=by
 rcases h.get i with ⟨x,x',h1,h2,h3⟩ | ⟨h1,_⟩
 · rw [hv] at h1; cases h1; exact ⟨x',h2,h3⟩
 · rw [hv] at h1; cases h1
theorem ar_put {a a':Act} (h:AR X B a.tmps a'.tmps) (d:Option Nat) {v v':Value} (hv:VR X B v v'):AR X B (a.put d v).tmps (a'.put d v').tmps:=by
 cases d with
 | none => exact h
 | some d => exact h.set d hv
theorem wr_cells {V W:World} (hw:WR X B V W) {b b':Nat} (hb:B b b') (hd:¬ X.D b) {C:Array Value} {t:TypeId} (h:V.heap[b]?=some (.cells C t (0,0))) (hs:0 < C.size):¬ X.F b ∧ ∃ C',W.heap[b']?=some (.cells C' t (0,0)) ∧ AR X B C C':=by
 have hf:¬ X.F b:=fun f => by
   obtain ⟨c,c',t1,t2,g,h1,_⟩:=hw.froz b b' hb hd f
   rw [h] at h1
   injection h1 with h1
   injection h1 with h1 _ h2
   subst h1
   injection h2 with _ h2
   omega
 refine ⟨hf,?_⟩
 obtain ⟨o,o',h1,h2,h3⟩:=hw.live b b' hb hd hf
 rw [h] at h1
 cases h1
 cases h3 with
 | cells t f a => exact ⟨_,h2,a⟩
theorem ar_flat {p p':Array Value} (h:AR X B p p') (hf:∀ v ∈ p,(∃ x,v=floV x) ∨ ∃ x,v=intV x):p'=p:=by
 apply Array.ext_getElem?
 intro i
 rcases h.get i with ⟨x,x',h1,h2,h3⟩ | ⟨h1,h2⟩
 · rw [h1,h2]
   rcases hf x (Array.mem_of_getElem? h1) with ⟨y,rfl⟩ | ⟨y,rfl⟩ <;> (cases h3; rfl)
 · rw [h1,h2]
end
def bS:Frame:={ (default:Frame) with fn:=21,kind:=.deferred }
noncomputable def born0:Frame:={ (default:Frame) with fn:=Tryz.prog.funcs.size,defers:=[],mode:=.panicking [goexitEntry] }
noncomputable def closeD (c:Nat):Deferred:={ target:=.builtin .close #[96] ((ops0.getD 1 default).type) #[false],args:=#[.chan (some c)] }
noncomputable def Xs (c:Nat) (F:Nat → Prop):Cx:=cx Vp.prog phs [] (Cuts Tryz.prog) (fun b => b=c) F
theorem whole_s (c:Nat) (F:Nat → Prop):Whole (Xs c F) Vp.prog Tryz.prog:=whole _ _ _
def RowIs (n:Nat) (st:Nat → Nat → Int) (sm:Nat → Nat → Nat) (i:Nat) (v:Value) (R':Nat → Prop) (W:World):Prop :=
 ∃ sb mb f g,v=.agg #[.slice (some ⟨sb,0,none⟩) n n,.slice (some ⟨mb,0,none⟩) n n] ∧ sb ≠ mb ∧ (∀ x,R' x ↔ x=sb ∨ x=mb) ∧
   W.heap[sb]?=some (.cells (((List.range n).map (sm i)).map floV).toArray 42 f) ∧ W.heap[mb]?=some (.cells (((List.range n).map (st i)).map intV).toArray 3 g)
def SendS (c n:Nat) (st:Nat → Nat → Int) (sm:Nat → Nat → Nat):Nat → (Nat → Prop) → (Nat → Prop) → Frame → List Frame → World → Prop
 | 0,L,R,fr,cs,W => Co Tryz.prog false [] R (fun _ fr cs _ => Closes Tryz.prog [] c fr cs) L fr cs W
 | k + 1,L,R,fr,cs,W => Co Tryz.prog false [] R (fun L fr cs W => ∃ v z,Stops Tryz.prog false [] c (.send v z) fr cs ∧ ∃ R',RowIs n st sm (n - (k + 1)) v R' W ∧ (∀ x,R' x → L x) ∧
     ∀ W2,Rely (fun x => L x ∧ ¬ R' x) (fun x => R x ∨ R' x) W W2 → SendS c n st sm k (fun x => L x ∧ ¬ R' x) (fun x => R x ∨ R' x) (fr.finish undef) cs W2) L fr cs W
theorem op13_0:∃ o,ops13[0]?=some o ∧ o.op=.move (.tmp 0) ∧ o.dst=some 58 ∧ o.guard=none:=⟨ops13.getD 0 default,by kernel_rfl,by kernel_rfl,by kernel_rfl,by kernel_rfl⟩
theorem op13_1:∃ o,ops13[1]?=some o ∧ o.op=.load 60 (.tmp 11) ∧ o.dst=some 59 ∧ o.guard=none:=⟨ops13.getD 1 default,by kernel_rfl,by kernel_rfl,by kernel_rfl,by kernel_rfl⟩
theorem op13_2:∃ o,ops13[2]?=some o ∧ o.op=.send (.tmp 58) (.tmp 59) ∧ o.dst=none ∧ o.guard=none:=⟨ops13.getD 2 default,by kernel_rfl,by kernel_rfl,by kernel_rfl,by kernel_rfl⟩
theorem size13:ops13.size=3:=by kernel_rfl
theorem op0_0:∃ o,ops0[0]?=some o ∧ o.op=.move (.tmp 0) ∧ o.dst=some 16 ∧ o.guard=none:=⟨ops0.getD 0 default,by kernel_rfl,by kernel_rfl,by kernel_rfl,by kernel_rfl⟩
theorem op0_1:∃ o,ops0[1]?=some o ∧ o.op=.defer { callee:=.builtin .close,args:=#[.tmp 16],argTypes:=#[96] } ∧ o.type=(ops0.getD 1 default).type ∧ o.dst=none ∧ o.guard=none:=⟨ops0.getD 1 default,by kernel_rfl,by kernel_rfl,rfl,by kernel_rfl,by kernel_rfl⟩
theorem size0:ops0.size=2:=by kernel_rfl
theorem load_row {w:World} {rb:Nat} {x y:Value} (h0:w.cell? ⟨rb,0,none⟩=some x) (h1:w.cell? ⟨rb,1,none⟩=some y) {a:Act} {o:Oper} (hop:o.op=.load 60 (.tmp 11)) (ha:a.eval (.tmp 11)=.pointer (some ⟨rb,0,none⟩)) :
   (execOp a.eval o).run Tryz.prog w=.ok (.value (.agg #[x,y])) w ∧ ∀ e ∈ (execOp a.eval o).events Tryz.prog w #[],∃ ad:Addr,e=⟨.cell ad,false,false⟩ ∧ ad.block=rb:=by
 have e1:execOp a.eval o=(do pure (.value (← Instr.loadAt 60 (a.eval (.tmp 11))))):=by unfold execOp; simp only [hop]
 rw [e1,ha]
 constructor
 · simp [go_sem,h0,h1]
 · intro e he
   simp [go_sem,h0,h1] at he
   rcases he with rfl | rfl
   · exact ⟨_,rfl,rfl⟩
   · exact ⟨_,rfl,rfl⟩
end Go.Proofs.YthhfljldbfgpcaaGreatDoor
end

section
namespace Go.Proofs.YthhfljldbfgpcaaGreatDoor
open Go.RowKit Go.Conc Go.Proofs.YthhfljldbfgpcaaGreatDoor.Co Go.Proofs.YthhfljldbfgpcaaGreatDoor.Ok Go.Proofs.YthhfljldbfgpcaaGreatDoor.Lr Go.Proofs.YthhfljldbfgpcaaGreatDoor.Tl Go.Proofs.YthhfljldbfgpcaaGreatDoor.Bar
theorem below_blind {n:Nat} {w W:World} (h:Below n w W) (τ:Tape) (d:Nat):Below n { w with tape:=τ,drawn:=d } { W with tape:=τ,drawn:=d }:=⟨h.os,rfl,h.output,h.size,h.block⟩
theorem box_blind {w W:World} {b:Nat} {C:Array Value} {T:TypeId} (h:Box w b C T W) (τ:Tape) (d:Nat):Box { w with tape:=τ,drawn:=d } b C T { W with tape:=τ,drawn:=d }:=⟨h.blk,below_blind h.old τ d⟩
theorem rw_blind {w W:World} {rb cap N M gs gm:Nat} {xs:List Nat} {ys:List Int} (h:RW w rb cap N M gs gm xs ys W) (τ:Tape) (d:Nat):RW { w with tape:=τ,drawn:=d } rb cap N M gs gm xs ys { W with tape:=τ,drawn:=d }:=⟨box_blind h.R τ d,h.S,h.M,h.hr⟩
theorem hs_blind {ch:Value} {cx cy d n:Nat} {most:Int} {st:Nat → Nat → Int} {sm:Nat → Nat → Nat} {ds:List Deferred} {i:Nat} (t:List Item) (a:Act) (W:World) (τ:Tape) (k:Nat) (h:HS ch cx cy d n most st sm ds i t a W):HS ch cx cy d n most st sm ds i t a { W with tape:=τ,drawn:=k }:=by
 rcases h with ⟨h1,h2,w,rb,gs,gm,g1,g2,g3,g4,g5,g6,g7,g8,g9,g10,g11⟩ | h
 · exact .inl ⟨h1,h2,{ w with tape:=τ,drawn:=k },rb,gs,gm,g1,g2,g3,g4,g5,g6,g7,g8,g9,g10,rw_blind g11 τ k⟩
 · exact .inr h
def WH (X:Cx) (B:Lk) (H:Array Obj) (W:World):Prop:=∃ V:World,V.heap=H ∧ WR X B V W
section
variable {X:Cx} {B:Lk} {H:Array Obj} {W W2:World}
theorem WH.rely (h:WH X B H W) (hr:Rely (Hot X B) (Ice X B) W W2):WH X B H W2:=by
 obtain ⟨V,rfl,hw⟩:=h
 exact ⟨{ V with tape:=W2.tape,drawn:=W2.drawn },rfl,wr_rely hw hr⟩
theorem WH.hot (h:WH X B H W):∀ b,Hot X B b → b < W.heap.size:=by
 obtain ⟨V,rfl,hw⟩:=h
 rintro b ⟨a,h1,_⟩
 exact hw.ltW h1
theorem WH.cells (h:WH X B H W) {b b':Nat} (hb:B b b') (hd:¬ X.D b) {C:Array Value} {t:TypeId} (hc:H[b]?=some (.cells C t (0,0))) (hs:0 < C.size):¬ X.F b ∧ ∃ C',W.heap[b']?=some (.cells C' t (0,0)) ∧ AR X B C C':=by
 obtain ⟨V,rfl,hw⟩:=h
 exact wr_cells hw hb hd hc hs
end
theorem own_full {W:World} {B:Nat} {e:TypeId} {g n:Nat} {xs:List Value} (h:W.ownsRow B e 1 (.slice (some ⟨g,0,none⟩) n n) n xs):W.heap[g]?=some (.cells xs.toArray e (0,0)):=by
 obtain ⟨hl,h | ⟨g',cap,cur,hv,_,hg,_,_,hs,ht⟩⟩:=h
 · cases h.1
 · cases hv
   rw [hg]
   have:cur.toList.take (n * 1)=cur.toList:=List.take_of_length_le (by simp [hs])
   rw [this] at ht
   have e:cur=xs.toArray:=by rw [← ht]
   rw [e]
theorem put_get {a:Act} {d j:Nat} {v:Value} (h:d ≠ j):(a.put (some d) v).tmps[j]?=a.tmps[j]?:=Array.getElem?_setIfInBounds_ne h
theorem put_size {a:Act} {d:Option Nat} {v:Value}:(a.put d v).tmps.size=a.tmps.size:=by cases d <;> simp [Act.put]
def SNext (c cx cy d n:Nat) (most:Int) (i:Nat) (L R:Nat → Prop) (fr:Frame) (cs:List Frame) (W:World):Prop :=
 ∃ (B:Lk) (H:Array Obj) (F:Nat → Prop) (a a':Act) (b':Frame) (k':List Item) (ops:Array Oper),cs=[] ∧ fr=b'.at a' (.inRegion ops [] :: k') ∧ WH (Xs c F) B H W ∧ FrR (Xs c F) B (bS.at a [.inBlock 1,.code sR14,.inLoop sX,.inBlock 0]) (b'.at a' k') ∧
   L=Hot (Xs c F) B ∧ R=Ice (Xs c F) B ∧ B c c ∧ SA (.chan (some c)) cx cy d n most i a ∧ a.defers=[closeD c]
theorem alike_s (c:Nat) (F F':Nat → Prop):Lr.Alike (Xs c F) (Xs c F'):=⟨rfl,rfl,rfl,rfl,rfl,rfl,rfl,rfl,rfl,rfl,rfl,rfl,rfl,rfl⟩
theorem WH.freeze {c:Nat} {F F':Nat → Prop} {B:Lk} {H:Array Obj} {W:World} (h:WH (Xs c F) B H W) {s s':Nat} (hs:B s s') (hd:s ≠ c) {C:Array Value} {t:TypeId} {f:Nat × Nat} (hv:H[s]?=some (.cells C t f)) (hF:∀ b,F' b ↔ F b ∨ b=s):WH (Xs c F') B (H.setIfInBounds s (.cells C t (0,C.size))) W:=by
 obtain ⟨V,rfl,hw⟩:=h
 exact ⟨_,rfl,wr_freeze (alike_s c F F') hw hs hd hv hF⟩
theorem stops_send {c:Nat} {b:Frame} {a:Act} {k:List Item} {cs base:List Frame} {v:Value} (hk:b.kind ≠ .early) (hx:a.eval (.tmp 58)=.chan (some c)) (hy:a.eval (.tmp 59)=v):Stops Tryz.prog false base c (.send v (.tuple #[])) (b.at a (.inRegion ops13 [2] :: k)) cs:=by
 obtain ⟨o,ho,hop,hd,hg⟩:=op13_2
 intro w
 rw [stepG_comm (cases:=#[scase c v (.tuple #[])]) (blocking:=true) (shape:=.send) (w':=w) ho (by simp [Region.wanted,hg]) hk (by unfold execOp; simp only [hop]; rw [hx,hy]; rfl)]
 have he:(execOp a.eval o).events Tryz.prog w #[]=#[]:=by unfold execOp; simp only [hop]; rfl
 unfold listed
 rw [he,seen_none]
 rfl
set_option maxHeartbeats 1000000 in
theorem send_row {c cx cy d n i:Nat} {most:Int} {st:Nat → Nat → Int} {sm:Nat → Nat → Nat} (hn:0 < n) {B:Lk} {F:Nat → Prop} {V w0 W:World} {fr:Frame} {a:Act} (hw:WR (Xs c F) B V W)
   (hf:FrR (Xs c F) B (bS.at a [.code (.refuse "13"),.inBlock 1,.code sR14,.inLoop sX,.inBlock 0]) fr) (hcc:B c c) (hR:RowN (.chan (some c)) cx cy d n most st sm [closeD c] w0 i a V) :
   Co Tryz.prog false [born0] (Ice (Xs c F) B) (fun L fr cs W => ∃ v z,Stops Tryz.prog false [born0] c (.send v z) fr cs ∧ ∃ R',RowIs n st sm i v R' W ∧ (∀ x,R' x → L x) ∧
     ∀ W2,Rely (fun x => L x ∧ ¬ R' x) (fun x => Ice (Xs c F) B x ∨ R' x) W W2 → SNext c cx cy d n most i (fun x => L x ∧ ¬ R' x) (fun x => Ice (Xs c F) B x ∨ R' x) (fr.finish undef) cs W2) (Hot (Xs c F) B) fr [] W:=by
 obtain ⟨rb,gs,gm,g1,g2,g3,g4,g5,g6,g7,g8,g9,g10,g11⟩:=hR
 obtain ⟨e1,har,hds,htd,hk,hfn⟩:=fr_parts hf
 obtain ⟨d13,k',etd,hd13,hk'⟩:=td_refuse htd (by decide)
 obtain rfl:=cuts13 hd13
 rw [etd] at e1
 rw [e1]
 have hke:fr.kind ≠ .early:=by rw [hk]; simp [bS]
 
 have hbox:=g11.R.blk
 have hsb:=own_full g11.S
 have hmb:=own_full g11.M
 have hH0:WH (Xs c F) B V.heap W:=⟨V,rfl,hw⟩
 generalize V.heap=H at hbox hsb hmb hH0
 
 obtain ⟨v0,t0,r0⟩:=ar_at har g3
 obtain ⟨v11,t11,r11⟩:=ar_at har g10
 have hfnB:∀ b b₁ b₂,B b b₁ → B b b₂ → b₁=b₂:=hw.fn
 have hinj:∀ b₁ b₂ b',B b₁ b' → B b₂ b' → b₁=b₂:=hw.inj
 have e0:v0=.chan (some c):=by
   cases r0 with
   | chan h => rw [hfnB _ _ _ h hcc]
 subst e0
 obtain ⟨rb',hrb,hrbD,e11⟩:∃ rb',B rb rb' ∧ rb ≠ c ∧ v11=.pointer (some ⟨rb',0,none⟩):=by
   cases r11 with
   | @ptr _ ad h =>
     obtain ⟨⟨h1,h2⟩,⟨h3,_⟩,h4⟩:=h
     obtain ⟨x,y,z⟩:=ad
     dsimp only at h1 h3 h4
     subst h3 h4
     exact ⟨x,h1,h2,rfl⟩
 subst e11
 clear r0 r11
 
 obtain ⟨hF1,C1,w1,a1⟩:=hH0.cells hrb hrbD hbox (by simp)
 obtain ⟨x0,c0,r0⟩:=ar_at a1 (i:=0) (v:=.slice (some ⟨gs,0,none⟩) n n) rfl
 obtain ⟨x1,c1,r1⟩:=ar_at a1 (i:=1) (v:=.slice (some ⟨gm,0,none⟩) n n) rfl
 obtain ⟨sb,hsB,hsD,e2⟩:∃ sb,B gs sb ∧ gs ≠ c ∧ x0=.slice (some ⟨sb,0,none⟩) n n:=by
   cases r0 with
   | @slice _ ad _ _ h =>
     obtain ⟨⟨h1,h2⟩,⟨h3,_⟩,h4⟩:=h
     obtain ⟨x,y,z⟩:=ad
     dsimp only at h1 h3 h4
     subst h3 h4
     exact ⟨x,h1,h2,rfl⟩
 subst e2
 obtain ⟨mb,hmB,hmD,e3⟩:∃ mb,B gm mb ∧ gm ≠ c ∧ x1=.slice (some ⟨mb,0,none⟩) n n:=by
   cases r1 with
   | @slice _ ad _ _ h =>
     obtain ⟨⟨h1,h2⟩,⟨h3,_⟩,h4⟩:=h
     obtain ⟨x,y,z⟩:=ad
     dsimp only at h1 h3 h4
     subst h3 h4
     exact ⟨x,h1,h2,rfl⟩
 subst e3
 have hgne:gs ≠ gm:=fun e => by
   subst e
   rw [hsb] at hmb
   injection hmb with h
   injection h with _ h _
   cases h
 have hrbHot:Hot (Xs c F) B rb':=⟨rb,hrb,hrbD,hF1⟩
 have hsize:fr.tmps.size=61:=by rw [← har.1]; exact g1
 obtain ⟨o0,ho0,hop0,hdst0,hg0⟩:=op13_0
 obtain ⟨o1,ho1,hop1,hdst1,hg1⟩:=op13_1
 
 refine Co.region hH0.hot fun W1 hr1 => ?_
 rw [size13]
 have hH1:=hH0.rely hr1
 have w1':W1.heap[rb']?=_:=(hr1.2.1 rb' (.inl hrbHot)).trans w1
 refine Co.val ho0 hg0 hke (yields_move hop0) hH1.hot fun W2 hr2 => ?_
 have hH2:=hH1.rely hr2
 have w2:W2.heap[rb']?=_:=(hr2.2.1 rb' (.inl hrbHot)).trans w1'
 have ev0:Act.eval ⟨fr.tmps,fr.defers⟩ (.tmp 0)=.chan (some c):=by simp [Act.eval,Array.getD_eq_getD_getElem?,t0]
 rw [ev0,hdst0]
 have hval:∀ W3:World,W3.heap[rb']?=some (.cells C1 60 (0,0)) → W3.cell? ⟨rb',0,none⟩=some (.slice (some ⟨sb,0,none⟩) n n) ∧ W3.cell? ⟨rb',1,none⟩=some (.slice (some ⟨mb,0,none⟩) n n):=fun W3 h => ⟨by simp [World.cell?,h,c0],by simp [World.cell?,h,c1]⟩
 have ev11:Act.eval (Act.put ⟨fr.tmps,fr.defers⟩ (some 58) (.chan (some c))) (.tmp 11)=.pointer (some ⟨rb',0,none⟩):=by
   simp [Act.eval,Act.put,Array.getD_eq_getD_getElem?,Array.getElem?_setIfInBounds,t11]
 refine Co.step (L1:=fun _ => Hot (Xs c F) B) (fr1:=fr.at (Act.put (Act.put ⟨fr.tmps,fr.defers⟩ (some 58) (.chan (some c))) (some 59) (.agg #[.slice (some ⟨sb,0,none⟩) n n,.slice (some ⟨mb,0,none⟩) n n])) (.inRegion ops13 [2] :: k')) (cs1:=[]) id (fun W3 => listed Tryz.prog fr.fn (Act.put ⟨fr.tmps,fr.defers⟩ (some 58) (.chan (some c))) o1 W3) (fun W3 hr3 => ?_) fun W3 hr3 => ?_
 · have w3:W3.heap[rb']?=_:=(hr3.2.1 rb' (.inl hrbHot)).trans w2
   obtain ⟨h0,h1⟩:=hval W3 w3
   obtain ⟨l1,l2⟩:=load_row h0 h1 hop1 ev11
   refine ⟨?_,did_read (hH2.rely hr3).hot fun e he => ?_⟩
   · have:=stepG_value (P:=Tryz.prog) (main:=false) (b:=fr) (k:=k') (cs:=[] ++ [born0]) (rest:=[2]) ho1 (by simp [Region.wanted,hg1]) hke l1
     rw [hdst1] at this
     exact this
   · obtain ⟨ad,rfl,hb⟩:=l2 e (mem_listed he)
     exact ⟨rfl,.inl (hb ▸ hrbHot)⟩
 · have hH3:=hH2.rely hr3
   obtain ⟨hFS,CS,wS,aS⟩:=hH3.cells hsB hsD hsb (by simpa using hn)
   obtain ⟨hFM,CM,wM,aM⟩:=hH3.cells hmB hmD hmb (by simpa using hn)
   have hS:∀ v ∈ ((((List.range n).map (sm i)).map floV).toArray:Array Value),(∃ x,v=floV x) ∨ ∃ x,v=intV x:=fun v hv => by
     rw [List.mem_toArray,List.mem_map] at hv
     obtain ⟨x,_,rfl⟩:=hv
     exact .inl ⟨x,rfl⟩
   have hM:∀ v ∈ ((((List.range n).map (st i)).map intV).toArray:Array Value),(∃ x,v=floV x) ∨ ∃ x,v=intV x:=fun v hv => by
     rw [List.mem_toArray,List.mem_map] at hv
     obtain ⟨x,_,rfl⟩:=hv
     exact .inr ⟨x,rfl⟩
   have hsm:sb ≠ mb:=fun e => by
     subst e
     exact hgne (hinj _ _ _ hsB hmB)
   
   refine .stop ⟨.agg #[.slice (some ⟨sb,0,none⟩) n n,.slice (some ⟨mb,0,none⟩) n n],.tuple #[],stops_send hke ?_ ?_,fun x => x=sb ∨ x=mb,?_,?_,fun W4 hr4 => ?_⟩
   · simp [Act.eval,Act.put,Array.getD_eq_getD_getElem?,Array.getElem?_setIfInBounds,hsize]
   · simp [Act.eval,Act.put,Array.getD_eq_getD_getElem?,Array.getElem?_setIfInBounds,hsize]
   · exact ⟨sb,mb,(0,0),(0,0),rfl,hsm,fun _ => .rfl,(ar_flat aS hS) ▸ wS,(ar_flat aM hM) ▸ wM⟩
   · rintro x (rfl | rfl)
     · exact ⟨gs,hsB,hsD,hFS⟩
     · exact ⟨gm,hmB,hmD,hFM⟩
   · have k1:=hH3.freeze (F':=fun b => F b ∨ b=gs) hsB hsD hsb (fun _ => .rfl)
     have k2:=k1.freeze (F':=fun b => (F b ∨ b=gs) ∨ b=gm) hmB hmD (by rw [Array.getElem?_setIfInBounds,if_neg hgne]; exact hmb) (fun _ => .rfl)
     have eL:(fun x => Hot (Xs c F) B x ∧ ¬ (x=sb ∨ x=mb))=Hot (Xs c fun b => (F b ∨ b=gs) ∨ b=gm) B:=by
       funext x
       apply propext
       constructor
       · rintro ⟨⟨b,h1,h2,h3⟩,h4⟩
         refine ⟨b,h1,h2,?_⟩
         rintro ((h | rfl) | rfl)
         · exact h3 h
         · exact h4 (.inl (hfnB _ _ _ h1 hsB))
         · exact h4 (.inr (hfnB _ _ _ h1 hmB))
       · rintro ⟨b,h1,h2,h3⟩
         refine ⟨⟨b,h1,h2,fun h => h3 (.inl (.inl h))⟩,?_⟩
         rintro (rfl | rfl)
         · exact h3 (.inl (.inr (hinj _ _ _ h1 hsB)))
         · exact h3 (.inr (hinj _ _ _ h1 hmB))
     have eR:(fun x => Ice (Xs c F) B x ∨ (x=sb ∨ x=mb))=Ice (Xs c fun b => (F b ∨ b=gs) ∨ b=gm) B:=by
       funext x
       apply propext
       constructor
       · rintro (⟨b,h1,h2,h3⟩ | rfl | rfl)
         · exact ⟨b,h1,h2,.inl (.inl h3)⟩
         · exact ⟨gs,hsB,hsD,.inl (.inr rfl)⟩
         · exact ⟨gm,hmB,hmD,.inr rfl⟩
       · rintro ⟨b,h1,h2,(h | rfl) | rfl⟩
         · exact .inl ⟨b,h1,h2,h⟩
         · exact .inr (.inl (hfnB _ _ _ h1 hsB))
         · exact .inr (.inr (hfnB _ _ _ h1 hmB))
     rw [eL,eR] at hr4 ⊢
     refine ⟨B,_,_,Act.put (Act.put a (some 58) (.chan (some c))) (some 59) (.agg #[.slice (some ⟨gs,0,none⟩) n n,.slice (some ⟨gm,0,none⟩) n n]),_,fr,k',ops13,rfl,rfl,k2.rely hr4,?_,rfl,rfl,hcc,?_,g2⟩
     · refine FrR.cx (alike_s c F _) (fr_build (ar_put (ar_put har (some 58) (.chan hcc)) (some 59) (.agg rfl fun j v v' hv hv' => ?_)) hds hk' hk hfn)
       match j with
       | 0 => cases hv; cases hv'; exact .slice _ _ ⟨⟨hsB,hsD⟩,⟨rfl,Nat.zero_le _⟩,rfl⟩
       | 1 => cases hv; cases hv'; exact .slice _ _ ⟨⟨hmB,hmD⟩,⟨rfl,Nat.zero_le _⟩,rfl⟩
       | j + 2 => cases hv
     · refine ⟨?_,?_,?_,?_,?_,?_,?_,?_⟩
       · rw [put_size,put_size]; exact g1
       all_goals rw [put_get (by decide),put_get (by decide)]
       · exact g3
       · exact g4
       · exact g5
       · exact g6
       · exact g7
       · exact g8
       · exact g9
end Go.Proofs.YthhfljldbfgpcaaGreatDoor
end

section
namespace Go.Proofs.YthhfljldbfgpcaaGreatDoor
open Go.RowKit Go.Conc Go.Proofs.YthhfljldbfgpcaaGreatDoor.Co Go.Proofs.YthhfljldbfgpcaaGreatDoor.Ok Go.Proofs.YthhfljldbfgpcaaGreatDoor.Lr Go.Proofs.YthhfljldbfgpcaaGreatDoor.Tl Go.Proofs.YthhfljldbfgpcaaGreatDoor.Bar
theorem func_send:∃ fn,Tryz.prog.funcs[21]?=some fn ∧ fn.results=#[] ∧ fn.norace=false:=⟨_,Tryz.func21,by kernel_rfl,by kernel_rfl⟩
theorem step_close {c s r:Nat} {tm:Bool} {cs:List Frame} {b:Frame} {a:Act} {todo:List Item} {ds:List Deferred} {w:World} (hb:b.fn=21) (hd:a.defers=closeD c :: ds) (hc:w.heap[c]?=some (.chan 0 #[] false s r tm)) :
   stepG Tryz.prog false (G { b.at a todo with mode:=.returning } cs) w=.go (G { b.at ⟨a.tmps,ds⟩ todo with mode:=.returning } cs) (w.shut c s r tm) #[⟨.obj c,false,true⟩,⟨.obj c,true,true⟩]:=by
 obtain ⟨fn,hf,_,hq⟩:=func_send
 have hs:seen Tryz.prog b.fn #[⟨.obj c,false,true⟩,⟨.obj c,true,true⟩]=#[⟨.obj c,false,true⟩,⟨.obj c,true,true⟩] :=
   seen_eq (by rw [hb,hf]; simpa using hq) (by intro e he f; simp only [List.mem_toArray,List.mem_cons,List.not_mem_nil,or_false] at he; rcases he with rfl | rfl <;> simp)
 unfold closeD at hd
 generalize (ops0.getD 1 default).type=ty at hd
 have hi:(invoke (.builtin .close #[96] ty #[false]) #[.chan (some c)]).run Tryz.prog w=.ok (.value (.tuple #[])) (w.shut c s r tm):=by
   simp [invoke,builtin,go_sem,run_close_open _ _ hc,World.shut]
 have he:(invoke (.builtin .close #[96] ty #[false]) #[.chan (some c)]).events Tryz.prog w #[]=#[⟨.obj c,false,true⟩,⟨.obj c,true,true⟩]:=by
   simp [invoke,builtin,go_sem,events_close_open _ _ hc]
 simp [G,stepG,unwind,callDeferred,Frame.at,hd,hi,he,GStep.after,hs]
theorem step_leave {b:Frame} {a:Act} {todo:List Item} {w:World} (hb:b.fn=21) (hk:b.kind=.deferred) (hd:a.defers=[]) :
   stepG Tryz.prog false (G { b.at a todo with mode:=.returning } [born0]) w=.go (G born0 []) w #[]:=by
 obtain ⟨fn,hf,hr,_⟩:=func_send
 simp [G,stepG,unwind,doReturn,results,Frame.at,hb,hk,hd,hf,hr,born0,GStep.after,seen_none,goexitEntry]
theorem step_gone {w:World}:stepG Tryz.prog false (G born0 []) w=.go { G born0 [] with status:=.finished } w #[]:=by
 simp [G,stepG,unwind,born0,goexitEntry,Frame.catches,GStep.after,seen_none]
 rfl
theorem closes_send {c:Nat} {b:Frame} {a:Act} {todo:List Item} (hb:b.fn=21) (hk:b.kind=.deferred) (hd:a.defers=[closeD c]):Closes Tryz.prog [] c { b.at a todo with mode:=.returning } [born0]:=by
 refine ⟨by simp [mayWake,G,Frame.at],G { b.at ⟨a.tmps,[]⟩ todo with mode:=.returning } [born0],2,fun w s r tm hc => step_close hb hd hc,?_⟩
 refine .inr ⟨rfl,G born0 [],fun w => step_leave hb hk rfl,.inr ⟨rfl,{ G born0 [] with status:=.finished },fun w => step_gone,rfl⟩⟩
theorem closeD_only {X:Cx} {B:Lk} {c:Nat} {l:List Deferred} (hfn:∀ b b₁ b₂,B b b₁ → B b b₂ → b₁=b₂) (hcc:B c c) (h:DsR X B [closeD c] l):l=[closeD c]:=by
 cases h with
 | @cons _ d' _ l' _ h1 h2 =>
   cases h2
   obtain ⟨t,p⟩:=d'
   obtain ⟨h1,h2⟩:=h1
   dsimp only at h1 h2
   have e1:t=(closeD c).target:=by
     unfold closeD at h1 ⊢
     dsimp only at h1 ⊢
     cases h1
     rfl
   have e2:p=#[.chan (some c)]:=by
     apply Array.ext_getElem?
     intro i
     rcases h2.get i with ⟨x,x',g1,g2,g3⟩ | ⟨g1,g2⟩
     · match i with
       | 0 =>
         cases g1
         rw [g2]
         cases g3 with
         | chan g => rw [hfn _ _ _ g hcc]; rfl
       | i + 1 => cases g1
     · rw [g2]
       match i with
       | 0 => cases g1
       | i + 1 => rfl
   rw [e1,e2]
   rfl
theorem ice_gr {X:Cx} {B0 B:Lk} {V W:World} {m:Nat} (hw:WR X B0 V W) (hg:Gr V.heap.size m B0 B):Ice X B=Ice X B0:=by
 funext x
 apply propext
 constructor
 · rintro ⟨b,h1,h2,h3⟩
   rcases hg.2 b x h1 with h | ⟨h,_⟩
   · exact ⟨b,h,h2,h3⟩
   · exact absurd (hw.flt b h3) (Nat.not_lt.2 h)
 · rintro ⟨b,h1,h2,h3⟩
   exact ⟨b,hg.1 b x h1,h2,h3⟩
section
variable {cx cy d n:Nat} {most:Int} {px py:Nat → Nat → Nat} {bx:Nat → Nat → Value} {st:Nat → Nat → Int} {sm:Nat → Nat → Nat} {c:Nat}
def EndS (c cx cy d n:Nat) (most:Int) (st:Nat → Nat → Int) (sm:Nat → Nat → Nat) (i:Nat) (R L:Nat → Prop) (fr:Frame) (cs:List Frame) (W:World):Prop :=
 ∃ (B:Lk) (F:Nat → Prop) (V:World) (a:Act) (t:List Item),cs=[] ∧ WR (Xs c F) B V W ∧ FrR (Xs c F) B (bS.at a t) fr ∧ HS (.chan (some c)) cx cy d n most st sm [closeD c] i t a V ∧ B c c ∧ L=Hot (Xs c F) B ∧ R=Ice (Xs c F) B
theorem stretch {F:Nat → Prop} {B:Lk} {V W:World} {fr:Frame} {a:Act} {s:List Item} {i:Nat} (hw:WR (Xs c F) B V W) (hf:FrR (Xs c F) B (bS.at a s) fr) (hcc:B c c) (hd:a.defers=[closeD c])
   (h:∀ w,HW Vp.prog s (HS (.chan (some c)) cx cy d n most st sm a.defers i) a w):Co Tryz.prog false [born0] (Ice (Xs c F) B) (EndS c cx cy d n most st sm i (Ice (Xs c F) B)) (Hot (Xs c F) B) fr [] W:=by
 refine (co_of_hw (whole_s c F) cx_noT (H:=HS (.chan (some c)) cx cy d n most st sm a.defers i) (fun t a w τ d => hs_blind t a w τ d) hw hf fun τ d => h _).mono ?_
 rintro L fr' cs' W' ⟨B',x,τ,k,hg,⟨hxc,t,a',hxf,hH⟩,hw',hf',hc',rfl,_,_⟩
 rw [hxc] at hc'
 rw [hxf] at hf'
 rw [hd] at hH
 refine ⟨B',F,(x.at τ k).V,a',t,by cases hc'; rfl,hw',hf',hs_blind t a' _ _ _ hH,hg.1 _ _ hcc,rfl,(ice_gr hw hg).symm⟩
theorem stops_base {P:Program} {m:Bool} {b1 b2 cs:List Frame} {c:Nat} {dir:Dir} {fr:Frame} (h:Stops P m (b1 ++ b2) c dir fr cs):Stops P m b2 c dir fr (cs ++ b1):=by
 intro w
 have:=h w
 rw [← List.append_assoc] at this
 exact this
variable (C:CellOK cx cy d n most px py bx st sm) (hn:n ≤ 8)
include C hn
theorem send_next:∀ (k:Nat) {i:Nat},i + k=n → 0 < n → ∀ {L R:Nat → Prop} {fr:Frame} {cs:List Frame} {W:World},(Co Tryz.prog false [born0] R (EndS c cx cy d n most st sm i R) L fr cs W) → SendS c n st sm k L R fr (cs ++ [born0]) W
 | 0,i,hi,h0,L,R,fr,cs,W,h => by
   refine (Co.rebase (base:=[]) (base2:=[born0]) (Co.mono h (Post':=fun L fr cs W => EndS c cx cy d n most st sm i R L fr cs W) fun _ _ _ _ h => h)).bind ?_
   rintro L fr cs W ⟨c0,rfl,B,F,V,a,t,rfl,hw,hf,hH,hcc,rfl,rfl⟩
   obtain ⟨hlt,_⟩ | ⟨_,rfl,_,hd⟩:=hH
   · omega
   obtain ⟨e1,_,hds,htd,hk,hfn⟩:=fr_parts hf
   have et:=td_nil htd
   rw [et] at e1
   rw [e1]
   refine .ctl (fr1:={ fr.at ⟨fr.tmps,fr.defers⟩ [] with mode:=.returning }) (cs1:=[] ++ [born0]) (fun b hb => (WH.hot ⟨V,rfl,hw⟩) b hb) (fun W2 => stepG_end) fun W2 hr => .stop ?_
   refine closes_send hfn hk ?_
   rw [hd] at hds
   exact closeD_only (hw.fn) hcc hds
 | k + 1,i,hi,h0,L,R,fr,cs,W,h => by
   refine ((h.bind ?_:Co Tryz.prog false ([born0] ++ []) R (fun L fr cs W => ∃ v z,Stops Tryz.prog false [born0] c (.send v z) fr cs ∧ ∃ R',RowIs n st sm i v R' W ∧ (∀ x,R' x → L x) ∧
     ∀ W2,Rely (fun x => L x ∧ ¬ R' x) (fun x => R x ∨ R' x) W W2 → SNext c cx cy d n most i (fun x => L x ∧ ¬ R' x) (fun x => R x ∨ R' x) (fr.finish undef) cs W2) L fr cs W).rebase).mono ?_
   · rintro L fr cs W ⟨B,F,V,a,t,rfl,hw,hf,hH,hcc,rfl,rfl⟩
     obtain ⟨_,rfl,w0,hR⟩ | ⟨h1,_⟩:=hH
     · exact send_row h0 hw hf hcc hR
     · omega
   · rintro L fr cs W ⟨c0,rfl,v,z,hs,R',hrow,hsub,hk⟩
     refine ⟨v,z,stops_base hs,R',by rwa [show n - (k + 1)=i by omega],hsub,fun W2 hr => ?_⟩
     refine send_next k (i:=i + 1) (by omega) h0 ?_
     obtain ⟨B,H,F,a,a',b',k',ops,rfl,e,hH,hf,eL,eR,hcc,hS,hd⟩:=hk W2 hr
     rw [e,eL,eR]
     refine Co.regionEnd hH.hot fun W3 hr3 => ?_
     obtain ⟨V,_,hw⟩:=hH.rely hr3
     exact stretch hw hf hcc hd fun w => hw_next C hn (by omega) hS w
end
end Go.Proofs.YthhfljldbfgpcaaGreatDoor
end
