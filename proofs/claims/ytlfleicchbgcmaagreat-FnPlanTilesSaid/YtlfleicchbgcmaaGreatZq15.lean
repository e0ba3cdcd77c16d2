import Derived.Test.YtlfleicchbgcmaaGreatZq14
import Derived.Conc.EventLaws
import Derived.Conc.Own2
import Derived.Conc.Listed
import Derived.Conc.Own5
import Derived.Conc.Walk
import Derived.Conc.DeferLaws
import Derived.Conc.Quits
import Derived.Conc.Own3
import Derived.Conc.SmallLaws
import Derived.Conc.Comm2
import Derived.Test.YtlfleicchbgcmaaGreatZq0
import Derived.Test.YtlfleicchbgcmaaGreatZqK
set_option linter.all false
set_option maxHeartbeats 16000000
set_option maxRecDepth 100000
namespace Go.Proofs.YtlfleicchbgcmaaGreat
namespace Co
open Go.Conc Tl Lr Bar
section
variable {P : Program} {m : Bool} {base : List Frame} {R : Nat -> Prop} {Post Post' : (Nat -> Prop) -> Frame -> List Frame -> World -> Prop} {L : Nat -> Prop} {fr fr1 : Frame} {cs cs1 : List Frame} {W : World}
theorem Co.bind (h:Co P m base R Post L fr cs W)(k:∀L fr cs W,Post L fr cs W->Co P m base R Post' L fr cs W):Co P m base R Post' L fr cs W:=by
 induction h with
 | stop h=>exact k _ _ _ _ h
 | go f1 c1 w1 n1 L1 h _ ih=>exact .go f1 c1 w1 n1 L1 h ih
theorem Co.mono (h:Co P m base R Post L fr cs W)(k:∀L fr cs W,Post L fr cs W->Post' L fr cs W):Co P m base R Post' L fr cs W:=h.bind fun _ _ _ _ x=>.stop (k _ _ _ _ x)
theorem Co.Aa9 {base2:List Frame}(h:Co P m (base2++base) R Post L fr cs W):Co P m base R (fun L fr cs W=>∃c0,cs=c0++base2/\Post L fr c0 W) L fr (cs++base2) W:=by
 induction h with
 | @stop L fr cs W h=>exact .stop ⟨cs,rfl,h⟩
 | go f1 c1 w1 n1 L1 h _ ih=>exact .go f1 (fun w=>c1 w++base2) w1 n1 L1 (fun W2 hr=>by rw[Al1,Al1];exact h W2 hr) ih
theorem A8y (hL:∀b,L b->b<W.heap.size):Did L R W L W #[]:=⟨fun _ h=>h,fun _ h=>.inl h,hL,Ai3 _,fun _ _ _=>rfl,rfl,⟨rfl,rfl⟩,fun e he=>by simp at he⟩
theorem A8x {n:Array Event}(hL:∀b,L b->b<W.heap.size)(hn:∀e∈n,EvC L R e):Did L R W L W n:=⟨fun _ h=>h,fun _ h=>.inl h,hL,Ai3 _,fun _ _ _=>rfl,rfl,⟨rfl,rfl⟩,hn⟩
theorem Ei {W2:World}(hL:∀b,L b->b<W.heap.size)(h:Bp L R W W2):∀b,L b->b<W2.heap.size:=fun b x=>Ai9 (hL b x) h.1
theorem Co.step {L1:World->Nat->Prop}(w1:World->World)(n1:World->Array Event)(h:∀W2,Bp L R W W2->stepG P m (G fr (cs++base)) W2=.go (G fr1 (cs1++base)) (w1 W2) (n1 W2)/\Did L R W2 (L1 W2) (w1 W2) (n1 W2))
 (k:∀W2,Bp L R W W2->Co P m base R Post (L1 W2) fr1 cs1 (w1 W2)):Co P m base R Post L fr cs W:=.go (fun _=>fr1) (fun _=>cs1) w1 n1 L1 h k
theorem Co.ctl (hL:∀b,L b->b<W.heap.size)(h:∀W2,stepG P m (G fr (cs++base)) W2=.go (G fr1 (cs1++base)) W2 #[])(k:∀W2,Bp L R W W2->Co P m base R Post L fr1 cs1 W2):Co P m base R Post L fr cs W :=
 .step (L1:=fun _=>L) id (fun _=>#[]) (fun W2 hr=>⟨h W2,A8y (Ei hL hr)⟩) k
end
theorem A98 {fr:Frame}(h1:fr.mode=.run)(h2:fr.roundOf=none):fr=fr.at ⟨fr.tmps,fr.defers⟩ fr.todo:=by
 obtain⟨a,b,c,d,e,f,g⟩:=fr;dsimp only at h1 h2;subst h1 h2
 rfl
section
variable {P : Program} {a : Act} {o : Oper} {w : World}
def Yields (P:Program)(a:Act)(o:Oper)(v:Value):Prop:=∀w,(execOp a.eval o).run P w=.ok (.value v) w /\(execOp a.eval o).events P w #[]=#[]
theorem Ed {x:Operand}(h:o.op=.move x):Yields P a o (a.eval x):=fun w=>by
 constructor
 ·unfold execOp;simp[h]
 ·unfold execOp;simp[h]
theorem Ur {x:Operand}(h:o.op=.assign x):Yields P a o (a.eval x):=fun w=>by
 constructor
 ·unfold execOp;simp[h]
 ·unfold execOp;simp[h]
end
section
variable {P : Program} {m : Bool} {base : List Frame} {R : Nat -> Prop} {Post : (Nat -> Prop) -> Frame -> List Frame -> World -> Prop} {L : Nat -> Prop} {b : Frame} {a : Act} {cs : List Frame} {W : World} {k : List Item}
theorem Co.val {ops:Array Oper}{i:Nat}{rest:List Nat}{o:Oper}{v:Value}(ho:ops[i]?=some o)(hg:o.guard=none)(hk:b.kind≠.early)(hy:Yields P a o v)(hL:∀b,L b->b<W.heap.size)
 (h:∀W2,Bp L R W W2->Co P m base R Post L (b.at (a.put o.dst v) (.inRegion ops rest :: k)) cs W2):Co P m base R Post L (b.at a (.inRegion ops (i :: rest) :: k)) cs W :=
 .ctl hL (fun W2=>by
  rw[stepG_value ho (by simp[Region.wanted,hg]) hk (hy W2).1]
  unfold listed;rw[(hy W2).2,seen_none]) h
theorem Co.region {id:Nat}{ops:Array Oper}(hL:∀b,L b->b<W.heap.size)(h:∀W2,Bp L R W W2->Co P m base R Post L (b.at a (.inRegion ops (List.range ops.size) :: k)) cs W2):Co P m base R Post L (b.at a (.code (.region id ops false) :: k)) cs W :=
 .ctl hL (fun _=>stepG_region) h
theorem Co.J5 {ops:Array Oper}(hL:∀b,L b->b<W.heap.size)(h:∀W2,Bp L R W W2->Co P m base R Post L (b.at a k) cs W2):Co P m base R Post L (b.at a (.inRegion ops [] :: k)) cs W :=
 .ctl hL (fun _=>stepG_region_end) h
end
end Co
section
open Go.RowKit Go.Conc Co Ok Lr Tl Bar
theorem Kh {P:Program}{why:String}{d:Code}{f id:Nat}{ops:Array Oper}(h:R4 P why d)(ht:∀k∈Mo,∀i∈k.2,A5x i=why->k.1=f/\i=id)(hr:(J6 (Hh P f)).filter (fun r=>r.1 == id)=[(id,ops,false)]):d=.region id ops false:=by
 obtain⟨k,hk,r,hrm,hi,hw,rfl⟩:=h;have hi':r.1∈k.2:=by simpa using hi
 obtain⟨e1,e2⟩:=ht k hk r.1 hi' hw.symm;rw[e1]at hrm;have:r∈(J6 (Hh P f)).filter (fun r=>r.1 == id):=List.mem_filter.2 ⟨hrm,by simp[e2]⟩
 rw[hr]at this;rw[Ake]at this;rw[this]
noncomputable def opsOf:Code->Array Oper
 | .region _ ops _=>ops
 | _=>#[]
noncomputable def Ug:Array Oper:=opsOf sR0
noncomputable def Kr:Array Oper:=opsOf Ahu
theorem Ag4 {d:Code}(h:R4 Tryz.prog "0" d):d=.region 0 Ug false:=Kh (f:=33) h (by decide) (by kernel_rfl)
theorem Aec {d:Code}(h:R4 Tryz.prog "13" d):d=.region 13 Kr false:=Kh (f:=33) h (by decide) (by kernel_rfl)
section
variable {X : Cx} {B : Lk}
theorem Afn {s:List Item}(h:Rc X B [] s):s=[]:=by cases h;rfl
theorem P7 {why:String}{k s:List Item}(h:Rc X B (.code (.refuse why) :: k) s)(hn:why ≠ "unsupported: a function without a Go body is entered") : ∃d k',s=.code d :: k'/\X.R why d/\Rc X B k k':=by
 cases h with
 | cons h hk =>
   cases h with
   | code hc=>exact⟨_,_,rfl,hc.resolve_left hn,hk⟩
theorem J0 {b:Frame}{a:Act}{s:List Item}{fr:Frame}(h:Ee X B (b.at a s) fr):fr=fr.at ⟨fr.tmps,fr.defers⟩ fr.todo/\AR X B a.tmps fr.tmps/\R5 X B a.defers fr.defers/\Rc X B s fr.todo/\fr.kind=b.kind/\fr.fn=b.fn:=by
 refine⟨A98 ?_ ?_,h.tmps,h.defers,h.todo,h.kind,h.fn⟩
 ·have:=h.mode;generalize fr.mode=q at this
  cases this
  rfl
 ·have:=h.roundOf;generalize fr.roundOf=q at this
  cases this
  rfl
theorem Hl {b b':Frame}{a a':Act}{s s':List Item}(h1:AR X B a.tmps a'.tmps)(h2:R5 X B a.defers a'.defers)(h3:Rc X B s s')(h4:b'.kind=b.kind)(h5:b'.fn=b.fn):Ee X B (b.at a s) (b'.at a' s') :=
 ⟨h5,h1,h3,h2,.run,h4,.none⟩
theorem Ux {p p':Array Value}(h:AR X B p p'){i:Nat}{v:Value}(hv:p[i]?=some v):∃v',p'[i]?=some v'/\VR X B v v':=by
 rcases h.get i with⟨x,x',h1,h2,h3⟩ |⟨h1,_⟩
 ·rw[hv]at h1;cases h1;exact⟨x',h2,h3⟩
 ·rw[hv]at h1;cases h1
theorem Hg {a a':Act}(h:AR X B a.tmps a'.tmps)(d:Option Nat){v v':Value}(hv:VR X B v v'):AR X B (a.put d v).tmps (a'.put d v').tmps:=by
 cases d with
 | none=>exact h
 | some d=>exact h.set d hv
theorem Tw {V W:World}(hw:WR X B V W){b b':Nat}(hb:B b b')(hd:¬X.D b){C:Array Value}{t:TypeId}(h:V.heap[b]?=some (.cells C t (0,0)))(hs:0<C.size):¬X.F b/\∃C',W.heap[b']?=some (.cells C' t (0,0))/\AR X B C C':=by
 have hf:¬X.F b:=fun f=>by
  obtain⟨c,c',t1,t2,g,h1,_⟩:=hw.Ip b b' hb hd f;rw[h]at h1;injection h1 with h1
  injection h1 with h1 _ h2
  subst h1;injection h2 with _ h2
  omega
 refine⟨hf,?_⟩
 obtain⟨o,o',h1,h2,h3⟩:=hw.live b b' hb hd hf;rw[h]at h1
 cases h1
 cases h3 with
 | cells t f a=>exact⟨_,h2,a⟩
theorem Qk {p p':Array Value}(h:AR X B p p')(hf:∀v∈p,(∃x,v=D6 x)\/∃x,v=Av x):p'=p:=by
 apply Ala
 intro i
 rcases h.get i with⟨x,x',h1,h2,h3⟩ |⟨h1,h2⟩
 ·rw[h1,h2]
  rcases hf x (Aj2 h1)with⟨y,rfl⟩ |⟨y,rfl⟩<;>(cases h3;rfl)
 ·rw[h1,h2]
end
def bS:Frame:={ (default:Frame)with fn:=33,kind:=.deferred }
noncomputable def Dx:Frame:={ (default:Frame)with fn:=Tryz.prog.funcs.size,defers:=[],mode:=.panicking [goexitEntry] }
noncomputable def G4 (c:Nat):Deferred:={ target:=.builtin .close #[107] ((Ug.getD 1 default).type) #[false],args:=#[.chan (some c)] }
noncomputable def Xs (c:Nat)(F:Nat->Prop):Cx:=cx Vp.prog phs [] (R4 Tryz.prog) (fun b=>b=c) F
theorem Lw (c:Nat)(F:Nat->Prop):Whole (Xs c F) Vp.prog Tryz.prog:=whole _ _ _
def Zb (n:Nat)(st:Nat->Nat->Int)(sm:Nat->Nat->Nat)(i:Nat)(v:Value)(R':Nat->Prop)(W:World):Prop :=
 ∃sb mb f g,v=.agg #[.slice (some ⟨sb,0,none⟩) n n,.slice (some ⟨mb,0,none⟩) n n]/\sb≠mb /\(∀x,R' x↔x=sb\/x=mb) /\
  W.heap[sb]?=some (.cells (((List.range n).map (sm i)).map D6).toArray 74 f)/\W.heap[mb]?=some (.cells (((List.range n).map (st i)).map Av).toArray 3 g)
def Pb (c n:Nat)(st:Nat->Nat->Int)(sm:Nat->Nat->Nat):Nat ->(Nat->Prop) ->(Nat->Prop)->Frame->List Frame->World->Prop
 | 0,L,R,fr,cs,W=>Co Tryz.prog false [] R (fun _ fr cs _=>X4 Tryz.prog [] c fr cs) L fr cs W
 | k + 1,L,R,fr,cs,W=>Co Tryz.prog false [] R (fun L fr cs W=>∃v z,Gt Tryz.prog false [] c (.send v z) fr cs/\∃R',Zb n st sm (n-(k+1)) v R' W /\(∀x,R' x->L x) /\
     ∀W2,Bp (fun x=>L x/\¬R' x) (fun x=>R x\/R' x) W W2->Pb c n st sm k (fun x=>L x/\¬R' x) (fun x=>R x\/R' x) (fr.finish undef) cs W2) L fr cs W
theorem Aet:∃o,Kr[0]?=some o/\o.op=.move (.tmp 0)/\o.dst=some 58/\o.guard=none:=⟨Kr.getD 0 default,by kernel_rfl,by kernel_rfl,by kernel_rfl,by kernel_rfl⟩
theorem Aeu:∃o,Kr[1]?=some o/\o.op=.load 78 (.tmp 11)/\o.dst=some 59/\o.guard=none:=⟨Kr.getD 1 default,by kernel_rfl,by kernel_rfl,by kernel_rfl,by kernel_rfl⟩
theorem Aev:∃o,Kr[2]?=some o/\o.op=.send (.tmp 58) (.tmp 59)/\o.dst=none/\o.guard=none:=⟨Kr.getD 2 default,by kernel_rfl,by kernel_rfl,by kernel_rfl,by kernel_rfl⟩
theorem Afc:Kr.size=3:=by kernel_rfl
theorem Agh:∃o,Ug[0]?=some o/\o.op=.move (.tmp 0)/\o.dst=some 16/\o.guard=none:=⟨Ug.getD 0 default,by kernel_rfl,by kernel_rfl,by kernel_rfl,by kernel_rfl⟩
theorem Agi:∃o,Ug[1]?=some o/\o.op=.defer { callee:=.builtin .close,args:=#[.tmp 16],argTypes:=#[107] }/\o.type=(Ug.getD 1 default).type/\o.dst=none/\o.guard=none:=⟨Ug.getD 1 default,by kernel_rfl,by kernel_rfl,rfl,by kernel_rfl,by kernel_rfl⟩
theorem Agt:Ug.size=2:=by kernel_rfl
theorem A9q {w:World}{rb:Nat}{x y:Value}(h0:w.cell? ⟨rb,0,none⟩=some x)(h1:w.cell? ⟨rb,1,none⟩=some y){a:Act}{o:Oper}(hop:o.op=.load 78 (.tmp 11))(ha:a.eval (.tmp 11)=.pointer (some ⟨rb,0,none⟩)) :
 (execOp a.eval o).run Tryz.prog w=.ok (.value (.agg #[x,y])) w/\∀e∈(execOp a.eval o).events Tryz.prog w #[],∃ad:Addr,e=⟨.cell ad,false,false⟩/\ad.block=rb:=by
 have e1:execOp a.eval o=(do pure (.value (<-Instr.loadAt 78 (a.eval (.tmp 11))))):=by unfold execOp;simp only[hop]
 rw[e1,ha]
 constructor
 ·simp[go_sem,h0,h1]
 ·intro e he;simp[go_sem,h0,h1]at he
  rcases he with rfl|rfl
  ·exact⟨_,rfl,rfl⟩
  ·exact⟨_,rfl,rfl⟩
end
section
open Go.RowKit Go.Conc Co Ok Lr Tl Bar
theorem Zf {n:Nat}{w W:World}(h:Below n w W)(τ:Tape)(d:Nat):Below n { w with tape:=τ,drawn:=d } { W with tape:=τ,drawn:=d }:=⟨h.os,rfl,h.output,h.size,h.block⟩
theorem Iy {w W:World}{b:Nat}{C:Array Value}{T:TypeId}(h:A8 w b C T W)(τ:Tape)(d:Nat):A8 { w with tape:=τ,drawn:=d } b C T { W with tape:=τ,drawn:=d }:=⟨h.blk,Zf h.old τ d⟩
theorem Aad {w W:World}{rb cap N M gs gm:Nat}{xs:List Nat}{ys:List Int}(h:RW w rb cap N M gs gm xs ys W)(τ:Tape)(d:Nat):RW { w with tape:=τ,drawn:=d } rb cap N M gs gm xs ys { W with tape:=τ,drawn:=d }:=⟨Iy h.R τ d,h.S,h.M,h.hr⟩
theorem A0c {ch:Value}{cx cy d n:Nat}{A4:Int}{st:Nat->Nat->Int}{sm:Nat->Nat->Nat}{ds:List Deferred}{i:Nat}(t:List Item)(a:Act)(W:World)(τ:Tape)(k:Nat)(h:HS ch cx cy d n A4 st sm ds i t a W):HS ch cx cy d n A4 st sm ds i t a { W with tape:=τ,drawn:=k }:=by
 rcases h with⟨h1,h2,w,rb,gs,gm,g1,g2,g3,g4,g5,g6,g7,g8,g9,g10,g11⟩|h
 ·exact .inl ⟨h1,h2,{ w with tape:=τ,drawn:=k },rb,gs,gm,g1,g2,g3,g4,g5,g6,g7,g8,g9,g10,Aad g11 τ k⟩
 ·exact .inr h
def WH (X:Cx)(B:Lk)(H:Array Obj)(W:World):Prop:=∃V:World,V.heap=H/\WR X B V W
section
variable {X : Cx} {B : Lk} {H : Array Obj} {W W2 : World}
theorem WH.rely (h:WH X B H W)(hr:Bp (G2 X B) (Ka X B) W W2):WH X B H W2:=by
 obtain⟨V,rfl,hw⟩:=h
 exact⟨{ V with tape:=W2.tape,drawn:=W2.drawn },rfl,Il hw hr⟩
theorem WH.hot (h:WH X B H W):∀b,G2 X B b->b<W.heap.size:=by
 obtain⟨V,rfl,hw⟩:=h;rintro b ⟨a,h1,_⟩
 exact hw.ltW h1
theorem WH.cells (h:WH X B H W){b b':Nat}(hb:B b b')(hd:¬X.D b){C:Array Value}{t:TypeId}(hc:H[b]?=some (.cells C t (0,0)))(hs:0<C.size):¬X.F b/\∃C',W.heap[b']?=some (.cells C' t (0,0))/\AR X B C C':=by
 obtain⟨V,rfl,hw⟩:=h
 exact Tw hw hb hd hc hs
end
theorem Nr {W:World}{B:Nat}{e:TypeId}{g n:Nat}{xs:List Value}(h:W.ownsRow B e 1 (.slice (some ⟨g,0,none⟩) n n) n xs):W.heap[g]?=some (.cells xs.toArray e (0,0)):=by
 obtain⟨hl,h |⟨g',cap,cur,hv,_,hg,_,_,hs,ht⟩⟩:=h
 ·cases h.1
 ·cases hv
  rw[hg];have:cur.toList.take (n*1)=cur.toList:=Ajz (by simp[hs])
  rw[this]at ht;have e:cur=xs.toArray:=by rw[<-ht]
  rw[e]
theorem Cs {a:Act}{d j:Nat}{v:Value}(h:d≠j):(a.put (some d) v).tmps[j]?=a.tmps[j]?:=Ai4 h
theorem Es {a:Act}{d:Option Nat}{v:Value}:(a.put d v).tmps.size=a.tmps.size:=by cases d<;>simp[Act.put]
def Adm (c cx cy d n:Nat)(A4:Int)(i:Nat)(L R:Nat->Prop)(fr:Frame)(cs:List Frame)(W:World):Prop :=
 ∃(B:Lk) (H:Array Obj) (F:Nat->Prop) (a a':Act) (b':Frame) (k':List Item) (ops:Array Oper),cs=[]/\fr=b'.at a' (.inRegion ops [] :: k')/\WH (Xs c F) B H W/\Ee (Xs c F) B (bS.at a [.inBlock 1,.code A3q,.inLoop sX,.inBlock 0]) (b'.at a' k') /\
  L=G2 (Xs c F) B/\R=Ka (Xs c F) B/\B c c/\SA (.chan (some c)) cx cy d n A4 i a/\a.defers=[G4 c]
theorem N8 (c:Nat)(F F':Nat->Prop):Lr.Alike (Xs c F) (Xs c F'):=⟨rfl,rfl,rfl,rfl,rfl,rfl,rfl,rfl,rfl,rfl,rfl,rfl,rfl,rfl⟩
theorem WH.freeze {c:Nat}{F F':Nat->Prop}{B:Lk}{H:Array Obj}{W:World}(h:WH (Xs c F) B H W){s s':Nat}(hs:B s s')(hd:s≠c){C:Array Value}{t:TypeId}{f:Nat×Nat}(hv:H[s]?=some (.cells C t f))(hF:∀b,F' b↔F b\/b=s):WH (Xs c F') B (H.setIfInBounds s (.cells C t (0,C.size))) W:=by
 obtain⟨V,rfl,hw⟩:=h
 exact⟨_,rfl,A87 (N8 c F F') hw hs hd hv hF⟩
theorem A4d {c:Nat}{b:Frame}{a:Act}{k:List Item}{cs base:List Frame}{v:Value}(hk:b.kind≠.early)(hx:a.eval (.tmp 58)=.chan (some c))(hy:a.eval (.tmp 59)=v):Gt Tryz.prog false base c (.send v (.tuple #[])) (b.at a (.inRegion Kr [2] :: k)) cs:=by
 obtain⟨o,ho,hop,hd,hg⟩:=Aev;intro w;rw[stepG_comm (cases:=#[scase c v (.tuple #[])]) (blocking:=true) (shape:=.send) (w':=w) ho (by simp[Region.wanted,hg]) hk (by unfold execOp;simp only[hop];rw[hx,hy];rfl)]
 have he:(execOp a.eval o).events Tryz.prog w #[]=#[]:=by unfold execOp;simp only[hop];rfl
 unfold listed;rw[he,seen_none]
 rfl
theorem Aag {c cx cy d n i:Nat}{A4:Int}{st:Nat->Nat->Int}{sm:Nat->Nat->Nat}(hn:0<n){B:Lk}{F:Nat->Prop}{V w0 W:World}{fr:Frame}{a:Act}(hw:WR (Xs c F) B V W)
 (hf:Ee (Xs c F) B (bS.at a [.code (.refuse "13"), .inBlock 1,.code A3q,.inLoop sX,.inBlock 0]) fr) (hcc:B c c) (hR:Abh (.chan (some c)) cx cy d n A4 st sm [G4 c] w0 i a V) :
 Co Tryz.prog false [Dx] (Ka (Xs c F) B) (fun L fr cs W=>∃v z,Gt Tryz.prog false [Dx] c (.send v z) fr cs/\∃R',Zb n st sm i v R' W /\(∀x,R' x->L x) /\
  ∀W2,Bp (fun x=>L x/\¬R' x) (fun x=>Ka (Xs c F) B x\/R' x) W W2->Adm c cx cy d n A4 i (fun x=>L x/\¬R' x) (fun x=>Ka (Xs c F) B x\/R' x) (fr.finish undef) cs W2) (G2 (Xs c F) B) fr [] W:=by
 obtain⟨rb,gs,gm,g1,g2,g3,g4,g5,g6,g7,g8,g9,g10,g11⟩:=hR;obtain⟨e1,har,hds,htd,hk,hfn⟩:=J0 hf;obtain⟨d13,k',etd,hd13,hk'⟩:=P7 htd (by decide)
 obtain rfl:=Aec hd13;rw[etd]at e1;rw[e1];have hke:fr.kind≠.early:=by rw[hk];simp[bS]
 have hbox:=g11.R.blk;have hsb:=Nr g11.S;have hmb:=Nr g11.M;have hH0:WH (Xs c F) B V.heap W:=⟨V,rfl,hw⟩;generalize V.heap=H at hbox hsb hmb hH0;obtain⟨v0,t0,r0⟩:=Ux har g3;obtain⟨v11,t11,r11⟩:=Ux har g10;have hfnB:∀b b₁ b₂,B b b₁->B b b₂->b₁=b₂:=hw.fn;have hinj:∀b₁ b₂ b',B b₁ b'->B b₂ b'->b₁=b₂:=hw.inj
 have e0:v0=.chan (some c):=by
  cases r0 with
  | chan h=>rw[hfnB _ _ _ h hcc]
 subst e0
 obtain⟨rb',hrb,hrbD,e11⟩:∃rb',B rb rb'/\rb≠c/\v11=.pointer (some ⟨rb',0,none⟩):=by
  cases r11 with
  | @ptr _ ad h =>
    obtain⟨⟨h1,h2⟩,⟨h3,_⟩,h4⟩:=h;obtain⟨x,y,z⟩:=ad;dsimp only at h1 h3 h4;subst h3 h4
    exact⟨x,h1,h2,rfl⟩
 subst e11;clear r0 r11;obtain⟨hF1,C1,w1,a1⟩:=hH0.cells hrb hrbD hbox (by simp)
 obtain⟨x0,c0,r0⟩:=Ux a1 (i:=0) (v:=.slice (some ⟨gs,0,none⟩) n n) rfl;obtain⟨x1,c1,r1⟩:=Ux a1 (i:=1) (v:=.slice (some ⟨gm,0,none⟩) n n) rfl
 obtain⟨sb,hsB,hsD,e2⟩:∃sb,B gs sb/\gs≠c/\x0=.slice (some ⟨sb,0,none⟩) n n:=by
  cases r0 with
  | @slice _ ad _ _ h =>
    obtain⟨⟨h1,h2⟩,⟨h3,_⟩,h4⟩:=h;obtain⟨x,y,z⟩:=ad;dsimp only at h1 h3 h4;subst h3 h4
    exact⟨x,h1,h2,rfl⟩
 subst e2
 obtain⟨mb,hmB,hmD,e3⟩:∃mb,B gm mb/\gm≠c/\x1=.slice (some ⟨mb,0,none⟩) n n:=by
  cases r1 with
  | @slice _ ad _ _ h =>
    obtain⟨⟨h1,h2⟩,⟨h3,_⟩,h4⟩:=h;obtain⟨x,y,z⟩:=ad;dsimp only at h1 h3 h4;subst h3 h4
    exact⟨x,h1,h2,rfl⟩
 subst e3
 have hgne:gs≠gm:=fun e=>by
  subst e;rw[hsb]at hmb;injection hmb with h
  injection h with _ h _
  cases h
 have hrbHot:G2 (Xs c F) B rb':=⟨rb,hrb,hrbD,hF1⟩;have hsize:fr.tmps.size=61:=by rw[<-har.1];exact g1
 obtain⟨o0,ho0,hop0,hdst0,hg0⟩:=Aet;obtain⟨o1,ho1,hop1,hdst1,hg1⟩:=Aeu
 refine Co.region hH0.hot fun W1 hr1=>?_
 rw[Afc];have hH1:=hH0.rely hr1;have w1':W1.heap[rb']?=_:=(hr1.2.1 rb' (.inl hrbHot)).trans w1
 refine Co.val ho0 hg0 hke (Ed hop0) hH1.hot fun W2 hr2=>?_
 have hH2:=hH1.rely hr2;have w2:W2.heap[rb']?=_:=(hr2.2.1 rb' (.inl hrbHot)).trans w1';have ev0:Act.eval ⟨fr.tmps,fr.defers⟩ (.tmp 0)=.chan (some c):=by simp[Act.eval,Aio,t0]
 rw[ev0,hdst0];have hval:∀W3:World,W3.heap[rb']?=some (.cells C1 78 (0,0))->W3.cell? ⟨rb',0,none⟩=some (.slice (some ⟨sb,0,none⟩) n n)/\W3.cell? ⟨rb',1,none⟩=some (.slice (some ⟨mb,0,none⟩) n n):=fun W3 h=>⟨by simp[World.cell?,h,c0],by simp[World.cell?,h,c1]⟩
 have ev11:Act.eval (Act.put ⟨fr.tmps,fr.defers⟩ (some 58) (.chan (some c))) (.tmp 11)=.pointer (some ⟨rb',0,none⟩):=by
  simp[Act.eval,Act.put,Aio,Ait,t11]
 refine Co.step (L1:=fun _=>G2 (Xs c F) B) (fr1:=fr.at (Act.put (Act.put ⟨fr.tmps,fr.defers⟩ (some 58) (.chan (some c))) (some 59) (.agg #[.slice (some ⟨sb,0,none⟩) n n,.slice (some ⟨mb,0,none⟩) n n])) (.inRegion Kr [2] :: k')) (cs1:=[]) id (fun W3=>listed Tryz.prog fr.fn (Act.put ⟨fr.tmps,fr.defers⟩ (some 58) (.chan (some c))) o1 W3) (fun W3 hr3=>?_) fun W3 hr3=>?_
 ·have w3:W3.heap[rb']?=_:=(hr3.2.1 rb' (.inl hrbHot)).trans w2;obtain⟨h0,h1⟩:=hval W3 w3;obtain⟨l1,l2⟩:=A9q h0 h1 hop1 ev11
  refine⟨?_,A8x (hH2.rely hr3).hot fun e he=>?_⟩
  ·have:=stepG_value (P:=Tryz.prog) (main:=false) (b:=fr) (k:=k') (cs:=[]++[Dx]) (rest:=[2]) ho1 (by simp[Region.wanted,hg1]) hke l1
   rw[hdst1]at this
   exact this
  ·obtain⟨ad,rfl,hb⟩:=l2 e (mem_listed he)
   exact⟨rfl,.inl (hb▸hrbHot)⟩
 ·have hH3:=hH2.rely hr3;obtain⟨hFS,CS,wS,aS⟩:=hH3.cells hsB hsD hsb (by simpa using hn)
  obtain⟨hFM,CM,wM,aM⟩:=hH3.cells hmB hmD hmb (by simpa using hn)
  have hS:∀v∈((((List.range n).map (sm i)).map D6).toArray:Array Value),(∃x,v=D6 x)\/∃x,v=Av x:=fun v hv=>by
   rw[Ajb,Aj5]at hv;obtain⟨x,_,rfl⟩:=hv
   exact .inl ⟨x,rfl⟩
  have hM:∀v∈((((List.range n).map (st i)).map Av).toArray:Array Value),(∃x,v=D6 x)\/∃x,v=Av x:=fun v hv=>by
   rw[Ajb,Aj5]at hv;obtain⟨x,_,rfl⟩:=hv
   exact .inr ⟨x,rfl⟩
  have hsm:sb≠mb:=fun e=>by
   subst e
   exact hgne (hinj _ _ _ hsB hmB)
  refine .stop ⟨.agg #[.slice (some ⟨sb,0,none⟩) n n,.slice (some ⟨mb,0,none⟩) n n],.tuple #[],A4d hke ?_ ?_,fun x=>x=sb\/x=mb,?_,?_,fun W4 hr4=>?_⟩
  ·simp[Act.eval,Act.put,Aio,Ait,hsize]
  ·simp[Act.eval,Act.put,Aio,Ait,hsize]
  ·exact⟨sb,mb,(0,0),(0,0),rfl,hsm,fun _=>.rfl,(Qk aS hS)▸wS,(Qk aM hM)▸wM⟩
  ·rintro x (rfl|rfl)
   ·exact⟨gs,hsB,hsD,hFS⟩
   ·exact⟨gm,hmB,hmD,hFM⟩
  ·have k1:=hH3.freeze (F':=fun b=>F b\/b=gs) hsB hsD hsb (fun _=>.rfl)
   have k2:=k1.freeze (F':=fun b=>(F b\/b=gs)\/b=gm) hmB hmD (by rw[Ait,Aid hgne];exact hmb) (fun _=>.rfl)
   have eL:(fun x=>G2 (Xs c F) B x/\¬(x=sb\/x=mb))=G2 (Xs c fun b=>(F b\/b=gs)\/b=gm) B:=by
    funext x
    apply propext
    constructor
    ·rintro⟨⟨b,h1,h2,h3⟩,h4⟩
     refine⟨b,h1,h2,?_⟩
     rintro((h|rfl)|rfl)
     ·exact h3 h
     ·exact h4 (.inl (hfnB _ _ _ h1 hsB))
     ·exact h4 (.inr (hfnB _ _ _ h1 hmB))
    ·rintro⟨b,h1,h2,h3⟩
     refine⟨⟨b,h1,h2,fun h=>h3 (.inl (.inl h))⟩,?_⟩
     rintro(rfl|rfl)
     ·exact h3 (.inl (.inr (hinj _ _ _ h1 hsB)))
     ·exact h3 (.inr (hinj _ _ _ h1 hmB))
   have eR:(fun x=>Ka (Xs c F) B x \/(x=sb\/x=mb))=Ka (Xs c fun b=>(F b\/b=gs)\/b=gm) B:=by
    funext x
    apply propext
    constructor
    ·rintro(⟨b,h1,h2,h3⟩|rfl|rfl)
     ·exact⟨b,h1,h2,.inl (.inl h3)⟩
     ·exact⟨gs,hsB,hsD,.inl (.inr rfl)⟩
     ·exact⟨gm,hmB,hmD,.inr rfl⟩
    ·rintro⟨b,h1,h2,(h|rfl)|rfl⟩
     ·exact .inl ⟨b,h1,h2,h⟩
     ·exact .inr (.inl (hfnB _ _ _ h1 hsB))
     ·exact .inr (.inr (hfnB _ _ _ h1 hmB))
   rw[eL,eR]at hr4 ⊢
   refine⟨B,_,_,Act.put (Act.put a (some 58) (.chan (some c))) (some 59) (.agg #[.slice (some ⟨gs,0,none⟩) n n,.slice (some ⟨gm,0,none⟩) n n]),_,fr,k',Kr,rfl,rfl,k2.rely hr4,?_,rfl,rfl,hcc,?_,g2⟩
   ·refine Ee.cx (N8 c F _) (Hl (Hg (Hg har (some 58) (.chan hcc)) (some 59) (.agg rfl fun j v v' hv hv'=>?_)) hds hk' hk hfn)
    match j with
    | 0=>cases hv;cases hv';exact .slice _ _ ⟨⟨hsB,hsD⟩,⟨rfl,Aj9 _⟩,rfl⟩
    | 1=>cases hv;cases hv';exact .slice _ _ ⟨⟨hmB,hmD⟩,⟨rfl,Aj9 _⟩,rfl⟩
    | j+2=>cases hv
   ·refine⟨?_,?_,?_,?_,?_,?_,?_,?_⟩
    ·rw[Es,Es];exact g1
    all_goals rw[Cs (by decide),Cs (by decide)]
    ·exact g3
    ·exact g4
    ·exact g5
    ·exact g6
    ·exact g7
    ·exact g8
    ·exact g9
end
section
open Go.RowKit Go.Conc Co Ok Lr Tl Bar
theorem Vh:∃fn,Tryz.prog.funcs[33]?=some fn/\fn.results=#[]/\fn.norace=false:=⟨_,Tryz.func33,by kernel_rfl,by kernel_rfl⟩
theorem A49 {c s r:Nat}{tm:Bool}{cs:List Frame}{b:Frame}{a:Act}{todo:List Item}{ds:List Deferred}{w:World}(hb:b.fn=33)(hd:a.defers=G4 c :: ds)(hc:w.heap[c]?=some (.chan 0 #[] false s r tm)) :
 stepG Tryz.prog false (G { b.at a todo with mode:=.returning } cs) w=.go (G { b.at ⟨a.tmps,ds⟩ todo with mode:=.returning } cs) (w.shut c s r tm) #[⟨.obj c,false,true⟩,⟨.obj c,true,true⟩]:=by
 obtain⟨fn,hf,_,hq⟩:=Vh
 have hs:seen Tryz.prog b.fn #[⟨.obj c,false,true⟩,⟨.obj c,true,true⟩]=#[⟨.obj c,false,true⟩,⟨.obj c,true,true⟩] :=
  seen_eq (by rw[hb,hf];simpa using hq) (by intro e he f;simp only[Ajb,Ajf,Aja,Akv]at he;rcases he with rfl|rfl<;>simp)
 unfold G4 at hd;generalize (Ug.getD 1 default).type=ty at hd
 have hi:(invoke (.builtin .close #[107] ty #[false]) #[.chan (some c)]).run Tryz.prog w=.ok (.value (.tuple #[])) (w.shut c s r tm):=by
  simp[invoke,builtin,go_sem,run_close_open _ _ hc,World.shut]
 have he:(invoke (.builtin .close #[107] ty #[false]) #[.chan (some c)]).events Tryz.prog w #[]=#[⟨.obj c,false,true⟩,⟨.obj c,true,true⟩]:=by
  simp[invoke,builtin,go_sem,events_close_open _ _ hc]
 simp[G,stepG,unwind,callDeferred,Frame.at,hd,hi,he,GStep.after,hs]
theorem A4a {b:Frame}{a:Act}{todo:List Item}{w:World}(hb:b.fn=33)(hk:b.kind=.deferred)(hd:a.defers=[]) :
 stepG Tryz.prog false (G { b.at a todo with mode:=.returning } [Dx]) w=.go (G Dx []) w #[]:=by
 obtain⟨fn,hf,hr,_⟩:=Vh;simp[G,stepG,unwind,doReturn,results,Frame.at,hb,hk,hd,hf,hr,Dx,GStep.after,seen_none,goexitEntry]
theorem A80 {w:World}:stepG Tryz.prog false (G Dx []) w=.go { G Dx []with status:=.finished } w #[]:=by
 simp[G,stepG,unwind,Dx,goexitEntry,Frame.catches,GStep.after,seen_none]
 rfl
theorem Zs {c:Nat}{b:Frame}{a:Act}{todo:List Item}(hb:b.fn=33)(hk:b.kind=.deferred)(hd:a.defers=[G4 c]):X4 Tryz.prog [] c { b.at a todo with mode:=.returning } [Dx]:=by
 refine⟨by simp[mayWake,G,Frame.at],G { b.at ⟨a.tmps,[]⟩ todo with mode:=.returning } [Dx],2,fun w s r tm hc=>A49 hb hd hc,?_⟩
 refine .inr ⟨rfl,G Dx [],fun w=>A4a hb hk rfl,.inr ⟨rfl,{ G Dx []with status:=.finished },fun w=>A80,rfl⟩⟩
theorem Zq {X:Cx}{B:Lk}{c:Nat}{l:List Deferred}(hfn:∀b b₁ b₂,B b b₁->B b b₂->b₁=b₂)(hcc:B c c)(h:R5 X B [G4 c] l):l=[G4 c]:=by
 cases h with
 | @cons _ d' _ l' _ h1 h2 =>
   cases h2
   obtain⟨t,p⟩:=d';obtain⟨h1,h2⟩:=h1;dsimp only at h1 h2
   have e1:t=(G4 c).target:=by
    unfold G4 at h1 ⊢;dsimp only at h1 ⊢
    cases h1
    rfl
   have e2:p=#[.chan (some c)]:=by
    apply Ala
    intro i
    rcases h2.get i with⟨x,x',g1,g2,g3⟩ |⟨g1,g2⟩
    ·match i with
     | 0 =>
       cases g1
       rw[g2]
       cases g3 with
       | chan g=>rw[hfn _ _ _ g hcc];rfl
     | i+1=>cases g1
    ·rw[g2]
     match i with
     | 0=>cases g1
     | i+1=>rfl
   rw[e1,e2]
   rfl
theorem Y2 {X:Cx}{B0 B:Lk}{V W:World}{m:Nat}(hw:WR X B0 V W)(hg:Gr V.heap.size m B0 B):Ka X B=Ka X B0:=by
 funext x
 apply propext
 constructor
 ·rintro⟨b,h1,h2,h3⟩
  rcases hg.2 b x h1 with h |⟨h,_⟩
  ·exact⟨b,h,h2,h3⟩
  ·exact absurd (hw.Rw b h3) (Nat.not_lt.2 h)
 ·rintro⟨b,h1,h2,h3⟩
  exact⟨b,hg.1 b x h1,h2,h3⟩
section
variable {cx cy d n : Nat} {A4 : Int} {px py : Nat -> Nat -> Nat} {bx : Nat -> Nat -> Value} {st : Nat -> Nat -> Int} {sm : Nat -> Nat -> Nat} {c : Nat}
def Adx (c cx cy d n:Nat)(A4:Int)(st:Nat->Nat->Int)(sm:Nat->Nat->Nat)(i:Nat)(R L:Nat->Prop)(fr:Frame)(cs:List Frame)(W:World):Prop :=
 ∃(B:Lk) (F:Nat->Prop) (V:World) (a:Act) (t:List Item),cs=[]/\WR (Xs c F) B V W/\Ee (Xs c F) B (bS.at a t) fr/\HS (.chan (some c)) cx cy d n A4 st sm [G4 c] i t a V/\B c c/\L=G2 (Xs c F) B/\R=Ka (Xs c F) B
theorem A5w {F:Nat->Prop}{B:Lk}{V W:World}{fr:Frame}{a:Act}{s:List Item}{i:Nat}(hw:WR (Xs c F) B V W)(hf:Ee (Xs c F) B (bS.at a s) fr)(hcc:B c c)(hd:a.defers=[G4 c])
 (h:∀w,HW Vp.prog s (HS (.chan (some c)) cx cy d n A4 st sm a.defers i) a w):Co Tryz.prog false [Dx] (Ka (Xs c F) B) (Adx c cx cy d n A4 st sm i (Ka (Xs c F) B)) (G2 (Xs c F) B) fr [] W:=by
 refine(Nd (Lw c F) Rr (H:=HS (.chan (some c)) cx cy d n A4 st sm a.defers i) (fun t a w τ d=>A0c t a w τ d) hw hf fun τ d=>h _).mono ?_
 rintro L fr' cs' W' ⟨B',x,τ,k,hg,⟨hxc,t,a',hxf,hH⟩,hw',hf',hc',rfl,_,_⟩;rw[hxc]at hc';rw[hxf]at hf';rw[hd]at hH
 refine⟨B',F,(x.at τ k).V,a',t,by cases hc';rfl,hw',hf',A0c t a' _ _ _ hH,hg.1 _ _ hcc,rfl,(Y2 hw hg).symm⟩
theorem A4b {P:Program}{m:Bool}{b1 b2 cs:List Frame}{c:Nat}{dir:Z7}{fr:Frame}(h:Gt P m (b1++b2) c dir fr cs):Gt P m b2 c dir fr (cs++b1):=by
 intro w;have:=h w;rw[<-Al1]at this
 exact this
variable (C : K9 cx cy d n A4 px py bx st sm) (hn : n <= 8)
include C hn
theorem Wi:∀(k:Nat) {i:Nat},i+k=n->0<n->∀{L R:Nat->Prop} {fr:Frame} {cs:List Frame} {W:World},(Co Tryz.prog false [Dx] R (Adx c cx cy d n A4 st sm i R) L fr cs W)->Pb c n st sm k L R fr (cs++[Dx]) W
 | 0,i,hi,h0,L,R,fr,cs,W,h=>by
   refine(Co.Aa9 (base:=[]) (base2:=[Dx]) (Co.mono h (Post':=fun L fr cs W=>Adx c cx cy d n A4 st sm i R L fr cs W) fun _ _ _ _ h=>h)).bind ?_
   rintro L fr cs W ⟨c0,rfl,B,F,V,a,t,rfl,hw,hf,hH,hcc,rfl,rfl⟩;obtain⟨hlt,_⟩ |⟨_,rfl,_,hd⟩:=hH
   ·omega
   obtain⟨e1,_,hds,htd,hk,hfn⟩:=J0 hf;have et:=Afn htd;rw[et]at e1;rw[e1]
   refine .ctl (fr1:={ fr.at ⟨fr.tmps,fr.defers⟩ []with mode:=.returning }) (cs1:=[]++[Dx]) (fun b hb=>(WH.hot ⟨V,rfl,hw⟩) b hb) (fun W2=>stepG_end) fun W2 hr=>.stop ?_
   refine Zs hfn hk ?_
   rw[hd]at hds
   exact Zq (hw.fn) hcc hds
 | k+1,i,hi,h0,L,R,fr,cs,W,h=>by
   refine((h.bind ?_:Co Tryz.prog false ([Dx]++[]) R (fun L fr cs W=>∃v z,Gt Tryz.prog false [Dx] c (.send v z) fr cs/\∃R',Zb n st sm i v R' W /\(∀x,R' x->L x) /\
    ∀W2,Bp (fun x=>L x/\¬R' x) (fun x=>R x\/R' x) W W2->Adm c cx cy d n A4 i (fun x=>L x/\¬R' x) (fun x=>R x\/R' x) (fr.finish undef) cs W2) L fr cs W).Aa9).mono ?_
   ·rintro L fr cs W ⟨B,F,V,a,t,rfl,hw,hf,hH,hcc,rfl,rfl⟩;obtain⟨_,rfl,w0,hR⟩ |⟨h1,_⟩:=hH
    ·exact Aag h0 hw hf hcc hR
    ·omega
   ·rintro L fr cs W ⟨c0,rfl,v,z,hs,R',hrow,hsub,hk⟩
    refine⟨v,z,A4b hs,R',by rwa [show n-(k+1)=i by omega],hsub,fun W2 hr=>?_⟩
    refine Wi k (i:=i+1) (by omega) h0 ?_
    obtain⟨B,H,F,a,a',b',k',ops,rfl,e,hH,hf,eL,eR,hcc,hS,hd⟩:=hk W2 hr;rw[e,eL,eR]
    refine Co.J5 hH.hot fun W3 hr3=>?_
    obtain⟨V,_,hw⟩:=hH.rely hr3
    exact A5w hw hf hcc hd fun w=>Ac5 C hn (by omega) hS w
end
end
section
open Go.RowKit Go.Conc Co Ok Lr Tl Bar
noncomputable def Zh (args:Array Value):Frame:={ (default:Frame)with fn:=Tryz.prog.funcs.size,defers:=[⟨.fn (.func 33) #[],args⟩],mode:=.panicking [goexitEntry] }
theorem A5m:∃fn,Tryz.prog.funcs[33]?=some fn /\(fn.name == "runtime.NumGoroutine") = false/\fn.body=some G0/\fn.ntmps=61:=⟨_,Tryz.func33,by kernel_rfl,by kernel_rfl,by kernel_rfl⟩
theorem A2v (args:Array Value):Frame.enter Tryz.prog 33 args .deferred=bS.at ⟨args++Array.replicate (61-args.size) undef,[]⟩ [.code G0]:=by
 obtain⟨fn,hf,_,hb,hn⟩:=A5m;rw[enter_atD args hf hb,hn]
 rfl
theorem A7z {args:Array Value}{w:World}:stepG Tryz.prog false (G (Zh args) []) w=.go (G (bS.at ⟨args++Array.replicate (61-args.size) undef,[]⟩ [.code G0]) [Dx]) w #[]:=by
 obtain⟨fn,hf,h1,hb,hn⟩:=A5m;rw[<-A2v];have h1:¬fn.name = "runtime.NumGoroutine" := by simpa using h1
 simp[G,stepG,unwind,callDeferred,Zh,invoke,callFunc,hf,h1,hb,GStep.after,seen_none,Dx]
theorem step_defer {ops:Array Oper}{i:Nat}{rest:List Nat}{o:Oper}{b:Frame}{a:Act}{k:List Item}{cs:List Frame}{w:World}{x:Nat}{t:TypeId}{main:Bool}(ho:ops[i]?=some o)(hg:o.guard=none)(hk:b.kind≠.early)
 (hop:o.op=.defer { callee:=.builtin .close,args:=#[.tmp x],argTypes:=#[t] }) :
 stepG Tryz.prog main (G (b.at a (.inRegion ops (i :: rest) :: k)) cs) w=.go (G (b.at (Act.put ⟨a.tmps,⟨.builtin .close #[t] o.type #[false],#[a.eval (.tmp x)]⟩ :: a.defers⟩ o.dst undef) (.inRegion ops rest :: k)) cs) w #[]:=by
 have hw:Region.wanted o (yielded ops a.tmps)=true:=by simp[Region.wanted,hg]
 have hr:(execOp a.eval o).run Tryz.prog w=.ok (.defer ⟨.builtin .close #[t] o.type #[false],#[a.eval (.tmp x)]⟩) w:=by
  unfold execOp;simp[hop,resolve]
 have he:(execOp a.eval o).events Tryz.prog w #[]=#[]:=by
  unfold execOp;simp[hop,resolve]
 have hfin:(b.at ⟨a.tmps,⟨.builtin .close #[t] o.type #[false],#[a.eval (.tmp x)]⟩ :: a.defers⟩ (.inRegion ops (i :: rest) :: k)).finish undef=b.at (Act.put ⟨a.tmps,⟨.builtin .close #[t] o.type #[false],#[a.eval (.tmp x)]⟩ :: a.defers⟩ o.dst undef) (.inRegion ops rest :: k):=by rw[Frame.finish_at,ho];rfl
 have hk':(b.kind == CallKind.early)=false:=by simpa using hk
 rw[stepG_oper ho hw,<-hfin];simp[stepG.apply,hr,he,G,Frame.at,hk',GStep.after,seen_none]
theorem Acn {c:Nat}{W:World}(hc:c<W.heap.size)(hN:Vp.prog.globals.size<=W.heap.size):WR (Xs c fun _=>False) (fun x y=>x=c/\y=c) { W with heap:=W.heap.setIfInBounds c (.cells #[] 0 (0,0)) } W :=
 { tape:=rfl,drawn:=rfl,os:=rfl,output:=rfl
   fn:=fun b b₁ b₂ h1 h2=>h1.2.trans h2.2.symm
   inj:=fun b₁ b₂ b' h1 h2=>h1.1.trans h2.1.symm
   Hm:=fun g hg=>by cases hg
   live:=fun b b' h hd _=>absurd h.1 hd
   Ip:=fun b b' h hd _=>absurd h.1 hd
   dead:=fun b b' h _=>by obtain⟨rfl,rfl⟩:=h;exact⟨⟨0,by simp[hc]⟩,hc⟩
   Vc:=fun b hb=>by obtain rfl:b=c:=hb;simpa using hc
   Rw:=fun b hb=>hb.elim
   low:=fun b b' h=>by obtain⟨rfl,rfl⟩:=h;exact .rfl
   nV:=by rw[Array.size_setIfInBounds];exact hN
   nW:=hN }
theorem A9e {c:Nat}{F:Nat->Prop}:G2 (Xs c F) (fun x y=>x=c/\y=c)=fun _=>False:=by
 funext x
 apply propext
 exact⟨fun⟨b,h1,h2,_⟩=>h2 h1.1,fun h=>h.elim⟩
theorem Hn {c:Nat}{B:Lk}:Ka (Xs c fun _=>False) B=fun _=>False:=by
 funext x
 apply propext
 exact⟨fun⟨b,_,_,h⟩=>h,fun h=>h.elim⟩
noncomputable def Ss (c cx cy d n:Nat)(A4:Int):Array Value:=#[.chan (some c),.complex .f32 cx cy,.int .i64 d,.int .i64 n,.int .i64 A4]
theorem Aaf {c n:Nat}{st:Nat->Nat->Int}{sm:Nat->Nat->Nat}{k:Nat}:∃Post:(Nat->Prop) ->(Nat->Prop)->Frame->List Frame->World->Prop,∀L R fr cs W,Pb c n st sm k L R fr cs W=Co Tryz.prog false [] R (Post R) L fr cs W:=by
 cases k with
 | zero=>exact⟨_,fun _ _ _ _ _=>rfl⟩
 | succ k=>exact⟨fun R=>_,fun _ _ _ _ _=>rfl⟩
theorem A8t (D F:Nat->Prop)(s:Code)(hs:Hh Tryz.prog 33=s):Jy (cx Vp.prog phs [] (R4 Tryz.prog) D F) (cut [0,13] s) s:=by
 have h:=Abq;rw[hs]at h
 exact A8u [0,13] 33 (by simp[Mo]) s hs h
theorem Abp (c:Nat):∃e,G0=.seq (.region 0 Ug false) e/\Jy (Xs c fun _=>False) (.seq sR1 (.block 0 (.loop sX))) e:=by
 obtain⟨s,hs⟩:∃s,G0=s:=⟨_,rfl⟩;have hb:=Aae.trans hs;have hc:=A6h;rw[hs]at hc ⊢;clear hs;have hcd:=A8t (fun b=>b=c) (fun _=>False) s hb
 rw[hc]at hcd;obtain⟨d0,e',ec,hd0,hd1⟩:=hcd;obtain rfl:=Ag4 (hd0.resolve_left (by decide))
 exact⟨e',ec,hd1⟩
theorem Eg {p:Array Value}{i:Nat}{v:Value}(h:p[i]?=some v)(q:Array Value):(p++q)[i]?=some v:=by
 rw[Alk (Ai2.1 h).1]
 exact h
theorem A7f {cx cy d n:Nat}{A4:Int}{px py:Nat->Nat->Nat}{bx:Nat->Nat->Value}{st:Nat->Nat->Int}{sm:Nat->Nat->Nat}{c:Nat}(C:K9 cx cy d n A4 px py bx st sm)(hn:n<=8)(h0:0<n){W:World}(hc:c<W.heap.size)(hN:Vp.prog.globals.size<=W.heap.size) :
 Pb c n st sm n (fun _=>False) (fun _=>False) (Zh (Ss c cx cy d n A4)) [] W:=by
 obtain⟨Post,hP⟩:=Aaf (c:=c) (n:=n) (st:=st) (sm:=sm) (k:=n);rw[hP];have hno:∀b,(fun _:Nat=>False) b->b<W.heap.size:=fun b h=>h.elim
 refine Co.ctl (fr1:=bS.at ⟨Ss c cx cy d n A4++Array.replicate (61-(Ss c cx cy d n A4).size) undef,[]⟩ [.code G0]) (cs1:=[Dx]) (fun b h=>h.elim) (fun _=>A7z) fun W1 hr1=>?_
 have hc1:c<W1.heap.size:=Ai9 hc hr1.1;have hN1:Vp.prog.globals.size<=W1.heap.size:=Ai5 hN hr1.1;generalize hT:Ss c cx cy d n A4++Array.replicate (61-(Ss c cx cy d n A4).size) undef=T;have hTs:T.size=61:=by rw[<-hT];simp[Ss]
 have hT0:T[0]?=some (.chan (some c)):=by rw[<-hT];exact Eg rfl _
 have hT1:T[1]?=some (.complex .f32 cx cy):=by rw[<-hT];exact Eg rfl _
 have hT2:T[2]?=some (.int .i64 d):=by rw[<-hT];exact Eg rfl _
 have hT3:T[3]?=some (.int .i64 n):=by rw[<-hT];exact Eg rfl _
 have hT4:T[4]?=some (.int .i64 A4):=by rw[<-hT];exact Eg rfl _
 have hTR:AR (Xs c fun _=>False) (fun x y=>x=c/\y=c) T T:=by
  rw[<-hT]
  refine AR.append ⟨rfl,fun i v v' h1 h2=>?_⟩ (AR.replicate _ Ga)
  rw[h1]at h2
  cases h2
  match i with
  | 0=>cases h1;exact .chan ⟨rfl,rfl⟩
  | 1=>cases h1;exact .complex _ _ _
  | 2=>cases h1;exact .int _ _
  | 3=>cases h1;exact .int _ _
  | 4=>cases h1;exact .int _ _
  | i+5=>cases h1
 obtain⟨e',ec,hd1⟩:=Abp c;rw[ec]
 refine Co.ctl (fun b h=>h.elim) (fun _=>stepG_seq) fun W2 hr2=>?_
 refine Co.region (fun b h=>h.elim) fun W3 hr3=>?_
 rw[Agt];obtain⟨o0,ho0,hop0,hdst0,hg0⟩:=Agh;obtain⟨o1,ho1,hop1,hty1,hdst1,hg1⟩:=Agi
 refine Co.val ho0 hg0 (by simp[bS]) (Ed hop0) (fun b h=>h.elim) fun W4 hr4=>?_
 have ev0:Act.eval ⟨T,[]⟩ (.tmp 0)=.chan (some c):=by simp[Act.eval,Aio,hT0]
 rw[ev0,hdst0];have ev16:Act.eval (Act.put ⟨T,[]⟩ (some 16) (.chan (some c))) (.tmp 16)=.chan (some c):=by simp[Act.eval,Act.put,Aio,hTs]
 refine Co.ctl (fun b h=>h.elim) (fun _=>step_defer ho1 hg1 (by simp[bS]) hop1) fun W5 hr5=>?_
 rw[ev16,hdst1,hty1]
 refine Co.J5 (fun b h=>h.elim) fun W6 hr6=>?_
 have hc6:c<W6.heap.size:=Ai9 hc1 (Ai5 hr2.1 (Ai5 hr3.1 (Ai5 hr4.1 (Ai5 hr5.1 hr6.1))));have hN6:Vp.prog.globals.size<=W6.heap.size:=Ai5 hN1 (Ai5 hr2.1 (Ai5 hr3.1 (Ai5 hr4.1 (Ai5 hr5.1 hr6.1))));rw[<-hP];rw[<-Al0 [Dx]]
 refine Wi C hn n (i:=0) (by omega) h0 ?_
 have:=A5w (cx:=cx) (cy:=cy) (d:=d) (n:=n) (A4:=A4) (st:=st) (sm:=sm) (i:=0) (Acn hc6 hN6) (fr:=bS.at ⟨T.setIfInBounds 16 (.chan (some c)),[G4 c]⟩ [.code e']) (a:=⟨T.setIfInBounds 16 (.chan (some c)),[G4 c]⟩) (s:=[.code (.seq sR1 (.block 0 (.loop sX)))])
  (Hl (hTR.set 16 (.chan ⟨rfl,rfl⟩)) (.cons (.inl trivial) ⟨.builtin _ _ _ _ rfl,⟨rfl,fun i v v' h1 h2=>?_⟩⟩ .nil) (.cons (.code hd1) .nil) rfl rfl) ⟨rfl,rfl⟩ rfl fun w=>A9g C hn (by simp[hTs]) ?_ ?_ ?_ ?_ ?_ w
 ·rw[A9e,Hn]at this
  exact this
 ·rw[h1]at h2
  cases h2
  match i with
  | 0=>cases h1;exact .chan ⟨rfl,rfl⟩
  | i+1=>cases h1
 all_goals refine(Ai4 (by decide)).trans ?_
 ·exact hT0
 ·exact hT1
 ·exact hT2
 ·exact hT3
 ·exact hT4
end
namespace Co
open Go.Conc Tl Lr Bar
open Go.ConcN (sumTo upd sumTo_upd upd_ne upd_same)
theorem A8m {c g:Nat}{fn:FuncId}{pos:String}{es:Array Event}{L R:Nat->Prop}(he:∀e∈es,EvC L R e)(hL:¬L c):∀op∈MemOp.ofEvents g fn pos es,∀x,op.act.touch?=some x->x.loc≠.obj c:=by
 intro op hop x hx e;obtain⟨ev,hev,rfl⟩:=Go.Conc.mem_ofEvents hop;have h:=he ev hev;obtain⟨loc,wr,sy⟩:=ev;unfold EvC at h
 cases loc with
 | cell a =>
   have h1:sy=false:=h.1;subst h1
   cases wr<;>(cases hx;cases e)
 | obj r =>
   have h:L r:=h
   cases wr<;>cases sy<;>first |(cases hx;cases e;exact hL h) |(cases hx;done)
 | mark m =>
   have h:m=.noRoom:=h;subst h
   cases hx
 | _=>exact h
theorem Jj {P:Program}{base:List Frame}{R:Nat->Prop}{Post:(Nat->Prop)->Frame->List Frame->World->Prop}{L:Nat->Prop}{fr:Frame}{cs:List Frame}{W:World}(h:Co P true base R Post L fr cs W) :
 ∀(gs:Array Goroutine) (w:World) (sl:Option (Nat×Nat)) (t:Trace) (q:Nat->Nat),gs[0]?=some (G fr (cs++base))->Bp L R W w ->(∀b,R b->b<w.heap.size)->Leavers P t gs q->Past (fun _=>False) w.heap.size t ->
  ∃(N:Nat) (gs':Array Goroutine) (fr':Frame) (cs':List Frame) (w' W':World) (sl':Option (Nat×Nat)) (t':Trace) (q':Nat->Nat) (L':Nat->Prop),
   runNT P N (crowd gs w sl) t=(.next (crowd gs' w' sl'),t')/\gs'.size=gs.size/\gs'[0]?=some (G fr' (cs'++base))/\Post L' fr' cs' W'/\Bp L' R W' w'/\Leavers P t' gs' q'/\Past (fun _=>False) w'.heap.size t'/\Left L w L' w' /\(W.heap=w.heap->W'.heap=w'.heap)/\∀c,¬L' c ->(∀i x,touchAt t i=some x->x.loc≠.obj c)->∀i x,touchAt t' i=some x->x.loc≠.obj c:=by
 induction h with
 | @stop L fr cs W hp =>
   intro gs w sl t q h0 hr _ hL hP
   exact⟨0,gs,fr,cs,w,W,sl,t,q,L,rfl,rfl,h0,hp,hr,hL,hP,Left.refl _ _,id,fun _ _ h=>h⟩
 | @go L fr cs W f1 c1 w1 n1 L1 hstep _ ih =>
   intro gs w sl t q;generalize hM:sumTo gs.size q=M
   induction M using Nat.strongRecOn generalizing gs w sl t q with
   | _ M ihM =>
     intro h0 hr hR hL hP
     have haw:∀g∈gs,awake g:=by
      intro g hg;obtain⟨i,hi,rfl⟩:=Array.mem_iff_getElem.1 hg
      rcases Ajr i with rfl|hpos
      ·have:gs[0]=G fr (cs++base):=by simpa [Ai8 hi]using h0
       rw[this];exact awake_of (.inl rfl)
      ·exact awake_of ((hL.old i _ hpos (Ai8 hi)).status.elim .inl fun x=>.inr (.inr x))
     obtain⟨i,g,d,sl',hi,hg,hst⟩:=crowd_pick (P:=P) (w:=w) (sl:=sl) haw ⟨0,_,h0,rfl⟩
     rcases Ajr i with rfl|hpos
     ·
      obtain rfl:g=G fr (cs++base):=by rw[h0]at hi;exact(Ajo hi).symm
      obtain⟨hgo,hdid⟩:=hstep (w.at d) (Ak hr d);have hrunT:=runT_crowd_go (P:=P) (sl:=sl') (i:=0) hi (show stepG P (0 == 0) (G fr (cs++base)) (w.at d)=_ from hgo);have hsz:((gs.map (woken P (G fr (cs++base)) (G (f1 (w.at d)) (c1 (w.at d)++base)) (w1 (w.at d)))).setIfInBounds 0 (G (f1 (w.at d)) (c1 (w.at d)++base))).size=gs.size:=by simp
      have hlt:0<gs.size:=(Ai2.1 h0).1;have hgrow:w.heap.size <=(w1 (w.at d)).heap.size:=hdid.size
      obtain⟨N,gs',fr',cs',w',W',sl'',t',q',L',k1,k2,k3,k4,k5,k6,k7,k8,k9,k10⟩:=ih (w.at d) (Ak hr d) ((gs.map (woken P (G fr (cs++base)) (G (f1 (w.at d)) (c1 (w.at d)++base)) (w1 (w.at d)))).setIfInBounds 0 (G (f1 (w.at d)) (c1 (w.at d)++base))) (w1 (w.at d)) sl' (t++MemOp.ofEvents 0 (G fr (cs++base)).frame.fn (G fr (cs++base)).frame.place (n1 (w.at d))) q (by simp[hlt]) (Bv _ _ _) (fun b hb=>Ai9 (hR b hb) hgrow)
       ⟨fun j x hj hx=>by
        have hne:0≠j:=by omega
        rw[Ai4 hne,Aj4]at hx;obtain⟨y,hy,rfl⟩:=Aif.1 hx;have hq:=hL.old j y hj hy;rw[woken_quitsD hq,Deaf_other t (by omega) _ (fun op hop=>by obtain⟨e,_,rfl⟩:=Go.Conc.mem_ofEvents hop;rfl)]
        exact hq,fun j hj=>by
        rw[Deaf_other t (g':=0) (by simp at hj;omega) _ (fun op hop=>by obtain⟨e,_,rfl⟩:=Go.Conc.mem_ofEvents hop;rfl)]
        exact hL.above j (by simpa using hj)⟩
       ((hP.mono hgrow).own fun e he=>Ng (hdid.evs e he) hdid.lt fun b hb=>Ai9 (hR b hb) hgrow)
      exact⟨N+1,gs',fr',cs',w',W',sl'',t',q',L',by simp only[runNT,hst,hrunT];exact k1,k2.trans hsz,k3,k4,k5,k6,k7,((left_at L w d).trans hdid.left).trans k8,fun _=>k9 rfl,fun c hc ht=>k10 c hc (F0 ht (A8m (hdid.evs) fun x=>hc (k8.old c x)))⟩
     ·
      have hq:=hL.old i g hpos hi;have hi0:(i == 0)=false:=by simp;omega
      have hlt:i<gs.size:=(Ai2.1 hi).1
      cases hqi:q i with
      | zero=>rw[hqi]at hq;rw[hq.1]at hg;cases hg
      | succ k =>
        rw[hqi]at hq
        rcases hq with⟨hf,_⟩ |⟨_,g',es,hm,hstp,hq'⟩
        ·rw[hf]at hg;cases hg
        have hrunT:=runT_crowd_go (P:=P) (sl:=sl') (i:=i) hi (by rw[hi0];exact hstp (w.at d))
        have hsz:((gs.map (woken P g g' (w.at d))).setIfInBounds i g').size=gs.size:=by simp
        have hsum:sumTo gs.size (upd q i k) +(k+1)=sumTo gs.size q+k:=by
         have:=sumTo_upd q k id hlt
         simpa [hqi]using this
        obtain⟨N,gs',fr',cs',w',W',sl'',t',q',L',k1,k2,k3,k4,k5,k6,k7,k8,k9,k10⟩:=ihM (sumTo gs.size (upd q i k)) (by omega) ((gs.map (woken P g g' (w.at d))).setIfInBounds i g') (w.at d) sl' (t++MemOp.ofEvents i g.frame.fn g.frame.place es) (upd q i k) (by rw[hsz])
         (by
          have hne:i≠0:=by omega
          rw[Ai4 hne,Aj4,h0];have:woken P g g' (w.at d) (G fr (cs++base))=G fr (cs++base):=woken_run rfl;simp[this])
         (Ak hr d) hR
         ⟨fun j x hj hx=>by
          by_cases hji:i=j
          ·subst hji;rw[Aic (by simpa using hlt)]at hx
           obtain rfl:=Ajo hx;rw[upd_same,Deaf_own]
           exact hq'
          ·rw[Ai4 hji,Aj4]at hx;obtain⟨y,hy,rfl⟩:=Aif.1 hx;have hqj:=hL.old j y hj hy;rw[woken_quitsD hqj,upd_ne q k (Akx hji),Deaf_other t hji _ (fun op hop=>by obtain⟨e,_,rfl⟩:=Go.Conc.mem_ofEvents hop;rfl)]
           exact hqj,fun j hj=>by
          rw[Deaf_other t (g':=i) (by simp at hj;omega) _ (fun op hop=>by obtain⟨e,_,rfl⟩:=Go.Conc.mem_ofEvents hop;rfl)]
          exact hL.above j (by simpa using hj)⟩
         (hP.mute (by omega) hm)
        exact⟨N+1,gs',fr',cs',w',W',sl'',t',q',L',by simp only[runNT,hst,hrunT];exact k1,k2.trans hsz,k3,k4,k5,k6,k7,(left_at L w d).trans k8,k9,fun c hc ht=>k10 c hc (F0 ht fun op hop x hx=>by obtain⟨e,he,rfl⟩:=Go.Conc.mem_ofEvents hop;rw[touch_mute (hm e he)]at hx;cases hx)⟩
theorem Qv {P:Program}{fr:Frame}{cs:List Frame}:∀(M:Nat) (gs:Array Goroutine) (w:World) (sl:Option (Nat×Nat)) (t:Trace) (q:Nat->Nat),sumTo gs.size q=M->gs[0]?=some (G fr cs)->Leavers P t gs q->Past (fun _=>False) w.heap.size t ->
 ∃(N:Nat) (gs':Array Goroutine) (d:Nat) (sl':Option (Nat×Nat)) (t':Trace) (q':Nat->Nat),runNT P N (crowd gs w sl) t=(.next (crowd gs' (w.at d) sl'),t')/\gs'.size=gs.size/\gs'[0]?=some (G fr cs)/\Leavers P t' gs' q'/\Past (fun _=>False) w.heap.size t' /\
  (∀c,(∀i x,touchAt t i=some x->x.loc≠.obj c)->∀i x,touchAt t' i=some x->x.loc≠.obj c)/\∃d' sl'',stepT P (crowd gs' (w.at d) sl')=runT P (crowd gs' (w.at d') sl'') 0:=by
 intro M
 induction M using Nat.strongRecOn with
 | _ M ihM =>
   intro gs w sl t q hM h0 hL hP
   have haw:∀g∈gs,awake g:=by
    intro g hg;obtain⟨i,hi,rfl⟩:=Array.mem_iff_getElem.1 hg
    rcases Ajr i with rfl|hpos
    ·have:gs[0]=G fr cs:=by simpa [Ai8 hi]using h0
     rw[this];exact awake_of (.inl rfl)
    ·exact awake_of ((hL.old i _ hpos (Ai8 hi)).status.elim .inl fun x=>.inr (.inr x))
   obtain⟨i,g,d,sl',hi,hg,hst⟩:=crowd_pick (P:=P) (w:=w) (sl:=sl) haw ⟨0,_,h0,rfl⟩
   rcases Ajr i with rfl|hpos
   ·exact⟨0,gs,w.drawn,sl,t,q,rfl,rfl,h0,hL,hP,fun _ h=>h,d,sl',hst⟩
   ·have hq:=hL.old i g hpos hi;have hi0:(i == 0)=false:=by simp;omega
    have hlt:i<gs.size:=(Ai2.1 hi).1
    cases hqi:q i with
    | zero=>rw[hqi]at hq;rw[hq.1]at hg;cases hg
    | succ k =>
      rw[hqi]at hq
      rcases hq with⟨hf,_⟩ |⟨_,g',es,hm,hstp,hq'⟩
      ·rw[hf]at hg;cases hg
      have hrunT:=runT_crowd_go (P:=P) (sl:=sl') (i:=i) hi (by rw[hi0];exact hstp (w.at d))
      have hsz:((gs.map (woken P g g' (w.at d))).setIfInBounds i g').size=gs.size:=by simp
      have hsum:sumTo gs.size (upd q i k) +(k+1)=sumTo gs.size q+k:=by
       have:=sumTo_upd q k id hlt
       simpa [hqi]using this
      obtain⟨N,gs',d',sl'',t',q',k1,k2,k3,k4,k5,k6,k7⟩:=ihM (sumTo gs.size (upd q i k)) (by omega) ((gs.map (woken P g g' (w.at d))).setIfInBounds i g') (w.at d) sl' (t++MemOp.ofEvents i g.frame.fn g.frame.place es) (upd q i k) (by rw[hsz])
       (by
        have hne:i≠0:=by omega
        rw[Ai4 hne,Aj4,h0];have:woken P g g' (w.at d) (G fr cs)=G fr cs:=woken_run rfl;simp[this])
       ⟨fun j x hj hx=>by
        by_cases hji:i=j
        ·subst hji;rw[Aic (by simpa using hlt)]at hx
         obtain rfl:=Ajo hx;rw[upd_same,Deaf_own]
         exact hq'
        ·rw[Ai4 hji,Aj4]at hx;obtain⟨y,hy,rfl⟩:=Aif.1 hx;have hqj:=hL.old j y hj hy;rw[woken_quitsD hqj,upd_ne q k (Akx hji),Deaf_other t hji _ (fun op hop=>by obtain⟨e,_,rfl⟩:=Go.Conc.mem_ofEvents hop;rfl)]
         exact hqj,fun j hj=>by
        rw[Deaf_other t (g':=i) (by simp at hj;omega) _ (fun op hop=>by obtain⟨e,_,rfl⟩:=Go.Conc.mem_ofEvents hop;rfl)]
        exact hL.above j (by simpa using hj)⟩
       (hP.mute (by omega) hm)
      exact⟨N+1,gs',d',sl'',t',q',by simp only[runNT,hst,hrunT];exact k1,k2.trans hsz,k3,k4,k5,fun c ht=>k6 c (F0 ht fun op hop x hx=>by obtain⟨e,he,rfl⟩:=Go.Conc.mem_ofEvents hop;rw[touch_mute (hm e he)]at hx;cases hx),k7⟩
end Co
namespace Co
open Go.Conc Tl Lr Bar
theorem A51 {S:Nat->Prop}{l:Loc}(h:Gf S l):l.isMemory=true:=by
 cases l<;>first|rfl|exact h.elim
theorem A7g {P:Program}{c B0:Nat}{w0 w:World}{gs:Array Goroutine}{t:Trace}{q:Nat->Nat}{L:Nat->Prop}{sl:Option (Nat×Nat)}{fr:Frame}{cs:List Frame}{g1 child:Goroutine}
 (h0:gs[0]?=some (G fr cs)) (hst:stepG P true (G fr cs) w=.spawn g1 child w #[]) (hL:Leavers P t gs q) (hP:Past (fun _=>False) w.heap.size t) (hc:∃s tm,w.heap[c]?=some (.chan 0 #[] false s s tm))
 (al:∀i x,touchAt t i=some x->x.loc≠.obj c) (lo:∀x,L x->B0<=x/\x≠c/\x<w.heap.size) (hcB:B0<=c) (hk:B0<=w.heap.size /\(∀x,x<B0->w.heap[x]?=w0.heap[x]?)/\w.tape=w0.tape/\w.os=w0.os/\w.output=w0.output) :
 ∃gs' ops,runT P (crowd gs w sl) 0=(.next (crowd gs' w sl),ops)/\gs'.size=gs.size+1/\gs'[0]?=some g1/\gs'[gs.size]?=some child/\K0 P c 0 gs.size B0 w0 gs' w (t++ops) q L (fun _=>False) (fun _=>False):=by
 have hrun:=runT_crowd_spawn (P:=P) (sl:=sl) (i:=0) h0 (show stepG P (0 == 0) (G fr cs) w=_ from hst);have hlt:0<gs.size:=(Ai2.1 h0).1
 refine⟨_,_,hrun,by simp,?_,?_,?_⟩
 ·rw[Aie,Aid (by simp;omega)]
  exact Aic hlt
 ·rw[Aie,Aij (by simp)]
 generalize hu:Array.push (Array.push (MemOp.ofEvents 0 (G fr cs).frame.fn (G fr cs).frame.place #[]) { g:=0,fn:=(G fr cs).frame.fn,pos:=(G fr cs).frame.place,act:=.go gs.size }) { g:=gs.size,fn:=child.frame.fn,pos:=(G fr cs).frame.place,act:=.start }=u
 have hq:∀op∈u,(op.act≠.mark .disable/\op.act≠.mark .enable)/\op.act.touch?=none/\op.act.low w.heap.size:=by
  intro op hop;rw[<-hu]at hop;simp[MemOp.ofEvents]at hop
  rcases hop with rfl|rfl
  ·exact⟨⟨by simp,by simp⟩,rfl,trivial⟩
  ·exact⟨⟨by simp,by simp⟩,rfl,trivial⟩
 have ht:∀op∈u,op.act.touch?=none:=fun op h=>(hq op h).2.1
 have hd:∀i,Deaf (t++u) i=Deaf t i:=fun i=>G5 t i u fun op h=>(hq op h).1
 have key:∀(l:List MemOp) (t:Trace),(∀op∈l,op.act.touch?=none) ->(∀said,¬Race said t)->∀said,¬Race said (t++l.toArray):=by
  intro l
  induction l with
  | nil=>intro t _ h;simpa using h
  | cons x l ih =>
    intro t hx h
    have:=ih (t ++#[x]) (fun op y=>hx op (by simp[y])) fun said=>noRace_append (g:=x.g) (h said) (fun op y=>by simp at y;rw[y]) fun i a _ op hop b hb _=>by
     rw[show op=x by simpa using hop,hx x (by simp)]at hb;cases hb
    simpa [Array.append_assoc]using this
 have hn:∀i x,touchAt t i=some x->x.loc.isMemory=true->Knows t 0 i:=fun i x h m=>(hP.known i x h m).resolve_right fun y=>y.1
 refine⟨hc,by omega,by simp,by simp,.inl rfl,?_,?_,?_,?_,fun x hx=>hx.elim,fun x hx=>hx.elim,⟨?_,?_,?_,?_,?_,?_,?_,?_⟩,?_,hk⟩
 ·intro i g hi0 hib hg
  have hlt':i<gs.size:=by
   have:=(Ai2.1 hg).1;simp at this
   omega
  rw[Aie,Aid (by simp;omega),Ai4 (Akx hi0)]at hg
  rw[hd]
  exact hL.old i g (by omega) hg
 ·intro i hi;rw[hd]
  exact hL.above i (by simp at hi;omega)
 ·rintro x (h|h|rfl)
  ·exact(lo x h).1
  ·exact h.elim
  ·exact hcB
 ·intro x hx
  exact⟨fun h=>h,fun h=>h,(lo x hx).2⟩
 ·have:=key u.toList t (fun op h=>ht op (by simpa using h)) hP.clean
  simpa using this
 ·exact U1.app ⟨fun i a h hb=>hn i a h (A51 hb),fun i a h hb _=>hn i a h (A51 hb)⟩ ht
 ·exact U1.app ⟨fun i a h hb=>by cases hl:a.loc<;>(rw[hl]at hb;exact hb.elim),fun i a h hb _=>by cases hl:a.loc<;>(rw[hl]at hb;exact hb.elim)⟩ ht
 ·intro i x hx hm
  rcases Ca hx with h |⟨op,h,_,h2⟩
  ·exact .inl ((hn i x h hm).app u)
  ·rw[ht op h]at h2;cases h2
 ·exact Sk (fun i g h1 h2 _ h3=>hP.over i g h1 h2 h3) fun op h=>.inr (.inr (ht op h))
 ·rw[hd];exact hP.hears
 ·rw[hd];exact hL.above _ (Ai3 _)
 ·exact seen_app hP.seen fun op h=>(hq op h).2.2
 ·exact F0 al fun op h x hx=>by rw[ht op h]at hx;cases hx
end Co
section
open Go.RowKit Go.Conc Co Ok Lr Tl Bar
noncomputable def mR9:Code:=match mD with|.seq _ (.seq _ (.seq _ (.seq a _)))=>a|_=>.skip
noncomputable def Ahk:Code:=match mD with|.seq _ (.seq _ (.seq _ (.seq _ (.seq a _))))=>a|_=>.skip
noncomputable def Ahl:Code:=match Pr with|.seq a _=>a|_=>.skip
noncomputable def Sh:Array Oper:=opsOf mR9
noncomputable def Eo:Array Oper:=opsOf Ahk
noncomputable def Kq:Array Oper:=opsOf Ahl
theorem Ag5 {d:Code}(h:R4 Tryz.prog "9" d):d=.region 9 Sh false:=Kh (f:=15) h (by decide) (by kernel_rfl)
theorem Aea {d:Code}(h:R4 Tryz.prog "10" d):d=.region 10 Eo false:=Kh (f:=15) h (by decide) (by kernel_rfl)
theorem Aeb {d:Code}(h:R4 Tryz.prog "12" d):d=.region 12 Kq false:=Kh (f:=15) h (by decide) (by kernel_rfl)
theorem Agj:∃o,Sh[0]?=some o/\o.op=.makeChan 75 (.const (.int .i64 0))/\o.dst=some 48/\o.guard=none:=⟨Sh.getD 0 default,by kernel_rfl,by kernel_rfl,by kernel_rfl,by kernel_rfl⟩
theorem Agk:∃o,Sh[1]?=some o/\o.op=.assign (.tmp 48)/\o.dst=some 12/\o.guard=none:=⟨Sh.getD 1 default,by kernel_rfl,by kernel_rfl,by kernel_rfl,by kernel_rfl⟩
theorem Aem:∃o,Eo[0]?=some o/\o.op=.move (.tmp 12)/\o.dst=some 49/\o.guard=none:=⟨Eo.getD 0 default,by kernel_rfl,by kernel_rfl,by kernel_rfl,by kernel_rfl⟩
theorem Aen:∃o,Eo[1]?=some o/\o.op=.move (.tmp 0)/\o.dst=some 50/\o.guard=none:=⟨Eo.getD 1 default,by kernel_rfl,by kernel_rfl,by kernel_rfl,by kernel_rfl⟩
theorem Aeo:∃o,Eo[2]?=some o/\o.op=.move (.tmp 1)/\o.dst=some 51/\o.guard=none:=⟨Eo.getD 2 default,by kernel_rfl,by kernel_rfl,by kernel_rfl,by kernel_rfl⟩
theorem Aep:∃o,Eo[3]?=some o/\o.op=.move (.tmp 2)/\o.dst=some 52/\o.guard=none:=⟨Eo.getD 3 default,by kernel_rfl,by kernel_rfl,by kernel_rfl,by kernel_rfl⟩
theorem Aeq:∃o,Eo[4]?=some o/\o.op=.move (.tmp 3)/\o.dst=some 53/\o.guard=none:=⟨Eo.getD 4 default,by kernel_rfl,by kernel_rfl,by kernel_rfl,by kernel_rfl⟩
theorem Aer:∃o,Eo[5]?=some o/\o.op=.go { callee:=.value (.func 33),args:=#[.tmp 49,.tmp 50,.tmp 51,.tmp 52,.tmp 53],argTypes:=#[107,23,3,3,3] }/\o.dst=none/\o.guard=none:=⟨Eo.getD 5 default,by kernel_rfl,by kernel_rfl,by kernel_rfl,by kernel_rfl⟩
theorem A9x:∃o,Kq[0]?=some o/\o.op=.recv 75 (.tmp 54) true/\o.dst=some 55/\o.guard=none:=⟨Kq.getD 0 default,by kernel_rfl,by kernel_rfl,by kernel_rfl,by kernel_rfl⟩
theorem Aes:∃o,Kq[1]?=some o/\o.op=.extract (.tmp 55) 1/\o.dst=some 56/\o.guard=none:=⟨Kq.getD 1 default,by kernel_rfl,by kernel_rfl,by kernel_rfl,by kernel_rfl⟩
theorem Agu:Sh.size=2:=by kernel_rfl
theorem Afa:Eo.size=6:=by kernel_rfl
theorem Afb:Kq.size=2:=by kernel_rfl
def O9:Value:=.agg #[.slice none 0 0,.slice none 0 0]
def elemOf:TypeDesc->Nat
 | .chan _ e=>e
 | _=>0
theorem Zo:∃d,Tryz.prog.underlying 75=some (.chan d 78):=by
 have h:(Tryz.prog.underlying 75).map elemOf=some 78:=by kernel_rfl
 cases hu:Tryz.prog.underlying 75 with
 | none=>rw[hu]at h;cases h
 | some x =>
   rw[hu]at h;have h:elemOf x=78:=by simpa using h
   cases x with
   | chan d e =>
     have h:e=78:=h;subst h
     exact⟨d,rfl⟩
   | _=>cases h
theorem A0t:∃i,Tryz.prog.info? 78=some i/\i.zero=some O9/\i.bytes=48:=by
 have h:(Tryz.prog.info? 78).map (fun i=>(i.zero,i.bytes))=some (some O9,48):=by kernel_rfl
 cases hu:Tryz.prog.info? 78 with
 | none=>rw[hu]at h;cases h
 | some x =>
   rw[hu]at h;obtain⟨h1,h2⟩:=Prod.mk.inj (Ajo h)
   exact⟨x,rfl,h1,h2⟩
section
variable {b : Frame} {a : Act} {k : List Item} {cs base : List Frame} {w : World}
theorem A81 (hk:b.kind≠.early):stepG Tryz.prog true (G (b.at a (.inRegion Sh [0,1] :: k)) cs) w=.go (G (b.at (a.put (some 48) (.chan (some w.heap.size))) (.inRegion Sh [1] :: k)) cs) (w.alloc (.chan 0 #[] false 0 0 false)) #[]:=by
 obtain⟨o,ho,hop,hd,hg⟩:=Agj;obtain⟨d,hu⟩:=Zo;obtain⟨i,hi,_,hb⟩:=A0t
 have hr:(execOp a.eval o).run Tryz.prog w=.ok (.value (.chan (some w.heap.size))) (w.alloc (.chan 0 #[] false 0 0 false)):=by
  unfold execOp;simp only[hop];have:=run_makeChan (w:=w) hu hi .i64 0 (by omega) (by rw[hb];omega)
  simp[Act.eval,go_sem]at this ⊢;simp[this]
 have he:(execOp a.eval o).events Tryz.prog w #[]=#[]:=by
  unfold execOp;simp only[hop];have:=events_makeChan (w:=w) hu hi .i64 0 (by omega) (by rw[hb];omega) #[]
  simp[Act.eval,go_sem]at this ⊢;simp[this]
 rw[stepG_value ho (by simp[Region.wanted,hg]) hk hr,hd]
 unfold listed;rw[he,seen_none]
theorem A4c {c:Nat}(hk:b.kind≠.early)(hx:a.eval (.tmp 54)=.chan (some c)):Gt Tryz.prog true base c (.recv O9) (b.at a (.inRegion Kq [0,1] :: k)) cs:=by
 obtain⟨o,ho,hop,hd,hg⟩:=A9x;obtain⟨d,hu⟩:=Zo;obtain⟨i,hi,hz,_⟩:=A0t;intro w
 have hr:(execOp a.eval o).run Tryz.prog w=.ok (.comm #[rcase c O9] true (.recv true)) w:=by
  unfold execOp;simp only[hop,hx];simp[go_sem,zeroValue,typeInfo,Ako hu,hi,hz,rcase]
 have he:(execOp a.eval o).events Tryz.prog w #[]=#[]:=by
  unfold execOp;simp only[hop,hx];simp[go_sem,Ako hu]
 rw[stepG_comm (cases:=#[rcase c O9]) (blocking:=true) (shape:=.recv true) (w':=w) ho (by simp[Region.wanted,hg]) hk hr]
 unfold listed;rw[he,seen_none]
 rfl
theorem Tx {v x:Value}(h:a.eval (.tmp 55)=.tuple #[v,x]){o:Oper}(hop:o.op=.extract (.tmp 55) 1):Co.Yields Tryz.prog a o x:=fun w=>by
 constructor
 ·unfold execOp;simp only[hop,h];simp[go_sem,Instr.extract]
 ·unfold execOp;simp only[hop,h];simp[go_sem,Instr.extract]
theorem Ad4 (hk:b.kind≠.early):stepG Tryz.prog true (G (b.at a (.inRegion Eo [5] :: k)) cs) w=.spawn (G (b.at a (.inRegion Eo [] :: k)) cs) (G (Zh #[a.eval (.tmp 49),a.eval (.tmp 50),a.eval (.tmp 51),a.eval (.tmp 52),a.eval (.tmp 53)]) []) w #[]:=by
 obtain⟨o,ho,hop,hd,hg⟩:=Aer;have ef:a.eval (.func 33)=.func (.func 33) #[] #[]:=rfl
 have hr:(execOp a.eval o).run Tryz.prog w=.ok (.spawn ⟨.fn (.func 33) #[],#[a.eval (.tmp 49),a.eval (.tmp 50),a.eval (.tmp 51),a.eval (.tmp 52),a.eval (.tmp 53)]⟩) w:=by
  unfold execOp;simp[hop,resolve,Deferred.ofValue,ef]
 have he:(execOp a.eval o).events Tryz.prog w #[]=#[]:=by
  unfold execOp;simp[hop,resolve,Deferred.ofValue,ef]
 rw[stepG_spawn ho (by simp[Region.wanted,hg]) hk hr rfl,hd]
 unfold listed;rw[he,seen_none]
 rfl
end
end
end Go.Proofs.YtlfleicchbgcmaaGreat
