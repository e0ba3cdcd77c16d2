import Derived.Test.YtjaehldnlamgkaaGreatDoorXe15
import Derived.Conc.Walk
import Derived.Conc.DeferLaws
import Derived.Conc.Quits
import Derived.Conc.SmallLaws
import Derived.Conc.Comm2
import Derived.Test.YtjaehldnlamgkaaGreatDoorXe0
import Derived.Test.YtjaehldnlamgkaaGreatDoorXeK
set_option linter.all false
set_option maxHeartbeats 16000000
set_option maxRecDepth 100000
namespace Go.Proofs.YtjaehldnlamgkaaGreatDoor
section
open Go.RowKit Go.Conc Co Ok Lr Tl Bar
theorem Jt {P:Program}{why:String}{d:Code}{f id:Nat}{ops:Array Oper}(h:Rc P why d)(ht:∀k∈M8,∀i∈k.2,A6q i=why->k.1=f/\i=id)(hr:(I7 (Gi P f)).filter (fun r=>r.1 == id)=[(id,ops,false)]):d=.region id ops false:=by
 obtain⟨k,hk,r,hrm,hi,hw,rfl⟩:=h;have hi':r.1∈k.2:=by simpa using hi
 obtain⟨e1,e2⟩:=ht k hk r.1 hi' hw.symm;rw[e1]at hrm;have:r∈(I7 (Gi P f)).filter (fun r=>r.1 == id):=List.mem_filter.2 ⟨hrm,by simp[e2]⟩
 rw[hr]at this;rw[Ap6]at this;rw[this]
noncomputable def opsOf:Code->Array Oper
 | .region _ ops _=>ops
 | _=>#[]
noncomputable def Uy:Array Oper:=opsOf sR0
noncomputable def K6:Array Oper:=opsOf Alo
theorem Ajh {d:Code}(h:Rc Tryz.prog "0" d):d=.region 0 Uy false:=Jt (f:=45) h (by decide) (by kernel_rfl)
theorem Ags {d:Code}(h:Rc Tryz.prog "13" d):d=.region 13 K6 false:=Jt (f:=45) h (by decide) (by kernel_rfl)
section
variable {X : Cx} {B : Lk}
theorem Aig {s:List Item}(h:Ri X X.K B [] s):s=[]:=by cases h;rfl
theorem Kz {why:String}{k s:List Item}(h:Ri X X.K B (.code (.refuse why) :: k) s)(hn:¬8<why.length):∃d k',s=.code d :: k'/\X.R why d/\Ri X X.K B k k':=by
 cases h with
 | cons h hk =>
   cases h with
   | code hc=>exact⟨_,_,rfl,hc.resolve_left hn,hk⟩
theorem Gm {b:Frame}{a:Act}{s:List Item}{fr:Frame}(h:Dj X B (b.at a s) fr):fr=fr.at ⟨fr.tmps,fr.defers⟩ fr.todo/\AR X B a.tmps fr.tmps/\Rf X B a.defers fr.defers/\Ri X X.K B s fr.todo/\fr.kind=b.kind/\fr.fn=b.fn:=by
 refine⟨Aau ?_ ?_,h.tmps,h.defers,h.todo,h.kind,h.fn⟩
 ·have:=h.mode;generalize fr.mode=q at this
  cases this
  rfl
 ·have:=h.roundOf;generalize fr.roundOf=q at this
  cases this
  rfl
theorem E3 {b b':Frame}{a a':Act}{s s':List Item}(h1:AR X B a.tmps a'.tmps)(h2:Rf X B a.defers a'.defers)(h3:Ri X X.K B s s')(h4:b'.kind=b.kind)(h5:b'.fn=b.fn):Dj X B (b.at a s) (b'.at a' s') :=
 ⟨h5,h1,h3,h2,.run,h4,.none⟩
theorem Vn {p p':Array Value}(h:AR X B p p'){i:Nat}{v:Value}(hv:p[i]?=some v):∃v',p'[i]?=some v'/\VR X B v v':=by
 rcases h.get i with⟨x,x',h1,h2,h3⟩ |⟨h1,_⟩
 ·rw[hv]at h1;cases h1;exact⟨x',h2,h3⟩
 ·rw[hv]at h1;cases h1
theorem Gh {a a':Act}(h:AR X B a.tmps a'.tmps)(d:Option Nat){v v':Value}(hv:VR X B v v'):AR X B (a.put d v).tmps (a'.put d v').tmps:=by
 cases d with
 | none=>exact h
 | some d=>exact h.set d hv
theorem Uh {V W:World}(hw:WR X B V W){b b':Nat}(hb:B b b')(hd:¬X.D b){C:Array Value}{t:TypeId}(h:V.heap[b]?=some (.cells C t (0,0)))(hs:0<C.size):¬X.F b/\∃C',W.heap[b']?=some (.cells C' t (0,0))/\AR X B C C':=by
 have hf:¬X.F b:=fun f=>by
  obtain⟨c,c',t1,t2,g,h1,_⟩:=hw.Hj b b' hb hd f;rw[h]at h1;injection h1 with h1
  injection h1 with h1 _ h2
  subst h1;injection h2 with _ h2
  omega
 refine⟨hf,?_⟩
 obtain⟨o,o',h1,h2,h3⟩:=hw.live b b' hb hd hf;rw[h]at h1
 cases h1
 cases h3 with
 | cells t f a=>exact⟨_,h2,a⟩
theorem Qw {p p':Array Value}(h:AR X B p p')(hf:∀v∈p,(∃x,v=Db x)\/∃x,v=By x):p'=p:=by
 apply Ank
 intro i
 rcases h.get i with⟨x,x',h1,h2,h3⟩ |⟨h1,h2⟩
 ·rw[h1,h2]
  rcases hf x (Amp h1)with⟨y,rfl⟩ |⟨y,rfl⟩<;>(cases h3;rfl)
 ·rw[h1,h2]
end
def bS:Frame:={ (default:Frame)with fn:=45,kind:=.deferred }
noncomputable def D9:Frame:={ (default:Frame)with fn:=Tryz.prog.funcs.size,defers:=[],mode:=.panicking [goexitEntry] }
noncomputable def F5 (c:Nat):Deferred:={ target:=.builtin .close #[138] ((Uy.getD 1 default).type) #[false],args:=#[.chan (some c)] }
noncomputable def Xs (c:Nat)(F:Nat->Prop):Cx:=cx Vp.prog phs (Rc Tryz.prog) (fun b=>b=c) F
theorem L0 (c:Nat)(F:Nat->Prop):Whole (Xs c F) Vp.prog Tryz.prog:=whole _ _ _
def Zn (n:Nat)(st:Nat->Nat->Int)(sm:Nat->Nat->Nat)(i:Nat)(v:Value)(R':Nat->Prop)(W:World):Prop :=
 ∃sb mb f g,v=.agg #[.slice (some ⟨sb,0,none⟩) n n,.slice (some ⟨mb,0,none⟩) n n]/\sb≠mb /\(∀x,R' x↔x=sb\/x=mb) /\
  W.heap[sb]?=some (.cells (((List.range n).map (sm i)).map Db).toArray 87 f)/\W.heap[mb]?=some (.cells (((List.range n).map (st i)).map By).toArray 3 g)
def Pb (c n:Nat)(st:Nat->Nat->Int)(sm:Nat->Nat->Nat):Nat ->(Nat->Prop) ->(Nat->Prop)->Frame->List Frame->World->Prop
 | 0,L,R,fr,cs,W=>Co Tryz.prog false [] R (fun _ fr cs _=>Closes Tryz.prog [] c fr cs) L fr cs W
 | k + 1,L,R,fr,cs,W=>Co Tryz.prog false [] R (fun L fr cs W=>∃v z,G4 Tryz.prog false [] c (.send v z) fr cs/\∃R',Zn n st sm (n-(k+1)) v R' W /\(∀x,R' x->L x) /\
     ∀W2,Aw (fun x=>L x/\¬R' x) (fun x=>R x\/R' x) W W2->Pb c n st sm k (fun x=>L x/\¬R' x) (fun x=>R x\/R' x) (fr.finish undef) cs W2) L fr cs W
theorem Ah9:∃o,K6[0]?=some o/\o.op=.move (.tmp 0)/\o.dst=some 58/\o.guard=none:=⟨K6.getD 0 default,by kernel_rfl,by kernel_rfl,by kernel_rfl,by kernel_rfl⟩
theorem Aha:∃o,K6[1]?=some o/\o.op=.load 91 (.tmp 11)/\o.dst=some 59/\o.guard=none:=⟨K6.getD 1 default,by kernel_rfl,by kernel_rfl,by kernel_rfl,by kernel_rfl⟩
theorem Ahb:∃o,K6[2]?=some o/\o.op=.send (.tmp 58) (.tmp 59)/\o.dst=none/\o.guard=none:=⟨K6.getD 2 default,by kernel_rfl,by kernel_rfl,by kernel_rfl,by kernel_rfl⟩
theorem Ai2:K6.size=3:=by kernel_rfl
theorem Akc:∃o,Uy[0]?=some o/\o.op=.move (.tmp 0)/\o.dst=some 16/\o.guard=none:=⟨Uy.getD 0 default,by kernel_rfl,by kernel_rfl,by kernel_rfl,by kernel_rfl⟩
theorem Akd:∃o,Uy[1]?=some o/\o.op=.defer { callee:=.builtin .close,args:=#[.tmp 16],argTypes:=#[138] }/\o.type=(Uy.getD 1 default).type/\o.dst=none/\o.guard=none:=⟨Uy.getD 1 default,by kernel_rfl,by kernel_rfl,rfl,by kernel_rfl,by kernel_rfl⟩
theorem Akr:Uy.size=2:=by kernel_rfl
theorem Abd {w:World}{rb:Nat}{x y:Value}(h0:w.cell? ⟨rb,0,none⟩=some x)(h1:w.cell? ⟨rb,1,none⟩=some y){a:Act}{o:Oper}(hop:o.op=.load 91 (.tmp 11))(ha:a.eval (.tmp 11)=.pointer (some ⟨rb,0,none⟩)) :
 (execOp a.eval o).run Tryz.prog w=.ok (.value (.agg #[x,y])) w/\∀e∈(execOp a.eval o).events Tryz.prog w #[],∃ad:Addr,e=⟨.cell ad,false,false⟩/\ad.block=rb:=by
 have e1:execOp a.eval o=(do pure (.value (<-Instr.loadAt 91 (a.eval (.tmp 11))))):=by unfold execOp;simp only[hop]
 rw[e1,ha]
 constructor
 ·simp[go_sem,h0,h1]
 ·intro e he;simp[go_sem,h0,h1]at he
  rcases he with rfl|rfl
  ·exact⟨_,rfl,rfl⟩
  ·exact⟨_,rfl,rfl⟩
end
section
open Go.RowKit Go.Conc Co Ok Lr Tl Bar
theorem Zq {n:Nat}{w W:World}(h:Below n w W)(τ:Tape)(d:Nat):Below n { w with tape:=τ,drawn:=d } { W with tape:=τ,drawn:=d }:=⟨h.os,rfl,h.output,h.size,h.block⟩
theorem Hz {w W:World}{b:Nat}{C:Array Value}{T:TypeId}(h:A7 w b C T W)(τ:Tape)(d:Nat):A7 { w with tape:=τ,drawn:=d } b C T { W with tape:=τ,drawn:=d }:=⟨h.blk,Zq h.old τ d⟩
theorem Abw {w W:World}{rb cap N M gs gm:Nat}{xs:List Nat}{ys:List Int}(h:RW w rb cap N M gs gm xs ys W)(τ:Tape)(d:Nat):RW { w with tape:=τ,drawn:=d } rb cap N M gs gm xs ys { W with tape:=τ,drawn:=d }:=⟨Hz h.R τ d,h.S,h.M,h.hr⟩
theorem A0r {ch:Value}{cx cy d n:Nat}{A6:Int}{st:Nat->Nat->Int}{sm:Nat->Nat->Nat}{ds:List Deferred}{i:Nat}(t:List Item)(a:Act)(W:World)(τ:Tape)(k:Nat)(h:HS ch cx cy d n A6 st sm ds i t a W):HS ch cx cy d n A6 st sm ds i t a { W with tape:=τ,drawn:=k }:=by
 rcases h with⟨h1,h2,w,rb,gs,gm,g1,g2,g3,g4,g5,g6,g7,g8,g9,g10,g11⟩|h
 ·exact .inl ⟨h1,h2,{ w with tape:=τ,drawn:=k },rb,gs,gm,g1,g2,g3,g4,g5,g6,g7,g8,g9,g10,Abw g11 τ k⟩
 ·exact .inr h
def WH (X:Cx)(B:Lk)(H:Array Obj)(W:World):Prop:=∃V:World,V.heap=H/\WR X B V W
section
variable {X : Cx} {B : Lk} {H : Array Obj} {W W2 : World}
theorem WH.rely (h:WH X B H W)(hr:Aw (Ew X B) (Jj X B) W W2):WH X B H W2:=by
 obtain⟨V,rfl,hw⟩:=h
 exact⟨{ V with tape:=W2.tape,drawn:=W2.drawn },rfl,Gc hw hr⟩
theorem WH.hot (h:WH X B H W):∀b,Ew X B b->b<W.heap.size:=by
 obtain⟨V,rfl,hw⟩:=h;rintro b ⟨a,h1,_⟩
 exact hw.ltW h1
theorem WH.cells (h:WH X B H W){b b':Nat}(hb:B b b')(hd:¬X.D b){C:Array Value}{t:TypeId}(hc:H[b]?=some (.cells C t (0,0)))(hs:0<C.size):¬X.F b/\∃C',W.heap[b']?=some (.cells C' t (0,0))/\AR X B C C':=by
 obtain⟨V,rfl,hw⟩:=h
 exact Uh hw hb hd hc hs
end
theorem Nk {W:World}{B:Nat}{e:TypeId}{g n:Nat}{xs:List Value}(h:W.ownsRow B e 1 (.slice (some ⟨g,0,none⟩) n n) n xs):W.heap[g]?=some (.cells xs.toArray e (0,0)):=by
 obtain⟨hl,h |⟨g',cap,cur,hv,_,hg,_,_,hs,ht⟩⟩:=h
 ·cases h.1
 ·cases hv
  rw[hg];have:cur.toList.take (n*1)=cur.toList:=Aom (by simp[hs])
  rw[this]at ht;have e:cur=xs.toArray:=by rw[<-ht]
  rw[e]
theorem Ca {a:Act}{d j:Nat}{v:Value}(h:d≠j):(a.put (some d) v).tmps[j]?=a.tmps[j]?:=Alz h
theorem E9 {a:Act}{d:Option Nat}{v:Value}:(a.put d v).tmps.size=a.tmps.size:=by cases d<;>simp[Act.put]
def Afq (c cx cy d n:Nat)(A6:Int)(i:Nat)(L R:Nat->Prop)(fr:Frame)(cs:List Frame)(W:World):Prop :=
 ∃(B:Lk) (H:Array Obj) (F:Nat->Prop) (a a':Act) (b':Frame) (k':List Item) (ops:Array Oper),cs=[]/\fr=b'.at a' (.inRegion ops [] :: k')/\WH (Xs c F) B H W/\Dj (Xs c F) B (bS.at a [.inBlock 1,.code A4p,.inLoop sX,.inBlock 0]) (b'.at a' k') /\
  L=Ew (Xs c F) B/\R=Jj (Xs c F) B/\B c c/\SA (.chan (some c)) cx cy d n A6 i a/\a.defers=[F5 c]
theorem N7 (c:Nat)(F F':Nat->Prop):Lr.Alike (Xs c F) (Xs c F'):=⟨rfl,rfl,rfl,rfl,rfl,rfl,rfl,rfl,rfl,rfl,rfl,rfl,rfl,rfl,rfl⟩
theorem WH.freeze {c:Nat}{F F':Nat->Prop}{B:Lk}{H:Array Obj}{W:World}(h:WH (Xs c F) B H W){s s':Nat}(hs:B s s')(hd:s≠c){C:Array Value}{t:TypeId}{f:Nat×Nat}(hv:H[s]?=some (.cells C t f))(hF:∀b,F' b↔F b\/b=s):WH (Xs c F') B (H.setIfInBounds s (.cells C t (0,C.size))) W:=by
 obtain⟨V,rfl,hw⟩:=h
 exact⟨_,rfl,A9o (N7 c F F') hw hs hd hv hF⟩
theorem A5d {c:Nat}{b:Frame}{a:Act}{k:List Item}{cs base:List Frame}{v:Value}(hk:b.kind≠.early)(hx:a.eval (.tmp 58)=.chan (some c))(hy:a.eval (.tmp 59)=v):G4 Tryz.prog false base c (.send v (.tuple #[])) (b.at a (.inRegion K6 [2] :: k)) cs:=by
 obtain⟨o,ho,hop,hd,hg⟩:=Ahb;intro w;rw[stepG_comm (cases:=#[scase c v (.tuple #[])]) (blocking:=true) (shape:=.send) (w':=w) ho (by simp[Region.wanted,hg]) hk (by unfold execOp;simp only[hop];rw[hx,hy];rfl)]
 have he:(execOp a.eval o).events Tryz.prog w #[]=#[]:=by unfold execOp;simp only[hop];rfl
 unfold listed;rw[he,seen_none]
 rfl
theorem Abz {c cx cy d n i:Nat}{A6:Int}{st:Nat->Nat->Int}{sm:Nat->Nat->Nat}(hn:0<n){B:Lk}{F:Nat->Prop}{V w0 W:World}{fr:Frame}{a:Act}(hw:WR (Xs c F) B V W)
 (hf:Dj (Xs c F) B (bS.at a [.code (.refuse "13"), .inBlock 1,.code A4p,.inLoop sX,.inBlock 0]) fr) (hcc:B c c) (hR:Ade (.chan (some c)) cx cy d n A6 st sm [F5 c] w0 i a V) :
 Co Tryz.prog false [D9] (Jj (Xs c F) B) (fun L fr cs W=>∃v z,G4 Tryz.prog false [D9] c (.send v z) fr cs/\∃R',Zn n st sm i v R' W /\(∀x,R' x->L x) /\
  ∀W2,Aw (fun x=>L x/\¬R' x) (fun x=>Jj (Xs c F) B x\/R' x) W W2->Afq c cx cy d n A6 i (fun x=>L x/\¬R' x) (fun x=>Jj (Xs c F) B x\/R' x) (fr.finish undef) cs W2) (Ew (Xs c F) B) fr [] W:=by
 obtain⟨rb,gs,gm,g1,g2,g3,g4,g5,g6,g7,g8,g9,g10,g11⟩:=hR;obtain⟨e1,har,hds,htd,hk,hfn⟩:=Gm hf;obtain⟨d13,k',etd,hd13,hk'⟩:=Kz htd (by decide)
 obtain rfl:=Ags hd13;rw[etd]at e1;rw[e1];have hke:fr.kind≠.early:=by rw[hk];simp[bS]
 have hbox:=g11.R.blk;have hsb:=Nk g11.S;have hmb:=Nk g11.M;have hH0:WH (Xs c F) B V.heap W:=⟨V,rfl,hw⟩;generalize V.heap=H at hbox hsb hmb hH0;obtain⟨v0,t0,r0⟩:=Vn har g3;obtain⟨v11,t11,r11⟩:=Vn har g10;have hfnB:∀b b₁ b₂,B b b₁->B b b₂->b₁=b₂:=hw.fn;have hinj:∀b₁ b₂ b',B b₁ b'->B b₂ b'->b₁=b₂:=hw.inj
 have e0:v0=.chan (some c):=by
  cases r0 with
  | chan h=>rw[hfnB _ _ _ h hcc]
 subst e0
 obtain⟨rb',hrb,hrbD,e11⟩:∃rb',B rb rb'/\rb≠c/\v11=.pointer (some ⟨rb',0,none⟩):=by
  cases r11 with
  | @ptr _ ad h =>
    obtain⟨⟨h1,h2⟩,⟨h3,_⟩,h4⟩:=h;obtain⟨x,y,z⟩:=ad;dsimp only at h1 h3 h4;subst h3 h4
    exact⟨x,h1,h2,rfl⟩
 subst e11;clear r0 r11;obtain⟨hF1,C1,w1,a1⟩:=hH0.cells hrb hrbD hbox (by simp)
 obtain⟨x0,c0,r0⟩:=Vn a1 (i:=0) (v:=.slice (some ⟨gs,0,none⟩) n n) rfl;obtain⟨x1,c1,r1⟩:=Vn a1 (i:=1) (v:=.slice (some ⟨gm,0,none⟩) n n) rfl
 obtain⟨sb,hsB,hsD,e2⟩:∃sb,B gs sb/\gs≠c/\x0=.slice (some ⟨sb,0,none⟩) n n:=by
  cases r0 with
  | @slice _ ad _ _ h =>
    obtain⟨⟨h1,h2⟩,⟨h3,_⟩,h4⟩:=h;obtain⟨x,y,z⟩:=ad;dsimp only at h1 h3 h4;subst h3 h4
    exact⟨x,h1,h2,rfl⟩
 subst e2
 obtain⟨mb,hmB,hmD,e3⟩:∃mb,B gm mb/\gm≠c/\x1=.slice (some ⟨mb,0,none⟩) n n:=by
  cases r1 with
  | @slice _ ad _ _ h =>
    obtain⟨⟨h1,h2⟩,⟨h3,_⟩,h4⟩:=h;obtain⟨x,y,z⟩:=ad;dsimp only at h1 h3 h4;subst h3 h4
    exact⟨x,h1,h2,rfl⟩
 subst e3
 have hgne:gs≠gm:=fun e=>by
  subst e;rw[hsb]at hmb;injection hmb with h
  injection h with _ h _
  cases h
 have hrbHot:Ew (Xs c F) B rb':=⟨rb,hrb,hrbD,hF1⟩;have hsize:fr.tmps.size=61:=by rw[<-har.1];exact g1
 obtain⟨o0,ho0,hop0,hdst0,hg0⟩:=Ah9;obtain⟨o1,ho1,hop1,hdst1,hg1⟩:=Aha
 refine Co.region hH0.hot fun W1 hr1=>?_
 rw[Ai2];have hH1:=hH0.rely hr1;have w1':W1.heap[rb']?=_:=(hr1.2.1 rb' (.inl hrbHot)).trans w1
 refine Co.val ho0 hg0 hke (Dv hop0) hH1.hot fun W2 hr2=>?_
 have hH2:=hH1.rely hr2;have w2:W2.heap[rb']?=_:=(hr2.2.1 rb' (.inl hrbHot)).trans w1';have ev0:Act.eval ⟨fr.tmps,fr.defers⟩ (.tmp 0)=.chan (some c):=by simp[Act.eval,Amf,t0]
 rw[ev0,hdst0];have hval:∀W3:World,W3.heap[rb']?=some (.cells C1 91 (0,0))->W3.cell? ⟨rb',0,none⟩=some (.slice (some ⟨sb,0,none⟩) n n)/\W3.cell? ⟨rb',1,none⟩=some (.slice (some ⟨mb,0,none⟩) n n):=fun W3 h=>⟨by simp[World.cell?,h,c0],by simp[World.cell?,h,c1]⟩
 have ev11:Act.eval (Act.put ⟨fr.tmps,fr.defers⟩ (some 58) (.chan (some c))) (.tmp 11)=.pointer (some ⟨rb',0,none⟩):=by
  simp[Act.eval,Act.put,Amf,Am4,t11]
 refine Co.step (L1:=fun _=>Ew (Xs c F) B) (fr1:=fr.at (Act.put (Act.put ⟨fr.tmps,fr.defers⟩ (some 58) (.chan (some c))) (some 59) (.agg #[.slice (some ⟨sb,0,none⟩) n n,.slice (some ⟨mb,0,none⟩) n n])) (.inRegion K6 [2] :: k')) (cs1:=[]) id (fun W3=>listed Tryz.prog fr.fn (Act.put ⟨fr.tmps,fr.defers⟩ (some 58) (.chan (some c))) o1 W3) (fun W3 hr3=>?_) fun W3 hr3=>?_
 ·have w3:W3.heap[rb']?=_:=(hr3.2.1 rb' (.inl hrbHot)).trans w2;obtain⟨h0,h1⟩:=hval W3 w3;obtain⟨l1,l2⟩:=Abd h0 h1 hop1 ev11
  refine⟨?_,Aah (hH2.rely hr3).hot fun e he=>?_⟩
  ·have:=stepG_value (P:=Tryz.prog) (main:=false) (b:=fr) (k:=k') (cs:=[]++[D9]) (rest:=[2]) ho1 (by simp[Region.wanted,hg1]) hke l1
   rw[hdst1]at this
   exact this
  ·obtain⟨ad,rfl,hb⟩:=l2 e (mem_listed he)
   exact⟨rfl,.inl (hb▸hrbHot)⟩
 ·have hH3:=hH2.rely hr3;obtain⟨hFS,CS,wS,aS⟩:=hH3.cells hsB hsD hsb (by simpa using hn)
  obtain⟨hFM,CM,wM,aM⟩:=hH3.cells hmB hmD hmb (by simpa using hn)
  have hS:∀v∈((((List.range n).map (sm i)).map Db).toArray:Array Value),(∃x,v=Db x)\/∃x,v=By x:=fun v hv=>by
   rw[An4,Anp]at hv;obtain⟨x,_,rfl⟩:=hv
   exact .inl ⟨x,rfl⟩
  have hM:∀v∈((((List.range n).map (st i)).map By).toArray:Array Value),(∃x,v=Db x)\/∃x,v=By x:=fun v hv=>by
   rw[An4,Anp]at hv;obtain⟨x,_,rfl⟩:=hv
   exact .inr ⟨x,rfl⟩
  have hsm:sb≠mb:=fun e=>by
   subst e
   exact hgne (hinj _ _ _ hsB hmB)
  refine .stop ⟨.agg #[.slice (some ⟨sb,0,none⟩) n n,.slice (some ⟨mb,0,none⟩) n n],.tuple #[],A5d hke ?_ ?_,fun x=>x=sb\/x=mb,?_,?_,fun W4 hr4=>?_⟩
  ·simp[Act.eval,Act.put,Amf,Am4,hsize]
  ·simp[Act.eval,Act.put,Amf,Am4,hsize]
  ·exact⟨sb,mb,(0,0),(0,0),rfl,hsm,fun _=>.rfl,(Qw aS hS)▸wS,(Qw aM hM)▸wM⟩
  ·rintro x (rfl|rfl)
   ·exact⟨gs,hsB,hsD,hFS⟩
   ·exact⟨gm,hmB,hmD,hFM⟩
  ·have k1:=hH3.freeze (F':=fun b=>F b\/b=gs) hsB hsD hsb (fun _=>.rfl)
   have k2:=k1.freeze (F':=fun b=>(F b\/b=gs)\/b=gm) hmB hmD (by rw[Am4,Amd hgne];exact hmb) (fun _=>.rfl)
   have eL:(fun x=>Ew (Xs c F) B x/\¬(x=sb\/x=mb))=Ew (Xs c fun b=>(F b\/b=gs)\/b=gm) B:=by
    funext x
    apply propext
    constructor
    ·rintro⟨⟨b,h1,h2,h3⟩,h4⟩
     refine⟨b,h1,h2,?_⟩
     rintro((h|rfl)|rfl)
     ·exact h3 h
     ·exact h4 (.inl (hfnB _ _ _ h1 hsB))
     ·exact h4 (.inr (hfnB _ _ _ h1 hmB))
    ·rintro⟨b,h1,h2,h3⟩
     refine⟨⟨b,h1,h2,fun h=>h3 (.inl (.inl h))⟩,?_⟩
     rintro(rfl|rfl)
     ·exact h3 (.inl (.inr (hinj _ _ _ h1 hsB)))
     ·exact h3 (.inr (hinj _ _ _ h1 hmB))
   have eR:(fun x=>Jj (Xs c F) B x \/(x=sb\/x=mb))=Jj (Xs c fun b=>(F b\/b=gs)\/b=gm) B:=by
    funext x
    apply propext
    constructor
    ·rintro(⟨b,h1,h2,h3⟩|rfl|rfl)
     ·exact⟨b,h1,h2,.inl (.inl h3)⟩
     ·exact⟨gs,hsB,hsD,.inl (.inr rfl)⟩
     ·exact⟨gm,hmB,hmD,.inr rfl⟩
    ·rintro⟨b,h1,h2,(h|rfl)|rfl⟩
     ·exact .inl ⟨b,h1,h2,h⟩
     ·exact .inr (.inl (hfnB _ _ _ h1 hsB))
     ·exact .inr (.inr (hfnB _ _ _ h1 hmB))
   rw[eL,eR]at hr4 ⊢
   refine⟨B,_,_,Act.put (Act.put a (some 58) (.chan (some c))) (some 59) (.agg #[.slice (some ⟨gs,0,none⟩) n n,.slice (some ⟨gm,0,none⟩) n n]),_,fr,k',K6,rfl,rfl,k2.rely hr4,?_,rfl,rfl,hcc,?_,g2⟩
   ·refine Dj.cx (N7 c F _) (E3 (Gh (Gh har (some 58) (.chan hcc)) (some 59) (.agg rfl fun j v v' hv hv'=>?_)) hds hk' hk hfn)
    match j with
    | 0=>cases hv;cases hv';exact .slice _ _ ⟨⟨hsB,hsD⟩,⟨rfl,Amu _⟩,rfl⟩
    | 1=>cases hv;cases hv';exact .slice _ _ ⟨⟨hmB,hmD⟩,⟨rfl,Amu _⟩,rfl⟩
    | j+2=>cases hv
   ·refine⟨?_,?_,?_,?_,?_,?_,?_,?_⟩
    ·rw[E9,E9];exact g1
    all_goals rw[Ca (by decide),Ca (by decide)]
    ·exact g3
    ·exact g4
    ·exact g5
    ·exact g6
    ·exact g7
    ·exact g8
    ·exact g9
end
section
open Go.RowKit Go.Conc Co Ok Lr Tl Bar
theorem Wc:∃fn,Tryz.prog.funcs[45]?=some fn/\fn.results=#[]/\fn.norace=false:=⟨_,Tryz.func45,by kernel_rfl,by kernel_rfl⟩
theorem A59 {c s r:Nat}{tm:Bool}{cs:List Frame}{b:Frame}{a:Act}{todo:List Item}{ds:List Deferred}{w:World}(hb:b.fn=45)(hd:a.defers=F5 c :: ds)(hc:w.heap[c]?=some (.chan 0 #[] false s r tm)) :
 stepG Tryz.prog false (G { b.at a todo with mode:=.returning } cs) w=.go (G { b.at ⟨a.tmps,ds⟩ todo with mode:=.returning } cs) (w.shut c s r tm) #[⟨.obj c,false,true⟩,⟨.obj c,true,true⟩]:=by
 obtain⟨fn,hf,_,hq⟩:=Wc
 have hs:seen Tryz.prog b.fn #[⟨.obj c,false,true⟩,⟨.obj c,true,true⟩]=#[⟨.obj c,false,true⟩,⟨.obj c,true,true⟩] :=
  seen_eq (by rw[hb,hf];simpa using hq) (by intro e he f;simp only[An4,An7,An6,Ap5]at he;rcases he with rfl|rfl<;>simp)
 unfold F5 at hd;generalize (Uy.getD 1 default).type=ty at hd
 have hi:(invoke (.builtin .close #[138] ty #[false]) #[.chan (some c)]).run Tryz.prog w=.ok (.value (.tuple #[])) (w.shut c s r tm):=by
  simp[invoke,builtin,go_sem,run_close_open _ _ hc,World.shut]
 have he:(invoke (.builtin .close #[138] ty #[false]) #[.chan (some c)]).events Tryz.prog w #[]=#[⟨.obj c,false,true⟩,⟨.obj c,true,true⟩]:=by
  simp[invoke,builtin,go_sem,events_close_open _ _ hc]
 simp[G,stepG,unwind,callDeferred,Frame.at,hd,hi,he,GStep.after,hs]
theorem A5a {b:Frame}{a:Act}{todo:List Item}{w:World}(hb:b.fn=45)(hk:b.kind=.deferred)(hd:a.defers=[]) :
 stepG Tryz.prog false (G { b.at a todo with mode:=.returning } [D9]) w=.go (G D9 []) w #[]:=by
 obtain⟨fn,hf,hr,_⟩:=Wc;simp[G,stepG,unwind,doReturn,results,Frame.at,hb,hk,hd,hf,hr,D9,GStep.after,seen_none,goexitEntry]
theorem A9e {w:World}:stepG Tryz.prog false (G D9 []) w=.go { G D9 []with status:=.finished } w #[]:=by
 simp[G,stepG,unwind,D9,goexitEntry,Frame.catches,GStep.after,seen_none]
 rfl
theorem A01 {c:Nat}{b:Frame}{a:Act}{todo:List Item}(hb:b.fn=45)(hk:b.kind=.deferred)(hd:a.defers=[F5 c]):Closes Tryz.prog [] c { b.at a todo with mode:=.returning } [D9]:=by
 refine⟨by simp[mayWake,G,Frame.at],G { b.at ⟨a.tmps,[]⟩ todo with mode:=.returning } [D9],2,fun w s r tm hc=>A59 hb hd hc,?_⟩
 refine .inr ⟨rfl,G D9 [],fun w=>A5a hb hk rfl,.inr ⟨rfl,{ G D9 []with status:=.finished },fun w=>A9e,rfl⟩⟩
theorem Zz {X:Cx}{B:Lk}{c:Nat}{l:List Deferred}(hfn:∀b b₁ b₂,B b b₁->B b b₂->b₁=b₂)(hcc:B c c)(h:Rf X B [F5 c] l):l=[F5 c]:=by
 cases h with
 | @cons _ d' _ l' _ h1 h2 =>
   cases h2
   obtain⟨t,p⟩:=d';obtain⟨h1,h2⟩:=h1;dsimp only at h1 h2
   have e1:t=(F5 c).target:=by
    unfold F5 at h1 ⊢;dsimp only at h1 ⊢
    cases h1
    rfl
   have e2:p=#[.chan (some c)]:=by
    apply Ank
    intro i
    rcases h2.get i with⟨x,x',g1,g2,g3⟩ |⟨g1,g2⟩
    ·match i with
     | 0 =>
       cases g1
       rw[g2]
       cases g3 with
       | chan g=>rw[hfn _ _ _ g hcc];rfl
     | i+1=>cases g1
    ·rw[g2]
     match i with
     | 0=>cases g1
     | i+1=>rfl
   rw[e1,e2]
   rfl
theorem Y5 {X:Cx}{B0 B:Lk}{V W:World}{m:Nat}(hw:WR X B0 V W)(hg:Gr V.heap.size m B0 B):Jj X B=Jj X B0:=by
 funext x
 apply propext
 constructor
 ·rintro⟨b,h1,h2,h3⟩
  rcases hg.2 b x h1 with h |⟨h,_⟩
  ·exact⟨b,h,h2,h3⟩
  ·exact absurd (hw.Qo b h3) (Nat.not_lt.2 h)
 ·rintro⟨b,h1,h2,h3⟩
  exact⟨b,hg.1 b x h1,h2,h3⟩
section
variable {cx cy d n : Nat} {A6 : Int} {px py : Nat -> Nat -> Nat} {bx : Nat -> Nat -> Value} {st : Nat -> Nat -> Int} {sm : Nat -> Nat -> Nat} {c : Nat}
def Agg (c cx cy d n:Nat)(A6:Int)(st:Nat->Nat->Int)(sm:Nat->Nat->Nat)(i:Nat)(R L:Nat->Prop)(fr:Frame)(cs:List Frame)(W:World):Prop :=
 ∃(B:Lk) (F:Nat->Prop) (V:World) (a:Act) (t:List Item),cs=[]/\WR (Xs c F) B V W/\Dj (Xs c F) B (bS.at a t) fr/\HS (.chan (some c)) cx cy d n A6 st sm [F5 c] i t a V/\B c c/\L=Ew (Xs c F) B/\R=Jj (Xs c F) B
theorem A6p {F:Nat->Prop}{B:Lk}{V W:World}{fr:Frame}{a:Act}{s:List Item}{i:Nat}(hw:WR (Xs c F) B V W)(hf:Dj (Xs c F) B (bS.at a s) fr)(hcc:B c c)(hd:a.defers=[F5 c])
 (h:∀w,HW Vp.prog s (HS (.chan (some c)) cx cy d n A6 st sm a.defers i) a w):Co Tryz.prog false [D9] (Jj (Xs c F) B) (Agg c cx cy d n A6 st sm i (Jj (Xs c F) B)) (Ew (Xs c F) B) fr [] W:=by
 refine(Jr (L0 c F) Ru (H:=HS (.chan (some c)) cx cy d n A6 st sm a.defers i) (fun t a w τ d=>A0r t a w τ d) hw hf (fun τ d=>h _) (.inr ⟨rfl,fun c r e v l q=>by cases e;simp[D9,goexitEntry]at q⟩)).mono ?_
 rintro L fr' cs' W' ⟨B',x,τ,k,hg,⟨hxc,t,a',hxf,hH⟩,hw',hf',hc',rfl,_,_⟩;rw[hxc]at hc';rw[hxf]at hf';rw[hd]at hH
 refine⟨B',F,(x.at τ k).V,a',t,by cases hc';rfl,hw',hf',A0r t a' _ _ _ hH,hg.1 _ _ hcc,rfl,(Y5 hw hg).symm⟩
theorem A5b {P:Program}{m:Bool}{b1 b2 cs:List Frame}{c:Nat}{dir:Zj}{fr:Frame}(h:G4 P m (b1++b2) c dir fr cs):G4 P m b2 c dir fr (cs++b1):=by
 intro w;have:=h w;rw[<-Ao4]at this
 exact this
variable (C : Jl cx cy d n A6 px py bx st sm) (hn : n <= 8)
include C hn
theorem Wy:∀(k:Nat) {i:Nat},i+k=n->0<n->∀{L R:Nat->Prop} {fr:Frame} {cs:List Frame} {W:World},(Co Tryz.prog false [D9] R (Agg c cx cy d n A6 st sm i R) L fr cs W)->Pb c n st sm k L R fr (cs++[D9]) W
 | 0,i,hi,h0,L,R,fr,cs,W,h=>by
   refine(Co.Abt (base:=[]) (base2:=[D9]) (Co.mono h (Post':=fun L fr cs W=>Agg c cx cy d n A6 st sm i R L fr cs W) fun _ _ _ _ h=>h)).bind ?_
   rintro L fr cs W ⟨c0,rfl,B,F,V,a,t,rfl,hw,hf,hH,hcc,rfl,rfl⟩;obtain⟨hlt,_⟩ |⟨_,rfl,_,hd⟩:=hH
   ·omega
   obtain⟨e1,_,hds,htd,hk,hfn⟩:=Gm hf;have et:=Aig htd;rw[et]at e1;rw[e1]
   refine .ctl (fr1:={ fr.at ⟨fr.tmps,fr.defers⟩ []with mode:=.returning }) (cs1:=[]++[D9]) (fun b hb=>(WH.hot ⟨V,rfl,hw⟩) b hb) (fun W2=>stepG_end) fun W2 hr=>.stop ?_
   refine A01 hfn hk ?_
   rw[hd]at hds
   exact Zz (hw.fn) hcc hds
 | k+1,i,hi,h0,L,R,fr,cs,W,h=>by
   refine((h.bind ?_:Co Tryz.prog false ([D9]++[]) R (fun L fr cs W=>∃v z,G4 Tryz.prog false [D9] c (.send v z) fr cs/\∃R',Zn n st sm i v R' W /\(∀x,R' x->L x) /\
    ∀W2,Aw (fun x=>L x/\¬R' x) (fun x=>R x\/R' x) W W2->Afq c cx cy d n A6 i (fun x=>L x/\¬R' x) (fun x=>R x\/R' x) (fr.finish undef) cs W2) L fr cs W).Abt).mono ?_
   ·rintro L fr cs W ⟨B,F,V,a,t,rfl,hw,hf,hH,hcc,rfl,rfl⟩;obtain⟨_,rfl,w0,hR⟩ |⟨h1,_⟩:=hH
    ·exact Abz h0 hw hf hcc hR
    ·omega
   ·rintro L fr cs W ⟨c0,rfl,v,z,hs,R',hrow,hsub,hk⟩
    refine⟨v,z,A5b hs,R',by rwa [show n-(k+1)=i by omega],hsub,fun W2 hr=>?_⟩
    refine Wy k (i:=i+1) (by omega) h0 ?_
    obtain⟨B,H,F,a,a',b',k',ops,rfl,e,hH,hf,eL,eR,hcc,hS,hd⟩:=hk W2 hr;rw[e,eL,eR]
    refine Co.I6 hH.hot fun W3 hr3=>?_
    obtain⟨V,_,hw⟩:=hH.rely hr3
    exact A6p hw hf hcc hd fun w=>Ae5 C hn (by omega) hS w
end
end
section
open Go.RowKit Go.Conc Co Ok Lr Tl Bar
noncomputable def Zr (args:Array Value):Frame:={ (default:Frame)with fn:=Tryz.prog.funcs.size,defers:=[⟨.fn (.func 45) #[],args⟩],mode:=.panicking [goexitEntry] }
theorem A6l:∃fn,Tryz.prog.funcs[45]?=some fn /\(fn.name == "runtime.NumGoroutine") = false/\fn.body=some F0/\fn.ntmps=61:=⟨_,Tryz.func45,by kernel_rfl,by kernel_rfl,by kernel_rfl⟩
theorem A3p (args:Array Value):Frame.enter Tryz.prog 45 args .deferred=bS.at ⟨args++Array.replicate (61-args.size) undef,[]⟩ [.code F0]:=by
 obtain⟨fn,hf,_,hb,hn⟩:=A6l;rw[enter_atD args hf hb,hn]
 rfl
theorem A9d {args:Array Value}{w:World}:stepG Tryz.prog false (G (Zr args) []) w=.go (G (bS.at ⟨args++Array.replicate (61-args.size) undef,[]⟩ [.code F0]) [D9]) w #[]:=by
 obtain⟨fn,hf,h1,hb,hn⟩:=A6l;rw[<-A3p];have h1:¬fn.name = "runtime.NumGoroutine" := by simpa using h1
 simp[G,stepG,unwind,callDeferred,Zr,invoke,callFunc,hf,h1,hb,GStep.after,seen_none,D9]
theorem step_defer {ops:Array Oper}{i:Nat}{rest:List Nat}{o:Oper}{b:Frame}{a:Act}{k:List Item}{cs:List Frame}{w:World}{x:Nat}{t:TypeId}{main:Bool}(ho:ops[i]?=some o)(hg:o.guard=none)(hk:b.kind≠.early)
 (hop:o.op=.defer { callee:=.builtin .close,args:=#[.tmp x],argTypes:=#[t] }) :
 stepG Tryz.prog main (G (b.at a (.inRegion ops (i :: rest) :: k)) cs) w=.go (G (b.at (Act.put ⟨a.tmps,⟨.builtin .close #[t] o.type #[false],#[a.eval (.tmp x)]⟩ :: a.defers⟩ o.dst undef) (.inRegion ops rest :: k)) cs) w #[]:=by
 have hw:Region.wanted o (yielded ops a.tmps)=true:=by simp[Region.wanted,hg]
 have hr:(execOp a.eval o).run Tryz.prog w=.ok (.defer ⟨.builtin .close #[t] o.type #[false],#[a.eval (.tmp x)]⟩) w:=by
  unfold execOp;simp[hop,resolve]
 have he:(execOp a.eval o).events Tryz.prog w #[]=#[]:=by
  unfold execOp;simp[hop,resolve]
 have hfin:(b.at ⟨a.tmps,⟨.builtin .close #[t] o.type #[false],#[a.eval (.tmp x)]⟩ :: a.defers⟩ (.inRegion ops (i :: rest) :: k)).finish undef=b.at (Act.put ⟨a.tmps,⟨.builtin .close #[t] o.type #[false],#[a.eval (.tmp x)]⟩ :: a.defers⟩ o.dst undef) (.inRegion ops rest :: k):=by rw[Frame.finish_at,ho];rfl
 have hk':(b.kind == CallKind.early)=false:=by simpa using hk
 rw[stepG_oper ho hw,<-hfin];simp[stepG.apply,hr,he,G,Frame.at,hk',GStep.after,seen_none]
theorem Aer {c:Nat}{W:World}(hc:c<W.heap.size)(hN:Vp.prog.globals.size<=W.heap.size):WR (Xs c fun _=>False) (fun x y=>x=c/\y=c) { W with heap:=W.heap.setIfInBounds c (.cells #[] 0 (0,0)) } W :=
 { tape:=rfl,drawn:=rfl,os:=rfl,output:=rfl
   fn:=fun b b₁ b₂ h1 h2=>h1.2.trans h2.2.symm
   inj:=fun b₁ b₂ b' h1 h2=>h1.1.trans h2.1.symm
   G8:=fun g hg=>by cases hg
   live:=fun b b' h hd _=>absurd h.1 hd
   Hj:=fun b b' h hd _=>absurd h.1 hd
   dead:=fun b b' h _=>by obtain⟨rfl,rfl⟩:=h;exact⟨⟨0,by simp[hc]⟩,hc⟩
   Vv:=fun b hb=>by obtain rfl:b=c:=hb;simpa using hc
   Qo:=fun b hb=>hb.elim
   low:=fun b b' h=>by obtain⟨rfl,rfl⟩:=h;exact .rfl
   nV:=by rw[Array.size_setIfInBounds];exact hN
   nW:=hN }
theorem Aaz {c:Nat}{F:Nat->Prop}:Ew (Xs c F) (fun x y=>x=c/\y=c)=fun _=>False:=by
 funext x
 apply propext
 exact⟨fun⟨b,h1,h2,_⟩=>h2 h1.1,fun h=>h.elim⟩
theorem Gn {c:Nat}{B:Lk}:Jj (Xs c fun _=>False) B=fun _=>False:=by
 funext x
 apply propext
 exact⟨fun⟨b,_,_,h⟩=>h,fun h=>h.elim⟩
noncomputable def Tp (c cx cy d n:Nat)(A6:Int):Array Value:=#[.chan (some c),.complex .f32 cx cy,.int .i64 d,.int .i64 n,.int .i64 A6]
theorem Aby {c n:Nat}{st:Nat->Nat->Int}{sm:Nat->Nat->Nat}{k:Nat}:∃Post:(Nat->Prop) ->(Nat->Prop)->Frame->List Frame->World->Prop,∀L R fr cs W,Pb c n st sm k L R fr cs W=Co Tryz.prog false [] R (Post R) L fr cs W:=by
 cases k with
 | zero=>exact⟨_,fun _ _ _ _ _=>rfl⟩
 | succ k=>exact⟨fun R=>_,fun _ _ _ _ _=>rfl⟩
theorem Aa9 (D F:Nat->Prop)(s:Code)(hs:Gi Tryz.prog 45=s):CdR (cx Vp.prog phs (Rc Tryz.prog) D F) (cut [0,13] s) s:=by
 have h:=Adr;rw[hs]at h
 exact Aaa [0,13] 45 (by simp[M8]) s hs h
theorem Adq (c:Nat):∃e,F0=.seq (.region 0 Uy false) e/\CdR (Xs c fun _=>False) (.seq sR1 (.block 0 (.loop sX))) e:=by
 obtain⟨s,hs⟩:∃s,F0=s:=⟨_,rfl⟩;have hb:=Abx.trans hs;have hc:=A7g;rw[hs]at hc ⊢;clear hs;have hcd:=Aa9 (fun b=>b=c) (fun _=>False) s hb
 rw[hc]at hcd;obtain⟨d0,e',ec,hd0,hd1⟩:=hcd;obtain rfl:=Ajh (hd0.resolve_left (by decide))
 exact⟨e',ec,hd1⟩
theorem Dw {p:Array Value}{i:Nat}{v:Value}(h:p[i]?=some v)(q:Array Value):(p++q)[i]?=some v:=by
 rw[Array.getElem?_append_left (Alx.1 h).1]
 exact h
theorem A8n {cx cy d n:Nat}{A6:Int}{px py:Nat->Nat->Nat}{bx:Nat->Nat->Value}{st:Nat->Nat->Int}{sm:Nat->Nat->Nat}{c:Nat}(C:Jl cx cy d n A6 px py bx st sm)(hn:n<=8)(h0:0<n){W:World}(hc:c<W.heap.size)(hN:Vp.prog.globals.size<=W.heap.size) :
 Pb c n st sm n (fun _=>False) (fun _=>False) (Zr (Tp c cx cy d n A6)) [] W:=by
 obtain⟨Post,hP⟩:=Aby (c:=c) (n:=n) (st:=st) (sm:=sm) (k:=n);rw[hP];have hno:∀b,(fun _:Nat=>False) b->b<W.heap.size:=fun b h=>h.elim
 refine Co.ctl (fr1:=bS.at ⟨Tp c cx cy d n A6++Array.replicate (61-(Tp c cx cy d n A6).size) undef,[]⟩ [.code F0]) (cs1:=[D9]) (fun b h=>h.elim) (fun _=>A9d) fun W1 hr1=>?_
 have hc1:c<W1.heap.size:=Am2 hc hr1.1;have hN1:Vp.prog.globals.size<=W1.heap.size:=Am1 hN hr1.1;generalize hT:Tp c cx cy d n A6++Array.replicate (61-(Tp c cx cy d n A6).size) undef=T;have hTs:T.size=61:=by rw[<-hT];simp[Tp]
 have hT0:T[0]?=some (.chan (some c)):=by rw[<-hT];exact Dw rfl _
 have hT1:T[1]?=some (.complex .f32 cx cy):=by rw[<-hT];exact Dw rfl _
 have hT2:T[2]?=some (.int .i64 d):=by rw[<-hT];exact Dw rfl _
 have hT3:T[3]?=some (.int .i64 n):=by rw[<-hT];exact Dw rfl _
 have hT4:T[4]?=some (.int .i64 A6):=by rw[<-hT];exact Dw rfl _
 have hTR:AR (Xs c fun _=>False) (fun x y=>x=c/\y=c) T T:=by
  rw[<-hT]
  refine AR.append ⟨rfl,fun i v v' h1 h2=>?_⟩ (AR.replicate _ Du)
  rw[h1]at h2
  cases h2
  match i with
  | 0=>cases h1;exact .chan ⟨rfl,rfl⟩
  | 1=>cases h1;exact .complex _ _ _
  | 2=>cases h1;exact .int _ _
  | 3=>cases h1;exact .int _ _
  | 4=>cases h1;exact .int _ _
  | i+5=>cases h1
 obtain⟨e',ec,hd1⟩:=Adq c;rw[ec]
 refine Co.ctl (fun b h=>h.elim) (fun _=>stepG_seq) fun W2 hr2=>?_
 refine Co.region (fun b h=>h.elim) fun W3 hr3=>?_
 rw[Akr];obtain⟨o0,ho0,hop0,hdst0,hg0⟩:=Akc;obtain⟨o1,ho1,hop1,hty1,hdst1,hg1⟩:=Akd
 refine Co.val ho0 hg0 (by simp[bS]) (Dv hop0) (fun b h=>h.elim) fun W4 hr4=>?_
 have ev0:Act.eval ⟨T,[]⟩ (.tmp 0)=.chan (some c):=by simp[Act.eval,Amf,hT0]
 rw[ev0,hdst0];have ev16:Act.eval (Act.put ⟨T,[]⟩ (some 16) (.chan (some c))) (.tmp 16)=.chan (some c):=by simp[Act.eval,Act.put,Amf,hTs]
 refine Co.ctl (fun b h=>h.elim) (fun _=>step_defer ho1 hg1 (by simp[bS]) hop1) fun W5 hr5=>?_
 rw[ev16,hdst1,hty1]
 refine Co.I6 (fun b h=>h.elim) fun W6 hr6=>?_
 have hc6:c<W6.heap.size:=Am2 hc1 (Am1 hr2.1 (Am1 hr3.1 (Am1 hr4.1 (Am1 hr5.1 hr6.1))));have hN6:Vp.prog.globals.size<=W6.heap.size:=Am1 hN1 (Am1 hr2.1 (Am1 hr3.1 (Am1 hr4.1 (Am1 hr5.1 hr6.1))));rw[<-hP];rw[<-Ant [D9]]
 refine Wy C hn n (i:=0) (by omega) h0 ?_
 have:=A6p (cx:=cx) (cy:=cy) (d:=d) (n:=n) (A6:=A6) (st:=st) (sm:=sm) (i:=0) (Aer hc6 hN6) (fr:=bS.at ⟨T.setIfInBounds 16 (.chan (some c)),[F5 c]⟩ [.code e']) (a:=⟨T.setIfInBounds 16 (.chan (some c)),[F5 c]⟩) (s:=[.code (.seq sR1 (.block 0 (.loop sX)))])
  (E3 (hTR.set 16 (.chan ⟨rfl,rfl⟩)) (.cons (.inl trivial) ⟨.builtin _ _ _ _ rfl,⟨rfl,fun i v v' h1 h2=>?_⟩⟩ .nil) (.cons (.code hd1) .nil) rfl rfl) ⟨rfl,rfl⟩ rfl fun w=>Ab1 C hn (by simp[hTs]) ?_ ?_ ?_ ?_ ?_ w
 ·rw[Aaz,Gn]at this
  exact this
 ·rw[h1]at h2
  cases h2
  match i with
  | 0=>cases h1;exact .chan ⟨rfl,rfl⟩
  | i+1=>cases h1
 all_goals refine(Alz (by decide)).trans ?_
 ·exact hT0
 ·exact hT1
 ·exact hT2
 ·exact hT3
 ·exact hT4
end
section
open Go.RowKit Go.Conc Co Ok Lr Tl Bar
noncomputable def mR9:Code:=match mD with|.seq _ (.seq _ (.seq _ (.seq a _)))=>a|_=>.skip
noncomputable def Alg:Code:=match mD with|.seq _ (.seq _ (.seq _ (.seq _ (.seq a _))))=>a|_=>.skip
noncomputable def Alh:Code:=match Pz with|.seq a _=>a|_=>.skip
noncomputable def Td:Array Oper:=opsOf mR9
noncomputable def E6:Array Oper:=opsOf Alg
noncomputable def K5:Array Oper:=opsOf Alh
theorem Aji {d:Code}(h:Rc Tryz.prog "9" d):d=.region 9 Td false:=Jt (f:=17) h (by decide) (by kernel_rfl)
theorem Agq {d:Code}(h:Rc Tryz.prog "10" d):d=.region 10 E6 false:=Jt (f:=17) h (by decide) (by kernel_rfl)
theorem Agr {d:Code}(h:Rc Tryz.prog "12" d):d=.region 12 K5 false:=Jt (f:=17) h (by decide) (by kernel_rfl)
theorem Ake:∃o,Td[0]?=some o/\o.op=.makeChan 88 (.const (.int .i64 0))/\o.dst=some 48/\o.guard=none:=⟨Td.getD 0 default,by kernel_rfl,by kernel_rfl,by kernel_rfl,by kernel_rfl⟩
theorem Akf:∃o,Td[1]?=some o/\o.op=.assign (.tmp 48)/\o.dst=some 12/\o.guard=none:=⟨Td.getD 1 default,by kernel_rfl,by kernel_rfl,by kernel_rfl,by kernel_rfl⟩
theorem Ah2:∃o,E6[0]?=some o/\o.op=.move (.tmp 12)/\o.dst=some 49/\o.guard=none:=⟨E6.getD 0 default,by kernel_rfl,by kernel_rfl,by kernel_rfl,by kernel_rfl⟩
theorem Ah3:∃o,E6[1]?=some o/\o.op=.move (.tmp 0)/\o.dst=some 50/\o.guard=none:=⟨E6.getD 1 default,by kernel_rfl,by kernel_rfl,by kernel_rfl,by kernel_rfl⟩
theorem Ah4:∃o,E6[2]?=some o/\o.op=.move (.tmp 1)/\o.dst=some 51/\o.guard=none:=⟨E6.getD 2 default,by kernel_rfl,by kernel_rfl,by kernel_rfl,by kernel_rfl⟩
theorem Ah5:∃o,E6[3]?=some o/\o.op=.move (.tmp 2)/\o.dst=some 52/\o.guard=none:=⟨E6.getD 3 default,by kernel_rfl,by kernel_rfl,by kernel_rfl,by kernel_rfl⟩
theorem Ah6:∃o,E6[4]?=some o/\o.op=.move (.tmp 3)/\o.dst=some 53/\o.guard=none:=⟨E6.getD 4 default,by kernel_rfl,by kernel_rfl,by kernel_rfl,by kernel_rfl⟩
theorem Ah7:∃o,E6[5]?=some o/\o.op=.go { callee:=.value (.func 45),args:=#[.tmp 49,.tmp 50,.tmp 51,.tmp 52,.tmp 53],argTypes:=#[138,35,3,3,3] }/\o.dst=none/\o.guard=none:=⟨E6.getD 5 default,by kernel_rfl,by kernel_rfl,by kernel_rfl,by kernel_rfl⟩
theorem Abk:∃o,K5[0]?=some o/\o.op=.recv 88 (.tmp 54) true/\o.dst=some 55/\o.guard=none:=⟨K5.getD 0 default,by kernel_rfl,by kernel_rfl,by kernel_rfl,by kernel_rfl⟩
theorem Ah8:∃o,K5[1]?=some o/\o.op=.extract (.tmp 55) 1/\o.dst=some 56/\o.guard=none:=⟨K5.getD 1 default,by kernel_rfl,by kernel_rfl,by kernel_rfl,by kernel_rfl⟩
theorem Aks:Td.size=2:=by kernel_rfl
theorem Ai0:E6.size=6:=by kernel_rfl
theorem Ai1:K5.size=2:=by kernel_rfl
def O7:Value:=.agg #[.slice none 0 0,.slice none 0 0]
def elemOf:TypeDesc->Nat
 | .chan _ e=>e
 | _=>0
theorem Zx:∃d,Tryz.prog.underlying 88=some (.chan d 91):=by
 have h:(Tryz.prog.underlying 88).map elemOf=some 91:=by kernel_rfl
 cases hu:Tryz.prog.underlying 88 with
 | none=>rw[hu]at h;cases h
 | some x =>
   rw[hu]at h;have h:elemOf x=91:=by simpa using h
   cases x with
   | chan d e =>
     have h:e=91:=h;subst h
     exact⟨d,rfl⟩
   | _=>cases h
theorem A18:∃i,Tryz.prog.info? 91=some i/\i.zero=some O7/\i.bytes=48:=by
 have h:(Tryz.prog.info? 91).map (fun i=>(i.zero,i.bytes))=some (some O7,48):=by kernel_rfl
 cases hu:Tryz.prog.info? 91 with
 | none=>rw[hu]at h;cases h
 | some x =>
   rw[hu]at h;obtain⟨h1,h2⟩:=Prod.mk.inj (Aml h)
   exact⟨x,rfl,h1,h2⟩
section
variable {b : Frame} {a : Act} {k : List Item} {cs base : List Frame} {w : World}
theorem A9f (hk:b.kind≠.early):stepG Tryz.prog true (G (b.at a (.inRegion Td [0,1] :: k)) cs) w=.go (G (b.at (a.put (some 48) (.chan (some w.heap.size))) (.inRegion Td [1] :: k)) cs) (w.alloc (.chan 0 #[] false 0 0 false)) #[]:=by
 obtain⟨o,ho,hop,hd,hg⟩:=Ake;obtain⟨d,hu⟩:=Zx;obtain⟨i,hi,_,hb⟩:=A18
 have hr:(execOp a.eval o).run Tryz.prog w=.ok (.value (.chan (some w.heap.size))) (w.alloc (.chan 0 #[] false 0 0 false)):=by
  unfold execOp;simp only[hop];have:=run_makeChan (w:=w) hu hi .i64 0 (by omega) (by rw[hb];omega)
  simp[Act.eval,go_sem]at this ⊢;simp[this]
 have he:(execOp a.eval o).events Tryz.prog w #[]=#[]:=by
  unfold execOp;simp only[hop];have:=events_makeChan (w:=w) hu hi .i64 0 (by omega) (by rw[hb];omega) #[]
  simp[Act.eval,go_sem]at this ⊢;simp[this]
 rw[stepG_value ho (by simp[Region.wanted,hg]) hk hr,hd]
 unfold listed;rw[he,seen_none]
theorem A5c {c:Nat}(hk:b.kind≠.early)(hx:a.eval (.tmp 54)=.chan (some c)):G4 Tryz.prog true base c (.recv O7) (b.at a (.inRegion K5 [0,1] :: k)) cs:=by
 obtain⟨o,ho,hop,hd,hg⟩:=Abk;obtain⟨d,hu⟩:=Zx;obtain⟨i,hi,hz,_⟩:=A18;intro w
 have hr:(execOp a.eval o).run Tryz.prog w=.ok (.comm #[rcase c O7] true (.recv true)) w:=by
  unfold execOp;simp only[hop,hx];simp[go_sem,zeroValue,typeInfo,Aq8 hu,hi,hz,rcase]
 have he:(execOp a.eval o).events Tryz.prog w #[]=#[]:=by
  unfold execOp;simp only[hop,hx];simp[go_sem,Aq8 hu]
 rw[stepG_comm (cases:=#[rcase c O7]) (blocking:=true) (shape:=.recv true) (w':=w) ho (by simp[Region.wanted,hg]) hk hr]
 unfold listed;rw[he,seen_none]
 rfl
theorem Uj {v x:Value}(h:a.eval (.tmp 55)=.tuple #[v,x]){o:Oper}(hop:o.op=.extract (.tmp 55) 1):Co.Yields Tryz.prog a o x:=fun w=>by
 constructor
 ·unfold execOp;simp only[hop,h];simp[go_sem,Instr.extract]
 ·unfold execOp;simp only[hop,h];simp[go_sem,Instr.extract]
theorem Af6 (hk:b.kind≠.early):stepG Tryz.prog true (G (b.at a (.inRegion E6 [5] :: k)) cs) w=.spawn (G (b.at a (.inRegion E6 [] :: k)) cs) (G (Zr #[a.eval (.tmp 49),a.eval (.tmp 50),a.eval (.tmp 51),a.eval (.tmp 52),a.eval (.tmp 53)]) []) w #[]:=by
 obtain⟨o,ho,hop,hd,hg⟩:=Ah7;have ef:a.eval (.func 45)=.func (.func 45) #[] #[]:=rfl
 have hr:(execOp a.eval o).run Tryz.prog w=.ok (.spawn ⟨.fn (.func 45) #[],#[a.eval (.tmp 49),a.eval (.tmp 50),a.eval (.tmp 51),a.eval (.tmp 52),a.eval (.tmp 53)]⟩) w:=by
  unfold execOp;simp[hop,resolve,Deferred.ofValue,ef]
 have he:(execOp a.eval o).events Tryz.prog w #[]=#[]:=by
  unfold execOp;simp[hop,resolve,Deferred.ofValue,ef]
 rw[stepG_spawn ho (by simp[Region.wanted,hg]) hk hr rfl,hd]
 unfold listed;rw[he,seen_none]
 rfl
end
end
section
open Go.RowKit Go.Conc Co Ok Lr Tl Bar
theorem Dt {w W:World}{rb ob cx cy d n cap N M gs gm:Nat}{xs:List Nat}{ys:List Int}(h:TX w rb ob cx cy d n cap N M gs gm xs ys W)(τ:Tape)(k:Nat):TX { w with tape:=τ,drawn:=k } rb ob cx cy d n cap N M gs gm xs ys { W with tape:=τ,drawn:=k } :=
 ⟨Hz h.O τ k,Hz h.R τ k,h.S,h.M,h.ne,h.hr,h.ho⟩
noncomputable def bM:Frame:=Go.Conc.base 17
noncomputable def X9 (cx cy d n:Nat)(A6:Int):Array Value:=#[.complex .f32 cx cy,.int .i64 d,.int .i64 n,.int .i64 A6]
theorem Afb:∃fn,Tryz.prog.funcs[17]?=some fn/\fn.body=some Aq/\fn.ntmps=71:=⟨_,Tryz.func17,by kernel_rfl,by kernel_rfl⟩
theorem Rx (args:Array Value):Frame.enter Tryz.prog 17 args .normal=bM.at ⟨args++Array.replicate (71-args.size) undef,[]⟩ [.code Aq]:=by
 obtain⟨fn,hf,hb,hn⟩:=Afb;rw[enter_at args hf hb,hn]
 rfl
def V0 (W:World):World:={ W with heap:=W.heap.push (.cells #[] 0 (0,0)) }
theorem A2n {W:World}(hN:Vp.prog.globals.size<=W.heap.size):WR (Xs W.heap.size fun _=>False) (fun _ _=>False) (V0 W) W :=
 { tape:=rfl,drawn:=rfl,os:=rfl,output:=rfl
   fn:=fun b b₁ b₂ h1 h2=>h1.elim
   inj:=fun b₁ b₂ b' h1 h2=>h1.elim
   G8:=fun g hg=>by cases hg
   live:=fun b b' h hd _=>h.elim
   Hj:=fun b b' h hd _=>h.elim
   dead:=fun b b' h _=>h.elim
   Vv:=fun b hb=>by obtain rfl:b=W.heap.size:=hb;simp[V0]
   Qo:=fun b hb=>hb.elim
   low:=fun b b' h=>h.elim
   nV:=by unfold V0;rw[Apy];exact Nat.le_succ_of_le hN
   nW:=hN }
theorem Aa8 (D F:Nat->Prop)(s:Code)(hs:Gi Tryz.prog 17=s):CdR (cx Vp.prog phs (Rc Tryz.prog) D F) (cut [9,10,12] s) s:=by
 have h:=Ado;rw[hs]at h
 exact Aaa [9,10,12] 17 (by simp[M8]) s hs h
theorem A5t (p:Nat)(F:Nat->Prop):CdR (Xs p F) (cut [9,10,12] Aq) Aq:=Aa8 _ _ _ Abf
section
variable {cx cy d n : Nat} {A6 : Int} {a : Act} (hs : a.tmps.size = 71) (h0 : a.tmps[0]? = some (.complex .f32 cx cy)) (h1 : a.tmps[1]? = some (.int .i64 d)) (h2 : a.tmps[2]? = some (.int .i64 n)) (h3 : a.tmps[3]? = some (.int .i64 A6)) (hd : a.defers = [])
include hs h0 h1 h2 h3 hd
theorem Aei {ex ey:Nat}(hn:n<=8)(h:∀W,Calls Vp.prog 43 #[.complex .f32 cx cy,.int .i64 d,.int .i64 n] W fun e w'=>e=.returned (.bool true)/\W=w')(hp:∀W,Calls Vp.prog 44 #[.complex .f32 cx cy,.int .i64 d,.int .i64 n,.int .i64 n] W fun e w'=>e=.returned (.complex .f32 ex ey)/\W=w')
 (hf1:(FloatKind.f32.format.order ex 1090519040 == some .gt)=false) (hf2:(FloatKind.f32.format.order ey 1090519040 == some .gt)=false) (w:World):HW Vp.prog [.code (cut [9,10,12] Aq)] (Zm cx cy d n A6 w) a w:=by
 obtain⟨t,ds⟩:=a;dsimp only at hs h0 h1 h2 h3 hd;obtain⟨y0,y1,y2,y3,y4,y5,y6,y7,y8,y9,y10,y11,y12,y13,y14,y15,y16,y17,y18,y19,y20,y21,y22,y23,y24,y25,y26,y27,y28,y29,y30,y31,y32,y33,y34,y35,y36,y37,y38,y39,y40,y41,y42,y43,y44,y45,y46,y47,y48,y49,y50,y51,y52,y53,y54,y55,y56,y57,y58,y59,y60,y61,y62,y63,y64,y65,y66,y67,y68,y69,y70,rfl⟩:=Vq t hs
 cases h0;cases h1;cases h2;cases h3;subst hd
 apply Ae3 hn h hp hf1 hf2
end
def Ajb (W0:World)(cx cy d n:Nat)(A6:Int)(L:Nat->Prop)(fr:Frame)(cs:List Frame)(W:World):Prop :=
 ∃(B:Lk) (V w:World) (b':Frame) (a a':Act) (k':List Item) (c:Nat),cs=[]/\fr=b'.at (a'.put (some 48) (.chan (some c))) (.inRegion Td [1] :: k')/\WR (Xs W0.heap.size fun _=>False) B V W/\AR (Xs W0.heap.size fun _=>False) B a.tmps a'.tmps/\a'.defers=[] /\
  Ri (Xs W0.heap.size fun _=>False) (Xs W0.heap.size fun _=>False).K B [.code (.seq (.refuse "10") mF)] k'/\b'.kind=bM.kind/\b'.fn=bM.fn/\w.heap=(V0 W0).heap/\Zm cx cy d n A6 w [.code (.refuse "9"), .code (.seq (.refuse "10") mF)] a V/\L=Ew (Xs W0.heap.size fun _=>False) B /\
  (∀x y,B x y->W0.heap.size+1<=x/\W0.heap.size<=y/\y≠c)/\W.heap[c]?=some (.chan 0 #[] false 0 0 false)/\W0.heap.size<=c
theorem A87 {cx cy d n:Nat}{A6:Int}{ex ey:Nat}(hn:n<=8)(h:∀W,Calls Vp.prog 43 #[.complex .f32 cx cy,.int .i64 d,.int .i64 n] W fun e w'=>e=.returned (.bool true)/\W=w')(hp:∀W,Calls Vp.prog 44 #[.complex .f32 cx cy,.int .i64 d,.int .i64 n,.int .i64 n] W fun e w'=>e=.returned (.complex .f32 ex ey)/\W=w')
 (hf1:(FloatKind.f32.format.order ex 1090519040 == some .gt)=false) (hf2:(FloatKind.f32.format.order ey 1090519040 == some .gt)=false) {W0:World} (hN:Vp.prog.globals.size<=W0.heap.size) {base:List Frame} :
 Co Tryz.prog true base (fun _=>False) (Ajb W0 cx cy d n A6) (fun _=>False) (Frame.enter Tryz.prog 17 (X9 cx cy d n A6) .normal) [] W0:=by
 rw[Rx];generalize hT:X9 cx cy d n A6++Array.replicate (71-(X9 cx cy d n A6).size) undef=T;have hTs:T.size=71:=by rw[<-hT];simp[X9]
 have hT0:T[0]?=some (.complex .f32 cx cy):=by rw[<-hT];exact Dw rfl _
 have hT1:T[1]?=some (.int .i64 d):=by rw[<-hT];exact Dw rfl _
 have hT2:T[2]?=some (.int .i64 n):=by rw[<-hT];exact Dw rfl _
 have hT3:T[3]?=some (.int .i64 A6):=by rw[<-hT];exact Dw rfl _
 have hTR:AR (Xs W0.heap.size fun _=>False) (fun _ _=>False) T T:=by
  rw[<-hT]
  refine AR.append ⟨rfl,fun i v v' h1 h2=>?_⟩ (AR.replicate _ Du)
  rw[h1]at h2
  cases h2
  match i with
  | 0=>cases h1;exact .complex _ _ _
  | 1=>cases h1;exact .int _ _
  | 2=>cases h1;exact .int _ _
  | 3=>cases h1;exact .int _ _
  | i+4=>cases h1
 have hh:Ew (Xs W0.heap.size fun _=>False) (fun _ _=>False)=fun _=>False:=by
  funext x;apply propext;exact⟨fun⟨b,h1,_⟩=>h1,fun h=>h.elim⟩
 have st:=Jr (m:=true) (base:=base) (L0 W0.heap.size fun _=>False) Ru (H:=fun t a V=>∃w,w.heap=(V0 W0).heap/\Zm cx cy d n A6 w t a V) (b:=bM) (a:=⟨T,[]⟩) (s:=[.code (cut [9,10,12] Aq)])
  (fun t a V τ k h=>by
   obtain⟨w,e,rb,ob,gs,gm,g1,g2,g3,g4,g5,g6,g7,g8,g9,g10⟩:=h
   exact⟨{ w with tape:=τ,drawn:=k },e,rb,ob,gs,gm,g1,g2,g3,g4,g5,g6,g7,g8,g9,Dt g10 τ k⟩)
  (A2n hN) (fr':=bM.at ⟨T,[]⟩ [.code Aq]) (E3 hTR .nil (.cons (.code (A5t _ _)) .nil) rfl rfl)
  (fun τ k=>(Aei (a:=⟨T,[]⟩) hTs hT0 hT1 hT2 hT3 rfl hn h hp hf1 hf2 { V0 W0 with tape:=τ,drawn:=k }).mono fun t a V h=>⟨_,rfl,h⟩)
 rw[hh,Gn]at st
 refine st.bind ?_
 rintro L fr cs W1 ⟨B,x,τ,k,hg,⟨hxc,t,a1,hxf,w,hwe,hH⟩,hw,hf,hc,rfl,hn1,hm1⟩;rw[hxc]at hc;rw[hxf]at hf
 cases hc
 have hbl:∃w:World,w.heap=(V0 W0).heap/\Zm cx cy d n A6 w t a1 (x.at τ k).V:=by
  obtain⟨rb,ob,gs,gm,g1,g2,g3,g4,g5,g6,g7,g8,g9,g10⟩:=hH
  exact⟨{ w with tape:=τ,drawn:=k },hwe,rb,ob,gs,gm,g1,g2,g3,g4,g5,g6,g7,g8,g9,Dt g10 τ k⟩
 clear hH hwe;obtain⟨w,hwe,hH⟩:=hbl;generalize (x.at τ k).V=V at hw hH;have et:t=[.code (.refuse "9"), .code (.seq (.refuse "10") mF)]:=by obtain⟨_,_,_,_,h,_⟩:=hH;exact h
 have ed:a1.defers=[]:=by obtain⟨_,_,_,_,_,_,h,_⟩:=hH;exact h
 subst et;obtain⟨e1,har,hds,htd,hk,hfn⟩:=Gm hf;obtain⟨d9,k',etd,hd9,hk'⟩:=Kz htd (by decide)
 obtain rfl:=Aji hd9;rw[ed]at hds;have hfd:fr.defers=[]:=by generalize fr.defers=q at hds;cases hds;rfl
 rw[etd,hfd]at e1;rw[e1];have hke:fr.kind≠.early:=by rw[hk];simp[bM,Go.Conc.base]
 have hlt:∀b,Ew (Xs W0.heap.size fun _=>False) B b->b<W1.heap.size:=WH.hot ⟨V,rfl,hw⟩
 refine Co.region hlt fun W2 hr2=>?_
 rw[Aks];have hlt2:=Dy hlt hr2
 refine .go (fun W3=>fr.at (Act.put ⟨fr.tmps,[]⟩ (some 48) (.chan (some W3.heap.size))) (.inRegion Td [1] :: k')) (fun _=>[]) (fun W3=>W3.alloc (.chan 0 #[] false 0 0 false)) (fun _=>#[]) (fun _=>Ew (Xs W0.heap.size fun _=>False) B) (fun W3 hr3=>⟨A9f hke,?_⟩) fun W3 hr3=>.stop ?_
 ·have hlt3:=Dy hlt2 hr3
  refine⟨fun _ h=>h,fun _ h=>.inl h,fun b hb=>by simpa using Nat.lt_succ_of_lt (hlt3 b hb),by simp,fun b hb _=>?_,rfl,⟨rfl,rfl⟩,fun e he=>by simp at he⟩
  show(W3.heap.push _)[b]?=_
  rw[Ama,Amd (by omega)]
 ·have hr13:Aw (Ew (Xs W0.heap.size fun _=>False) B) (fun _=>False) W1 W3:=Af hr2 hr3
  have hra:Aw (Ew (Xs W0.heap.size fun _=>False) B) (fun _=>False) W1 (W3.alloc (.chan 0 #[] false 0 0 false)):=by
   refine⟨Am1 hr13.1 (by simp),fun b hb=>?_,hr13.2.2.1,hr13.2.2.2⟩
   have hb':b<W3.heap.size:=by
    rcases hb with hb|hb
    ·exact Dy hlt hr13 b hb
    ·exact hb.elim
   show(W3.heap.push _)[b]?=_
   rw[Ama,Amd (by omega)]
   exact hr13.2.1 b hb
  have hra:Aw (Ew (Xs W0.heap.size fun _=>False) B) (Jj (Xs W0.heap.size fun _=>False) B) W1 (W3.alloc (.chan 0 #[] false 0 0 false)):=by
   rw[Gn]
   exact hra
  have hsz:W0.heap.size<=W3.heap.size:=Am1 hm1 hr13.1
  refine⟨B,{ V with tape:=W3.tape,drawn:=W3.drawn },{ w with tape:=W3.tape,drawn:=W3.drawn },fr,a1,⟨fr.tmps,[]⟩,k',W3.heap.size,rfl,rfl,Gc hw hra,har,rfl,hk',hk,hfn,hwe,?_,rfl,fun x y hxy=>?_,?_,hsz⟩
  ·obtain⟨rb,ob,gs,gm,g1,g2,g3,g4,g5,g6,g7,g8,g9,g10⟩:=hH
   exact⟨rb,ob,gs,gm,g1,g2,g3,g4,g5,g6,g7,g8,g9,Dt g10 _ _⟩
  ·obtain⟨h1,h2⟩:=(hg.2 x y hxy).resolve_left id
   refine⟨by simpa [V0]using h1,h2,?_⟩
   have:=Am2 (hw.ltW hxy) hr13.1
   omega
  ·show(W3.heap.push _)[W3.heap.size]?=_
   simp
end
end Go.Proofs.YtjaehldnlamgkaaGreatDoor
