import Derived.Test.YtlfleicchbgcmaaGreatZr14
import Derived.Test.YtlfleicchbgcmaaGreatZr0
import Derived.Test.YtlfleicchbgcmaaGreatZrK
set_option linter.all false
set_option maxHeartbeats 16000000
set_option maxRecDepth 100000
namespace Go.Proofs.YtlfleicchbgcmaaGreat
section
open Go.RowKit Go.Conc Co Ok Lr Tl Bar
theorem A8h {t:Trace}{B c:Nat}(hs:∀op∈t,op.act.low B)(hc:B<=c):∀i x,touchAt t i=some x->x.loc≠.obj c:=by
 intro i a ha hla;obtain⟨x,hx,hxa⟩:=touch_of ha;have hlow:=hs x (Aq3 hx);obtain⟨loc,wr,kd⟩:=a
 have hlo:loc.low B:=by
  generalize x.act=act at hlow hxa
  cases act with
  | access e=>cases hxa;exact hlow
  | mark m=>cases m<;>first |(cases hxa;done) |(cases hxa;exact hlow)
  | _=>cases hxa
 dsimp only at hla;subst hla;have:c<B:=hlo
 omega
theorem Ru {a:Act}{d:Nat}{v:Value}(h:d<a.tmps.size):(a.put (some d) v).eval (.tmp d)=v:=by simp[Act.eval,Act.put,Apn,h]
theorem Fz {a:Act}{d j:Nat}{v:Value}(h:d≠j):(a.put (some d) v).eval (.tmp j)=a.eval (.tmp j):=by simp[Act.eval,Act.put,Apn,Apu,h]
theorem A1u {a:Act}{j:Nat}{v:Value}(h:a.tmps[j]?=some v):a.eval (.tmp j)=v:=by simp[Act.eval,Apn,h]
def Jq (ch v0 v1 v2 v3:Value)(a:Act):Act:=((((((a.put (some 48) ch).put (some 12) ch).put (some 49) ch).put (some 50) v0).put (some 51) v1).put (some 52) v2).put (some 53) v3
theorem A9l {ch v0 v1 v2 v3:Value}{a:Act}:(Jq ch v0 v1 v2 v3 a).tmps.size=a.tmps.size:=by simp[Jq,F5]
theorem A7n {ch v0 v1 v2 v3:Value}{a:Act}{j:Nat}(h:j≠12 /\(j<48\/53<j)):(Jq ch v0 v1 v2 v3 a).tmps[j]?=a.tmps[j]?:=by
 unfold Jq;rw[Cz (by omega),Cz (by omega),Cz (by omega),Cz (by omega),Cz (by omega),Cz (by omega),Cz (by omega)]
theorem Afy {ch v0 v1 v2 v3:Value}{a:Act}(h:a.tmps.size=71):(Jq ch v0 v1 v2 v3 a).tmps[12]?=some ch:=by
 unfold Jq;rw[Cz (by decide),Cz (by decide),Cz (by decide),Cz (by decide),Cz (by decide)]
 exact Apa (by rw[F5];omega)
theorem Lv {ch v0 v1 v2 v3:Value}{a:Act}:(Jq ch v0 v1 v2 v3 a).defers=a.defers:=by simp only[Jq,Act.put]
theorem Afz {ch v0 v1 v2 v3:Value}{a:Act}(h:a.tmps.size=71):(Jq ch v0 v1 v2 v3 a).eval (.tmp 49)=ch /\(Jq ch v0 v1 v2 v3 a).eval (.tmp 50)=v0 /\(Jq ch v0 v1 v2 v3 a).eval (.tmp 51)=v1 /\(Jq ch v0 v1 v2 v3 a).eval (.tmp 52)=v2 /\(Jq ch v0 v1 v2 v3 a).eval (.tmp 53)=v3:=by
 have hn:∀(a:Act) (d j:Nat) (v x:Value),d≠j->a.eval (.tmp j)=x ->(a.put (some d) v).eval (.tmp j)=x:=fun a d j v x e y=>(Fz e).trans y
 have hz:∀(a:Act) (d:Nat) (v:Value),a.tmps.size=71->d<71 ->(a.put (some d) v).eval (.tmp d)=v:=fun a d v e l=>Ru (by omega)
 have sz:∀(a:Act) (d:Nat) (v:Value),a.tmps.size=71 ->(a.put (some d) v).tmps.size=71:=fun a d v e=>F5.trans e
 unfold Jq;have s1:=sz _ 48 ch h;have s2:=sz _ 12 ch s1;have s3:=sz _ 49 ch s2;have s4:=sz _ 50 v0 s3;have s5:=sz _ 51 v1 s4;have s6:=sz _ 52 v2 s5
 exact⟨hn _ _ _ _ _ (by decide) (hn _ _ _ _ _ (by decide) (hn _ _ _ _ _ (by decide) (hn _ _ _ _ _ (by decide) (hz _ _ _ s2 (by decide))))),hn _ _ _ _ _ (by decide) (hn _ _ _ _ _ (by decide) (hn _ _ _ _ _ (by decide) (hz _ _ _ s3 (by decide)))),hn _ _ _ _ _ (by decide) (hn _ _ _ _ _ (by decide) (hz _ _ _ s4 (by decide))),hn _ _ _ _ _ (by decide) (hz _ _ _ s5 (by decide)),hz _ _ _ s6 (by decide)⟩
theorem A5d {b':Frame}{a':Act}{e':Code}{c:Nat}{L:Nat->Prop}{W:World}{base:List Frame}{v0 v1 v2 v3:Value}(hk:b'.kind≠.early)(hs:a'.tmps.size=71)(h0:a'.tmps[0]?=some v0)(h1:a'.tmps[1]?=some v1)(h2:a'.tmps[2]?=some v2)(h3:a'.tmps[3]?=some v3)(hL:∀b,L b->b<W.heap.size) :
 Co Tryz.prog true base (fun x=>x=c) (fun L' fr cs W'=>L'=L/\cs=[]/\Bw L (fun x=>x=c) W W'/\fr=b'.at (Jq (.chan (some c)) v0 v1 v2 v3 a') (.inRegion Ez [5] :: [.code e'])) L (b'.at (a'.put (some 48) (.chan (some c))) (.inRegion U1 [1] :: [.code (.seq (.region 10 Ez false) e')])) [] W:=by
 obtain⟨o,ho,hop,hd,hg⟩:=Akt;obtain⟨p0,i0,j0,d0,g0⟩:=Ahz;obtain⟨p1,i1,j1,d1,g1⟩:=Ai0;obtain⟨p2,i2,j2,d2,g2⟩:=Ai1;obtain⟨p3,i3,j3,d3,g3⟩:=Ai2;obtain⟨p4,i4,j4,d4,g4⟩:=Ai3
 refine Co.val ho hg hk (Wf hop) hL fun W1 r1=>?_
 rw[Ru (by omega),hd]
 have l1:=Er hL r1
 refine Co.Jr l1 fun W2 r2=>?_
 have l2:=Er l1 r2
 refine Co.ctl l2 (fun _=>stepG_seq) fun W3 r3=>?_
 have l3:=Er l2 r3
 refine Co.region l3 fun W4 r4=>?_
 have l4:=Er l3 r4;rw[Aio]
 refine Co.val i0 g0 hk (Em j0) l4 fun W5 r5=>?_
 have l5:=Er l4 r5;rw[Ru (by rw[F5];omega),d0]
 refine Co.val i1 g1 hk (Em j1) l5 fun W6 r6=>?_
 have l6:=Er l5 r6;rw[Fz (by decide),Fz (by decide),Fz (by decide),A1u h0,d1]
 refine Co.val i2 g2 hk (Em j2) l6 fun W7 r7=>?_
 have l7:=Er l6 r7;rw[Fz (by decide),Fz (by decide),Fz (by decide),Fz (by decide),A1u h1,d2]
 refine Co.val i3 g3 hk (Em j3) l7 fun W8 r8=>?_
 have l8:=Er l7 r8;rw[Fz (by decide),Fz (by decide),Fz (by decide),Fz (by decide),Fz (by decide),A1u h2,d3]
 refine Co.val i4 g4 hk (Em j4) l8 fun W9 r9=>?_
 rw[Fz (by decide),Fz (by decide),Fz (by decide),Fz (by decide),Fz (by decide),Fz (by decide),A1u h3,d4]
 exact .stop ⟨rfl,rfl,Ao (Ao (Ao (Ao (Ao (Ao (Ao (Ao r1 r2) r3) r4) r5) r6) r7) r8) r9,rfl⟩
theorem Agq {p c:Nat}{F:Nat->Prop}{B:Lk}{V W:World}(hw:WR (Xs p F) B V W)(hp:∀y,¬B p y)(hc:∀x,¬B x c)(hV:∃t,V.heap[p]?=some (.cells #[] t))(hcW:c<W.heap.size)(hpN:Vp.prog.globals.size<=p)(hcN:Vp.prog.globals.size<=c):WR (Xs p F) (fun x y=>B x y \/(x=p/\y=c)) V W:=by
 have hle:Le B (fun x y=>B x y \/(x=p/\y=c)):=fun _ _ h=>.inl h
 refine{ tape:=hw.tape,drawn:=hw.drawn,os:=hw.os,output:=hw.output,fn:=?_,inj:=?_,Ie:=?_,live:=?_,Ja:=?_,dead:=?_,Wx:=hw.Wx,Tk:=hw.Tk,low:=?_,nV:=hw.nV,nW:=hw.nW }
 ·rintro b b₁ b₂ (h1 |⟨rfl,rfl⟩) (h2 |⟨h3,rfl⟩)
  ·exact hw.fn _ _ _ h1 h2
  ·subst h3;exact absurd h1 (hp _)
  ·exact absurd h2 (hp _)
  ·rfl
 ·rintro b₁ b₂ b' (h1 |⟨rfl,rfl⟩) (h2 |⟨rfl,h3⟩)
  ·exact hw.inj _ _ _ h1 h2
  ·subst h3;exact absurd h1 (hc _)
  ·exact absurd h2 (hc _)
  ·rfl
 ·intro g hg
  cases hg
 ·rintro b b' (h |⟨rfl,rfl⟩) hd hf
  ·obtain⟨o,o',h1,h2,h3⟩:=hw.live b b' h hd hf
   exact⟨o,o',h1,h2,h3.mono hle⟩
  ·exact absurd rfl hd
 ·rintro b b' (h |⟨rfl,rfl⟩) hd hf
  ·obtain⟨x,x',t,t',f,h1,h2,h3⟩:=hw.Ja b b' h hd hf
   exact⟨x,x',t,t',f,h1,h2,⟨h3.1.mono hle,h3.2⟩⟩
  ·exact absurd rfl hd
 ·rintro b b' (h |⟨rfl,rfl⟩) hd
  ·exact hw.dead b b' h hd
  ·exact⟨hV,hcW⟩
 ·rintro b b' (h |⟨rfl,rfl⟩)
  ·exact hw.low b b' h
  ·have h1:(Xs b F).N<=b:=hpN;have h2:(Xs b F).N<=b':=hcN
   omega
theorem Ac1 {p c:Nat}{F:Nat->Prop}{B:Lk}:Gf (Xs p F) (fun x y=>B x y \/(x=p/\y=c))=Gf (Xs p F) B:=by
 funext x
 apply propext
 constructor
 ·rintro⟨b,h |⟨rfl,rfl⟩,h2,h3⟩
  ·exact⟨b,h,h2,h3⟩
  ·exact absurd rfl h2
 ·rintro⟨b,h,h2,h3⟩
  exact⟨b,.inl h,h2,h3⟩
end
section
open Go.ConcN (sumTo)
open Go.RowKit Go.Conc Co Ok Lr Tl Bar
structure MS (p c m0:Nat)(F:Nat->Prop)(B:Lk)(V W:World)(a a':Act)(b':Frame)(s s':List Item):Prop where
 wr:WR (Xs p F) B V W
 fr:En (Xs p F) B (bM.at a s) (b'.at a' s')
 pc:B p c
 low:∀x y,B x y->m0<=y
theorem Rw {X:Cx}{B:Lk}{p p':Array Value}(h:AR X B p p'){i:Nat}{v:Value}(hv:p[i]?=some v)(hf:(∃k n m,v=.complex k n m)\/∃k n,v=.int k n):p'[i]?=some v:=by
 obtain⟨v',h1,h2⟩:=Wl h hv
 rcases hf with⟨k,n,m,rfl⟩ |⟨k,n,rfl⟩<;>(cases h2;exact h1)
theorem A2x {cx cy d n:Nat}{A4:Int}{ex ey:Nat}(hn:n<=8)(h:∀W,Calls Vp.prog 31 #[.complex .f32 cx cy,.int .i64 d,.int .i64 n] W fun e w'=>e=.returned (.bool true)/\W=w')(hp:∀W,Calls Vp.prog 32 #[.complex .f32 cx cy,.int .i64 d,.int .i64 n,.int .i64 n] W fun e w'=>e=.returned (.complex .f32 ex ey)/\W=w')
 (hf1:(FloatKind.f32.format.order ex 1090519040 == some .gt)=false) (hf2:(FloatKind.f32.format.order ey 1090519040 == some .gt)=false) {base:List Frame} {gs:Array Goroutine} {w:World} {sl:Option (Nat×Nat)} {t:Trace} {q:Nat->Nat}
 (hN:Vp.prog.globals.size<=w.heap.size) (h0:gs[0]?=some (G (Frame.enter Tryz.prog 15 (Yf cx cy d n A4) .normal) base)) (hL:Leavers Tryz.prog t gs q) (hP:Past (fun _=>False) w.heap.size t) :
 ∃gs' w' sl' t' q' B V ww b' a a' e' c L rb ob gS gM,Kn Tryz.prog gs w sl t gs' w' sl' t'/\gs'.size=gs.size+1/\gs'[0]?=some (G (b'.at a' (.inRegion Ez [] :: [.code e'])) base)/\gs'[gs.size]?=some (G (A14 (U8 c cx cy d n A4)) []) /\
  Ko Tryz.prog c 0 gs.size w.heap.size w gs' w' t' q' L (fun _=>False) (fun _=>False)/\L=Gf (Xs w.heap.size fun _=>False) B/\MS w.heap.size c w.heap.size (fun _=>False) B V w' a a' b' [.code mF] [.code e'] /\
  a.tmps.size=71/\a.tmps[8]?=some (.pointer (some ⟨rb,0,none⟩))/\a.tmps[11]?=some (.pointer (some ⟨ob,0,none⟩))/\a.tmps[12]?=some (.chan (some w.heap.size))/\a.defers=[]/\TX ww rb ob cx cy d n (n*n) 0 0 gS gM [] [] V:=by
 obtain⟨N1,gs1,fr1,cs1,w1,W1,sl1,t1,q1,L1,a1,a2,a3,a4,a5,a6,a7,a8,a9,a10⟩:=K5 (A9c (W0:=w) hn h hp hf1 hf2 hN (base:=base)) gs w sl t q h0 (C3 _ _ _) (fun _ h=>h.elim) hL hP
 obtain⟨B,V,ww,b',a,a',k',c,rfl,rfl,hw,har,had,htd,hbk,hbf,hwe,hH,rfl,hB,hch,hcw⟩:=a4;have hch1:w1.heap[c]?=some (.chan 0 #[] false 0 0 false):=by rw[<-a9 rfl];exact hch
 have hc1:c<w1.heap.size:=(Aoz.1 hch1).1;have hnL:¬Gf (Xs w.heap.size fun _=>False) B c:=fun⟨x,h1,_⟩=>(hB x c h1).2.2 rfl
 have al1:=a10 c hnL (A8h hP.seen hcw);obtain⟨rb,ob,gS,gM,g1,g2,g3,g4,g5,g6,g7,g8,g9,g10⟩:=hH;clear g1;have hlt1:∀b,Gf (Xs w.heap.size fun _=>False) B b->b<w1.heap.size:=fun b hb=>Ap6 (WH.hot ⟨V,rfl,hw⟩ b hb) a5.1
 obtain⟨e',rfl,hce⟩:∃e',k'=[.code (.seq (.region 10 Ez false) e')]/\Km (Xs w.heap.size fun _=>False) mF e':=by
  cases htd with
  | cons hx hk =>
    cases hk
    cases hx with
    | code hc =>
      obtain⟨d10,e',ec,hd,he⟩:=hc;obtain rfl:=Ahj (hd.resolve_left (by decide))
      exact⟨e',by rw[ec],he⟩
 have hke:b'.kind≠.early:=by rw[hbk];simp[bM,Go.Conc.base]
 have hs':a'.tmps.size=71:=by rw[<-har.1];exact g2
 obtain⟨N2,gs2,fr2,cs2,w2,W2,sl2,t2,q2,L2,b1,b2,b3,b4,b5,b6,b7,b8,b9,b10⟩:=K5 (A5d (c:=c) (base:=base) (e':=e') (W:=w1) hke hs' (Rw har g4 (.inl ⟨_,_,_,rfl⟩)) (Rw har g5 (.inr ⟨_,_,rfl⟩)) (Rw har g6 (.inr ⟨_,_,rfl⟩)) (Rw har g7 (.inr ⟨_,_,rfl⟩)) hlt1)
  gs1 w1 sl1 t1 q1 a3 (C3 _ _ _) (fun x hx=>by obtain rfl:x=c:=hx;exact hc1) a6 a7
 obtain⟨rfl,rfl,hr12,rfl⟩:=b4;have al2:=b10 c hnL al1;have hr2:Bw (Gf (Xs w.heap.size fun _=>False) B) (fun x=>x=c) w1 w2:=Ao hr12 b5
 have hch2:w2.heap[c]?=some (.chan 0 #[] false 0 0 false):=(hr2.2.1 c (.inr rfl)).trans hch1;obtain⟨N3,gs3,d3,sl3,t3,q3,c1,c2,c3,c4,c5,c6,d4,sl4,c7⟩:=S9 (P:=Tryz.prog) (sumTo gs2.size q2) gs2 w2 sl2 t2 q2 rfl b3 b6 b7;have al3:=c6 c al2;have hleft:=a8.trans b8
 obtain⟨gs4,ops,e1,e0,e2,e3,e4⟩:=A9u (B0:=w.heap.size) (w0:=w) (w:=w2.at d4) (c:=c) (L:=Gf (Xs w.heap.size fun _=>False) B) (sl:=sl4) c3 (Age hke) c4 c5 ⟨0,false,hch2⟩ al3
  (fun x hx=>by
   have hx':=hx;obtain⟨y,hy,_⟩:=hx'
   exact⟨(hB y x hy).2.1,(hB y x hy).2.2,Ap6 (hlt1 x hx) hr2.1⟩) hcw
  ⟨hleft.size,fun x hx=>hleft.kept x hx (fun h=>h),hleft.tape,hleft.os⟩
 have hsz:gs3.size=gs.size:=c2.trans (b2.trans a2)
 have hrun:Kn Tryz.prog gs w sl t gs4 (w2.at d4) sl4 (t3++ops) :=
  (Kn.trans ⟨N1,a1⟩ (Kn.trans ⟨N2,b1⟩ ⟨N3,c1⟩)).trans (Kn.head (by rw[c7];exact e1) .refl)
 have hV:V.heap[w.heap.size]?=some (.cells #[] 0 (0,0)):=by
  have hsz:ww.heap.size=w.heap.size+1:=by rw[hwe];simp[V0]
  rw[g10.O.old.block w.heap.size (by omega),hwe]
  show(w.heap.push _)[w.heap.size]?=_
  rw[Apc,Apb rfl]
 have hw2:WR (Xs w.heap.size fun _=>False) B { V with tape:=w2.tape,drawn:=d4 } (w2.at d4):=by
  refine J6 (W2:=w2.at d4) hw ?_
  rw[Ig]
  refine Ao a5 (Am ?_ d4)
  exact⟨hr2.1,fun x hx=>hr2.2.1 x (hx.elim .inl fun h=>h.elim),hr2.2.2⟩
 have hw3:=Agq (c:=c) hw2 (fun y hy=>by have:=(hB _ _ hy).1;omega) (fun x hx=>(hB _ _ hx).2.2 rfl) ⟨0,hV⟩ (Aoz.1 hch2).1 hN (Ap3 hN hcw)
 have hle:Le B (fun x y=>B x y \/(x=w.heap.size/\y=c)):=fun _ _ h=>.inl h
 have hAR:AR (Xs w.heap.size fun _=>False) (fun x y=>B x y \/(x=w.heap.size/\y=c)) (Jq (.chan (some w.heap.size)) (.complex .f32 cx cy) (.int .i64 d) (.int .i64 n) (.int .i64 A4) a).tmps (Jq (.chan (some c)) (.complex .f32 cx cy) (.int .i64 d) (.int .i64 n) (.int .i64 A4) a').tmps:=by
  have hch:VR (Xs w.heap.size fun _=>False) (fun x y=>B x y \/(x=w.heap.size/\y=c)) (.chan (some w.heap.size)) (.chan (some c)):=.chan (.inr ⟨rfl,rfl⟩)
  unfold Jq
  exact I5 (I5 (I5 (I5 (I5 (I5 (I5 (har.mono hle) _ hch) _ hch) _ hch) _ (.complex _ _ _)) _ (.int _ _)) _ (.int _ _)) _ (.int _ _)
 refine⟨gs4,w2.at d4,sl4,t3++ops,q3,fun x y=>B x y \/(x=w.heap.size/\y=c),{ V with tape:=w2.tape,drawn:=d4 },{ ww with tape:=w2.tape,drawn:=d4 },b',Jq (.chan (some w.heap.size)) (.complex .f32 cx cy) (.int .i64 d) (.int .i64 n) (.int .i64 A4) a,Jq (.chan (some c)) (.complex .f32 cx cy) (.int .i64 d) (.int .i64 n) (.int .i64 A4) a',e',c,Gf (Xs w.heap.size fun _=>False) B,rb,ob,gS,gM,hrun,by rw[e0,hsz],e2,?_,?_,Ac1.symm,⟨hw3,?_,.inr ⟨rfl,rfl⟩,?_⟩,?_,?_,?_,?_,?_,El g10 _ _⟩
 ·rw[<-hsz,e3];obtain⟨z1,z2,z3,z4,z5⟩:=Afz (ch:=.chan (some c)) (v0:=.complex .f32 cx cy) (v1:=.int .i64 d) (v2:=.int .i64 n) (v3:=.int .i64 A4) hs';rw[z1,z2,z3,z4,z5]
  rfl
 ·rw[<-hsz];exact e4
 ·refine Ic hAR ?_ (.cons (.code hce) .nil) hbk hbf
  rw[Lv,Lv,g3,had]
  exact .nil
 ·rintro x y (hxy |⟨_,rfl⟩)
  ·exact(hB x y hxy).2.1
  ·exact hcw
 ·rw[A9l];exact g2
 ·rw[A7n (by omega)];exact g8
 ·rw[A7n (by omega)];exact g9
 ·exact Afy g2
 ·rw[Lv];exact g3
end
section
open Go.RowKit Go.Conc Co Ok Lr Tl Bar
noncomputable def A3e:List Item:=[.code mZ,.inLoop mY,.inBlock 0,.code (.seq A5c .ret)]
def Sm (p c m0 cx cy d n N:Nat)(xs:List Nat)(ys:List Int)(R L:Nat->Prop)(fr:Frame)(cs:List Frame)(W:World):Prop :=
 ∃(F:Nat->Prop) (B:Lk) (V ww:World) (a a':Act) (b':Frame) (k':List Item) (rb ob gS gM:Nat),cs=[]/\fr=b'.at a' (.inRegion Ls [0,1] :: k')/\MS p c m0 F B V W a a' b' A3e k'/\MA rb ob (.chan (some p)) a /\
  TX ww rb ob cx cy d n (n*n) N N gS gM xs ys V/\L=Gf (Xs p F) B/\R=L5 (Xs p F) B
theorem MS.rely {p c m0:Nat}{F:Nat->Prop}{B:Lk}{V W W2:World}{a a':Act}{b':Frame}{s s':List Item}(h:MS p c m0 F B V W a a' b' s s')(hr:Bw (Gf (Xs p F) B) (L5 (Xs p F) B) W W2):MS p c m0 F B { V with tape:=W2.tape,drawn:=W2.drawn } W2 a a' b' s s' :=
 ⟨J6 h.wr hr,h.fr,h.pc,h.low⟩
theorem MS.kind {p c m0:Nat}{F:Nat->Prop}{B:Lk}{V W:World}{a a':Act}{b':Frame}{s s':List Item}(h:MS p c m0 F B V W a a' b' s s'):b'.kind=bM.kind/\b'.fn=bM.fn/\AR (Xs p F) B a.tmps a'.tmps/\Si (Xs p F) B a.defers a'.defers/\Sp (Xs p F) B s s':=by
 obtain⟨_,h1,h2,h3,h4,h5⟩:=Jm h.fr
 exact⟨h4,h5,h1,h2,h3⟩
theorem Aeu {p c:Nat}{F:Nat->Prop}{B:Lk}{V W:World}(hw:WR (Xs p F) B V W)(hpc:B p c){q q':Array Value}(h:AR (Xs p F) B q q'){i:Nat}(hv:q[i]?=some (.chan (some p))):q'[i]?=some (.chan (some c)):=by
 obtain⟨v',h1,h2⟩:=Wl h hv
 cases h2 with
 | chan g=>rw[hw.fn _ _ _ hpc g];exact h1
theorem A3u {p c m0 cx cy d n N:Nat}{xs:List Nat}{ys:List Int}{F:Nat->Prop}{B:Lk}{V W:World}{a a':Act}{b':Frame}{s s':List Item}{base:List Frame}{ww:World}{rb ob gS gM:Nat}(h:MS p c m0 F B V W a a' b' s s')(hm:m0<=W.heap.size)
 (hh:∀τ k,HW Vp.prog s (H12 cx cy d n rb ob (.chan (some p)) gS gM N xs ys { ww with tape:=τ,drawn:=k }) a { V with tape:=τ,drawn:=k }) :
 Co Tryz.prog true base (L5 (Xs p F) B) (fun L fr cs W=>Hj Tryz.prog true base c (.recv Pg) fr cs/\Sm p c m0 cx cy d n N xs ys (L5 (Xs p F) B) L fr cs W) (Gf (Xs p F) B) (b'.at a' s') [] W:=by
 refine(Oc (m:=true) (base:=base) (Mu p F) Te (H:=fun t a V=>∃ww,H12 cx cy d n rb ob (.chan (some p)) gS gM N xs ys ww t a V) (fun t a V τ k h=>by
  obtain⟨w,h1,h2,h3⟩:=h
  exact⟨{ w with tape:=τ,drawn:=k },h1,h2,El h3 τ k⟩) h.wr h.fr fun τ k=>(hh τ k).mono fun t a V x=>⟨_,x⟩).bind ?_
 rintro L fr cs W1 ⟨B1,x,τ,k,hg,⟨hxc,t,a1,hxf,w,hH⟩,hw,hf,hc,rfl,hn1,hm1⟩;rw[hxc]at hc;rw[hxf]at hf
 cases hc
 obtain⟨rfl,hMA,hTX⟩:=hH;have hTX':TX { w with tape:=τ,drawn:=k } rb ob cx cy d n (n*n) N N gS gM xs ys (x.at τ k).V:=El hTX τ k
 clear hTX;generalize (x.at τ k).V=V1 at hw hTX';obtain⟨e1,har,hds,htd,hk,hfn⟩:=Jm hf;obtain⟨d12,k',etd,hd12,hk'⟩:=Q8 htd (by decide)
 obtain rfl:=Ahk hd12;rw[etd]at e1;rw[e1];have hke:fr.kind≠.early:=by rw[hk];simp[bM,Go.Conc.base]
 have hpc:B1 p c:=hg.1 _ _ h.pc;have hIce:=Zm h.wr hg
 have hMS:MS p c m0 F B1 V1 W1 a1 ⟨fr.tmps,fr.defers⟩ fr A3e k':=⟨hw,Ic har hds hk' hk hfn,hpc,fun x y hxy=>by
  rcases hg.2 x y hxy with h1 |⟨_,h1⟩
  ·exact h.low _ _ h1
  ·exact Ap3 hm h1⟩
 have hch:=Aeu hw hpc har hMA.t54
 refine Co.region (WH.hot ⟨V1,rfl,hw⟩) fun W2 hr2=>?_
 rw[Aip];rw[<-hIce]at hr2
 refine .stop ⟨A6e hke (A1u hch),F,B1,_,{ w with tape:=W2.tape,drawn:=W2.drawn },a1,⟨fr.tmps,fr.defers⟩,fr,k',rb,ob,gS,gM,rfl,rfl,hMS.rely hr2,hMA,El hTX' _ _,rfl,hIce.symm⟩
end
section
open Go.RowKit Go.Conc Co Ok Lr Tl Bar
theorem Abq {X:Cx}{xs:List Nat}:∀v∈((xs.map Dd).toArray:Array Value),Flat X v:=by
 intro v hv;rw[Aqd,Aq5]at hv;obtain⟨x,_,rfl⟩:=hv
 exact fun B=>.float _ _
theorem Abr {X:Cx}{xs:List Int}:∀v∈((xs.map Ax).toArray:Array Value),Flat X v:=by
 intro v hv;rw[Aqd,Aq5]at hv;obtain⟨x,_,rfl⟩:=hv
 exact fun B=>.int _ _
theorem Abp {b':Frame}{a':Act}{k':List Item}{v:Value}:(b'.at a' (.inRegion Ls [0,1] :: k')).finish v=b'.at (a'.put (some 55) v) (.inRegion Ls [1] :: k'):=by
 obtain⟨o,ho,_,hd,_⟩:=Acu;rw[<-hd,Frame.finish_at,ho]
 rfl
theorem MA.Akw {rb ob:Nat}{ch v x:Value}{a:Act}(h:MA rb ob ch a):MA rb ob ch ((a.put (some 55) v).put (some 56) x):=by
 obtain⟨h1,h2,h3,h4,h5,h6⟩:=h
 refine⟨?_,?_,?_,?_,?_,h6⟩
 ·rw[F5,F5];exact h1
 all_goals rw[Cz (by decide),Cz (by decide)]
 ·exact h2
 ·exact h3
 ·exact h4
 ·exact h5
theorem Sq {p c m0:Nat}{F:Nat->Prop}{B:Lk}{V W:World}{a a':Act}{b':Frame}{k':List Item}{base:List Frame}{Post:(Nat->Prop)->Frame->List Frame->World->Prop}{vV vW:Value}{y:Bool}
 (h:MS p c m0 F B V W a a' b' A3e k') (hs:a.tmps.size=71) (hv:VR (Xs p F) B vV vW)
 (k:∀(τ:Tape) (d:Nat) (W2:World),W.heap.size<=W2.heap.size->MS p c m0 F B { V with tape:=τ,drawn:=d } W2 ((a.put (some 55) (.tuple #[vV,.bool y])).put (some 56) (.bool y)) ((a'.put (some 55) (.tuple #[vW,.bool y])).put (some 56) (.bool y)) b' A3e k' ->
  Co Tryz.prog true base (L5 (Xs p F) B) Post (Gf (Xs p F) B) (b'.at ((a'.put (some 55) (.tuple #[vW,.bool y])).put (some 56) (.bool y)) k') [] W2) :
 Co Tryz.prog true base (L5 (Xs p F) B) Post (Gf (Xs p F) B) ((b'.at a' (.inRegion Ls [0,1] :: k')).finish (.tuple #[vW,.bool y])) [] W:=by
 obtain⟨hk,hfn,har,hds,htd⟩:=h.kind;have hke:b'.kind≠.early:=by rw[hk];simp[bM,Go.Conc.base]
 have hs':a'.tmps.size=71:=by rw[<-har.1];exact hs
 obtain⟨o,ho,hop,hd,hg⟩:=Ai5;rw[Abp];have l0:∀b,Gf (Xs p F) B b->b<W.heap.size:=WH.hot ⟨V,rfl,h.wr⟩
 refine Co.val ho hg hke (V8 (Ru (by omega)) hop) l0 fun W1 r1=>?_
 rw[hd]
 refine Co.Jr (Er l0 r1) fun W2 r2=>?_
 have r:=Ao r1 r2
 refine k W2.tape W2.drawn W2 r.1 ⟨J6 h.wr r,Ic (I5 (I5 har _ (.tuple (p:=#[vV,.bool y]) (p':=#[vW,.bool y]) rfl fun i v v' h1 h2=>?_)) _ (.bool y)) hds htd hk hfn,h.pc,h.low⟩
 match i with
 | 0=>cases h1;cases h2;exact hv
 | 1=>cases h1;cases h2;exact .bool y
 | i+2=>cases h1
theorem A9n {p c m0 cx cy d n N i:Nat}{xs:List Nat}{ys:List Int}{st:Nat->Nat->Int}{sm:Nat->Nat->Nat}{R L Lb R':Nat->Prop}{fr:Frame}{cs base:List Frame}{W1 Wb w:World}{v:Value}(hn:n<=8)(hN:N+n<=n*n)
 (hP:Sm p c m0 cx cy d n N xs ys R L fr cs W1) (hr:Bw L R W1 w) (row:A0y n st sm i v R' Wb) (hrb:Bw Lb R Wb w) (hsub:∀x,R' x->Lb x) (hdb:∀x,Lb x->¬L x/\¬R x/\x≠c/\m0<=x) (hNm:Vp.prog.globals.size<=m0) (hmw:m0<=w.heap.size) :
 cs=[]/\Co Tryz.prog true base (fun x=>R x\/R' x) (fun L fr cs W=>Hj Tryz.prog true base c (.recv Pg) fr cs/\Sm p c m0 cx cy d n (N+n) (xs ++(List.range n).map (sm i)) (ys ++(List.range n).map (st i)) (fun x=>R x\/R' x) L fr cs W) L (fr.finish (.tuple #[v,.bool true])) [] w:=by
 obtain⟨F,B,V0,ww0,a,a',b',k',rb,ob,gS,gM,rfl,rfl,hMS,hMA,hTX,rfl,rfl⟩:=hP
 refine⟨rfl,?_⟩
 have hMS:=hMS.rely hr;have hTX:TX { ww0 with tape:=w.tape,drawn:=w.drawn } rb ob cx cy d n (n*n) N N gS gM xs ys { V0 with tape:=w.tape,drawn:=w.drawn }:=El hTX _ _
 generalize ({ V0 with tape:=w.tape,drawn:=w.drawn }:World)=V at hMS hTX
 generalize ({ ww0 with tape:=w.tape,drawn:=w.drawn }:World)=ww at hTX
 obtain⟨sb,mb,f,g,rfl,hne,hR',hs,hm⟩:=row;have rs:R' sb:=(hR' sb).2 (.inl rfl);have rm:R' mb:=(hR' mb).2 (.inr rfl);have hs:=(hrb.2.1 sb (.inl (hsub _ rs))).trans hs;have hm:=(hrb.2.1 mb (.inl (hsub _ rm))).trans hm;have hw:=hMS.wr
 have unl:∀s,R' s->∀b,¬B b s:=by
  intro s hs b hb;have:=hdb s (hsub s hs)
  by_cases hd:b=p
  ·subst hd;exact this.2.2.1 (hw.fn _ _ _ hb hMS.pc)
  by_cases hf:F b
  ·exact this.2.1 ⟨b,hb,hd,hf⟩
  ·exact this.1 ⟨b,hb,hd,hf⟩
 have l1:=A89 (O7 p F fun b=>F b\/b=V.heap.size) hw (unl sb rs) hs Abq (Ap3 hNm (hdb _ (hsub _ rs)).2.2.2) (fun _=>.rfl)
 have unl2:∀b,¬((fun b b'=>B b b' \/(b=V.heap.size/\b'=sb)) b mb):=by
  rintro b (hb |⟨_,hb⟩)
  ·exact unl mb rm b hb
  ·exact hne hb.symm
 have l2:=A89 (O7 p _ fun b=>(F b\/b=V.heap.size)\/b=V.heap.size+1) l1 unl2 hm Abr (Ap3 hNm (hdb _ (hsub _ rm)).2.2.2) (fun b=>by rw[Ath];exact .rfl)
 generalize hB2:(fun b b'=>(B b b' \/(b=V.heap.size/\b'=sb)) \/(b=({ V with heap:=V.heap.push (.cells (((List.range n).map (sm i)).map Dd).toArray 74 (0,(((List.range n).map (sm i)).map Dd).toArray.size)) }:World).heap.size/\b'=mb):Lk)=B2 at l2
 have l3:=l2;clear l2
 have hB2:∀x y,B2 x y↔(B x y \/(x=V.heap.size/\y=sb)) \/(x=V.heap.size+1/\y=mb):=fun x y=>by
  rw[<-hB2,Ath]
 have hle:Le B B2:=fun x y h=>(hB2 x y).2 (.inl (.inl h))
 have hpV:p<V.heap.size:=hw.Wx p rfl
 have eH:Gf (Xs p fun b=>(F b\/b=V.heap.size)\/b=V.heap.size+1) B2=Gf (Xs p F) B:=by
  funext x
  apply propext
  constructor
  ·rintro⟨b,h1,h2,h3⟩
   rcases(hB2 b x).1 h1 with(h |⟨rfl,_⟩) |⟨rfl,_⟩
   ·exact⟨b,h,h2,fun f=>h3 (.inl (.inl f))⟩
   ·exact absurd (.inl (.inr rfl)) h3
   ·exact absurd (.inr rfl) h3
  ·rintro⟨b,h1,h2,h3⟩;have:=hw.Xl h1
   refine⟨b,hle _ _ h1,h2,?_⟩
   rintro((h|rfl)|rfl)
   ·exact h3 h
   ·omega
   ·omega
 have eI:L5 (Xs p fun b=>(F b\/b=V.heap.size)\/b=V.heap.size+1) B2=fun x=>L5 (Xs p F) B x\/R' x:=by
  funext x
  apply propext
  constructor
  ·rintro⟨b,h1,h2,h3⟩
   rcases(hB2 b x).1 h1 with(h |⟨_,rfl⟩) |⟨_,rfl⟩
   ·have:=hw.Xl h
    rcases h3 with(h3|rfl)|rfl
    ·exact .inl ⟨b,h,h2,h3⟩
    ·omega
    ·omega
   ·exact .inr rs
   ·exact .inr rm
  ·rintro(⟨b,h1,h2,h3⟩|h)
   ·exact⟨b,hle _ _ h1,h2,.inl (.inl h3)⟩
   ·rcases(hR' x).1 h with rfl|rfl
    ·exact⟨V.heap.size,(hB2 _ _).2 (.inl (.inr ⟨rfl,rfl⟩)),fun e=>by have e:V.heap.size=p:=e;omega,.inl (.inr rfl)⟩
    ·exact⟨V.heap.size+1,(hB2 _ _).2 (.inr ⟨rfl,rfl⟩),fun e=>by have e:V.heap.size+1=p:=e;omega,.inr rfl⟩
 rw[<-eI,<-eH]
 have hMS2:MS p c m0 (fun b=>(F b\/b=V.heap.size)\/b=V.heap.size+1) B2 _ w a a' b' A3e k' :=
  ⟨l3,(hMS.fr.mono hle).cx (O7 p F _),hle _ _ hMS.pc,fun x y hxy=>by
   rcases(hB2 x y).1 hxy with(h |⟨_,rfl⟩) |⟨_,rfl⟩
   ·exact hMS.low _ _ h
   ·exact(hdb _ (hsub _ rs)).2.2.2
   ·exact(hdb _ (hsub _ rm)).2.2.2⟩
 have hTX2:TX ww rb ob cx cy d n (n*n) N N gS gM xs ys ((V.alloc (.cells (((List.range n).map (sm i)).map Dd).toArray 74 (0,(((List.range n).map (sm i)).map Dd).toArray.size))).alloc (.cells (((List.range n).map (st i)).map Ax).toArray 3 (0,(((List.range n).map (st i)).map Ax).toArray.size))):=(hTX.alloc _).alloc _;have hob:ob<V.heap.size:=(Aoz.1 hTX.O.blk).1;have hgS:gS<V.heap.size:=(hTX.S.lt gS rfl).2;have hgM:gM<V.heap.size:=(hTX.M.lt gM rfl).2
 refine Sq (vV:=.agg #[.slice (some ⟨V.heap.size,0,none⟩) n n,.slice (some ⟨V.heap.size+1,0,none⟩) n n]) hMS2 hMA.size (.agg rfl fun j v v' h1 h2=>?_) fun τ k W2 hsz hM=>?_
 ·match j with
  | 0=>cases h1;cases h2;exact .slice _ _ ⟨⟨(hB2 _ _).2 (.inl (.inr ⟨rfl,rfl⟩)),fun e=>by have e:V.heap.size=p:=e;omega⟩,⟨rfl,Aq1 _⟩,rfl⟩
  | 1=>cases h1;cases h2;exact .slice _ _ ⟨⟨(hB2 _ _).2 (.inr ⟨rfl,rfl⟩),fun e=>by have e:V.heap.size+1=p:=e;omega⟩,⟨rfl,Aq1 _⟩,rfl⟩
  | j+2=>cases h1
 ·refine A3u (ww:=ww) (rb:=rb) (ob:=ob) (gS:=gS) (gM:=gM) hM (Ap3 hmw hsz) fun τ' k'=>?_
  refine Afc (sb:=V.heap.size) (mb:=V.heap.size+1) (fz:=(0,(((List.range n).map (sm i)).map Dd).toArray.size)) (fu:=(0,(((List.range n).map (st i)).map Ax).toArray.size)) hn hN hMA.Akw ?_ ?_ (El hTX2 τ' k') (by simp) (by simp) ?_ ?_ ⟨by omega,by omega⟩ ⟨by omega,by omega,by omega⟩
  ·rw[Cz (by decide)]
   exact Apa (by rw[hMA.size];decide)
  ·exact Apa (by rw[F5,hMA.size];decide)
  ·show((V.heap.push _).push _)[V.heap.size]?=_
   rw[Apc,Ap8 (by rw[Ath];omega),Apc,Apb rfl]
  ·show((V.heap.push _).push _)[V.heap.size+1]?=_
   rw[Apc,Apb (by rw[Ath])]
end
section
open Go.RowKit Go.Conc Co Ok Lr Tl Bar
theorem P6 {t:Array Value}{V:World}{rb:Nat}{v0 v1 v2 v3 v4 x:Value}(h8:t[8]?=some (.pointer (some ⟨rb,0,none⟩)))(h9:t[9]?=some x)
 (h:V.cell? ⟨rb,0,none⟩=some v0/\V.cell? ⟨rb,1,none⟩=some v1/\V.cell? ⟨rb,2,none⟩=some v2/\V.cell? ⟨rb,3,none⟩=some v3/\V.cell? ⟨rb,4,none⟩=some v4):(results Vp.fT t).run Vp.prog V=.ok (.tuple #[.agg #[v0,v1,v2,v3,v4],x]) V:=by
 obtain⟨c0,c1,c2,c3,c4⟩:=h;have hr:Vp.fT.results=#[.cell 8 35,.tmp 9]:=by rw[Vp.P5];rfl
 unfold results;rw[hr];simp[go_sem,loadVar,Apn,h8,h9,c0,c1,c2,c3,c4]
def N9 (cx cy d n:Nat)(Ca:Bool)(xs:List Nat)(ys:List Int)(v:Value)(V:World):Prop :=
 if Ca then ∃gS gM,v=.tuple #[.agg (Bz cx cy d n (.slice (some ⟨gS,0,none⟩) (n*n) (n*n)) (.slice (some ⟨gM,0,none⟩) (n*n) (n*n))),.bool true]/\V.heap[gS]?=some (.cells (xs.map Dd).toArray 74 (0,0))/\V.heap[gM]?=some (.cells (ys.map Ax).toArray 3 (0,0))
 else v=.tuple #[.agg (Bz 0 0 0 0 (.slice none 0 0) (.slice none 0 0)),.bool false]
theorem A2m {cx cy d n:Nat}{Ca:Bool}{xs:List Nat}{ys:List Int}{w V:World}{t:List Item}{a:Act}(h:Rc cx cy d n Ca xs ys w t a V) :
 ∃v,Frame.leaving Vp.prog { bM.at a t with mode:=.returning } V (.returned v)/\N9 cx cy d n Ca xs ys v V:=by
 obtain⟨rb,rest,_,hd,h8,h9,_,h⟩:=h
 cases Ca with
 | false =>
   rw[Ap8 (by simp)]at h
   exact⟨_,⟨rfl,hd,rfl,Vp.fT,Vp.Ql,P6 h8 h9 h.Ad⟩,rfl⟩
 | true =>
   rw[Apb rfl]at h;obtain⟨gS,gM,hb,hS,hM⟩:=h
   exact⟨_,⟨rfl,hd,rfl,Vp.fT,Vp.Ql,P6 h8 h9 hb.Ad⟩,gS,gM,rfl,Ow hS,Ow hM⟩
theorem Tn {cx cy d n:Nat}{Ca:Bool}{xs:List Nat}{ys:List Int}{w V:World}{t:List Item}{a:Act}(h:Rc cx cy d n Ca xs ys w t a V)(τ:Tape)(k:Nat):Rc cx cy d n Ca xs ys { w with tape:=τ,drawn:=k } t a { V with tape:=τ,drawn:=k }:=by
 obtain⟨rb,rest,h1,hd,h8,h9,h10,h⟩:=h
 refine⟨rb,rest,h1,hd,h8,h9,h10,?_⟩
 cases Ca with
 | false =>
   rw[Ap8 (by simp)]at h ⊢
   exact Ji h τ k
 | true =>
   rw[Apb rfl]at h ⊢;obtain⟨gS,gM,hb,hS,hM⟩:=h
   exact⟨gS,gM,Ji hb τ k,hS,hM⟩
theorem A2l {p cx cy d n:Nat}{Ca:Bool}{xs:List Nat}{ys:List Int}{F:Nat->Prop}{B:Lk}{V W:World}{fr:Frame}{a:Act}{s:List Item}{base:List Frame}(hw:WR (Xs p F) B V W)(hf:En (Xs p F) B (bM.at a s) fr)
 (hh:∀τ k,∃ww:World,HW Vp.prog s (Rc cx cy d n Ca xs ys ww) a { V with tape:=τ,drawn:=k }) :
 Co Tryz.prog true base (L5 (Xs p F) B) (N7 (Xs p F) V.heap.size W.heap.size B (Fin Vp.prog (N9 cx cy d n Ca xs ys))) (Gf (Xs p F) B) fr [] W:=by
 refine(Oc (m:=true) (base:=base) (Mu p F) Te (H:=fun t a V=>∃ww,Rc cx cy d n Ca xs ys ww t a V) (fun t a V τ k ⟨w,h⟩=>⟨_,Tn h τ k⟩) hw hf fun τ k=>by
  obtain⟨ww,h⟩:=hh τ k
  exact h.mono fun t a V x=>⟨ww,x⟩).bind ?_
 rintro L fr1 cs W1 ⟨B1,x,τ,k,hg,⟨hxc,t,a1,hxf,ww,hH⟩,hw1,hf1,hc,rfl,hn1,hm1⟩;rw[hxc]at hc;rw[hxf]at hf1
 cases hc
 obtain⟨rb,rest,et,_⟩:=id hH;have hH2:=Tn hH τ k;obtain⟨e1,har,hds,htd,hk,hfn⟩:=Jm hf1
 obtain⟨k',etd,hk'⟩:∃k',fr1.todo=.code .ret :: k'/\Sp (Xs p F) B1 rest k':=by
  rw[et]at htd;generalize fr1.todo=q at htd
  cases htd with
  | cons hi hk =>
    cases hi with
    | code hc =>
      have hc:=hc
      exact⟨_,by rw[show _=Code.ret from hc],hk⟩
 rw[etd]at e1;rw[e1];have hIce:=Zm hw hg;have l0:=WH.hot (X:=Xs p F) (B:=B1) ⟨(x.at τ k).V,rfl,hw1⟩
 refine Co.ctl (fr1:={ fr1.at ⟨fr1.tmps,fr1.defers⟩ (.code .ret :: k')with mode:=.returning }) (cs1:=[]) l0 (fun _=>stepG_ret') fun W2 hr2=>.stop ?_
 rw[<-hIce]at hr2;obtain⟨v,hv,hq⟩:=A2m hH
 refine⟨B1,⟨{ bM.at a1 t with mode:=.returning },[],x.V⟩,W2.tape,W2.drawn,hg,⟨rfl,v,hv,hq⟩,J6 (V:=(x.at τ k).V) hw1 hr2,?_,.nil,rfl,hn1,Ap3 hm1 hr2.1⟩
 have:=hf1.Uz .returning;rw[e1]at this
 exact this
end
namespace Co
open Go.Conc Tl Lr Bar
theorem Pz {P:Program}{gs:Array Goroutine}{w w1:World}{sl:Option (Nat×Nat)}{t:Trace}{q:Nat->Nat}{fr fr1:Frame}{cs cs1:List Frame}{n:Array Event}{L L1 R:Nat->Prop}
 (h0:gs[0]?=some (G fr cs)) (hst:stepG P true (G fr cs) w=.go (G fr1 cs1) w1 n) (hdid:Did L R w L1 w1 n) (hR:∀b,R b->b<w.heap.size) (hL:Leavers P t gs q) (hP:Past (fun _=>False) w.heap.size t) :
 ∃gs' ops,runT P (crowd gs w sl) 0=(.next (crowd gs' w1 sl),ops)/\gs'.size=gs.size/\gs'[0]?=some (G fr1 cs1)/\Leavers P (t++ops) gs' q/\Past (fun _=>False) w1.heap.size (t++ops):=by
 have hrunT:=runT_crowd_go (P:=P) (sl:=sl) (i:=0) h0 (show stepG P (0 == 0) (G fr cs) w=_ from hst);have hlt:0<gs.size:=(Aoz.1 h0).1
 refine⟨_,_,hrunT,by simp,Apa (by simpa using hlt),⟨fun j x hj hx=>?_,fun j hj=>?_⟩,(hP.mono hdid.size).own fun e he=>Og (hdid.evs e he) hdid.lt fun b hb=>Ap6 (hR b hb) hdid.size⟩
 ·have hne:0≠j:=by omega
  rw[Ap1 hne,Aq8]at hx;obtain⟨y,hy,rfl⟩:=Ape.1 hx;have hq:=hL.old j y hj hy;rw[woken_quitsD hq,Deaf_other t (by omega) _ (fun op hop=>by obtain⟨e,_,rfl⟩:=Go.Conc.mem_ofEvents hop;rfl)]
  exact hq
 ·rw[Deaf_other t (g':=0) (by simp at hj;omega) _ (fun op hop=>by obtain⟨e,_,rfl⟩:=Go.Conc.mem_ofEvents hop;rfl)]
  exact hL.above j (by simpa using hj)
end Co
section
open Go.RowKit Go.Conc Co Ok Lr Tl Bar
def rowsOf {α:Type}(n:Nat)(f:Nat->Nat->α)(i:Nat):List α:=(List.range i).flatMap fun j=>(List.range n).map (f j)
theorem Ha {α:Type}(n:Nat)(f:Nat->Nat->α)(i:Nat):rowsOf n f (i+1)=rowsOf n f i ++(List.range n).map (f i):=by
 unfold rowsOf;rw[List.range_succ,Auv];simp
structure Aei (p c m0 b cx cy d n:Nat)(st:Nat->Nat->Int)(sm:Nat->Nat->Nat)(w0:World)(base:List Frame)(i k:Nat)(gs:Array Goroutine)(w:World)(t:Trace)(q:Nat->Nat)(La Lb R:Nat->Prop)(fra frb:Frame)(csa csb:List Frame)(Wa Wb:World):Prop where
 A:Co Tryz.prog true base R (fun L fr cs W=>Hj Tryz.prog true base c (.recv Pg) fr cs/\Sm p c m0 cx cy d n (i*n) (rowsOf n sm i) (rowsOf n st i) R L fr cs W) La fra csa Wa
 S:Qa c n st sm k Lb R frb csb Wb
 sit:Ko Tryz.prog c 0 b m0 w0 gs w t q La Lb R
 ga:gs[0]?=some (G fra (csa++base))
 gb:gs[b]?=some (G frb (csb++[]))
 ra:Bw La R Wa w
 rb:Bw Lb R Wb w
theorem Xx {p c m0 b cx cy d n:Nat}{st:Nat->Nat->Int}{sm:Nat->Nat->Nat}{w0:World}{base:List Frame}(hn:n<=8)(hNm:Vp.prog.globals.size<=m0):∀(k i:Nat),i+k=n->∀{gs:Array Goroutine} {w:World} {sl:Option (Nat×Nat)} {t:Trace} {q:Nat->Nat} {La Lb R:Nat->Prop} {fra frb:Frame} {csa csb:List Frame} {Wa Wb:World},
 Aei p c m0 b cx cy d n st sm w0 base i k gs w t q La Lb R fra frb csa csb Wa Wb ->
 ∃gs' w' sl' t' q' La' Lb' R' fra' frb' csa' csb' Wa' Wb',Kn Tryz.prog gs w sl t gs' w' sl' t'/\gs'.size=gs.size/\Aei p c m0 b cx cy d n st sm w0 base n 0 gs' w' t' q' La' Lb' R' fra' frb' csa' csb' Wa' Wb'
 | 0,i,hi,gs,w,sl,t,q,La,Lb,R,fra,frb,csa,csb,Wa,Wb,h=>by
   obtain rfl:i=n:=by omega
   exact⟨gs,w,sl,t,q,La,Lb,R,fra,frb,csa,csb,Wa,Wb,.refl,rfl,h⟩
 | k+1,i,hi,gs,w,sl,t,q,La,Lb,R,fra,frb,csa,csb,Wa,Wb,h=>by
   have hbz:(b == 0)=false:=by have:=h.sit.ne;simp;omega
   have hS:=h.S;unfold Qa at hS
   obtain⟨gs1,w1,sl1,t1,q1,La1,fra1,csa1,Wa1,Lb1,frb1,csb1,Wb1,v,m1,m2,m3,m4,m5,m6,m7,m8,m9⟩:=meet (a:=0) (b:=b) (baseb:=[]) (z:=Pg)
    (KA:=fun L fr cs W=>Sm p c m0 cx cy d n (i*n) (rowsOf n sm i) (rowsOf n st i) R L fr cs W)
    (KB:=fun v L fr cs W=>∃R',A0y n st sm (n-(k+1)) v R' W /\(∀x,R' x->L x)/\∀W2,Bw (fun x=>L x/\¬R' x) (fun x=>R x\/R' x) W W2->Qa c n st sm k (fun x=>L x/\¬R' x) (fun x=>R x\/R' x) (fr.finish undef) cs W2)
    h.A (by rw[hbz];exact hS.mono fun L fr cs W ⟨v,z,x,y⟩=>⟨v,z,x,y⟩) (sl:=sl) h.sit h.ga h.gb h.ra h.rb
   obtain⟨R',hrow,hsub,hnext⟩:=m8;have s0:=m9 (fun _=>False) fun x hx=>hx.elim
   have s1:=m9 R' hsub;have hii:n-(k+1)=i:=by omega
   rw[hii]at hrow;have hle:(i+1)*n<=n*n:=Ap2 n (by omega)
   obtain⟨rfl,hA⟩:=A9n (base:=base) hn (by rw[Arb]at hle;exact hle) m7 m5 hrow m6 hsub (fun x hx=>by
    obtain⟨g1,g2,g3,_⟩:=s0.db x ⟨hx,id⟩
    exact⟨g1,fun y=>g2 (.inl y),g3,s0.low x (.inr (.inl ⟨hx,id⟩))⟩) hNm s0.kept.1
   rw[<-Ha,<-Ha,<-Arb]at hA
   have hrel:Bw (fun x=>Lb1 x/\¬R' x) (fun x=>R x\/R' x) Wb1 w1:=⟨m6.1,fun x hx=>m6.2.1 x (by
    rcases hx with hx|hx|hx
    ·exact .inl hx.1
    ·exact .inr hx
    ·exact .inl (hsub x hx)),m6.2.2⟩
   obtain⟨gs',w',sl',t',q',La',Lb',R2,fra',frb',csa',csb',Wa',Wb',n1,n2,n3⟩:=Xx hn hNm k (i+1) (by omega) (sl:=sl1)
    (⟨hA,hnext w1 hrel,s1,m3,m4,C3 _ _ _,C3 _ _ _⟩:Aei p c m0 b cx cy d n st sm w0 base (i+1) k gs1 w1 t1 q1 La1 (fun x=>Lb1 x/\¬R' x) (fun x=>R x\/R' x) _ _ [] csb1 w1 w1)
   exact⟨gs',w',sl',t',q',La',Lb',R2,fra',frb',csa',csb',Wa',Wb',m1.trans n1,n2.trans m2,n3⟩
end
section
open Go.ConcN (sumTo)
open Go.RowKit Go.Conc Co Ok Lr Tl Bar
theorem A02 {X:Cx}{n m m':Nat}{B0:Lk}{F:St->Prop}{L:Nat->Prop}{fr:Frame}{cs:List Frame}{W:World}(h:N7 X n m' B0 F L fr cs W)(hm:m<=m'):N7 X n m B0 F L fr cs W:=by
 obtain⟨B,x,τ,d,h1,h2,h3,h4,h5,h6,h7,h8⟩:=h
 exact⟨B,x,τ,d,⟨h1.1,fun b b' h=>(h1.2 b b' h).imp id fun y=>⟨y.1,Ap3 hm y.2⟩⟩,h2,h3,h4,h5,h6,h7,Ap3 hm h8⟩
def Wk (cx cy d n:Nat)(xs:List Nat)(ys:List Int)(m0:Nat)(v:Value)(W:World):Prop :=
 ∃gS gM,v=.tuple #[.agg (Bz cx cy d n (.slice (some ⟨gS,0,none⟩) (n*n) (n*n)) (.slice (some ⟨gM,0,none⟩) (n*n) (n*n))),.bool true]/\m0<=gS/\m0<=gM/\gS≠gM/\W.heap[gS]?=some (.cells (xs.map Dd).toArray 74 (0,0))/\W.heap[gM]?=some (.cells (ys.map Ax).toArray 3 (0,0))
theorem Y6 {X:Cx}{B:Lk}{g l k:Nat}{v:Value}(h:VR X B (.slice (some ⟨g,0,none⟩) l k) v):∃g',B g g'/\¬X.D g/\v=.slice (some ⟨g',0,none⟩) l k:=by
 cases h with
 | @slice _ ad _ _ h =>
   obtain⟨⟨h1,h2⟩,⟨h3,_⟩,h4⟩:=h;obtain⟨x,y,z⟩:=ad;dsimp only at h1 h3 h4;subst h3 h4
   exact⟨x,h1,h2,rfl⟩
theorem Ae8 {p m0 cx cy d n:Nat}{F:Nat->Prop}{xs:List Nat}{ys:List Int}{B:Lk}{V W:World}{v v':Value}(hq:N9 cx cy d n true xs ys v V)(hv:VR (Xs p F) B v v')(hw:WR (Xs p F) B V W)(hl:∀x y,B x y->m0<=y)(hx:0<xs.length)(hy:0<ys.length):Wk cx cy d n xs ys m0 v' W:=by
 unfold N9 at hq;rw[Apb rfl]at hq;obtain⟨gS,gM,rfl,hS,hM⟩:=hq
 cases hv with
 | @tuple _ q hs hi =>
   obtain⟨q0,h0⟩:∃q0,q[0]?=some q0:=⟨_,Ap5 (by rw[<-hs];simp)⟩
   obtain⟨q1,h1⟩:∃q1,q[1]?=some q1:=⟨_,Ap5 (by rw[<-hs];simp)⟩
   have hq:q=#[q0,q1]:=by
    apply Asn
    intro i
    match i with
    | 0=>exact h0
    | 1=>exact h1
    | i+2=>rw[Asm (by rw[<-hs];simp)];rfl
   have r1:=hi 1 _ _ rfl h1
   cases r1
   have r0:=hi 0 _ _ rfl h0;subst hq;clear hi h0 h1
   cases r0 with
   | @agg _ u hs' hi =>
     have z:∀i,i<5->∃x,u[i]?=some x:=fun i h=>⟨_,Ap5 (by rw[<-hs'];exact h)⟩
     obtain⟨u0,z0⟩:=z 0 (by decide)
     obtain⟨u1,z1⟩:=z 1 (by decide)
     obtain⟨u2,z2⟩:=z 2 (by decide)
     obtain⟨u3,z3⟩:=z 3 (by decide)
     obtain⟨u4,z4⟩:=z 4 (by decide)
     have hu:u=#[u0,u1,u2,u3,u4]:=by
      apply Asn
      intro i
      match i with
      | 0=>exact z0
      | 1=>exact z1
      | 2=>exact z2
      | 3=>exact z3
      | 4=>exact z4
      | i+5=>rw[Asm (by rw[<-hs'];simp[Bz])];rfl
     have y0:=hi 0 _ _ rfl z0;have y1:=hi 1 _ _ rfl z1;have y2:=hi 2 _ _ rfl z2;obtain⟨gS',b1,d1,rfl⟩:=Y6 (hi 3 _ _ rfl z3);obtain⟨gM',b2,d2,rfl⟩:=Y6 (hi 4 _ _ rfl z4)
     cases y0
     cases y1
     cases y2
     subst hu;obtain⟨_,C1,w1,a1⟩:=V7 hw b1 d1 hS (by simpa using hx)
     obtain⟨_,C2,w2,a2⟩:=V7 hw b2 d2 hM (by simpa using hy)
     have e1:=Rq a1 (fun v hv=>by
      rw[Aqd,Aq5]at hv;obtain⟨x,_,rfl⟩:=hv
      exact .inl ⟨x,rfl⟩)
     have e2:=Rq a2 (fun v hv=>by
      rw[Aqd,Aq5]at hv;obtain⟨x,_,rfl⟩:=hv
      exact .inr ⟨x,rfl⟩)
     subst e1 e2
     refine⟨gS',gM',rfl,hl _ _ b1,hl _ _ b2,fun e=>?_,w1,w2⟩
     subst e;rw[w1]at w2;injection w2 with w2
     injection w2 with _ w2
     cases w2
end
section
open Go.RowKit
attribute [local go_sem ↓] Go.wp_at_zero Go.wp_at_succ
attribute [local go_sem] A7 A5
def Kg {α:Type}(s:Nat)(f:Nat->Nat->α)(k l:Nat):List α:=rowsOf s f k ++(List.range l).map (f k)
theorem A03 {α:Type}(s:Nat)(f:Nat->Nat->α)(k:Nat):Kg s f k 0=rowsOf s f k:=by unfold Kg;simp
theorem Mm {α:Type}(s:Nat)(f:Nat->Nat->α)(k l:Nat):Kg s f k l++[f k l]=Kg s f k (l+1):=by unfold Kg;rw[List.range_succ,Aq2,Ari];rfl
theorem Oy {α:Type}(s:Nat)(f:Nat->Nat->α)(k:Nat):Kg s f k s=rowsOf s f (k+1):=by unfold Kg;rw[Ha]
structure Aap (cx cy d s:Nat)(A4:Int)(ok:Nat->Nat->Bool)(b0 b1 b2 b3:Nat->Nat->Int)(px py:Nat->Nat->Nat)(st:Nat->Nat->Int)(sm:Nat->Nat->Nat):Prop where
 box:∀i j:Nat,i<s->j<s->∀W,Calls Vp.prog 45 #[.complex .f32 cx cy,.int .i64 d,.int .i64 i,.int .i64 j] W fun e w'=>e=.returned (.tuple #[.agg #[.int .i64 (b0 i j),.int .i64 (b1 i j),.int .i64 (b2 i j),.int .i64 (b3 i j)],.bool (ok i j)])/\Below W.heap.size W w'
 state:∀i j:Nat,i<s->j<s->ok i j=true->∀W,Calls Vp.prog 46 #[.agg #[.int .i64 (b0 i j),.int .i64 (b1 i j),.int .i64 (b2 i j),.int .i64 (b3 i j)],.int .i64 A4] W fun e w'=>e=.returned (.tuple #[.int .i64 (st i j),.bool true])/\Below W.heap.size W w'
 Ah0:∀i j:Nat,i<s->j<s->∀W,Calls Vp.prog 48 #[.complex .f32 cx cy,.int .i64 d,.int .i64 i,.int .i64 j] W fun e w'=>e=.returned (.complex .f32 (px i j) (py i j))/\W=w'
 Io:∀i j:Nat,i<s->j<s->ok i j=true->∀W,Calls Vp.prog 47 #[.complex .f32 (px i j) (py i j),.int .i64 A4] W fun e w'=>e=.returned (.float .f32 (sm i j))/\Au W w'
 Al6:∀i j:Nat,sm i j<4294967296
 Al8:∀i j:Nat,-1<=st i j/\st i j<=1
def V9:Value:=.tuple #[.agg #[.complex .f32 0 0,.int .i64 0,.int .i64 0,.slice none 0 0,.slice none 0 0],.bool false]
def Aem (w:World)(cx cy:Nat)(d s:Nat)(ok:Nat->Nat->Bool)(st:Nat->Nat->Int)(sm:Nat->Nat->Nat)(e:Ending)(w':World):Prop :=
 Below w.heap.size w w' /\(((∃i j,i<s/\j<s/\ok i j=false)/\e=.returned V9) \/
  ((∀i j,i<s->j<s->ok i j=true)/\∃smv mkv,e=.returned (.tuple #[.agg #[.complex .f32 cx cy,.int .i64 d,.int .i64 s,smv,mkv],.bool true])/\Made w.heap.size (s*s) (rowsOf s sm s) (rowsOf s st s) smv mkv w'))
theorem A0o (cx cy d s:Nat)(A4:Int)(hd10:d<=10)(hs8:s<=8)(hpl:Bh cx cy d s=true){ok:Nat->Nat->Bool}{b0 b1 b2 b3:Nat->Nat->Int}{px py:Nat->Nat->Nat}{st:Nat->Nat->Int}{sm:Nat->Nat->Nat}(C:Aap cx cy d s A4 ok b0 b1 b2 b3 px py st sm)(w:World) :
 Calls Vp.prog 18 #[.complex .f32 cx cy,.int .i64 d,.int .i64 s,.int .i64 A4] w (Aem w cx cy d s ok st sm):=by
 have R:=A9.new w (Bz 0 0 0 0 (.slice none 0 0) (.slice none 0 0)) 35;have HP:=Aoy (fun w=>Iz cx cy d s w)
 rw[hpl]at HP;have HCV:=Aoy C;clear C hpl;unfold Bz at R
 go_enter Vp.func18,Tryz.ntmps18
 go_wp2_with fail
 refine(HP.out _).mono ?_
 rintro e w1 ⟨rfl,hd⟩;have HR:=Aoy (R.step (hd.below _));clear R hd;obtain⟨iF,hiF,hzF0,hzF1,hzF2⟩:=Aqz Xb;obtain⟨iI,hiI,hzI0,hzI1,hzI2⟩:=Aqz Qn;have HT:=Aoy (TM.start cx cy d s HR.out (Ap0 _));unfold Bz at HT;clear HR
 go_wp2
 generalize w1.heap.size+1+1=ob at *;generalize w1.heap.size+1=gm0 at *;generalize w1.heap.size=gs0 at *
 go_loopw [11] (fun i wr=>∃(k N gs cs gm cm:Nat),k<=s/\i=.int .i64 k/\Hid (N=k*s)/\Hid (∀i j,i<k->j<s->ok i j=true)/\Hid (TM w w.heap.size ob cx cy d s N N (rowsOf s sm k) (rowsOf s st k) (.slice (some ⟨gs,0,none⟩) N cs) (.slice (some ⟨gm,0,none⟩) N cm) wr)) (fun i _=>(s-intOf i).toNat)
 case atStart=>exact⟨0,0,gs0,0,gm0,0,by omega,rfl,(by show 0=0*s;simp),(fun i j h=>by omega),HT⟩
 case round =>
  obtain⟨k,N,gs,cs,gm,cm,hk,rfl,HN,HOK,HT⟩:=hrel;obtain⟨wo,rfl⟩:∃wo,wo=wr:=⟨_,rfl⟩
  by_cases hks:k<s
  ·go_wp2
   go_loopw [12] (fun j wr=>∃(l N gs cs gm cm:Nat),l<=s/\j=.int .i64 l/\Hid (N=k*s+l)/\Hid (∀j,j<l->ok k j=true)/\Hid (TM w w.heap.size ob cx cy d s N N (Kg s sm k l) (Kg s st k l) (.slice (some ⟨gs,0,none⟩) N cs) (.slice (some ⟨gm,0,none⟩) N cm) wr)) (fun j _=>(s-intOf j).toNat)
   case atStart=>exact⟨0,N,gs,cs,gm,cm,by omega,rfl,HN,(fun j h=>by omega),by rw[A03,A03];exact HT⟩
   case round =>
    clear HT HN;obtain⟨l,N,gs,cs,gm,cm,hl,rfl,HN,HOL,HT⟩:=hrel;clear wo;obtain⟨wo,rfl⟩:∃wo,wo=wr:=⟨_,rfl⟩
    by_cases hls:l<s
    ·have hN72:N<=72:=by
      have h1:k*s<=8*8:=Aqh (by omega) hs8
      have h2:=HN.out
      omega
     have HC:=Aoy (HCV.out.box k l hks hls);have HST:=Aoy (HCV.out.state k l hks hls);have HPT:=Aoy (HCV.out.Ah0 k l hks hls);have HSM:=Aoy (HCV.out.Io k l hks hls);have hz:=HCV.out.Al6 k l;obtain⟨y0,y1⟩:=HCV.out.Al8 k l;obtain⟨p,ep⟩:∃p,b0 k l=p:=⟨_,rfl⟩;obtain⟨q,eq⟩:∃p,b1 k l=p:=⟨_,rfl⟩;obtain⟨r,er⟩:∃p,b2 k l=p:=⟨_,rfl⟩;obtain⟨u,eu⟩:∃p,b3 k l=p:=⟨_,rfl⟩;obtain⟨t,et⟩:∃p,ok k l=p:=⟨_,rfl⟩;obtain⟨x,ex⟩:∃p,px k l=p:=⟨_,rfl⟩;obtain⟨y,ey⟩:∃p,py k l=p:=⟨_,rfl⟩;obtain⟨z,ez⟩:∃p,sm k l=p:=⟨_,rfl⟩;obtain⟨sT,eT⟩:∃p,st k l=p:=⟨_,rfl⟩;rw[ep,eq,er,eu,et]at HC;rw[ep,eq,er,eu,et,eT]at HST;rw[ex,ey]at HPT;rw[ex,ey,ez,et]at HSM;rw[ez]at hz;rw[eT]at y0 y1;have HZ:=Aoy ez;have HS:=Aoy eT;have HT':=Aoy et;clear ep eq er eu et ex ey ez eT
     go_wp2_with fail
     refine(HC.out _).mono ?_
     rintro e w2 ⟨rfl,hb⟩;have T:=HT.out.step hb;clear HT hb HC
     cases t with
     | false =>
       replace T:=T.alloc (.cells #[.int .i64 p,.int .i64 q,.int .i64 r,.int .i64 u] 93);obtain⟨c0,c1,c2,c3,c4⟩:=T.rc;obtain⟨f0,f1,f2,f3,f4⟩:=T.R.Hk;have HB:=Aoy T.old;clear T
       go_wp2
       exact Ap4 (v:=.tuple #[.agg #[.complex .f32 0 0,.int .i64 0,.int .i64 0,.slice none 0 0,.slice none 0 0],.bool false]) (by simp[results,Tryz.f18,go_sem,c0,c1,c2,c3,c4]) rfl ⟨Ly HB.out (Ap0 _) _ _ _ _ _,.inl ⟨⟨k,l,hks,hls,HT'.out⟩,rfl⟩⟩
     | true =>
       have HSTT:=Aoy (HST.out rfl);have HSMM:=Aoy (HSM.out rfl);clear HST HSM;have X:=A9.new w2 #[.int .i64 p,.int .i64 q,.int .i64 r,.int .i64 u] 93;have x0:=X.cell 0 _ rfl;have x1:=X.cell 1 _ rfl;have x2:=X.cell 2 _ rfl;have x3:=X.cell 3 _ rfl;have HT2:=Aoy (T.alloc (.cells #[.int .i64 p,.int .i64 q,.int .i64 r,.int .i64 u] 93));clear X T
       go_wp2_with fail
       refine(HSTT.out _).mono ?_
       rintro e w3 ⟨rfl,hb⟩;have T3:=HT2.out.step hb;have hbase:=T3.old.size;obtain⟨-,-,-,k3,-⟩:=T3.oc;clear x0 x1 x2 x3 HT2 hb
       go_wp2_with fail
       go_region_law (first
        |(go_simp
          go_at_call 48
          refine(HPT.out _).mono ?_
          rintro e w4 ⟨rfl,rfl⟩;have T4:=T3.Wy (Au.refl _).drew;obtain⟨-,-,-,k4,-⟩:=T4.oc)
        |(go_simp
          go_at_call 47
          refine(HSMM.out _).mono ?_
          rintro e w5 ⟨rfl,hd⟩;have T5:=T4.Wy hd;have hb5:=T5.old.size;obtain⟨-,-,-,k5,-⟩:=T5.oc;obtain⟨-,-,-,k5',-⟩:=(T5.alloc (.cells #[.float .f32 z] 74)).oc;clear hd)
        |(refine step_append_lies _ (by rfl) _ _ _ (by rfl) w.heap.size 74 iF _ 1 4 (Vp.Dw Tryz.underlying33) hiF hzF0 hzF1 hzF2 rfl (by omega) _ N ((Kg s sm k l).map Dd) (by rfl) (T5.S.alloc _) ⟨w5.heap.size,0,none⟩ 1 1 [Dd z] (by rfl) (by rfl) (World.news_of_block (cs:=#[Dd z]) (t:=74) (fr:=(0,0)) (Arc w5 _)) (by simp[Dd,Value.oneCell']) (by omega) (by unfold maxLen;omega) (by omega) (by simp;omega) (w5.heap.size+1) (by simp) ?_
          intro g6 c6 w6 hown hgrow _ _;obtain⟨T6,k6,f6⟩:=(T5.alloc _).Io hz hown hgrow))
       all_goals
        have HT6:=Aoy T6;obtain⟨-,-,-,-,k7⟩:=T6.oc;obtain⟨-,-,-,-,k8⟩:=(T6.alloc (.cells #[.int .i64 sT] 3)).oc;have hb6:=T6.old.size;clear T3 T4 T5 T6 k3 k4 k5 k5' k6 f6 hown hgrow;generalize w6.setCell ⟨ob,3,none⟩ (.slice (some ⟨g6,0,none⟩) (N+1) c6)=w7 at *
        go_wp2_with (at_builtin;refine wpList_append_lies _ rfl _ _ _ rfl w.heap.size 3 iI _ 1 8 (Vp.Dw Tryz.underlying27) hiI hzI0 hzI1 hzI2 rfl (by omega) _ N ((Kg s st k l).map Ax) rfl (HT6.out.M.alloc _) ⟨w7.heap.size,0,none⟩ 1 1 [Ax sT] rfl rfl (World.news_of_block (cs:=#[Ax sT]) (t:=3) (fr:=(0,0)) (Arc w7 _)) (by simp[Ax,Value.oneCell']) (by omega) (by unfold maxLen;omega) (by omega) (by simp;omega) (w7.heap.size+1) (by simp) ?_;intro g8 c8 w8 hown hgrow _ _;obtain⟨T8,k9,f9⟩:=(HT6.out.alloc _).mark ⟨y0,y1⟩ hown hgrow;have HT8:=Aoy T8;clear T8 hown hgrow)
        go_roundw
        case rel=>exact⟨l+1,N+1,g6,c6,g8,c8,by omega,by go_num,(by show N+1=k*s +(l+1);have:=HN.out;omega),(fun j hj=>by
         by_cases e:j=l
         ·rw[e];exact HT'.out
         ·exact HOL.out j (by omega)),(by
         show TM _ _ _ _ _ _ _ _ _ (Kg s sm k (l+1)) (Kg s st k (l+1)) _ _ _
         rw[<-Mm,<-Mm,HZ.out,HS.out];exact HT8.out)⟩
        case measure=>simp[intOf];omega
    ·obtain rfl:l=s:=by omega
     go_wp2
     go_roundw
     case rel=>exact⟨k+1,N,gs,cs,gm,cm,by omega,by go_num,(by show N=(k+1)*l;rw[Arb];exact HN.out),(fun i j hi hj=>by
      by_cases e:i=k
      ·rw[e];exact HOL.out j hj
      ·exact HOK.out i j (by omega) hj),(by rw[<-Oy,<-Oy];exact HT)⟩
     case measure=>simp[intOf];omega
  ·obtain rfl:k=s:=by omega
   obtain⟨c0,c1,c2,c3,c4⟩:=HT.out.rc;obtain⟨f0,f1,f2,f3,f4⟩:=HT.out.R.Hk;obtain⟨o0,o1,o2,o3,o4⟩:=HT.out.oc;have hne:=HT.out.ne
   go_wp2
   exact Ap4 (v:=.tuple #[.agg #[.complex .f32 cx cy,.int .i64 d,.int .i64 k,.slice (some ⟨gs,0,none⟩) N cs,.slice (some ⟨gm,0,none⟩) N cm],.bool true]) (by simp[results,Tryz.f18,go_sem,c0,c1,c2,c3,c4]) rfl ⟨Ly HT.out.old (Ap0 _) _ _ _ _ _,.inr ⟨HOK.out,_,_,rfl,HT.out.made HN.out _ _ _ _ _⟩⟩
end
section
open Go.RowKit
attribute [local go_sem ↓] Go.wp_at_zero Go.wp_at_succ
attribute [local go_sem] A7 A5
theorem TM.Aiw {w W:World}{rb:Nat}(cx cy:Nat)(deep size:Int){cap:Nat}{C D:Array Value}(hm:cap<=maxLen)(hC:C.size=cap)(hD:D.size=cap)(R:A9 w rb (Bz 0 0 0 0 (.slice none 0 0) (.slice none 0 0)) 35 W)(hr:w.heap.size<=rb) :
 TM w rb (W.heap.size+1+1) cx cy deep size 0 0 [] [] (.slice (some ⟨W.heap.size,0,none⟩) 0 cap) (.slice (some ⟨W.heap.size+1,0,none⟩) 0 cap) (((W.alloc (.cells C 74)).alloc (.cells D 3)).alloc (.cells (Bz cx cy deep size (.slice (some ⟨W.heap.size,0,none⟩) 0 cap) (.slice (some ⟨W.heap.size+1,0,none⟩) 0 cap)) 35)):=by
 have hs:=R.old.size;have hlt:=R.lt;have new:∀(W:World) (C:Array Value) (t:TypeId),(W.alloc (.cells C t)).heap[W.heap.size]?=some (.cells C t (0,0)):=fun W C t=>Arc W _
 have Oh:∀(W:World) (C:Array Value) (t:TypeId) (k:Nat) (o:Obj),W.heap[k]?=some o ->(W.alloc (.cells C t)).heap[k]?=some o:=fun W C t k o h=>(Ati W _ k (Aoz.1 h).1).trans h
 have n0:=new W C 74;have n1:=new (W.alloc (.cells C 74)) D 3;simp only[Apl]at n1
 refine⟨?_,((R.alloc _).alloc _).alloc _,⟨by simp,.inr ⟨_,_,C,rfl,hs,Oh _ _ _ _ _ (Oh _ _ _ _ _ n0),Aq1 _,hm,by simp[hC],by simp⟩⟩,⟨by simp,.inr ⟨_,_,D,rfl,by omega,Oh _ _ _ _ _ n1,Aq1 _,hm,by simp[hD],by simp⟩⟩,(fun x hx=>by cases hx),(fun x hx=>by cases hx),by omega,hr,by omega⟩
 have:=(A9.new ((W.alloc (.cells C 74)).alloc (.cells D 3)) (Bz cx cy deep size (.slice (some ⟨W.heap.size,0,none⟩) 0 cap) (.slice (some ⟨W.heap.size+1,0,none⟩) 0 cap)) 35).up (w0:=w) ((R.alloc _).alloc _).old
 simpa only[Apl]using this
theorem A39 {W:World}{B cap:Nat}{e:TypeId}{g:Nat}{xs:List Value}(h:W.ownsRow B e 1 (.slice (some ⟨g,0,none⟩) cap cap) cap xs):B<=g/\W.heap[g]?=some (.cells xs.toArray e (0,0)):=by
 obtain⟨hl,h⟩:=h
 rcases h with⟨h,_⟩ |⟨g',c,cur,h1,h2,h3,h4,h5,h6,h7⟩
 ·cases h
 ·injection h1 with h1 _ h8
  injection h1 with h1
  injection h1 with h1
  subst h1 h8
  refine⟨h2,?_⟩
  rw[<-h7,h3];have:cur.toList.take (cap*1)=cur.toList:=Ar3 (by simp[h6])
  rw[this]
theorem A6h {cx cy d s cap B:Nat}{gs gm:Nat}{xs:List Nat}{ys:List Int}{W:World}(hcap:s*s=cap)(h:Made B ((s:Int).toNat *(s:Int).toNat) xs ys (.slice (some ⟨gs,0,none⟩) cap cap) (.slice (some ⟨gm,0,none⟩) cap cap) W) :
 Wk cx cy d s xs ys B (.tuple #[.agg #[.complex .f32 cx cy,.int .i64 d,.int .i64 s,.slice (some ⟨gs,0,none⟩) cap cap,.slice (some ⟨gm,0,none⟩) cap cap],.bool true]) W:=by
 have e:(s:Int).toNat *(s:Int).toNat=cap:=by rw[Aqk];exact hcap
 have hS:=h.S;have hM:=h.M;rw[e]at hS hM;obtain⟨b1,c1⟩:=A39 hS;obtain⟨b2,c2⟩:=A39 hM
 refine⟨gs,gm,by rw[hcap];rfl,b1,b2,fun x=>?_,c1,c2⟩
 rw[x,c2]at c1;injection c1 with c1
 injection c1 with _ c1
 cases c1
def Aay (w:World)(cx cy:Nat)(d s:Nat)(ok:Nat->Nat->Bool)(st:Nat->Nat->Int)(sm:Nat->Nat->Nat)(e:Ending)(w':World):Prop :=
 Below w.heap.size w w' /\(((∃i j,i<s/\j<s/\ok i j=false)/\e=.returned V9) \/
  ((∀i j,i<s->j<s->ok i j=true)/\∃v,e=.returned v/\Wk cx cy d s (rowsOf s sm s) (rowsOf s st s) w.heap.size v w'))
theorem Ni (cx cy d s:Nat)(A4:Int)(hd10:d<=10)(hs8:s<=8)(hpl:Bh cx cy d s=true){ok:Nat->Nat->Bool}{b0 b1 b2 b3:Nat->Nat->Int}{px py:Nat->Nat->Nat}{st:Nat->Nat->Int}{sm:Nat->Nat->Nat}(C:Aap cx cy d s A4 ok b0 b1 b2 b3 px py st sm)(w:World) :
 Calls Vp.prog 15 #[.complex .f32 cx cy,.int .i64 d,.int .i64 s,.int .i64 A4] w (Aay w cx cy d s ok st sm):=by
 have R:=A9.new w (Bz 0 0 0 0 (.slice none 0 0) (.slice none 0 0)) 35;have HP:=Aoy (fun w=>Iz cx cy d s w)
 rw[hpl]at HP;have HCV:=Aoy C;clear C hpl;unfold Bz at R
 go_enter Vp.Ql,Vp.A5f
 unfold Vp.guarded;simp only[Vp.lay,Nat.reduceBEq,Aqb,At6,Ats,Vp.guards,Vp.made]
 go_wp2_with fail
 refine(HP.out _).mono ?_
 rintro e w1 ⟨rfl,hd⟩;have HR:=Aoy (R.step (hd.below _));clear R hd;obtain⟨iF,hiF,hzF0,hzF1,hzF2⟩:=Aqz Xb;obtain⟨iI,hiI,hzI0,hzI1,hzI2⟩:=Aqz Qn;obtain⟨cap,hcap⟩:∃cap:Nat,s*s=cap:=⟨_,rfl⟩;have hc64:cap<=64:=by rw[<-hcap];exact Aqh hs8 hs8
 have kss:((s*s:Nat):Int)=(s:Int)*s:=by simp
 have kc:wrap64 ((s:Int)*s)=(cap:Int):=by
  rw[<-kss,hcap]
  exact Fv (by omega) (by omega)
 obtain⟨cF,hcF,hF⟩:=Fl (P:=Vp.prog) 33 74 iF _ (Vp.Dw Tryz.underlying33) hiF hzF0 cap (by omega) (by omega)
 obtain⟨cI,hcI,hI⟩:=Fl (P:=Vp.prog) 27 3 iI _ (Vp.Dw Tryz.underlying27) hiI hzI0 cap (by omega) (by omega)
 have kcs:((cap:Nat):Int)=(s:Int)*s:=by rw[<-hcap];simp
 have hF2:=hF;have hI2:=hI;simp only[kcs]at hF2 hI2;have HT:=Aoy (TM.Aiw cx cy d s (show cap<=maxLen by unfold maxLen;omega) (show cF.size=cap by rw[hcF,hzF1];omega) (show cI.size=cap by rw[hcI,hzI1];omega) HR.out (Ap0 _))
 unfold Bz at HT;clear HR
 go_wp2
 clear hF hI hF2 hI2 kcs kc kss;generalize w1.heap.size+1+1=ob at *;generalize w1.heap.size+1=gm at *;generalize w1.heap.size=gs at *
 go_loopw [11] (fun i wr=>∃(k N:Nat),k<=s/\i=.int .i64 k/\Hid (N=k*s)/\Hid (∀i j,i<k->j<s->ok i j=true)/\Hid (TM w w.heap.size ob cx cy d s N N (rowsOf s sm k) (rowsOf s st k) (.slice (some ⟨gs,0,none⟩) N cap) (.slice (some ⟨gm,0,none⟩) N cap) wr)) (fun i _=>(s-intOf i).toNat)
 case atStart=>exact⟨0,0,by omega,rfl,(by show 0=0*s;simp),(fun i j h=>by omega),HT⟩
 case round =>
  obtain⟨k,N,hk,rfl,HN,HOK,HT⟩:=hrel;obtain⟨wo,rfl⟩:∃wo,wo=wr:=⟨_,rfl⟩
  by_cases hks:k<s
  ·go_wp2
   go_loopw [12] (fun j wr=>∃(l N:Nat),l<=s/\j=.int .i64 l/\Hid (N=k*s+l)/\Hid (∀j,j<l->ok k j=true)/\Hid (TM w w.heap.size ob cx cy d s N N (Kg s sm k l) (Kg s st k l) (.slice (some ⟨gs,0,none⟩) N cap) (.slice (some ⟨gm,0,none⟩) N cap) wr)) (fun j _=>(s-intOf j).toNat)
   case atStart=>exact⟨0,N,by omega,rfl,HN,(fun j h=>by omega),by rw[A03,A03];exact HT⟩
   case round =>
    clear HT HN;obtain⟨l,N,hl,rfl,HN,HOL,HT⟩:=hrel;clear wo;obtain⟨wo,rfl⟩:∃wo,wo=wr:=⟨_,rfl⟩
    by_cases hls:l<s
    ·have hN72:N+1<=cap:=by
      have h2:=HN.out;have h3:(k+1)*s<=s*s:=Ap2 _ (by omega)
      rw[Arb]at h3
      omega
     have HC:=Aoy (HCV.out.box k l hks hls);have HST:=Aoy (HCV.out.state k l hks hls);have HPT:=Aoy (HCV.out.Ah0 k l hks hls);have HSM:=Aoy (HCV.out.Io k l hks hls);have hz:=HCV.out.Al6 k l;obtain⟨y0,y1⟩:=HCV.out.Al8 k l;obtain⟨p,ep⟩:∃p,b0 k l=p:=⟨_,rfl⟩;obtain⟨q,eq⟩:∃p,b1 k l=p:=⟨_,rfl⟩;obtain⟨r,er⟩:∃p,b2 k l=p:=⟨_,rfl⟩;obtain⟨u,eu⟩:∃p,b3 k l=p:=⟨_,rfl⟩;obtain⟨t,et⟩:∃p,ok k l=p:=⟨_,rfl⟩;obtain⟨x,ex⟩:∃p,px k l=p:=⟨_,rfl⟩;obtain⟨y,ey⟩:∃p,py k l=p:=⟨_,rfl⟩;obtain⟨z,ez⟩:∃p,sm k l=p:=⟨_,rfl⟩;obtain⟨sT,eT⟩:∃p,st k l=p:=⟨_,rfl⟩;rw[ep,eq,er,eu,et]at HC;rw[ep,eq,er,eu,et,eT]at HST;rw[ex,ey]at HPT;rw[ex,ey,ez,et]at HSM;rw[ez]at hz;rw[eT]at y0 y1;have HZ:=Aoy ez;have HS:=Aoy eT;have HT':=Aoy et;clear ep eq er eu et ex ey ez eT
     go_wp2_with fail
     refine(HC.out _).mono ?_
     rintro e w2 ⟨rfl,hb⟩;have T:=HT.out.step hb;clear HT hb HC
     cases t with
     | false =>
       replace T:=T.alloc (.cells #[.int .i64 p,.int .i64 q,.int .i64 r,.int .i64 u] 93);obtain⟨c0,c1,c2,c3,c4⟩:=T.rc;obtain⟨f0,f1,f2,f3,f4⟩:=T.R.Hk;have HB:=Aoy T.old;clear T
       go_wp2
       exact Ap4 (v:=.tuple #[.agg #[.complex .f32 0 0,.int .i64 0,.int .i64 0,.slice none 0 0,.slice none 0 0],.bool false]) (by simp[results,Vp.P5,Tryz.f15,go_sem,c0,c1,c2,c3,c4]) rfl ⟨Ly HB.out (Ap0 _) _ _ _ _ _,.inl ⟨⟨k,l,hks,hls,HT'.out⟩,rfl⟩⟩
     | true =>
       have HSTT:=Aoy (HST.out rfl);have HSMM:=Aoy (HSM.out rfl);clear HST HSM;have X:=A9.new w2 #[.int .i64 p,.int .i64 q,.int .i64 r,.int .i64 u] 93;have x0:=X.cell 0 _ rfl;have x1:=X.cell 1 _ rfl;have x2:=X.cell 2 _ rfl;have x3:=X.cell 3 _ rfl;have HT2:=Aoy (T.alloc (.cells #[.int .i64 p,.int .i64 q,.int .i64 r,.int .i64 u] 93));clear X T
       go_wp2_with fail
       refine(HSTT.out _).mono ?_
       rintro e w3 ⟨rfl,hb⟩;have T3:=HT2.out.step hb;have hbase:=T3.old.size;obtain⟨-,-,-,k3,-⟩:=T3.oc;clear x0 x1 x2 x3 HT2 hb
       go_wp2_with fail
       go_region_law (first
        |(go_simp
          go_at_call 48
          refine(HPT.out _).mono ?_
          rintro e w4 ⟨rfl,rfl⟩;have T4:=T3.Wy (Au.refl _).drew;obtain⟨-,-,-,k4,-⟩:=T4.oc)
        |(go_simp
          go_at_call 47
          refine(HSMM.out _).mono ?_
          rintro e w5 ⟨rfl,hd⟩;have T5:=T4.Wy hd;have hb5:=T5.old.size;obtain⟨-,-,-,k5,-⟩:=T5.oc;obtain⟨-,-,-,k5',-⟩:=(T5.alloc (.cells #[.float .f32 z] 74)).oc;clear hd)
        |(refine J4 _ (by rfl) _ _ _ (by rfl) w.heap.size 74 iF 1 (Vp.Dw Tryz.underlying33) hiF hzF1 gs N cap ((Kg s sm k l).map Dd) (by rfl) (T5.S.alloc _) ⟨w5.heap.size,0,none⟩ 1 1 [Dd z] (by rfl) (by rfl) (World.news_of_block (cs:=#[Dd z]) (t:=74) (fr:=(0,0)) (Arc w5 _)) (by simp[Dd,Value.oneCell']) (by omega) ?_
          intro w6 hown hgrow;obtain⟨T6,k6,f6⟩:=(T5.alloc _).Io hz hown hgrow))
       all_goals
        have HT6:=Aoy T6;obtain⟨-,-,-,-,k7⟩:=T6.oc;obtain⟨-,-,-,-,k8⟩:=(T6.alloc (.cells #[.int .i64 sT] 3)).oc;have hb6:=T6.old.size;clear T3 T4 T5 T6 k3 k4 k5 k5' k6 f6 hown hgrow;generalize w6.setCell ⟨ob,3,none⟩ (.slice (some ⟨gs,0,none⟩) (N+1) cap)=w7 at *
        go_wp2_with (at_builtin;refine wpList_append_own_spare _ rfl _ _ _ rfl w.heap.size 3 iI 1 (Vp.Dw Tryz.underlying27) hiI hzI1 gm N cap ((Kg s st k l).map Ax) rfl (HT6.out.M.alloc _) ⟨w7.heap.size,0,none⟩ 1 1 [Ax sT] rfl rfl (World.news_of_block (cs:=#[Ax sT]) (t:=3) (fr:=(0,0)) (Arc w7 _)) (by simp[Ax,Value.oneCell']) (by omega) ?_;intro w8 hown hgrow;obtain⟨T8,k9,f9⟩:=(HT6.out.alloc _).mark ⟨y0,y1⟩ hown hgrow;have HT8:=Aoy T8;clear T8 hown hgrow)
        go_roundw
        case rel=>exact⟨l+1,N+1,by omega,by go_num,(by show N+1=k*s +(l+1);have:=HN.out;omega),(fun j hj=>by
         by_cases e:j=l
         ·rw[e];exact HT'.out
         ·exact HOL.out j (by omega)),(by
         show TM _ _ _ _ _ _ _ _ _ (Kg s sm k (l+1)) (Kg s st k (l+1)) _ _ _
         rw[<-Mm,<-Mm,HZ.out,HS.out];exact HT8.out)⟩
        case measure=>simp[intOf];omega
    ·obtain rfl:l=s:=by omega
     go_wp2
     go_roundw
     case rel=>exact⟨k+1,N,by omega,by go_num,(by show N=(k+1)*l;rw[Arb];exact HN.out),(fun i j hi hj=>by
      by_cases e:i=k
      ·rw[e];exact HOL.out j hj
      ·exact HOK.out i j (by omega) hj),(by rw[<-Oy,<-Oy];exact HT)⟩
     case measure=>simp[intOf];omega
  ·obtain rfl:k=s:=by omega
   obtain⟨c0,c1,c2,c3,c4⟩:=HT.out.rc;obtain⟨f0,f1,f2,f3,f4⟩:=HT.out.R.Hk;obtain⟨o0,o1,o2,o3,o4⟩:=HT.out.oc;have hne:=HT.out.ne
   go_wp2
   obtain rfl:cap=N:=by rw[<-hcap];exact HN.out.symm
   exact Ap4 (v:=.tuple #[.agg #[.complex .f32 cx cy,.int .i64 d,.int .i64 k,.slice (some ⟨gs,0,none⟩) cap cap,.slice (some ⟨gm,0,none⟩) cap cap],.bool true]) (by simp[results,Vp.P5,Tryz.f15,go_sem,c0,c1,c2,c3,c4]) rfl ⟨Ly HT.out.old (Ap0 _) _ _ _ _ _,.inr ⟨HOK.out,_,rfl,A6h hcap (HT.out.made HN.out _ _ _ _ _)⟩⟩
end
section
open Go.RowKit
attribute [local go_sem ↓] Go.wp_at_zero Go.wp_at_succ
attribute [local go_sem] A7 A5
theorem A3z (cx cy:Nat)(deep size A4:Int)(hpl:Bh cx cy deep size=false)(w:World) :
 Calls Vp.prog 18 #[.complex .f32 cx cy,.int .i64 deep,.int .i64 size,.int .i64 A4] w fun e w'=>e=.returned V9/\Below w.heap.size w w':=by
 have R:=A9.new w (Bz 0 0 0 0 (.slice none 0 0) (.slice none 0 0)) 35;have HP:=Aoy (fun w=>Iz cx cy deep size w)
 rw[hpl]at HP;clear hpl;unfold Bz at R
 go_enter Vp.func18,Tryz.ntmps18
 go_wp2_with fail
 refine(HP.out _).mono ?_
 rintro e w1 ⟨rfl,hd⟩;replace R:=R.step (hd.below _);have c0:=R.cell 0 _ rfl;have c1:=R.cell 1 _ rfl;have c2:=R.cell 2 _ rfl;have c3:=R.cell 3 _ rfl;have c4:=R.cell 4 _ rfl;have f0:=R.frozen 0;have f1:=R.frozen 1;have f2:=R.frozen 2;have f3:=R.frozen 3;have f4:=R.frozen 4;have HB:=Aoy R.old;clear R hd
 go_wp2
 exact Ap4 (v:=.tuple #[.agg #[.complex .f32 0 0,.int .i64 0,.int .i64 0,.slice none 0 0,.slice none 0 0],.bool false]) (by simp[results,Tryz.f18,go_sem,c0,c1,c2,c3,c4]) rfl ⟨rfl,Ly HB.out (Ap0 _) _ _ _ _ _⟩
theorem Pe (cx cy:Nat)(deep size A4:Int)(hpl:Bh cx cy deep size=false)(w:World) :
 Calls Vp.prog 15 #[.complex .f32 cx cy,.int .i64 deep,.int .i64 size,.int .i64 A4] w fun e w'=>e=.returned V9/\Below w.heap.size w w':=by
 have R:=A9.new w (Bz 0 0 0 0 (.slice none 0 0) (.slice none 0 0)) 35;have HP:=Aoy (fun w=>Iz cx cy deep size w)
 rw[hpl]at HP;clear hpl;unfold Bz at R
 go_enter Vp.Ql,Vp.A5f
 unfold Vp.guarded;simp only[Vp.lay,Nat.reduceBEq,Aqb,At6,Ats,Vp.guards,Vp.made]
 go_wp2_with fail
 refine(HP.out _).mono ?_
 rintro e w1 ⟨rfl,hd⟩;replace R:=R.step (hd.below _);have c0:=R.cell 0 _ rfl;have c1:=R.cell 1 _ rfl;have c2:=R.cell 2 _ rfl;have c3:=R.cell 3 _ rfl;have c4:=R.cell 4 _ rfl;have f0:=R.frozen 0;have f1:=R.frozen 1;have f2:=R.frozen 2;have f3:=R.frozen 3;have f4:=R.frozen 4;have HB:=Aoy R.old;clear R hd
 go_wp2
 exact Ap4 (v:=.tuple #[.agg #[.complex .f32 0 0,.int .i64 0,.int .i64 0,.slice none 0 0,.slice none 0 0],.bool false]) (by simp[results,Vp.P5,Tryz.f15,go_sem,c0,c1,c2,c3,c4]) rfl ⟨rfl,Ly HB.out (Ap0 _) _ _ _ _ _⟩
end
end Go.Proofs.YtlfleicchbgcmaaGreat
