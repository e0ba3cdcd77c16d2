import Derived.Test.YtjaehldnlamgkaaGreatDoorXe16
import Derived.Test.YtjaehldnlamgkaaGreatDoorXe0
set_option linter.all false
set_option maxHeartbeats 16000000
set_option maxRecDepth 100000
namespace Go.Proofs.YtjaehldnlamgkaaGreatDoor
section
open Go.RowKit Go.Conc Co Ok Lr Tl Bar
theorem A70 {t:Trace}{B c:Nat}(hs:∀op∈t,op.act.low B)(hc:B<=c):∀i x,touchAt t i=some x->x.loc≠.obj c:=by
 intro i a ha hla;obtain⟨x,hx,hxa⟩:=touch_of ha;have hlow:=hs x (Amp hx);obtain⟨loc,wr,kd⟩:=a
 have hlo:loc.low B:=by
  generalize x.act=act at hlow hxa
  cases act with
  | access e=>cases hxa;exact hlow
  | mark m=>cases m<;>first |(cases hxa;done) |(cases hxa;exact hlow)
  | _=>cases hxa
 dsimp only at hla;subst hla;have:c<B:=hlo
 omega
theorem Qz {a:Act}{d:Nat}{v:Value}(h:d<a.tmps.size):(a.put (some d) v).eval (.tmp d)=v:=by simp[Act.eval,Act.put,Amf,h]
theorem Eo {a:Act}{d j:Nat}{v:Value}(h:d≠j):(a.put (some d) v).eval (.tmp j)=a.eval (.tmp j):=by simp[Act.eval,Act.put,Amf,Am4,h]
theorem A0i {a:Act}{j:Nat}{v:Value}(h:a.tmps[j]?=some v):a.eval (.tmp j)=v:=by simp[Act.eval,Amf,h]
def I5 (ch v0 v1 v2 v3:Value)(a:Act):Act:=((((((a.put (some 48) ch).put (some 12) ch).put (some 49) ch).put (some 50) v0).put (some 51) v1).put (some 52) v2).put (some 53) v3
theorem A8h {ch v0 v1 v2 v3:Value}{a:Act}:(I5 ch v0 v1 v2 v3 a).tmps.size=a.tmps.size:=by simp[I5,E9]
theorem A6g {ch v0 v1 v2 v3:Value}{a:Act}{j:Nat}(h:j≠12 /\(j<48\/53<j)):(I5 ch v0 v1 v2 v3 a).tmps[j]?=a.tmps[j]?:=by
 unfold I5;rw[Ca (by omega),Ca (by omega),Ca (by omega),Ca (by omega),Ca (by omega),Ca (by omega),Ca (by omega)]
theorem Aet {ch v0 v1 v2 v3:Value}{a:Act}(h:a.tmps.size=71):(I5 ch v0 v1 v2 v3 a).tmps[12]?=some ch:=by
 unfold I5;rw[Ca (by decide),Ca (by decide),Ca (by decide),Ca (by decide),Ca (by decide)]
 exact Am7 (by rw[E9];omega)
theorem K7 {ch v0 v1 v2 v3:Value}{a:Act}:(I5 ch v0 v1 v2 v3 a).defers=a.defers:=by simp only[I5,Act.put]
theorem Aeu {ch v0 v1 v2 v3:Value}{a:Act}(h:a.tmps.size=71):(I5 ch v0 v1 v2 v3 a).eval (.tmp 49)=ch /\(I5 ch v0 v1 v2 v3 a).eval (.tmp 50)=v0 /\(I5 ch v0 v1 v2 v3 a).eval (.tmp 51)=v1 /\(I5 ch v0 v1 v2 v3 a).eval (.tmp 52)=v2 /\(I5 ch v0 v1 v2 v3 a).eval (.tmp 53)=v3:=by
 have hn:∀(a:Act) (d j:Nat) (v x:Value),d≠j->a.eval (.tmp j)=x ->(a.put (some d) v).eval (.tmp j)=x:=fun a d j v x e y=>(Eo e).trans y
 have hz:∀(a:Act) (d:Nat) (v:Value),a.tmps.size=71->d<71 ->(a.put (some d) v).eval (.tmp d)=v:=fun a d v e l=>Qz (by omega)
 have sz:∀(a:Act) (d:Nat) (v:Value),a.tmps.size=71 ->(a.put (some d) v).tmps.size=71:=fun a d v e=>E9.trans e
 unfold I5;have s1:=sz _ 48 ch h;have s2:=sz _ 12 ch s1;have s3:=sz _ 49 ch s2;have s4:=sz _ 50 v0 s3;have s5:=sz _ 51 v1 s4;have s6:=sz _ 52 v2 s5
 exact⟨hn _ _ _ _ _ (by decide) (hn _ _ _ _ _ (by decide) (hn _ _ _ _ _ (by decide) (hn _ _ _ _ _ (by decide) (hz _ _ _ s2 (by decide))))),hn _ _ _ _ _ (by decide) (hn _ _ _ _ _ (by decide) (hn _ _ _ _ _ (by decide) (hz _ _ _ s3 (by decide)))),hn _ _ _ _ _ (by decide) (hn _ _ _ _ _ (by decide) (hz _ _ _ s4 (by decide))),hn _ _ _ _ _ (by decide) (hz _ _ _ s5 (by decide)),hz _ _ _ s6 (by decide)⟩
theorem A4c {b':Frame}{a':Act}{e':Code}{c:Nat}{L:Nat->Prop}{W:World}{base:List Frame}{v0 v1 v2 v3:Value}(hk:b'.kind≠.early)(hs:a'.tmps.size=71)(h0:a'.tmps[0]?=some v0)(h1:a'.tmps[1]?=some v1)(h2:a'.tmps[2]?=some v2)(h3:a'.tmps[3]?=some v3)(hL:∀b,L b->b<W.heap.size) :
 Co Tryz.prog true base (fun x=>x=c) (fun L' fr cs W'=>L'=L/\cs=[]/\Aw L (fun x=>x=c) W W'/\fr=b'.at (I5 (.chan (some c)) v0 v1 v2 v3 a') (.inRegion E6 [5] :: [.code e'])) L (b'.at (a'.put (some 48) (.chan (some c))) (.inRegion Td [1] :: [.code (.seq (.region 10 E6 false) e')])) [] W:=by
 obtain⟨o,ho,hop,hd,hg⟩:=Akf;obtain⟨p0,i0,j0,d0,g0⟩:=Ah2;obtain⟨p1,i1,j1,d1,g1⟩:=Ah3;obtain⟨p2,i2,j2,d2,g2⟩:=Ah4;obtain⟨p3,i3,j3,d3,g3⟩:=Ah5;obtain⟨p4,i4,j4,d4,g4⟩:=Ah6
 refine Co.val ho hg hk (Vh hop) hL fun W1 r1=>?_
 rw[Qz (by omega),hd]
 have l1:=Dy hL r1
 refine Co.I6 l1 fun W2 r2=>?_
 have l2:=Dy l1 r2
 refine Co.ctl l2 (fun _=>stepG_seq) fun W3 r3=>?_
 have l3:=Dy l2 r3
 refine Co.region l3 fun W4 r4=>?_
 have l4:=Dy l3 r4;rw[Ai0]
 refine Co.val i0 g0 hk (Dv j0) l4 fun W5 r5=>?_
 have l5:=Dy l4 r5;rw[Qz (by rw[E9];omega),d0]
 refine Co.val i1 g1 hk (Dv j1) l5 fun W6 r6=>?_
 have l6:=Dy l5 r6;rw[Eo (by decide),Eo (by decide),Eo (by decide),A0i h0,d1]
 refine Co.val i2 g2 hk (Dv j2) l6 fun W7 r7=>?_
 have l7:=Dy l6 r7;rw[Eo (by decide),Eo (by decide),Eo (by decide),Eo (by decide),A0i h1,d2]
 refine Co.val i3 g3 hk (Dv j3) l7 fun W8 r8=>?_
 have l8:=Dy l7 r8;rw[Eo (by decide),Eo (by decide),Eo (by decide),Eo (by decide),Eo (by decide),A0i h2,d3]
 refine Co.val i4 g4 hk (Dv j4) l8 fun W9 r9=>?_
 rw[Eo (by decide),Eo (by decide),Eo (by decide),Eo (by decide),Eo (by decide),Eo (by decide),A0i h3,d4]
 exact .stop ⟨rfl,rfl,Af (Af (Af (Af (Af (Af (Af (Af r1 r2) r3) r4) r5) r6) r7) r8) r9,rfl⟩
theorem Afl {p c:Nat}{F:Nat->Prop}{B:Lk}{V W:World}(hw:WR (Xs p F) B V W)(hp:∀y,¬B p y)(hc:∀x,¬B x c)(hV:∃t,V.heap[p]?=some (.cells #[] t))(hcW:c<W.heap.size)(hpN:Vp.prog.globals.size<=p)(hcN:Vp.prog.globals.size<=c):WR (Xs p F) (fun x y=>B x y \/(x=p/\y=c)) V W:=by
 have hle:Le B (fun x y=>B x y \/(x=p/\y=c)):=fun _ _ h=>.inl h
 refine{ tape:=hw.tape,drawn:=hw.drawn,os:=hw.os,output:=hw.output,fn:=?_,inj:=?_,G8:=?_,live:=?_,Hj:=?_,dead:=?_,Vv:=hw.Vv,Qo:=hw.Qo,low:=?_,nV:=hw.nV,nW:=hw.nW }
 ·rintro b b₁ b₂ (h1 |⟨rfl,rfl⟩) (h2 |⟨h3,rfl⟩)
  ·exact hw.fn _ _ _ h1 h2
  ·subst h3;exact absurd h1 (hp _)
  ·exact absurd h2 (hp _)
  ·rfl
 ·rintro b₁ b₂ b' (h1 |⟨rfl,rfl⟩) (h2 |⟨rfl,h3⟩)
  ·exact hw.inj _ _ _ h1 h2
  ·subst h3;exact absurd h1 (hc _)
  ·exact absurd h2 (hc _)
  ·rfl
 ·intro g hg
  cases hg
 ·rintro b b' (h |⟨rfl,rfl⟩) hd hf
  ·obtain⟨o,o',h1,h2,h3⟩:=hw.live b b' h hd hf
   exact⟨o,o',h1,h2,h3.mono hle⟩
  ·exact absurd rfl hd
 ·rintro b b' (h |⟨rfl,rfl⟩) hd hf
  ·obtain⟨x,x',t,t',f,h1,h2,h3⟩:=hw.Hj b b' h hd hf
   exact⟨x,x',t,t',f,h1,h2,⟨h3.1.mono hle,h3.2⟩⟩
  ·exact absurd rfl hd
 ·rintro b b' (h |⟨rfl,rfl⟩) hd
  ·exact hw.dead b b' h hd
  ·exact⟨hV,hcW⟩
 ·rintro b b' (h |⟨rfl,rfl⟩)
  ·exact hw.low b b' h
  ·have h1:(Xs b F).N<=b:=hpN;have h2:(Xs b F).N<=b':=hcN
   omega
theorem Aay {p c:Nat}{F:Nat->Prop}{B:Lk}:Ew (Xs p F) (fun x y=>B x y \/(x=p/\y=c))=Ew (Xs p F) B:=by
 funext x
 apply propext
 constructor
 ·rintro⟨b,h |⟨rfl,rfl⟩,h2,h3⟩
  ·exact⟨b,h,h2,h3⟩
  ·exact absurd rfl h2
 ·rintro⟨b,h,h2,h3⟩
  exact⟨b,.inl h,h2,h3⟩
end
section
open Go.ConcN (sumTo)
open Go.RowKit Go.Conc Co Ok Lr Tl Bar
structure MS (p c m0:Nat)(F:Nat->Prop)(B:Lk)(V W:World)(a a':Act)(b':Frame)(s s':List Item):Prop where
 wr:WR (Xs p F) B V W
 fr:Dj (Xs p F) B (bM.at a s) (b'.at a' s')
 pc:B p c
 low:∀x y,B x y->m0<=y
theorem R3 {X:Cx}{B:Lk}{p p':Array Value}(h:AR X B p p'){i:Nat}{v:Value}(hv:p[i]?=some v)(hf:(∃k n m,v=.complex k n m)\/∃k n,v=.int k n):p'[i]?=some v:=by
 obtain⟨v',h1,h2⟩:=Vn h hv
 rcases hf with⟨k,n,m,rfl⟩ |⟨k,n,rfl⟩<;>(cases h2;exact h1)
theorem A1o {cx cy d n:Nat}{A6:Int}{ex ey:Nat}(hn:n<=8)(h:∀W,Calls Vp.prog 43 #[.complex .f32 cx cy,.int .i64 d,.int .i64 n] W fun e w'=>e=.returned (.bool true)/\W=w')(hp:∀W,Calls Vp.prog 44 #[.complex .f32 cx cy,.int .i64 d,.int .i64 n,.int .i64 n] W fun e w'=>e=.returned (.complex .f32 ex ey)/\W=w')
 (hf1:(FloatKind.f32.format.order ex 1090519040 == some .gt)=false) (hf2:(FloatKind.f32.format.order ey 1090519040 == some .gt)=false) {base:List Frame} {gs:Array Goroutine} {w:World} {sl:Option (Nat×Nat)} {t:Trace} {q:Nat->Nat}
 (hN:Vp.prog.globals.size<=w.heap.size) (h0:gs[0]?=some (G (Frame.enter Tryz.prog 17 (X9 cx cy d n A6) .normal) base)) (hL:Leavers Tryz.prog t gs q) (hP:Past (fun _=>False) w.heap.size t) :
 ∃gs' w' sl' t' q' B V ww b' a a' e' c L rb ob gS gM,Ia Tryz.prog gs w sl t gs' w' sl' t'/\gs'.size=gs.size+1/\gs'[0]?=some (G (b'.at a' (.inRegion E6 [] :: [.code e'])) base)/\gs'[gs.size]?=some (G (Zr (Tp c cx cy d n A6)) []) /\
  J8 Tryz.prog c 0 gs.size w.heap.size w gs' w' t' q' L (fun _=>False) (fun _=>False)/\L=Ew (Xs w.heap.size fun _=>False) B/\MS w.heap.size c w.heap.size (fun _=>False) B V w' a a' b' [.code mF] [.code e'] /\
  a.tmps.size=71/\a.tmps[8]?=some (.pointer (some ⟨rb,0,none⟩))/\a.tmps[11]?=some (.pointer (some ⟨ob,0,none⟩))/\a.tmps[12]?=some (.chan (some w.heap.size))/\a.defers=[]/\TX ww rb ob cx cy d n (n*n) 0 0 gS gM [] [] V:=by
 obtain⟨N1,gs1,fr1,cs1,w1,W1,sl1,t1,q1,L1,a1,a2,a3,a4,a5,a6,a7,a8,a9,a10⟩:=Ie (A87 (W0:=w) hn h hp hf1 hf2 hN (base:=base)) gs w sl t q h0 (At _ _ _) (fun _ h=>h.elim) hL hP
 obtain⟨B,V,ww,b',a,a',k',c,rfl,rfl,hw,har,had,htd,hbk,hbf,hwe,hH,rfl,hB,hch,hcw⟩:=a4;have hch1:w1.heap[c]?=some (.chan 0 #[] false 0 0 false):=by rw[<-a9 rfl];exact hch
 have hc1:c<w1.heap.size:=(Alx.1 hch1).1;have hnL:¬Ew (Xs w.heap.size fun _=>False) B c:=fun⟨x,h1,_⟩=>(hB x c h1).2.2 rfl
 have al1:=a10 c hnL (A70 hP.seen hcw);obtain⟨rb,ob,gS,gM,g1,g2,g3,g4,g5,g6,g7,g8,g9,g10⟩:=hH;clear g1;have hlt1:∀b,Ew (Xs w.heap.size fun _=>False) B b->b<w1.heap.size:=fun b hb=>Am2 (WH.hot ⟨V,rfl,hw⟩ b hb) a5.1
 obtain⟨e',rfl,hce⟩:∃e',k'=[.code (.seq (.region 10 E6 false) e')]/\CdR (Xs w.heap.size fun _=>False) mF e':=by
  cases htd with
  | cons hx hk =>
    cases hk
    cases hx with
    | code hc =>
      obtain⟨d10,e',ec,hd,he⟩:=hc;obtain rfl:=Agq (hd.resolve_left (by decide))
      exact⟨e',by rw[ec],he⟩
 have hke:b'.kind≠.early:=by rw[hbk];simp[bM,Go.Conc.base]
 have hs':a'.tmps.size=71:=by rw[<-har.1];exact g2
 obtain⟨N2,gs2,fr2,cs2,w2,W2,sl2,t2,q2,L2,b1,b2,b3,b4,b5,b6,b7,b8,b9,b10⟩:=Ie (A4c (c:=c) (base:=base) (e':=e') (W:=w1) hke hs' (R3 har g4 (.inl ⟨_,_,_,rfl⟩)) (R3 har g5 (.inr ⟨_,_,rfl⟩)) (R3 har g6 (.inr ⟨_,_,rfl⟩)) (R3 har g7 (.inr ⟨_,_,rfl⟩)) hlt1)
  gs1 w1 sl1 t1 q1 a3 (At _ _ _) (fun x hx=>by obtain rfl:x=c:=hx;exact hc1) a6 a7
 obtain⟨rfl,rfl,hr12,rfl⟩:=b4;have al2:=b10 c hnL al1;have hr2:Aw (Ew (Xs w.heap.size fun _=>False) B) (fun x=>x=c) w1 w2:=Af hr12 b5
 have hch2:w2.heap[c]?=some (.chan 0 #[] false 0 0 false):=(hr2.2.1 c (.inr rfl)).trans hch1;obtain⟨N3,gs3,d3,sl3,t3,q3,c1,c2,c3,c4,c5,c6,d4,sl4,c7⟩:=R9 (P:=Tryz.prog) (sumTo gs2.size q2) gs2 w2 sl2 t2 q2 rfl b3 b6 b7;have al3:=c6 c al2;have hleft:=a8.trans b8
 obtain⟨gs4,ops,e1,e0,e2,e3,e4⟩:=A8r (B0:=w.heap.size) (w0:=w) (w:=w2.at d4) (c:=c) (L:=Ew (Xs w.heap.size fun _=>False) B) (sl:=sl4) c3 (Af6 hke) c4 c5 ⟨0,false,hch2⟩ al3
  (fun x hx=>by
   have hx':=hx;obtain⟨y,hy,_⟩:=hx'
   exact⟨(hB y x hy).2.1,(hB y x hy).2.2,Am2 (hlt1 x hx) hr2.1⟩) hcw
  ⟨hleft.size,fun x hx=>hleft.kept x hx (fun h=>h),hleft.tape,hleft.os⟩
 have hsz:gs3.size=gs.size:=c2.trans (b2.trans a2)
 have hrun:Ia Tryz.prog gs w sl t gs4 (w2.at d4) sl4 (t3++ops) :=
  (Ia.trans ⟨N1,a1⟩ (Ia.trans ⟨N2,b1⟩ ⟨N3,c1⟩)).trans (Ia.head (by rw[c7];exact e1) .refl)
 have hV:V.heap[w.heap.size]?=some (.cells #[] 0 (0,0)):=by
  have hsz:ww.heap.size=w.heap.size+1:=by rw[hwe];simp[V0]
  rw[g10.O.old.block w.heap.size (by omega),hwe]
  show(w.heap.push _)[w.heap.size]?=_
  rw[Ama,Amo rfl]
 have hw2:WR (Xs w.heap.size fun _=>False) B { V with tape:=w2.tape,drawn:=d4 } (w2.at d4):=by
  refine Gc (W2:=w2.at d4) hw ?_
  rw[Gn]
  refine Af a5 (Ad ?_ d4)
  exact⟨hr2.1,fun x hx=>hr2.2.1 x (hx.elim .inl fun h=>h.elim),hr2.2.2⟩
 have hw3:=Afl (c:=c) hw2 (fun y hy=>by have:=(hB _ _ hy).1;omega) (fun x hx=>(hB _ _ hx).2.2 rfl) ⟨0,hV⟩ (Alx.1 hch2).1 hN (Am1 hN hcw)
 have hle:Le B (fun x y=>B x y \/(x=w.heap.size/\y=c)):=fun _ _ h=>.inl h
 have hAR:AR (Xs w.heap.size fun _=>False) (fun x y=>B x y \/(x=w.heap.size/\y=c)) (I5 (.chan (some w.heap.size)) (.complex .f32 cx cy) (.int .i64 d) (.int .i64 n) (.int .i64 A6) a).tmps (I5 (.chan (some c)) (.complex .f32 cx cy) (.int .i64 d) (.int .i64 n) (.int .i64 A6) a').tmps:=by
  have hch:VR (Xs w.heap.size fun _=>False) (fun x y=>B x y \/(x=w.heap.size/\y=c)) (.chan (some w.heap.size)) (.chan (some c)):=.chan (.inr ⟨rfl,rfl⟩)
  unfold I5
  exact Gh (Gh (Gh (Gh (Gh (Gh (Gh (har.mono hle) _ hch) _ hch) _ hch) _ (.complex _ _ _)) _ (.int _ _)) _ (.int _ _)) _ (.int _ _)
 refine⟨gs4,w2.at d4,sl4,t3++ops,q3,fun x y=>B x y \/(x=w.heap.size/\y=c),{ V with tape:=w2.tape,drawn:=d4 },{ ww with tape:=w2.tape,drawn:=d4 },b',I5 (.chan (some w.heap.size)) (.complex .f32 cx cy) (.int .i64 d) (.int .i64 n) (.int .i64 A6) a,I5 (.chan (some c)) (.complex .f32 cx cy) (.int .i64 d) (.int .i64 n) (.int .i64 A6) a',e',c,Ew (Xs w.heap.size fun _=>False) B,rb,ob,gS,gM,hrun,by rw[e0,hsz],e2,?_,?_,Aay.symm,⟨hw3,?_,.inr ⟨rfl,rfl⟩,?_⟩,?_,?_,?_,?_,?_,Dt g10 _ _⟩
 ·rw[<-hsz,e3];obtain⟨z1,z2,z3,z4,z5⟩:=Aeu (ch:=.chan (some c)) (v0:=.complex .f32 cx cy) (v1:=.int .i64 d) (v2:=.int .i64 n) (v3:=.int .i64 A6) hs';rw[z1,z2,z3,z4,z5]
  rfl
 ·rw[<-hsz];exact e4
 ·refine E3 hAR ?_ (.cons (.code hce) .nil) hbk hbf
  rw[K7,K7,g3,had]
  exact .nil
 ·rintro x y (hxy |⟨_,rfl⟩)
  ·exact(hB x y hxy).2.1
  ·exact hcw
 ·rw[A8h];exact g2
 ·rw[A6g (by omega)];exact g8
 ·rw[A6g (by omega)];exact g9
 ·exact Aet g2
 ·rw[K7];exact g3
end
section
open Go.RowKit Go.Conc Co Ok Lr Tl Bar
noncomputable def A20:List Item:=[.code mZ,.inLoop mY,.inBlock 0,.code (.seq A4b .ret)]
def Rh (p c m0 cx cy d n N:Nat)(xs:List Nat)(ys:List Int)(R L:Nat->Prop)(fr:Frame)(cs:List Frame)(W:World):Prop :=
 ∃(F:Nat->Prop) (B:Lk) (V ww:World) (a a':Act) (b':Frame) (k':List Item) (rb ob gS gM:Nat),cs=[]/\fr=b'.at a' (.inRegion K5 [0,1] :: k')/\MS p c m0 F B V W a a' b' A20 k'/\MA rb ob (.chan (some p)) a /\
  TX ww rb ob cx cy d n (n*n) N N gS gM xs ys V/\L=Ew (Xs p F) B/\R=Jj (Xs p F) B
theorem MS.rely {p c m0:Nat}{F:Nat->Prop}{B:Lk}{V W W2:World}{a a':Act}{b':Frame}{s s':List Item}(h:MS p c m0 F B V W a a' b' s s')(hr:Aw (Ew (Xs p F) B) (Jj (Xs p F) B) W W2):MS p c m0 F B { V with tape:=W2.tape,drawn:=W2.drawn } W2 a a' b' s s' :=
 ⟨Gc h.wr hr,h.fr,h.pc,h.low⟩
theorem MS.kind {p c m0:Nat}{F:Nat->Prop}{B:Lk}{V W:World}{a a':Act}{b':Frame}{s s':List Item}(h:MS p c m0 F B V W a a' b' s s'):b'.kind=bM.kind/\b'.fn=bM.fn/\AR (Xs p F) B a.tmps a'.tmps/\Rf (Xs p F) B a.defers a'.defers/\Ri (Xs p F) (Xs p F).K B s s':=by
 obtain⟨_,h1,h2,h3,h4,h5⟩:=Gm h.fr
 exact⟨h4,h5,h1,h2,h3⟩
theorem Adl {p c:Nat}{F:Nat->Prop}{B:Lk}{V W:World}(hw:WR (Xs p F) B V W)(hpc:B p c){q q':Array Value}(h:AR (Xs p F) B q q'){i:Nat}(hv:q[i]?=some (.chan (some p))):q'[i]?=some (.chan (some c)):=by
 obtain⟨v',h1,h2⟩:=Vn h hv
 cases h2 with
 | chan g=>rw[hw.fn _ _ _ hpc g];exact h1
theorem A2o {p c m0 cx cy d n N:Nat}{xs:List Nat}{ys:List Int}{F:Nat->Prop}{B:Lk}{V W:World}{a a':Act}{b':Frame}{s s':List Item}{base:List Frame}{ww:World}{rb ob gS gM:Nat}(h:MS p c m0 F B V W a a' b' s s')(hm:m0<=W.heap.size)
 (hh:∀τ k,HW Vp.prog s (H12 cx cy d n rb ob (.chan (some p)) gS gM N xs ys { ww with tape:=τ,drawn:=k }) a { V with tape:=τ,drawn:=k }) :
 Co Tryz.prog true base (Jj (Xs p F) B) (fun L fr cs W=>G4 Tryz.prog true base c (.recv O7) fr cs/\Rh p c m0 cx cy d n N xs ys (Jj (Xs p F) B) L fr cs W) (Ew (Xs p F) B) (b'.at a' s') [] W:=by
 refine(Jr (m:=true) (base:=base) (L0 p F) Ru (H:=fun t a V=>∃ww,H12 cx cy d n rb ob (.chan (some p)) gS gM N xs ys ww t a V) (fun t a V τ k h=>by
  obtain⟨w,h1,h2,h3⟩:=h
  exact⟨{ w with tape:=τ,drawn:=k },h1,h2,Dt h3 τ k⟩) h.wr h.fr fun τ k=>(hh τ k).mono fun t a V x=>⟨_,x⟩).bind ?_
 rintro L fr cs W1 ⟨B1,x,τ,k,hg,⟨hxc,t,a1,hxf,w,hH⟩,hw,hf,hc,rfl,hn1,hm1⟩;rw[hxc]at hc;rw[hxf]at hf
 cases hc
 obtain⟨rfl,hMA,hTX⟩:=hH;have hTX':TX { w with tape:=τ,drawn:=k } rb ob cx cy d n (n*n) N N gS gM xs ys (x.at τ k).V:=Dt hTX τ k
 clear hTX;generalize (x.at τ k).V=V1 at hw hTX';obtain⟨e1,har,hds,htd,hk,hfn⟩:=Gm hf;obtain⟨d12,k',etd,hd12,hk'⟩:=Kz htd (by decide)
 obtain rfl:=Agr hd12;rw[etd]at e1;rw[e1];have hke:fr.kind≠.early:=by rw[hk];simp[bM,Go.Conc.base]
 have hpc:B1 p c:=hg.1 _ _ h.pc;have hIce:=Y5 h.wr hg
 have hMS:MS p c m0 F B1 V1 W1 a1 ⟨fr.tmps,fr.defers⟩ fr A20 k':=⟨hw,E3 har hds hk' hk hfn,hpc,fun x y hxy=>by
  rcases hg.2 x y hxy with h1 |⟨_,h1⟩
  ·exact h.low _ _ h1
  ·exact Am1 hm h1⟩
 have hch:=Adl hw hpc har hMA.t54
 refine Co.region (WH.hot ⟨V1,rfl,hw⟩) fun W2 hr2=>?_
 rw[Ai1];rw[<-hIce]at hr2
 refine .stop ⟨A5c hke (A0i hch),F,B1,_,{ w with tape:=W2.tape,drawn:=W2.drawn },a1,⟨fr.tmps,fr.defers⟩,fr,k',rb,ob,gS,gM,rfl,rfl,hMS.rely hr2,hMA,Dt hTX' _ _,rfl,hIce.symm⟩
end
section
open Go.RowKit Go.Conc Co Ok Lr Tl Bar
theorem Aaq {X:Cx}{xs:List Nat}:∀v∈((xs.map Db).toArray:Array Value),Flat X v:=by
 intro v hv;rw[An4,Anp]at hv;obtain⟨x,_,rfl⟩:=hv
 exact fun B=>.float _ _
theorem Aar {X:Cx}{xs:List Int}:∀v∈((xs.map By).toArray:Array Value),Flat X v:=by
 intro v hv;rw[An4,Anp]at hv;obtain⟨x,_,rfl⟩:=hv
 exact fun B=>.int _ _
theorem Aap {b':Frame}{a':Act}{k':List Item}{v:Value}:(b'.at a' (.inRegion K5 [0,1] :: k')).finish v=b'.at (a'.put (some 55) v) (.inRegion K5 [1] :: k'):=by
 obtain⟨o,ho,_,hd,_⟩:=Abk;rw[<-hd,Frame.finish_at,ho]
 rfl
theorem MA.Akl {rb ob:Nat}{ch v x:Value}{a:Act}(h:MA rb ob ch a):MA rb ob ch ((a.put (some 55) v).put (some 56) x):=by
 obtain⟨h1,h2,h3,h4,h5,h6⟩:=h
 refine⟨?_,?_,?_,?_,?_,h6⟩
 ·rw[E9,E9];exact h1
 all_goals rw[Ca (by decide),Ca (by decide)]
 ·exact h2
 ·exact h3
 ·exact h4
 ·exact h5
theorem Rj {p c m0:Nat}{F:Nat->Prop}{B:Lk}{V W:World}{a a':Act}{b':Frame}{k':List Item}{base:List Frame}{Post:(Nat->Prop)->Frame->List Frame->World->Prop}{vV vW:Value}{y:Bool}
 (h:MS p c m0 F B V W a a' b' A20 k') (hs:a.tmps.size=71) (hv:VR (Xs p F) B vV vW)
 (k:∀(τ:Tape) (d:Nat) (W2:World),W.heap.size<=W2.heap.size->MS p c m0 F B { V with tape:=τ,drawn:=d } W2 ((a.put (some 55) (.tuple #[vV,.bool y])).put (some 56) (.bool y)) ((a'.put (some 55) (.tuple #[vW,.bool y])).put (some 56) (.bool y)) b' A20 k' ->
  Co Tryz.prog true base (Jj (Xs p F) B) Post (Ew (Xs p F) B) (b'.at ((a'.put (some 55) (.tuple #[vW,.bool y])).put (some 56) (.bool y)) k') [] W2) :
 Co Tryz.prog true base (Jj (Xs p F) B) Post (Ew (Xs p F) B) ((b'.at a' (.inRegion K5 [0,1] :: k')).finish (.tuple #[vW,.bool y])) [] W:=by
 obtain⟨hk,hfn,har,hds,htd⟩:=h.kind;have hke:b'.kind≠.early:=by rw[hk];simp[bM,Go.Conc.base]
 have hs':a'.tmps.size=71:=by rw[<-har.1];exact hs
 obtain⟨o,ho,hop,hd,hg⟩:=Ah8;rw[Aap];have l0:∀b,Ew (Xs p F) B b->b<W.heap.size:=WH.hot ⟨V,rfl,h.wr⟩
 refine Co.val ho hg hke (Uj (Qz (by omega)) hop) l0 fun W1 r1=>?_
 rw[hd]
 refine Co.I6 (Dy l0 r1) fun W2 r2=>?_
 have r:=Af r1 r2
 refine k W2.tape W2.drawn W2 r.1 ⟨Gc h.wr r,E3 (Gh (Gh har _ (.tuple (p:=#[vV,.bool y]) (p':=#[vW,.bool y]) rfl fun i v v' h1 h2=>?_)) _ (.bool y)) hds htd hk hfn,h.pc,h.low⟩
 match i with
 | 0=>cases h1;cases h2;exact hv
 | 1=>cases h1;cases h2;exact .bool y
 | i+2=>cases h1
theorem A8i {p c m0 cx cy d n N i:Nat}{xs:List Nat}{ys:List Int}{st:Nat->Nat->Int}{sm:Nat->Nat->Nat}{R L Lb R':Nat->Prop}{fr:Frame}{cs base:List Frame}{W1 Wb w:World}{v:Value}(hn:n<=8)(hN:N+n<=n*n)
 (hP:Rh p c m0 cx cy d n N xs ys R L fr cs W1) (hr:Aw L R W1 w) (row:Zn n st sm i v R' Wb) (hrb:Aw Lb R Wb w) (hsub:∀x,R' x->Lb x) (hdb:∀x,Lb x->¬L x/\¬R x/\x≠c/\m0<=x) (hNm:Vp.prog.globals.size<=m0) (hmw:m0<=w.heap.size) :
 cs=[]/\Co Tryz.prog true base (fun x=>R x\/R' x) (fun L fr cs W=>G4 Tryz.prog true base c (.recv O7) fr cs/\Rh p c m0 cx cy d n (N+n) (xs ++(List.range n).map (sm i)) (ys ++(List.range n).map (st i)) (fun x=>R x\/R' x) L fr cs W) L (fr.finish (.tuple #[v,.bool true])) [] w:=by
 obtain⟨F,B,V0,ww0,a,a',b',k',rb,ob,gS,gM,rfl,rfl,hMS,hMA,hTX,rfl,rfl⟩:=hP
 refine⟨rfl,?_⟩
 have hMS:=hMS.rely hr;have hTX:TX { ww0 with tape:=w.tape,drawn:=w.drawn } rb ob cx cy d n (n*n) N N gS gM xs ys { V0 with tape:=w.tape,drawn:=w.drawn }:=Dt hTX _ _
 generalize ({ V0 with tape:=w.tape,drawn:=w.drawn }:World)=V at hMS hTX
 generalize ({ ww0 with tape:=w.tape,drawn:=w.drawn }:World)=ww at hTX
 obtain⟨sb,mb,f,g,rfl,hne,hR',hs,hm⟩:=row;have rs:R' sb:=(hR' sb).2 (.inl rfl);have rm:R' mb:=(hR' mb).2 (.inr rfl);have hs:=(hrb.2.1 sb (.inl (hsub _ rs))).trans hs;have hm:=(hrb.2.1 mb (.inl (hsub _ rm))).trans hm;have hw:=hMS.wr
 have unl:∀s,R' s->∀b,¬B b s:=by
  intro s hs b hb;have:=hdb s (hsub s hs)
  by_cases hd:b=p
  ·subst hd;exact this.2.2.1 (hw.fn _ _ _ hb hMS.pc)
  by_cases hf:F b
  ·exact this.2.1 ⟨b,hb,hd,hf⟩
  ·exact this.1 ⟨b,hb,hd,hf⟩
 have l1:=A6w (N7 p F fun b=>F b\/b=V.heap.size) hw (unl sb rs) hs Aaq (Am1 hNm (hdb _ (hsub _ rs)).2.2.2) (fun _=>.rfl)
 have unl2:∀b,¬((fun b b'=>B b b' \/(b=V.heap.size/\b'=sb)) b mb):=by
  rintro b (hb |⟨_,hb⟩)
  ·exact unl mb rm b hb
  ·exact hne hb.symm
 have l2:=A6w (N7 p _ fun b=>(F b\/b=V.heap.size)\/b=V.heap.size+1) l1 unl2 hm Aar (Am1 hNm (hdb _ (hsub _ rm)).2.2.2) (fun b=>by rw[Apy];exact .rfl)
 generalize hB2:(fun b b'=>(B b b' \/(b=V.heap.size/\b'=sb)) \/(b=({ V with heap:=V.heap.push (.cells (((List.range n).map (sm i)).map Db).toArray 87 (0,(((List.range n).map (sm i)).map Db).toArray.size)) }:World).heap.size/\b'=mb):Lk)=B2 at l2
 have l3:=l2;clear l2
 have hB2:∀x y,B2 x y↔(B x y \/(x=V.heap.size/\y=sb)) \/(x=V.heap.size+1/\y=mb):=fun x y=>by
  rw[<-hB2,Apy]
 have hle:Le B B2:=fun x y h=>(hB2 x y).2 (.inl (.inl h))
 have hpV:p<V.heap.size:=hw.Vv p rfl
 have eH:Ew (Xs p fun b=>(F b\/b=V.heap.size)\/b=V.heap.size+1) B2=Ew (Xs p F) B:=by
  funext x
  apply propext
  constructor
  ·rintro⟨b,h1,h2,h3⟩
   rcases(hB2 b x).1 h1 with(h |⟨rfl,_⟩) |⟨rfl,_⟩
   ·exact⟨b,h,h2,fun f=>h3 (.inl (.inl f))⟩
   ·exact absurd (.inl (.inr rfl)) h3
   ·exact absurd (.inr rfl) h3
  ·rintro⟨b,h1,h2,h3⟩;have:=hw.Wo h1
   refine⟨b,hle _ _ h1,h2,?_⟩
   rintro((h|rfl)|rfl)
   ·exact h3 h
   ·omega
   ·omega
 have eI:Jj (Xs p fun b=>(F b\/b=V.heap.size)\/b=V.heap.size+1) B2=fun x=>Jj (Xs p F) B x\/R' x:=by
  funext x
  apply propext
  constructor
  ·rintro⟨b,h1,h2,h3⟩
   rcases(hB2 b x).1 h1 with(h |⟨_,rfl⟩) |⟨_,rfl⟩
   ·have:=hw.Wo h
    rcases h3 with(h3|rfl)|rfl
    ·exact .inl ⟨b,h,h2,h3⟩
    ·omega
    ·omega
   ·exact .inr rs
   ·exact .inr rm
  ·rintro(⟨b,h1,h2,h3⟩|h)
   ·exact⟨b,hle _ _ h1,h2,.inl (.inl h3)⟩
   ·rcases(hR' x).1 h with rfl|rfl
    ·exact⟨V.heap.size,(hB2 _ _).2 (.inl (.inr ⟨rfl,rfl⟩)),fun e=>by have e:V.heap.size=p:=e;omega,.inl (.inr rfl)⟩
    ·exact⟨V.heap.size+1,(hB2 _ _).2 (.inr ⟨rfl,rfl⟩),fun e=>by have e:V.heap.size+1=p:=e;omega,.inr rfl⟩
 rw[<-eI,<-eH]
 have hMS2:MS p c m0 (fun b=>(F b\/b=V.heap.size)\/b=V.heap.size+1) B2 _ w a a' b' A20 k' :=
  ⟨l3,(hMS.fr.mono hle).cx (N7 p F _),hle _ _ hMS.pc,fun x y hxy=>by
   rcases(hB2 x y).1 hxy with(h |⟨_,rfl⟩) |⟨_,rfl⟩
   ·exact hMS.low _ _ h
   ·exact(hdb _ (hsub _ rs)).2.2.2
   ·exact(hdb _ (hsub _ rm)).2.2.2⟩
 have hTX2:TX ww rb ob cx cy d n (n*n) N N gS gM xs ys ((V.alloc (.cells (((List.range n).map (sm i)).map Db).toArray 87 (0,(((List.range n).map (sm i)).map Db).toArray.size))).alloc (.cells (((List.range n).map (st i)).map By).toArray 3 (0,(((List.range n).map (st i)).map By).toArray.size))):=(hTX.alloc _).alloc _;have hob:ob<V.heap.size:=(Alx.1 hTX.O.blk).1;have hgS:gS<V.heap.size:=(hTX.S.lt gS rfl).2;have hgM:gM<V.heap.size:=(hTX.M.lt gM rfl).2
 refine Rj (vV:=.agg #[.slice (some ⟨V.heap.size,0,none⟩) n n,.slice (some ⟨V.heap.size+1,0,none⟩) n n]) hMS2 hMA.size (.agg rfl fun j v v' h1 h2=>?_) fun τ k W2 hsz hM=>?_
 ·match j with
  | 0=>cases h1;cases h2;exact .slice _ _ ⟨⟨(hB2 _ _).2 (.inl (.inr ⟨rfl,rfl⟩)),fun e=>by have e:V.heap.size=p:=e;omega⟩,⟨rfl,Amu _⟩,rfl⟩
  | 1=>cases h1;cases h2;exact .slice _ _ ⟨⟨(hB2 _ _).2 (.inr ⟨rfl,rfl⟩),fun e=>by have e:V.heap.size+1=p:=e;omega⟩,⟨rfl,Amu _⟩,rfl⟩
  | j+2=>cases h1
 ·refine A2o (ww:=ww) (rb:=rb) (ob:=ob) (gS:=gS) (gM:=gM) hM (Am1 hmw hsz) fun τ' k'=>?_
  refine Ae4 (sb:=V.heap.size) (mb:=V.heap.size+1) (fz:=(0,(((List.range n).map (sm i)).map Db).toArray.size)) (fu:=(0,(((List.range n).map (st i)).map By).toArray.size)) hn hN hMA.Akl ?_ ?_ (Dt hTX2 τ' k') (by simp) (by simp) ?_ ?_ ⟨by omega,by omega⟩ ⟨by omega,by omega,by omega⟩
  ·rw[Ca (by decide)]
   exact Am7 (by rw[hMA.size];decide)
  ·exact Am7 (by rw[E9,hMA.size];decide)
  ·show((V.heap.push _).push _)[V.heap.size]?=_
   rw[Ama,Amd (by rw[Apy];omega),Ama,Amo rfl]
  ·show((V.heap.push _).push _)[V.heap.size+1]?=_
   rw[Ama,Amo (by rw[Apy])]
end
section
open Go.RowKit Go.Conc Co Ok Lr Tl Bar
theorem Np {t:Array Value}{V:World}{rb:Nat}{v0 v1 v2 v3 v4 x:Value}(h8:t[8]?=some (.pointer (some ⟨rb,0,none⟩)))(h9:t[9]?=some x)
 (h:V.cell? ⟨rb,0,none⟩=some v0/\V.cell? ⟨rb,1,none⟩=some v1/\V.cell? ⟨rb,2,none⟩=some v2/\V.cell? ⟨rb,3,none⟩=some v3/\V.cell? ⟨rb,4,none⟩=some v4):(results Vp.fT t).run Vp.prog V=.ok (.tuple #[.agg #[v0,v1,v2,v3,v4],x]) V:=by
 obtain⟨c0,c1,c2,c3,c4⟩:=h;have hr:Vp.fT.results=#[.cell 8 43,.tmp 9]:=by rw[Vp.No];rfl
 unfold results;rw[hr];simp[go_sem,loadVar,Amf,h8,h9,c0,c1,c2,c3,c4]
def Lf (cx cy d n:Nat)(Ey:Bool)(xs:List Nat)(ys:List Int)(v:Value)(V:World):Prop :=
 if Ey then ∃gS gM,v=.tuple #[.agg (C8 cx cy d n (.slice (some ⟨gS,0,none⟩) (n*n) (n*n)) (.slice (some ⟨gM,0,none⟩) (n*n) (n*n))),.bool true]/\V.heap[gS]?=some (.cells (xs.map Db).toArray 87 (0,0))/\V.heap[gM]?=some (.cells (ys.map By).toArray 3 (0,0))
 else v=.tuple #[.agg (C8 0 0 0 0 (.slice none 0 0) (.slice none 0 0)),.bool false]
theorem A1j {cx cy d n:Nat}{Ey:Bool}{xs:List Nat}{ys:List Int}{w V:World}{t:List Item}{a:Act}(h:Qk cx cy d n Ey xs ys w t a V) :
 ∃v,Frame.leaving Vp.prog { bM.at a t with mode:=.returning } V (.returned v)/\Lf cx cy d n Ey xs ys v V:=by
 obtain⟨rb,rest,_,hd,h8,h9,_,h⟩:=h
 cases Ey with
 | false =>
   rw[Amd (by simp)]at h
   exact⟨_,⟨rfl,hd,rfl,Vp.fT,Vp.Pj,Np h8 h9 h.Og⟩,rfl⟩
 | true =>
   rw[Amo rfl]at h;obtain⟨gS,gM,hb,hS,hM⟩:=h
   exact⟨_,⟨rfl,hd,rfl,Vp.fT,Vp.Pj,Np h8 h9 hb.Og⟩,gS,gM,rfl,Nk hS,Nk hM⟩
theorem Sn {cx cy d n:Nat}{Ey:Bool}{xs:List Nat}{ys:List Int}{w V:World}{t:List Item}{a:Act}(h:Qk cx cy d n Ey xs ys w t a V)(τ:Tape)(k:Nat):Qk cx cy d n Ey xs ys { w with tape:=τ,drawn:=k } t a { V with tape:=τ,drawn:=k }:=by
 obtain⟨rb,rest,h1,hd,h8,h9,h10,h⟩:=h
 refine⟨rb,rest,h1,hd,h8,h9,h10,?_⟩
 cases Ey with
 | false =>
   rw[Amd (by simp)]at h ⊢
   exact Hz h τ k
 | true =>
   rw[Amo rfl]at h ⊢;obtain⟨gS,gM,hb,hS,hM⟩:=h
   exact⟨gS,gM,Hz hb τ k,hS,hM⟩
theorem A1e {p cx cy d n:Nat}{Ey:Bool}{xs:List Nat}{ys:List Int}{F:Nat->Prop}{B:Lk}{V W:World}{fr:Frame}{a:Act}{s:List Item}{base:List Frame}(hw:WR (Xs p F) B V W)(hf:Dj (Xs p F) B (bM.at a s) fr)
 (hh:∀τ k,∃ww:World,HW Vp.prog s (Qk cx cy d n Ey xs ys ww) a { V with tape:=τ,drawn:=k }) :
 Co Tryz.prog true base (Jj (Xs p F) B) (Hx (Xs p F) V.heap.size W.heap.size B (Fin Vp.prog (Lf cx cy d n Ey xs ys))) (Ew (Xs p F) B) fr [] W:=by
 refine(Jr (m:=true) (base:=base) (L0 p F) Ru (H:=fun t a V=>∃ww,Qk cx cy d n Ey xs ys ww t a V) (fun t a V τ k ⟨w,h⟩=>⟨_,Sn h τ k⟩) hw hf fun τ k=>by
  obtain⟨ww,h⟩:=hh τ k
  exact h.mono fun t a V x=>⟨ww,x⟩).bind ?_
 rintro L fr1 cs W1 ⟨B1,x,τ,k,hg,⟨hxc,t,a1,hxf,ww,hH⟩,hw1,hf1,hc,rfl,hn1,hm1⟩;rw[hxc]at hc;rw[hxf]at hf1
 cases hc
 obtain⟨rb,rest,et,_⟩:=id hH;have hH2:=Sn hH τ k;obtain⟨e1,har,hds,htd,hk,hfn⟩:=Gm hf1
 obtain⟨k',etd,hk'⟩:∃k',fr1.todo=.code .ret :: k'/\Ri (Xs p F) (Xs p F).K B1 rest k':=by
  rw[et]at htd;generalize fr1.todo=q at htd
  cases htd with
  | cons hi hk =>
    cases hi with
    | code hc =>
      have hc:=hc
      exact⟨_,by rw[show _=Code.ret from hc],hk⟩
 rw[etd]at e1;rw[e1];have hIce:=Y5 hw hg;have l0:=WH.hot (X:=Xs p F) (B:=B1) ⟨(x.at τ k).V,rfl,hw1⟩
 refine Co.ctl (fr1:={ fr1.at ⟨fr1.tmps,fr1.defers⟩ (.code .ret :: k')with mode:=.returning }) (cs1:=[]) l0 (fun _=>stepG_ret') fun W2 hr2=>.stop ?_
 rw[<-hIce]at hr2;obtain⟨v,hv,hq⟩:=A1j hH
 refine⟨B1,⟨{ bM.at a1 t with mode:=.returning },[],x.V⟩,W2.tape,W2.drawn,hg,⟨rfl,v,hv,hq⟩,Gc (V:=(x.at τ k).V) hw1 hr2,?_,.nil,rfl,hn1,Am1 hm1 hr2.1⟩
 have:=hf1.Ue .returning;rw[e1]at this
 exact this
end
section
open Go.RowKit Go.Conc Co Ok Lr Tl Bar
def rowsOf {α:Type}(n:Nat)(f:Nat->Nat->α)(i:Nat):List α:=(List.range i).flatMap fun j=>(List.range n).map (f j)
theorem Fs {α:Type}(n:Nat)(f:Nat->Nat->α)(i:Nat):rowsOf n f (i+1)=rowsOf n f i ++(List.range n).map (f i):=by
 unfold rowsOf;rw[List.range_succ,List.flatMap_append];simp
structure Ada (p c m0 b cx cy d n:Nat)(st:Nat->Nat->Int)(sm:Nat->Nat->Nat)(w0:World)(base:List Frame)(i k:Nat)(gs:Array Goroutine)(w:World)(t:Trace)(q:Nat->Nat)(La Lb R:Nat->Prop)(fra frb:Frame)(csa csb:List Frame)(Wa Wb:World):Prop where
 A:Co Tryz.prog true base R (fun L fr cs W=>G4 Tryz.prog true base c (.recv O7) fr cs/\Rh p c m0 cx cy d n (i*n) (rowsOf n sm i) (rowsOf n st i) R L fr cs W) La fra csa Wa
 S:Pb c n st sm k Lb R frb csb Wb
 sit:J8 Tryz.prog c 0 b m0 w0 gs w t q La Lb R
 ga:gs[0]?=some (G fra (csa++base))
 gb:gs[b]?=some (G frb (csb++[]))
 ra:Aw La R Wa w
 rb:Aw Lb R Wb w
theorem Wx {p c m0 b cx cy d n:Nat}{st:Nat->Nat->Int}{sm:Nat->Nat->Nat}{w0:World}{base:List Frame}(hn:n<=8)(hNm:Vp.prog.globals.size<=m0):∀(k i:Nat),i+k=n->∀{gs:Array Goroutine} {w:World} {sl:Option (Nat×Nat)} {t:Trace} {q:Nat->Nat} {La Lb R:Nat->Prop} {fra frb:Frame} {csa csb:List Frame} {Wa Wb:World},
 Ada p c m0 b cx cy d n st sm w0 base i k gs w t q La Lb R fra frb csa csb Wa Wb ->
 ∃gs' w' sl' t' q' La' Lb' R' fra' frb' csa' csb' Wa' Wb',Ia Tryz.prog gs w sl t gs' w' sl' t'/\gs'.size=gs.size/\Ada p c m0 b cx cy d n st sm w0 base n 0 gs' w' t' q' La' Lb' R' fra' frb' csa' csb' Wa' Wb'
 | 0,i,hi,gs,w,sl,t,q,La,Lb,R,fra,frb,csa,csb,Wa,Wb,h=>by
   obtain rfl:i=n:=by omega
   exact⟨gs,w,sl,t,q,La,Lb,R,fra,frb,csa,csb,Wa,Wb,.refl,rfl,h⟩
 | k+1,i,hi,gs,w,sl,t,q,La,Lb,R,fra,frb,csa,csb,Wa,Wb,h=>by
   have hbz:(b == 0)=false:=by have:=h.sit.ne;simp;omega
   have hS:=h.S;unfold Pb at hS
   obtain⟨gs1,w1,sl1,t1,q1,La1,fra1,csa1,Wa1,Lb1,frb1,csb1,Wb1,v,m1,m2,m3,m4,m5,m6,m7,m8,m9⟩:=meet (a:=0) (b:=b) (baseb:=[]) (z:=O7)
    (KA:=fun L fr cs W=>Rh p c m0 cx cy d n (i*n) (rowsOf n sm i) (rowsOf n st i) R L fr cs W)
    (KB:=fun v L fr cs W=>∃R',Zn n st sm (n-(k+1)) v R' W /\(∀x,R' x->L x)/\∀W2,Aw (fun x=>L x/\¬R' x) (fun x=>R x\/R' x) W W2->Pb c n st sm k (fun x=>L x/\¬R' x) (fun x=>R x\/R' x) (fr.finish undef) cs W2)
    h.A (by rw[hbz];exact hS.mono fun L fr cs W ⟨v,z,x,y⟩=>⟨v,z,x,y⟩) (sl:=sl) h.sit h.ga h.gb h.ra h.rb
   obtain⟨R',hrow,hsub,hnext⟩:=m8;have s0:=m9 (fun _=>False) fun x hx=>hx.elim
   have s1:=m9 R' hsub;have hii:n-(k+1)=i:=by omega
   rw[hii]at hrow;have hle:(i+1)*n<=n*n:=Am3 n (by omega)
   obtain⟨rfl,hA⟩:=A8i (base:=base) hn (by rw[Aon]at hle;exact hle) m7 m5 hrow m6 hsub (fun x hx=>by
    obtain⟨g1,g2,g3,_⟩:=s0.db x ⟨hx,id⟩
    exact⟨g1,fun y=>g2 (.inl y),g3,s0.low x (.inr (.inl ⟨hx,id⟩))⟩) hNm s0.kept.1
   rw[<-Fs,<-Fs,<-Aon]at hA
   have hrel:Aw (fun x=>Lb1 x/\¬R' x) (fun x=>R x\/R' x) Wb1 w1:=⟨m6.1,fun x hx=>m6.2.1 x (by
    rcases hx with hx|hx|hx
    ·exact .inl hx.1
    ·exact .inr hx
    ·exact .inl (hsub x hx)),m6.2.2⟩
   obtain⟨gs',w',sl',t',q',La',Lb',R2,fra',frb',csa',csb',Wa',Wb',n1,n2,n3⟩:=Wx hn hNm k (i+1) (by omega) (sl:=sl1)
    (⟨hA,hnext w1 hrel,s1,m3,m4,At _ _ _,At _ _ _⟩:Ada p c m0 b cx cy d n st sm w0 base (i+1) k gs1 w1 t1 q1 La1 (fun x=>Lb1 x/\¬R' x) (fun x=>R x\/R' x) _ _ [] csb1 w1 w1)
   exact⟨gs',w',sl',t',q',La',Lb',R2,fra',frb',csa',csb',Wa',Wb',m1.trans n1,n2.trans m2,n3⟩
end
section
open Go.ConcN (sumTo)
open Go.RowKit Go.Conc Co Ok Lr Tl Bar
theorem Yk {X:Cx}{n m m':Nat}{B0:Lk}{F:St->Prop}{L:Nat->Prop}{fr:Frame}{cs:List Frame}{W:World}(h:Hx X n m' B0 F L fr cs W)(hm:m<=m'):Hx X n m B0 F L fr cs W:=by
 obtain⟨B,x,τ,d,h1,h2,h3,h4,h5,h6,h7,h8⟩:=h
 exact⟨B,x,τ,d,⟨h1.1,fun b b' h=>(h1.2 b b' h).imp id fun y=>⟨y.1,Am1 hm y.2⟩⟩,h2,h3,h4,h5,h6,h7,Am1 hm h8⟩
def Vm (cx cy d n:Nat)(xs:List Nat)(ys:List Int)(m0:Nat)(v:Value)(W:World):Prop :=
 ∃gS gM,v=.tuple #[.agg (C8 cx cy d n (.slice (some ⟨gS,0,none⟩) (n*n) (n*n)) (.slice (some ⟨gM,0,none⟩) (n*n) (n*n))),.bool true]/\m0<=gS/\m0<=gM/\gS≠gM/\W.heap[gS]?=some (.cells (xs.map Db).toArray 87 (0,0))/\W.heap[gM]?=some (.cells (ys.map By).toArray 3 (0,0))
theorem X2 {X:Cx}{B:Lk}{g l k:Nat}{v:Value}(h:VR X B (.slice (some ⟨g,0,none⟩) l k) v):∃g',B g g'/\¬X.D g/\v=.slice (some ⟨g',0,none⟩) l k:=by
 cases h with
 | @slice _ ad _ _ h =>
   obtain⟨⟨h1,h2⟩,⟨h3,_⟩,h4⟩:=h;obtain⟨x,y,z⟩:=ad;dsimp only at h1 h3 h4;subst h3 h4
   exact⟨x,h1,h2,rfl⟩
theorem Acy {p m0 cx cy d n:Nat}{F:Nat->Prop}{xs:List Nat}{ys:List Int}{B:Lk}{V W:World}{v v':Value}(hq:Lf cx cy d n true xs ys v V)(hv:VR (Xs p F) B v v')(hw:WR (Xs p F) B V W)(hl:∀x y,B x y->m0<=y)(hx:0<xs.length)(hy:0<ys.length):Vm cx cy d n xs ys m0 v' W:=by
 unfold Lf at hq;rw[Amo rfl]at hq;obtain⟨gS,gM,rfl,hS,hM⟩:=hq
 cases hv with
 | @tuple _ q hs hi =>
   obtain⟨q0,h0⟩:∃q0,q[0]?=some q0:=⟨_,Am6 (by rw[<-hs];simp)⟩
   obtain⟨q1,h1⟩:∃q1,q[1]?=some q1:=⟨_,Am6 (by rw[<-hs];simp)⟩
   have hq:q=#[q0,q1]:=by
    apply Ank
    intro i
    match i with
    | 0=>exact h0
    | 1=>exact h1
    | i+2=>rw[Ao0 (by rw[<-hs];simp)];rfl
   have r1:=hi 1 _ _ rfl h1
   cases r1
   have r0:=hi 0 _ _ rfl h0;subst hq;clear hi h0 h1
   cases r0 with
   | @agg _ u hs' hi =>
     have z:∀i,i<5->∃x,u[i]?=some x:=fun i h=>⟨_,Am6 (by rw[<-hs'];exact h)⟩
     obtain⟨u0,z0⟩:=z 0 (by decide)
     obtain⟨u1,z1⟩:=z 1 (by decide)
     obtain⟨u2,z2⟩:=z 2 (by decide)
     obtain⟨u3,z3⟩:=z 3 (by decide)
     obtain⟨u4,z4⟩:=z 4 (by decide)
     have hu:u=#[u0,u1,u2,u3,u4]:=by
      apply Ank
      intro i
      match i with
      | 0=>exact z0
      | 1=>exact z1
      | 2=>exact z2
      | 3=>exact z3
      | 4=>exact z4
      | i+5=>rw[Ao0 (by rw[<-hs'];simp[C8])];rfl
     have y0:=hi 0 _ _ rfl z0;have y1:=hi 1 _ _ rfl z1;have y2:=hi 2 _ _ rfl z2;obtain⟨gS',b1,d1,rfl⟩:=X2 (hi 3 _ _ rfl z3);obtain⟨gM',b2,d2,rfl⟩:=X2 (hi 4 _ _ rfl z4)
     cases y0
     cases y1
     cases y2
     subst hu;obtain⟨_,C1,w1,a1⟩:=Uh hw b1 d1 hS (by simpa using hx)
     obtain⟨_,C2,w2,a2⟩:=Uh hw b2 d2 hM (by simpa using hy)
     have e1:=Qw a1 (fun v hv=>by
      rw[An4,Anp]at hv;obtain⟨x,_,rfl⟩:=hv
      exact .inl ⟨x,rfl⟩)
     have e2:=Qw a2 (fun v hv=>by
      rw[An4,Anp]at hv;obtain⟨x,_,rfl⟩:=hv
      exact .inr ⟨x,rfl⟩)
     subst e1 e2
     refine⟨gS',gM',rfl,hl _ _ b1,hl _ _ b2,fun e=>?_,w1,w2⟩
     subst e;rw[w1]at w2;injection w2 with w2
     injection w2 with _ w2
     cases w2
end
section
open Go.ConcN (sumTo)
open Go.RowKit Go.Conc Co Ok Lr Tl Bar
theorem Mk {α:Type}(n:Nat)(f:Nat->Nat->α):∀i,(rowsOf n f i).length=i*n
 | 0=>by simp[rowsOf]
 | i+1=>by rw[Fs,Amy,Mk n f i,Aov,List.length_range,Aon]
theorem Qg {cx cy d n:Nat}{Ey:Bool}{xs:List Nat}{ys:List Int}(v:Value)(V:World)(τ:Tape)(k:Nat)(h:Lf cx cy d n Ey xs ys v V):Lf cx cy d n Ey xs ys v { V with tape:=τ,drawn:=k }:=h
theorem Akz {X:Cx}{B:Lk}:VR X B O7 O7:=.agg rfl fun i v v' h1 h2=>by
 rw[h1]at h2
 cases h2
 match i with
 | 0=>cases h1;exact .Iu _ _
 | 1=>cases h1;exact .Iu _ _
 | i+2=>cases h1
theorem A9j {cx cy d n:Nat}{A6:Int}{px py:Nat->Nat->Nat}{bx:Nat->Nat->Value}{st:Nat->Nat->Int}{sm:Nat->Nat->Nat}{ex ey:Nat}(C:Jl cx cy d n A6 px py bx st sm)(hn:n<=8)(hn0:0<n)
 (h:∀W,Calls Vp.prog 43 #[.complex .f32 cx cy,.int .i64 d,.int .i64 n] W fun e w'=>e=.returned (.bool true)/\W=w') (hp:∀W,Calls Vp.prog 44 #[.complex .f32 cx cy,.int .i64 d,.int .i64 n,.int .i64 n] W fun e w'=>e=.returned (.complex .f32 ex ey)/\W=w')
 (hf1:(FloatKind.f32.format.order ex 1090519040 == some .gt)=false) (hf2:(FloatKind.f32.format.order ey 1090519040 == some .gt)=false) {c0:Frame} {bs:List Frame} {gs:Array Goroutine} {w:World} {sl:Option (Nat×Nat)} {t:Trace} {q:Nat->Nat}
 (hN:Vp.prog.globals.size<=w.heap.size) (h0:gs[0]?=some (G (Frame.enter Tryz.prog 17 (X9 cx cy d n A6) .normal) (c0 :: bs))) (hL:Leavers Tryz.prog t gs q) (hP:Past (fun _=>False) w.heap.size t) :
 ∃gs' w' sl' t' q' v',Ia Tryz.prog gs w sl t gs' w' sl' t'/\gs'.size=gs.size+1/\gs'[0]?=some (G (c0.finish v') bs)/\Leavers Tryz.prog t' gs' q'/\Past (fun _=>False) w'.heap.size t'/\w.heap.size<=w'.heap.size /\(∀x,x<w.heap.size->w'.heap[x]?=w.heap[x]?) /\
  w'.tape=w.tape/\w'.os=w.os/\w'.output=w.output/\Vm cx cy d n (rowsOf n sm n) (rowsOf n st n) w.heap.size v' w':=by
 obtain⟨gs1,w1,sl1,t1,q1,B,V,ww,b',a,a',e',c,L,rb,ob,gS,gM,r1,z1,g1,g2,sit,hLe,hMS,y1,y2,y3,y4,y5,hTX⟩:=A1o (A6:=A6) hn h hp hf1 hf2 (sl:=sl) hN h0 hL hP
 have hA:Co Tryz.prog true (c0 :: bs) (Jj (Xs w.heap.size fun _=>False) B) (fun L fr cs W=>G4 Tryz.prog true (c0 :: bs) c (.recv O7) fr cs/\Rh w.heap.size c w.heap.size cx cy d n 0 [] [] (Jj (Xs w.heap.size fun _=>False) B) L fr cs W) (Ew (Xs w.heap.size fun _=>False) B) (b'.at a' (.inRegion E6 [] :: [.code e'])) [] w1:=by
  refine Co.I6 (WH.hot ⟨V,rfl,hMS.wr⟩) fun W2 hr=>?_
  exact A2o (ww:=ww) (rb:=rb) (ob:=ob) (gS:=gS) (gM:=gM) (hMS.rely hr) (Am1 sit.kept.1 hr.1) fun τ k=>Aax y1 y2 y3 y4 y5 (Dt hTX τ k)
 rw[Gn,<-hLe]at hA;have hc1:c<w1.heap.size:=by obtain⟨s,tm,hc⟩:=sit.chan;exact(Alx.1 hc).1
 have hS:=A8n (A6:=A6) C hn hn0 (c:=c) hc1 (Am1 hN sit.kept.1)
 have hb0:Ada w.heap.size c w.heap.size gs.size cx cy d n st sm w (c0 :: bs) 0 n gs1 w1 t1 q1 L (fun _=>False) (fun _=>False) _ _ [] [] w1 w1 :=
  ⟨by rw[Nat.zero_mul];exact hA,hS,sit,g1,g2,At _ _ _,At _ _ _⟩
 obtain⟨gs2,w2,sl2,t2,q2,La2,Lb2,R2,fra2,frb2,csa2,csb2,Wa2,Wb2,r2,z2,hb⟩:=Wx hn hN n 0 (by omega) (sl:=sl1) hb0
 have hS2:=hb.S;unfold Pb at hS2;obtain⟨gs3,w3,sl3,t3,q3,La3,fr3,cs3,W3,r3,z3,g3,hK,hr3,hL3,hP3,hlow3,hdis3,hR3,hkept3⟩:=finish (K:=fun L fr cs W=>Rh w.heap.size c w.heap.size cx cy d n (n*n) (rowsOf n sm n) (rowsOf n st n) R2 L fr cs W) hb.A hS2 (sl:=sl2) hb.sit hb.ga hb.gb hb.ra hb.rb
 obtain⟨F,B3,V3,ww3,a3,a3',b3',k3',rb3,ob3,gS3,gM3,rfl,rfl,hMS3,hMA3,hTX3,rfl,rfl⟩:=hK;have hMS4:=hMS3.rely hr3
 have hCo:=Rj (base:=c0 :: bs) (Post:=Hx (Xs w.heap.size F) V3.heap.size w3.heap.size B3 (Fin Vp.prog (Lf cx cy d n true (rowsOf n sm n) (rowsOf n st n)))) (vV:=O7) (vW:=O7) (y:=false) hMS4 hMA3.size Akz fun τ k W2 hsz hM =>
  (A1e (cx:=cx) (cy:=cy) (d:=d) (n:=n) (Ey:=true) (xs:=rowsOf n sm n) (ys:=rowsOf n st n) hM.wr hM.fr fun τ' k'=>⟨{ ww3 with tape:=τ',drawn:=k' },Ae2 hMA3.Akl (by
   rw[Ca (by decide)]
   exact Am7 (by rw[hMA3.size];decide)) (Am7 (by rw[E9,hMA3.size];decide)) (Dt hTX3 τ' k')⟩).mono fun _ _ _ _ x=>Yk x hsz
 obtain⟨N4,gs4,fr4,cs4,w4,W4,sl4,t4,q4,L4,k1,k2,k3,k4,k5,k6,k7,k8,_,_⟩:=Ie hCo gs3 w3 sl3 t3 q3 g3 (At _ _ _) (fun x hx=>(hR3 x hx).2) hL3 hP3
 obtain⟨rfl,hret⟩:=Q3 (m:=true) (L0 w.heap.size F) (Q:=Lf cx cy d n true (rowsOf n sm n) (rowsOf n st n)) Qg k4 (R:=Jj (Xs w.heap.size F) B3) fun B1 hg _=>Y5 hMS4.wr hg
 obtain⟨N5,gs5,d5,sl5,t5,q5,j1,j2,j3,j4,j5,_,d6,sl6,j6⟩:=R9 (P:=Tryz.prog) (sumTo gs4.size q4) gs4 w4 sl4 t4 q4 rfl k3 k6 k7;obtain⟨v',W6,n6,L6,hdid,hst,B6,V6,v6,hg6,hq6,hv6,hw6,rfl⟩:=hret (w4.at d6) (Ad k5 d6);obtain⟨gs7,ops,i1,i2,i3,i4,i5⟩:=On (sl:=sl6) (w:=w4.at d6) j3 (hst c0 bs) hdid (fun x hx=>Am2 (hR3 x hx).2 k8.size) j4 j5
 have hrun:Ia Tryz.prog gs w sl t gs7 W6 sl6 (t5++ops):=(r1.trans (r2.trans (r3.trans (Ia.trans ⟨N4,k1⟩ ⟨N5,j1⟩)))).trans (Ia.head (by rw[j6];exact i1) .refl)
 have hL4:∀x,L4 x->w.heap.size<=x:=fun x hx=>by
  rcases k8.new x hx with y|y
  ·exact hlow3 x (.inl y)
  ·exact Am1 hkept3.1 y
 refine⟨gs7,W6,sl6,t5++ops,q5,v',hrun,by rw[i2,j2,k2,z3,z2,z1],i3,i4,i5,Am1 hkept3.1 (Am1 k8.size hdid.size),fun x hx=>?_,?_,?_,?_,Acy hq6 hv6 hw6 (fun x y hxy=>?_) ?_ ?_⟩
 ·rw[hdid.kept x (Am2 hx (Am1 hkept3.1 k8.size)) fun hl=>Nat.not_le.2 hx (hL4 x hl)]
  refine(k8.kept x (Am2 hx hkept3.1) fun hl=>Nat.not_le.2 hx (hlow3 x (.inl hl))).trans (hkept3.2.1 x hx)
 ·exact hdid.tape.trans (k8.tape.trans hkept3.2.2.1)
 ·exact hdid.os.1.trans (k8.os.1.trans hkept3.2.2.2.1)
 ·exact hdid.os.2.trans (k8.os.2.trans hkept3.2.2.2.2)
 ·rcases hg6.2 x y hxy with z |⟨_,z⟩
  ·exact hMS4.low x y z
  ·exact Am1 hkept3.1 z
 ·rw[Mk];exact Nat.mul_pos hn0 hn0
 ·rw[Mk];exact Nat.mul_pos hn0 hn0
end
section
open Go.ConcN (sumTo)
open Go.RowKit Go.Conc Co Ok Lr Tl Bar
def Jb:Nat->Value->Bool
 | k+1,.agg p=>p.all (Jb k)
 | k+1,.tuple p=>p.size != 0 && p.all (Jb k)
 | _,.agg _|_,.tuple _=>false
 | k,v=>Ct k v
theorem A5v {X:Cx}{B:Lk}:∀(k:Nat) (v v':Value),Jb k v=true->VR X B v v'->v'=v:=by
 have rows:∀(k:Nat) (p p':Array Value),(∀v v',Jb k v=true->VR X B v v'->v'=v)->p.all (Jb k)=true->p.size=p'.size ->(∀(i:Nat) v v',p[i]?=some v->p'[i]?=some v'->VR X B v v')->p'=p:=by
  intro k p p' ih h hs hi;rw[Amr]at h
  apply Ank
  intro i
  cases h1:p[i]? with
  | none =>
    rw[Array.getElem?_eq_none_iff]at h1 ⊢
    omega
  | some v =>
    have hlt:i<p'.size:=by rw[<-hs];exact(Alx.1 h1).1
    have h2:=Am6 hlt;rw[h2,ih v _ (h v (Amp h1)) (hi i v _ h1 h2)]
 intro k
 induction k with
 | zero=>intro v v' h hv;cases hv<;>first|rfl |(simp[Jb,Ct]at h)
 | succ k ih =>
   intro v v' h hv
   cases hv with
   | agg hs hi=>rw[rows k _ _ ih (by simpa only[Jb]using h) hs hi]
   | tuple hs hi=>rw[rows k _ _ ih (by simp only[Jb,Am8]at h;exact h.2) hs hi]
   | gone a l c e=>simp[Jb,Ct]at h
   | _=>first|rfl |(simp[Jb,Ct]at h)
theorem Acz {cx cy:Nat}{deep size A6:Int}(hh:∀a:Act,a.tmps.size=71->a.tmps[0]?=some (.complex .f32 cx cy)->a.tmps[1]?=some (.int .i64 deep)->a.tmps[2]?=some (.int .i64 size)->a.tmps[3]?=some (.int .i64 A6)->a.defers=[]->∀w,HW Vp.prog [.code (cut [9,10,12] Aq)] (Qk 0 0 0 0 false [] [] w) a w)
 {c0:Frame} {bs:List Frame} {gs:Array Goroutine} {w:World} {sl:Option (Nat×Nat)} {t:Trace} {q:Nat->Nat}
 (hN:Vp.prog.globals.size<=w.heap.size) (h0:gs[0]?=some (G (Frame.enter Tryz.prog 17 #[.complex .f32 cx cy,.int .i64 deep,.int .i64 size,.int .i64 A6] .normal) (c0 :: bs))) (hL:Leavers Tryz.prog t gs q) (hP:Past (fun _=>False) w.heap.size t) :
 ∃gs' w' sl' t' q' ,Ia Tryz.prog gs w sl t gs' w' sl' t'/\gs'.size=gs.size/\gs'[0]?=some (G (c0.finish (.tuple #[.agg (C8 0 0 0 0 (.slice none 0 0) (.slice none 0 0)),.bool false])) bs)/\Leavers Tryz.prog t' gs' q'/\Past (fun _=>False) w'.heap.size t'/\w.heap.size<=w'.heap.size /\(∀x,x<w.heap.size->w'.heap[x]?=w.heap[x]?) /\
  w'.tape=w.tape/\w'.os=w.os/\w'.output=w.output:=by
 rw[Rx]at h0;generalize hT:(#[.complex .f32 cx cy,.int .i64 deep,.int .i64 size,.int .i64 A6]:Array Value)++Array.replicate (71-(#[.complex .f32 cx cy,.int .i64 deep,.int .i64 size,.int .i64 A6]:Array Value).size) undef=T at h0;have hTs:T.size=71:=by rw[<-hT];simp
 have hT0:T[0]?=some (.complex .f32 cx cy):=by rw[<-hT];exact Dw rfl _
 have hT1:T[1]?=some (.int .i64 deep):=by rw[<-hT];exact Dw rfl _
 have hT2:T[2]?=some (.int .i64 size):=by rw[<-hT];exact Dw rfl _
 have hT3:T[3]?=some (.int .i64 A6):=by rw[<-hT];exact Dw rfl _
 have hTR:AR (Xs w.heap.size fun _=>False) (fun _ _=>False) T T:=by
  rw[<-hT]
  refine AR.append ⟨rfl,fun i v v' h1 h2=>?_⟩ (AR.replicate _ Du)
  rw[h1]at h2
  cases h2
  match i with
  | 0=>cases h1;exact .complex _ _ _
  | 1=>cases h1;exact .int _ _
  | 2=>cases h1;exact .int _ _
  | 3=>cases h1;exact .int _ _
  | i+4=>cases h1
 have hhot:Ew (Xs w.heap.size fun _=>False) (fun _ _=>False)=fun _=>False:=by
  funext x;apply propext;exact⟨fun⟨b,h1,_⟩=>h1,fun h=>h.elim⟩
 have hCo:=A1e (base:=c0 :: bs) (cx:=0) (cy:=0) (d:=0) (n:=0) (Ey:=false) (xs:=[]) (ys:=[]) (A2n hN) (a:=⟨T,[]⟩) (s:=[.code (cut [9,10,12] Aq)]) (fr:=bM.at ⟨T,[]⟩ [.code Aq])
  (E3 hTR .nil (.cons (.code (A5t _ _)) .nil) rfl rfl) fun τ k=>⟨_,hh ⟨T,[]⟩ hTs hT0 hT1 hT2 hT3 rfl { V0 w with tape:=τ,drawn:=k }⟩
 rw[hhot,Gn]at hCo;obtain⟨N4,gs4,fr4,cs4,w4,W4,sl4,t4,q4,L4,k1,k2,k3,k4,k5,k6,k7,k8,_,_⟩:=Ie hCo gs w sl t q h0 (At _ _ _) (fun x hx=>hx.elim) hL hP
 obtain⟨rfl,hret⟩:=Q3 (m:=true) (L0 w.heap.size fun _=>False) (Q:=Lf 0 0 0 0 false [] []) Qg k4 (R:=fun _=>False) fun B1 hg _=>Gn
 obtain⟨N5,gs5,d5,sl5,t5,q5,j1,j2,j3,j4,j5,_,d6,sl6,j6⟩:=R9 (P:=Tryz.prog) (sumTo gs4.size q4) gs4 w4 sl4 t4 q4 rfl k3 k6 k7;obtain⟨v',W6,n6,L6,hdid,hst,B6,V6,v6,hg6,hq6,hv6,hw6,rfl⟩:=hret (w4.at d6) (Ad k5 d6);obtain⟨gs7,ops,i1,i2,i3,i4,i5⟩:=On (sl:=sl6) (w:=w4.at d6) j3 (hst c0 bs) hdid (fun x hx=>hx.elim) j4 j5
 have hrun:Ia Tryz.prog gs w sl t gs7 W6 sl6 (t5++ops):=(Ia.trans ⟨N4,k1⟩ ⟨N5,j1⟩).trans (Ia.head (by rw[j6];exact i1) .refl)
 have hL4:∀x,L4 x->w.heap.size<=x:=fun x hx=>(k8.new x hx).resolve_left id
 unfold Lf at hq6;rw[Amd (by simp)]at hq6
 subst hq6;have:=A5v 3 _ _ (by simp[Jb,Ct,C8]) hv6
 subst this
 exact⟨gs7,W6,sl6,t5++ops,q5,hrun,by rw[i2,j2,k2],i3,i4,i5,Am1 k8.size hdid.size,fun x hx=>by
  rw[hdid.kept x (Am2 hx k8.size) fun hl=>Nat.not_le.2 hx (hL4 x hl)]
  exact k8.kept x hx fun hl=>hl,hdid.tape.trans k8.tape,hdid.os.1.trans k8.os.1,hdid.os.2.trans k8.os.2⟩
end
end Go.Proofs.YtjaehldnlamgkaaGreatDoor
