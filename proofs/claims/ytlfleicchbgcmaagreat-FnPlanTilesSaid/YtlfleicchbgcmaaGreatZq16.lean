import Derived.Test.YtlfleicchbgcmaaGreatZq15
import Derived.Test.YtlfleicchbgcmaaGreatZq0
import Derived.Test.YtlfleicchbgcmaaGreatZqK
set_option linter.all false
set_option maxHeartbeats 16000000
set_option maxRecDepth 100000
namespace Go.Proofs.YtlfleicchbgcmaaGreat
section
open Go.RowKit Go.Conc Co Ok Lr Tl Bar
theorem Ec {w W:World}{rb ob cx cy d n cap N M gs gm:Nat}{xs:List Nat}{ys:List Int}(h:TX w rb ob cx cy d n cap N M gs gm xs ys W)(τ:Tape)(k:Nat):TX { w with tape:=τ,drawn:=k } rb ob cx cy d n cap N M gs gm xs ys { W with tape:=τ,drawn:=k } :=
 ⟨Iy h.O τ k,Iy h.R τ k,h.S,h.M,h.ne,h.hr,h.ho⟩
noncomputable def bM:Frame:=Go.Conc.base 15
noncomputable def Wt (cx cy d n:Nat)(A4:Int):Array Value:=#[.complex .f32 cx cy,.int .i64 d,.int .i64 n,.int .i64 A4]
theorem Ad7:∃fn,Tryz.prog.funcs[15]?=some fn/\fn.body=some Bh/\fn.ntmps=71:=⟨_,Tryz.func15,by kernel_rfl,by kernel_rfl⟩
theorem Rs (args:Array Value):Frame.enter Tryz.prog 15 args .normal=bM.at ⟨args++Array.replicate (71-args.size) undef,[]⟩ [.code Bh]:=by
 obtain⟨fn,hf,hb,hn⟩:=Ad7;rw[enter_at args hf hb,hn]
 rfl
def V0 (W:World):World:={ W with heap:=W.heap.push (.cells #[] 0 (0,0)) }
theorem A23 {W:World}(hN:Vp.prog.globals.size<=W.heap.size):WR (Xs W.heap.size fun _=>False) (fun _ _=>False) (V0 W) W :=
 { tape:=rfl,drawn:=rfl,os:=rfl,output:=rfl
   fn:=fun b b₁ b₂ h1 h2=>h1.elim
   inj:=fun b₁ b₂ b' h1 h2=>h1.elim
   Hm:=fun g hg=>by cases hg
   live:=fun b b' h hd _=>h.elim
   Ip:=fun b b' h hd _=>h.elim
   dead:=fun b b' h _=>h.elim
   Vc:=fun b hb=>by obtain rfl:b=W.heap.size:=hb;simp[V0]
   Rw:=fun b hb=>hb.elim
   low:=fun b b' h=>h.elim
   nV:=by unfold V0;rw[Am0];exact Nat.le_succ_of_le hN
   nW:=hN }
theorem A8s (D F:Nat->Prop)(s:Code)(hs:Hh Tryz.prog 15=s):Jy (cx Vp.prog phs [] (R4 Tryz.prog) D F) (cut [9,10,12] s) s:=by
 have h:=Abn;rw[hs]at h
 exact A8u [9,10,12] 15 (by simp[Mo]) s hs h
theorem A4t (p:Nat)(F:Nat->Prop):Jy (Xs p F) (cut [9,10,12] Bh) Bh:=A8s _ _ _ A9r
section
variable {cx cy d n : Nat} {A4 : Int} {a : Act} (hs : a.tmps.size = 71) (h0 : a.tmps[0]? = some (.complex .f32 cx cy)) (h1 : a.tmps[1]? = some (.int .i64 d)) (h2 : a.tmps[2]? = some (.int .i64 n)) (h3 : a.tmps[3]? = some (.int .i64 A4)) (hd : a.defers = [])
include hs h0 h1 h2 h3 hd
theorem Acd {ex ey:Nat}(hn:n<=8)(h:∀W,Calls Vp.prog 31 #[.complex .f32 cx cy,.int .i64 d,.int .i64 n] W fun e w'=>e=.returned (.bool true)/\W=w')(hp:∀W,Calls Vp.prog 32 #[.complex .f32 cx cy,.int .i64 d,.int .i64 n,.int .i64 n] W fun e w'=>e=.returned (.complex .f32 ex ey)/\W=w')
 (hf1:(FloatKind.f32.format.order ex 1090519040 == some .gt)=false) (hf2:(FloatKind.f32.format.order ey 1090519040 == some .gt)=false) (w:World):HW Vp.prog [.code (cut [9,10,12] Bh)] (Za cx cy d n A4 w) a w:=by
 obtain⟨t,ds⟩:=a;dsimp only at hs h0 h1 h2 h3 hd;obtain⟨y0,y1,y2,y3,y4,y5,y6,y7,y8,y9,y10,y11,y12,y13,y14,y15,y16,y17,y18,y19,y20,y21,y22,y23,y24,y25,y26,y27,y28,y29,y30,y31,y32,y33,y34,y35,y36,y37,y38,y39,y40,y41,y42,y43,y44,y45,y46,y47,y48,y49,y50,y51,y52,y53,y54,y55,y56,y57,y58,y59,y60,y61,y62,y63,y64,y65,y66,y67,y68,y69,y70,rfl⟩:=Uy t hs
 cases h0;cases h1;cases h2;cases h3;subst hd
 apply Ac3 hn h hp hf1 hf2
end
def Afz (W0:World)(cx cy d n:Nat)(A4:Int)(L:Nat->Prop)(fr:Frame)(cs:List Frame)(W:World):Prop :=
 ∃(B:Lk) (V w:World) (b':Frame) (a a':Act) (k':List Item) (c:Nat),cs=[]/\fr=b'.at (a'.put (some 48) (.chan (some c))) (.inRegion Sh [1] :: k')/\WR (Xs W0.heap.size fun _=>False) B V W/\AR (Xs W0.heap.size fun _=>False) B a.tmps a'.tmps/\a'.defers=[] /\
  Rc (Xs W0.heap.size fun _=>False) B [.code (.seq (.refuse "10") mF)] k'/\b'.kind=bM.kind/\b'.fn=bM.fn/\w.heap=(V0 W0).heap/\Za cx cy d n A4 w [.code (.refuse "9"), .code (.seq (.refuse "10") mF)] a V/\L=G2 (Xs W0.heap.size fun _=>False) B /\
  (∀x y,B x y->W0.heap.size+1<=x/\W0.heap.size<=y/\y≠c)/\W.heap[c]?=some (.chan 0 #[] false 0 0 false)/\W0.heap.size<=c
theorem A6z {cx cy d n:Nat}{A4:Int}{ex ey:Nat}(hn:n<=8)(h:∀W,Calls Vp.prog 31 #[.complex .f32 cx cy,.int .i64 d,.int .i64 n] W fun e w'=>e=.returned (.bool true)/\W=w')(hp:∀W,Calls Vp.prog 32 #[.complex .f32 cx cy,.int .i64 d,.int .i64 n,.int .i64 n] W fun e w'=>e=.returned (.complex .f32 ex ey)/\W=w')
 (hf1:(FloatKind.f32.format.order ex 1090519040 == some .gt)=false) (hf2:(FloatKind.f32.format.order ey 1090519040 == some .gt)=false) {W0:World} (hN:Vp.prog.globals.size<=W0.heap.size) {base:List Frame} :
 Co Tryz.prog true base (fun _=>False) (Afz W0 cx cy d n A4) (fun _=>False) (Frame.enter Tryz.prog 15 (Wt cx cy d n A4) .normal) [] W0:=by
 rw[Rs];generalize hT:Wt cx cy d n A4++Array.replicate (71-(Wt cx cy d n A4).size) undef=T;have hTs:T.size=71:=by rw[<-hT];simp[Wt]
 have hT0:T[0]?=some (.complex .f32 cx cy):=by rw[<-hT];exact Eg rfl _
 have hT1:T[1]?=some (.int .i64 d):=by rw[<-hT];exact Eg rfl _
 have hT2:T[2]?=some (.int .i64 n):=by rw[<-hT];exact Eg rfl _
 have hT3:T[3]?=some (.int .i64 A4):=by rw[<-hT];exact Eg rfl _
 have hTR:AR (Xs W0.heap.size fun _=>False) (fun _ _=>False) T T:=by
  rw[<-hT]
  refine AR.append ⟨rfl,fun i v v' h1 h2=>?_⟩ (AR.replicate _ Ga)
  rw[h1]at h2
  cases h2
  match i with
  | 0=>cases h1;exact .complex _ _ _
  | 1=>cases h1;exact .int _ _
  | 2=>cases h1;exact .int _ _
  | 3=>cases h1;exact .int _ _
  | i+4=>cases h1
 have hh:G2 (Xs W0.heap.size fun _=>False) (fun _ _=>False)=fun _=>False:=by
  funext x;apply propext;exact⟨fun⟨b,h1,_⟩=>h1,fun h=>h.elim⟩
 have st:=Nd (m:=true) (base:=base) (Lw W0.heap.size fun _=>False) Rr (H:=fun t a V=>∃w,w.heap=(V0 W0).heap/\Za cx cy d n A4 w t a V) (b:=bM) (a:=⟨T,[]⟩) (s:=[.code (cut [9,10,12] Bh)])
  (fun t a V τ k h=>by
   obtain⟨w,e,rb,ob,gs,gm,g1,g2,g3,g4,g5,g6,g7,g8,g9,g10⟩:=h
   exact⟨{ w with tape:=τ,drawn:=k },e,rb,ob,gs,gm,g1,g2,g3,g4,g5,g6,g7,g8,g9,Ec g10 τ k⟩)
  (A23 hN) (fr':=bM.at ⟨T,[]⟩ [.code Bh]) (Hl hTR .nil (.cons (.code (A4t _ _)) .nil) rfl rfl)
  (fun τ k=>(Acd (a:=⟨T,[]⟩) hTs hT0 hT1 hT2 hT3 rfl hn h hp hf1 hf2 { V0 W0 with tape:=τ,drawn:=k }).mono fun t a V h=>⟨_,rfl,h⟩)
 rw[hh,Hn]at st
 refine st.bind ?_
 rintro L fr cs W1 ⟨B,x,τ,k,hg,⟨hxc,t,a1,hxf,w,hwe,hH⟩,hw,hf,hc,rfl,hn1,hm1⟩;rw[hxc]at hc;rw[hxf]at hf
 cases hc
 have hbl:∃w:World,w.heap=(V0 W0).heap/\Za cx cy d n A4 w t a1 (x.at τ k).V:=by
  obtain⟨rb,ob,gs,gm,g1,g2,g3,g4,g5,g6,g7,g8,g9,g10⟩:=hH
  exact⟨{ w with tape:=τ,drawn:=k },hwe,rb,ob,gs,gm,g1,g2,g3,g4,g5,g6,g7,g8,g9,Ec g10 τ k⟩
 clear hH hwe;obtain⟨w,hwe,hH⟩:=hbl;generalize (x.at τ k).V=V at hw hH;have et:t=[.code (.refuse "9"), .code (.seq (.refuse "10") mF)]:=by obtain⟨_,_,_,_,h,_⟩:=hH;exact h
 have ed:a1.defers=[]:=by obtain⟨_,_,_,_,_,_,h,_⟩:=hH;exact h
 subst et;obtain⟨e1,har,hds,htd,hk,hfn⟩:=J0 hf;obtain⟨d9,k',etd,hd9,hk'⟩:=P7 htd (by decide)
 obtain rfl:=Ag5 hd9;rw[ed]at hds;have hfd:fr.defers=[]:=by generalize fr.defers=q at hds;cases hds;rfl
 rw[etd,hfd]at e1;rw[e1];have hke:fr.kind≠.early:=by rw[hk];simp[bM,Go.Conc.base]
 have hlt:∀b,G2 (Xs W0.heap.size fun _=>False) B b->b<W1.heap.size:=WH.hot ⟨V,rfl,hw⟩
 refine Co.region hlt fun W2 hr2=>?_
 rw[Agu];have hlt2:=Ei hlt hr2
 refine .go (fun W3=>fr.at (Act.put ⟨fr.tmps,[]⟩ (some 48) (.chan (some W3.heap.size))) (.inRegion Sh [1] :: k')) (fun _=>[]) (fun W3=>W3.alloc (.chan 0 #[] false 0 0 false)) (fun _=>#[]) (fun _=>G2 (Xs W0.heap.size fun _=>False) B) (fun W3 hr3=>⟨A81 hke,?_⟩) fun W3 hr3=>.stop ?_
 ·have hlt3:=Ei hlt2 hr3
  refine⟨fun _ h=>h,fun _ h=>.inl h,fun b hb=>by simpa using Nat.lt_succ_of_lt (hlt3 b hb),by simp,fun b hb _=>?_,rfl,⟨rfl,rfl⟩,fun e he=>by simp at he⟩
  show(W3.heap.push _)[b]?=_
  rw[Aie,Aid (by omega)]
 ·have hr13:Bp (G2 (Xs W0.heap.size fun _=>False) B) (fun _=>False) W1 W3:=An hr2 hr3
  have hra:Bp (G2 (Xs W0.heap.size fun _=>False) B) (fun _=>False) W1 (W3.alloc (.chan 0 #[] false 0 0 false)):=by
   refine⟨Ai5 hr13.1 (by simp),fun b hb=>?_,hr13.2.2.1,hr13.2.2.2⟩
   have hb':b<W3.heap.size:=by
    rcases hb with hb|hb
    ·exact Ei hlt hr13 b hb
    ·exact hb.elim
   show(W3.heap.push _)[b]?=_
   rw[Aie,Aid (by omega)]
   exact hr13.2.1 b hb
  have hra:Bp (G2 (Xs W0.heap.size fun _=>False) B) (Ka (Xs W0.heap.size fun _=>False) B) W1 (W3.alloc (.chan 0 #[] false 0 0 false)):=by
   rw[Hn]
   exact hra
  have hsz:W0.heap.size<=W3.heap.size:=Ai5 hm1 hr13.1
  refine⟨B,{ V with tape:=W3.tape,drawn:=W3.drawn },{ w with tape:=W3.tape,drawn:=W3.drawn },fr,a1,⟨fr.tmps,[]⟩,k',W3.heap.size,rfl,rfl,Il hw hra,har,rfl,hk',hk,hfn,hwe,?_,rfl,fun x y hxy=>?_,?_,hsz⟩
  ·obtain⟨rb,ob,gs,gm,g1,g2,g3,g4,g5,g6,g7,g8,g9,g10⟩:=hH
   exact⟨rb,ob,gs,gm,g1,g2,g3,g4,g5,g6,g7,g8,g9,Ec g10 _ _⟩
  ·obtain⟨h1,h2⟩:=(hg.2 x y hxy).resolve_left id
   refine⟨by simpa [V0]using h1,h2,?_⟩
   have:=Ai9 (hw.ltW hxy) hr13.1
   omega
  ·show(W3.heap.push _)[W3.heap.size]?=_
   simp
end
section
open Go.RowKit Go.Conc Co Ok Lr Tl Bar
theorem A69 {t:Trace}{B c:Nat}(hs:∀op∈t,op.act.low B)(hc:B<=c):∀i x,touchAt t i=some x->x.loc≠.obj c:=by
 intro i a ha hla;obtain⟨x,hx,hxa⟩:=touch_of ha;have hlow:=hs x (Aj2 hx);obtain⟨loc,wr,kd⟩:=a
 have hlo:loc.low B:=by
  generalize x.act=act at hlow hxa
  cases act with
  | access e=>cases hxa;exact hlow
  | mark m=>cases m<;>first |(cases hxa;done) |(cases hxa;exact hlow)
  | _=>cases hxa
 dsimp only at hla;subst hla;have:c<B:=hlo
 omega
theorem Qn {a:Act}{d:Nat}{v:Value}(h:d<a.tmps.size):(a.put (some d) v).eval (.tmp d)=v:=by simp[Act.eval,Act.put,Aio,h]
theorem Fj {a:Act}{d j:Nat}{v:Value}(h:d≠j):(a.put (some d) v).eval (.tmp j)=a.eval (.tmp j):=by simp[Act.eval,Act.put,Aio,Ait,h]
theorem A06 {a:Act}{j:Nat}{v:Value}(h:a.tmps[j]?=some v):a.eval (.tmp j)=v:=by simp[Act.eval,Aio,h]
def J4 (ch v0 v1 v2 v3:Value)(a:Act):Act:=((((((a.put (some 48) ch).put (some 12) ch).put (some 49) ch).put (some 50) v0).put (some 51) v1).put (some 52) v2).put (some 53) v3
theorem A77 {ch v0 v1 v2 v3:Value}{a:Act}:(J4 ch v0 v1 v2 v3 a).tmps.size=a.tmps.size:=by simp[J4,Es]
theorem A5i {ch v0 v1 v2 v3:Value}{a:Act}{j:Nat}(h:j≠12 /\(j<48\/53<j)):(J4 ch v0 v1 v2 v3 a).tmps[j]?=a.tmps[j]?:=by
 unfold J4;rw[Cs (by omega),Cs (by omega),Cs (by omega),Cs (by omega),Cs (by omega),Cs (by omega),Cs (by omega)]
theorem Acp {ch v0 v1 v2 v3:Value}{a:Act}(h:a.tmps.size=71):(J4 ch v0 v1 v2 v3 a).tmps[12]?=some ch:=by
 unfold J4;rw[Cs (by decide),Cs (by decide),Cs (by decide),Cs (by decide),Cs (by decide)]
 exact Aic (by rw[Es];omega)
theorem Ks {ch v0 v1 v2 v3:Value}{a:Act}:(J4 ch v0 v1 v2 v3 a).defers=a.defers:=by simp only[J4,Act.put]
theorem Acr {ch v0 v1 v2 v3:Value}{a:Act}(h:a.tmps.size=71):(J4 ch v0 v1 v2 v3 a).eval (.tmp 49)=ch /\(J4 ch v0 v1 v2 v3 a).eval (.tmp 50)=v0 /\(J4 ch v0 v1 v2 v3 a).eval (.tmp 51)=v1 /\(J4 ch v0 v1 v2 v3 a).eval (.tmp 52)=v2 /\(J4 ch v0 v1 v2 v3 a).eval (.tmp 53)=v3:=by
 have hn:∀(a:Act) (d j:Nat) (v x:Value),d≠j->a.eval (.tmp j)=x ->(a.put (some d) v).eval (.tmp j)=x:=fun a d j v x e y=>(Fj e).trans y
 have hz:∀(a:Act) (d:Nat) (v:Value),a.tmps.size=71->d<71 ->(a.put (some d) v).eval (.tmp d)=v:=fun a d v e l=>Qn (by omega)
 have sz:∀(a:Act) (d:Nat) (v:Value),a.tmps.size=71 ->(a.put (some d) v).tmps.size=71:=fun a d v e=>Es.trans e
 unfold J4;have s1:=sz _ 48 ch h;have s2:=sz _ 12 ch s1;have s3:=sz _ 49 ch s2;have s4:=sz _ 50 v0 s3;have s5:=sz _ 51 v1 s4;have s6:=sz _ 52 v2 s5
 exact⟨hn _ _ _ _ _ (by decide) (hn _ _ _ _ _ (by decide) (hn _ _ _ _ _ (by decide) (hn _ _ _ _ _ (by decide) (hz _ _ _ s2 (by decide))))),hn _ _ _ _ _ (by decide) (hn _ _ _ _ _ (by decide) (hn _ _ _ _ _ (by decide) (hz _ _ _ s3 (by decide)))),hn _ _ _ _ _ (by decide) (hn _ _ _ _ _ (by decide) (hz _ _ _ s4 (by decide))),hn _ _ _ _ _ (by decide) (hz _ _ _ s5 (by decide)),hz _ _ _ s6 (by decide)⟩
theorem A3f {b':Frame}{a':Act}{e':Code}{c:Nat}{L:Nat->Prop}{W:World}{base:List Frame}{v0 v1 v2 v3:Value}(hk:b'.kind≠.early)(hs:a'.tmps.size=71)(h0:a'.tmps[0]?=some v0)(h1:a'.tmps[1]?=some v1)(h2:a'.tmps[2]?=some v2)(h3:a'.tmps[3]?=some v3)(hL:∀b,L b->b<W.heap.size) :
 Co Tryz.prog true base (fun x=>x=c) (fun L' fr cs W'=>L'=L/\cs=[]/\Bp L (fun x=>x=c) W W'/\fr=b'.at (J4 (.chan (some c)) v0 v1 v2 v3 a') (.inRegion Eo [5] :: [.code e'])) L (b'.at (a'.put (some 48) (.chan (some c))) (.inRegion Sh [1] :: [.code (.seq (.region 10 Eo false) e')])) [] W:=by
 obtain⟨o,ho,hop,hd,hg⟩:=Agk;obtain⟨p0,i0,j0,d0,g0⟩:=Aem;obtain⟨p1,i1,j1,d1,g1⟩:=Aen;obtain⟨p2,i2,j2,d2,g2⟩:=Aeo;obtain⟨p3,i3,j3,d3,g3⟩:=Aep;obtain⟨p4,i4,j4,d4,g4⟩:=Aeq
 refine Co.val ho hg hk (Ur hop) hL fun W1 r1=>?_
 rw[Qn (by omega),hd]
 have l1:=Ei hL r1
 refine Co.J5 l1 fun W2 r2=>?_
 have l2:=Ei l1 r2
 refine Co.ctl l2 (fun _=>stepG_seq) fun W3 r3=>?_
 have l3:=Ei l2 r3
 refine Co.region l3 fun W4 r4=>?_
 have l4:=Ei l3 r4;rw[Afa]
 refine Co.val i0 g0 hk (Ed j0) l4 fun W5 r5=>?_
 have l5:=Ei l4 r5;rw[Qn (by rw[Es];omega),d0]
 refine Co.val i1 g1 hk (Ed j1) l5 fun W6 r6=>?_
 have l6:=Ei l5 r6;rw[Fj (by decide),Fj (by decide),Fj (by decide),A06 h0,d1]
 refine Co.val i2 g2 hk (Ed j2) l6 fun W7 r7=>?_
 have l7:=Ei l6 r7;rw[Fj (by decide),Fj (by decide),Fj (by decide),Fj (by decide),A06 h1,d2]
 refine Co.val i3 g3 hk (Ed j3) l7 fun W8 r8=>?_
 have l8:=Ei l7 r8;rw[Fj (by decide),Fj (by decide),Fj (by decide),Fj (by decide),Fj (by decide),A06 h2,d3]
 refine Co.val i4 g4 hk (Ed j4) l8 fun W9 r9=>?_
 rw[Fj (by decide),Fj (by decide),Fj (by decide),Fj (by decide),Fj (by decide),Fj (by decide),A06 h3,d4]
 exact .stop ⟨rfl,rfl,An (An (An (An (An (An (An (An r1 r2) r3) r4) r5) r6) r7) r8) r9,rfl⟩
theorem Adi {p c:Nat}{F:Nat->Prop}{B:Lk}{V W:World}(hw:WR (Xs p F) B V W)(hp:∀y,¬B p y)(hc:∀x,¬B x c)(hV:∃t,V.heap[p]?=some (.cells #[] t))(hcW:c<W.heap.size)(hpN:Vp.prog.globals.size<=p)(hcN:Vp.prog.globals.size<=c):WR (Xs p F) (fun x y=>B x y \/(x=p/\y=c)) V W:=by
 have hle:Le B (fun x y=>B x y \/(x=p/\y=c)):=fun _ _ h=>.inl h
 refine{ tape:=hw.tape,drawn:=hw.drawn,os:=hw.os,output:=hw.output,fn:=?_,inj:=?_,Hm:=?_,live:=?_,Ip:=?_,dead:=?_,Vc:=hw.Vc,Rw:=hw.Rw,low:=?_,nV:=hw.nV,nW:=hw.nW }
 ·rintro b b₁ b₂ (h1 |⟨rfl,rfl⟩) (h2 |⟨h3,rfl⟩)
  ·exact hw.fn _ _ _ h1 h2
  ·subst h3;exact absurd h1 (hp _)
  ·exact absurd h2 (hp _)
  ·rfl
 ·rintro b₁ b₂ b' (h1 |⟨rfl,rfl⟩) (h2 |⟨rfl,h3⟩)
  ·exact hw.inj _ _ _ h1 h2
  ·subst h3;exact absurd h1 (hc _)
  ·exact absurd h2 (hc _)
  ·rfl
 ·intro g hg
  cases hg
 ·rintro b b' (h |⟨rfl,rfl⟩) hd hf
  ·obtain⟨o,o',h1,h2,h3⟩:=hw.live b b' h hd hf
   exact⟨o,o',h1,h2,h3.mono hle⟩
  ·exact absurd rfl hd
 ·rintro b b' (h |⟨rfl,rfl⟩) hd hf
  ·obtain⟨x,x',t,t',f,h1,h2,h3⟩:=hw.Ip b b' h hd hf
   exact⟨x,x',t,t',f,h1,h2,⟨h3.1.mono hle,h3.2⟩⟩
  ·exact absurd rfl hd
 ·rintro b b' (h |⟨rfl,rfl⟩) hd
  ·exact hw.dead b b' h hd
  ·exact⟨hV,hcW⟩
 ·rintro b b' (h |⟨rfl,rfl⟩)
  ·exact hw.low b b' h
  ·have h1:(Xs b F).N<=b:=hpN;have h2:(Xs b F).N<=b':=hcN
   omega
theorem A9d {p c:Nat}{F:Nat->Prop}{B:Lk}:G2 (Xs p F) (fun x y=>B x y \/(x=p/\y=c))=G2 (Xs p F) B:=by
 funext x
 apply propext
 constructor
 ·rintro⟨b,h |⟨rfl,rfl⟩,h2,h3⟩
  ·exact⟨b,h,h2,h3⟩
  ·exact absurd rfl h2
 ·rintro⟨b,h,h2,h3⟩
  exact⟨b,.inl h,h2,h3⟩
end
section
open Go.ConcN (sumTo)
open Go.RowKit Go.Conc Co Ok Lr Tl Bar
structure MS (p c m0:Nat)(F:Nat->Prop)(B:Lk)(V W:World)(a a':Act)(b':Frame)(s s':List Item):Prop where
 wr:WR (Xs p F) B V W
 fr:Ee (Xs p F) B (bM.at a s) (b'.at a' s')
 pc:B p c
 low:∀x y,B x y->m0<=y
theorem Qp {X:Cx}{B:Lk}{p p':Array Value}(h:AR X B p p'){i:Nat}{v:Value}(hv:p[i]?=some v)(hf:(∃k n m,v=.complex k n m)\/∃k n,v=.int k n):p'[i]?=some v:=by
 obtain⟨v',h1,h2⟩:=Ux h hv
 rcases hf with⟨k,n,m,rfl⟩ |⟨k,n,rfl⟩<;>(cases h2;exact h1)
theorem A17 {cx cy d n:Nat}{A4:Int}{ex ey:Nat}(hn:n<=8)(h:∀W,Calls Vp.prog 31 #[.complex .f32 cx cy,.int .i64 d,.int .i64 n] W fun e w'=>e=.returned (.bool true)/\W=w')(hp:∀W,Calls Vp.prog 32 #[.complex .f32 cx cy,.int .i64 d,.int .i64 n,.int .i64 n] W fun e w'=>e=.returned (.complex .f32 ex ey)/\W=w')
 (hf1:(FloatKind.f32.format.order ex 1090519040 == some .gt)=false) (hf2:(FloatKind.f32.format.order ey 1090519040 == some .gt)=false) {base:List Frame} {gs:Array Goroutine} {w:World} {sl:Option (Nat×Nat)} {t:Trace} {q:Nat->Nat}
 (hN:Vp.prog.globals.size<=w.heap.size) (h0:gs[0]?=some (G (Frame.enter Tryz.prog 15 (Wt cx cy d n A4) .normal) base)) (hL:Leavers Tryz.prog t gs q) (hP:Past (fun _=>False) w.heap.size t) :
 ∃gs' w' sl' t' q' B V ww b' a a' e' c L rb ob gS gM,Jz Tryz.prog gs w sl t gs' w' sl' t'/\gs'.size=gs.size+1/\gs'[0]?=some (G (b'.at a' (.inRegion Eo [] :: [.code e'])) base)/\gs'[gs.size]?=some (G (Zh (Ss c cx cy d n A4)) []) /\
  K0 Tryz.prog c 0 gs.size w.heap.size w gs' w' t' q' L (fun _=>False) (fun _=>False)/\L=G2 (Xs w.heap.size fun _=>False) B/\MS w.heap.size c w.heap.size (fun _=>False) B V w' a a' b' [.code mF] [.code e'] /\
  a.tmps.size=71/\a.tmps[8]?=some (.pointer (some ⟨rb,0,none⟩))/\a.tmps[11]?=some (.pointer (some ⟨ob,0,none⟩))/\a.tmps[12]?=some (.chan (some w.heap.size))/\a.defers=[]/\TX ww rb ob cx cy d n (n*n) 0 0 gS gM [] [] V:=by
 obtain⟨N1,gs1,fr1,cs1,w1,W1,sl1,t1,q1,L1,a1,a2,a3,a4,a5,a6,a7,a8,a9,a10⟩:=Jj (A6z (W0:=w) hn h hp hf1 hf2 hN (base:=base)) gs w sl t q h0 (Bv _ _ _) (fun _ h=>h.elim) hL hP
 obtain⟨B,V,ww,b',a,a',k',c,rfl,rfl,hw,har,had,htd,hbk,hbf,hwe,hH,rfl,hB,hch,hcw⟩:=a4;have hch1:w1.heap[c]?=some (.chan 0 #[] false 0 0 false):=by rw[<-a9 rfl];exact hch
 have hc1:c<w1.heap.size:=(Ai2.1 hch1).1;have hnL:¬G2 (Xs w.heap.size fun _=>False) B c:=fun⟨x,h1,_⟩=>(hB x c h1).2.2 rfl
 have al1:=a10 c hnL (A69 hP.seen hcw);obtain⟨rb,ob,gS,gM,g1,g2,g3,g4,g5,g6,g7,g8,g9,g10⟩:=hH;clear g1;have hlt1:∀b,G2 (Xs w.heap.size fun _=>False) B b->b<w1.heap.size:=fun b hb=>Ai9 (WH.hot ⟨V,rfl,hw⟩ b hb) a5.1
 obtain⟨e',rfl,hce⟩:∃e',k'=[.code (.seq (.region 10 Eo false) e')]/\Jy (Xs w.heap.size fun _=>False) mF e':=by
  cases htd with
  | cons hx hk =>
    cases hk
    cases hx with
    | code hc =>
      obtain⟨d10,e',ec,hd,he⟩:=hc;obtain rfl:=Aea (hd.resolve_left (by decide))
      exact⟨e',by rw[ec],he⟩
 have hke:b'.kind≠.early:=by rw[hbk];simp[bM,Go.Conc.base]
 have hs':a'.tmps.size=71:=by rw[<-har.1];exact g2
 obtain⟨N2,gs2,fr2,cs2,w2,W2,sl2,t2,q2,L2,b1,b2,b3,b4,b5,b6,b7,b8,b9,b10⟩:=Jj (A3f (c:=c) (base:=base) (e':=e') (W:=w1) hke hs' (Qp har g4 (.inl ⟨_,_,_,rfl⟩)) (Qp har g5 (.inr ⟨_,_,rfl⟩)) (Qp har g6 (.inr ⟨_,_,rfl⟩)) (Qp har g7 (.inr ⟨_,_,rfl⟩)) hlt1)
  gs1 w1 sl1 t1 q1 a3 (Bv _ _ _) (fun x hx=>by obtain rfl:x=c:=hx;exact hc1) a6 a7
 obtain⟨rfl,rfl,hr12,rfl⟩:=b4;have al2:=b10 c hnL al1;have hr2:Bp (G2 (Xs w.heap.size fun _=>False) B) (fun x=>x=c) w1 w2:=An hr12 b5
 have hch2:w2.heap[c]?=some (.chan 0 #[] false 0 0 false):=(hr2.2.1 c (.inr rfl)).trans hch1;obtain⟨N3,gs3,d3,sl3,t3,q3,c1,c2,c3,c4,c5,c6,d4,sl4,c7⟩:=Qv (P:=Tryz.prog) (sumTo gs2.size q2) gs2 w2 sl2 t2 q2 rfl b3 b6 b7;have al3:=c6 c al2;have hleft:=a8.trans b8
 obtain⟨gs4,ops,e1,e0,e2,e3,e4⟩:=A7g (B0:=w.heap.size) (w0:=w) (w:=w2.at d4) (c:=c) (L:=G2 (Xs w.heap.size fun _=>False) B) (sl:=sl4) c3 (Ad4 hke) c4 c5 ⟨0,false,hch2⟩ al3
  (fun x hx=>by
   have hx':=hx;obtain⟨y,hy,_⟩:=hx'
   exact⟨(hB y x hy).2.1,(hB y x hy).2.2,Ai9 (hlt1 x hx) hr2.1⟩) hcw
  ⟨hleft.size,fun x hx=>hleft.kept x hx (fun h=>h),hleft.tape,hleft.os⟩
 have hsz:gs3.size=gs.size:=c2.trans (b2.trans a2)
 have hrun:Jz Tryz.prog gs w sl t gs4 (w2.at d4) sl4 (t3++ops) :=
  (Jz.trans ⟨N1,a1⟩ (Jz.trans ⟨N2,b1⟩ ⟨N3,c1⟩)).trans (Jz.head (by rw[c7];exact e1) .refl)
 have hV:V.heap[w.heap.size]?=some (.cells #[] 0 (0,0)):=by
  have hsz:ww.heap.size=w.heap.size+1:=by rw[hwe];simp[V0]
  rw[g10.O.old.block w.heap.size (by omega),hwe]
  show(w.heap.push _)[w.heap.size]?=_
  rw[Aie,Aij rfl]
 have hw2:WR (Xs w.heap.size fun _=>False) B { V with tape:=w2.tape,drawn:=d4 } (w2.at d4):=by
  refine Il (W2:=w2.at d4) hw ?_
  rw[Hn]
  refine An a5 (Ak ?_ d4)
  exact⟨hr2.1,fun x hx=>hr2.2.1 x (hx.elim .inl fun h=>h.elim),hr2.2.2⟩
 have hw3:=Adi (c:=c) hw2 (fun y hy=>by have:=(hB _ _ hy).1;omega) (fun x hx=>(hB _ _ hx).2.2 rfl) ⟨0,hV⟩ (Ai2.1 hch2).1 hN (Ai5 hN hcw)
 have hle:Le B (fun x y=>B x y \/(x=w.heap.size/\y=c)):=fun _ _ h=>.inl h
 have hAR:AR (Xs w.heap.size fun _=>False) (fun x y=>B x y \/(x=w.heap.size/\y=c)) (J4 (.chan (some w.heap.size)) (.complex .f32 cx cy) (.int .i64 d) (.int .i64 n) (.int .i64 A4) a).tmps (J4 (.chan (some c)) (.complex .f32 cx cy) (.int .i64 d) (.int .i64 n) (.int .i64 A4) a').tmps:=by
  have hch:VR (Xs w.heap.size fun _=>False) (fun x y=>B x y \/(x=w.heap.size/\y=c)) (.chan (some w.heap.size)) (.chan (some c)):=.chan (.inr ⟨rfl,rfl⟩)
  unfold J4
  exact Hg (Hg (Hg (Hg (Hg (Hg (Hg (har.mono hle) _ hch) _ hch) _ hch) _ (.complex _ _ _)) _ (.int _ _)) _ (.int _ _)) _ (.int _ _)
 refine⟨gs4,w2.at d4,sl4,t3++ops,q3,fun x y=>B x y \/(x=w.heap.size/\y=c),{ V with tape:=w2.tape,drawn:=d4 },{ ww with tape:=w2.tape,drawn:=d4 },b',J4 (.chan (some w.heap.size)) (.complex .f32 cx cy) (.int .i64 d) (.int .i64 n) (.int .i64 A4) a,J4 (.chan (some c)) (.complex .f32 cx cy) (.int .i64 d) (.int .i64 n) (.int .i64 A4) a',e',c,G2 (Xs w.heap.size fun _=>False) B,rb,ob,gS,gM,hrun,by rw[e0,hsz],e2,?_,?_,A9d.symm,⟨hw3,?_,.inr ⟨rfl,rfl⟩,?_⟩,?_,?_,?_,?_,?_,Ec g10 _ _⟩
 ·rw[<-hsz,e3];obtain⟨z1,z2,z3,z4,z5⟩:=Acr (ch:=.chan (some c)) (v0:=.complex .f32 cx cy) (v1:=.int .i64 d) (v2:=.int .i64 n) (v3:=.int .i64 A4) hs';rw[z1,z2,z3,z4,z5]
  rfl
 ·rw[<-hsz];exact e4
 ·refine Hl hAR ?_ (.cons (.code hce) .nil) hbk hbf
  rw[Ks,Ks,g3,had]
  exact .nil
 ·rintro x y (hxy |⟨_,rfl⟩)
  ·exact(hB x y hxy).2.1
  ·exact hcw
 ·rw[A77];exact g2
 ·rw[A5i (by omega)];exact g8
 ·rw[A5i (by omega)];exact g9
 ·exact Acp g2
 ·rw[Ks];exact g3
end
section
open Go.RowKit Go.Conc Co Ok Lr Tl Bar
noncomputable def A1o:List Item:=[.code mZ,.inLoop mY,.inBlock 0,.code (.seq A3e .ret)]
def Ra (p c m0 cx cy d n N:Nat)(xs:List Nat)(ys:List Int)(R L:Nat->Prop)(fr:Frame)(cs:List Frame)(W:World):Prop :=
 ∃(F:Nat->Prop) (B:Lk) (V ww:World) (a a':Act) (b':Frame) (k':List Item) (rb ob gS gM:Nat),cs=[]/\fr=b'.at a' (.inRegion Kq [0,1] :: k')/\MS p c m0 F B V W a a' b' A1o k'/\MA rb ob (.chan (some p)) a /\
  TX ww rb ob cx cy d n (n*n) N N gS gM xs ys V/\L=G2 (Xs p F) B/\R=Ka (Xs p F) B
theorem MS.rely {p c m0:Nat}{F:Nat->Prop}{B:Lk}{V W W2:World}{a a':Act}{b':Frame}{s s':List Item}(h:MS p c m0 F B V W a a' b' s s')(hr:Bp (G2 (Xs p F) B) (Ka (Xs p F) B) W W2):MS p c m0 F B { V with tape:=W2.tape,drawn:=W2.drawn } W2 a a' b' s s' :=
 ⟨Il h.wr hr,h.fr,h.pc,h.low⟩
theorem MS.kind {p c m0:Nat}{F:Nat->Prop}{B:Lk}{V W:World}{a a':Act}{b':Frame}{s s':List Item}(h:MS p c m0 F B V W a a' b' s s'):b'.kind=bM.kind/\b'.fn=bM.fn/\AR (Xs p F) B a.tmps a'.tmps/\R5 (Xs p F) B a.defers a'.defers/\Rc (Xs p F) B s s':=by
 obtain⟨_,h1,h2,h3,h4,h5⟩:=J0 h.fr
 exact⟨h4,h5,h1,h2,h3⟩
theorem Abm {p c:Nat}{F:Nat->Prop}{B:Lk}{V W:World}(hw:WR (Xs p F) B V W)(hpc:B p c){q q':Array Value}(h:AR (Xs p F) B q q'){i:Nat}(hv:q[i]?=some (.chan (some p))):q'[i]?=some (.chan (some c)):=by
 obtain⟨v',h1,h2⟩:=Ux h hv
 cases h2 with
 | chan g=>rw[hw.fn _ _ _ hpc g];exact h1
theorem A24 {p c m0 cx cy d n N:Nat}{xs:List Nat}{ys:List Int}{F:Nat->Prop}{B:Lk}{V W:World}{a a':Act}{b':Frame}{s s':List Item}{base:List Frame}{ww:World}{rb ob gS gM:Nat}(h:MS p c m0 F B V W a a' b' s s')(hm:m0<=W.heap.size)
 (hh:∀τ k,HW Vp.prog s (H12 cx cy d n rb ob (.chan (some p)) gS gM N xs ys { ww with tape:=τ,drawn:=k }) a { V with tape:=τ,drawn:=k }) :
 Co Tryz.prog true base (Ka (Xs p F) B) (fun L fr cs W=>Gt Tryz.prog true base c (.recv O9) fr cs/\Ra p c m0 cx cy d n N xs ys (Ka (Xs p F) B) L fr cs W) (G2 (Xs p F) B) (b'.at a' s') [] W:=by
 refine(Nd (m:=true) (base:=base) (Lw p F) Rr (H:=fun t a V=>∃ww,H12 cx cy d n rb ob (.chan (some p)) gS gM N xs ys ww t a V) (fun t a V τ k h=>by
  obtain⟨w,h1,h2,h3⟩:=h
  exact⟨{ w with tape:=τ,drawn:=k },h1,h2,Ec h3 τ k⟩) h.wr h.fr fun τ k=>(hh τ k).mono fun t a V x=>⟨_,x⟩).bind ?_
 rintro L fr cs W1 ⟨B1,x,τ,k,hg,⟨hxc,t,a1,hxf,w,hH⟩,hw,hf,hc,rfl,hn1,hm1⟩;rw[hxc]at hc;rw[hxf]at hf
 cases hc
 obtain⟨rfl,hMA,hTX⟩:=hH;have hTX':TX { w with tape:=τ,drawn:=k } rb ob cx cy d n (n*n) N N gS gM xs ys (x.at τ k).V:=Ec hTX τ k
 clear hTX;generalize (x.at τ k).V=V1 at hw hTX';obtain⟨e1,har,hds,htd,hk,hfn⟩:=J0 hf;obtain⟨d12,k',etd,hd12,hk'⟩:=P7 htd (by decide)
 obtain rfl:=Aeb hd12;rw[etd]at e1;rw[e1];have hke:fr.kind≠.early:=by rw[hk];simp[bM,Go.Conc.base]
 have hpc:B1 p c:=hg.1 _ _ h.pc;have hIce:=Y2 h.wr hg
 have hMS:MS p c m0 F B1 V1 W1 a1 ⟨fr.tmps,fr.defers⟩ fr A1o k':=⟨hw,Hl har hds hk' hk hfn,hpc,fun x y hxy=>by
  rcases hg.2 x y hxy with h1 |⟨_,h1⟩
  ·exact h.low _ _ h1
  ·exact Ai5 hm h1⟩
 have hch:=Abm hw hpc har hMA.t54
 refine Co.region (WH.hot ⟨V1,rfl,hw⟩) fun W2 hr2=>?_
 rw[Afb];rw[<-hIce]at hr2
 refine .stop ⟨A4c hke (A06 hch),F,B1,_,{ w with tape:=W2.tape,drawn:=W2.drawn },a1,⟨fr.tmps,fr.defers⟩,fr,k',rb,ob,gS,gM,rfl,rfl,hMS.rely hr2,hMA,Ec hTX' _ _,rfl,hIce.symm⟩
end
section
open Go.RowKit Go.Conc Co Ok Lr Tl Bar
theorem A94 {X:Cx}{xs:List Nat}:∀v∈((xs.map D6).toArray:Array Value),Flat X v:=by
 intro v hv;rw[Ajb,Aj5]at hv;obtain⟨x,_,rfl⟩:=hv
 exact fun B=>.float _ _
theorem A95 {X:Cx}{xs:List Int}:∀v∈((xs.map Av).toArray:Array Value),Flat X v:=by
 intro v hv;rw[Ajb,Aj5]at hv;obtain⟨x,_,rfl⟩:=hv
 exact fun B=>.int _ _
theorem A93 {b':Frame}{a':Act}{k':List Item}{v:Value}:(b'.at a' (.inRegion Kq [0,1] :: k')).finish v=b'.at (a'.put (some 55) v) (.inRegion Kq [1] :: k'):=by
 obtain⟨o,ho,_,hd,_⟩:=A9x;rw[<-hd,Frame.finish_at,ho]
 rfl
theorem MA.Agn {rb ob:Nat}{ch v x:Value}{a:Act}(h:MA rb ob ch a):MA rb ob ch ((a.put (some 55) v).put (some 56) x):=by
 obtain⟨h1,h2,h3,h4,h5,h6⟩:=h
 refine⟨?_,?_,?_,?_,?_,h6⟩
 ·rw[Es,Es];exact h1
 all_goals rw[Cs (by decide),Cs (by decide)]
 ·exact h2
 ·exact h3
 ·exact h4
 ·exact h5
theorem Re {p c m0:Nat}{F:Nat->Prop}{B:Lk}{V W:World}{a a':Act}{b':Frame}{k':List Item}{base:List Frame}{Post:(Nat->Prop)->Frame->List Frame->World->Prop}{vV vW:Value}{y:Bool}
 (h:MS p c m0 F B V W a a' b' A1o k') (hs:a.tmps.size=71) (hv:VR (Xs p F) B vV vW)
 (k:∀(τ:Tape) (d:Nat) (W2:World),W.heap.size<=W2.heap.size->MS p c m0 F B { V with tape:=τ,drawn:=d } W2 ((a.put (some 55) (.tuple #[vV,.bool y])).put (some 56) (.bool y)) ((a'.put (some 55) (.tuple #[vW,.bool y])).put (some 56) (.bool y)) b' A1o k' ->
  Co Tryz.prog true base (Ka (Xs p F) B) Post (G2 (Xs p F) B) (b'.at ((a'.put (some 55) (.tuple #[vW,.bool y])).put (some 56) (.bool y)) k') [] W2) :
 Co Tryz.prog true base (Ka (Xs p F) B) Post (G2 (Xs p F) B) ((b'.at a' (.inRegion Kq [0,1] :: k')).finish (.tuple #[vW,.bool y])) [] W:=by
 obtain⟨hk,hfn,har,hds,htd⟩:=h.kind;have hke:b'.kind≠.early:=by rw[hk];simp[bM,Go.Conc.base]
 have hs':a'.tmps.size=71:=by rw[<-har.1];exact hs
 obtain⟨o,ho,hop,hd,hg⟩:=Aes;rw[A93];have l0:∀b,G2 (Xs p F) B b->b<W.heap.size:=WH.hot ⟨V,rfl,h.wr⟩
 refine Co.val ho hg hke (Tx (Qn (by omega)) hop) l0 fun W1 r1=>?_
 rw[hd]
 refine Co.J5 (Ei l0 r1) fun W2 r2=>?_
 have r:=An r1 r2
 refine k W2.tape W2.drawn W2 r.1 ⟨Il h.wr r,Hl (Hg (Hg har _ (.tuple (p:=#[vV,.bool y]) (p':=#[vW,.bool y]) rfl fun i v v' h1 h2=>?_)) _ (.bool y)) hds htd hk hfn,h.pc,h.low⟩
 match i with
 | 0=>cases h1;cases h2;exact hv
 | 1=>cases h1;cases h2;exact .bool y
 | i+2=>cases h1
theorem A79 {p c m0 cx cy d n N i:Nat}{xs:List Nat}{ys:List Int}{st:Nat->Nat->Int}{sm:Nat->Nat->Nat}{R L Lb R':Nat->Prop}{fr:Frame}{cs base:List Frame}{W1 Wb w:World}{v:Value}(hn:n<=8)(hN:N+n<=n*n)
 (hP:Ra p c m0 cx cy d n N xs ys R L fr cs W1) (hr:Bp L R W1 w) (row:Zb n st sm i v R' Wb) (hrb:Bp Lb R Wb w) (hsub:∀x,R' x->Lb x) (hdb:∀x,Lb x->¬L x/\¬R x/\x≠c/\m0<=x) (hNm:Vp.prog.globals.size<=m0) (hmw:m0<=w.heap.size) :
 cs=[]/\Co Tryz.prog true base (fun x=>R x\/R' x) (fun L fr cs W=>Gt Tryz.prog true base c (.recv O9) fr cs/\Ra p c m0 cx cy d n (N+n) (xs ++(List.range n).map (sm i)) (ys ++(List.range n).map (st i)) (fun x=>R x\/R' x) L fr cs W) L (fr.finish (.tuple #[v,.bool true])) [] w:=by
 obtain⟨F,B,V0,ww0,a,a',b',k',rb,ob,gS,gM,rfl,rfl,hMS,hMA,hTX,rfl,rfl⟩:=hP
 refine⟨rfl,?_⟩
 have hMS:=hMS.rely hr;have hTX:TX { ww0 with tape:=w.tape,drawn:=w.drawn } rb ob cx cy d n (n*n) N N gS gM xs ys { V0 with tape:=w.tape,drawn:=w.drawn }:=Ec hTX _ _
 generalize ({ V0 with tape:=w.tape,drawn:=w.drawn }:World)=V at hMS hTX
 generalize ({ ww0 with tape:=w.tape,drawn:=w.drawn }:World)=ww at hTX
 obtain⟨sb,mb,f,g,rfl,hne,hR',hs,hm⟩:=row;have rs:R' sb:=(hR' sb).2 (.inl rfl);have rm:R' mb:=(hR' mb).2 (.inr rfl);have hs:=(hrb.2.1 sb (.inl (hsub _ rs))).trans hs;have hm:=(hrb.2.1 mb (.inl (hsub _ rm))).trans hm;have hw:=hMS.wr
 have unl:∀s,R' s->∀b,¬B b s:=by
  intro s hs b hb;have:=hdb s (hsub s hs)
  by_cases hd:b=p
  ·subst hd;exact this.2.2.1 (hw.fn _ _ _ hb hMS.pc)
  by_cases hf:F b
  ·exact this.2.1 ⟨b,hb,hd,hf⟩
  ·exact this.1 ⟨b,hb,hd,hf⟩
 have l1:=A63 (N8 p F fun b=>F b\/b=V.heap.size) hw (unl sb rs) hs A94 (Ai5 hNm (hdb _ (hsub _ rs)).2.2.2) (fun _=>.rfl)
 have unl2:∀b,¬((fun b b'=>B b b' \/(b=V.heap.size/\b'=sb)) b mb):=by
  rintro b (hb |⟨_,hb⟩)
  ·exact unl mb rm b hb
  ·exact hne hb.symm
 have l2:=A63 (N8 p _ fun b=>(F b\/b=V.heap.size)\/b=V.heap.size+1) l1 unl2 hm A95 (Ai5 hNm (hdb _ (hsub _ rm)).2.2.2) (fun b=>by rw[Am0];exact .rfl)
 generalize hB2:(fun b b'=>(B b b' \/(b=V.heap.size/\b'=sb)) \/(b=({ V with heap:=V.heap.push (.cells (((List.range n).map (sm i)).map D6).toArray 74 (0,(((List.range n).map (sm i)).map D6).toArray.size)) }:World).heap.size/\b'=mb):Lk)=B2 at l2
 have l3:=l2;clear l2
 have hB2:∀x y,B2 x y↔(B x y \/(x=V.heap.size/\y=sb)) \/(x=V.heap.size+1/\y=mb):=fun x y=>by
  rw[<-hB2,Am0]
 have hle:Le B B2:=fun x y h=>(hB2 x y).2 (.inl (.inl h))
 have hpV:p<V.heap.size:=hw.Vc p rfl
 have eH:G2 (Xs p fun b=>(F b\/b=V.heap.size)\/b=V.heap.size+1) B2=G2 (Xs p F) B:=by
  funext x
  apply propext
  constructor
  ·rintro⟨b,h1,h2,h3⟩
   rcases(hB2 b x).1 h1 with(h |⟨rfl,_⟩) |⟨rfl,_⟩
   ·exact⟨b,h,h2,fun f=>h3 (.inl (.inl f))⟩
   ·exact absurd (.inl (.inr rfl)) h3
   ·exact absurd (.inr rfl) h3
  ·rintro⟨b,h1,h2,h3⟩;have:=hw.Vw h1
   refine⟨b,hle _ _ h1,h2,?_⟩
   rintro((h|rfl)|rfl)
   ·exact h3 h
   ·omega
   ·omega
 have eI:Ka (Xs p fun b=>(F b\/b=V.heap.size)\/b=V.heap.size+1) B2=fun x=>Ka (Xs p F) B x\/R' x:=by
  funext x
  apply propext
  constructor
  ·rintro⟨b,h1,h2,h3⟩
   rcases(hB2 b x).1 h1 with(h |⟨_,rfl⟩) |⟨_,rfl⟩
   ·have:=hw.Vw h
    rcases h3 with(h3|rfl)|rfl
    ·exact .inl ⟨b,h,h2,h3⟩
    ·omega
    ·omega
   ·exact .inr rs
   ·exact .inr rm
  ·rintro(⟨b,h1,h2,h3⟩|h)
   ·exact⟨b,hle _ _ h1,h2,.inl (.inl h3)⟩
   ·rcases(hR' x).1 h with rfl|rfl
    ·exact⟨V.heap.size,(hB2 _ _).2 (.inl (.inr ⟨rfl,rfl⟩)),fun e=>by have e:V.heap.size=p:=e;omega,.inl (.inr rfl)⟩
    ·exact⟨V.heap.size+1,(hB2 _ _).2 (.inr ⟨rfl,rfl⟩),fun e=>by have e:V.heap.size+1=p:=e;omega,.inr rfl⟩
 rw[<-eI,<-eH]
 have hMS2:MS p c m0 (fun b=>(F b\/b=V.heap.size)\/b=V.heap.size+1) B2 _ w a a' b' A1o k' :=
  ⟨l3,(hMS.fr.mono hle).cx (N8 p F _),hle _ _ hMS.pc,fun x y hxy=>by
   rcases(hB2 x y).1 hxy with(h |⟨_,rfl⟩) |⟨_,rfl⟩
   ·exact hMS.low _ _ h
   ·exact(hdb _ (hsub _ rs)).2.2.2
   ·exact(hdb _ (hsub _ rm)).2.2.2⟩
 have hTX2:TX ww rb ob cx cy d n (n*n) N N gS gM xs ys ((V.alloc (.cells (((List.range n).map (sm i)).map D6).toArray 74 (0,(((List.range n).map (sm i)).map D6).toArray.size))).alloc (.cells (((List.range n).map (st i)).map Av).toArray 3 (0,(((List.range n).map (st i)).map Av).toArray.size))):=(hTX.alloc _).alloc _;have hob:ob<V.heap.size:=(Ai2.1 hTX.O.blk).1;have hgS:gS<V.heap.size:=(hTX.S.lt gS rfl).2;have hgM:gM<V.heap.size:=(hTX.M.lt gM rfl).2
 refine Re (vV:=.agg #[.slice (some ⟨V.heap.size,0,none⟩) n n,.slice (some ⟨V.heap.size+1,0,none⟩) n n]) hMS2 hMA.size (.agg rfl fun j v v' h1 h2=>?_) fun τ k W2 hsz hM=>?_
 ·match j with
  | 0=>cases h1;cases h2;exact .slice _ _ ⟨⟨(hB2 _ _).2 (.inl (.inr ⟨rfl,rfl⟩)),fun e=>by have e:V.heap.size=p:=e;omega⟩,⟨rfl,Aj9 _⟩,rfl⟩
  | 1=>cases h1;cases h2;exact .slice _ _ ⟨⟨(hB2 _ _).2 (.inr ⟨rfl,rfl⟩),fun e=>by have e:V.heap.size+1=p:=e;omega⟩,⟨rfl,Aj9 _⟩,rfl⟩
  | j+2=>cases h1
 ·refine A24 (ww:=ww) (rb:=rb) (ob:=ob) (gS:=gS) (gM:=gM) hM (Ai5 hmw hsz) fun τ' k'=>?_
  refine Ac4 (sb:=V.heap.size) (mb:=V.heap.size+1) (fz:=(0,(((List.range n).map (sm i)).map D6).toArray.size)) (fu:=(0,(((List.range n).map (st i)).map Av).toArray.size)) hn hN hMA.Agn ?_ ?_ (Ec hTX2 τ' k') (by simp) (by simp) ?_ ?_ ⟨by omega,by omega⟩ ⟨by omega,by omega,by omega⟩
  ·rw[Cs (by decide)]
   exact Aic (by rw[hMA.size];decide)
  ·exact Aic (by rw[Es,hMA.size];decide)
  ·show((V.heap.push _).push _)[V.heap.size]?=_
   rw[Aie,Aid (by rw[Am0];omega),Aie,Aij rfl]
  ·show((V.heap.push _).push _)[V.heap.size+1]?=_
   rw[Aie,Aij (by rw[Am0])]
end
section
open Go.RowKit Go.Conc Co Ok Lr Tl Bar
theorem Nv {t:Array Value}{V:World}{rb:Nat}{v0 v1 v2 v3 v4 x:Value}(h8:t[8]?=some (.pointer (some ⟨rb,0,none⟩)))(h9:t[9]?=some x)
 (h:V.cell? ⟨rb,0,none⟩=some v0/\V.cell? ⟨rb,1,none⟩=some v1/\V.cell? ⟨rb,2,none⟩=some v2/\V.cell? ⟨rb,3,none⟩=some v3/\V.cell? ⟨rb,4,none⟩=some v4):(results Vp.fT t).run Vp.prog V=.ok (.tuple #[.agg #[v0,v1,v2,v3,v4],x]) V:=by
 obtain⟨c0,c1,c2,c3,c4⟩:=h;have hr:Vp.fT.results=#[.cell 8 35,.tmp 9]:=by rw[Vp.Nu];rfl
 unfold results;rw[hr];simp[go_sem,loadVar,Aio,h8,h9,c0,c1,c2,c3,c4]
def M8 (cx cy d n:Nat)(Cd:Bool)(xs:List Nat)(ys:List Int)(v:Value)(V:World):Prop :=
 if Cd then ∃gS gM,v=.tuple #[.agg (Bu cx cy d n (.slice (some ⟨gS,0,none⟩) (n*n) (n*n)) (.slice (some ⟨gM,0,none⟩) (n*n) (n*n))),.bool true]/\V.heap[gS]?=some (.cells (xs.map D6).toArray 74 (0,0))/\V.heap[gM]?=some (.cells (ys.map Av).toArray 3 (0,0))
 else v=.tuple #[.agg (Bu 0 0 0 0 (.slice none 0 0) (.slice none 0 0)),.bool false]
theorem A0y {cx cy d n:Nat}{Cd:Bool}{xs:List Nat}{ys:List Int}{w V:World}{t:List Item}{a:Act}(h:Q7 cx cy d n Cd xs ys w t a V) :
 ∃v,Frame.leaving Vp.prog { bM.at a t with mode:=.returning } V (.returned v)/\M8 cx cy d n Cd xs ys v V:=by
 obtain⟨rb,rest,_,hd,h8,h9,_,h⟩:=h
 cases Cd with
 | false =>
   rw[Aid (by simp)]at h
   exact⟨_,⟨rfl,hd,rfl,Vp.fT,Vp.Pk,Nv h8 h9 h.Aa⟩,rfl⟩
 | true =>
   rw[Aij rfl]at h;obtain⟨gS,gM,hb,hS,hM⟩:=h
   exact⟨_,⟨rfl,hd,rfl,Vp.fT,Vp.Pk,Nv h8 h9 hb.Aa⟩,gS,gM,rfl,Nr hS,Nr hM⟩
theorem Ry {cx cy d n:Nat}{Cd:Bool}{xs:List Nat}{ys:List Int}{w V:World}{t:List Item}{a:Act}(h:Q7 cx cy d n Cd xs ys w t a V)(τ:Tape)(k:Nat):Q7 cx cy d n Cd xs ys { w with tape:=τ,drawn:=k } t a { V with tape:=τ,drawn:=k }:=by
 obtain⟨rb,rest,h1,hd,h8,h9,h10,h⟩:=h
 refine⟨rb,rest,h1,hd,h8,h9,h10,?_⟩
 cases Cd with
 | false =>
   rw[Aid (by simp)]at h ⊢
   exact Iy h τ k
 | true =>
   rw[Aij rfl]at h ⊢;obtain⟨gS,gM,hb,hS,hM⟩:=h
   exact⟨gS,gM,Iy hb τ k,hS,hM⟩
theorem A0x {p cx cy d n:Nat}{Cd:Bool}{xs:List Nat}{ys:List Int}{F:Nat->Prop}{B:Lk}{V W:World}{fr:Frame}{a:Act}{s:List Item}{base:List Frame}(hw:WR (Xs p F) B V W)(hf:Ee (Xs p F) B (bM.at a s) fr)
 (hh:∀τ k,∃ww:World,HW Vp.prog s (Q7 cx cy d n Cd xs ys ww) a { V with tape:=τ,drawn:=k }) :
 Co Tryz.prog true base (Ka (Xs p F) B) (M6 (Xs p F) V.heap.size W.heap.size B (Fin Vp.prog (M8 cx cy d n Cd xs ys))) (G2 (Xs p F) B) fr [] W:=by
 refine(Nd (m:=true) (base:=base) (Lw p F) Rr (H:=fun t a V=>∃ww,Q7 cx cy d n Cd xs ys ww t a V) (fun t a V τ k ⟨w,h⟩=>⟨_,Ry h τ k⟩) hw hf fun τ k=>by
  obtain⟨ww,h⟩:=hh τ k
  exact h.mono fun t a V x=>⟨ww,x⟩).bind ?_
 rintro L fr1 cs W1 ⟨B1,x,τ,k,hg,⟨hxc,t,a1,hxf,ww,hH⟩,hw1,hf1,hc,rfl,hn1,hm1⟩;rw[hxc]at hc;rw[hxf]at hf1
 cases hc
 obtain⟨rb,rest,et,_⟩:=id hH;have hH2:=Ry hH τ k;obtain⟨e1,har,hds,htd,hk,hfn⟩:=J0 hf1
 obtain⟨k',etd,hk'⟩:∃k',fr1.todo=.code .ret :: k'/\Rc (Xs p F) B1 rest k':=by
  rw[et]at htd;generalize fr1.todo=q at htd
  cases htd with
  | cons hi hk =>
    cases hi with
    | code hc =>
      have hc:=hc
      exact⟨_,by rw[show _=Code.ret from hc],hk⟩
 rw[etd]at e1;rw[e1];have hIce:=Y2 hw hg;have l0:=WH.hot (X:=Xs p F) (B:=B1) ⟨(x.at τ k).V,rfl,hw1⟩
 refine Co.ctl (fr1:={ fr1.at ⟨fr1.tmps,fr1.defers⟩ (.code .ret :: k')with mode:=.returning }) (cs1:=[]) l0 (fun _=>stepG_ret') fun W2 hr2=>.stop ?_
 rw[<-hIce]at hr2;obtain⟨v,hv,hq⟩:=A0y hH
 refine⟨B1,⟨{ bM.at a1 t with mode:=.returning },[],x.V⟩,W2.tape,W2.drawn,hg,⟨rfl,v,hv,hq⟩,Il (V:=(x.at τ k).V) hw1 hr2,?_,.nil,rfl,hn1,Ai5 hm1 hr2.1⟩
 have:=hf1.Tt .returning;rw[e1]at this
 exact this
end
namespace Co
open Go.Conc Tl Lr Bar
theorem Ov {P:Program}{gs:Array Goroutine}{w w1:World}{sl:Option (Nat×Nat)}{t:Trace}{q:Nat->Nat}{fr fr1:Frame}{cs cs1:List Frame}{n:Array Event}{L L1 R:Nat->Prop}
 (h0:gs[0]?=some (G fr cs)) (hst:stepG P true (G fr cs) w=.go (G fr1 cs1) w1 n) (hdid:Did L R w L1 w1 n) (hR:∀b,R b->b<w.heap.size) (hL:Leavers P t gs q) (hP:Past (fun _=>False) w.heap.size t) :
 ∃gs' ops,runT P (crowd gs w sl) 0=(.next (crowd gs' w1 sl),ops)/\gs'.size=gs.size/\gs'[0]?=some (G fr1 cs1)/\Leavers P (t++ops) gs' q/\Past (fun _=>False) w1.heap.size (t++ops):=by
 have hrunT:=runT_crowd_go (P:=P) (sl:=sl) (i:=0) h0 (show stepG P (0 == 0) (G fr cs) w=_ from hst);have hlt:0<gs.size:=(Ai2.1 h0).1
 refine⟨_,_,hrunT,by simp,Aic (by simpa using hlt),⟨fun j x hj hx=>?_,fun j hj=>?_⟩,(hP.mono hdid.size).own fun e he=>Ng (hdid.evs e he) hdid.lt fun b hb=>Ai9 (hR b hb) hdid.size⟩
 ·have hne:0≠j:=by omega
  rw[Ai4 hne,Aj4]at hx;obtain⟨y,hy,rfl⟩:=Aif.1 hx;have hq:=hL.old j y hj hy;rw[woken_quitsD hq,Deaf_other t (by omega) _ (fun op hop=>by obtain⟨e,_,rfl⟩:=Go.Conc.mem_ofEvents hop;rfl)]
  exact hq
 ·rw[Deaf_other t (g':=0) (by simp at hj;omega) _ (fun op hop=>by obtain⟨e,_,rfl⟩:=Go.Conc.mem_ofEvents hop;rfl)]
  exact hL.above j (by simpa using hj)
end Co
section
open Go.RowKit Go.Conc Co Ok Lr Tl Bar
def rowsOf {α:Type}(n:Nat)(f:Nat->Nat->α)(i:Nat):List α:=(List.range i).flatMap fun j=>(List.range n).map (f j)
theorem Ii {α:Type}(n:Nat)(f:Nat->Nat->α)(i:Nat):rowsOf n f (i+1)=rowsOf n f i ++(List.range n).map (f i):=by
 unfold rowsOf;rw[List.range_succ,Anf];simp
structure Abe (p c m0 b cx cy d n:Nat)(st:Nat->Nat->Int)(sm:Nat->Nat->Nat)(w0:World)(base:List Frame)(i k:Nat)(gs:Array Goroutine)(w:World)(t:Trace)(q:Nat->Nat)(La Lb R:Nat->Prop)(fra frb:Frame)(csa csb:List Frame)(Wa Wb:World):Prop where
 A:Co Tryz.prog true base R (fun L fr cs W=>Gt Tryz.prog true base c (.recv O9) fr cs/\Ra p c m0 cx cy d n (i*n) (rowsOf n sm i) (rowsOf n st i) R L fr cs W) La fra csa Wa
 S:Pb c n st sm k Lb R frb csb Wb
 sit:K0 Tryz.prog c 0 b m0 w0 gs w t q La Lb R
 ga:gs[0]?=some (G fra (csa++base))
 gb:gs[b]?=some (G frb (csb++[]))
 ra:Bp La R Wa w
 rb:Bp Lb R Wb w
theorem Wh {p c m0 b cx cy d n:Nat}{st:Nat->Nat->Int}{sm:Nat->Nat->Nat}{w0:World}{base:List Frame}(hn:n<=8)(hNm:Vp.prog.globals.size<=m0):∀(k i:Nat),i+k=n->∀{gs:Array Goroutine} {w:World} {sl:Option (Nat×Nat)} {t:Trace} {q:Nat->Nat} {La Lb R:Nat->Prop} {fra frb:Frame} {csa csb:List Frame} {Wa Wb:World},
 Abe p c m0 b cx cy d n st sm w0 base i k gs w t q La Lb R fra frb csa csb Wa Wb ->
 ∃gs' w' sl' t' q' La' Lb' R' fra' frb' csa' csb' Wa' Wb',Jz Tryz.prog gs w sl t gs' w' sl' t'/\gs'.size=gs.size/\Abe p c m0 b cx cy d n st sm w0 base n 0 gs' w' t' q' La' Lb' R' fra' frb' csa' csb' Wa' Wb'
 | 0,i,hi,gs,w,sl,t,q,La,Lb,R,fra,frb,csa,csb,Wa,Wb,h=>by
   obtain rfl:i=n:=by omega
   exact⟨gs,w,sl,t,q,La,Lb,R,fra,frb,csa,csb,Wa,Wb,.refl,rfl,h⟩
 | k+1,i,hi,gs,w,sl,t,q,La,Lb,R,fra,frb,csa,csb,Wa,Wb,h=>by
   have hbz:(b == 0)=false:=by have:=h.sit.ne;simp;omega
   have hS:=h.S;unfold Pb at hS
   obtain⟨gs1,w1,sl1,t1,q1,La1,fra1,csa1,Wa1,Lb1,frb1,csb1,Wb1,v,m1,m2,m3,m4,m5,m6,m7,m8,m9⟩:=meet (a:=0) (b:=b) (baseb:=[]) (z:=O9)
    (KA:=fun L fr cs W=>Ra p c m0 cx cy d n (i*n) (rowsOf n sm i) (rowsOf n st i) R L fr cs W)
    (KB:=fun v L fr cs W=>∃R',Zb n st sm (n-(k+1)) v R' W /\(∀x,R' x->L x)/\∀W2,Bp (fun x=>L x/\¬R' x) (fun x=>R x\/R' x) W W2->Pb c n st sm k (fun x=>L x/\¬R' x) (fun x=>R x\/R' x) (fr.finish undef) cs W2)
    h.A (by rw[hbz];exact hS.mono fun L fr cs W ⟨v,z,x,y⟩=>⟨v,z,x,y⟩) (sl:=sl) h.sit h.ga h.gb h.ra h.rb
   obtain⟨R',hrow,hsub,hnext⟩:=m8;have s0:=m9 (fun _=>False) fun x hx=>hx.elim
   have s1:=m9 R' hsub;have hii:n-(k+1)=i:=by omega
   rw[hii]at hrow;have hle:(i+1)*n<=n*n:=Ai7 n (by omega)
   obtain⟨rfl,hA⟩:=A79 (base:=base) hn (by rw[Akc]at hle;exact hle) m7 m5 hrow m6 hsub (fun x hx=>by
    obtain⟨g1,g2,g3,_⟩:=s0.db x ⟨hx,id⟩
    exact⟨g1,fun y=>g2 (.inl y),g3,s0.low x (.inr (.inl ⟨hx,id⟩))⟩) hNm s0.kept.1
   rw[<-Ii,<-Ii,<-Akc]at hA
   have hrel:Bp (fun x=>Lb1 x/\¬R' x) (fun x=>R x\/R' x) Wb1 w1:=⟨m6.1,fun x hx=>m6.2.1 x (by
    rcases hx with hx|hx|hx
    ·exact .inl hx.1
    ·exact .inr hx
    ·exact .inl (hsub x hx)),m6.2.2⟩
   obtain⟨gs',w',sl',t',q',La',Lb',R2,fra',frb',csa',csb',Wa',Wb',n1,n2,n3⟩:=Wh hn hNm k (i+1) (by omega) (sl:=sl1)
    (⟨hA,hnext w1 hrel,s1,m3,m4,Bv _ _ _,Bv _ _ _⟩:Abe p c m0 b cx cy d n st sm w0 base (i+1) k gs1 w1 t1 q1 La1 (fun x=>Lb1 x/\¬R' x) (fun x=>R x\/R' x) _ _ [] csb1 w1 w1)
   exact⟨gs',w',sl',t',q',La',Lb',R2,fra',frb',csa',csb',Wa',Wb',m1.trans n1,n2.trans m2,n3⟩
end
section
open Go.ConcN (sumTo)
open Go.RowKit Go.Conc Co Ok Lr Tl Bar
theorem Yf {X:Cx}{n m m':Nat}{B0:Lk}{F:St->Prop}{L:Nat->Prop}{fr:Frame}{cs:List Frame}{W:World}(h:M6 X n m' B0 F L fr cs W)(hm:m<=m'):M6 X n m B0 F L fr cs W:=by
 obtain⟨B,x,τ,d,h1,h2,h3,h4,h5,h6,h7,h8⟩:=h
 exact⟨B,x,τ,d,⟨h1.1,fun b b' h=>(h1.2 b b' h).imp id fun y=>⟨y.1,Ai5 hm y.2⟩⟩,h2,h3,h4,h5,h6,h7,Ai5 hm h8⟩
def Uw (cx cy d n:Nat)(xs:List Nat)(ys:List Int)(m0:Nat)(v:Value)(W:World):Prop :=
 ∃gS gM,v=.tuple #[.agg (Bu cx cy d n (.slice (some ⟨gS,0,none⟩) (n*n) (n*n)) (.slice (some ⟨gM,0,none⟩) (n*n) (n*n))),.bool true]/\m0<=gS/\m0<=gM/\gS≠gM/\W.heap[gS]?=some (.cells (xs.map D6).toArray 74 (0,0))/\W.heap[gM]?=some (.cells (ys.map Av).toArray 3 (0,0))
theorem Wm {X:Cx}{B:Lk}{g l k:Nat}{v:Value}(h:VR X B (.slice (some ⟨g,0,none⟩) l k) v):∃g',B g g'/\¬X.D g/\v=.slice (some ⟨g',0,none⟩) l k:=by
 cases h with
 | @slice _ ad _ _ h =>
   obtain⟨⟨h1,h2⟩,⟨h3,_⟩,h4⟩:=h;obtain⟨x,y,z⟩:=ad;dsimp only at h1 h3 h4;subst h3 h4
   exact⟨x,h1,h2,rfl⟩
theorem Ab7 {p m0 cx cy d n:Nat}{F:Nat->Prop}{xs:List Nat}{ys:List Int}{B:Lk}{V W:World}{v v':Value}(hq:M8 cx cy d n true xs ys v V)(hv:VR (Xs p F) B v v')(hw:WR (Xs p F) B V W)(hl:∀x y,B x y->m0<=y)(hx:0<xs.length)(hy:0<ys.length):Uw cx cy d n xs ys m0 v' W:=by
 unfold M8 at hq;rw[Aij rfl]at hq;obtain⟨gS,gM,rfl,hS,hM⟩:=hq
 cases hv with
 | @tuple _ q hs hi =>
   obtain⟨q0,h0⟩:∃q0,q[0]?=some q0:=⟨_,Ai8 (by rw[<-hs];simp)⟩
   obtain⟨q1,h1⟩:∃q1,q[1]?=some q1:=⟨_,Ai8 (by rw[<-hs];simp)⟩
   have hq:q=#[q0,q1]:=by
    apply Ala
    intro i
    match i with
    | 0=>exact h0
    | 1=>exact h1
    | i+2=>rw[Al9 (by rw[<-hs];simp)];rfl
   have r1:=hi 1 _ _ rfl h1
   cases r1
   have r0:=hi 0 _ _ rfl h0;subst hq;clear hi h0 h1
   cases r0 with
   | @agg _ u hs' hi =>
     have z:∀i,i<5->∃x,u[i]?=some x:=fun i h=>⟨_,Ai8 (by rw[<-hs'];exact h)⟩
     obtain⟨u0,z0⟩:=z 0 (by decide)
     obtain⟨u1,z1⟩:=z 1 (by decide)
     obtain⟨u2,z2⟩:=z 2 (by decide)
     obtain⟨u3,z3⟩:=z 3 (by decide)
     obtain⟨u4,z4⟩:=z 4 (by decide)
     have hu:u=#[u0,u1,u2,u3,u4]:=by
      apply Ala
      intro i
      match i with
      | 0=>exact z0
      | 1=>exact z1
      | 2=>exact z2
      | 3=>exact z3
      | 4=>exact z4
      | i+5=>rw[Al9 (by rw[<-hs'];simp[Bu])];rfl
     have y0:=hi 0 _ _ rfl z0;have y1:=hi 1 _ _ rfl z1;have y2:=hi 2 _ _ rfl z2;obtain⟨gS',b1,d1,rfl⟩:=Wm (hi 3 _ _ rfl z3);obtain⟨gM',b2,d2,rfl⟩:=Wm (hi 4 _ _ rfl z4)
     cases y0
     cases y1
     cases y2
     subst hu;obtain⟨_,C1,w1,a1⟩:=Tw hw b1 d1 hS (by simpa using hx)
     obtain⟨_,C2,w2,a2⟩:=Tw hw b2 d2 hM (by simpa using hy)
     have e1:=Qk a1 (fun v hv=>by
      rw[Ajb,Aj5]at hv;obtain⟨x,_,rfl⟩:=hv
      exact .inl ⟨x,rfl⟩)
     have e2:=Qk a2 (fun v hv=>by
      rw[Ajb,Aj5]at hv;obtain⟨x,_,rfl⟩:=hv
      exact .inr ⟨x,rfl⟩)
     subst e1 e2
     refine⟨gS',gM',rfl,hl _ _ b1,hl _ _ b2,fun e=>?_,w1,w2⟩
     subst e;rw[w1]at w2;injection w2 with w2
     injection w2 with _ w2
     cases w2
end
section
open Go.RowKit
attribute [local go_sem ↓] Go.wp_at_zero Go.wp_at_succ
attribute [local go_sem] A7 A5
def Js {α:Type}(s:Nat)(f:Nat->Nat->α)(k l:Nat):List α:=rowsOf s f k ++(List.range l).map (f k)
theorem Yg {α:Type}(s:Nat)(f:Nat->Nat->α)(k:Nat):Js s f k 0=rowsOf s f k:=by unfold Js;simp
theorem Lp {α:Type}(s:Nat)(f:Nat->Nat->α)(k l:Nat):Js s f k l++[f k l]=Js s f k (l+1):=by unfold Js;rw[List.range_succ,Aj1,Al1];rfl
theorem Ns {α:Type}(s:Nat)(f:Nat->Nat->α)(k:Nat):Js s f k s=rowsOf s f (k+1):=by unfold Js;rw[Ii]
structure A8a (cx cy d s:Nat)(A4:Int)(ok:Nat->Nat->Bool)(b0 b1 b2 b3:Nat->Nat->Int)(px py:Nat->Nat->Nat)(st:Nat->Nat->Int)(sm:Nat->Nat->Nat):Prop where
 box:∀i j:Nat,i<s->j<s->∀W,Calls Vp.prog 45 #[.complex .f32 cx cy,.int .i64 d,.int .i64 i,.int .i64 j] W fun e w'=>e=.returned (.tuple #[.agg #[.int .i64 (b0 i j),.int .i64 (b1 i j),.int .i64 (b2 i j),.int .i64 (b3 i j)],.bool (ok i j)])/\Below W.heap.size W w'
 state:∀i j:Nat,i<s->j<s->ok i j=true->∀W,Calls Vp.prog 46 #[.agg #[.int .i64 (b0 i j),.int .i64 (b1 i j),.int .i64 (b2 i j),.int .i64 (b3 i j)],.int .i64 A4] W fun e w'=>e=.returned (.tuple #[.int .i64 (st i j),.bool true])/\Below W.heap.size W w'
 Ads:∀i j:Nat,i<s->j<s->∀W,Calls Vp.prog 48 #[.complex .f32 cx cy,.int .i64 d,.int .i64 i,.int .i64 j] W fun e w'=>e=.returned (.complex .f32 (px i j) (py i j))/\W=w'
 Hv:∀i j:Nat,i<s->j<s->ok i j=true->∀W,Calls Vp.prog 47 #[.complex .f32 (px i j) (py i j),.int .i64 A4] W fun e w'=>e=.returned (.float .f32 (sm i j))/\Aq W w'
 Agw:∀i j:Nat,sm i j<4294967296
 Agy:∀i j:Nat,-1<=st i j/\st i j<=1
def P8:Value:=.tuple #[.agg #[.complex .f32 0 0,.int .i64 0,.int .i64 0,.slice none 0 0,.slice none 0 0],.bool false]
def Abi (w:World)(cx cy:Nat)(d s:Nat)(ok:Nat->Nat->Bool)(st:Nat->Nat->Int)(sm:Nat->Nat->Nat)(e:Ending)(w':World):Prop :=
 Below w.heap.size w w' /\(((∃i j,i<s/\j<s/\ok i j=false)/\e=.returned P8) \/
  ((∀i j,i<s->j<s->ok i j=true)/\∃smv mkv,e=.returned (.tuple #[.agg #[.complex .f32 cx cy,.int .i64 d,.int .i64 s,smv,mkv],.bool true])/\Made w.heap.size (s*s) (rowsOf s sm s) (rowsOf s st s) smv mkv w'))
theorem Yx (cx cy d s:Nat)(A4:Int)(hd10:d<=10)(hs8:s<=8)(hpl:Az cx cy d s=true){ok:Nat->Nat->Bool}{b0 b1 b2 b3:Nat->Nat->Int}{px py:Nat->Nat->Nat}{st:Nat->Nat->Int}{sm:Nat->Nat->Nat}(C:A8a cx cy d s A4 ok b0 b1 b2 b3 px py st sm)(w:World) :
 Calls Vp.prog 18 #[.complex .f32 cx cy,.int .i64 d,.int .i64 s,.int .i64 A4] w (Abi w cx cy d s ok st sm):=by
 have R:=A8.new w (Bu 0 0 0 0 (.slice none 0 0) (.slice none 0 0)) 35;have HP:=Ai1 (fun w=>Ib cx cy d s w)
 rw[hpl]at HP;have HCV:=Ai1 C;clear C hpl;unfold Bu at R
 go_enter Vp.func18,Tryz.ntmps18
 go_wp2_with fail
 refine(HP.out _).mono ?_
 rintro e w1 ⟨rfl,hd⟩;have HR:=Ai1 (R.step (hd.below _));clear R hd;obtain⟨iF,hiF,hzF0,hzF1,hzF2⟩:=Ajw Vl;obtain⟨iI,hiI,hzI0,hzI1,hzI2⟩:=Ajw Po;have HT:=Ai1 (TM.start cx cy d s HR.out (Ai3 _));unfold Bu at HT;clear HR
 go_wp2
 generalize w1.heap.size+1+1=ob at *;generalize w1.heap.size+1=gm0 at *;generalize w1.heap.size=gs0 at *
 go_loopw [11] (fun i wr=>∃(k N gs cs gm cm:Nat),k<=s/\i=.int .i64 k/\Hid (N=k*s)/\Hid (∀i j,i<k->j<s->ok i j=true)/\Hid (TM w w.heap.size ob cx cy d s N N (rowsOf s sm k) (rowsOf s st k) (.slice (some ⟨gs,0,none⟩) N cs) (.slice (some ⟨gm,0,none⟩) N cm) wr)) (fun i _=>(s-intOf i).toNat)
 case atStart=>exact⟨0,0,gs0,0,gm0,0,by omega,rfl,(by show 0=0*s;simp),(fun i j h=>by omega),HT⟩
 case round =>
  obtain⟨k,N,gs,cs,gm,cm,hk,rfl,HN,HOK,HT⟩:=hrel;obtain⟨wo,rfl⟩:∃wo,wo=wr:=⟨_,rfl⟩
  by_cases hks:k<s
  ·go_wp2
   go_loopw [12] (fun j wr=>∃(l N gs cs gm cm:Nat),l<=s/\j=.int .i64 l/\Hid (N=k*s+l)/\Hid (∀j,j<l->ok k j=true)/\Hid (TM w w.heap.size ob cx cy d s N N (Js s sm k l) (Js s st k l) (.slice (some ⟨gs,0,none⟩) N cs) (.slice (some ⟨gm,0,none⟩) N cm) wr)) (fun j _=>(s-intOf j).toNat)
   case atStart=>exact⟨0,N,gs,cs,gm,cm,by omega,rfl,HN,(fun j h=>by omega),by rw[Yg,Yg];exact HT⟩
   case round =>
    clear HT HN;obtain⟨l,N,gs,cs,gm,cm,hl,rfl,HN,HOL,HT⟩:=hrel;clear wo;obtain⟨wo,rfl⟩:∃wo,wo=wr:=⟨_,rfl⟩
    by_cases hls:l<s
    ·have hN72:N<=72:=by
      have h1:k*s<=8*8:=Ajm (by omega) hs8
      have h2:=HN.out
      omega
     have HC:=Ai1 (HCV.out.box k l hks hls);have HST:=Ai1 (HCV.out.state k l hks hls);have HPT:=Ai1 (HCV.out.Ads k l hks hls);have HSM:=Ai1 (HCV.out.Hv k l hks hls);have hz:=HCV.out.Agw k l;obtain⟨y0,y1⟩:=HCV.out.Agy k l;obtain⟨p,ep⟩:∃p,b0 k l=p:=⟨_,rfl⟩;obtain⟨q,eq⟩:∃p,b1 k l=p:=⟨_,rfl⟩;obtain⟨r,er⟩:∃p,b2 k l=p:=⟨_,rfl⟩;obtain⟨u,eu⟩:∃p,b3 k l=p:=⟨_,rfl⟩;obtain⟨t,et⟩:∃p,ok k l=p:=⟨_,rfl⟩;obtain⟨x,ex⟩:∃p,px k l=p:=⟨_,rfl⟩;obtain⟨y,ey⟩:∃p,py k l=p:=⟨_,rfl⟩;obtain⟨z,ez⟩:∃p,sm k l=p:=⟨_,rfl⟩;obtain⟨sT,eT⟩:∃p,st k l=p:=⟨_,rfl⟩;rw[ep,eq,er,eu,et]at HC;rw[ep,eq,er,eu,et,eT]at HST;rw[ex,ey]at HPT;rw[ex,ey,ez,et]at HSM;rw[ez]at hz;rw[eT]at y0 y1;have HZ:=Ai1 ez;have HS:=Ai1 eT;have HT':=Ai1 et;clear ep eq er eu et ex ey ez eT
     go_wp2_with fail
     refine(HC.out _).mono ?_
     rintro e w2 ⟨rfl,hb⟩;have T:=HT.out.step hb;clear HT hb HC
     cases t with
     | false =>
       replace T:=T.alloc (.cells #[.int .i64 p,.int .i64 q,.int .i64 r,.int .i64 u] 93);obtain⟨c0,c1,c2,c3,c4⟩:=T.rc;obtain⟨f0,f1,f2,f3,f4⟩:=T.R.E7;have HB:=Ai1 T.old;clear T
       go_wp2
       exact Ai6 (v:=.tuple #[.agg #[.complex .f32 0 0,.int .i64 0,.int .i64 0,.slice none 0 0,.slice none 0 0],.bool false]) (by simp[results,Tryz.f18,go_sem,c0,c1,c2,c3,c4]) rfl ⟨I1 HB.out (Ai3 _) _ _ _ _ _,.inl ⟨⟨k,l,hks,hls,HT'.out⟩,rfl⟩⟩
     | true =>
       have HSTT:=Ai1 (HST.out rfl);have HSMM:=Ai1 (HSM.out rfl);clear HST HSM;have X:=A8.new w2 #[.int .i64 p,.int .i64 q,.int .i64 r,.int .i64 u] 93;have x0:=X.cell 0 _ rfl;have x1:=X.cell 1 _ rfl;have x2:=X.cell 2 _ rfl;have x3:=X.cell 3 _ rfl;have HT2:=Ai1 (T.alloc (.cells #[.int .i64 p,.int .i64 q,.int .i64 r,.int .i64 u] 93));clear X T
       go_wp2_with fail
       refine(HSTT.out _).mono ?_
       rintro e w3 ⟨rfl,hb⟩;have T3:=HT2.out.step hb;have hbase:=T3.old.size;obtain⟨-,-,-,k3,-⟩:=T3.oc;clear x0 x1 x2 x3 HT2 hb
       go_wp2_with fail
       go_region_law (first
        |(go_simp
          go_at_call 48
          refine(HPT.out _).mono ?_
          rintro e w4 ⟨rfl,rfl⟩;have T4:=T3.Vd (Aq.refl _).drew;obtain⟨-,-,-,k4,-⟩:=T4.oc)
        |(go_simp
          go_at_call 47
          refine(HSMM.out _).mono ?_
          rintro e w5 ⟨rfl,hd⟩;have T5:=T4.Vd hd;have hb5:=T5.old.size;obtain⟨-,-,-,k5,-⟩:=T5.oc;obtain⟨-,-,-,k5',-⟩:=(T5.alloc (.cells #[.float .f32 z] 74)).oc;clear hd)
        |(refine step_append_lies _ (by rfl) _ _ _ (by rfl) w.heap.size 74 iF _ 1 4 (Vp.Di Tryz.underlying33) hiF hzF0 hzF1 hzF2 rfl (by omega) _ N ((Js s sm k l).map D6) (by rfl) (T5.S.alloc _) ⟨w5.heap.size,0,none⟩ 1 1 [D6 z] (by rfl) (by rfl) (World.news_of_block (cs:=#[D6 z]) (t:=74) (fr:=(0,0)) (Ak6 w5 _)) (by simp[D6,Value.oneCell']) (by omega) (by unfold maxLen;omega) (by omega) (by simp;omega) (w5.heap.size+1) (by simp) ?_
          intro g6 c6 w6 hown hgrow _ _;obtain⟨T6,k6,f6⟩:=(T5.alloc _).Hv hz hown hgrow))
       all_goals
        have HT6:=Ai1 T6;obtain⟨-,-,-,-,k7⟩:=T6.oc;obtain⟨-,-,-,-,k8⟩:=(T6.alloc (.cells #[.int .i64 sT] 3)).oc;have hb6:=T6.old.size;clear T3 T4 T5 T6 k3 k4 k5 k5' k6 f6 hown hgrow;generalize w6.setCell ⟨ob,3,none⟩ (.slice (some ⟨g6,0,none⟩) (N+1) c6)=w7 at *
        go_wp2_with (at_builtin;refine wpList_append_lies _ rfl _ _ _ rfl w.heap.size 3 iI _ 1 8 (Vp.Di Tryz.underlying27) hiI hzI0 hzI1 hzI2 rfl (by omega) _ N ((Js s st k l).map Av) rfl (HT6.out.M.alloc _) ⟨w7.heap.size,0,none⟩ 1 1 [Av sT] rfl rfl (World.news_of_block (cs:=#[Av sT]) (t:=3) (fr:=(0,0)) (Ak6 w7 _)) (by simp[Av,Value.oneCell']) (by omega) (by unfold maxLen;omega) (by omega) (by simp;omega) (w7.heap.size+1) (by simp) ?_;intro g8 c8 w8 hown hgrow _ _;obtain⟨T8,k9,f9⟩:=(HT6.out.alloc _).mark ⟨y0,y1⟩ hown hgrow;have HT8:=Ai1 T8;clear T8 hown hgrow)
        go_roundw
        case rel=>exact⟨l+1,N+1,g6,c6,g8,c8,by omega,by go_num,(by show N+1=k*s +(l+1);have:=HN.out;omega),(fun j hj=>by
         by_cases e:j=l
         ·rw[e];exact HT'.out
         ·exact HOL.out j (by omega)),(by
         show TM _ _ _ _ _ _ _ _ _ (Js s sm k (l+1)) (Js s st k (l+1)) _ _ _
         rw[<-Lp,<-Lp,HZ.out,HS.out];exact HT8.out)⟩
        case measure=>simp[intOf];omega
    ·obtain rfl:l=s:=by omega
     go_wp2
     go_roundw
     case rel=>exact⟨k+1,N,gs,cs,gm,cm,by omega,by go_num,(by show N=(k+1)*l;rw[Akc];exact HN.out),(fun i j hi hj=>by
      by_cases e:i=k
      ·rw[e];exact HOL.out j hj
      ·exact HOK.out i j (by omega) hj),(by rw[<-Ns,<-Ns];exact HT)⟩
     case measure=>simp[intOf];omega
  ·obtain rfl:k=s:=by omega
   obtain⟨c0,c1,c2,c3,c4⟩:=HT.out.rc;obtain⟨f0,f1,f2,f3,f4⟩:=HT.out.R.E7;obtain⟨o0,o1,o2,o3,o4⟩:=HT.out.oc;have hne:=HT.out.ne
   go_wp2
   exact Ai6 (v:=.tuple #[.agg #[.complex .f32 cx cy,.int .i64 d,.int .i64 k,.slice (some ⟨gs,0,none⟩) N cs,.slice (some ⟨gm,0,none⟩) N cm],.bool true]) (by simp[results,Tryz.f18,go_sem,c0,c1,c2,c3,c4]) rfl ⟨I1 HT.out.old (Ai3 _) _ _ _ _ _,.inr ⟨HOK.out,_,_,rfl,HT.out.made HN.out _ _ _ _ _⟩⟩
end
end Go.Proofs.YtlfleicchbgcmaaGreat
